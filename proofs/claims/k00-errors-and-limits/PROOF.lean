import PyProof.Rows.All
import Wide.All
import OpenK.AllK
import Wide.FinOn
import KE.KIsAll
import HandS.ForMost
import HandS.Wide
import HandS.IsInst
import HandS.Walk
import HandS.Codes
import HandS.ForExc
import HandS.Style
import HandS.ExcInit
import HandS.ExcField
import HandS.ExcIs
import HandS.ExcValue
import HandS.RevRange
import HandS.Conv
import HandS.Deep
import HandS.Text
import HandS.More
import PySem.Challenge.RW_warycard_k00_errors_and_limits
set_option Elab.async false
set_option maxRecDepth 100000
set_option maxHeartbeats 4000000
namespace My
open PySem PySem.Spec PyProof.Rows L2
/-! ### readings -/
theorem OpR.imp' {X : Cx} {f : Value → Value → Sem Value} {r r' : R2} (h : OpR X f r) (i : ∀ x y H Q, r' x y H Q → r x y H Q) : OpR X f r' := fun pins s σ H x y u v Q I rx ry q => h pins s σ H x y u v Q I rx ry (i _ _ _ _ q)
theorem op_modP {X : Cx} : OpR X (binaryOp .Mod) (rI (fun _ j => 0 < j) fun i j => .int (i % j)) := OpR.imp' op_modN fun x y H Q ⟨i, j, e1, e2, hj, q⟩ => ⟨i, j, e1, e2, by have hj : 0 < j := hj; show j ≠ 0; omega, by
  have hj : 0 < j := hj
  have e : i.fmod j = i % j := Int.fmod_eq_emod_of_nonneg i (by omega)
  show Q (V.int (i.fmod j)) H
  rw [e]; exact q⟩
theorem rdSeq {t u : TS} {D : Ends} {σ : L2.St} {H : Hp} (h : t { D with nx := u D } σ H) : tSeq t u D σ H := h
/-- all that was tracked is kept but the list at a, which holds three ints -/
def Bag (H : Hp) (a : Addr) : Prop := ∃ x y z : Int, H a = some (.lst [.int x, .int y, .int z])
structure Mv (a : Addr) (H H' : Hp) : Prop where
  bag : Bag H' a
  old : ∀ b o, b ≠ a → H b = some o → H' b = some o
theorem Mv.refl {a : Addr} {H : Hp} (h : Bag H a) : Mv a H H := ⟨h, fun _ _ _ e => e⟩
theorem Mv.trans {a : Addr} {H H1 H2 : Hp} (h : Mv a H H1) (k : Mv a H1 H2) : Mv a H H2 := ⟨k.bag, fun b o n e => k.old b o n (h.old b o n e)⟩
theorem Mv.new {a p : Addr} {o : HO} {H H1 : Hp} (h : Mv a H H1) (n : H1 p = none) : Mv a H (upd H1 p o) := by
  obtain ⟨x, y, z, e⟩ := h.bag
  have ne : a ≠ p := fun q => by subst q; rw [n] at e; cases e
  exact ⟨⟨x, y, z, by rw [upd_ne ne]; exact e⟩, fun b u hb hu => by
    have := h.old b u hb hu
    rw [upd_ne (ne_of_none this n)]; exact this⟩
theorem Mv.ne {a p : Addr} {H H1 : Hp} (h : Mv a H H1) (n : H1 p = none) : p ≠ a := fun q => by
  obtain ⟨x, y, z, e⟩ := h.bag
  subst q; rw [n] at e; cases e
theorem Mv.free {a p : Addr} {H H1 : Hp} (h : Mv a H H1) (n : H1 p = none) : H p = none := by
  cases e : H p with
  | none => rfl
  | some o => rw [h.old p o (h.ne n) e] at n; cases n
theorem bag_ne {a p : Addr} {H : Hp} (h : Bag H a) (n : H p = none) : p ≠ a := fun q => by
  obtain ⟨x, y, z, e⟩ := h
  subst q; rw [n] at e; cases e
theorem sqL_of {K : PySem.W.Frag} {H : Hp} {a : Addr} {xs : List V} (h : H a = some (.lst xs)) : SqL K H a xs := .inl (.inl h)
theorem sqT_of {K : PySem.W.Frag} {H : Hp} {a : Addr} {xs : List V} (h : H a = some (.tup xs)) : SqT K H a xs := .inl (.inl h)
def rIntA : List V → Hp → VK → Prop := fun xs H Q => ∃ x, xs = [x] ∧ match x with
  | .int i => Q (.int i) H
  | .bl k => Q (.int (if k = true then 1 else 0)) H
  | _ => False
theorem call_intI {X : Cx} : CallR X (.type "int") rIntA := fun pins s σ H xs us Q I r ⟨x, e, q⟩ => by
  cases x with
  | int i => exact call_int1 pins s σ H xs us Q I r (.inl ⟨i, e, q⟩)
  | bl k => exact call_int1 pins s σ H xs us Q I r (.inr ⟨k, e, q⟩)
  | _ => exact False.elim q
/-- len of a list, of a tuple -/
def rLenL (K : PySem.W.Frag) : List V → Hp → VK → Prop := fun xs H Q => ∃ p ys, xs = [.ref p] ∧ SqL K H p ys ∧ Q (.int ys.length) H
def rLenT (K : PySem.W.Frag) : List V → Hp → VK → Prop := fun xs H Q => ∃ p ys, xs = [.ref p] ∧ SqT K H p ys ∧ Q (.int ys.length) H
theorem call_lenL {X : Cx} : CallR X (.builtin "len") (rLenL X.K) := fun pins s σ H xs us Q I r ⟨p, ys, e, h, q⟩ => call_len_seq pins s σ H xs us Q I r ⟨p, ys, e, .inl h, q⟩
theorem call_lenT {X : Cx} : CallR X (.builtin "len") (rLenT X.K) := fun pins s σ H xs us Q I r ⟨p, ys, e, h, q⟩ => call_len_seq pins s σ H xs us Q I r ⟨p, ys, e, .inr h, q⟩
theorem i_lenL {K : PySem.W.Frag} {H : Hp} {Q : VK} {p : Addr} {ys : List V} (h : SqL K H p ys) (q : Q (.int ys.length) H) : rLenL K [.ref p] H Q := ⟨p, ys, rfl, h, q⟩
theorem i_lenT {K : PySem.W.Frag} {H : Hp} {Q : VK} {p : Addr} {ys : List V} (h : SqT K H p ys) (q : Q (.int ys.length) H) : rLenT K [.ref p] H Q := ⟨p, ys, rfl, h, q⟩
theorem i_ixL {K : PySem.W.Frag} {H : Hp} {Q : VK} {p : Addr} {xs : List V} {i : Int} {v : V} (h : SqL K H p xs) (e : atI xs i = some v) (q : Q v H) : rIxL K (.ref p) (.int i) H Q := ⟨p, xs, i, v, rfl, rfl, h, e, q⟩
theorem i_ixT {K : PySem.W.Frag} {H : Hp} {Q : VK} {p : Addr} {xs : List V} {i : Int} {v : V} (h : SqT K H p xs) (e : atI xs i = some v) (q : Q v H) : rIxT K (.ref p) (.int i) H Q := ⟨p, xs, i, v, rfl, rfl, h, e, q⟩
theorem i_setL {H : Hp} {p : Addr} {xs : List V} {i : Int} {j : Nat} {v : V} {Q : Hp → Prop} (h : H p = some (.lst xs)) (e : ixN xs.length i = some j) (q : Q (upd H p (.lst (xs.set j v)))) : rSetL (.ref p) (.int i) v H Q := ⟨p, xs, i, j, rfl, rfl, h, e, q⟩
theorem i_lst {H : Hp} {xs : List V} {Q : VK} (hl : xs.length ≤ sizeLine) (q : ∀ p, H p = none → Q (.ref p) (upd H p (.lst xs))) : xs.length ≤ sizeLine ∧ ∀ p, H p = none → Q (.ref p) (upd H p (.lst xs)) := ⟨hl, q⟩
/-- an item at a drawn place of a written list -/
theorem at_of {α : Type} {xs : List α} {i : Int} (h0 : 0 ≤ i) (h1 : i < xs.length) : ∃ v, atI xs i = some v ∧ v ∈ xs := by
  obtain ⟨j, rfl⟩ := Int.eq_ofNat_of_zero_le h0
  have hi : j < xs.length := by omega
  exact ⟨xs[j], atI_nat (List.getElem?_eq_getElem hi), List.getElem_mem hi⟩
theorem pow18 : CPow 10 18 := ⟨by decide, by decide, by decide⟩
theorem cm_r {i j : Int} (h : decide (-(2 ^ 64) < j) && decide (j < 2 ^ 64) = true) : CMul i j := by
  simp only [Bool.and_eq_true, decide_eq_true_eq] at h
  exact .inr h
theorem cm_l {i j : Int} (h : decide (-(2 ^ 64) < i) && decide (i < 2 ^ 64) = true) : CMul i j := by
  simp only [Bool.and_eq_true, decide_eq_true_eq] at h
  exact .inl h
theorem i_isi {K : PySem.W.Frag} {H : Hp} {Q : VK} {x : V} {t c : String} {b : Bool} (ty : TyX K H x (.type t)) (hk : kitB t c = some b) (q : Q (.bl b) H) : rIsi K [x, .ty c] H Q := ⟨x, .ty c, .type t, .type c, b, rfl, .ty c, ty, kit_ty hk, q⟩
theorem ty_int {K : PySem.W.Frag} {H : Hp} {i : Int} : TyX K H (.int i) (.type "int") := .base (.int _)
theorem ty_bl {K : PySem.W.Frag} {H : Hp} {i : Bool} : TyX K H (.bl i) (.type "bool") := .base (.bl _)
theorem ty_str {K : PySem.W.Frag} {H : Hp} {i : Str} : TyX K H (.str i) (.type "str") := .base (.str _)
theorem ty_non {K : PySem.W.Frag} {H : Hp} : TyX K H .non (.type "NoneType") := .base .non
theorem kb_ii : kitB "int" "int" = some true := by decide +kernel
theorem kb_bi : kitB "bool" "int" = some true := by decide +kernel
theorem kb_ib : kitB "int" "bool" = some false := by decide +kernel
theorem kb_bb : kitB "bool" "bool" = some true := by decide +kernel
theorem pow17 : CPow 10 17 := ⟨by decide, by decide, by decide⟩
/-- for over range(n) -/
def rForR (lo : Int) (n : Nat) (g : TG) (tb : TS) : TS := fun D σ H => ∃ W : Nat → Nat → L2.St → Hp → Prop, (∃ m, W 0 m σ H) ∧ ∀ i m σ H, W i m σ H →
  ((Itr lo n).stop i H ∧ D.nx σ H) ∨ ((Itr lo n).go i H ∧ ∃ Nx : L2.St → Hp → Prop, (∀ σ' H', Nx σ' H' → ∃ m', m' < m ∧ W (i + 1) m' σ' H') ∧ ∀ x H', (Itr lo n).yld i H x H' → g x σ H' fun σ2 H2 => tb { D with nx := Nx, ct := Nx, bk := D.nx } σ2 H2)
theorem i_forR1 {ta : TA} {g : TG} {tb : TS} {D : Ends} {σ : L2.St} {H : Hp} (h : ta σ H fun vs H1 => ∃ j : Int, vs = [.int j] ∧ -(2 ^ 62) ≤ j ∧ j < 2 ^ 62 ∧ rForR 0 j.toNat g tb D σ H1) : tFor (iRng1 ta) g tb D σ H := h
theorem i_forR2 {ta : TA} {g : TG} {tb : TS} {D : Ends} {σ : L2.St} {H : Hp} (h : ta σ H fun vs H1 => ∃ i j : Int, vs = [.int i, .int j] ∧ (-(2 ^ 62) ≤ i ∧ i < 2 ^ 62 ∧ -(2 ^ 62) ≤ j ∧ j < 2 ^ 62) ∧ rForR i (j - i).toNat g tb D σ H1) : tFor (iRng2 ta) g tb D σ H := h
theorem i_loopR {lo : Int} {n : Nat} {j : Nat} {tb : TS} {D : Ends} {σ : L2.St} {H : Hp} (Pv : Nat → L2.St → Hp → Prop) (h0 : Pv 0 σ H)
    (hs : ∀ (i : Nat) σ H, i < n → Pv i σ H → tb { D with nx := Pv (i + 1), ct := Pv (i + 1), bk := D.nx } (σ.set j (some (.int (lo + i)))) H) (hd : ∀ σ H, Pv n σ H → D.nx σ H) : rForR lo n (gName j) tb D σ H := for_range Pv h0 hs hd
theorem i_else {c A B : Prop} [Decidable c] (h : ¬ c) (b : B) : if c then A else B := by rw [if_neg h]; exact b
theorem i_then {c A B : Prop} [Decidable c] (h : c) (a : A) : if c then A else B := by rw [if_pos h]; exact a
/-- two ways that meet -/
theorem i_both {c A B T : Prop} [Decidable c] (t : T) (h1 : c → T → A) (h2 : ¬ c → T → B) : if c then A else B := ite2 (fun h => h1 h t) (fun h => h2 h t)
theorem ty_tup {K : PySem.W.Frag} {H : Hp} {p : Addr} {xs : List V} (h : H p = some (.tup xs)) : TyX K H (.ref p) (.type "tuple") := .base (.tup h)
theorem ty_lst {K : PySem.W.Frag} {H : Hp} {p : Addr} {xs : List V} (h : H p = some (.lst xs)) : TyX K H (.ref p) (.type "list") := .base (.lst h)
theorem kb_ni : kitB "NoneType" "int" = some false := by decide +kernel
theorem kb_si : kitB "str" "int" = some false := by decide +kernel
theorem kb_li : kitB "list" "int" = some false := by decide +kernel
theorem kb_ti : kitB "tuple" "int" = some false := by decide +kernel
theorem kb_di : kitB "dict" "int" = some false := by decide +kernel
/-! ### loops by what is walked -/
def rForJ (J : It) (g : TG) (tb : TS) : TS := fun D σ H => ∃ W : Nat → Nat → L2.St → Hp → Prop, (∃ m, W 0 m σ H) ∧ ∀ i m σ H, W i m σ H →
  (J.stop i H ∧ D.nx σ H) ∨ (J.go i H ∧ ∃ Nx : L2.St → Hp → Prop, (∀ σ' H', Nx σ' H' → ∃ m', m' < m ∧ W (i + 1) m' σ' H') ∧ ∀ x H', J.yld i H x H' → g x σ H' fun σ2 H2 => tb { D with nx := Nx, ct := Nx, bk := D.nx } σ2 H2)
theorem tFor_J {wi : TI} {g : TG} {tb : TS} {D : Ends} {σ : L2.St} {H : Hp} : tFor wi g tb D σ H = wi σ H fun J H1 => rForJ J g tb D σ H1 := rfl
def rLcJ (J : It) (g : TG) (tt : TT) (te : TE) (vs : List Nat) : TE := fun σ H1 Q => ∀ D, H1 D = none → ∃ W : Nat → Nat → Hp → Prop, (∃ m, W 0 m (upd H1 D (.lst []))) ∧ ∀ i m H, W i m H →
  (J.stop i H ∧ Q (.ref D) H) ∨ (J.go i H ∧ ∃ Nx : Hp → Prop, (∀ H', Nx H' → ∃ m', m' < m ∧ W (i + 1) m' H') ∧ ∀ x H', J.yld i H x H' → g x (wipe σ vs) H' fun σ2 H2 => wipe σ2 vs = wipe σ vs ∧ tt σ2 H2 fun b H3 =>
    if b = true then te σ2 H3 fun y H4 => ∃ acc, H4 D = some (.lst acc) ∧ acc.length < sizeLine ∧ Nx (upd H4 D (.lst (acc ++ [y]))) else Nx H3)
theorem tLc_J {wi : TI} {g : TG} {tt : TT} {te : TE} {vs : List Nat} {σ : L2.St} {H : Hp} {Q : VK} : tLc wi g tt te vs σ H Q = wi σ H fun J H1 => rLcJ J g tt te vs σ H1 Q := rfl
theorem i_for {J : It} {n : Nat} {G : Hp → Prop} {Y : Nat → Hp → V → Hp → Prop} (w : Walk J n G Y) {j : Nat} {tb : TS} {D : Ends} {σ : L2.St} {H : Hp} (Pv : Nat → L2.St → Hp → Prop) (h0 : Pv 0 σ H) (hG : ∀ i σ H, i ≤ n → Pv i σ H → G H)
    (hs : ∀ i x σ H H', i < n → Pv i σ H → Y i H x H' → tb { D with nx := Pv (i + 1), ct := Pv (i + 1), bk := D.nx } (σ.set j (some x)) H') (hd : ∀ σ H, Pv n σ H → D.nx σ H) : rForJ J (gName j) tb D σ H := for_it w Pv h0 hG hs hd
theorem wipe_one {σ : L2.St} {j : Nat} {x : V} : wipe ((wipe σ [j]).set j (some x)) [j] = wipe σ [j] := by
  show ((σ.set j none).set j (some x)).set j none = σ.set j none
  rw [List.set_set, List.set_set]
def YL {α : Type} (l : List α) (r : α → V) : Nat → Hp → V → Hp → Prop := fun i H v H' => H' = H ∧ ∃ c, l[i]? = some c ∧ v = r c
/-- [e for x in ..], e without an effect -/
theorem i_lcL {α : Type} {J : It} {l : List α} {r : α → V} {G : Hp → Prop} (w : Walk J l.length G (YL l r)) {j : Nat} {te : TE} {σ : L2.St} {H : Hp} {Q : VK} (g : α → V) (hn : l.length < sizeLine) (hG : ∀ D ys, H D = none → G (upd H D (.lst ys)))
    (hs : ∀ c ∈ l, ∀ H1 (Q' : VK), Same H H1 → Q' (g c) H1 → te ((wipe σ [j]).set j (some (r c))) H1 Q') (q : ∀ D, H D = none → Q (.ref D) (upd H D (.lst (l.map g)))) : rLcJ J (gName j) tYes te [j] σ H Q := by
  intro D hD
  refine lc_it w (fun i H' => H' = upd H D (.lst ((l.take i).map g))) rfl (fun i H' _ e => by subst e; exact hG D _ hD) (fun i x H1 H2 hi e y => ?_) (fun H' e => by subst e; rw [List.take_length]; exact q D hD)
  obtain ⟨e2, c, hc, rfl⟩ := y
  subst e2
  refine ⟨wipe_one, hs c (List.mem_of_getElem? hc) H2 (fun y H4 => ∃ acc, H4 D = some (.lst acc) ∧ acc.length < sizeLine ∧ upd H4 D (.lst (acc ++ [y])) = upd H D (.lst ((l.take (i + 1)).map g))) (by subst e; intro b o h; rw [upd_ne (ne_of_none h hD)]; exact h) ?_⟩
  subst e
  refine ⟨_, upd_same, by rw [List.length_map, List.length_take]; omega, ?_⟩
  rw [upd_upd, List.take_add_one, hc, List.map_append]; rfl
/-- for x in ..: if not p: return False -/
theorem i_forall {α : Type} {J : It} {l : List α} {r : α → V} {G : Hp → Prop} (w : Walk J l.length G (YL l r)) {j : Nat} {tb : TS} {D : Ends} {σ : L2.St} {H : Hp} (p : α → Bool) (v : V) (hG : G H)
    (hs : ∀ c ∈ l, ∀ D' : Ends, (p c = true → D'.nx (σ.set j (some (r c))) H) → (p c = false → D'.rt v H) → tb D' (σ.set j (some (r c))) H) (h1 : l.all p = true → D.nx σ H ∧ ∀ u, D.nx (σ.set j u) H) (h2 : l.all p = false → D.rt v H) : rForJ J (gName j) tb D σ H := by
  refine i_for w (fun i σ' H' => H' = H ∧ (σ' = σ ∨ ∃ u, σ' = σ.set j u) ∧ ∀ c ∈ l.take i, p c = true) ⟨rfl, .inl rfl, by simp⟩ (fun i σ' H' _ h => by rw [h.1]; exact hG) ?_ ?_
  · rintro i x σ' H' H2 hi ⟨rfl, hσ, hp⟩ ⟨rfl, c, hc, rfl⟩
    have hm := List.mem_of_getElem? hc
    have es : σ'.set j (some (r c)) = σ.set j (some (r c)) := by
      rcases hσ with rfl | ⟨u, rfl⟩
      · rfl
      · rw [List.set_set]
    rw [es]
    refine hs c hm _ (fun hpc => ⟨rfl, .inr ⟨_, rfl⟩, fun d hd => ?_⟩) (fun hpc => h2 ?_)
    · rw [List.take_add_one, hc] at hd
      rcases List.mem_append.mp hd with h | h
      · exact hp d h
      · rw [List.mem_singleton.mp h]; exact hpc
    · rw [List.all_eq_false]
      exact ⟨c, hm, by rw [hpc]; simp⟩
  · rintro σ' H' ⟨rfl, hσ, hp⟩
    rw [List.take_length] at hp
    have h := h1 (List.all_eq_true.mpr hp)
    rcases hσ with rfl | ⟨u, rfl⟩
    · exact h.1
    · exact h.2 u
/-- [e for x in ..], e draws from the bag at a -/
theorem i_lcD {J : It} {n : Nat} {G : Hp → Prop} {Y : Nat → Hp → V → Hp → Prop} (w : Walk J n G Y) {a : Addr} {j : Nat} {te : TE} {σ : L2.St} {H : Hp} {Q : VK} (hB : Bag H a) (P : V → Prop) (hn : n < sizeLine) (hG : ∀ H', Mv a H H' → G H') (hY : ∀ i H x H', Y i H x H' → H' = H)
    (hs : ∀ i x H1 (Q' : VK), i < n → Y i H1 x H1 → Mv a H H1 → (∀ y H2, P y → Mv a H1 H2 → Q' y H2) → te ((wipe σ [j]).set j (some x)) H1 Q') (q : ∀ D H' ys, H D = none → Mv a H H' → H' D = some (.lst ys) → ys.length = n → (∀ y ∈ ys, P y) → Q (.ref D) H') : rLcJ J (gName j) tYes te [j] σ H Q := by
  intro D hD
  have nD := bag_ne hB hD
  refine lc_it w (fun i H' => Mv a H H' ∧ ∃ ys, H' D = some (.lst ys) ∧ ys.length = i ∧ ∀ y ∈ ys, P y) ⟨(Mv.refl hB).new hD, [], upd_same, rfl, fun _ h => nomatch h⟩ (fun i H' _ e => hG H' e.1) (fun i x H1 H2 hi e y => ?_) (fun H' e => ?_)
  · have e2 := hY i H1 x H2 y
    subst e2
    obtain ⟨mv, ys, e1, e2, e3⟩ := e
    refine ⟨wipe_one, hs i x H2 (fun y H4 => ∃ acc, H4 D = some (.lst acc) ∧ acc.length < sizeLine ∧ (Mv a H (upd H4 D (.lst (acc ++ [y]))) ∧ ∃ ys, upd H4 D (.lst (acc ++ [y])) D = some (.lst ys) ∧ ys.length = i + 1 ∧ ∀ y ∈ ys, P y)) hi y mv fun v H3 hv mv3 => ?_⟩
    refine ⟨ys, mv3.old D _ nD e1, by omega, ?_⟩
    have m3 := mv.trans mv3
    refine ⟨⟨?_, fun b o hb e => ?_⟩, ys ++ [v], upd_same, by simp [e2], fun y hy => ?_⟩
    · obtain ⟨x1, x2, x3, hx⟩ := m3.bag
      exact ⟨x1, x2, x3, by rw [upd_ne nD.symm]; exact hx⟩
    · rw [upd_ne (ne_of_none e hD)]; exact m3.old b o hb e
    · rcases List.mem_append.mp hy with h | h
      · exact e3 y h
      · rw [List.mem_singleton.mp h]; exact hv
  · obtain ⟨mv, ys, e1, e2, e3⟩ := e
    exact q D H' ys hD mv e1 e2 e3
theorem rdCut {t u : TS} {D : Ends} {σ : L2.St} {H : Hp} (Mid : L2.St → Hp → Prop) (h : t { D with nx := Mid } σ H) (k : ∀ σ' H', Mid σ' H' → u D σ' H') : C8.tCut t u D σ H := ⟨Mid, h, k⟩
theorem pow9 : CPow 10 9 := ⟨by decide, by decide, by decide⟩
theorem pow8 : CPow 10 8 := ⟨by decide, by decide, by decide⟩
theorem pow12 : CPow 10 12 := ⟨by decide, by decide, by decide⟩
theorem walk_rangeL {lo : Int} {n : Nat} : Walk (Itr lo n) (List.range n).length (fun _ => True) (YL (List.range n) fun i => .int (lo + i)) := by
  rw [List.length_range]
  exact walk_range.mono (fun _ h => h) fun i H x H' hi _ y => ⟨y.1, i, by rw [List.getElem?_range hi], y.2⟩
theorem i_app {H : Hp} {l : Addr} {xs : List V} {v : V} {Q : VK} (h : H l = some (.lst xs)) (hz : xs.length < sizeLine) (q : Q .non (upd H l (.lst (xs ++ [v])))) : rAppend (.ref l) [v] H Q := ⟨l, xs, v, rfl, rfl, h, hz, q⟩
theorem ty_app {K : PySem.W.Frag} {H : Hp} {l : Addr} {xs : List V} (h : SqL K H l xs) : tyV K "list" (.ref l) H := .inl ⟨rfl, xs, h⟩
theorem i_slL {K : PySem.W.Frag} {H : Hp} {a : Addr} {xs : List V} {lo hi : Option Int} {Q : VK} (h : SqL K H a xs) (q : ∀ p, H p = none → Q (.ref p) (upd H p (.lst (cutV xs lo hi)))) : rSlL K (.ref a) lo hi H Q := ⟨a, xs, rfl, h, q⟩
theorem i_cat {H : Hp} {l b : Addr} {xs zs : List V} {Q : VK} (h1 : H l = some (.lst xs)) (h2 : H b = some (.lst zs)) (hz : xs.length + zs.length ≤ sizeLine) (q : ∀ p, H p = none → Q (.ref p) (upd H p (.lst (xs ++ zs)))) : rCat (.ref l) (.ref b) H Q := ⟨l, b, xs, zs, rfl, rfl, h1, h2, hz, q⟩
theorem i_inL {K : PySem.W.Frag} {neg : Bool} {x : V} {H : Hp} {p : Addr} {xs : List V} {Q : VK} (h : SqL K H p xs ∨ SqT K H p xs) (h1 : flatV x = true) (h2 : xs.all flatV = true) (q : Q (.bl (if neg then !inV x xs else inV x xs)) H) : rIn K neg x (.ref p) H Q := ⟨p, xs, rfl, h, h1, h2, q⟩
theorem cut_take {xs : List V} {n : Nat} : cutV xs none (some (n : Int)) = xs.take n := by
  unfold cutV
  rw [HT.sIx_none, HT.sIx_nat]
  simp only [List.drop_zero, Nat.sub_zero]
  rw [Nat.min_comm, ← List.take_take, List.take_of_length_le (by rw [List.length_take]; omega)]
theorem cut_drop {xs : List V} {n : Nat} : cutV xs (some (n : Int)) none = xs.drop n := by
  unfold cutV
  rw [HT.sIx_none, HT.sIx_nat]
  by_cases h : n ≤ xs.length
  · rw [Nat.min_eq_left h, List.take_of_length_le (by rw [List.length_drop]; omega)]
  · rw [Nat.min_eq_right (by omega), List.drop_of_length_le (by omega), List.drop_of_length_le (by omega)]; simp
theorem line5 {n : Nat} (h : n ≤ 100000) : n ≤ sizeLine := Nat.le_trans h (by decide)
theorem line5' {n : Nat} (h : n ≤ 100000) : n < sizeLine := Nat.lt_of_le_of_lt h (by decide)
/-! ### the same rules with the written part named (for a comprehension's block) -/
theorem ix_listK (K : PySem.W.Frag) {X : Cx} (h : X.K = K := by rfl) : IxR X (rIxL K) := h ▸ ix_list
theorem ix_tupK (K : PySem.W.Frag) {X : Cx} (h : X.K = K := by rfl) : IxR X (rIxT K) := h ▸ ix_tup
theorem sl_listK (K : PySem.W.Frag) {X : Cx} (h : X.K = K := by rfl) : SlR X (rSlL K) := h ▸ sl_list
theorem sl_tupK (K : PySem.W.Frag) {X : Cx} (h : X.K = K := by rfl) : SlR X (rSlT K) := h ▸ sl_tup
theorem lenLK (K : PySem.W.Frag) {X : Cx} (h : X.K = K := by rfl) : CallR X (.builtin "len") (rLenL K) := h ▸ call_lenL
theorem lenTK (K : PySem.W.Frag) {X : Cx} (h : X.K = K := by rfl) : CallR X (.builtin "len") (rLenT K) := h ▸ call_lenT
theorem isiK (K : PySem.W.Frag) {X : Cx} (h : X.K = K := by rfl) : CallR X (.builtin "isinstance") (rIsi K) := h ▸ call_isi
theorem isiTK (K : PySem.W.Frag) {X : Cx} (h : X.K = K := by rfl) : CallR X (.builtin "isinstance") (rIsiT K) := h ▸ call_isiT
theorem in_seqK (K : PySem.W.Frag) {X : Cx} (h : X.K = K := by rfl) : OpR X (compareOp .In) (rIn K false) := h ▸ op_in_seq
theorem notIn_seqK (K : PySem.W.Frag) {X : Cx} (h : X.K = K := by rfl) : OpR X (compareOp .NotIn) (rIn K true) := h ▸ op_notIn_seq
theorem i_indexS {K : PySem.W.Frag} {H : Hp} {Q : VK} {p : Addr} {l : List Str} {s : Str} {j : Nat} (h : SqL K H p (l.map V.str)) (hj : l[j]? = some s) (hn : s ∉ l.take j) (q : Q (.int (j : Nat)) H) : rIndex K (.ref p) [.str s] H Q := by
  refine ⟨p, _, .str s, j, .str s, rfl, rfl, h, rfl, ?_, by rw [List.getElem?_map, hj]; rfl, by simp [eqV], ?_, q⟩
  · rw [List.all_map, List.all_eq_true]; intro x _; rfl
  · intro m z hm hz
    rw [List.getElem?_map] at hz
    cases e : l[m]? with
    | none => rw [e] at hz; cases hz
    | some t =>
      rw [e] at hz
      have hz : V.str t = z := Option.some.inj hz
      subst hz
      show (t == s) = false
      rw [beq_eq_false_iff_ne]
      intro et; subst et
      exact hn (List.mem_of_getElem? (by rw [List.getElem?_take_of_lt hm]; exact e))
theorem walk_listL {K : PySem.W.Frag} {a : Addr} {α : Type} {l : List α} {r : α → V} : Walk (Itl K a) l.length (fun H => SqL K H a (l.map r)) (YL l r) := by
  have w := walk_list (K := K) (a := a) (xs := l.map r)
  rw [List.length_map] at w
  exact w.mono (fun _ h => h) fun i H x H' hi _ y => ⟨y.1, l[i], List.getElem?_eq_getElem hi, by
    have := y.2
    rw [List.getElem?_map, List.getElem?_eq_getElem hi] at this
    exact (Option.some.inj this).symm⟩
theorem walk_tupL {K : PySem.W.Frag} {a : Addr} {α : Type} {l : List α} {r : α → V} : Walk (Itt K a) l.length (fun H => SqT K H a (l.map r)) (YL l r) := by
  have w := walk_tup (K := K) (a := a) (xs := l.map r)
  rw [List.length_map] at w
  exact w.mono (fun _ h => h) fun i H x H' hi _ y => ⟨y.1, l[i], List.getElem?_eq_getElem hi, by
    have := y.2
    rw [List.getElem?_map, List.getElem?_eq_getElem hi] at this
    exact (Option.some.inj this).symm⟩
theorem dpStrs {K : PySem.W.Frag} {H : Hp} : ∀ l : List Str, DpAll K H (l.map V.str) (l.map PyData.str)
  | [] => .nil
  | x :: l => .cons (.str x) (dpStrs l)
theorem dpInts {K : PySem.W.Frag} {H : Hp} : ∀ l : List Int, DpAll K H (l.map V.int) (l.map PyData.int)
  | [] => .nil
  | x :: l => .cons (.int x) (dpInts l)
theorem kb_tt : kitB "tuple" "tuple" = some true := by decide +kernel
theorem pow15 : CPow 10 15 := ⟨by decide, by decide, by decide⟩
theorem sc_ii {a b : Int} : scal (.int a) (.int b) = true := rfl
theorem sc_ss {a b : Str} : scal (.str a) (.str b) = true := rfl
theorem sc_bb {a b : Bool} : scal (.bl a) (.bl b) = true := rfl
theorem sc_in {a : Int} : scal (.int a) .non = true := rfl
theorem sc_ni {a : Int} : scal .non (.int a) = true := rfl
theorem sc_nn : scal .non .non = true := rfl
theorem sc_is {a : Int} {b : Str} : scal (.int a) (.str b) = true := rfl
theorem sc_si {a : Int} {b : Str} : scal (.str b) (.int a) = true := rfl
theorem sc_ns {b : Str} : scal .non (.str b) = true := rfl
theorem sc_sn {b : Str} : scal (.str b) .non = true := rfl
theorem sc_bn {b : Bool} : scal (.bl b) .non = true := rfl
theorem sc_nb {b : Bool} : scal .non (.bl b) = true := rfl
theorem sc_sb {b : Bool} {a : Str} : scal (.str a) (.bl b) = true := rfl
theorem sc_bs {b : Bool} {a : Str} : scal (.bl b) (.str a) = true := rfl
/-- a new list at p, all else kept -/
structure NewL (H H' : Hp) (p : Addr) (xs : List V) : Prop where
  free : H p = none
  same : Same H H'
  at_ : H' p = some (.lst xs)
theorem NewL.sq {K : PySem.W.Frag} {H H' : Hp} {p : Addr} {xs : List V} (n : NewL H H' p xs) : SqL K H' p xs := sqL_of n.at_
theorem NewL.set {H H' : Hp} {p : Addr} {xs ys : List V} (n : NewL H H' p xs) : NewL H (upd H' p (.lst ys)) p ys := ⟨n.free, fun b o e => by rw [upd_ne (ne_of_none e n.free)]; exact n.same b o e, upd_same⟩
theorem NewL.more {H H' H2 : Hp} {p : Addr} {xs : List V} (n : NewL H H' p xs) (s : Same H' H2) : NewL H H2 p xs := ⟨n.free, n.same.trans s, s _ _ n.at_⟩
theorem same_new {H : Hp} {p : Addr} {o : HO} (n : H p = none) : Same H (upd H p o) := fun b u e => by rw [upd_ne (ne_of_none e n)]; exact e
theorem cut_all {xs : List V} : cutV xs (some 0) none = xs := cut_drop (n := 0)
theorem pow14 : CPow 10 14 := ⟨by decide, by decide, by decide⟩
theorem ixN_of {n j : Nat} (h : j < n) : ixN n (j : Int) = some j := by
  unfold ixN
  rw [if_pos (by omega), if_pos (by omega)]; simp

/-! ### texts -/
def chr1 (c : Nat) : Str := ⟨#[c]⟩
def rLeC : R2 := fun x y H Q => ∃ c d, x = .str ⟨#[c]⟩ ∧ y = .str ⟨#[d]⟩ ∧ Q (.bl (decide (c ≤ d))) H
theorem op_leC {X : Cx} : OpR X (compareOp .LtE) rLeC := OpR.imp' op_le_str fun x y H Q ⟨c, d, e1, e2, q⟩ => ⟨⟨#[c]⟩, ⟨#[d]⟩, e1, e2, by
  have e : (!decide ((⟨#[d]⟩ : Str).cps.toList < (⟨#[c]⟩ : Str).cps.toList)) = decide (c ≤ d) := by
    show (!decide ([d] < [c])) = decide (c ≤ d)
    have h : ([d] < [c]) ↔ d < c := by
      rw [List.cons_lt_cons_iff]
      constructor
      · rintro (h | ⟨_, h⟩)
        · exact h
        · exact absurd h (by simp)
      · exact fun h => .inl h
    by_cases hc : c ≤ d
    · have : ¬ ([d] < [c]) := fun k => by have := h.mp k; omega
      rw [decide_eq_true hc, decide_eq_false this]; rfl
    · have : [d] < [c] := h.mpr (by omega)
      rw [decide_eq_false hc, decide_eq_true this]; rfl
  show Q (V.bl _) H
  rw [e]; exact q⟩
theorem i_leC {x y : V} {c d : Nat} {H : Hp} {Q : VK} (e1 : x = .str ⟨#[c]⟩) (e2 : y = .str ⟨#[d]⟩) (q : Q (.bl (decide (c ≤ d))) H) : rLeC x y H Q := ⟨c, d, e1, e2, q⟩
def rOrdC : List V → Hp → VK → Prop := fun xs H Q => ∃ c : Nat, xs = [.str ⟨#[c]⟩] ∧ Q (.int c) H
theorem call_ordC {X : Cx} : CallR X (.builtin "ord") rOrdC := fun pins s σ H xs us Q I r ⟨c, e, q⟩ => call_ord pins s σ H xs us Q I r ⟨⟨#[c]⟩, e, rfl, q⟩
theorem i_ordC {x : V} {c : Nat} {H : Hp} {Q : VK} (e1 : x = .str ⟨#[c]⟩) (q : Q (.int c) H) : rOrdC [x] H Q := ⟨c, by rw [e1], q⟩
def rInC (neg : Bool) : R2 := fun x y H Q => ∃ (c : Nat) (z : Str), x = .str ⟨#[c]⟩ ∧ y = .str z ∧ Q (.bl (if neg then !decide (c ∈ z.cps.toList) else decide (c ∈ z.cps.toList))) H
theorem op_inC {X : Cx} : OpR X (compareOp .In) (rInC false) := op_in_sign
theorem op_notInC {X : Cx} : OpR X (compareOp .NotIn) (rInC true) := op_notIn_sign
theorem i_inC {x y : V} {neg : Bool} {c : Nat} {z : Str} {H : Hp} {Q : VK} (e1 : x = .str ⟨#[c]⟩) (e2 : y = .str z) (q : Q (.bl (if neg then !decide (c ∈ z.cps.toList) else decide (c ∈ z.cps.toList))) H) : rInC neg x y H Q := ⟨c, z, e1, e2, q⟩
def rLenS' : List V → Hp → VK → Prop := fun xs H Q => ∃ z : Str, xs = [.str z] ∧ z.length ≤ sizeLine ∧ Q (.int z.length) H
theorem call_lenS {X : Cx} : CallR X (.builtin "len") rLenS' := call_len_str
theorem i_lenS {x : V} {z : Str} {H : Hp} {Q : VK} (e1 : x = .str z) (hz : z.length ≤ sizeLine) (q : Q (.int z.length) H) : rLenS' [x] H Q := ⟨z, by rw [e1], hz, q⟩
theorem i_ixS {z : Str} {i : Int} {c : Nat} {H : Hp} {Q : VK} (hz : z.length ≤ sizeLine) (e : atI z.cps.toList i = some c) (q : Q (.str ⟨#[c]⟩) H) : rIxS (.str z) (.int i) H Q := ⟨z, i, c, rfl, rfl, hz, e, q⟩
/-- a sign at a drawn place -/
theorem at_chr {z : Str} {i : Int} (h0 : 0 ≤ i) (h1 : i < z.length) : ∃ c, atI z.cps.toList i = some c ∧ c ∈ z.cps.toList := at_of h0 (by rw [Array.length_toList]; exact h1)
theorem walk_chars {z : Str} : Walk (Its z) z.cps.toList.length (fun _ => True) (YL z.cps.toList fun c => .str ⟨#[c]⟩) := by
  rw [Array.length_toList]
  exact walk_str.mono (fun _ h => h) fun i H x H' _ _ ⟨e, c, h, hv⟩ => ⟨e, c, by rw [Array.getElem?_toList]; exact h, hv⟩
def rJoin (K : PySem.W.Frag) : V → List V → Hp → VK → Prop := fun x xs H Q => ∃ a p, ∃ ys : List Str, x = .str a ∧ xs = [.ref p] ∧ (SqL K H p (ys.map V.str) ∨ SqT K H p (ys.map V.str)) ∧
      (ys.map (·.length)).sum + ys.length * a.length ≤ 16777216 ∧ Q (.str (Txt.join a ys)) H
theorem pe_joinR {X : Cx} {o e : Expr} {to te : TE} {apos pos : Pos} (ho : PE X o to) (he : PE X e te) (hs : starEach [e] X.env = [(false, eval e X.env)] := by rfl) (hbase : attributeBase o "join" X.env (eval o X.env) = eval o X.env := by rfl) (hline : (apos.endLine == pos.line) = true := by rfl) :
    PE X (.Call (.Attribute o "join" apos) [e] [] pos) (tM1 (rJoin X.K) to te) := pe_join ho he hs hbase hline
theorem kb_ss : kitB "str" "str" = some true := by decide +kernel
theorem kb_bs : kitB "bool" "str" = some false := by decide +kernel
theorem kb_ns : kitB "NoneType" "str" = some false := by decide +kernel
theorem kb_is : kitB "int" "str" = some false := by decide +kernel
theorem kb_ls : kitB "list" "str" = some false := by decide +kernel
theorem kb_ts : kitB "tuple" "str" = some false := by decide +kernel
theorem kb_ds : kitB "dict" "str" = some false := by decide +kernel
theorem i_all {K : PySem.W.Frag} {H : Hp} {Q : VK} {p : Addr} {bs : List Bool} (h : H p = some (.lst (bs.map V.bl))) (q : Q (.bl (bs.all id)) H) : rAll K [.ref p] H Q := ⟨p, bs, rfl, sqL_of h, q⟩
theorem strs_of {P : Str → Prop} : ∀ {ys : List V}, (∀ y ∈ ys, ∃ s, y = .str s ∧ P s) → ∃ zs : List Str, ys = zs.map V.str ∧ ∀ s ∈ zs, P s
  | [], _ => ⟨[], rfl, fun _ h => nomatch h⟩
  | y :: ys, h => by
    obtain ⟨s, rfl, hs⟩ := h y List.mem_cons_self
    obtain ⟨zs, rfl, hz⟩ := strs_of (ys := ys) fun y hy => h y (List.mem_cons_of_mem _ hy)
    exact ⟨s :: zs, rfl, fun t ht => by
      rcases List.mem_cons.mp ht with rfl | ht
      · exact hs
      · exact hz t ht⟩
theorem joinL_nil : ∀ ps : List (List Nat), TL.joinL [] ps = ps.flatten
  | [] => rfl
  | [p] => by simp [TL.joinL]
  | p :: q :: r => by
    show p ++ ([] ++ TL.joinL [] (q :: r)) = _
    rw [joinL_nil (q :: r)]; simp
theorem join_cl (ys : List Str) : (Txt.join Str.empty ys).cps.toList = (ys.map fun s => s.cps.toList).flatten := by
  rw [TL.join_eq]
  have e := TL.tl_join Str.empty ys
  have e2 : TL.tl Str.empty = [] := rfl
  rw [e2, joinL_nil] at e
  exact e
theorem cl_append (a b : Str) : (a ++ b).cps.toList = a.cps.toList ++ b.cps.toList := TL.tl_append a b
theorem cl_length (a : Str) : a.cps.toList.length = a.length := Array.length_toList
theorem len_append (a b : Str) : (a ++ b).length = a.length + b.length := by rw [← cl_length, cl_append, List.length_append, cl_length, cl_length]
theorem mem_cut {z : Str} {lo hi : Option Int} {c : Nat} (h : c ∈ (cutS z lo hi).cps.toList) : c ∈ z.cps.toList := by
  unfold cutS at h
  exact List.mem_of_mem_drop (List.mem_of_mem_take (by simpa using h))
theorem i_slS {z : Str} {lo hi : Option Int} {H : Hp} {Q : VK} (hz : z.length ≤ sizeLine) (q : Q (.str (cutS z lo hi)) H) : rSlS (.str z) lo hi H Q := ⟨z, rfl, hz, q⟩

/-! ### fields, methods and exceptions, the written part named -/
section
variable {X : Cx} {K : PySem.W.Frag}
theorem pe_fldK (K : PySem.W.Frag) {e : Expr} {ta : TE} {f : Str} {pos : Pos} (he : PE X e ta) (hb : attributeBase e f X.env (eval e X.env) = eval e X.env) (hK : X.K = K := by rfl) : PE X (.Attribute e f pos) (tFld K ta f) := by
  have h := pe_fld (pos := pos) he hb
  rw [hK] at h
  exact h
theorem ps_fldK (K : PySem.W.Frag) {o value : Expr} {ta tv : TE} {f : Str} {pos pos' : Pos} (ha : PE X o ta) (hv : PE X value tv) (hs : swapsWith value (some (.Attribute o f pos')) pos.line X.env = pure false) (hK : X.K = K := by rfl) : PS X (.Assign [.Attribute o f pos'] value pos) (sFld K ta tv f) := by
  have h := ps_fld (pos := pos) ha hv hs
  rw [hK] at h
  exact h
theorem ps_fldaugK (K : PySem.W.Frag) {o value : Expr} {ta tv : TE} {f : Str} {pos tpos : Pos} {op : Operator} {rd : V → V → Hp → VK → Prop} (ha : PE X o ta) (hv : PE X value tv) (hop : InOp X op rd) (hK : X.K = K := by rfl) : PS X (.AugAssign (.Attribute o f tpos) op value pos) (sFldAug K ta tv rd f) := by
  have h := ps_fldaug (f := f) (pos := pos) (tpos := tpos) ha hv hop
  rw [hK] at h
  exact h
theorem pe_bmK (K : PySem.W.Frag) {T id : String} {name : Str} {r : V → List V → Hp → VK → Prop} {o e : Expr} {es : List Expr} {to : TE} {t : TA} {apos cpos : Pos} (pa : PlainAttrs T) (slot : Slot T name id) (hty : typeOf (.builtin id) = pure (.type "method_descriptor")) (hm : MtR X id r) (ho : PE X o to) (ha : PA X (e :: es) t)
    (hbase : attributeBase o name X.env (eval o X.env) = eval o X.env := by rfl)
    (hfew : ((backTo cpos (starEach (e :: es) X.env)).all (fun x => !x.1) && (backToKw cpos (keywordEach [] X.env)).all (fun x => x.1.isSome)
      && decide ((e :: es).length + ([] : List Keyword).length + (if ([] : List Keyword).isEmpty then 0 else 1) < 30)) = true := by rfl)
    (hline : (apos.endLine == cpos.line) = true := by rfl) (hs : starEach (e :: es) X.env = (false, eval e X.env) :: starEach es X.env := by rfl) (hplain : (backTo cpos (starEach es X.env)).any (·.1) = false := by rfl) (hK : X.K = K := by rfl) :
    PE X (.Call (.Attribute o name apos) (e :: es) [] cpos) (tBM K T r to t) := by
  have h := pe_bm pa slot hty hm ho ha hbase hfew hline hs hplain
  rw [hK] at h
  exact h
theorem pe_bm0K (K : PySem.W.Frag) {T id : String} {name : Str} {r : V → List V → Hp → VK → Prop} {o : Expr} {to : TE} {apos cpos : Pos} (pa : PlainAttrs T) (slot : Slot T name id) (hty : typeOf (.builtin id) = pure (.type "method_descriptor")) (hm : MtR X id r) (ho : PE X o to)
    (hbase : attributeBase o name X.env (eval o X.env) = eval o X.env := by rfl) (hline : (apos.endLine == cpos.line) = true := by rfl) (hK : X.K = K := by rfl) : PE X (.Call (.Attribute o name apos) [] [] cpos) (tBM0 K T r to) := by
  have h := pe_bm0 pa slot hty hm ho hbase hline
  rw [hK] at h
  exact h
/-- o.m(..) that may raise, what is raised wished for at the caller's slots -/
def tMethS (C : Addr) (m : Str) (sp : Sp) (E : L2.St → XK) (ta : TE) (t : TA) : TE := fun σ H Q => ta σ H fun x H1 => ∃ a dx fs, x = .ref a ∧ H1 a = some (.ins C dx fs) ∧ fs.lookup m = none ∧ t σ H1 fun vs H2 => sp (x :: vs) H2 Q (E σ)
variable {CX : CXT} {k : Nat} {f C : Addr} {fd : FuncData} {ps : List Str} {sp : Sp} {E : L2.St → XK} {m : Str} {pos apos : Pos} {e o : Expr} {es : List Expr} {ta : TE} {t : TA}
theorem pe_methS {pl : Sem Bool} (he : PE X o ta) (c : Cls X.K C) (hm : Meth X.K C m f) (F : FnOk X.prog X.w X.K X.mg X.base CX k f fd ps sp) (hr : Room k X.A) (hb : Binds X.K fd ps []) (hx : ∀ σ, PassesAt CX X σ (E σ)) (ha : PA X (e :: es) t)
    (hst : starEach (e :: es) X.env = (false, eval e X.env) :: starEach es X.env := by rfl) (hpl : (backTo pos (starEach es X.env)).any (·.1) = false := by rfl)
    (ht : eval (.Call (.Attribute o m apos) (e :: es) [] pos) X.env = (do
      let ov ← eval o X.env
      standAt apos.atName
      let (f, first) ← holding [ov] (getMethod ov m pl)
      callWith pos f first (backTo pos (starEach (e :: es) X.env)) (backToKw pos (keywordEach [] X.env))) := by rfl) :
    PE X (.Call (.Attribute o m apos) (e :: es) [] pos) (tMethS C m sp E ta t) := by
  refine ⟨fun pins s σ H Q I h => ?_⟩
  refine PySem.W.methodCall_KW (pl := pl) (thn (he.run pins s σ H _ I h) fun u s1 ⟨x, H1, I1, rx, a, dx, fs, ex, ea, l, q⟩ => ?_) ht
  subst ex
  obtain rfl : u = Value.ref a := rx
  refine getmeth_ok I1 ea c hm l ?_
  refine PySem.W.callWith_K (first := [.ref a]) (h₀ := X.base) I.ok.mod.kin hm.kp (thn (ha.run pos pins s1 σ H1 _ I1 q) fun us s2 ⟨vs, H2, I2, r, q2⟩ => ⟨I2.kIn, ?_⟩) hst hpl
  exact run_fnS (us := .ref a :: us) (vs := .ref a :: vs) F hr hb (hx σ) I2 (.cons rfl r) q2
theorem pe_meth0S {pl : Sem Bool} (he : PE X o ta) (c : Cls X.K C) (hm : Meth X.K C m f) (F : FnOk X.prog X.w X.K X.mg X.base CX k f fd ps sp) (hr : Room k X.A) (hb : Binds X.K fd ps []) (hx : ∀ σ, PassesAt CX X σ (E σ))
    (ht : eval (.Call (.Attribute o m apos) [] [] pos) X.env = (do
      let ov ← eval o X.env
      standAt apos.atName
      let (f, first) ← holding [ov] (getMethod ov m pl)
      callWith pos f first (backTo pos (starEach [] X.env)) (backToKw pos (keywordEach [] X.env))) := by rfl) :
    PE X (.Call (.Attribute o m apos) [] [] pos) (tMethS C m sp E ta tNil) := by
  refine ⟨fun pins s σ H Q I h => ?_⟩
  refine PySem.W.methodCall_KW (pl := pl) (thn (he.run pins s σ H _ I h) fun u s1 ⟨x, H1, I1, rx, a, dx, fs, ex, ea, l, q⟩ => ?_) ht
  subst ex
  obtain rfl : u = Value.ref a := rx
  refine getmeth_ok I1 ea c hm l ?_
  exact PySem.W.callWith_K0 (first := [.ref a]) I1.kIn hm.kp (run_fnS (us := [.ref a]) (vs := [.ref a]) F hr hb (hx σ) I1 (.cons rfl .nil) q)
theorem pe_call0S {x : Str} {p : Pos} (F : FnOk X.prog X.w X.K X.mg X.base CX k f fd ps sp) (hr : Room k X.A) (hg : Gl X x) (hm : X.mg x = some (.ref f)) (hk : PySem.W.keepIn X.K (.ref f) = true) (hb : Binds X.K fd ps []) (hx : ∀ σ, PassesAt CX X σ (E σ))
    (hdb : (x == ("__debug__" : Str)) = false := by decide) : PE X (.Call (.Name x p) [] [] pos) (tCallS sp E tNil) := by
  refine ⟨fun pins s σ H Q I h => ?_⟩
  refine wpAny_Call_Name_kw (ld_glob I hg hm ?_ hdb)
  exact PySem.W.callWith_K0 I.kIn hk (run_fnS (us := []) F hr hb (hx σ) I .nil h)
/-- X(), X an own exception class without own __init__ -/
theorem pmk_own0 {C : Addr} {bmB : List Value} {B newId initId : String} {x : Str} {p pos : Pos} (F : ExcBaseFacts B newId initId bmB) (q : PySem.W.excIn X.K C bmB newId = true) (gC : X.mg x = some (.ref C))
    (kC : PySem.W.keepIn X.K (.ref C) = true) (r : Raises X (.ref C)) (hg : Gl X x) (hdb : (x == ("__debug__" : Str)) = false := by decide) :
    PMk X (.Call (.Name x p) [] [] pos) (fun _ H Q => Q (.ref C) none H) := by
  intro pins s σ H Q I h
  refine wpAny_Call_Name_kw (ld_glob I hg gC ?_ hdb)
  refine PySem.W.callWith_K0 I.kIn kC ?_
  show wpAny _ _ (call (.ref C) []) _ _ _
  obtain ⟨bm, N, nm, qn, bs, hdct, sn, sub, ab, col, dd, k0, k1, k2, k3, k5, mN, hC, hN, hni, T⟩ := exc_obj I.kIn q
  refine wpAny_call_exc_subT F T hC hN hni (fun h' e hm => ?_) (Nat.zero_le _)
  exact mk_of I hm r h (I.hok.gone hm.new)
end
/-- an error of the class at B met by «except A» -/
theorem exm_two {K : PySem.W.Frag} {B A : Addr} {b : Bool} (h1 : PySem.W.subIn K (.ref A) (.type "BaseException") = some true) (h2 : PySem.W.isClsIn K A = true) (h3 : PySem.W.typeIn K (.ref A) = some (.type "type")) (h4 : PySem.W.subIn K (.ref B) (.ref A) = some b) :
    PySem.W.exmOne K (.ref B) (.ref A) = some b := by
  have e1 : (PySem.W.subIn K (.ref A) (.type "BaseException") == some true) = true := by rw [h1] <;> rfl
  have e2 : ((PySem.W.clsIn K A).isSome && PySem.W.typeIn K (.ref A) == some (.type "type")) = true := by
    have h2' : (PySem.W.clsIn K A).isSome = true := h2
    rw [h2', h3] <;> rfl
  show (if (PySem.W.subIn K (.ref A) (.type "BaseException") == some true) = true then (if ((PySem.W.clsIn K A).isSome && PySem.W.typeIn K (.ref A) == some (.type "type")) = true then PySem.W.subIn K (.ref B) (.ref A) else none) else none) = some b
  rw [if_pos e1, if_pos e2]
  exact h4
/-- a class of exceptions without own __init__, raised -/
structure Exc (K : PySem.W.Frag) (C : Addr) : Prop where
  x : PySem.W.excIn K C [.type "ValueError", .type "Exception", .type "BaseException", .type "object"] "ValueError.__new__" = true
  kp : PySem.W.keepIn K (.ref C) = true
  be : PySem.W.subIn K (.ref C) (.type "BaseException") = some true
  ty : PySem.W.typeIn K (.ref C) = some (.type "type")
/-! ### dicts with written keys -/
def rDGet : R2 := fun x y H Q => ∃ a v, x = .ref a ∧ DGet H a y (some v) ∧ Q v H
theorem tDGet_eq {td ty : TE} {σ : L2.St} {H : Hp} {Q : VK} : tDGet td ty σ H Q = td σ H fun x H1 => ty σ H1 fun y H2 => rDGet x y H2 Q := rfl
def rDPut : V → V → V → Hp → (Hp → Prop) → Prop := fun x y v H Q => ∃ a H4, x = .ref a ∧ DPut H a y v H4 ∧ Q H4
theorem sDPut_eq {td ty tv : TE} {D : Ends} {σ : L2.St} {H : Hp} : sDPut td ty tv D σ H = tv σ H fun v H1 => td σ H1 fun x H2 => ty σ H2 fun y H3 => rDPut x y v H3 fun H4 => D.nx σ H4 := rfl
theorem i_dget {H : Hp} {a : Addr} {kvs : List (Key × V)} {k : Str} {v : V} {Q : VK} (h : H a = some (.dK kvs)) (e : valV kvs (.inr k) = some v) (q : Q v H) : rDGet (.ref a) (.str k) H Q := ⟨a, v, rfl, by rw [← e]; exact DGet.k (k := .inr k) h, q⟩
theorem i_dput {H : Hp} {a : Addr} {kvs : List (Key × V)} {k : Str} {v : V} {Q : Hp → Prop} (h : H a = some (.dK kvs)) (hl : kvs.length < sizeLine) (q : Q (upd H a (.dK (putK kvs (.inr k) v)))) : rDPut (.ref a) (.str k) v H Q := ⟨a, _, rfl, DPut.k (k := .inr k) h hl, q⟩
/-! ### what is kept but for some objects -/
def Kp (X : List Addr) (H H' : Hp) : Prop := ∀ b o, b ∉ X → H b = some o → H' b = some o
theorem Kp.refl (X : List Addr) (H : Hp) : Kp X H H := fun _ _ _ e => e
theorem Kp.trans {X : List Addr} {H H1 H2 : Hp} (a : Kp X H H1) (b : Kp X H1 H2) : Kp X H H2 := fun c o n e => b c o n (a c o n e)
theorem Kp.mono {X Y : List Addr} {H H1 : Hp} (a : Kp X H H1) (h : ∀ b ∈ X, b ∈ Y) : Kp Y H H1 := fun c o n e => a c o (fun k => n (h c k)) e
theorem Kp.set {X : List Addr} {H : Hp} {a : Addr} {o : HO} (h : a ∈ X) : Kp X H (upd H a o) := fun b u n e => by
  rw [upd_ne (fun k => n (by rw [k]; exact h))]; exact e
theorem Kp.new {X : List Addr} {H : Hp} {a : Addr} {o : HO} (h : H a = none) : Kp X H (upd H a o) := fun b u n e => by
  rw [upd_ne (ne_of_none e h)]; exact e
theorem Kp.of {X : List Addr} {H H' : Hp} (s : Same H H') : Kp X H H' := fun b u _ e => s b u e
theorem Kp.same {X : List Addr} {H H' H0 : Hp} (k : Kp X H H') (s : Same H0 H) (n : ∀ a ∈ X, H0 a = none) : Same H0 H' := fun b o e => k b o (fun h => by rw [n b h] at e; cases e) (s b o e)
/-! ### fields -/
def rFld (K : PySem.W.Frag) (f : Str) : V → Hp → VK → Prop := fun x H1 Q => ∃ a C dx fs v, x = .ref a ∧ H1 a = some (.ins C dx fs) ∧ Cls K C ∧ NoAttr K C f ∧ fs.lookup f = some v ∧ Q v H1
theorem tFld_eq {K : PySem.W.Frag} {ta : TE} {f : Str} {σ : L2.St} {H : Hp} {Q : VK} : tFld K ta f σ H Q = ta σ H fun x H1 => rFld K f x H1 Q := rfl
def rFldS (K : PySem.W.Frag) (f : Str) : V → V → Hp → (Hp → Prop) → Prop := fun x y H2 Q => ∃ a C dx fs, x = .ref a ∧ H2 a = some (.ins C dx fs) ∧ Cls K C ∧ NoAttr K C f ∧ fs.length < 1000 ∧ Q (upd H2 a (.ins C dx (putF f y fs)))
theorem sFld_eq {K : PySem.W.Frag} {ta tv : TE} {f : Str} {D : Ends} {σ : L2.St} {H : Hp} : sFld K ta tv f D σ H = tv σ H fun y H1 => ta σ H1 fun x H2 => rFldS K f x y H2 fun H3 => D.nx σ H3 := rfl
theorem i_fld {K : PySem.W.Frag} {a C dx : Addr} {fs : List (Str × V)} {f : Str} {v : V} {H : Hp} {Q : VK} (c : Cls K C) (n : NoAttr K C f) (h : H a = some (.ins C dx fs)) (l : fs.lookup f = some v) (q : Q v H) : rFld K f (.ref a) H Q := ⟨a, C, dx, fs, v, rfl, h, c, n, l, q⟩
theorem i_fldS {K : PySem.W.Frag} {a C dx : Addr} {fs : List (Str × V)} {f : Str} {y : V} {H : Hp} {Q : Hp → Prop} (c : Cls K C) (n : NoAttr K C f) (h : H a = some (.ins C dx fs)) (l : fs.length < 1000) (q : Q (upd H a (.ins C dx (putF f y fs)))) : rFldS K f (.ref a) y H Q := ⟨a, C, dx, fs, rfl, h, c, n, l, q⟩
theorem i_rep {H : Hp} {l : Addr} {k : Int} {xs : List V} {Q : VK} (h : H l = some (.lst xs)) (h1 : -(2 ^ 63) ≤ k) (h2 : k < 2 ^ 63) (hz : xs.length * k.toNat ≤ sizeLine) (q : ∀ p, H p = none → Q (.ref p) (upd H p (.lst (List.replicate k.toNat xs).flatten))) : rRep (.ref l) (.int k) H Q := ⟨l, k, xs, rfl, rfl, h, h1, h2, hz, q⟩
theorem rep1 {n : Nat} {v : V} : (List.replicate n [v]).flatten = List.replicate n v := by
  induction n with
  | zero => rfl
  | succ n ih => rw [List.replicate_succ, List.flatten_cons, ih, List.replicate_succ]; rfl
/-- a call of a method -/
def rMeth (C : Addr) (m : Str) (sp : Sp) (E : XK) (t : (List V → Hp → Prop) → Hp → Prop) : V → Hp → VK → Prop := fun x H1 Q => ∃ a dx fs, x = .ref a ∧ H1 a = some (.ins C dx fs) ∧ fs.lookup m = none ∧ t (fun vs H2 => sp (x :: vs) H2 Q E) H1
theorem tMeth_eq {C : Addr} {m : Str} {sp : Sp} {dvs : List V} {E : XK} {ta : TE} {t : TA} {σ : L2.St} {H : Hp} {Q : VK} : tMeth C m sp dvs E ta t σ H Q = ta σ H fun x H1 => rMeth C m sp E (fun k H => t σ H fun vs H2 => k (vs ++ dvs) H2) x H1 Q := rfl
theorem tMethS_eq {C : Addr} {m : Str} {sp : Sp} {E : L2.St → XK} {ta : TE} {t : TA} {σ : L2.St} {H : Hp} {Q : VK} : tMethS C m sp E ta t σ H Q = ta σ H fun x H1 => rMeth C m sp (E σ) (fun k H => t σ H k) x H1 Q := rfl
theorem i_meth {C : Addr} {m : Str} {sp : Sp} {E : XK} {t : (List V → Hp → Prop) → Hp → Prop} {a dx : Addr} {fs : List (Str × V)} {H : Hp} {Q : VK} (h : H a = some (.ins C dx fs)) (l : fs.lookup m = none) (q : t (fun vs H2 => sp (.ref a :: vs) H2 Q E) H) : rMeth C m sp E t (.ref a) H Q := ⟨a, dx, fs, rfl, h, l, q⟩
def rFldA (K : PySem.W.Frag) (f : Str) (tv : (V → Hp → Prop) → Hp → Prop) (rd : V → V → Hp → VK → Prop) : V → Hp → (Hp → Prop) → Prop := fun x H1 Q => ∃ a C dx fs v, x = .ref a ∧ H1 a = some (.ins C dx fs) ∧ Cls K C ∧ NoAttr K C f ∧ fs.lookup f = some v ∧
  tv (fun y H2 => rd v y H2 fun z H3 => ∃ dx' fs', H3 a = some (.ins C dx' fs') ∧ fs'.length < 1000 ∧ Q (upd H3 a (.ins C dx' (putF f z fs')))) H1
theorem sFldAug_eq {K : PySem.W.Frag} {ta tv : TE} {rd : V → V → Hp → VK → Prop} {f : Str} {D : Ends} {σ : L2.St} {H : Hp} : sFldAug K ta tv rd f D σ H = ta σ H fun x H1 => rFldA K f (fun k H => tv σ H k) rd x H1 fun H3 => D.nx σ H3 := rfl
theorem i_fldA {K : PySem.W.Frag} {f : Str} {tv : (V → Hp → Prop) → Hp → Prop} {rd : V → V → Hp → VK → Prop} {a C dx : Addr} {fs : List (Str × V)} {v : V} {H : Hp} {Q : Hp → Prop} (c : Cls K C) (n : NoAttr K C f) (h : H a = some (.ins C dx fs)) (l : fs.lookup f = some v)
    (q : tv (fun y H2 => rd v y H2 fun z H3 => ∃ dx' fs', H3 a = some (.ins C dx' fs') ∧ fs'.length < 1000 ∧ Q (upd H3 a (.ins C dx' (putF f z fs')))) H) : rFldA K f tv rd (.ref a) H Q := ⟨a, C, dx, fs, v, rfl, h, c, n, l, q⟩
/-! ### == and != of data that is the same -/
theorem shaped_lay {d : PyData} (h : SeqAt.shaped d = true) : d.canLay0 = true := by
  unfold SeqAt.shaped at h
  simp only [Bool.and_eq_true] at h
  exact h.1
theorem i_neD {K : PySem.W.Frag} {x y : V} {d : PyData} {H : Hp} {Q : VK} (h1 : Dp K H x d) (h2 : Dp K H y d) (hs : SeqAt.shaped d = true) (q : Q (.bl false) H) : rNeD K x y H Q :=
  ⟨d, d, h1, h2, hs, hs, by rw [SeqAt.eqv_refl d (shaped_lay hs)]; exact q⟩
theorem i_eqD {K : PySem.W.Frag} {x y : V} {d : PyData} {H : Hp} {Q : VK} (h1 : Dp K H x d) (h2 : Dp K H y d) (hs : SeqAt.shaped d = true) (q : Q (.bl true) H) : rEqD K x y H Q :=
  ⟨d, d, h1, h2, hs, hs, by rw [SeqAt.eqv_refl d (shaped_lay hs)]; exact q⟩

/-! ### own exceptions with an __init__ that keeps its arguments -/
def rMkO (C : Addr) (sp : Sp) (dvs : List V) : List V → Hp → XK → Prop := fun vs H1 Q => vs.length ≤ 1000 ∧ ∀ a, H1 a = none → sp (.ref a :: (vs ++ dvs)) (upd H1 a (exo a C none))
  (fun v H2 => v = .non ∧ ∃ (d : Addr) (fs : List (Str × V)), H2 a = some (exo a C (some d)) ∧ H2 d = some (exd d fs) ∧ H1 d = none ∧ Q (.ref C) (some d) (upd (del H2 a) d (.xd fs))) (fun _ _ _ => False)
theorem tMkO_eq {C : Addr} {sp : Sp} {dvs : List V} {ta : TA} {σ : L2.St} {H : Hp} {Q : XK} : tMkO C sp dvs ta σ H Q = ta σ H fun vs H1 => rMkO C sp dvs vs H1 Q := rfl
def spX1 (C : Addr) (f : Str) : Sp := fun vs H Q _ => ∃ (a : Addr) (v : V), vs = [.ref a, v] ∧ H a = some (exo a C none) ∧ ∀ dx, H dx = none → dx ≠ a → Q .non (upd (upd H dx (exd dx [(f, v)])) a (exo a C (some dx)))
theorem i_mkO1 {C : Addr} {f : Str} {v : V} {H : Hp} {Q : XK} (q : ∀ dx, H dx = none → Q (.ref C) (some dx) (upd H dx (.xd [(f, v)]))) : rMkO C (spX1 C f) [] [v] H Q := by
  refine ⟨by show 1 ≤ 1000; decide, fun a ha => ⟨a, v, rfl, upd_same, fun dx hd hne => ⟨rfl, dx, [(f, v)], upd_same, by rw [upd_ne hne, upd_same], by rw [upd_ne hne] at hd; exact hd, ?_⟩⟩⟩
  have hd : H dx = none := by rw [upd_ne hne] at hd; exact hd
  have e : upd (del (upd (upd (upd H a (exo a C none)) dx (exd dx [(f, v)])) a (exo a C (some dx))) a) dx (.xd [(f, v)]) = upd H dx (.xd [(f, v)]) := by
    funext b
    by_cases hb : b = dx
    · subst hb; rw [upd_same, upd_same]
    · rw [upd_ne hb, upd_ne hb]
      by_cases hb2 : b = a
      · subst hb2; rw [del_same, ha]
      · rw [del_ne hb2, upd_ne hb2, upd_ne hb, upd_ne hb2]
  rw [e]
  exact q dx hd
def rOst (K : PySem.W.Frag) (f : Str) : V → V → Hp → (Hp → Prop) → Prop := fun x y H2 Q => ∃ a C : Addr, x = .ref a ∧ OexC K C ∧ PySem.W.findIn K (.ref C) f = some none ∧
  ((H2 a = some (exo a C none) ∧ ∀ dx, H2 dx = none → dx ≠ a → Q (upd (upd H2 dx (exd dx [(f, y)])) a (exo a C (some dx)))) ∨
    ∃ (dx : Addr) (fs : List (Str × V)), H2 a = some (exo a C (some dx)) ∧ H2 dx = some (exd dx fs) ∧ fs.length ≤ 900 ∧ Q (upd H2 dx (exd dx ((f, y) :: fs))))
theorem tOst_eq {K : PySem.W.Frag} {f : Str} {to te : TE} {D : Ends} {σ : L2.St} {H : Hp} : tOst K f to te D σ H = te σ H fun y H1 => to σ H1 fun x H2 => rOst K f x y H2 fun H3 => D.nx σ H3 := rfl
theorem i_ost {K : PySem.W.Frag} {C a : Addr} {f : Str} {y : V} {H : Hp} {Q : Hp → Prop} (T : OexC K C) (n : PySem.W.findIn K (.ref C) f = some none) (h : H a = some (exo a C none)) (q : ∀ dx, H dx = none → dx ≠ a → Q (upd (upd H dx (exd dx [(f, y)])) a (exo a C (some dx)))) : rOst K f (.ref a) y H Q := ⟨a, C, rfl, T, n, .inl ⟨h, q⟩⟩
theorem i_catchAs {K : PySem.W.Frag} {c cls : Value} {i : Nat} {ts : Addr → Value → Option Addr → TS} {Wout : WX} {D : Ends} {d : Option Addr} {σ : L2.St} {H : Hp} (h : PySem.W.exmOne K cls c = some true)
    (q : ∀ a, H a = none → ts a cls d { nx := fun σ' H' => D.nx (σ'.set i none) H', rt := D.rt, bk := fun σ' H' => D.bk (σ'.set i none) H', ct := fun σ' H' => D.ct (σ'.set i none) H' } (σ.set i (some (.ref a))) H) : wAs K c i ts Wout D cls d σ H := ⟨true, h, fun _ a n => q a n, fun z => nomatch z⟩
theorem i_catch {K : PySem.W.Frag} {c cls : Value} {ts : Addr → Value → Option Addr → TS} {Wout : WX} {D : Ends} {d : Option Addr} {σ : L2.St} {H : Hp} (h : PySem.W.exmOne K cls c = some true) (q : ∀ a, H a = none → ts a cls d D σ H) : wOnly K c ts Wout D cls d σ H := ⟨true, h, fun _ a n => q a n, fun z => nomatch z⟩
theorem i_ost2 {K : PySem.W.Frag} {C a dx : Addr} {f : Str} {y : V} {fs : List (Str × V)} {H : Hp} {Q : Hp → Prop} (T : OexC K C) (n : PySem.W.findIn K (.ref C) f = some none) (h : H a = some (exo a C (some dx))) (hd : H dx = some (exd dx fs)) (hl : fs.length ≤ 900) (q : Q (upd H dx (exd dx ((f, y) :: fs)))) : rOst K f (.ref a) y H Q := ⟨a, C, rfl, T, n, .inr ⟨dx, fs, h, hd, hl, q⟩⟩
/-- told.f -/
def rXf (a : Addr) (cls : Value) (d : Option Addr) (C : Addr) (f : Str) : V → Hp → VK → Prop := fun x H1 Q => x = .ref a ∧ cls = .ref C ∧ ∃ (dd : Addr) (fs : List (Str × V)) (v : V), d = some dd ∧ H1 dd = some (.xd fs) ∧ fs.lookup f = some v ∧ Q v H1
theorem tXf_eq {a : Addr} {cls : Value} {d : Option Addr} {C : Addr} {f : Str} {te : TE} {σ : L2.St} {H : Hp} {Q : VK} : tXf a cls d C f te σ H Q = te σ H fun x H1 => rXf a cls d C f x H1 Q := rfl
theorem i_xf {a dd C : Addr} {f : Str} {fs : List (Str × V)} {v : V} {H : Hp} {Q : VK} (h : H dd = some (.xd fs)) (l : fs.lookup f = some v) (q : Q v H) : rXf a (.ref C) (some dd) C f (.ref a) H Q := ⟨rfl, rfl, dd, fs, v, rfl, h, l, q⟩
theorem iRevR_eq {tr : L2.St → Hp → (Int → Int → Hp → Prop) → Prop} {σ : L2.St} {H : Hp} {R : It → Hp → Prop} : iRevR tr σ H R = tr σ H fun a b H1 => -(2 ^ 62) ≤ a ∧ a < 2 ^ 62 ∧ -(2 ^ 62) ≤ b ∧ b < 2 ^ 62 ∧ R (Itc (a + (((b - a).toNat : Nat) : Int) - 1) (-1) (b - a).toNat) H1 := rfl
theorem tRg1_eq {ta : TE} {σ : L2.St} {H : Hp} {Q : Int → Int → Hp → Prop} : tRg1 ta σ H Q = ta σ H fun x H1 => ∃ n, x = .int n ∧ Q 0 n H1 := rfl
theorem tRg2_eq {ta tb : TE} {σ : L2.St} {H : Hp} {Q : Int → Int → Hp → Prop} : tRg2 ta tb σ H Q = ta σ H fun x H1 => tb σ H1 fun y H2 => ∃ i j, x = .int i ∧ y = .int j ∧ Q i j H2 := rfl
theorem tLstRg_eq {te : L2.St → Hp → (Int → Int → Hp → Prop) → Prop} {σ : L2.St} {H : Hp} {Q : VK} : tLstRg te σ H Q = te σ H fun a b H1 => RgOk a b ∧ ∀ q, H1 q = none → Q (.ref q) (upd H1 q (.lst (rgV a b))) := rfl
def rRevL (K : PySem.W.Frag) : V → Hp → VK → Prop := fun x H1 Q => ∃ a xs, x = .ref a ∧ SqL K H1 a xs ∧ ∀ p, H1 p = none → Q (.ref p) (upd H1 p (.lst xs.reverse))
theorem tRevL_eq {K : PySem.W.Frag} {te : TE} {σ : L2.St} {H : Hp} {Q : VK} : tRevL K te σ H Q = te σ H fun x H1 => rRevL K x H1 Q := rfl
theorem i_revL {K : PySem.W.Frag} {H : Hp} {Q : VK} {a : Addr} {xs : List V} (h : SqL K H a xs) (q : ∀ p, H p = none → Q (.ref p) (upd H p (.lst xs.reverse))) : rRevL K (.ref a) H Q := ⟨a, xs, rfl, h, q⟩
theorem room65 {k : Nat} {A : Around} (r : Room k A) : A.units + 65 < cLine := by have := r.un; omega
theorem i_forPost {J : It} {g : TG} {tb : TS} {D : Ends} {σ : L2.St} {H : Hp} (Post : L2.St → Hp → Prop) (h1 : (∀ σ' H', Post σ' H' → D.nx σ' H') → rForJ J g tb D σ H) (h2 : ∀ σ' H', Post σ' H' → D.nx σ' H') : rForJ J g tb D σ H := h1 h2

/-! ### exceptions as values -/
section
variable {X : Cx} {x : Str} {e o : Expr} {es : List Expr} {ta to : TE} {tas : TA} {p pos : Pos} {C : Addr}
def rMkV (C : Addr) (sp : Sp) : List V → Hp → VK → Prop := fun vs H1 Q => vs.length ≤ 1000 ∧ ∀ a, H1 a = none → sp (.ref a :: vs) (upd H1 a (exo a C none)) (fun v H2 => v = .non ∧ Q (.ref a) H2) (fun _ _ _ => False)
/-- C(e, ..), C's own __init__ keeping sp, as a value -/
theorem pe_oexV {CX : CXT} {fI : Addr} {k : Nat} {fd : FuncData} {ps : List Str} {sp : Sp} (T : OexC X.K C) (iC : PySem.W.findIn X.K (.ref C) "__init__" = some (some (.ref fI))) (tI : PySem.W.typeIn X.K (.ref fI) = some (.type "function"))
    (F1 : FnOk X.prog X.w X.K X.mg X.base CX k fI fd ps sp) (hr : Room (k + 1) X.A) (hb : Binds X.K fd ps []) (hx : Passes CX X (fun _ _ _ => False)) (hg : Gl X x) (hm : X.mg x = some (.ref C)) (ha : PA X (e :: es) tas)
    (hdb : (x == ("__debug__" : Str)) = false := by decide) (he : starEach (e :: es) X.env = (false, eval e X.env) :: starEach es X.env := by rfl) (hpl : (backTo pos (starEach es X.env)).any (·.1) = false := by rfl) :
    PE X (.Call (.Name x p) (e :: es) [] pos) (fun σ H Q => tas σ H fun vs H1 => rMkV C sp vs H1 Q) := by
  refine ⟨fun pins s σ H Q I h => ?_⟩
  obtain ⟨_, _, _, _, bm, _, _, _, _, _, _, _, _, _, _, hC, hbm⟩ := T.cls
  refine wpAny_Call_Name_kw (ld_glob I hg hm ?_ hdb)
  refine PySem.W.callWith_K (h₀ := X.base) I.ok.mod.kin T.kC (thn (ha.run pos pins s σ H _ I h) fun us s1 hh => ?_) he hpl
  obtain ⟨vs, H1, I1, r1, hz, q1⟩ := hh
  refine ⟨I1.kIn, ?_⟩
  show wpAny _ _ (call (.ref C) us) _ _ _
  obtain ⟨hp, g, dr, tk, os⟩ := s1
  have hq := q1 (hp.objs.size + 1) (I1.hok.fresh (Nat.le_succ _))
  have I2 := I1.laid (t' := tk) (a := hp.objs.size + 1) (o := exo (hp.objs.size + 1) C none) (h' := (hp.push (PySem.W.kdv_tup us)).push (PySem.HandSPX.excO C hp.objs.size))
    (fun b o e => Heap.get?_push_of_some _ (Heap.get?_push_of_some _ e)) (Nat.le_succ _) (exo_ok (by heap_get))
  have r2 : Vals (V.ref (hp.objs.size + 1) :: vs) (Value.ref (hp.objs.size + 1) :: us) := .cons rfl r1
  have hl : (Value.ref (hp.objs.size + 1) :: us ++ []).length = ps.length := by
    rw [List.append_nil, ← r2.length, F1.len _ _ _ _ hq]
  have hb2 := hb _ (Value.ref (hp.objs.size + 1) :: us) I2.kIn hl
  rw [List.append_nil] at hb2
  have hus : us.length ≤ sizeLine := by
    rw [← Paired.length r1]; exact Nat.le_trans hz (by rw [sizeLine_eq]; decide)
  refine wpAny_call (PySem.HandSPX.call_own F.excBase_ValueError (fun Y => PySem.HandSPX.refsVE_contains Y bm hbm) (I1.kIn _ _ hC) (PySem.W.looks_findIn I1.kIn iC) (fun self => PySem.W.bind_fn I1.kIn self tI) hus
    (codeAny_mono (F1.run _ X.stack _ _ ⟨Value.ref (hp.objs.size + 1) :: us, []⟩ (Value.ref (hp.objs.size + 1) :: us) _ _ _ (hr.make C us []) (I2.env0.make C us []) hb2 r2 hq) fun r s' hr' => ?_))
  cases r with
  | error er => exact hx pins σ _ _ er s' I2 hr'
  | ok fl =>
    cases fl with
    | ret u =>
      obtain ⟨v, H3, I3, rv, ev, q3⟩ := I2.after hr'
      subst ev
      exact ⟨rv, ⟨.ref (hp.objs.size + 1), H3, I3, rfl, q3⟩⟩
    | next => exact False.elim hr'
    | brk => exact False.elim hr'
    | cont => exact False.elim hr'
/-- X(), an own exception class without own __init__, as a value -/
theorem pe_exc0V {bmB : List Value} {B newId initId : String} (F : ExcBaseFacts B newId initId bmB) (q : PySem.W.excIn X.K C bmB newId = true) (gC : X.mg x = some (.ref C)) (kC : PySem.W.keepIn X.K (.ref C) = true) (hg : Gl X x) (hdb : (x == ("__debug__" : Str)) = false := by decide) :
    PE X (.Call (.Name x p) [] [] pos) (fun _ H Q => ∀ a, H a = none → Q (.ref a) (upd H a (exo a C none))) := by
  refine ⟨fun pins s σ H Q I h => ?_⟩
  refine wpAny_Call_Name_kw (ld_glob I hg gC ?_ hdb)
  refine PySem.W.callWith_K0 I.kIn kC ?_
  show wpAny _ _ (call (.ref C) []) _ _ _
  obtain ⟨_, _, _, _, _, _, _, _, _, _, _, _, _, _, _, _, mN, hC, hN, hni, T⟩ := exc_obj I.kIn q
  refine wpAny_call_exc_subT F T hC hN hni (fun h' a hm => ?_) (Nat.zero_le _)
  have hn : H a = none := I.hok.gone hm.new
  obtain ⟨t, ht, _, _⟩ := hm.there
  exact ⟨.ref a, upd H a (exo a C none), I.laidN hm.keeps hm.new hn (exo_ok ht), rfl, h a hn⟩
/-- an exception stands at a -/
def ErrAt (H : Hp) (a C : Addr) : Prop := H a = some (exo a C none) ∨ ∃ dx fs, H a = some (exo a C (some dx)) ∧ H dx = some (exd dx fs)
theorem ErrAt.same {H H' : Hp} {a C : Addr} (h : ErrAt H a C) (s : Same H H') : ErrAt H' a C := by
  rcases h with h | ⟨dx, fs, h1, h2⟩
  · exact .inl (s _ _ h)
  · exact .inr ⟨dx, fs, s _ _ h1, s _ _ h2⟩
end
section
variable {prog : Program} {w : World} {A : Around} {E : Value → Shared → Prop} {s : Shared} {K : PySem.W.Frag} {x D : Addr} {ox : Obj} {od : Option Obj}
open PySem.W PySem.Calls
theorem err_class {Q : Option Value → Shared → Prop} (Z : ExcC K D) (X : K.In s.heap) (I : PySem.W.InstAt s.heap x ox D od) (h : Q (some (.ref D)) { s with toks := s.toks + 1 }) : wpAny (model prog w) A (getAttr? (.ref x) "__class__") Q E s := by
  have hfd : findObj K D od "__class__" = some (.bind (.builtin "getset_descriptor.__get__") (.builtin "object.__class__")) := by
    have hc : (clsIn K D).isSome = true := by obtain ⟨cd, hc, _⟩ := any_some Z.hd; rw [hc]; rfl
    cases od with
    | none => exact findObj_dataN hc Z.ha Z.hn Z.ht
    | some od => exact findObj_data hc Z.ha Z.hn Z.ht
  obtain ⟨hh, gs, dd, tt, oo⟩ := s
  have LT := I.type (M := model prog w)
  have LG := looks_findIn (M := model prog w) X Z.hg
  have LH := looks_findIn (M := model prog w) X Z.hk
  have LF := looks_find (M := model prog w) X I hfd
  have LS : Looks (model prog w) hh (isInstance (.ref x) (.type "BaseException")) true := LT.andThen (looks_subIn X Z.hs)
  have nb : (Value.builtin "BaseException.__getattribute__" == Value.builtin "object.__getattribute__") = false := by decide +kernel
  unfold getAttr? getAttrBy? getAttrBy
  refine wpAny_bind (wpAny_mkText (wpAny_bind (wpAny_attempt (wpAny_holding (wpAny_bind (LT.at (wpAny_bind (LG.at ?_))))))))
  show wpAny _ _ (if (onTheHeap (Value.ref D) && (Value.builtin "BaseException.__getattribute__" == Value.builtin "object.__getattribute__")) = true then _ else _) _ _ _
  rw [nb, Bool.and_false, if_neg Bool.false_ne_true]
  unfold getAttrByItsOwn hookBefore
  refine wpAny_bind ?_
  rw [if_pos (show onTheHeap (Value.ref D) = true from rfl)]
  refine LH.at (wpAny_bind (wpAny_attempt (wpAny_holding ?_)))
  unfold callGetattribute
  rw [show (false && onTheHeap (Value.builtin "BaseException.__getattribute__")) = false from rfl, if_neg Bool.false_ne_true]
  unfold boundAndCalled
  rw [PySem.F.excAttr_ValueError.ga.bind (.ref x)]
  refine wpAny_bind (wpAny_pure ?_)
  show wpAny _ _ (call (.builtin "BaseException.__getattribute__") [.ref x, .str "__class__" tt]) _ _ _
  refine wpAny_call (codeAny_call_builtin PySem.F.excAttr_ValueError.ga.plain PySem.F.entry_bexc_ga (@check_slot (model prog w) _ _ ⟨hh, gs, dd, tt + 1, oo⟩ "BaseException.__getattribute__" "BaseException" "__getattribute__" (.ref x) [.str "__class__" tt] [] _ (by decide +kernel) (by decide +kernel) LS (PySem.F.args_bexc_ga (.ref x) (.str "__class__" tt)) ?_))
  unfold Builtin.«object.__getattribute__»
  refine wpAny_bind (wpAny_of_eq (a := ((Value.ref x : Value), [Value.str "__class__" tt])) (by first | rfl | (simp only [slotArgs]; rfl)) (wpAny_bind (wpAny_pure (wpAny_bind (LT.at (wpAny_bind (LF.at ?_)))))))
  show wpAny _ _ (holding [Value.builtin "object.__class__"] (call (.builtin "getset_descriptor.__get__") [.builtin "object.__class__", .ref x, .ref D]) >>= ret) _ _ _
  refine wpAny_bind (wpAny_holding (wpAny_call (class_get (s := ⟨hh, gs, dd, tt + 1, oo⟩) (ox := ox) (od := od) X I Z.hm (wpAny_pure ?_))))
  show wpAny _ _ (handedOut (.ref D)) _ _ _
  rw [handedOut_of (v := .ref D) rfl]
  first
    | exact wpAny_pure (wpAny_pure h)
    | exact wpAny_pure h
    | exact wpAny_pure (wpAny_bind (wpAny_pure (wpAny_pure h)))
theorem kitx_err (Z : ExcC K D) : KitX K (.ref x) (.ref D) (fun h => ∃ ox od, PySem.W.InstAt h x ox D od) where
  ty := fun _ _ _ ⟨_, _, I⟩ => I.type
  it := fun _ _ Y _ => by
    obtain ⟨cdD, hcD, _⟩ := any_some Z.hd
    unfold clsIn at hcD
    split at hcD
    · rename_i ho
      intro A' Q' E' s' k q
      unfold isType loadHead
      exact wpAny_bind (wpAny_loadPart (k _ _ (Y _ _ ho)) (wpAny_pure q))
    · cases hcD
  ne := fun h tp dd its n sl Y htp => by
    obtain ⟨cdD, hcD, _⟩ := any_some Z.hd
    refine Bool.eq_false_iff.mpr fun q => ?_
    obtain rfl : D = tp := Value.ref.inj (beq_iff_eq.mp q)
    unfold clsIn at hcD
    split at hcD
    · rename_i ho
      cases (Y _ _ ho).symm.trans htp
    · cases hcD
  ca := fun Y ⟨_, _, I⟩ k => err_class Z Y I k
end
/-- the facts that isinstance asks of an own class -/
theorem kit_own {K : PySem.W.Frag} {B A : Addr} {b : Bool} (h1 : decide (B = A) = false) (h2 : PySem.W.isClsIn K A = true) (h3 : PySem.W.typeIn K (.ref A) = some (.type "type")) (h4 : PySem.W.subIn K (.ref B) (.ref A) = some b) : PySem.W.kitOne K (.ref B) (.ref A) = some b := by
  unfold PySem.W.kitOne
  have ne : ¬ B = A := of_decide_eq_false h1
  have h2' : (PySem.W.clsIn K A).isSome = true := h2
  rw [if_neg (fun q => ne (Value.ref.inj (beq_iff_eq.mp q)))]
  show (if ((PySem.W.clsIn K A).isSome && PySem.W.typeIn K (.ref A) == some (.type "type")) = true then PySem.W.subIn K (.ref B) (.ref A) else none) = some b
  rw [h2', h3, if_pos (by rfl)]
  exact h4
theorem kit_blt {K : PySem.W.Frag} {B : Addr} {t : String} {b : Bool} (h : PySem.W.kitMeta t = true) (h4 : PySem.W.subIn K (.ref B) (.type t) = some b) : PySem.W.kitOne K (.ref B) (.type t) = some b := by
  unfold PySem.W.kitOne
  rw [if_neg (show ¬ ((Value.ref B == Value.type t) = true) from fun q => Value.noConfusion (beq_iff_eq.mp q))]
  show (if PySem.W.kitMeta t = true then PySem.W.subIn K (.ref B) (.type t) else none) = some b
  rw [if_pos h]; exact h4
def rIsX (K : PySem.W.Frag) : List V → Hp → VK → Prop := fun xs H Q => ∃ (a D : Addr) (c : V) (cv : Value) (b : Bool), xs = [.ref a, c] ∧ ErrAt H a D ∧ ExcC K D ∧ (∀ u, RelV c u → u = cv) ∧ PySem.W.kitOne K (.ref D) cv = some b ∧ Q (.bl b) H
theorem call_isX {X : Cx} : CallR X (.builtin "isinstance") (rIsX X.K) := by
  intro pins s σ H xs us Q I r h
  obtain ⟨a, D, c, cv, b, rfl, he, hC, hcv, ek, q⟩ := h
  cases r with
  | cons rx rr =>
    cases rr with
    | cons rt rr =>
      cases rr
      cases rx
      obtain rfl := hcv _ rt
      have J : ∃ ox od, PySem.W.InstAt s.heap a ox D od := by
        rcases he with he | ⟨dx, fs, he, hd⟩
        · obtain ⟨t1, ho⟩ := exo_at I.hok he
          exact ⟨_, none, ho, rfl, rfl, trivial⟩
        · obtain ⟨t1, ho⟩ := exo_at I.hok he
          obtain ⟨mA, hns, _⟩ := exd_at I.hok hd
          obtain ⟨od, hod, _⟩ := lookIn_ns hns
          exact ⟨_, some od, ho, rfl, rfl, hod⟩
      exact PySem.W.kia_one (kitx_err hC) I.kIn J ek (fun z => nomatch z) fun tk => ⟨.bl b, H, I.kept (t' := tk) fun _ _ z => z, rfl, q⟩
def rIsS (K : PySem.W.Frag) (a : Addr) (cls : Value) (d : Option Addr) : List V → Hp → VK → Prop := fun xs H Q => ∃ (D : Addr) (c : V) (cv : Value) (b : Bool), xs = [.ref a, c] ∧ cls = .ref D ∧ ExcC K D ∧ (∀ dd, d = some dd → ∃ fs, H dd = some (.xd fs)) ∧ (∀ u, RelV c u → u = cv) ∧ PySem.W.kitOne K (.ref D) cv = some b ∧ Q (.bl b) H
/-- isinstance(e, c), e the exception that the suite holds -/
theorem isSK {X : Cx} (K : PySem.W.Frag) {a : Addr} {cls : Value} {d : Option Addr} {oe : Obj} {pn : List (Addr × Obj)} (hz : Zc cls d oe) (hf : ∃ vs, oe.data = .fields vs) (hK : X.K = K := by rfl) : CallR (X.suite a ((a, oe) :: pn)) (.builtin "isinstance") (rIsS K a cls d) := by
  subst hK
  intro pins s σ H xs us Q I r h
  obtain ⟨D, c, cv, b, rfl, rfl, hC, hd, hcv, ek, q⟩ := h
  cases r with
  | cons rx rr =>
    cases rr with
    | cons rt rr =>
      cases rr
      cases rx
      obtain rfl := hcv _ rt
      obtain ⟨hget, _⟩ := I.pin (a, oe) (List.mem_append.mpr (.inl List.mem_cons_self))
      obtain ⟨vs, hv⟩ := hf
      have J : ∃ ox od, PySem.W.InstAt s.heap a ox D od := by
        have nc : PySem.W.notCls oe = true := by unfold PySem.W.notCls; rw [hv] <;> rfl
        cases d with
        | none => exact ⟨oe, none, hget, hz.1, nc, by rw [hz.2]; trivial⟩
        | some dd =>
          obtain ⟨fs, hx⟩ := hd dd rfl
          have hx : ObjOk X.prog X.w H s.heap dd (.xd fs) := I.hok dd _ hx
          obtain ⟨mA, hns, _⟩ := hx
          obtain ⟨od, hod, _⟩ := lookIn_ns hns
          exact ⟨oe, some od, hget, hz.1, nc, by rw [hz.2]; exact hod⟩
      exact PySem.W.kia_one (kitx_err hC) I.kIn J ek (fun z => nomatch z) fun tk => ⟨.bl b, H, I.kept (t' := tk) fun _ _ z => z, rfl, q⟩
/-- e.f, e a ref to an exception with a dict -/
def rXv (C : Addr) (f : Str) : V → Hp → VK → Prop := fun x H1 Q => ∃ (a dd : Addr) (fs : List (Str × V)) (v : V), x = .ref a ∧ H1 a = some (exo a C (some dd)) ∧ H1 dd = some (exd dd fs) ∧ fs.lookup f = some v ∧ Q v H1
theorem pe_xv {X : Cx} {C : Addr} {e : Expr} {te : TE} {pos : Pos} {n : Str} (T : XfC X.K C) (hno : PySem.W.findIn X.K (.ref C) n = some none) (he : PE X e te) (hb : attributeBase e n X.env (eval e X.env) = eval e X.env := by rfl) :
    PE X (.Attribute e n pos) (fun σ H Q => te σ H fun x H1 => rXv C n x H1 Q) := by
  refine ⟨fun pins s σ H Q I h => attr_of hb (thn (he.run pins s σ H _ I h) fun u s1 hh => ?_)⟩
  obtain ⟨x, H1, I1, rx, a, dd, fs, v, rfl, ha, ea, l, q⟩ := hh
  obtain rfl : u = Value.ref a := rx
  obtain ⟨t1, ho⟩ := exo_at I1.hok ha
  obtain ⟨mA, hns, hr⟩ := exd_at I1.hok ea
  obtain ⟨od, hod, hl⟩ := lookIn_ns hns
  obtain ⟨u, hu, ru⟩ := RelO.some_of (v := v) (o := mA n) (by rw [← l]; exact hr n)
  have J : PySem.W.InstAt s1.heap a _ C (some od) := ⟨ho, rfl, rfl, hod⟩
  exact HandSPX.exc_get I1.kIn J T.ga T.gg T.exC (PySem.W.findObj_own T.hdC hno rfl (by rw [hl, hu])) (handed_of ru) ⟨v, H1, I1.tok _, ru, q⟩
theorem isXK {X : Cx} (K : PySem.W.Frag) (hK : X.K = K := by rfl) : CallR X (.builtin "isinstance") (rIsX K) := by
  subst hK; exact call_isX
theorem kit_self {K : PySem.W.Frag} {t : Value} : PySem.W.kitOne K t t = some true := if_pos (beq_self_eq_true t)
inductive KRow (K : PySem.W.Frag) (t : Value) : List Addr → List Bool → Prop
  | nil : KRow K t [] []
  | cons {c : Addr} {b : Bool} {cs : List Addr} {bs : List Bool} (h : PySem.W.kitOne K t (.ref c) = some b) (r : KRow K t cs bs) : KRow K t (c :: cs) (b :: bs)
structure ErrC (K : PySem.W.Frag) (cs : List Addr) (top D : Addr) (bs : List Bool) : Prop where
  ec : ExcC K D
  row : KRow K (.ref D) cs bs
  card : PySem.W.kitOne K (.ref D) (.ref top) = some true
  val : PySem.W.kitOne K (.ref D) (.type "ValueError") = some true

local macro_rules | `(tactic| walk_at "rd") => `(tactic| try simp only [L2.start, cxOf, tVar, tC, tOp, tUn, rI0, rI, rU, tCB, tCons, tNil, tAsg, gName, gSub, tDrop, tSub, tAdd, tMul, tCmp, t2I, tIsN, tNotN, tRet, tDGet_eq, sDPut_eq, tMeth_eq, tMethS_eq, tMkO_eq, tOst_eq, tXf_eq, iRevR_eq, tRg1_eq, tRg2_eq, tLstRg_eq, tRevL_eq, tMake, tFld_eq, sFld_eq, sFldAug_eq, rSub, rAdd, tCallS, tDisp, tPairs, rIntA, tDNewK, wipe, tFor_J, tLc_J, iRng1, iRng2, iList, iTup, iStr, tM1, tM0, tBM, tBM0, tSl, tPart, tNoPart, tLst, tTup, sizeLine_eq, Nat.reduceLeDiff, true_and, tIfS, tTest, tB, tAnd, tOr, tNot, tAndV, tOrV, tNotV, tChain, rEq, rNe, rNotB, rIsB, sc_ii, sc_ss, sc_bb, sc_in, sc_ni, sc_nn, sc_is, sc_si, sc_ns, sc_sn, sc_bn, sc_nb, sc_sb, sc_bs, tCall, tNext,  List.map, List.length, List.replicate, List.cons_append, List.nil_append, List.append_nil, List.getElem?_cons_zero, List.getElem?_cons_succ, List.set_cons_zero, List.set_cons_succ, Option.some.injEq, exists_eq_left', exists_eq_left, exists_eq', V.int.injEq, V.str.injEq, V.ref.injEq, V.bl.injEq, List.cons.injEq, and_true, true_and, and_assoc, exists_and_left, Int.reduceLT, Int.reduceNeg, Int.reduceLE, ↓reduceIte, Bool.false_eq_true, Bool.not_true, Bool.not_false, reduceCtorEq, false_and, and_false, exists_false, or_false, false_or, Nat.reduceAdd, Nat.reduceSub, decide_eq_true_eq, decide_true, decide_false])

def topS (i : Nat) : Stmt := PySem.Challenge.pw_warycard_k00_errors_and_limits.main.body.getD i (.Pass ⟨0, 0, 0, 0⟩)
abbrev s_BadSource_init : Stmt := inClass (topS 2) 0
theorem sc_BadSource_init : FnScope ["self", "line", "reason"] ["self", "line", "reason"] (defScope s_BadSource_init) := ⟨rfl, rfl, rfl, by decide +kernel, rfl, by decide +kernel, by decide +kernel⟩
abbrev s_BadProgram_init : Stmt := inClass (topS 4) 0
theorem sc_BadProgram_init : FnScope ["self", "reason"] ["self", "reason"] (defScope s_BadProgram_init) := ⟨rfl, rfl, rfl, by decide +kernel, rfl, by decide +kernel, by decide +kernel⟩
abbrev s_BadScript_init : Stmt := inClass (topS 10) 0
theorem sc_BadScript_init : FnScope ["self", "line", "reason"] ["self", "line", "reason"] (defScope s_BadScript_init) := ⟨rfl, rfl, rfl, by decide +kernel, rfl, by decide +kernel, by decide +kernel⟩
abbrev s_Fault_init : Stmt := inClass (topS 11) 0
theorem sc_Fault_init : FnScope ["self", "code"] ["self", "code"] (defScope s_Fault_init) := ⟨rfl, rfl, rfl, by decide +kernel, rfl, by decide +kernel, by decide +kernel⟩
abbrev s_law_cell : Stmt := topS 47
theorem sc_law_cell : FnScope ["_law_script", "_law_k"] ["_law_script", "_law_k"] (defScope s_law_cell) := ⟨rfl, rfl, rfl, by decide +kernel, rfl, by decide +kernel, by decide +kernel⟩
abbrev s_law_kinds : Stmt := topS 48
theorem sc_law_kinds : FnScope ["_law_e", "_law_kinds_here"] ["_law_e"] (defScope s_law_kinds) := ⟨rfl, rfl, rfl, by decide +kernel, rfl, by decide +kernel, by decide +kernel⟩
abbrev s_law_right : Stmt := topS 49
theorem sc_law_right : FnScope ["_law_errors", "_law_k", "_law_j"] ["_law_errors"] (defScope s_law_right) := ⟨rfl, rfl, rfl, by decide +kernel, rfl, by decide +kernel, by decide +kernel⟩
abbrev s_law_raised : Stmt := topS 50
theorem sc_law_raised : FnScope ["_law_code", "_law_e"] ["_law_code"] (defScope s_law_raised) := ⟨rfl, rfl, rfl, by decide +kernel, rfl, by decide +kernel, by decide +kernel⟩
abbrev s_law : Stmt := topS 51
theorem sc_law : FnScope ["_law_script", "_law_line", "_law_reason", "_law_code", "_law_source", "_law_told", "_law_program", "_law_errors", "_law_limits", "_law_faults", "_law_k"] ["_law_script"] (defScope s_law) := ⟨rfl, rfl, rfl, by decide +kernel, rfl, by decide +kernel, by decide +kernel⟩
/-- what the top has left -/
structure Txt (K : PySem.W.Frag) (mg : Str → Option Value) where
  f_BadSource_init : Addr
  d_BadSource_init : FuncData
  k_BadSource_init : Fun K "__init__" "BadSource.__init__" s_BadSource_init f_BadSource_init d_BadSource_init
  b_BadSource_init : Binds K d_BadSource_init ["self", "line", "reason"] []
  f_BadProgram_init : Addr
  d_BadProgram_init : FuncData
  k_BadProgram_init : Fun K "__init__" "BadProgram.__init__" s_BadProgram_init f_BadProgram_init d_BadProgram_init
  b_BadProgram_init : Binds K d_BadProgram_init ["self", "reason"] []
  f_BadScript_init : Addr
  d_BadScript_init : FuncData
  k_BadScript_init : Fun K "__init__" "BadScript.__init__" s_BadScript_init f_BadScript_init d_BadScript_init
  b_BadScript_init : Binds K d_BadScript_init ["self", "line", "reason"] []
  f_Fault_init : Addr
  d_Fault_init : FuncData
  k_Fault_init : Fun K "__init__" "Fault.__init__" s_Fault_init f_Fault_init d_Fault_init
  b_Fault_init : Binds K d_Fault_init ["self", "code"] []
  f_law_cell : Addr
  d_law_cell : FuncData
  k_law_cell : Fun K "_law_cell" "_law_cell" s_law_cell f_law_cell d_law_cell
  b_law_cell : Binds K d_law_cell ["_law_script", "_law_k"] []
  g_law_cell : mg "_law_cell" = some (.ref f_law_cell)
  f_law_kinds : Addr
  d_law_kinds : FuncData
  k_law_kinds : Fun K "_law_kinds" "_law_kinds" s_law_kinds f_law_kinds d_law_kinds
  b_law_kinds : Binds K d_law_kinds ["_law_e"] []
  g_law_kinds : mg "_law_kinds" = some (.ref f_law_kinds)
  f_law_right : Addr
  d_law_right : FuncData
  k_law_right : Fun K "_law_right" "_law_right" s_law_right f_law_right d_law_right
  b_law_right : Binds K d_law_right ["_law_errors"] []
  g_law_right : mg "_law_right" = some (.ref f_law_right)
  f_law_raised : Addr
  d_law_raised : FuncData
  k_law_raised : Fun K "_law_raised" "_law_raised" s_law_raised f_law_raised d_law_raised
  b_law_raised : Binds K d_law_raised ["_law_code"] []
  g_law_raised : mg "_law_raised" = some (.ref f_law_raised)
  f_law : Addr
  d_law : FuncData
  k_law : Fun K "law" "law" s_law f_law d_law
  b_law : Binds K d_law ["_law_script"] []
  g_law : mg "law" = some (.ref f_law)
  c_CardError : Addr
  g_CardError : mg "CardError" = some (.ref c_CardError)
  c_BadSource : Addr
  g_BadSource : mg "BadSource" = some (.ref c_BadSource)
  c_BadTree : Addr
  g_BadTree : mg "BadTree" = some (.ref c_BadTree)
  c_BadProgram : Addr
  g_BadProgram : mg "BadProgram" = some (.ref c_BadProgram)
  c_BadModule : Addr
  g_BadModule : mg "BadModule" = some (.ref c_BadModule)
  c_BadPackage : Addr
  g_BadPackage : mg "BadPackage" = some (.ref c_BadPackage)
  c_BadLink : Addr
  g_BadLink : mg "BadLink" = some (.ref c_BadLink)
  c_BadCode : Addr
  g_BadCode : mg "BadCode" = some (.ref c_BadCode)
  c_BadPaper : Addr
  g_BadPaper : mg "BadPaper" = some (.ref c_BadPaper)
  c_BadScript : Addr
  g_BadScript : mg "BadScript" = some (.ref c_BadScript)
  c_Fault : Addr
  g_Fault : mg "Fault" = some (.ref c_Fault)
  c_StepsGone : Addr
  g_StepsGone : mg "StepsGone" = some (.ref c_StepsGone)
  c_PowerCut : Addr
  g_PowerCut : mg "PowerCut" = some (.ref c_PowerCut)
  ex_Fault_CardError : PySem.W.exmOne K (.ref c_Fault) (.ref c_CardError) = some true
  ex_BadSource_CardError : PySem.W.exmOne K (.ref c_BadSource) (.ref c_CardError) = some true
  ex_BadScript_CardError : PySem.W.exmOne K (.ref c_BadScript) (.ref c_CardError) = some true
  ex_BadProgram_CardError : PySem.W.exmOne K (.ref c_BadProgram) (.ref c_CardError) = some true
  ex_BadTree_CardError : PySem.W.exmOne K (.ref c_BadTree) (.ref c_CardError) = some true
  ex_BadModule_CardError : PySem.W.exmOne K (.ref c_BadModule) (.ref c_CardError) = some true
  ex_BadPackage_CardError : PySem.W.exmOne K (.ref c_BadPackage) (.ref c_CardError) = some true
  ex_BadLink_CardError : PySem.W.exmOne K (.ref c_BadLink) (.ref c_CardError) = some true
  ex_BadCode_CardError : PySem.W.exmOne K (.ref c_BadCode) (.ref c_CardError) = some true
  ex_BadPaper_CardError : PySem.W.exmOne K (.ref c_BadPaper) (.ref c_CardError) = some true
  ex_StepsGone_CardError : PySem.W.exmOne K (.ref c_StepsGone) (.ref c_CardError) = some true
  ex_PowerCut_CardError : PySem.W.exmOne K (.ref c_PowerCut) (.ref c_CardError) = some true
  ox_BadSource : OexC K c_BadSource
  in_BadSource : PySem.W.findIn K (.ref c_BadSource) "__init__" = some (some (.ref f_BadSource_init))
  ti_BadSource : PySem.W.typeIn K (.ref f_BadSource_init) = some (.type "function")
  on_BadSource_line : PySem.W.findIn K (.ref c_BadSource) "line" = some none
  on_BadSource_reason : PySem.W.findIn K (.ref c_BadSource) "reason" = some none
  xf_BadSource : XfC K c_BadSource
  x_BadTree : Exc K c_BadTree
  ox_BadProgram : OexC K c_BadProgram
  in_BadProgram : PySem.W.findIn K (.ref c_BadProgram) "__init__" = some (some (.ref f_BadProgram_init))
  ti_BadProgram : PySem.W.typeIn K (.ref f_BadProgram_init) = some (.type "function")
  on_BadProgram_reason : PySem.W.findIn K (.ref c_BadProgram) "reason" = some none
  xf_BadProgram : XfC K c_BadProgram
  x_BadModule : Exc K c_BadModule
  x_BadPackage : Exc K c_BadPackage
  x_BadLink : Exc K c_BadLink
  x_BadCode : Exc K c_BadCode
  x_BadPaper : Exc K c_BadPaper
  ox_BadScript : OexC K c_BadScript
  in_BadScript : PySem.W.findIn K (.ref c_BadScript) "__init__" = some (some (.ref f_BadScript_init))
  ti_BadScript : PySem.W.typeIn K (.ref f_BadScript_init) = some (.type "function")
  on_BadScript_line : PySem.W.findIn K (.ref c_BadScript) "line" = some none
  on_BadScript_reason : PySem.W.findIn K (.ref c_BadScript) "reason" = some none
  xf_BadScript : XfC K c_BadScript
  ox_Fault : OexC K c_Fault
  in_Fault : PySem.W.findIn K (.ref c_Fault) "__init__" = some (some (.ref f_Fault_init))
  ti_Fault : PySem.W.typeIn K (.ref f_Fault_init) = some (.type "function")
  on_Fault_code : PySem.W.findIn K (.ref c_Fault) "code" = some none
  xf_Fault : XfC K c_Fault
  x_StepsGone : Exc K c_StepsGone
  x_PowerCut : Exc K c_PowerCut
  er_BadSource : ErrC K [c_BadSource, c_BadTree, c_BadProgram, c_BadModule, c_BadPackage, c_BadLink, c_BadCode, c_BadPaper, c_BadScript, c_Fault, c_StepsGone, c_PowerCut] c_CardError c_BadSource [true, false, false, false, false, false, false, false, false, false, false, false]
  er_BadTree : ErrC K [c_BadSource, c_BadTree, c_BadProgram, c_BadModule, c_BadPackage, c_BadLink, c_BadCode, c_BadPaper, c_BadScript, c_Fault, c_StepsGone, c_PowerCut] c_CardError c_BadTree [false, true, false, false, false, false, false, false, false, false, false, false]
  er_BadProgram : ErrC K [c_BadSource, c_BadTree, c_BadProgram, c_BadModule, c_BadPackage, c_BadLink, c_BadCode, c_BadPaper, c_BadScript, c_Fault, c_StepsGone, c_PowerCut] c_CardError c_BadProgram [false, false, true, false, false, false, false, false, false, false, false, false]
  er_BadModule : ErrC K [c_BadSource, c_BadTree, c_BadProgram, c_BadModule, c_BadPackage, c_BadLink, c_BadCode, c_BadPaper, c_BadScript, c_Fault, c_StepsGone, c_PowerCut] c_CardError c_BadModule [false, false, false, true, false, false, false, false, false, false, false, false]
  er_BadPackage : ErrC K [c_BadSource, c_BadTree, c_BadProgram, c_BadModule, c_BadPackage, c_BadLink, c_BadCode, c_BadPaper, c_BadScript, c_Fault, c_StepsGone, c_PowerCut] c_CardError c_BadPackage [false, false, false, false, true, false, false, false, false, false, false, false]
  er_BadLink : ErrC K [c_BadSource, c_BadTree, c_BadProgram, c_BadModule, c_BadPackage, c_BadLink, c_BadCode, c_BadPaper, c_BadScript, c_Fault, c_StepsGone, c_PowerCut] c_CardError c_BadLink [false, false, false, false, false, true, false, false, false, false, false, false]
  er_BadCode : ErrC K [c_BadSource, c_BadTree, c_BadProgram, c_BadModule, c_BadPackage, c_BadLink, c_BadCode, c_BadPaper, c_BadScript, c_Fault, c_StepsGone, c_PowerCut] c_CardError c_BadCode [false, false, false, false, false, false, true, false, false, false, false, false]
  er_BadPaper : ErrC K [c_BadSource, c_BadTree, c_BadProgram, c_BadModule, c_BadPackage, c_BadLink, c_BadCode, c_BadPaper, c_BadScript, c_Fault, c_StepsGone, c_PowerCut] c_CardError c_BadPaper [false, false, false, false, false, false, false, true, false, false, false, false]
  er_BadScript : ErrC K [c_BadSource, c_BadTree, c_BadProgram, c_BadModule, c_BadPackage, c_BadLink, c_BadCode, c_BadPaper, c_BadScript, c_Fault, c_StepsGone, c_PowerCut] c_CardError c_BadScript [false, false, false, false, false, false, false, false, true, false, false, false]
  er_Fault : ErrC K [c_BadSource, c_BadTree, c_BadProgram, c_BadModule, c_BadPackage, c_BadLink, c_BadCode, c_BadPaper, c_BadScript, c_Fault, c_StepsGone, c_PowerCut] c_CardError c_Fault [false, false, false, false, false, false, false, false, false, true, false, false]
  er_StepsGone : ErrC K [c_BadSource, c_BadTree, c_BadProgram, c_BadModule, c_BadPackage, c_BadLink, c_BadCode, c_BadPaper, c_BadScript, c_Fault, c_StepsGone, c_PowerCut] c_CardError c_StepsGone [false, false, false, false, false, false, false, false, false, false, true, false]
  er_PowerCut : ErrC K [c_BadSource, c_BadTree, c_BadProgram, c_BadModule, c_BadPackage, c_BadLink, c_BadCode, c_BadPaper, c_BadScript, c_Fault, c_StepsGone, c_PowerCut] c_CardError c_PowerCut [false, false, false, false, false, false, false, false, false, false, false, true]
  m_ValueError : mg "ValueError" = none
  m_int : mg "int" = none
  m_isinstance : mg "isinstance" = none
  m_len : mg "len" = none
  m_range : mg "range" = none
  t_MOST_SOURCE : Tok
  g_MOST_SOURCE : mg "MOST_SOURCE" = some (.int (20000) t_MOST_SOURCE)
  t_MOST_NAME : Tok
  g_MOST_NAME : mg "MOST_NAME" = some (.int (20) t_MOST_NAME)
  t_MOST_TEXT : Tok
  g_MOST_TEXT : mg "MOST_TEXT" = some (.int (16) t_MOST_TEXT)
  t_MOST_VERSION : Tok
  g_MOST_VERSION : mg "MOST_VERSION" = some (.int (255) t_MOST_VERSION)
  t_MOST_ITEMS : Tok
  g_MOST_ITEMS : mg "MOST_ITEMS" = some (.int (60) t_MOST_ITEMS)
  t_MOST_METHODS : Tok
  g_MOST_METHODS : mg "MOST_METHODS" = some (.int (120) t_MOST_METHODS)
  t_MOST_INT : Tok
  g_MOST_INT : mg "MOST_INT" = some (.int (32767) t_MOST_INT)
  t_MOST_OPEN : Tok
  g_MOST_OPEN : mg "MOST_OPEN" = some (.int (24) t_MOST_OPEN)
  t_MOST_NESTED : Tok
  g_MOST_NESTED : mg "MOST_NESTED" = some (.int (16) t_MOST_NESTED)
  t_MOST_NODES : Tok
  g_MOST_NODES : mg "MOST_NODES" = some (.int (300) t_MOST_NODES)
  t_MOST_CODE : Tok
  g_MOST_CODE : mg "MOST_CODE" = some (.int (2000) t_MOST_CODE)
  t_MOST_STACK : Tok
  g_MOST_STACK : mg "MOST_STACK" = some (.int (300) t_MOST_STACK)
  t_MOST_HANDLERS : Tok
  g_MOST_HANDLERS : mg "MOST_HANDLERS" = some (.int (300) t_MOST_HANDLERS)
  t_MOST_APPLETS : Tok
  g_MOST_APPLETS : mg "MOST_APPLETS" = some (.int (8) t_MOST_APPLETS)
  t_MOST_CHANNELS : Tok
  g_MOST_CHANNELS : mg "MOST_CHANNELS" = some (.int (4) t_MOST_CHANNELS)
  t_MOST_BUFFER : Tok
  g_MOST_BUFFER : mg "MOST_BUFFER" = some (.int (64) t_MOST_BUFFER)
  t_MOST_BYTES : Tok
  g_MOST_BYTES : mg "MOST_BYTES" = some (.int (64) t_MOST_BYTES)
  t_MOST_CELLS : Tok
  g_MOST_CELLS : mg "MOST_CELLS" = some (.int (400) t_MOST_CELLS)
  t_MOST_OBJECTS : Tok
  g_MOST_OBJECTS : mg "MOST_OBJECTS" = some (.int (60) t_MOST_OBJECTS)
  t_MOST_LOG : Tok
  g_MOST_LOG : mg "MOST_LOG" = some (.int (40) t_MOST_LOG)
  t_MOST_DEPTH : Tok
  g_MOST_DEPTH : mg "MOST_DEPTH" = some (.int (8) t_MOST_DEPTH)
  t_MOST_STEPS : Tok
  g_MOST_STEPS : mg "MOST_STEPS" = some (.int (1000) t_MOST_STEPS)
  t_NULL : Tok
  g_NULL : mg "NULL" = some (.int (-1) t_NULL)
  t_PLACE : Tok
  g_PLACE : mg "PLACE" = some (.int (-2) t_PLACE)
  t_DIVIDED : Tok
  g_DIVIDED : mg "DIVIDED" = some (.int (-3) t_DIVIDED)
  t_KIND : Tok
  g_KIND : mg "KIND" = some (.int (-4) t_KIND)
  t_LOOK : Tok
  g_LOOK : mg "LOOK" = some (.int (-5) t_LOOK)
  t_ROOM : Tok
  g_ROOM : mg "ROOM" = some (.int (-6) t_ROOM)
  t_SIZE : Tok
  g_SIZE : mg "SIZE" = some (.int (-7) t_SIZE)
  t_TRANSACTION : Tok
  g_TRANSACTION : mg "TRANSACTION" = some (.int (-8) t_TRANSACTION)
  t_DEPTH : Tok
  g_DEPTH : mg "DEPTH" = some (.int (-9) t_DEPTH)
  t_STEPS : Tok
  g_STEPS : mg "STEPS" = some (.int (-10) t_STEPS)
section
variable {P : Program} {w : World} {K : PySem.W.Frag} {mg : Str → Option Value} {base : Heap}
/-! ### the errors' own __init__ -/
def spI1 (C : Addr) (f : Str) : Sp := fun vs H Q _ => ∃ (a : Addr) (v : V), vs = [.ref a, v] ∧ H a = some (exo a C none) ∧ ∀ dx H', H dx = none → dx ≠ a → H' a = some (exo a C (some dx)) → H' dx = some (exd dx [(f, v)]) → Kp [a] H H' → Q .non H'
def spI2 (C : Addr) (f g : Str) : Sp := fun vs H Q _ => ∃ (a : Addr) (v u : V), vs = [.ref a, v, u] ∧ H a = some (exo a C none) ∧ ∀ dx H', H dx = none → dx ≠ a → H' a = some (exo a C (some dx)) → H' dx = some (exd dx [(g, u), (f, v)]) → Kp [a] H H' → Q .non H'
theorem kp_exn {H : Hp} {a dx : Addr} {o u : HO} (n : H dx = none) (ne : dx ≠ a) : Kp [a] H (upd (upd H dx o) a u) := fun b x hb e => by
  rw [upd_ne (by simpa using hb), upd_ne (ne_of_none e n)]; exact e
def sp_BadSource_init {K : PySem.W.Frag} {mg : Str → Option Value} (T : Txt K mg) : Sp := spI2 T.c_BadSource "line" "reason"
theorem ok_BadSource_init (T : Txt K mg) : FnOk P w K mg base CX0 1 T.f_BadSource_init T.d_BadSource_init ["self", "line", "reason"] (sp_BadSource_init T) := by
  refine T.k_BadSource_init.ok sc_BadSource_init (fun vs H Q E h => ?_) (fun cdv A outer s H vs Q E hr h => ?_)
  · obtain ⟨a, v, u, rfl, _⟩ := h
    rfl
  · obtain ⟨a, v, u, rfl, ha, q⟩ := h
    refine ⟨_, (pss_cons (ps_ost (pv 0) (pv 1) rfl)
      (pss_one (ps_ost (pv 0) (pv 2) rfl))), ?_⟩
    walk_at "rd"
    refine rdSeq ?_
    walk_at "rd"
    refine i_ost T.ox_BadSource T.on_BadSource_line ha fun dx hd ne => ?_
    refine i_ost2 T.ox_BadSource T.on_BadSource_reason upd_same (by rw [upd_ne ne, upd_same]) (by show 1 ≤ 900; decide) ?_
    exact q dx _ hd ne (by rw [upd_ne (Ne.symm ne), upd_same]) upd_same (fun b x hb e => by rw [upd_ne (ne_of_none e hd)]; exact kp_exn hd ne b x hb e)
def sp_BadScript_init {K : PySem.W.Frag} {mg : Str → Option Value} (T : Txt K mg) : Sp := spI2 T.c_BadScript "line" "reason"
theorem ok_BadScript_init (T : Txt K mg) : FnOk P w K mg base CX0 1 T.f_BadScript_init T.d_BadScript_init ["self", "line", "reason"] (sp_BadScript_init T) := by
  refine T.k_BadScript_init.ok sc_BadScript_init (fun vs H Q E h => ?_) (fun cdv A outer s H vs Q E hr h => ?_)
  · obtain ⟨a, v, u, rfl, _⟩ := h
    rfl
  · obtain ⟨a, v, u, rfl, ha, q⟩ := h
    refine ⟨_, (pss_cons (ps_ost (pv 0) (pv 1) rfl)
      (pss_one (ps_ost (pv 0) (pv 2) rfl))), ?_⟩
    walk_at "rd"
    refine rdSeq ?_
    walk_at "rd"
    refine i_ost T.ox_BadScript T.on_BadScript_line ha fun dx hd ne => ?_
    refine i_ost2 T.ox_BadScript T.on_BadScript_reason upd_same (by rw [upd_ne ne, upd_same]) (by show 1 ≤ 900; decide) ?_
    exact q dx _ hd ne (by rw [upd_ne (Ne.symm ne), upd_same]) upd_same (fun b x hb e => by rw [upd_ne (ne_of_none e hd)]; exact kp_exn hd ne b x hb e)
def sp_BadProgram_init {K : PySem.W.Frag} {mg : Str → Option Value} (T : Txt K mg) : Sp := spI1 T.c_BadProgram "reason"
theorem ok_BadProgram_init (T : Txt K mg) : FnOk P w K mg base CX0 1 T.f_BadProgram_init T.d_BadProgram_init ["self", "reason"] (sp_BadProgram_init T) := by
  refine T.k_BadProgram_init.ok sc_BadProgram_init (fun vs H Q E h => ?_) (fun cdv A outer s H vs Q E hr h => ?_)
  · obtain ⟨a, v, rfl, _⟩ := h
    rfl
  · obtain ⟨a, v, rfl, ha, q⟩ := h
    refine ⟨_, (pss_one (ps_ost (pv 0) (pv 1) rfl)), ?_⟩
    walk_at "rd"
    refine i_ost T.ox_BadProgram T.on_BadProgram_reason ha fun dx hd ne => ?_
    exact q dx _ hd ne upd_same (by rw [upd_ne ne, upd_same]) (kp_exn hd ne)
def sp_Fault_init {K : PySem.W.Frag} {mg : Str → Option Value} (T : Txt K mg) : Sp := spI1 T.c_Fault "code"
theorem ok_Fault_init (T : Txt K mg) : FnOk P w K mg base CX0 1 T.f_Fault_init T.d_Fault_init ["self", "code"] (sp_Fault_init T) := by
  refine T.k_Fault_init.ok sc_Fault_init (fun vs H Q E h => ?_) (fun cdv A outer s H vs Q E hr h => ?_)
  · obtain ⟨a, v, rfl, _⟩ := h
    rfl
  · obtain ⟨a, v, rfl, ha, q⟩ := h
    refine ⟨_, (pss_one (ps_ost (pv 0) (pv 1) rfl)), ?_⟩
    walk_at "rd"
    refine i_ost T.ox_Fault T.on_Fault_code ha fun dx hd ne => ?_
    exact q dx _ hd ne upd_same (by rw [upd_ne ne, upd_same]) (kp_exn hd ne)
def sp_law_cell {K : PySem.W.Frag} {mg : Str → Option Value} (_ : Txt K mg) : Sp := fun vs H Q _ => ∃ (a : Addr) (ns : List Int) (k : Nat), vs = [.ref a, .int k] ∧ SqL K H a (ns.map V.int) ∧ ns.length ≤ 63 ∧ ∀ i : Int, Q (.int i) H
theorem ok_law_cell (T : Txt K mg) : FnOk P w K mg base CX0 1 T.f_law_cell T.d_law_cell ["_law_script", "_law_k"] (sp_law_cell T) := by
  refine T.k_law_cell.ok sc_law_cell (fun vs H Q E h => ?_) (fun cdv A outer s H vs Q E hr h => ?_)
  · obtain ⟨a, ns, k, rfl, _⟩ := h
    rfl
  · obtain ⟨a, ns, k, rfl, hS, hl, q⟩ := h
    refine ⟨_, (pss_cons (ps_if (pt_cmpR op_lt (pv 1) (pe_callB (lenLK K) (by rfl) T.m_len (by decide +kernel) (pa_cons (pv 0) pa_nil)) (nomark _)) (pss_one (ps_ret (pe_callTy call_intI (by rfl) T.m_int (by decide +kernel) (pa_cons (pe_ix (ix_listK K) (pv 0) (pv 1) (fun _ _ => rfl)) pa_nil)))) pss_nil)
      (pss_one (ps_ret pe_int))), ?_⟩
    walk_at "rd"
    refine rdSeq ?_
    walk_at "rd"
    refine i_lenL hS ?_
    rw [List.length_map]
    walk_at "rd"
    refine ite2 (fun h => ?_) (fun h => q _)
    have hk : k < ns.length := by omega
    refine i_ixL hS (atI_nat (j := k) (v := .int ns[k]) (by rw [List.getElem?_map, List.getElem?_eq_getElem hk]; rfl)) ?_
    walk_at "rd"
    exact q _
def eCs {K : PySem.W.Frag} {mg : Str → Option Value} (T : Txt K mg) : List Addr := [T.c_BadSource, T.c_BadTree, T.c_BadProgram, T.c_BadModule, T.c_BadPackage, T.c_BadLink, T.c_BadCode, T.c_BadPaper, T.c_BadScript, T.c_Fault, T.c_StepsGone, T.c_PowerCut]
theorem i_isX {K : PySem.W.Frag} {a D : Addr} {c : V} {cv : Value} {b : Bool} {H : Hp} {Q : VK} (h : ErrAt H a D) (hC : ExcC K D) (hv : ∀ u, RelV c u → u = cv) (ek : PySem.W.kitOne K (.ref D) cv = some b) (q : Q (.bl b) H) : rIsX K [.ref a, c] H Q := ⟨a, D, c, cv, b, rfl, h, hC, hv, ek, q⟩
theorem rv_ref {c : Addr} : ∀ u, RelV (.ref c) u → u = .ref c := fun _ h => h
theorem rv_ty {t : String} : ∀ u, RelV (.ty t) u → u = .type t := fun _ h => h
theorem row12 {K : PySem.W.Frag} {t : Value} {c0 c1 c2 c3 c4 c5 c6 c7 c8 c9 c10 c11 : Addr} {bs : List Bool} (r : KRow K t [c0, c1, c2, c3, c4, c5, c6, c7, c8, c9, c10, c11] bs) : ∃ b0 b1 b2 b3 b4 b5 b6 b7 b8 b9 b10 b11, bs = [b0, b1, b2, b3, b4, b5, b6, b7, b8, b9, b10, b11] ∧ PySem.W.kitOne K t (.ref c0) = some b0 ∧ PySem.W.kitOne K t (.ref c1) = some b1 ∧ PySem.W.kitOne K t (.ref c2) = some b2 ∧ PySem.W.kitOne K t (.ref c3) = some b3 ∧ PySem.W.kitOne K t (.ref c4) = some b4 ∧ PySem.W.kitOne K t (.ref c5) = some b5 ∧ PySem.W.kitOne K t (.ref c6) = some b6 ∧ PySem.W.kitOne K t (.ref c7) = some b7 ∧ PySem.W.kitOne K t (.ref c8) = some b8 ∧ PySem.W.kitOne K t (.ref c9) = some b9 ∧ PySem.W.kitOne K t (.ref c10) = some b10 ∧ PySem.W.kitOne K t (.ref c11) = some b11 := by
  cases r with
  | cons h0 r =>
    cases r with
    | cons h1 r =>
      cases r with
      | cons h2 r =>
        cases r with
        | cons h3 r =>
          cases r with
          | cons h4 r =>
            cases r with
            | cons h5 r =>
              cases r with
              | cons h6 r =>
                cases r with
                | cons h7 r =>
                  cases r with
                  | cons h8 r =>
                    cases r with
                    | cons h9 r =>
                      cases r with
                      | cons h10 r =>
                        cases r with
                        | cons h11 r =>
                          cases r
                          exact ⟨_, _, _, _, _, _, _, _, _, _, _, _, rfl, h0, h1, h2, h3, h4, h5, h6, h7, h8, h9, h10, h11⟩
def sp_law_kinds {K : PySem.W.Frag} {mg : Str → Option Value} (T : Txt K mg) : Sp := fun vs H Q _ => ∃ (a D : Addr) (bs : List Bool), vs = [.ref a] ∧ ErrAt H a D ∧ ErrC K (eCs T) T.c_CardError D bs ∧ ∀ p H', Same H H' → H' p = some (.lst (bs.map V.bl)) → Q (.ref p) H'
theorem ok_law_kinds (T : Txt K mg) : FnOk P w K mg base CX0 1 T.f_law_kinds T.d_law_kinds ["_law_e"] (sp_law_kinds T) := by
  refine T.k_law_kinds.ok sc_law_kinds (fun vs H Q E h => ?_) (fun cdv A outer s H vs Q E hr h => ?_)
  · obtain ⟨a, D, bs, rfl, _⟩ := h
    rfl
  · obtain ⟨a, D, bs, rfl, ha, hC, q⟩ := h
    refine ⟨_, (pss_cons (ps_set (i := 1) sc_law_kinds.nd rfl (.inl rfl) (pe_lst (pa_cons (pe_callB (isXK K) (by rfl) T.m_isinstance (by decide +kernel) (pa_cons (pv 0) (pa_cons (pe_glob (v := .ref T.c_BadSource) rfl T.g_BadSource rfl) pa_nil))) (pa_cons (pe_callB (isXK K) (by rfl) T.m_isinstance (by decide +kernel) (pa_cons (pv 0) (pa_cons (pe_glob (v := .ref T.c_BadTree) rfl T.g_BadTree rfl) pa_nil))) (pa_cons (pe_callB (isXK K) (by rfl) T.m_isinstance (by decide +kernel) (pa_cons (pv 0) (pa_cons (pe_glob (v := .ref T.c_BadProgram) rfl T.g_BadProgram rfl) pa_nil))) (pa_cons (pe_callB (isXK K) (by rfl) T.m_isinstance (by decide +kernel) (pa_cons (pv 0) (pa_cons (pe_glob (v := .ref T.c_BadModule) rfl T.g_BadModule rfl) pa_nil))) pa_nil))))))
      (pss_cons (ps_set (i := 1) sc_law_kinds.nd rfl (.inl rfl) (pe_op op_cat (pv 1) (pe_lst (pa_cons (pe_callB (isXK K) (by rfl) T.m_isinstance (by decide +kernel) (pa_cons (pv 0) (pa_cons (pe_glob (v := .ref T.c_BadPackage) rfl T.g_BadPackage rfl) pa_nil))) (pa_cons (pe_callB (isXK K) (by rfl) T.m_isinstance (by decide +kernel) (pa_cons (pv 0) (pa_cons (pe_glob (v := .ref T.c_BadLink) rfl T.g_BadLink rfl) pa_nil))) (pa_cons (pe_callB (isXK K) (by rfl) T.m_isinstance (by decide +kernel) (pa_cons (pv 0) (pa_cons (pe_glob (v := .ref T.c_BadCode) rfl T.g_BadCode rfl) pa_nil))) (pa_cons (pe_callB (isXK K) (by rfl) T.m_isinstance (by decide +kernel) (pa_cons (pv 0) (pa_cons (pe_glob (v := .ref T.c_BadPaper) rfl T.g_BadPaper rfl) pa_nil))) pa_nil)))))))
      (pss_one (ps_ret (pe_op op_cat (pv 1) (pe_lst (pa_cons (pe_callB (isXK K) (by rfl) T.m_isinstance (by decide +kernel) (pa_cons (pv 0) (pa_cons (pe_glob (v := .ref T.c_BadScript) rfl T.g_BadScript rfl) pa_nil))) (pa_cons (pe_callB (isXK K) (by rfl) T.m_isinstance (by decide +kernel) (pa_cons (pv 0) (pa_cons (pe_glob (v := .ref T.c_Fault) rfl T.g_Fault rfl) pa_nil))) (pa_cons (pe_callB (isXK K) (by rfl) T.m_isinstance (by decide +kernel) (pa_cons (pv 0) (pa_cons (pe_glob (v := .ref T.c_StepsGone) rfl T.g_StepsGone rfl) pa_nil))) (pa_cons (pe_callB (isXK K) (by rfl) T.m_isinstance (by decide +kernel) (pa_cons (pv 0) (pa_cons (pe_glob (v := .ref T.c_PowerCut) rfl T.g_PowerCut rfl) pa_nil))) pa_nil)))))))))), ?_⟩
    have ec := hC.ec
    have r : KRow K (.ref D) [T.c_BadSource, T.c_BadTree, T.c_BadProgram, T.c_BadModule, T.c_BadPackage, T.c_BadLink, T.c_BadCode, T.c_BadPaper, T.c_BadScript, T.c_Fault, T.c_StepsGone, T.c_PowerCut] bs := hC.row
    obtain ⟨b0, b1, b2, b3, b4, b5, b6, b7, b8, b9, b10, b11, rfl, h0, h1, h2, h3, h4, h5, h6, h7, h8, h9, h10, h11⟩ := row12 r
    walk_at "rd"
    refine rdSeq ?_
    walk_at "rd"
    refine i_isX ha ec rv_ref h0 (i_isX ha ec rv_ref h1 (i_isX ha ec rv_ref h2 (i_isX ha ec rv_ref h3 ?_)))
    intro p1 hp1
    refine rdSeq ?_
    walk_at "rd"
    have s1 : Same H (upd H p1 (.lst [.bl b0, .bl b1, .bl b2, .bl b3])) := same_new hp1
    have w1 : upd H p1 (.lst [.bl b0, .bl b1, .bl b2, .bl b3]) p1 = some (.lst [.bl b0, .bl b1, .bl b2, .bl b3]) := upd_same
    generalize upd H p1 (.lst [.bl b0, .bl b1, .bl b2, .bl b3]) = H1 at s1 w1
    have e1 := ha.same s1
    refine i_isX e1 ec rv_ref h4 (i_isX e1 ec rv_ref h5 (i_isX e1 ec rv_ref h6 (i_isX e1 ec rv_ref h7 ?_)))
    intro p2 hp2
    refine i_cat (same_new hp2 _ _ w1) upd_same (line5 (by show 4 + 4 ≤ 100000; decide)) fun p3 hp3 => ?_
    have s3 : Same H1 (upd (upd H1 p2 (.lst [.bl b4, .bl b5, .bl b6, .bl b7])) p3 (.lst [.bl b0, .bl b1, .bl b2, .bl b3, .bl b4, .bl b5, .bl b6, .bl b7])) := (same_new hp2).trans (same_new hp3)
    have w3 : upd (upd H1 p2 (.lst [.bl b4, .bl b5, .bl b6, .bl b7])) p3 (.lst [.bl b0, .bl b1, .bl b2, .bl b3, .bl b4, .bl b5, .bl b6, .bl b7]) p3 = some (.lst [.bl b0, .bl b1, .bl b2, .bl b3, .bl b4, .bl b5, .bl b6, .bl b7]) := upd_same
    show rIsX K _ (upd (upd H1 p2 (.lst [.bl b4, .bl b5, .bl b6, .bl b7])) p3 (.lst [.bl b0, .bl b1, .bl b2, .bl b3, .bl b4, .bl b5, .bl b6, .bl b7])) _
    generalize upd (upd H1 p2 (.lst [.bl b4, .bl b5, .bl b6, .bl b7])) p3 (.lst [.bl b0, .bl b1, .bl b2, .bl b3, .bl b4, .bl b5, .bl b6, .bl b7]) = H3 at s3 w3
    have e3 := e1.same s3
    refine i_isX e3 ec rv_ref h8 (i_isX e3 ec rv_ref h9 (i_isX e3 ec rv_ref h10 (i_isX e3 ec rv_ref h11 ?_)))
    intro p4 hp4
    refine i_cat (same_new hp4 _ _ w3) upd_same (line5 (by show 8 + 4 ≤ 100000; decide)) fun p5 hp5 => ?_
    exact q p5 _ (s1.trans (s3.trans ((same_new hp4).trans (same_new hp5)))) upd_same
theorem dpBools {K : PySem.W.Frag} {H : Hp} : ∀ l : List Bool, DpAll K H (l.map V.bl) (l.map PyData.bool)
  | [] => .nil
  | x :: l => .cons (.bl x) (dpBools l)
theorem bools_lay : ∀ l : List Bool, PyData.canLayAll0 (l.map PyData.bool) = true ∧ PyData.depthAll (l.map PyData.bool) = 0
  | [] => by simp [PyData.canLayAll0, PyData.depthAll]
  | x :: l => by simp [PyData.canLayAll0, PyData.depthAll, PyData.canLay0, PyData.depth, (bools_lay l).1, (bools_lay l).2]
theorem bools_shaped (l : List Bool) : SeqAt.shaped (.list (l.map PyData.bool)) = true := by
  simp [SeqAt.shaped, PyData.canLay0, PyData.depth, (bools_lay l).1, (bools_lay l).2]
def kBs (k : Nat) : List Bool := (List.range 12).map fun j => decide (j = k)
def ErrsAt {K : PySem.W.Frag} {mg : Str → Option Value} (T : Txt K mg) (H : Hp) (p : Addr) (as : List Addr) : Prop := H p = some (.lst (as.map V.ref)) ∧ as.length = 12 ∧ ∀ (k : Nat) (a : Addr), as[k]? = some a → ∃ D, ErrAt H a D ∧ ErrC K (eCs T) T.c_CardError D (kBs k)
theorem ErrsAt.same {K : PySem.W.Frag} {mg : Str → Option Value} {T : Txt K mg} {H H' : Hp} {p : Addr} {as : List Addr} (h : ErrsAt T H p as) (s : Same H H') : ErrsAt T H' p as :=
  ⟨s _ _ h.1, h.2.1, fun k a e => by obtain ⟨D, h1, h2⟩ := h.2.2 k a e; exact ⟨D, h1.same s, h2⟩⟩
def sp_law_right {K : PySem.W.Frag} {mg : Str → Option Value} (T : Txt K mg) : Sp := fun vs H Q _ => ∃ (p : Addr) (as : List Addr), vs = [.ref p] ∧ ErrsAt T H p as ∧ ∀ H', Same H H' → Q (.bl true) H'
theorem ok_law_right (T : Txt K mg) : FnOk P w K mg base CX0 2 T.f_law_right T.d_law_right ["_law_errors"] (sp_law_right T) := by
  refine T.k_law_right.ok sc_law_right (fun vs H Q E h => ?_) (fun cdv A outer s H vs Q E hr h => ?_)
  · obtain ⟨p, as, rfl, _⟩ := h
    rfl
  · obtain ⟨p, as, rfl, hp, q⟩ := h
    refine ⟨_, (pss_cons (ps_for PassesOwn.never rfl (pi_range1 (by rfl) T.m_range (pa_cons pe_int pa_nil)) (pg_name (i := 1) sc_law_right.nd rfl (Or.inr rfl)) (pss_cons (ps_if (PW.pt (pw_or (pt_not (pt_val (pe_callB (isXK K) (by rfl) T.m_isinstance (by decide +kernel) (pa_cons (pe_ix (ix_listK K) (pv 0) (pv 1) (fun _ _ => rfl)) (pa_cons (pe_glob (v := .ref T.c_CardError) rfl T.g_CardError rfl) pa_nil))))) (pw_or1 (pt_not (pt_val (pe_callB (isXK K) (by rfl) T.m_isinstance (by decide +kernel) (pa_cons (pe_ix (ix_listK K) (pv 0) (pv 1) (fun _ _ => rfl)) (pa_cons (pe_bltn (v := .ty "ValueError") (by rfl) T.m_ValueError (by decide +kernel) rfl) pa_nil)))))))) (pss_one (ps_ret pe_bl)) pss_nil)
      (pss_one (ps_if (pt_cmpR (op_neD hr.units) (pe_call (ok_law_kinds T) (hr.mono (by decide)) (by rfl) T.g_law_kinds T.k_law_kinds.kp T.b_law_kinds .nil pass0 (pa_cons (pe_ix (ix_listK K) (pv 0) (pv 1) (fun _ _ => rfl)) pa_nil)) (pe_lc (own := [("_law_j", 2)]) (g := gName 2) (tt := tYes) rfl sc_law_right.nd (pi_range1 (by rfl) T.m_range (pa_cons pe_int pa_nil)) (blkOk_by (own := [("_law_j", 2)]) (N := ["_law_errors", "_law_k", "_law_j"]) (sc := defScope s_law_right) (by decide +kernel)) (fun _ _ _ _ _ => pg_name (i := 2) sc_law_right.nd rfl (Or.inl rfl)) (fun _ _ _ _ _ => pts_nil) (fun _ _ _ _ _ => (pe_cmpR op_eq (pv 2) (pv 1) (nomark _)))) (nomark _)) (pss_one (ps_ret pe_bl)) pss_nil))))
      (pss_one (ps_ret pe_bl))), ?_⟩
    walk_at "rd"
    refine rdSeq ?_
    walk_at "rd"
    refine ⟨by decide, by decide, i_for walk_range (fun i σ H' => Same H H' ∧ ∃ y1 y2, σ = [some (.ref p), y1, y2]) ⟨fun _ _ h => h, _, _, rfl⟩ (fun _ _ _ _ _ => trivial) ?_ ?_⟩
    · rintro i _ σ _ H1 hi ⟨s1, y1, y2, rfl⟩ ⟨rfl, rfl⟩
      have hi : i < 12 := hi
      have hp1 := hp.same s1
      obtain ⟨ha, hl, hall⟩ := hp1
      have hia : i < as.length := by omega
      obtain ⟨D, he, hC⟩ := hall i as[i] (List.getElem?_eq_getElem hia)
      have hat : atI (as.map V.ref) (0 + (i : Int)) = some (.ref as[i]) := by rw [Int.zero_add]; exact atI_nat (by rw [List.getElem?_map, List.getElem?_eq_getElem hia]; rfl)
      refine rdSeq ?_
      walk_at "rd"
      refine i_ixL (sqL_of ha) hat ?_
      refine i_isX he hC.ec rv_ref hC.card ?_
      walk_at "rd"
      refine i_ixL (sqL_of ha) hat ?_
      refine i_isX he hC.ec rv_ty hC.val ?_
      walk_at "rd"
      refine i_ixL (sqL_of ha) hat ?_
      refine ⟨as[i], D, kBs i, rfl, he, hC, fun p2 H2 s2 hp2 => ?_⟩
      walk_at "rd"
      refine ⟨by decide, by decide, i_lcL (walk_rangeL (lo := 0) (n := 12)) (fun j => .bl (decide ((0 : Int) + (j : Int) = 0 + (i : Int)))) (by rw [List.length_range]; exact line5' (by decide)) (fun _ _ _ => trivial) (fun j hj H3 Q' sm q' => ?_) fun d hd => ?_⟩
      · walk_at "rd"
        exact q'
      · have eb : ((List.range 12).map fun j : Nat => V.bl (decide ((0 : Int) + (j : Int) = 0 + (i : Int)))) = (kBs i).map V.bl := by
          unfold kBs
          rw [List.map_map]
          apply List.map_congr_left
          intro j _
          show V.bl _ = V.bl _
          congr 1
          exact decide_eq_decide.mpr (by omega)
        have er : (List.range (Int.toNat 12)) = List.range 12 := rfl
        refine i_neD (.lst (sqL_of (same_new hd _ _ hp2)) (dpBools (kBs i))) (.lst (sqL_of (by rw [upd_same, ← eb])) (dpBools (kBs i))) (bools_shaped _) ?_
        walk_at "rd"
        exact s1.trans (s2.trans (same_new hd))
    · rintro σ H1 ⟨s1, y1, y2, rfl⟩
      dsimp only
      walk_at "rd"
      exact q _ s1
def sp_law_raised {K : PySem.W.Frag} {mg : Str → Option Value} (_ : Txt K mg) : Sp := fun vs H Q _ => ∃ c : Int, vs = [.int c] ∧ ∀ H', Same H H' → Q (.bl true) H'
theorem ok_law_raised (T : Txt K mg) : FnOk P w K mg base CX0 3 T.f_law_raised T.d_law_raised ["_law_code"] (sp_law_raised T) := by
  refine T.k_law_raised.ok sc_law_raised (fun vs H Q E h => ?_) (fun cdv A outer s H vs Q E hr h => ?_)
  · obtain ⟨c, rfl, _⟩ := h
    rfl
  · obtain ⟨c, rfl, q⟩ := h
    refine ⟨_, (pss_one (ps_try_as (i := 1) rfl rfl sc_law_raised.nd rfl rfl ⟨rfl, by decide, .inl T.g_CardError⟩ takes0 (fun W pn xe tk po => (pss_one (ps_raise rfl tk (pmk_oex T.ox_Fault T.in_Fault T.ti_Fault (ok_Fault_init T) (hr.mono (by decide)) T.b_Fault_init .nil pass0 rfl T.g_Fault (pa_cons (pv 0) pa_nil))))) (fun a oe cls d pn hz hf => (pss_one (ps_ret (pe_and (pe_callB (isSK K hz hf) (by rfl) T.m_isinstance (by decide +kernel) (pa_cons (pv 1) (pa_cons (pe_glob (v := .ref T.c_Fault) rfl T.g_Fault rfl) pa_nil))) (pe_one (pe_cmpR op_eq (pe_xf T.xf_Fault T.on_Fault_code hz hf (pv 1) rfl) (pv 0) (nomark _))))))))), ?_⟩
    walk_at "rd"
    refine ⟨by show 1 ≤ 1000; decide, fun a0 ha0 => ⟨a0, .int c, rfl, upd_same, fun dx H' hd ne h1 h2 kp => ⟨rfl, dx, [("code", .int c)], h1, h2, by rw [upd_ne ne] at hd; exact hd, ?_⟩⟩⟩
    have hd0 : H dx = none := by rw [upd_ne ne] at hd; exact hd
    refine i_catchAs T.ex_Fault_CardError fun a na => ?_
    walk_at "rd"
    refine ⟨T.c_Fault, _, _, true, rfl, rfl, T.er_Fault.ec, fun dd e => by cases e; exact ⟨_, upd_same⟩, rv_ref, kit_self, ?_⟩
    walk_at "rd"
    refine i_xf upd_same rfl ?_
    walk_at "rd"
    refine q _ fun b o e => ?_
    rw [upd_ne (ne_of_none e hd0), del_ne (ne_of_none e ha0)]
    exact kp b o (by simp [ne_of_none e ha0]) (by rw [upd_ne (ne_of_none e ha0)]; exact e)
theorem i_mkV1 {C : Addr} {f : Str} {v : V} {H : Hp} {Q : VK} (q : ∀ a dx H', H a = none → Same H H' → H' a = some (exo a C (some dx)) → H' dx = some (exd dx [(f, v)]) → Q (.ref a) H') : rMkV C (spI1 C f) [v] H Q :=
  ⟨by show 1 ≤ 1000; decide, fun a ha => ⟨a, v, rfl, upd_same, fun dx H' hd ne h1 h2 kp => ⟨rfl, q a dx H' ha (fun b o e => kp b o (by simp [ne_of_none e ha]) (by rw [upd_ne (ne_of_none e ha)]; exact e)) h1 h2⟩⟩⟩
theorem i_mkV2 {C : Addr} {f g : Str} {v u : V} {H : Hp} {Q : VK} (q : ∀ a dx H', H a = none → Same H H' → H' a = some (exo a C (some dx)) → H' dx = some (exd dx [(g, u), (f, v)]) → Q (.ref a) H') : rMkV C (spI2 C f g) [v, u] H Q :=
  ⟨by show 2 ≤ 1000; decide, fun a ha => ⟨a, v, u, rfl, upd_same, fun dx H' hd ne h1 h2 kp => ⟨rfl, q a dx H' ha (fun b o e => kp b o (by simp [ne_of_none e ha]) (by rw [upd_ne (ne_of_none e ha)]; exact e)) h1 h2⟩⟩⟩
theorem i_xv {C a dd : Addr} {f : Str} {fs : List (Str × V)} {v : V} {H : Hp} {Q : VK} (h : H a = some (exo a C (some dd))) (hd : H dd = some (exd dd fs)) (l : fs.lookup f = some v) (q : Q v H) : rXv C f (.ref a) H Q := ⟨a, dd, fs, v, rfl, h, hd, l, q⟩
def sp_law (K : PySem.W.Frag) : Sp := fun vs H Q _ => ∃ (a : Addr) (ns : List Int), vs = [.ref a] ∧ SqL K H a (ns.map V.int) ∧ ns.length ≤ 63 ∧ ∀ H', Q (.bl true) H'
theorem ok_law (T : Txt K mg) : FnOk P w K mg base CX0 4 T.f_law T.d_law ["_law_script"] (sp_law K) := by
  refine T.k_law.ok sc_law (fun vs H Q E h => ?_) (fun cdv A outer s H vs Q E hr h => ?_)
  · obtain ⟨a, ns, rfl, _⟩ := h
    rfl
  · obtain ⟨a, ns', rfl, hS, hl', q⟩ := h
    refine ⟨_, (pss_cons (ps_set (i := 1) sc_law.nd rfl (.inl rfl) (pe_op op_modP (pe_call (ok_law_cell T) (hr.mono (by decide)) (by rfl) T.g_law_cell T.k_law_cell.kp T.b_law_cell .nil pass0 (pa_cons (pv 0) (pa_cons pe_int pa_nil))) (pe_op op_pow pe_int pe_int)))
      (pss_cons (ps_set (i := 2) sc_law.nd rfl (.inl rfl) (pe_ix (ix_listK K) (pe_lst (pa_cons pe_str (pa_cons pe_str (pa_cons pe_str pa_nil)))) (pe_op op_modP (pe_call (ok_law_cell T) (hr.mono (by decide)) (by rfl) T.g_law_cell T.k_law_cell.kp T.b_law_cell .nil pass0 (pa_cons (pv 0) (pa_cons pe_int pa_nil))) pe_int) (fun _ _ => rfl)))
      (pss_cons (ps_set (i := 3) sc_law.nd rfl (.inl rfl) (pe_op op_sub (pe_op op_modP (pe_call (ok_law_cell T) (hr.mono (by decide)) (by rfl) T.g_law_cell T.k_law_cell.kp T.b_law_cell .nil pass0 (pa_cons (pv 0) (pa_cons pe_int pa_nil))) pe_int) pe_int))
      (pss_cons (ps_set (i := 4) sc_law.nd rfl (.inl rfl) (pe_oexV T.ox_BadSource T.in_BadSource T.ti_BadSource (ok_BadSource_init T) (hr.mono (by decide)) T.b_BadSource_init pass0 rfl T.g_BadSource (pa_cons (pv 1) (pa_cons (pv 2) pa_nil))))
      (pss_cons (ps_set (i := 5) sc_law.nd rfl (.inl rfl) (pe_oexV T.ox_BadScript T.in_BadScript T.ti_BadScript (ok_BadScript_init T) (hr.mono (by decide)) T.b_BadScript_init pass0 rfl T.g_BadScript (pa_cons (pe_op op_add (pv 1) pe_int) (pa_cons (pe_op op_add_str (pv 2) pe_str) pa_nil))))
      (pss_cons (ps_set (i := 6) sc_law.nd rfl (.inl rfl) (pe_oexV T.ox_BadProgram T.in_BadProgram T.ti_BadProgram (ok_BadProgram_init T) (hr.mono (by decide)) T.b_BadProgram_init pass0 rfl T.g_BadProgram (pa_cons (pv 2) pa_nil)))
      (pss_cons (ps_set (i := 7) sc_law.nd rfl (.inl rfl) (pe_lst (pa_cons (pv 4) (pa_cons (pe_exc0V PySem.F.excBase_ValueError T.x_BadTree.x T.g_BadTree T.x_BadTree.kp rfl) (pa_cons (pv 6) (pa_cons (pe_exc0V PySem.F.excBase_ValueError T.x_BadModule.x T.g_BadModule T.x_BadModule.kp rfl) (pa_cons (pe_exc0V PySem.F.excBase_ValueError T.x_BadPackage.x T.g_BadPackage T.x_BadPackage.kp rfl) (pa_cons (pe_exc0V PySem.F.excBase_ValueError T.x_BadLink.x T.g_BadLink T.x_BadLink.kp rfl) (pa_cons (pe_exc0V PySem.F.excBase_ValueError T.x_BadCode.x T.g_BadCode T.x_BadCode.kp rfl) (pa_cons (pe_exc0V PySem.F.excBase_ValueError T.x_BadPaper.x T.g_BadPaper T.x_BadPaper.kp rfl) (pa_cons (pv 5) (pa_cons (pe_oexV T.ox_Fault T.in_Fault T.ti_Fault (ok_Fault_init T) (hr.mono (by decide)) T.b_Fault_init pass0 rfl T.g_Fault (pa_cons (pv 3) pa_nil)) pa_nil))))))))))))
      (pss_cons (ps_if (PW.pt (pw_or (pt_not (pt_val (pe_call (ok_law_right T) (hr.mono (by decide)) (by rfl) T.g_law_right T.k_law_right.kp T.b_law_right .nil pass0 (pa_cons (pe_op op_cat (pv 7) (pe_lst (pa_cons (pe_exc0V PySem.F.excBase_ValueError T.x_StepsGone.x T.g_StepsGone T.x_StepsGone.kp rfl) (pa_cons (pe_exc0V PySem.F.excBase_ValueError T.x_PowerCut.x T.g_PowerCut T.x_PowerCut.kp rfl) pa_nil)))) pa_nil)))) (pw_or1 (pt_not (pt_val (pe_call (ok_law_raised T) (hr.mono (by decide)) (by rfl) T.g_law_raised T.k_law_raised.kp T.b_law_raised .nil pass0 (pa_cons (pv 3) pa_nil))))))) (pss_one (ps_ret pe_bl)) pss_nil)
      (pss_cons (ps_if (PW.pt (pw_or (pt_cmpR op_ne (pe_xv T.xf_BadSource T.on_BadSource_line (pv 4)) (pv 1) (nomark _)) (pw_or (pt_cmpR op_ne (pe_xv T.xf_BadSource T.on_BadSource_reason (pv 4)) (pv 2) (nomark _)) (pw_or (pt_cmpR op_ne (pe_xv T.xf_BadScript T.on_BadScript_line (pv 5)) (pe_op op_add (pv 1) pe_int) (nomark _)) (pw_or1 (pt_cmpR op_ne (pe_xv T.xf_BadScript T.on_BadScript_reason (pv 5)) (pe_op op_add_str (pv 2) pe_str) (nomark _))))))) (pss_one (ps_ret pe_bl)) pss_nil)
      (pss_cons (ps_if (pt_cmpR op_ne (pe_xv T.xf_BadProgram T.on_BadProgram_reason (pv 6)) (pv 2) (nomark _)) (pss_one (ps_ret pe_bl)) pss_nil)
      (pss_cons (ps_set (i := 8) sc_law.nd rfl (.inl rfl) (pe_lst (pa_cons (pe_glob (v := .int _) rfl T.g_MOST_SOURCE ⟨_, rfl⟩) (pa_cons (pe_glob (v := .int _) rfl T.g_MOST_NAME ⟨_, rfl⟩) (pa_cons (pe_glob (v := .int _) rfl T.g_MOST_TEXT ⟨_, rfl⟩) (pa_cons (pe_glob (v := .int _) rfl T.g_MOST_VERSION ⟨_, rfl⟩) (pa_cons (pe_glob (v := .int _) rfl T.g_MOST_ITEMS ⟨_, rfl⟩) (pa_cons (pe_glob (v := .int _) rfl T.g_MOST_METHODS ⟨_, rfl⟩) (pa_cons (pe_glob (v := .int _) rfl T.g_MOST_INT ⟨_, rfl⟩) (pa_cons (pe_glob (v := .int _) rfl T.g_MOST_OPEN ⟨_, rfl⟩) pa_nil))))))))))
      (pss_cons (ps_set (i := 8) sc_law.nd rfl (.inl rfl) (pe_op op_cat (pv 8) (pe_lst (pa_cons (pe_glob (v := .int _) rfl T.g_MOST_NESTED ⟨_, rfl⟩) (pa_cons (pe_glob (v := .int _) rfl T.g_MOST_NODES ⟨_, rfl⟩) (pa_cons (pe_glob (v := .int _) rfl T.g_MOST_CODE ⟨_, rfl⟩) pa_nil))))))
      (pss_cons (ps_set (i := 8) sc_law.nd rfl (.inl rfl) (pe_op op_cat (pv 8) (pe_lst (pa_cons (pe_glob (v := .int _) rfl T.g_MOST_STACK ⟨_, rfl⟩) (pa_cons (pe_glob (v := .int _) rfl T.g_MOST_HANDLERS ⟨_, rfl⟩) (pa_cons (pe_glob (v := .int _) rfl T.g_MOST_APPLETS ⟨_, rfl⟩) (pa_cons (pe_glob (v := .int _) rfl T.g_MOST_CHANNELS ⟨_, rfl⟩) (pa_cons (pe_glob (v := .int _) rfl T.g_MOST_BUFFER ⟨_, rfl⟩) (pa_cons (pe_glob (v := .int _) rfl T.g_MOST_BYTES ⟨_, rfl⟩) (pa_cons (pe_glob (v := .int _) rfl T.g_MOST_CELLS ⟨_, rfl⟩) pa_nil))))))))))
      (pss_cons (ps_set (i := 8) sc_law.nd rfl (.inl rfl) (pe_op op_cat (pv 8) (pe_lst (pa_cons (pe_glob (v := .int _) rfl T.g_MOST_OBJECTS ⟨_, rfl⟩) (pa_cons (pe_glob (v := .int _) rfl T.g_MOST_LOG ⟨_, rfl⟩) (pa_cons (pe_glob (v := .int _) rfl T.g_MOST_DEPTH ⟨_, rfl⟩) (pa_cons (pe_glob (v := .int _) rfl T.g_MOST_STEPS ⟨_, rfl⟩) pa_nil)))))))
      (pss_cons (ps_if (pt_cmpR (op_neD hr.units) (pv 8) (pe_lst (pa_cons pe_int (pa_cons pe_int (pa_cons pe_int (pa_cons pe_int (pa_cons pe_int (pa_cons pe_int (pa_cons pe_int (pa_cons pe_int (pa_cons pe_int (pa_cons pe_int (pa_cons pe_int (pa_cons pe_int (pa_cons pe_int (pa_cons pe_int (pa_cons pe_int (pa_cons pe_int (pa_cons pe_int (pa_cons pe_int (pa_cons pe_int (pa_cons pe_int (pa_cons pe_int (pa_cons pe_int pa_nil))))))))))))))))))))))) (nomark _)) (pss_one (ps_ret pe_bl)) pss_nil)
      (pss_cons (ps_set (i := 9) sc_law.nd rfl (.inl rfl) (pe_lst (pa_cons (pe_glob (v := .int _) rfl T.g_NULL ⟨_, rfl⟩) (pa_cons (pe_glob (v := .int _) rfl T.g_PLACE ⟨_, rfl⟩) (pa_cons (pe_glob (v := .int _) rfl T.g_DIVIDED ⟨_, rfl⟩) (pa_cons (pe_glob (v := .int _) rfl T.g_KIND ⟨_, rfl⟩) (pa_cons (pe_glob (v := .int _) rfl T.g_LOOK ⟨_, rfl⟩) (pa_cons (pe_glob (v := .int _) rfl T.g_ROOM ⟨_, rfl⟩) (pa_cons (pe_glob (v := .int _) rfl T.g_SIZE ⟨_, rfl⟩) (pa_cons (pe_glob (v := .int _) rfl T.g_TRANSACTION ⟨_, rfl⟩) (pa_cons (pe_glob (v := .int _) rfl T.g_DEPTH ⟨_, rfl⟩) (pa_cons (pe_glob (v := .int _) rfl T.g_STEPS ⟨_, rfl⟩) pa_nil))))))))))))
      (pss_one (ps_ret (pe_cmpR (op_eqD hr.units) (pv 9) (pe_lc (own := [("_law_k", 10)]) (g := gName 10) (tt := tYes) rfl sc_law.nd (pi_range1 (by rfl) T.m_range (pa_cons pe_int pa_nil)) (blkOk_by (own := [("_law_k", 10)]) (N := ["_law_script", "_law_line", "_law_reason", "_law_code", "_law_source", "_law_told", "_law_program", "_law_errors", "_law_limits", "_law_faults", "_law_k"]) (sc := defScope s_law) (by decide +kernel)) (fun _ _ _ _ _ => pg_name (i := 10) sc_law.nd rfl (Or.inl rfl)) (fun _ _ _ _ _ => pts_nil) (fun _ _ _ _ _ => (pe_op op_sub (pe_un un_neg pe_int) (pv 10)))) (nomark _)))))))))))))))))))), ?_⟩
    walk_at "rd"
    refine rdSeq ?_
    walk_at "rd"
    refine ⟨a, ns', 0, rfl, hS, hl', fun i0 => ⟨pow9, _, rfl, by decide, ?_⟩⟩
    generalize i0 % 10 ^ Int.toNat 9 = ln
    refine rdSeq ?_
    walk_at "rd"
    intro r0 hr0
    refine ⟨a, ns', 1, rfl, (same_new hr0).seq hS, hl', fun i1 => ?_⟩
    obtain ⟨vr, hv, hm⟩ := at_of (xs := [V.str "name", V.str "", V.str "nested too deeply"]) (i := i1 % 3) (by omega) (by show i1 % 3 < 3; omega)
    obtain ⟨rs, rfl, hrs⟩ : ∃ rs : Str, vr = .str rs ∧ rs.length ≤ 20 := by
      simp only [List.mem_cons, List.not_mem_nil, or_false] at hm
      rcases hm with rfl | rfl | rfl
      · exact ⟨_, rfl, by decide⟩
      · exact ⟨_, rfl, by decide⟩
      · exact ⟨_, rfl, by decide⟩
    refine ⟨_, rfl, i_ixL (sqL_of upd_same) hv ?_⟩
    refine rdSeq ?_
    walk_at "rd"
    refine ⟨a, ns', 2, rfl, (same_new hr0).seq hS, hl', fun i2 => ⟨_, rfl, ?_⟩⟩
    generalize i2 % 65536 - 32768 = cd
    generalize upd H r0 (.lst [V.str "name", V.str "", V.str "nested too deeply"]) = H0
    refine rdSeq ?_
    walk_at "rd"
    refine i_mkV2 fun a1 d1 H1 n1 s1 a1e d1e => ?_
    refine rdSeq ?_
    walk_at "rd"
    refine ⟨line5 (by show rs.length + 1 ≤ 100000; omega), i_mkV2 fun a2 d2 H2 n2 s2 a2e d2e => ?_⟩
    refine rdSeq ?_
    walk_at "rd"
    refine i_mkV1 fun a3 d3 H3 n3 s3 a3e d3e => ?_
    refine rdSeq ?_
    walk_at "rd"
    intro b1 hb1 b2 hb2 b3 hb3 b4 hb4 b5 hb5 b6 hb6
    have t1 : Same H3 (upd H3 b1 (exo b1 T.c_BadTree none)) := same_new hb1
    have e1 : upd H3 b1 (exo b1 T.c_BadTree none) b1 = some (exo b1 T.c_BadTree none) := upd_same
    generalize upd H3 b1 (exo b1 T.c_BadTree none) = K1 at *
    have t2 : Same K1 (upd K1 b2 (exo b2 T.c_BadModule none)) := same_new hb2
    have e2 : upd K1 b2 (exo b2 T.c_BadModule none) b2 = some (exo b2 T.c_BadModule none) := upd_same
    generalize upd K1 b2 (exo b2 T.c_BadModule none) = K2 at *
    have t3 : Same K2 (upd K2 b3 (exo b3 T.c_BadPackage none)) := same_new hb3
    have e3 : upd K2 b3 (exo b3 T.c_BadPackage none) b3 = some (exo b3 T.c_BadPackage none) := upd_same
    generalize upd K2 b3 (exo b3 T.c_BadPackage none) = K3 at *
    have t4 : Same K3 (upd K3 b4 (exo b4 T.c_BadLink none)) := same_new hb4
    have e4 : upd K3 b4 (exo b4 T.c_BadLink none) b4 = some (exo b4 T.c_BadLink none) := upd_same
    generalize upd K3 b4 (exo b4 T.c_BadLink none) = K4 at *
    have t5 : Same K4 (upd K4 b5 (exo b5 T.c_BadCode none)) := same_new hb5
    have e5 : upd K4 b5 (exo b5 T.c_BadCode none) b5 = some (exo b5 T.c_BadCode none) := upd_same
    generalize upd K4 b5 (exo b5 T.c_BadCode none) = K5 at *
    have t6 : Same K5 (upd K5 b6 (exo b6 T.c_BadPaper none)) := same_new hb6
    have e6 : upd K5 b6 (exo b6 T.c_BadPaper none) b6 = some (exo b6 T.c_BadPaper none) := upd_same
    generalize upd K5 b6 (exo b6 T.c_BadPaper none) = K6 at *
    refine i_mkV1 fun a4 d4 H4 n4 s4 a4e d4e => ?_
    intro p1 hp1
    refine rdSeq ?_
    walk_at "rd"
    have t7 : Same H4 (upd H4 p1 (.lst [V.ref a1, V.ref b1, V.ref a3, V.ref b2, V.ref b3, V.ref b4, V.ref b5, V.ref b6, V.ref a2, V.ref a4])) := same_new hp1
    have e7 : upd H4 p1 (.lst [V.ref a1, V.ref b1, V.ref a3, V.ref b2, V.ref b3, V.ref b4, V.ref b5, V.ref b6, V.ref a2, V.ref a4]) p1 = some (.lst [V.ref a1, V.ref b1, V.ref a3, V.ref b2, V.ref b3, V.ref b4, V.ref b5, V.ref b6, V.ref a2, V.ref a4]) := upd_same
    generalize upd H4 p1 (.lst [V.ref a1, V.ref b1, V.ref a3, V.ref b2, V.ref b3, V.ref b4, V.ref b5, V.ref b6, V.ref a2, V.ref a4]) = K7 at *
    intro b8 hb8
    have t8 : Same K7 (upd K7 b8 (exo b8 T.c_StepsGone none)) := same_new hb8
    have e8 : upd K7 b8 (exo b8 T.c_StepsGone none) b8 = some (exo b8 T.c_StepsGone none) := upd_same
    generalize upd K7 b8 (exo b8 T.c_StepsGone none) = K8 at *
    intro b9 hb9
    have t9 : Same K8 (upd K8 b9 (exo b9 T.c_PowerCut none)) := same_new hb9
    have e9 : upd K8 b9 (exo b9 T.c_PowerCut none) b9 = some (exo b9 T.c_PowerCut none) := upd_same
    generalize upd K8 b9 (exo b9 T.c_PowerCut none) = K9 at *
    intro p2 hp2
    refine i_cat (same_new hp2 _ _ (t9 _ _ (t8 _ _ e7))) upd_same (line5 (by show 10 + 2 ≤ 100000; decide)) fun p3 hp3 => ?_
    have t10 : Same K9 (upd (upd K9 p2 (.lst [V.ref b8, V.ref b9])) p3 (.lst ([V.ref a1, V.ref b1, V.ref a3, V.ref b2, V.ref b3, V.ref b4, V.ref b5, V.ref b6, V.ref a2, V.ref a4] ++ [V.ref b8, V.ref b9]))) := (same_new hp2).trans (same_new hp3)
    have e10 : upd (upd K9 p2 (.lst [V.ref b8, V.ref b9])) p3 (.lst ([V.ref a1, V.ref b1, V.ref a3, V.ref b2, V.ref b3, V.ref b4, V.ref b5, V.ref b6, V.ref a2, V.ref a4] ++ [V.ref b8, V.ref b9])) p3 = some (.lst ([V.ref a1, V.ref b1, V.ref a3, V.ref b2, V.ref b3, V.ref b4, V.ref b5, V.ref b6, V.ref a2, V.ref a4] ++ [V.ref b8, V.ref b9])) := upd_same
    generalize upd (upd K9 p2 (.lst [V.ref b8, V.ref b9])) p3 (.lst ([V.ref a1, V.ref b1, V.ref a3, V.ref b2, V.ref b3, V.ref b4, V.ref b5, V.ref b6, V.ref a2, V.ref a4] ++ [V.ref b8, V.ref b9])) = K10 at *
    have u9 : Same K9 K10 := t10
    have u8 : Same K8 K10 := t9.trans u9
    have u4 : Same H4 K10 := t7.trans (t8.trans u8)
    have u6 : Same K6 K10 := s4.trans u4
    have u5 : Same K5 K10 := t6.trans u6
    have v4 : Same K4 K10 := t5.trans u5
    have v3 : Same K3 K10 := t4.trans v4
    have v2 : Same K2 K10 := t3.trans v3
    have v1 : Same K1 K10 := t2.trans v2
    have w3 : Same H3 K10 := t1.trans v1
    have w2 : Same H2 K10 := s3.trans w3
    have w1 : Same H1 K10 := s2.trans w2
    refine ⟨p3, [a1, b1, a3, b2, b3, b4, b5, b6, a2, a4, b8, b9], rfl, ⟨e10, rfl, ?_⟩, fun H11 s11 => ?_⟩
    · intro k a e
      have key : ∀ (D : Addr) (bs : List Bool), ErrAt K10 a D → ErrC K (eCs T) T.c_CardError D bs → bs = kBs k → ∃ D, ErrAt K10 a D ∧ ErrC K (eCs T) T.c_CardError D (kBs k) := fun D bs h1 h2 h3 => ⟨D, h1, h3 ▸ h2⟩
      match k, e with
      | 0, e => cases e; exact key _ _ (.inr ⟨_, _, w1 _ _ a1e, w1 _ _ d1e⟩) T.er_BadSource (by decide +kernel)
      | 1, e => cases e; exact key _ _ (.inl (v1 _ _ e1)) T.er_BadTree (by decide +kernel)
      | 2, e => cases e; exact key _ _ (.inr ⟨_, _, w3 _ _ a3e, w3 _ _ d3e⟩) T.er_BadProgram (by decide +kernel)
      | 3, e => cases e; exact key _ _ (.inl (v2 _ _ e2)) T.er_BadModule (by decide +kernel)
      | 4, e => cases e; exact key _ _ (.inl (v3 _ _ e3)) T.er_BadPackage (by decide +kernel)
      | 5, e => cases e; exact key _ _ (.inl (v4 _ _ e4)) T.er_BadLink (by decide +kernel)
      | 6, e => cases e; exact key _ _ (.inl (u5 _ _ e5)) T.er_BadCode (by decide +kernel)
      | 7, e => cases e; exact key _ _ (.inl (u6 _ _ e6)) T.er_BadPaper (by decide +kernel)
      | 8, e => cases e; exact key _ _ (.inr ⟨_, _, w2 _ _ a2e, w2 _ _ d2e⟩) T.er_BadScript (by decide +kernel)
      | 9, e => cases e; exact key _ _ (.inr ⟨_, _, u4 _ _ a4e, u4 _ _ d4e⟩) T.er_Fault (by decide +kernel)
      | 10, e => cases e; exact key _ _ (.inl (u8 _ _ e8)) T.er_StepsGone (by decide +kernel)
      | 11, e => cases e; exact key _ _ (.inl (u9 _ _ e9)) T.er_PowerCut (by decide +kernel)
      | k + 12, e => cases e
    walk_at "rd"
    refine ⟨cd, rfl, fun H12 s12 => ?_⟩
    walk_at "rd"
    refine rdSeq ?_
    walk_at "rd"
    have x1 : Same H1 H12 := w1.trans (s11.trans s12)
    have x2 : Same H2 H12 := w2.trans (s11.trans s12)
    have x3 : Same H3 H12 := w3.trans (s11.trans s12)
    refine i_xv (x1 _ _ a1e) (x1 _ _ d1e) rfl ?_
    walk_at "rd"
    refine i_xv (x1 _ _ a1e) (x1 _ _ d1e) rfl ?_
    walk_at "rd"
    refine i_xv (x2 _ _ a2e) (x2 _ _ d2e) rfl ?_
    walk_at "rd"
    refine i_xv (x2 _ _ a2e) (x2 _ _ d2e) rfl ?_
    walk_at "rd"
    refine ⟨line5 (by show rs.length + 1 ≤ 100000; omega), rdSeq ?_⟩
    walk_at "rd"
    refine i_xv (x3 _ _ a3e) (x3 _ _ d3e) rfl ?_
    walk_at "rd"
    refine rdSeq ?_
    walk_at "rd"
    intro q1 hq1
    refine rdSeq ?_
    walk_at "rd"
    intro q2 hq2
    refine i_cat (same_new hq2 _ _ upd_same) upd_same (line5 (by show 8 + 3 ≤ 100000; decide)) fun q3 hq3 => ?_
    refine rdSeq ?_
    walk_at "rd"
    intro q4 hq4
    refine i_cat (same_new hq4 _ _ upd_same) upd_same (line5 (by show 11 + 7 ≤ 100000; decide)) fun q5 hq5 => ?_
    refine rdSeq ?_
    walk_at "rd"
    intro q6 hq6
    refine i_cat (same_new hq6 _ _ upd_same) upd_same (line5 (by show 18 + 4 ≤ 100000; decide)) fun q7 hq7 => ?_
    refine rdSeq ?_
    walk_at "rd"
    intro q8 hq8
    refine i_neD (d := .list (([20000, 20, 16, 255, 60, 120, 32767, 24, 16, 300, 2000, 300, 300, 8, 4, 64, 64, 400, 60, 40, 8, 1000] : List Int).map PyData.int)) (.lst (sqL_of (same_new hq8 _ _ upd_same)) (dpInts [20000, 20, 16, 255, 60, 120, 32767, 24, 16, 300, 2000, 300, 300, 8, 4, 64, 64, 400, 60, 40, 8, 1000])) (.lst (sqL_of upd_same) (dpInts [20000, 20, 16, 255, 60, 120, 32767, 24, 16, 300, 2000, 300, 300, 8, 4, 64, 64, 400, 60, 40, 8, 1000])) (PySem.W.ke_shaped_ints _) ?_
    walk_at "rd"
    refine rdSeq ?_
    walk_at "rd"
    intro q9 hq9
    refine ⟨by decide, by decide, i_lcL (walk_rangeL (lo := 0) (n := 10)) (fun j => .int (-1 - (0 + (j : Int)))) (by rw [List.length_range]; exact line5' (by decide)) (fun _ _ _ => trivial) (fun j hj H3 Q' sm q' => ?_) fun d hd => ?_⟩
    · walk_at "rd"
      exact q'
    · exact i_eqD (d := .list (([-1, -2, -3, -4, -5, -6, -7, -8, -9, -10] : List Int).map PyData.int)) (.lst (sqL_of (same_new hd _ _ upd_same)) (dpInts [-1, -2, -3, -4, -5, -6, -7, -8, -9, -10])) (.lst (sqL_of (by rw [upd_same]; rfl)) (dpInts [-1, -2, -3, -4, -5, -6, -7, -8, -9, -10])) (PySem.W.ke_shaped_ints _) (q _)

theorem all_mk {l : PySem.W.OpenLaw} {w : World} {K : PySem.W.Frag} {h : Heap} {mg : Str → Option Value} {fa : Addr} (X : K.In h) (G : h.Ns mainGlobals mg) (hfa : mg "law" = some (.ref fa))
    {f0 : Addr} {od0 an0 : Option Addr} {sl0 : Array (Option Value)} {oc0 kV0 dc0 pm0 cd0 ct0 : Value}
    {f1 : Addr} {od1 an1 : Option Addr} {sl1 : Array (Option Value)} {oc1 kV1 dc1 pm1 cd1 ct1 : Value}
    {f2 : Addr} {od2 an2 : Option Addr} {sl2 : Array (Option Value)} {oc2 kV2 dc2 pm2 cd2 ct2 : Value}
    {f3 : Addr} {od3 an3 : Option Addr} {sl3 : Array (Option Value)} {oc3 kV3 dc3 pm3 cd3 ct3 : Value}
    {f4 : Addr} {od4 an4 : Option Addr} {sl4 : Array (Option Value)} {oc4 kV4 dc4 pm4 cd4 ct4 : Value}
    {f5 : Addr} {od5 an5 : Option Addr} {sl5 : Array (Option Value)} {oc5 kV5 dc5 pm5 cd5 ct5 : Value}
    {f6 : Addr} {od6 an6 : Option Addr} {sl6 : Array (Option Value)} {oc6 kV6 dc6 pm6 cd6 ct6 : Value}
    {f7 : Addr} {od7 an7 : Option Addr} {sl7 : Array (Option Value)} {oc7 kV7 dc7 pm7 cd7 ct7 : Value}
    {f8 : Addr} {od8 an8 : Option Addr} {sl8 : Array (Option Value)} {oc8 kV8 dc8 pm8 cd8 ct8 : Value}
    {c_CardError : Addr}
    {c_BadSource : Addr}
    {em0_BadSource em1_BadSource : Str} {em2_BadSource : Addr} {em3_BadSource em4_BadSource : List Value} {em5_BadSource : List Str} {em6_BadSource : List Value} {em7_BadSource : Bool} {em8_BadSource : Option Bool} {em9_BadSource : Option Addr} {em10_BadSource em11_BadSource em12_BadSource em13_BadSource em14_BadSource : Option Value}
    {c_BadTree : Addr}
    {c_BadProgram : Addr}
    {em0_BadProgram em1_BadProgram : Str} {em2_BadProgram : Addr} {em3_BadProgram em4_BadProgram : List Value} {em5_BadProgram : List Str} {em6_BadProgram : List Value} {em7_BadProgram : Bool} {em8_BadProgram : Option Bool} {em9_BadProgram : Option Addr} {em10_BadProgram em11_BadProgram em12_BadProgram em13_BadProgram em14_BadProgram : Option Value}
    {c_BadModule : Addr}
    {c_BadPackage : Addr}
    {c_BadLink : Addr}
    {c_BadCode : Addr}
    {c_BadPaper : Addr}
    {c_BadScript : Addr}
    {em0_BadScript em1_BadScript : Str} {em2_BadScript : Addr} {em3_BadScript em4_BadScript : List Value} {em5_BadScript : List Str} {em6_BadScript : List Value} {em7_BadScript : Bool} {em8_BadScript : Option Bool} {em9_BadScript : Option Addr} {em10_BadScript em11_BadScript em12_BadScript em13_BadScript em14_BadScript : Option Value}
    {c_Fault : Addr}
    {em0_Fault em1_Fault : Str} {em2_Fault : Addr} {em3_Fault em4_Fault : List Value} {em5_Fault : List Str} {em6_Fault : List Value} {em7_Fault : Bool} {em8_Fault : Option Bool} {em9_Fault : Option Addr} {em10_Fault em11_Fault em12_Fault em13_Fault em14_Fault : Option Value}
    {c_StepsGone : Addr}
    {c_PowerCut : Addr}
    {tk0 : Tok}
    {tk1 : Tok}
    {tk2 : Tok}
    {tk3 : Tok}
    {tk4 : Tok}
    {tk5 : Tok}
    {tk6 : Tok}
    {tk7 : Tok}
    {tk8 : Tok}
    {tk9 : Tok}
    {tk10 : Tok}
    {tk11 : Tok}
    {tk12 : Tok}
    {tk13 : Tok}
    {tk14 : Tok}
    {tk15 : Tok}
    {tk16 : Tok}
    {tk17 : Tok}
    {tk18 : Tok}
    {tk19 : Tok}
    {tk20 : Tok}
    {tk21 : Tok}
    {tk22 : Tok}
    {tk23 : Tok}
    {tk24 : Tok}
    {tk25 : Tok}
    {tk26 : Tok}
    {tk27 : Tok}
    {tk28 : Tok}
    {tk29 : Tok}
    {tk30 : Tok}
    {tk31 : Tok}
    (l0 : K.lookup f0 = some ⟨oc0, od0, .func (PySem.W.fnOf "__init__" "BadSource.__init__" (defArgs s_BadSource_init) (defBody s_BadSource_init) (defScope s_BadSource_init) .none kV0 dc0 pm0 an0 cd0 ct0), sl0⟩) (c0 : PySem.W.codeIn K cd0 "BadSource.__init__" = true) (k0 : PySem.W.keepIn K (.ref f0) = true)
    (l1 : K.lookup f1 = some ⟨oc1, od1, .func (PySem.W.fnOf "__init__" "BadProgram.__init__" (defArgs s_BadProgram_init) (defBody s_BadProgram_init) (defScope s_BadProgram_init) .none kV1 dc1 pm1 an1 cd1 ct1), sl1⟩) (c1 : PySem.W.codeIn K cd1 "BadProgram.__init__" = true) (k1 : PySem.W.keepIn K (.ref f1) = true)
    (l2 : K.lookup f2 = some ⟨oc2, od2, .func (PySem.W.fnOf "__init__" "BadScript.__init__" (defArgs s_BadScript_init) (defBody s_BadScript_init) (defScope s_BadScript_init) .none kV2 dc2 pm2 an2 cd2 ct2), sl2⟩) (c2 : PySem.W.codeIn K cd2 "BadScript.__init__" = true) (k2 : PySem.W.keepIn K (.ref f2) = true)
    (l3 : K.lookup f3 = some ⟨oc3, od3, .func (PySem.W.fnOf "__init__" "Fault.__init__" (defArgs s_Fault_init) (defBody s_Fault_init) (defScope s_Fault_init) .none kV3 dc3 pm3 an3 cd3 ct3), sl3⟩) (c3 : PySem.W.codeIn K cd3 "Fault.__init__" = true) (k3 : PySem.W.keepIn K (.ref f3) = true)
    (a4 : PySem.W.nsIn K mainGlobals "_law_cell" = some (some (.ref f4)))
    (l4 : K.lookup f4 = some ⟨oc4, od4, .func (PySem.W.fnOf "_law_cell" "_law_cell" (defArgs s_law_cell) (defBody s_law_cell) (defScope s_law_cell) .none kV4 dc4 pm4 an4 cd4 ct4), sl4⟩) (c4 : PySem.W.codeIn K cd4 "_law_cell" = true) (k4 : PySem.W.keepIn K (.ref f4) = true)
    (a5 : PySem.W.nsIn K mainGlobals "_law_kinds" = some (some (.ref f5)))
    (l5 : K.lookup f5 = some ⟨oc5, od5, .func (PySem.W.fnOf "_law_kinds" "_law_kinds" (defArgs s_law_kinds) (defBody s_law_kinds) (defScope s_law_kinds) .none kV5 dc5 pm5 an5 cd5 ct5), sl5⟩) (c5 : PySem.W.codeIn K cd5 "_law_kinds" = true) (k5 : PySem.W.keepIn K (.ref f5) = true)
    (a6 : PySem.W.nsIn K mainGlobals "_law_right" = some (some (.ref f6)))
    (l6 : K.lookup f6 = some ⟨oc6, od6, .func (PySem.W.fnOf "_law_right" "_law_right" (defArgs s_law_right) (defBody s_law_right) (defScope s_law_right) .none kV6 dc6 pm6 an6 cd6 ct6), sl6⟩) (c6 : PySem.W.codeIn K cd6 "_law_right" = true) (k6 : PySem.W.keepIn K (.ref f6) = true)
    (a7 : PySem.W.nsIn K mainGlobals "_law_raised" = some (some (.ref f7)))
    (l7 : K.lookup f7 = some ⟨oc7, od7, .func (PySem.W.fnOf "_law_raised" "_law_raised" (defArgs s_law_raised) (defBody s_law_raised) (defScope s_law_raised) .none kV7 dc7 pm7 an7 cd7 ct7), sl7⟩) (c7 : PySem.W.codeIn K cd7 "_law_raised" = true) (k7 : PySem.W.keepIn K (.ref f7) = true)
    (a8 : PySem.W.nsIn K mainGlobals "law" = some (some (.ref f8)))
    (l8 : K.lookup f8 = some ⟨oc8, od8, .func (PySem.W.fnOf "law" "law" (defArgs s_law) (defBody s_law) (defScope s_law) .none kV8 dc8 pm8 an8 cd8 ct8), sl8⟩) (c8 : PySem.W.codeIn K cd8 "law" = true) (k8 : PySem.W.keepIn K (.ref f8) = true)
    (aC_CardError : PySem.W.nsIn K mainGlobals "CardError" = some (some (.ref c_CardError)))
    (aC_BadSource : PySem.W.nsIn K mainGlobals "BadSource" = some (some (.ref c_BadSource)))
    (aC_BadTree : PySem.W.nsIn K mainGlobals "BadTree" = some (some (.ref c_BadTree)))
    (aC_BadProgram : PySem.W.nsIn K mainGlobals "BadProgram" = some (some (.ref c_BadProgram)))
    (aC_BadModule : PySem.W.nsIn K mainGlobals "BadModule" = some (some (.ref c_BadModule)))
    (aC_BadPackage : PySem.W.nsIn K mainGlobals "BadPackage" = some (some (.ref c_BadPackage)))
    (aC_BadLink : PySem.W.nsIn K mainGlobals "BadLink" = some (some (.ref c_BadLink)))
    (aC_BadCode : PySem.W.nsIn K mainGlobals "BadCode" = some (some (.ref c_BadCode)))
    (aC_BadPaper : PySem.W.nsIn K mainGlobals "BadPaper" = some (some (.ref c_BadPaper)))
    (aC_BadScript : PySem.W.nsIn K mainGlobals "BadScript" = some (some (.ref c_BadScript)))
    (aC_Fault : PySem.W.nsIn K mainGlobals "Fault" = some (some (.ref c_Fault)))
    (aC_StepsGone : PySem.W.nsIn K mainGlobals "StepsGone" = some (some (.ref c_StepsGone)))
    (aC_PowerCut : PySem.W.nsIn K mainGlobals "PowerCut" = some (some (.ref c_PowerCut)))
    (w1eb : PySem.W.subIn K (.ref c_CardError) (.type "BaseException") = some true)
    (w2ei : PySem.W.isClsIn K c_CardError = true)
    (w3et : PySem.W.typeIn K (.ref c_CardError) = some (.type "type"))
    (w4es : PySem.W.subIn K (.ref c_Fault) (.ref c_CardError) = some true)
    (w5eb : PySem.W.subIn K (.ref c_CardError) (.type "BaseException") = some true)
    (w6ei : PySem.W.isClsIn K c_CardError = true)
    (w7et : PySem.W.typeIn K (.ref c_CardError) = some (.type "type"))
    (w8es : PySem.W.subIn K (.ref c_BadSource) (.ref c_CardError) = some true)
    (w9eb : PySem.W.subIn K (.ref c_CardError) (.type "BaseException") = some true)
    (w10ei : PySem.W.isClsIn K c_CardError = true)
    (w11et : PySem.W.typeIn K (.ref c_CardError) = some (.type "type"))
    (w12es : PySem.W.subIn K (.ref c_BadScript) (.ref c_CardError) = some true)
    (w13eb : PySem.W.subIn K (.ref c_CardError) (.type "BaseException") = some true)
    (w14ei : PySem.W.isClsIn K c_CardError = true)
    (w15et : PySem.W.typeIn K (.ref c_CardError) = some (.type "type"))
    (w16es : PySem.W.subIn K (.ref c_BadProgram) (.ref c_CardError) = some true)
    (w17eb : PySem.W.subIn K (.ref c_CardError) (.type "BaseException") = some true)
    (w18ei : PySem.W.isClsIn K c_CardError = true)
    (w19et : PySem.W.typeIn K (.ref c_CardError) = some (.type "type"))
    (w20es : PySem.W.subIn K (.ref c_BadTree) (.ref c_CardError) = some true)
    (w21eb : PySem.W.subIn K (.ref c_CardError) (.type "BaseException") = some true)
    (w22ei : PySem.W.isClsIn K c_CardError = true)
    (w23et : PySem.W.typeIn K (.ref c_CardError) = some (.type "type"))
    (w24es : PySem.W.subIn K (.ref c_BadModule) (.ref c_CardError) = some true)
    (w25eb : PySem.W.subIn K (.ref c_CardError) (.type "BaseException") = some true)
    (w26ei : PySem.W.isClsIn K c_CardError = true)
    (w27et : PySem.W.typeIn K (.ref c_CardError) = some (.type "type"))
    (w28es : PySem.W.subIn K (.ref c_BadPackage) (.ref c_CardError) = some true)
    (w29eb : PySem.W.subIn K (.ref c_CardError) (.type "BaseException") = some true)
    (w30ei : PySem.W.isClsIn K c_CardError = true)
    (w31et : PySem.W.typeIn K (.ref c_CardError) = some (.type "type"))
    (w32es : PySem.W.subIn K (.ref c_BadLink) (.ref c_CardError) = some true)
    (w33eb : PySem.W.subIn K (.ref c_CardError) (.type "BaseException") = some true)
    (w34ei : PySem.W.isClsIn K c_CardError = true)
    (w35et : PySem.W.typeIn K (.ref c_CardError) = some (.type "type"))
    (w36es : PySem.W.subIn K (.ref c_BadCode) (.ref c_CardError) = some true)
    (w37eb : PySem.W.subIn K (.ref c_CardError) (.type "BaseException") = some true)
    (w38ei : PySem.W.isClsIn K c_CardError = true)
    (w39et : PySem.W.typeIn K (.ref c_CardError) = some (.type "type"))
    (w40es : PySem.W.subIn K (.ref c_BadPaper) (.ref c_CardError) = some true)
    (w41eb : PySem.W.subIn K (.ref c_CardError) (.type "BaseException") = some true)
    (w42ei : PySem.W.isClsIn K c_CardError = true)
    (w43et : PySem.W.typeIn K (.ref c_CardError) = some (.type "type"))
    (w44es : PySem.W.subIn K (.ref c_StepsGone) (.ref c_CardError) = some true)
    (w45eb : PySem.W.subIn K (.ref c_CardError) (.type "BaseException") = some true)
    (w46ei : PySem.W.isClsIn K c_CardError = true)
    (w47et : PySem.W.typeIn K (.ref c_CardError) = some (.type "type"))
    (w48es : PySem.W.subIn K (.ref c_PowerCut) (.ref c_CardError) = some true)
    (w49oe : K.lookup c_BadSource = some (excClassObj em0_BadSource em1_BadSource c_BadSource em2_BadSource em3_BadSource em4_BadSource true em5_BadSource em6_BadSource em7_BadSource em8_BadSource em9_BadSource em10_BadSource em11_BadSource em12_BadSource em13_BadSource em14_BadSource "ValueError.__new__"))
    (w50rv : PySem.HandSPX.refsVE em4_BadSource = true)
    (w51os : PySem.W.findIn K (.ref c_BadSource) "__setattr__" = some (some (.builtin "object.__setattr__")))
    (w52ob : PySem.W.subIn K (.ref c_BadSource) (.type "BaseException") = some true)
    (w53ot : PySem.W.typeIn K (.ref c_BadSource) = some (.type "type"))
    (w54ok : PySem.W.keepIn K (.ref c_BadSource) = true)
    (w55in : PySem.W.findIn K (.ref c_BadSource) "__init__" = some (some (.ref f0)))
    (w56ti : PySem.W.typeIn K (.ref f0) = some (.type "function"))
    (w57on : PySem.W.findIn K (.ref c_BadSource) "line" = some none)
    (w58on : PySem.W.findIn K (.ref c_BadSource) "reason" = some none)
    (w59xg : PySem.W.findIn K (.ref c_BadSource) "__getattribute__" = some (some (.builtin "BaseException.__getattribute__")))
    (w60xh : PySem.W.findIn K (.ref c_BadSource) "__getattr__" = some none)
    (w61xe : PySem.W.subIn K (.ref c_BadSource) (.type "BaseException") = some true)
    (w62xd : PySem.W.hasDictIn K c_BadSource = true)
    (w63x : PySem.W.excIn K c_BadTree [.type "ValueError", .type "Exception", .type "BaseException", .type "object"] "ValueError.__new__" = true)
    (w64kx : PySem.W.keepIn K (.ref c_BadTree) = true)
    (w65be : PySem.W.subIn K (.ref c_BadTree) (.type "BaseException") = some true)
    (w66ty : PySem.W.typeIn K (.ref c_BadTree) = some (.type "type"))
    (w67oe : K.lookup c_BadProgram = some (excClassObj em0_BadProgram em1_BadProgram c_BadProgram em2_BadProgram em3_BadProgram em4_BadProgram true em5_BadProgram em6_BadProgram em7_BadProgram em8_BadProgram em9_BadProgram em10_BadProgram em11_BadProgram em12_BadProgram em13_BadProgram em14_BadProgram "ValueError.__new__"))
    (w68rv : PySem.HandSPX.refsVE em4_BadProgram = true)
    (w69os : PySem.W.findIn K (.ref c_BadProgram) "__setattr__" = some (some (.builtin "object.__setattr__")))
    (w70ob : PySem.W.subIn K (.ref c_BadProgram) (.type "BaseException") = some true)
    (w71ot : PySem.W.typeIn K (.ref c_BadProgram) = some (.type "type"))
    (w72ok : PySem.W.keepIn K (.ref c_BadProgram) = true)
    (w73in : PySem.W.findIn K (.ref c_BadProgram) "__init__" = some (some (.ref f1)))
    (w74ti : PySem.W.typeIn K (.ref f1) = some (.type "function"))
    (w75on : PySem.W.findIn K (.ref c_BadProgram) "reason" = some none)
    (w76xg : PySem.W.findIn K (.ref c_BadProgram) "__getattribute__" = some (some (.builtin "BaseException.__getattribute__")))
    (w77xh : PySem.W.findIn K (.ref c_BadProgram) "__getattr__" = some none)
    (w78xe : PySem.W.subIn K (.ref c_BadProgram) (.type "BaseException") = some true)
    (w79xd : PySem.W.hasDictIn K c_BadProgram = true)
    (w80x : PySem.W.excIn K c_BadModule [.type "ValueError", .type "Exception", .type "BaseException", .type "object"] "ValueError.__new__" = true)
    (w81kx : PySem.W.keepIn K (.ref c_BadModule) = true)
    (w82be : PySem.W.subIn K (.ref c_BadModule) (.type "BaseException") = some true)
    (w83ty : PySem.W.typeIn K (.ref c_BadModule) = some (.type "type"))
    (w84x : PySem.W.excIn K c_BadPackage [.type "ValueError", .type "Exception", .type "BaseException", .type "object"] "ValueError.__new__" = true)
    (w85kx : PySem.W.keepIn K (.ref c_BadPackage) = true)
    (w86be : PySem.W.subIn K (.ref c_BadPackage) (.type "BaseException") = some true)
    (w87ty : PySem.W.typeIn K (.ref c_BadPackage) = some (.type "type"))
    (w88x : PySem.W.excIn K c_BadLink [.type "ValueError", .type "Exception", .type "BaseException", .type "object"] "ValueError.__new__" = true)
    (w89kx : PySem.W.keepIn K (.ref c_BadLink) = true)
    (w90be : PySem.W.subIn K (.ref c_BadLink) (.type "BaseException") = some true)
    (w91ty : PySem.W.typeIn K (.ref c_BadLink) = some (.type "type"))
    (w92x : PySem.W.excIn K c_BadCode [.type "ValueError", .type "Exception", .type "BaseException", .type "object"] "ValueError.__new__" = true)
    (w93kx : PySem.W.keepIn K (.ref c_BadCode) = true)
    (w94be : PySem.W.subIn K (.ref c_BadCode) (.type "BaseException") = some true)
    (w95ty : PySem.W.typeIn K (.ref c_BadCode) = some (.type "type"))
    (w96x : PySem.W.excIn K c_BadPaper [.type "ValueError", .type "Exception", .type "BaseException", .type "object"] "ValueError.__new__" = true)
    (w97kx : PySem.W.keepIn K (.ref c_BadPaper) = true)
    (w98be : PySem.W.subIn K (.ref c_BadPaper) (.type "BaseException") = some true)
    (w99ty : PySem.W.typeIn K (.ref c_BadPaper) = some (.type "type"))
    (w100oe : K.lookup c_BadScript = some (excClassObj em0_BadScript em1_BadScript c_BadScript em2_BadScript em3_BadScript em4_BadScript true em5_BadScript em6_BadScript em7_BadScript em8_BadScript em9_BadScript em10_BadScript em11_BadScript em12_BadScript em13_BadScript em14_BadScript "ValueError.__new__"))
    (w101rv : PySem.HandSPX.refsVE em4_BadScript = true)
    (w102os : PySem.W.findIn K (.ref c_BadScript) "__setattr__" = some (some (.builtin "object.__setattr__")))
    (w103ob : PySem.W.subIn K (.ref c_BadScript) (.type "BaseException") = some true)
    (w104ot : PySem.W.typeIn K (.ref c_BadScript) = some (.type "type"))
    (w105ok : PySem.W.keepIn K (.ref c_BadScript) = true)
    (w106in : PySem.W.findIn K (.ref c_BadScript) "__init__" = some (some (.ref f2)))
    (w107ti : PySem.W.typeIn K (.ref f2) = some (.type "function"))
    (w108on : PySem.W.findIn K (.ref c_BadScript) "line" = some none)
    (w109on : PySem.W.findIn K (.ref c_BadScript) "reason" = some none)
    (w110xg : PySem.W.findIn K (.ref c_BadScript) "__getattribute__" = some (some (.builtin "BaseException.__getattribute__")))
    (w111xh : PySem.W.findIn K (.ref c_BadScript) "__getattr__" = some none)
    (w112xe : PySem.W.subIn K (.ref c_BadScript) (.type "BaseException") = some true)
    (w113xd : PySem.W.hasDictIn K c_BadScript = true)
    (w114oe : K.lookup c_Fault = some (excClassObj em0_Fault em1_Fault c_Fault em2_Fault em3_Fault em4_Fault true em5_Fault em6_Fault em7_Fault em8_Fault em9_Fault em10_Fault em11_Fault em12_Fault em13_Fault em14_Fault "ValueError.__new__"))
    (w115rv : PySem.HandSPX.refsVE em4_Fault = true)
    (w116os : PySem.W.findIn K (.ref c_Fault) "__setattr__" = some (some (.builtin "object.__setattr__")))
    (w117ob : PySem.W.subIn K (.ref c_Fault) (.type "BaseException") = some true)
    (w118ot : PySem.W.typeIn K (.ref c_Fault) = some (.type "type"))
    (w119ok : PySem.W.keepIn K (.ref c_Fault) = true)
    (w120in : PySem.W.findIn K (.ref c_Fault) "__init__" = some (some (.ref f3)))
    (w121ti : PySem.W.typeIn K (.ref f3) = some (.type "function"))
    (w122on : PySem.W.findIn K (.ref c_Fault) "code" = some none)
    (w123xg : PySem.W.findIn K (.ref c_Fault) "__getattribute__" = some (some (.builtin "BaseException.__getattribute__")))
    (w124xh : PySem.W.findIn K (.ref c_Fault) "__getattr__" = some none)
    (w125xe : PySem.W.subIn K (.ref c_Fault) (.type "BaseException") = some true)
    (w126xd : PySem.W.hasDictIn K c_Fault = true)
    (w127x : PySem.W.excIn K c_StepsGone [.type "ValueError", .type "Exception", .type "BaseException", .type "object"] "ValueError.__new__" = true)
    (w128kx : PySem.W.keepIn K (.ref c_StepsGone) = true)
    (w129be : PySem.W.subIn K (.ref c_StepsGone) (.type "BaseException") = some true)
    (w130ty : PySem.W.typeIn K (.ref c_StepsGone) = some (.type "type"))
    (w131x : PySem.W.excIn K c_PowerCut [.type "ValueError", .type "Exception", .type "BaseException", .type "object"] "ValueError.__new__" = true)
    (w132kx : PySem.W.keepIn K (.ref c_PowerCut) = true)
    (w133be : PySem.W.subIn K (.ref c_PowerCut) (.type "BaseException") = some true)
    (w134ty : PySem.W.typeIn K (.ref c_PowerCut) = some (.type "type"))
    (w135eg : PySem.W.findIn K (.ref c_BadSource) "__getattribute__" = some (some (.builtin "BaseException.__getattribute__")))
    (w136ek : PySem.W.findIn K (.ref c_BadSource) "__getattr__" = some none)
    (w137eb : PySem.W.subIn K (.ref c_BadSource) (.type "BaseException") = some true)
    (w138ed : PySem.W.hasDictIn K c_BadSource = true)
    (w139ea : PySem.W.findIn K (.ref c_BadSource) "__class__" = some (some (.builtin "object.__class__")))
    (w140en : PySem.W.specialIn K (.builtin "object.__class__") "__get__" = some (some (.builtin "getset_descriptor.__get__")))
    (w141et : PySem.W.takesIn K (.builtin "object.__class__") = some true)
    (w142em : PySem.W.mroIn K c_BadSource (.type "object") = some true)
    (w143nes : decide (c_BadSource = c_BadTree) = false)
    (w144oc : PySem.W.isClsIn K c_BadTree = true)
    (w145ot : PySem.W.typeIn K (.ref c_BadTree) = some (.type "type"))
    (w146ou : PySem.W.subIn K (.ref c_BadSource) (.ref c_BadTree) = some false)
    (w147nes : decide (c_BadSource = c_BadProgram) = false)
    (w148oc : PySem.W.isClsIn K c_BadProgram = true)
    (w149ot : PySem.W.typeIn K (.ref c_BadProgram) = some (.type "type"))
    (w150ou : PySem.W.subIn K (.ref c_BadSource) (.ref c_BadProgram) = some false)
    (w151nes : decide (c_BadSource = c_BadModule) = false)
    (w152oc : PySem.W.isClsIn K c_BadModule = true)
    (w153ot : PySem.W.typeIn K (.ref c_BadModule) = some (.type "type"))
    (w154ou : PySem.W.subIn K (.ref c_BadSource) (.ref c_BadModule) = some false)
    (w155nes : decide (c_BadSource = c_BadPackage) = false)
    (w156oc : PySem.W.isClsIn K c_BadPackage = true)
    (w157ot : PySem.W.typeIn K (.ref c_BadPackage) = some (.type "type"))
    (w158ou : PySem.W.subIn K (.ref c_BadSource) (.ref c_BadPackage) = some false)
    (w159nes : decide (c_BadSource = c_BadLink) = false)
    (w160oc : PySem.W.isClsIn K c_BadLink = true)
    (w161ot : PySem.W.typeIn K (.ref c_BadLink) = some (.type "type"))
    (w162ou : PySem.W.subIn K (.ref c_BadSource) (.ref c_BadLink) = some false)
    (w163nes : decide (c_BadSource = c_BadCode) = false)
    (w164oc : PySem.W.isClsIn K c_BadCode = true)
    (w165ot : PySem.W.typeIn K (.ref c_BadCode) = some (.type "type"))
    (w166ou : PySem.W.subIn K (.ref c_BadSource) (.ref c_BadCode) = some false)
    (w167nes : decide (c_BadSource = c_BadPaper) = false)
    (w168oc : PySem.W.isClsIn K c_BadPaper = true)
    (w169ot : PySem.W.typeIn K (.ref c_BadPaper) = some (.type "type"))
    (w170ou : PySem.W.subIn K (.ref c_BadSource) (.ref c_BadPaper) = some false)
    (w171nes : decide (c_BadSource = c_BadScript) = false)
    (w172oc : PySem.W.isClsIn K c_BadScript = true)
    (w173ot : PySem.W.typeIn K (.ref c_BadScript) = some (.type "type"))
    (w174ou : PySem.W.subIn K (.ref c_BadSource) (.ref c_BadScript) = some false)
    (w175nes : decide (c_BadSource = c_Fault) = false)
    (w176oc : PySem.W.isClsIn K c_Fault = true)
    (w177ot : PySem.W.typeIn K (.ref c_Fault) = some (.type "type"))
    (w178ou : PySem.W.subIn K (.ref c_BadSource) (.ref c_Fault) = some false)
    (w179nes : decide (c_BadSource = c_StepsGone) = false)
    (w180oc : PySem.W.isClsIn K c_StepsGone = true)
    (w181ot : PySem.W.typeIn K (.ref c_StepsGone) = some (.type "type"))
    (w182ou : PySem.W.subIn K (.ref c_BadSource) (.ref c_StepsGone) = some false)
    (w183nes : decide (c_BadSource = c_PowerCut) = false)
    (w184oc : PySem.W.isClsIn K c_PowerCut = true)
    (w185ot : PySem.W.typeIn K (.ref c_PowerCut) = some (.type "type"))
    (w186ou : PySem.W.subIn K (.ref c_BadSource) (.ref c_PowerCut) = some false)
    (w187nes : decide (c_BadSource = c_CardError) = false)
    (w188oc : PySem.W.isClsIn K c_CardError = true)
    (w189ot : PySem.W.typeIn K (.ref c_CardError) = some (.type "type"))
    (w190ou : PySem.W.subIn K (.ref c_BadSource) (.ref c_CardError) = some true)
    (w191ov : PySem.W.subIn K (.ref c_BadSource) (.type "ValueError") = some true)
    (w192eg : PySem.W.findIn K (.ref c_BadTree) "__getattribute__" = some (some (.builtin "BaseException.__getattribute__")))
    (w193ek : PySem.W.findIn K (.ref c_BadTree) "__getattr__" = some none)
    (w194eb : PySem.W.subIn K (.ref c_BadTree) (.type "BaseException") = some true)
    (w195ed : PySem.W.hasDictIn K c_BadTree = true)
    (w196ea : PySem.W.findIn K (.ref c_BadTree) "__class__" = some (some (.builtin "object.__class__")))
    (w197em : PySem.W.mroIn K c_BadTree (.type "object") = some true)
    (w198nes : decide (c_BadTree = c_BadSource) = false)
    (w199oc : PySem.W.isClsIn K c_BadSource = true)
    (w200ot : PySem.W.typeIn K (.ref c_BadSource) = some (.type "type"))
    (w201ou : PySem.W.subIn K (.ref c_BadTree) (.ref c_BadSource) = some false)
    (w202nes : decide (c_BadTree = c_BadProgram) = false)
    (w203ou : PySem.W.subIn K (.ref c_BadTree) (.ref c_BadProgram) = some false)
    (w204nes : decide (c_BadTree = c_BadModule) = false)
    (w205ou : PySem.W.subIn K (.ref c_BadTree) (.ref c_BadModule) = some false)
    (w206nes : decide (c_BadTree = c_BadPackage) = false)
    (w207ou : PySem.W.subIn K (.ref c_BadTree) (.ref c_BadPackage) = some false)
    (w208nes : decide (c_BadTree = c_BadLink) = false)
    (w209ou : PySem.W.subIn K (.ref c_BadTree) (.ref c_BadLink) = some false)
    (w210nes : decide (c_BadTree = c_BadCode) = false)
    (w211ou : PySem.W.subIn K (.ref c_BadTree) (.ref c_BadCode) = some false)
    (w212nes : decide (c_BadTree = c_BadPaper) = false)
    (w213ou : PySem.W.subIn K (.ref c_BadTree) (.ref c_BadPaper) = some false)
    (w214nes : decide (c_BadTree = c_BadScript) = false)
    (w215ou : PySem.W.subIn K (.ref c_BadTree) (.ref c_BadScript) = some false)
    (w216nes : decide (c_BadTree = c_Fault) = false)
    (w217ou : PySem.W.subIn K (.ref c_BadTree) (.ref c_Fault) = some false)
    (w218nes : decide (c_BadTree = c_StepsGone) = false)
    (w219ou : PySem.W.subIn K (.ref c_BadTree) (.ref c_StepsGone) = some false)
    (w220nes : decide (c_BadTree = c_PowerCut) = false)
    (w221ou : PySem.W.subIn K (.ref c_BadTree) (.ref c_PowerCut) = some false)
    (w222nes : decide (c_BadTree = c_CardError) = false)
    (w223ou : PySem.W.subIn K (.ref c_BadTree) (.ref c_CardError) = some true)
    (w224ov : PySem.W.subIn K (.ref c_BadTree) (.type "ValueError") = some true)
    (w225eg : PySem.W.findIn K (.ref c_BadProgram) "__getattribute__" = some (some (.builtin "BaseException.__getattribute__")))
    (w226ek : PySem.W.findIn K (.ref c_BadProgram) "__getattr__" = some none)
    (w227eb : PySem.W.subIn K (.ref c_BadProgram) (.type "BaseException") = some true)
    (w228ed : PySem.W.hasDictIn K c_BadProgram = true)
    (w229ea : PySem.W.findIn K (.ref c_BadProgram) "__class__" = some (some (.builtin "object.__class__")))
    (w230em : PySem.W.mroIn K c_BadProgram (.type "object") = some true)
    (w231nes : decide (c_BadProgram = c_BadSource) = false)
    (w232ou : PySem.W.subIn K (.ref c_BadProgram) (.ref c_BadSource) = some false)
    (w233nes : decide (c_BadProgram = c_BadTree) = false)
    (w234ou : PySem.W.subIn K (.ref c_BadProgram) (.ref c_BadTree) = some false)
    (w235nes : decide (c_BadProgram = c_BadModule) = false)
    (w236ou : PySem.W.subIn K (.ref c_BadProgram) (.ref c_BadModule) = some false)
    (w237nes : decide (c_BadProgram = c_BadPackage) = false)
    (w238ou : PySem.W.subIn K (.ref c_BadProgram) (.ref c_BadPackage) = some false)
    (w239nes : decide (c_BadProgram = c_BadLink) = false)
    (w240ou : PySem.W.subIn K (.ref c_BadProgram) (.ref c_BadLink) = some false)
    (w241nes : decide (c_BadProgram = c_BadCode) = false)
    (w242ou : PySem.W.subIn K (.ref c_BadProgram) (.ref c_BadCode) = some false)
    (w243nes : decide (c_BadProgram = c_BadPaper) = false)
    (w244ou : PySem.W.subIn K (.ref c_BadProgram) (.ref c_BadPaper) = some false)
    (w245nes : decide (c_BadProgram = c_BadScript) = false)
    (w246ou : PySem.W.subIn K (.ref c_BadProgram) (.ref c_BadScript) = some false)
    (w247nes : decide (c_BadProgram = c_Fault) = false)
    (w248ou : PySem.W.subIn K (.ref c_BadProgram) (.ref c_Fault) = some false)
    (w249nes : decide (c_BadProgram = c_StepsGone) = false)
    (w250ou : PySem.W.subIn K (.ref c_BadProgram) (.ref c_StepsGone) = some false)
    (w251nes : decide (c_BadProgram = c_PowerCut) = false)
    (w252ou : PySem.W.subIn K (.ref c_BadProgram) (.ref c_PowerCut) = some false)
    (w253nes : decide (c_BadProgram = c_CardError) = false)
    (w254ou : PySem.W.subIn K (.ref c_BadProgram) (.ref c_CardError) = some true)
    (w255ov : PySem.W.subIn K (.ref c_BadProgram) (.type "ValueError") = some true)
    (w256eg : PySem.W.findIn K (.ref c_BadModule) "__getattribute__" = some (some (.builtin "BaseException.__getattribute__")))
    (w257ek : PySem.W.findIn K (.ref c_BadModule) "__getattr__" = some none)
    (w258eb : PySem.W.subIn K (.ref c_BadModule) (.type "BaseException") = some true)
    (w259ed : PySem.W.hasDictIn K c_BadModule = true)
    (w260ea : PySem.W.findIn K (.ref c_BadModule) "__class__" = some (some (.builtin "object.__class__")))
    (w261em : PySem.W.mroIn K c_BadModule (.type "object") = some true)
    (w262nes : decide (c_BadModule = c_BadSource) = false)
    (w263ou : PySem.W.subIn K (.ref c_BadModule) (.ref c_BadSource) = some false)
    (w264nes : decide (c_BadModule = c_BadTree) = false)
    (w265ou : PySem.W.subIn K (.ref c_BadModule) (.ref c_BadTree) = some false)
    (w266nes : decide (c_BadModule = c_BadProgram) = false)
    (w267ou : PySem.W.subIn K (.ref c_BadModule) (.ref c_BadProgram) = some false)
    (w268nes : decide (c_BadModule = c_BadPackage) = false)
    (w269ou : PySem.W.subIn K (.ref c_BadModule) (.ref c_BadPackage) = some false)
    (w270nes : decide (c_BadModule = c_BadLink) = false)
    (w271ou : PySem.W.subIn K (.ref c_BadModule) (.ref c_BadLink) = some false)
    (w272nes : decide (c_BadModule = c_BadCode) = false)
    (w273ou : PySem.W.subIn K (.ref c_BadModule) (.ref c_BadCode) = some false)
    (w274nes : decide (c_BadModule = c_BadPaper) = false)
    (w275ou : PySem.W.subIn K (.ref c_BadModule) (.ref c_BadPaper) = some false)
    (w276nes : decide (c_BadModule = c_BadScript) = false)
    (w277ou : PySem.W.subIn K (.ref c_BadModule) (.ref c_BadScript) = some false)
    (w278nes : decide (c_BadModule = c_Fault) = false)
    (w279ou : PySem.W.subIn K (.ref c_BadModule) (.ref c_Fault) = some false)
    (w280nes : decide (c_BadModule = c_StepsGone) = false)
    (w281ou : PySem.W.subIn K (.ref c_BadModule) (.ref c_StepsGone) = some false)
    (w282nes : decide (c_BadModule = c_PowerCut) = false)
    (w283ou : PySem.W.subIn K (.ref c_BadModule) (.ref c_PowerCut) = some false)
    (w284nes : decide (c_BadModule = c_CardError) = false)
    (w285ou : PySem.W.subIn K (.ref c_BadModule) (.ref c_CardError) = some true)
    (w286ov : PySem.W.subIn K (.ref c_BadModule) (.type "ValueError") = some true)
    (w287eg : PySem.W.findIn K (.ref c_BadPackage) "__getattribute__" = some (some (.builtin "BaseException.__getattribute__")))
    (w288ek : PySem.W.findIn K (.ref c_BadPackage) "__getattr__" = some none)
    (w289eb : PySem.W.subIn K (.ref c_BadPackage) (.type "BaseException") = some true)
    (w290ed : PySem.W.hasDictIn K c_BadPackage = true)
    (w291ea : PySem.W.findIn K (.ref c_BadPackage) "__class__" = some (some (.builtin "object.__class__")))
    (w292em : PySem.W.mroIn K c_BadPackage (.type "object") = some true)
    (w293nes : decide (c_BadPackage = c_BadSource) = false)
    (w294ou : PySem.W.subIn K (.ref c_BadPackage) (.ref c_BadSource) = some false)
    (w295nes : decide (c_BadPackage = c_BadTree) = false)
    (w296ou : PySem.W.subIn K (.ref c_BadPackage) (.ref c_BadTree) = some false)
    (w297nes : decide (c_BadPackage = c_BadProgram) = false)
    (w298ou : PySem.W.subIn K (.ref c_BadPackage) (.ref c_BadProgram) = some false)
    (w299nes : decide (c_BadPackage = c_BadModule) = false)
    (w300ou : PySem.W.subIn K (.ref c_BadPackage) (.ref c_BadModule) = some false)
    (w301nes : decide (c_BadPackage = c_BadLink) = false)
    (w302ou : PySem.W.subIn K (.ref c_BadPackage) (.ref c_BadLink) = some false)
    (w303nes : decide (c_BadPackage = c_BadCode) = false)
    (w304ou : PySem.W.subIn K (.ref c_BadPackage) (.ref c_BadCode) = some false)
    (w305nes : decide (c_BadPackage = c_BadPaper) = false)
    (w306ou : PySem.W.subIn K (.ref c_BadPackage) (.ref c_BadPaper) = some false)
    (w307nes : decide (c_BadPackage = c_BadScript) = false)
    (w308ou : PySem.W.subIn K (.ref c_BadPackage) (.ref c_BadScript) = some false)
    (w309nes : decide (c_BadPackage = c_Fault) = false)
    (w310ou : PySem.W.subIn K (.ref c_BadPackage) (.ref c_Fault) = some false)
    (w311nes : decide (c_BadPackage = c_StepsGone) = false)
    (w312ou : PySem.W.subIn K (.ref c_BadPackage) (.ref c_StepsGone) = some false)
    (w313nes : decide (c_BadPackage = c_PowerCut) = false)
    (w314ou : PySem.W.subIn K (.ref c_BadPackage) (.ref c_PowerCut) = some false)
    (w315nes : decide (c_BadPackage = c_CardError) = false)
    (w316ou : PySem.W.subIn K (.ref c_BadPackage) (.ref c_CardError) = some true)
    (w317ov : PySem.W.subIn K (.ref c_BadPackage) (.type "ValueError") = some true)
    (w318eg : PySem.W.findIn K (.ref c_BadLink) "__getattribute__" = some (some (.builtin "BaseException.__getattribute__")))
    (w319ek : PySem.W.findIn K (.ref c_BadLink) "__getattr__" = some none)
    (w320eb : PySem.W.subIn K (.ref c_BadLink) (.type "BaseException") = some true)
    (w321ed : PySem.W.hasDictIn K c_BadLink = true)
    (w322ea : PySem.W.findIn K (.ref c_BadLink) "__class__" = some (some (.builtin "object.__class__")))
    (w323em : PySem.W.mroIn K c_BadLink (.type "object") = some true)
    (w324nes : decide (c_BadLink = c_BadSource) = false)
    (w325ou : PySem.W.subIn K (.ref c_BadLink) (.ref c_BadSource) = some false)
    (w326nes : decide (c_BadLink = c_BadTree) = false)
    (w327ou : PySem.W.subIn K (.ref c_BadLink) (.ref c_BadTree) = some false)
    (w328nes : decide (c_BadLink = c_BadProgram) = false)
    (w329ou : PySem.W.subIn K (.ref c_BadLink) (.ref c_BadProgram) = some false)
    (w330nes : decide (c_BadLink = c_BadModule) = false)
    (w331ou : PySem.W.subIn K (.ref c_BadLink) (.ref c_BadModule) = some false)
    (w332nes : decide (c_BadLink = c_BadPackage) = false)
    (w333ou : PySem.W.subIn K (.ref c_BadLink) (.ref c_BadPackage) = some false)
    (w334nes : decide (c_BadLink = c_BadCode) = false)
    (w335ou : PySem.W.subIn K (.ref c_BadLink) (.ref c_BadCode) = some false)
    (w336nes : decide (c_BadLink = c_BadPaper) = false)
    (w337ou : PySem.W.subIn K (.ref c_BadLink) (.ref c_BadPaper) = some false)
    (w338nes : decide (c_BadLink = c_BadScript) = false)
    (w339ou : PySem.W.subIn K (.ref c_BadLink) (.ref c_BadScript) = some false)
    (w340nes : decide (c_BadLink = c_Fault) = false)
    (w341ou : PySem.W.subIn K (.ref c_BadLink) (.ref c_Fault) = some false)
    (w342nes : decide (c_BadLink = c_StepsGone) = false)
    (w343ou : PySem.W.subIn K (.ref c_BadLink) (.ref c_StepsGone) = some false)
    (w344nes : decide (c_BadLink = c_PowerCut) = false)
    (w345ou : PySem.W.subIn K (.ref c_BadLink) (.ref c_PowerCut) = some false)
    (w346nes : decide (c_BadLink = c_CardError) = false)
    (w347ou : PySem.W.subIn K (.ref c_BadLink) (.ref c_CardError) = some true)
    (w348ov : PySem.W.subIn K (.ref c_BadLink) (.type "ValueError") = some true)
    (w349eg : PySem.W.findIn K (.ref c_BadCode) "__getattribute__" = some (some (.builtin "BaseException.__getattribute__")))
    (w350ek : PySem.W.findIn K (.ref c_BadCode) "__getattr__" = some none)
    (w351eb : PySem.W.subIn K (.ref c_BadCode) (.type "BaseException") = some true)
    (w352ed : PySem.W.hasDictIn K c_BadCode = true)
    (w353ea : PySem.W.findIn K (.ref c_BadCode) "__class__" = some (some (.builtin "object.__class__")))
    (w354em : PySem.W.mroIn K c_BadCode (.type "object") = some true)
    (w355nes : decide (c_BadCode = c_BadSource) = false)
    (w356ou : PySem.W.subIn K (.ref c_BadCode) (.ref c_BadSource) = some false)
    (w357nes : decide (c_BadCode = c_BadTree) = false)
    (w358ou : PySem.W.subIn K (.ref c_BadCode) (.ref c_BadTree) = some false)
    (w359nes : decide (c_BadCode = c_BadProgram) = false)
    (w360ou : PySem.W.subIn K (.ref c_BadCode) (.ref c_BadProgram) = some false)
    (w361nes : decide (c_BadCode = c_BadModule) = false)
    (w362ou : PySem.W.subIn K (.ref c_BadCode) (.ref c_BadModule) = some false)
    (w363nes : decide (c_BadCode = c_BadPackage) = false)
    (w364ou : PySem.W.subIn K (.ref c_BadCode) (.ref c_BadPackage) = some false)
    (w365nes : decide (c_BadCode = c_BadLink) = false)
    (w366ou : PySem.W.subIn K (.ref c_BadCode) (.ref c_BadLink) = some false)
    (w367nes : decide (c_BadCode = c_BadPaper) = false)
    (w368ou : PySem.W.subIn K (.ref c_BadCode) (.ref c_BadPaper) = some false)
    (w369nes : decide (c_BadCode = c_BadScript) = false)
    (w370ou : PySem.W.subIn K (.ref c_BadCode) (.ref c_BadScript) = some false)
    (w371nes : decide (c_BadCode = c_Fault) = false)
    (w372ou : PySem.W.subIn K (.ref c_BadCode) (.ref c_Fault) = some false)
    (w373nes : decide (c_BadCode = c_StepsGone) = false)
    (w374ou : PySem.W.subIn K (.ref c_BadCode) (.ref c_StepsGone) = some false)
    (w375nes : decide (c_BadCode = c_PowerCut) = false)
    (w376ou : PySem.W.subIn K (.ref c_BadCode) (.ref c_PowerCut) = some false)
    (w377nes : decide (c_BadCode = c_CardError) = false)
    (w378ou : PySem.W.subIn K (.ref c_BadCode) (.ref c_CardError) = some true)
    (w379ov : PySem.W.subIn K (.ref c_BadCode) (.type "ValueError") = some true)
    (w380eg : PySem.W.findIn K (.ref c_BadPaper) "__getattribute__" = some (some (.builtin "BaseException.__getattribute__")))
    (w381ek : PySem.W.findIn K (.ref c_BadPaper) "__getattr__" = some none)
    (w382eb : PySem.W.subIn K (.ref c_BadPaper) (.type "BaseException") = some true)
    (w383ed : PySem.W.hasDictIn K c_BadPaper = true)
    (w384ea : PySem.W.findIn K (.ref c_BadPaper) "__class__" = some (some (.builtin "object.__class__")))
    (w385em : PySem.W.mroIn K c_BadPaper (.type "object") = some true)
    (w386nes : decide (c_BadPaper = c_BadSource) = false)
    (w387ou : PySem.W.subIn K (.ref c_BadPaper) (.ref c_BadSource) = some false)
    (w388nes : decide (c_BadPaper = c_BadTree) = false)
    (w389ou : PySem.W.subIn K (.ref c_BadPaper) (.ref c_BadTree) = some false)
    (w390nes : decide (c_BadPaper = c_BadProgram) = false)
    (w391ou : PySem.W.subIn K (.ref c_BadPaper) (.ref c_BadProgram) = some false)
    (w392nes : decide (c_BadPaper = c_BadModule) = false)
    (w393ou : PySem.W.subIn K (.ref c_BadPaper) (.ref c_BadModule) = some false)
    (w394nes : decide (c_BadPaper = c_BadPackage) = false)
    (w395ou : PySem.W.subIn K (.ref c_BadPaper) (.ref c_BadPackage) = some false)
    (w396nes : decide (c_BadPaper = c_BadLink) = false)
    (w397ou : PySem.W.subIn K (.ref c_BadPaper) (.ref c_BadLink) = some false)
    (w398nes : decide (c_BadPaper = c_BadCode) = false)
    (w399ou : PySem.W.subIn K (.ref c_BadPaper) (.ref c_BadCode) = some false)
    (w400nes : decide (c_BadPaper = c_BadScript) = false)
    (w401ou : PySem.W.subIn K (.ref c_BadPaper) (.ref c_BadScript) = some false)
    (w402nes : decide (c_BadPaper = c_Fault) = false)
    (w403ou : PySem.W.subIn K (.ref c_BadPaper) (.ref c_Fault) = some false)
    (w404nes : decide (c_BadPaper = c_StepsGone) = false)
    (w405ou : PySem.W.subIn K (.ref c_BadPaper) (.ref c_StepsGone) = some false)
    (w406nes : decide (c_BadPaper = c_PowerCut) = false)
    (w407ou : PySem.W.subIn K (.ref c_BadPaper) (.ref c_PowerCut) = some false)
    (w408nes : decide (c_BadPaper = c_CardError) = false)
    (w409ou : PySem.W.subIn K (.ref c_BadPaper) (.ref c_CardError) = some true)
    (w410ov : PySem.W.subIn K (.ref c_BadPaper) (.type "ValueError") = some true)
    (w411eg : PySem.W.findIn K (.ref c_BadScript) "__getattribute__" = some (some (.builtin "BaseException.__getattribute__")))
    (w412ek : PySem.W.findIn K (.ref c_BadScript) "__getattr__" = some none)
    (w413eb : PySem.W.subIn K (.ref c_BadScript) (.type "BaseException") = some true)
    (w414ed : PySem.W.hasDictIn K c_BadScript = true)
    (w415ea : PySem.W.findIn K (.ref c_BadScript) "__class__" = some (some (.builtin "object.__class__")))
    (w416em : PySem.W.mroIn K c_BadScript (.type "object") = some true)
    (w417nes : decide (c_BadScript = c_BadSource) = false)
    (w418ou : PySem.W.subIn K (.ref c_BadScript) (.ref c_BadSource) = some false)
    (w419nes : decide (c_BadScript = c_BadTree) = false)
    (w420ou : PySem.W.subIn K (.ref c_BadScript) (.ref c_BadTree) = some false)
    (w421nes : decide (c_BadScript = c_BadProgram) = false)
    (w422ou : PySem.W.subIn K (.ref c_BadScript) (.ref c_BadProgram) = some false)
    (w423nes : decide (c_BadScript = c_BadModule) = false)
    (w424ou : PySem.W.subIn K (.ref c_BadScript) (.ref c_BadModule) = some false)
    (w425nes : decide (c_BadScript = c_BadPackage) = false)
    (w426ou : PySem.W.subIn K (.ref c_BadScript) (.ref c_BadPackage) = some false)
    (w427nes : decide (c_BadScript = c_BadLink) = false)
    (w428ou : PySem.W.subIn K (.ref c_BadScript) (.ref c_BadLink) = some false)
    (w429nes : decide (c_BadScript = c_BadCode) = false)
    (w430ou : PySem.W.subIn K (.ref c_BadScript) (.ref c_BadCode) = some false)
    (w431nes : decide (c_BadScript = c_BadPaper) = false)
    (w432ou : PySem.W.subIn K (.ref c_BadScript) (.ref c_BadPaper) = some false)
    (w433nes : decide (c_BadScript = c_Fault) = false)
    (w434ou : PySem.W.subIn K (.ref c_BadScript) (.ref c_Fault) = some false)
    (w435nes : decide (c_BadScript = c_StepsGone) = false)
    (w436ou : PySem.W.subIn K (.ref c_BadScript) (.ref c_StepsGone) = some false)
    (w437nes : decide (c_BadScript = c_PowerCut) = false)
    (w438ou : PySem.W.subIn K (.ref c_BadScript) (.ref c_PowerCut) = some false)
    (w439nes : decide (c_BadScript = c_CardError) = false)
    (w440ou : PySem.W.subIn K (.ref c_BadScript) (.ref c_CardError) = some true)
    (w441ov : PySem.W.subIn K (.ref c_BadScript) (.type "ValueError") = some true)
    (w442eg : PySem.W.findIn K (.ref c_Fault) "__getattribute__" = some (some (.builtin "BaseException.__getattribute__")))
    (w443ek : PySem.W.findIn K (.ref c_Fault) "__getattr__" = some none)
    (w444eb : PySem.W.subIn K (.ref c_Fault) (.type "BaseException") = some true)
    (w445ed : PySem.W.hasDictIn K c_Fault = true)
    (w446ea : PySem.W.findIn K (.ref c_Fault) "__class__" = some (some (.builtin "object.__class__")))
    (w447em : PySem.W.mroIn K c_Fault (.type "object") = some true)
    (w448nes : decide (c_Fault = c_BadSource) = false)
    (w449ou : PySem.W.subIn K (.ref c_Fault) (.ref c_BadSource) = some false)
    (w450nes : decide (c_Fault = c_BadTree) = false)
    (w451ou : PySem.W.subIn K (.ref c_Fault) (.ref c_BadTree) = some false)
    (w452nes : decide (c_Fault = c_BadProgram) = false)
    (w453ou : PySem.W.subIn K (.ref c_Fault) (.ref c_BadProgram) = some false)
    (w454nes : decide (c_Fault = c_BadModule) = false)
    (w455ou : PySem.W.subIn K (.ref c_Fault) (.ref c_BadModule) = some false)
    (w456nes : decide (c_Fault = c_BadPackage) = false)
    (w457ou : PySem.W.subIn K (.ref c_Fault) (.ref c_BadPackage) = some false)
    (w458nes : decide (c_Fault = c_BadLink) = false)
    (w459ou : PySem.W.subIn K (.ref c_Fault) (.ref c_BadLink) = some false)
    (w460nes : decide (c_Fault = c_BadCode) = false)
    (w461ou : PySem.W.subIn K (.ref c_Fault) (.ref c_BadCode) = some false)
    (w462nes : decide (c_Fault = c_BadPaper) = false)
    (w463ou : PySem.W.subIn K (.ref c_Fault) (.ref c_BadPaper) = some false)
    (w464nes : decide (c_Fault = c_BadScript) = false)
    (w465ou : PySem.W.subIn K (.ref c_Fault) (.ref c_BadScript) = some false)
    (w466nes : decide (c_Fault = c_StepsGone) = false)
    (w467ou : PySem.W.subIn K (.ref c_Fault) (.ref c_StepsGone) = some false)
    (w468nes : decide (c_Fault = c_PowerCut) = false)
    (w469ou : PySem.W.subIn K (.ref c_Fault) (.ref c_PowerCut) = some false)
    (w470nes : decide (c_Fault = c_CardError) = false)
    (w471ou : PySem.W.subIn K (.ref c_Fault) (.ref c_CardError) = some true)
    (w472ov : PySem.W.subIn K (.ref c_Fault) (.type "ValueError") = some true)
    (w473eg : PySem.W.findIn K (.ref c_StepsGone) "__getattribute__" = some (some (.builtin "BaseException.__getattribute__")))
    (w474ek : PySem.W.findIn K (.ref c_StepsGone) "__getattr__" = some none)
    (w475eb : PySem.W.subIn K (.ref c_StepsGone) (.type "BaseException") = some true)
    (w476ed : PySem.W.hasDictIn K c_StepsGone = true)
    (w477ea : PySem.W.findIn K (.ref c_StepsGone) "__class__" = some (some (.builtin "object.__class__")))
    (w478em : PySem.W.mroIn K c_StepsGone (.type "object") = some true)
    (w479nes : decide (c_StepsGone = c_BadSource) = false)
    (w480ou : PySem.W.subIn K (.ref c_StepsGone) (.ref c_BadSource) = some false)
    (w481nes : decide (c_StepsGone = c_BadTree) = false)
    (w482ou : PySem.W.subIn K (.ref c_StepsGone) (.ref c_BadTree) = some false)
    (w483nes : decide (c_StepsGone = c_BadProgram) = false)
    (w484ou : PySem.W.subIn K (.ref c_StepsGone) (.ref c_BadProgram) = some false)
    (w485nes : decide (c_StepsGone = c_BadModule) = false)
    (w486ou : PySem.W.subIn K (.ref c_StepsGone) (.ref c_BadModule) = some false)
    (w487nes : decide (c_StepsGone = c_BadPackage) = false)
    (w488ou : PySem.W.subIn K (.ref c_StepsGone) (.ref c_BadPackage) = some false)
    (w489nes : decide (c_StepsGone = c_BadLink) = false)
    (w490ou : PySem.W.subIn K (.ref c_StepsGone) (.ref c_BadLink) = some false)
    (w491nes : decide (c_StepsGone = c_BadCode) = false)
    (w492ou : PySem.W.subIn K (.ref c_StepsGone) (.ref c_BadCode) = some false)
    (w493nes : decide (c_StepsGone = c_BadPaper) = false)
    (w494ou : PySem.W.subIn K (.ref c_StepsGone) (.ref c_BadPaper) = some false)
    (w495nes : decide (c_StepsGone = c_BadScript) = false)
    (w496ou : PySem.W.subIn K (.ref c_StepsGone) (.ref c_BadScript) = some false)
    (w497nes : decide (c_StepsGone = c_Fault) = false)
    (w498ou : PySem.W.subIn K (.ref c_StepsGone) (.ref c_Fault) = some false)
    (w499nes : decide (c_StepsGone = c_PowerCut) = false)
    (w500ou : PySem.W.subIn K (.ref c_StepsGone) (.ref c_PowerCut) = some false)
    (w501nes : decide (c_StepsGone = c_CardError) = false)
    (w502ou : PySem.W.subIn K (.ref c_StepsGone) (.ref c_CardError) = some true)
    (w503ov : PySem.W.subIn K (.ref c_StepsGone) (.type "ValueError") = some true)
    (w504eg : PySem.W.findIn K (.ref c_PowerCut) "__getattribute__" = some (some (.builtin "BaseException.__getattribute__")))
    (w505ek : PySem.W.findIn K (.ref c_PowerCut) "__getattr__" = some none)
    (w506eb : PySem.W.subIn K (.ref c_PowerCut) (.type "BaseException") = some true)
    (w507ed : PySem.W.hasDictIn K c_PowerCut = true)
    (w508ea : PySem.W.findIn K (.ref c_PowerCut) "__class__" = some (some (.builtin "object.__class__")))
    (w509em : PySem.W.mroIn K c_PowerCut (.type "object") = some true)
    (w510nes : decide (c_PowerCut = c_BadSource) = false)
    (w511ou : PySem.W.subIn K (.ref c_PowerCut) (.ref c_BadSource) = some false)
    (w512nes : decide (c_PowerCut = c_BadTree) = false)
    (w513ou : PySem.W.subIn K (.ref c_PowerCut) (.ref c_BadTree) = some false)
    (w514nes : decide (c_PowerCut = c_BadProgram) = false)
    (w515ou : PySem.W.subIn K (.ref c_PowerCut) (.ref c_BadProgram) = some false)
    (w516nes : decide (c_PowerCut = c_BadModule) = false)
    (w517ou : PySem.W.subIn K (.ref c_PowerCut) (.ref c_BadModule) = some false)
    (w518nes : decide (c_PowerCut = c_BadPackage) = false)
    (w519ou : PySem.W.subIn K (.ref c_PowerCut) (.ref c_BadPackage) = some false)
    (w520nes : decide (c_PowerCut = c_BadLink) = false)
    (w521ou : PySem.W.subIn K (.ref c_PowerCut) (.ref c_BadLink) = some false)
    (w522nes : decide (c_PowerCut = c_BadCode) = false)
    (w523ou : PySem.W.subIn K (.ref c_PowerCut) (.ref c_BadCode) = some false)
    (w524nes : decide (c_PowerCut = c_BadPaper) = false)
    (w525ou : PySem.W.subIn K (.ref c_PowerCut) (.ref c_BadPaper) = some false)
    (w526nes : decide (c_PowerCut = c_BadScript) = false)
    (w527ou : PySem.W.subIn K (.ref c_PowerCut) (.ref c_BadScript) = some false)
    (w528nes : decide (c_PowerCut = c_Fault) = false)
    (w529ou : PySem.W.subIn K (.ref c_PowerCut) (.ref c_Fault) = some false)
    (w530nes : decide (c_PowerCut = c_StepsGone) = false)
    (w531ou : PySem.W.subIn K (.ref c_PowerCut) (.ref c_StepsGone) = some false)
    (w532nes : decide (c_PowerCut = c_CardError) = false)
    (w533ou : PySem.W.subIn K (.ref c_PowerCut) (.ref c_CardError) = some true)
    (w534ov : PySem.W.subIn K (.ref c_PowerCut) (.type "ValueError") = some true)
    (z0 : PySem.W.nsIn K mainGlobals "ValueError" = some none)
    (z1 : PySem.W.nsIn K mainGlobals "int" = some none)
    (z2 : PySem.W.nsIn K mainGlobals "isinstance" = some none)
    (z3 : PySem.W.nsIn K mainGlobals "len" = some none)
    (z4 : PySem.W.nsIn K mainGlobals "range" = some none)
    (y0 : PySem.W.nsIn K mainGlobals "MOST_SOURCE" = some (some (.int (20000) tk0)))
    (y1 : PySem.W.nsIn K mainGlobals "MOST_NAME" = some (some (.int (20) tk1)))
    (y2 : PySem.W.nsIn K mainGlobals "MOST_TEXT" = some (some (.int (16) tk2)))
    (y3 : PySem.W.nsIn K mainGlobals "MOST_VERSION" = some (some (.int (255) tk3)))
    (y4 : PySem.W.nsIn K mainGlobals "MOST_ITEMS" = some (some (.int (60) tk4)))
    (y5 : PySem.W.nsIn K mainGlobals "MOST_METHODS" = some (some (.int (120) tk5)))
    (y6 : PySem.W.nsIn K mainGlobals "MOST_INT" = some (some (.int (32767) tk6)))
    (y7 : PySem.W.nsIn K mainGlobals "MOST_OPEN" = some (some (.int (24) tk7)))
    (y8 : PySem.W.nsIn K mainGlobals "MOST_NESTED" = some (some (.int (16) tk8)))
    (y9 : PySem.W.nsIn K mainGlobals "MOST_NODES" = some (some (.int (300) tk9)))
    (y10 : PySem.W.nsIn K mainGlobals "MOST_CODE" = some (some (.int (2000) tk10)))
    (y11 : PySem.W.nsIn K mainGlobals "MOST_STACK" = some (some (.int (300) tk11)))
    (y12 : PySem.W.nsIn K mainGlobals "MOST_HANDLERS" = some (some (.int (300) tk12)))
    (y13 : PySem.W.nsIn K mainGlobals "MOST_APPLETS" = some (some (.int (8) tk13)))
    (y14 : PySem.W.nsIn K mainGlobals "MOST_CHANNELS" = some (some (.int (4) tk14)))
    (y15 : PySem.W.nsIn K mainGlobals "MOST_BUFFER" = some (some (.int (64) tk15)))
    (y16 : PySem.W.nsIn K mainGlobals "MOST_BYTES" = some (some (.int (64) tk16)))
    (y17 : PySem.W.nsIn K mainGlobals "MOST_CELLS" = some (some (.int (400) tk17)))
    (y18 : PySem.W.nsIn K mainGlobals "MOST_OBJECTS" = some (some (.int (60) tk18)))
    (y19 : PySem.W.nsIn K mainGlobals "MOST_LOG" = some (some (.int (40) tk19)))
    (y20 : PySem.W.nsIn K mainGlobals "MOST_DEPTH" = some (some (.int (8) tk20)))
    (y21 : PySem.W.nsIn K mainGlobals "MOST_STEPS" = some (some (.int (1000) tk21)))
    (y22 : PySem.W.nsIn K mainGlobals "NULL" = some (some (.int (-1) tk22)))
    (y23 : PySem.W.nsIn K mainGlobals "PLACE" = some (some (.int (-2) tk23)))
    (y24 : PySem.W.nsIn K mainGlobals "DIVIDED" = some (some (.int (-3) tk24)))
    (y25 : PySem.W.nsIn K mainGlobals "KIND" = some (some (.int (-4) tk25)))
    (y26 : PySem.W.nsIn K mainGlobals "LOOK" = some (some (.int (-5) tk26)))
    (y27 : PySem.W.nsIn K mainGlobals "ROOM" = some (some (.int (-6) tk27)))
    (y28 : PySem.W.nsIn K mainGlobals "SIZE" = some (some (.int (-7) tk28)))
    (y29 : PySem.W.nsIn K mainGlobals "TRANSACTION" = some (some (.int (-8) tk29)))
    (y30 : PySem.W.nsIn K mainGlobals "DEPTH" = some (some (.int (-9) tk30)))
    (y31 : PySem.W.nsIn K mainGlobals "STEPS" = some (some (.int (-10) tk31))) :
    ∃ fd : FuncData, (∀ (s : Shared) (v : Value), BindsTo s fd ⟨[v], []⟩ [("_law_script", v)]) ∧ ∀ base : Heap, K.In base → base.Ns mainGlobals mg → FnOk l.prog w K mg base CX0 4 fa fd ["_law_script"] (sp_law K) := by
  have e := hfa.symm.trans (PySem.W.mg_of X G a8)
  cases e
  let T : Txt K mg := {
    f_BadSource_init := f0,
    d_BadSource_init := _,
    k_BadSource_init := (fun_mk (st := s_BadSource_init) l0 c0 k0),
    b_BadSource_init := (Fun.binds (ps := ["self", "line", "reason"]) (fun_mk (st := s_BadSource_init) l0 c0 k0) fun _ _ _ _ _ _ us hl => match us, hl with | [_, _, _], _ => rfl),
    f_BadProgram_init := f1,
    d_BadProgram_init := _,
    k_BadProgram_init := (fun_mk (st := s_BadProgram_init) l1 c1 k1),
    b_BadProgram_init := (Fun.binds (ps := ["self", "reason"]) (fun_mk (st := s_BadProgram_init) l1 c1 k1) fun _ _ _ _ _ _ us hl => match us, hl with | [_, _], _ => rfl),
    f_BadScript_init := f2,
    d_BadScript_init := _,
    k_BadScript_init := (fun_mk (st := s_BadScript_init) l2 c2 k2),
    b_BadScript_init := (Fun.binds (ps := ["self", "line", "reason"]) (fun_mk (st := s_BadScript_init) l2 c2 k2) fun _ _ _ _ _ _ us hl => match us, hl with | [_, _, _], _ => rfl),
    f_Fault_init := f3,
    d_Fault_init := _,
    k_Fault_init := (fun_mk (st := s_Fault_init) l3 c3 k3),
    b_Fault_init := (Fun.binds (ps := ["self", "code"]) (fun_mk (st := s_Fault_init) l3 c3 k3) fun _ _ _ _ _ _ us hl => match us, hl with | [_, _], _ => rfl),
    f_law_cell := f4,
    d_law_cell := _,
    k_law_cell := (fun_mk (st := s_law_cell) l4 c4 k4),
    b_law_cell := (Fun.binds (ps := ["_law_script", "_law_k"]) (fun_mk (st := s_law_cell) l4 c4 k4) fun _ _ _ _ _ _ us hl => match us, hl with | [_, _], _ => rfl),
    g_law_cell := PySem.W.mg_of X G a4,
    f_law_kinds := f5,
    d_law_kinds := _,
    k_law_kinds := (fun_mk (st := s_law_kinds) l5 c5 k5),
    b_law_kinds := (Fun.binds (ps := ["_law_e"]) (fun_mk (st := s_law_kinds) l5 c5 k5) fun _ _ _ _ _ _ us hl => match us, hl with | [_], _ => rfl),
    g_law_kinds := PySem.W.mg_of X G a5,
    f_law_right := f6,
    d_law_right := _,
    k_law_right := (fun_mk (st := s_law_right) l6 c6 k6),
    b_law_right := (Fun.binds (ps := ["_law_errors"]) (fun_mk (st := s_law_right) l6 c6 k6) fun _ _ _ _ _ _ us hl => match us, hl with | [_], _ => rfl),
    g_law_right := PySem.W.mg_of X G a6,
    f_law_raised := f7,
    d_law_raised := _,
    k_law_raised := (fun_mk (st := s_law_raised) l7 c7 k7),
    b_law_raised := (Fun.binds (ps := ["_law_code"]) (fun_mk (st := s_law_raised) l7 c7 k7) fun _ _ _ _ _ _ us hl => match us, hl with | [_], _ => rfl),
    g_law_raised := PySem.W.mg_of X G a7,
    f_law := fa,
    d_law := _,
    k_law := (fun_mk (st := s_law) l8 c8 k8),
    b_law := (Fun.binds (ps := ["_law_script"]) (fun_mk (st := s_law) l8 c8 k8) fun _ _ _ _ _ _ us hl => match us, hl with | [_], _ => rfl),
    g_law := PySem.W.mg_of X G a8,
    c_CardError := c_CardError,
    g_CardError := PySem.W.mg_of X G aC_CardError,
    c_BadSource := c_BadSource,
    g_BadSource := PySem.W.mg_of X G aC_BadSource,
    c_BadTree := c_BadTree,
    g_BadTree := PySem.W.mg_of X G aC_BadTree,
    c_BadProgram := c_BadProgram,
    g_BadProgram := PySem.W.mg_of X G aC_BadProgram,
    c_BadModule := c_BadModule,
    g_BadModule := PySem.W.mg_of X G aC_BadModule,
    c_BadPackage := c_BadPackage,
    g_BadPackage := PySem.W.mg_of X G aC_BadPackage,
    c_BadLink := c_BadLink,
    g_BadLink := PySem.W.mg_of X G aC_BadLink,
    c_BadCode := c_BadCode,
    g_BadCode := PySem.W.mg_of X G aC_BadCode,
    c_BadPaper := c_BadPaper,
    g_BadPaper := PySem.W.mg_of X G aC_BadPaper,
    c_BadScript := c_BadScript,
    g_BadScript := PySem.W.mg_of X G aC_BadScript,
    c_Fault := c_Fault,
    g_Fault := PySem.W.mg_of X G aC_Fault,
    c_StepsGone := c_StepsGone,
    g_StepsGone := PySem.W.mg_of X G aC_StepsGone,
    c_PowerCut := c_PowerCut,
    g_PowerCut := PySem.W.mg_of X G aC_PowerCut,
    ex_Fault_CardError := exm_two w1eb w2ei w3et w4es,
    ex_BadSource_CardError := exm_two w5eb w6ei w7et w8es,
    ex_BadScript_CardError := exm_two w9eb w10ei w11et w12es,
    ex_BadProgram_CardError := exm_two w13eb w14ei w15et w16es,
    ex_BadTree_CardError := exm_two w17eb w18ei w19et w20es,
    ex_BadModule_CardError := exm_two w21eb w22ei w23et w24es,
    ex_BadPackage_CardError := exm_two w25eb w26ei w27et w28es,
    ex_BadLink_CardError := exm_two w29eb w30ei w31et w32es,
    ex_BadCode_CardError := exm_two w33eb w34ei w35et w36es,
    ex_BadPaper_CardError := exm_two w37eb w38ei w39et w40es,
    ex_StepsGone_CardError := exm_two w41eb w42ei w43et w44es,
    ex_PowerCut_CardError := exm_two w45eb w46ei w47et w48es,
    ox_BadSource := ⟨⟨_, _, _, _, _, _, _, _, _, _, _, _, _, _, _, w49oe, w50rv⟩, w51os, w52ob, w53ot, w54ok⟩,
    in_BadSource := w55in,
    ti_BadSource := w56ti,
    on_BadSource_line := w57on,
    on_BadSource_reason := w58on,
    xf_BadSource := ⟨w59xg, w60xh, w61xe, w62xd⟩,
    x_BadTree := ⟨w63x, w64kx, w65be, w66ty⟩,
    ox_BadProgram := ⟨⟨_, _, _, _, _, _, _, _, _, _, _, _, _, _, _, w67oe, w68rv⟩, w69os, w70ob, w71ot, w72ok⟩,
    in_BadProgram := w73in,
    ti_BadProgram := w74ti,
    on_BadProgram_reason := w75on,
    xf_BadProgram := ⟨w76xg, w77xh, w78xe, w79xd⟩,
    x_BadModule := ⟨w80x, w81kx, w82be, w83ty⟩,
    x_BadPackage := ⟨w84x, w85kx, w86be, w87ty⟩,
    x_BadLink := ⟨w88x, w89kx, w90be, w91ty⟩,
    x_BadCode := ⟨w92x, w93kx, w94be, w95ty⟩,
    x_BadPaper := ⟨w96x, w97kx, w98be, w99ty⟩,
    ox_BadScript := ⟨⟨_, _, _, _, _, _, _, _, _, _, _, _, _, _, _, w100oe, w101rv⟩, w102os, w103ob, w104ot, w105ok⟩,
    in_BadScript := w106in,
    ti_BadScript := w107ti,
    on_BadScript_line := w108on,
    on_BadScript_reason := w109on,
    xf_BadScript := ⟨w110xg, w111xh, w112xe, w113xd⟩,
    ox_Fault := ⟨⟨_, _, _, _, _, _, _, _, _, _, _, _, _, _, _, w114oe, w115rv⟩, w116os, w117ob, w118ot, w119ok⟩,
    in_Fault := w120in,
    ti_Fault := w121ti,
    on_Fault_code := w122on,
    xf_Fault := ⟨w123xg, w124xh, w125xe, w126xd⟩,
    x_StepsGone := ⟨w127x, w128kx, w129be, w130ty⟩,
    x_PowerCut := ⟨w131x, w132kx, w133be, w134ty⟩,
    er_BadSource := ⟨⟨w135eg, w136ek, w137eb, w138ed, w139ea, w140en, w141et, w142em⟩, .cons kit_self (.cons (kit_own w143nes w144oc w145ot w146ou) (.cons (kit_own w147nes w148oc w149ot w150ou) (.cons (kit_own w151nes w152oc w153ot w154ou) (.cons (kit_own w155nes w156oc w157ot w158ou) (.cons (kit_own w159nes w160oc w161ot w162ou) (.cons (kit_own w163nes w164oc w165ot w166ou) (.cons (kit_own w167nes w168oc w169ot w170ou) (.cons (kit_own w171nes w172oc w173ot w174ou) (.cons (kit_own w175nes w176oc w177ot w178ou) (.cons (kit_own w179nes w180oc w181ot w182ou) (.cons (kit_own w183nes w184oc w185ot w186ou) (.nil)))))))))))), kit_own w187nes w188oc w189ot w190ou, kit_blt (by decide +kernel) w191ov⟩,
    er_BadTree := ⟨⟨w192eg, w193ek, w194eb, w195ed, w196ea, w140en, w141et, w197em⟩, .cons (kit_own w198nes w199oc w200ot w201ou) (.cons kit_self (.cons (kit_own w202nes w148oc w149ot w203ou) (.cons (kit_own w204nes w152oc w153ot w205ou) (.cons (kit_own w206nes w156oc w157ot w207ou) (.cons (kit_own w208nes w160oc w161ot w209ou) (.cons (kit_own w210nes w164oc w165ot w211ou) (.cons (kit_own w212nes w168oc w169ot w213ou) (.cons (kit_own w214nes w172oc w173ot w215ou) (.cons (kit_own w216nes w176oc w177ot w217ou) (.cons (kit_own w218nes w180oc w181ot w219ou) (.cons (kit_own w220nes w184oc w185ot w221ou) (.nil)))))))))))), kit_own w222nes w188oc w189ot w223ou, kit_blt (by decide +kernel) w224ov⟩,
    er_BadProgram := ⟨⟨w225eg, w226ek, w227eb, w228ed, w229ea, w140en, w141et, w230em⟩, .cons (kit_own w231nes w199oc w200ot w232ou) (.cons (kit_own w233nes w144oc w145ot w234ou) (.cons kit_self (.cons (kit_own w235nes w152oc w153ot w236ou) (.cons (kit_own w237nes w156oc w157ot w238ou) (.cons (kit_own w239nes w160oc w161ot w240ou) (.cons (kit_own w241nes w164oc w165ot w242ou) (.cons (kit_own w243nes w168oc w169ot w244ou) (.cons (kit_own w245nes w172oc w173ot w246ou) (.cons (kit_own w247nes w176oc w177ot w248ou) (.cons (kit_own w249nes w180oc w181ot w250ou) (.cons (kit_own w251nes w184oc w185ot w252ou) (.nil)))))))))))), kit_own w253nes w188oc w189ot w254ou, kit_blt (by decide +kernel) w255ov⟩,
    er_BadModule := ⟨⟨w256eg, w257ek, w258eb, w259ed, w260ea, w140en, w141et, w261em⟩, .cons (kit_own w262nes w199oc w200ot w263ou) (.cons (kit_own w264nes w144oc w145ot w265ou) (.cons (kit_own w266nes w148oc w149ot w267ou) (.cons kit_self (.cons (kit_own w268nes w156oc w157ot w269ou) (.cons (kit_own w270nes w160oc w161ot w271ou) (.cons (kit_own w272nes w164oc w165ot w273ou) (.cons (kit_own w274nes w168oc w169ot w275ou) (.cons (kit_own w276nes w172oc w173ot w277ou) (.cons (kit_own w278nes w176oc w177ot w279ou) (.cons (kit_own w280nes w180oc w181ot w281ou) (.cons (kit_own w282nes w184oc w185ot w283ou) (.nil)))))))))))), kit_own w284nes w188oc w189ot w285ou, kit_blt (by decide +kernel) w286ov⟩,
    er_BadPackage := ⟨⟨w287eg, w288ek, w289eb, w290ed, w291ea, w140en, w141et, w292em⟩, .cons (kit_own w293nes w199oc w200ot w294ou) (.cons (kit_own w295nes w144oc w145ot w296ou) (.cons (kit_own w297nes w148oc w149ot w298ou) (.cons (kit_own w299nes w152oc w153ot w300ou) (.cons kit_self (.cons (kit_own w301nes w160oc w161ot w302ou) (.cons (kit_own w303nes w164oc w165ot w304ou) (.cons (kit_own w305nes w168oc w169ot w306ou) (.cons (kit_own w307nes w172oc w173ot w308ou) (.cons (kit_own w309nes w176oc w177ot w310ou) (.cons (kit_own w311nes w180oc w181ot w312ou) (.cons (kit_own w313nes w184oc w185ot w314ou) (.nil)))))))))))), kit_own w315nes w188oc w189ot w316ou, kit_blt (by decide +kernel) w317ov⟩,
    er_BadLink := ⟨⟨w318eg, w319ek, w320eb, w321ed, w322ea, w140en, w141et, w323em⟩, .cons (kit_own w324nes w199oc w200ot w325ou) (.cons (kit_own w326nes w144oc w145ot w327ou) (.cons (kit_own w328nes w148oc w149ot w329ou) (.cons (kit_own w330nes w152oc w153ot w331ou) (.cons (kit_own w332nes w156oc w157ot w333ou) (.cons kit_self (.cons (kit_own w334nes w164oc w165ot w335ou) (.cons (kit_own w336nes w168oc w169ot w337ou) (.cons (kit_own w338nes w172oc w173ot w339ou) (.cons (kit_own w340nes w176oc w177ot w341ou) (.cons (kit_own w342nes w180oc w181ot w343ou) (.cons (kit_own w344nes w184oc w185ot w345ou) (.nil)))))))))))), kit_own w346nes w188oc w189ot w347ou, kit_blt (by decide +kernel) w348ov⟩,
    er_BadCode := ⟨⟨w349eg, w350ek, w351eb, w352ed, w353ea, w140en, w141et, w354em⟩, .cons (kit_own w355nes w199oc w200ot w356ou) (.cons (kit_own w357nes w144oc w145ot w358ou) (.cons (kit_own w359nes w148oc w149ot w360ou) (.cons (kit_own w361nes w152oc w153ot w362ou) (.cons (kit_own w363nes w156oc w157ot w364ou) (.cons (kit_own w365nes w160oc w161ot w366ou) (.cons kit_self (.cons (kit_own w367nes w168oc w169ot w368ou) (.cons (kit_own w369nes w172oc w173ot w370ou) (.cons (kit_own w371nes w176oc w177ot w372ou) (.cons (kit_own w373nes w180oc w181ot w374ou) (.cons (kit_own w375nes w184oc w185ot w376ou) (.nil)))))))))))), kit_own w377nes w188oc w189ot w378ou, kit_blt (by decide +kernel) w379ov⟩,
    er_BadPaper := ⟨⟨w380eg, w381ek, w382eb, w383ed, w384ea, w140en, w141et, w385em⟩, .cons (kit_own w386nes w199oc w200ot w387ou) (.cons (kit_own w388nes w144oc w145ot w389ou) (.cons (kit_own w390nes w148oc w149ot w391ou) (.cons (kit_own w392nes w152oc w153ot w393ou) (.cons (kit_own w394nes w156oc w157ot w395ou) (.cons (kit_own w396nes w160oc w161ot w397ou) (.cons (kit_own w398nes w164oc w165ot w399ou) (.cons kit_self (.cons (kit_own w400nes w172oc w173ot w401ou) (.cons (kit_own w402nes w176oc w177ot w403ou) (.cons (kit_own w404nes w180oc w181ot w405ou) (.cons (kit_own w406nes w184oc w185ot w407ou) (.nil)))))))))))), kit_own w408nes w188oc w189ot w409ou, kit_blt (by decide +kernel) w410ov⟩,
    er_BadScript := ⟨⟨w411eg, w412ek, w413eb, w414ed, w415ea, w140en, w141et, w416em⟩, .cons (kit_own w417nes w199oc w200ot w418ou) (.cons (kit_own w419nes w144oc w145ot w420ou) (.cons (kit_own w421nes w148oc w149ot w422ou) (.cons (kit_own w423nes w152oc w153ot w424ou) (.cons (kit_own w425nes w156oc w157ot w426ou) (.cons (kit_own w427nes w160oc w161ot w428ou) (.cons (kit_own w429nes w164oc w165ot w430ou) (.cons (kit_own w431nes w168oc w169ot w432ou) (.cons kit_self (.cons (kit_own w433nes w176oc w177ot w434ou) (.cons (kit_own w435nes w180oc w181ot w436ou) (.cons (kit_own w437nes w184oc w185ot w438ou) (.nil)))))))))))), kit_own w439nes w188oc w189ot w440ou, kit_blt (by decide +kernel) w441ov⟩,
    er_Fault := ⟨⟨w442eg, w443ek, w444eb, w445ed, w446ea, w140en, w141et, w447em⟩, .cons (kit_own w448nes w199oc w200ot w449ou) (.cons (kit_own w450nes w144oc w145ot w451ou) (.cons (kit_own w452nes w148oc w149ot w453ou) (.cons (kit_own w454nes w152oc w153ot w455ou) (.cons (kit_own w456nes w156oc w157ot w457ou) (.cons (kit_own w458nes w160oc w161ot w459ou) (.cons (kit_own w460nes w164oc w165ot w461ou) (.cons (kit_own w462nes w168oc w169ot w463ou) (.cons (kit_own w464nes w172oc w173ot w465ou) (.cons kit_self (.cons (kit_own w466nes w180oc w181ot w467ou) (.cons (kit_own w468nes w184oc w185ot w469ou) (.nil)))))))))))), kit_own w470nes w188oc w189ot w471ou, kit_blt (by decide +kernel) w472ov⟩,
    er_StepsGone := ⟨⟨w473eg, w474ek, w475eb, w476ed, w477ea, w140en, w141et, w478em⟩, .cons (kit_own w479nes w199oc w200ot w480ou) (.cons (kit_own w481nes w144oc w145ot w482ou) (.cons (kit_own w483nes w148oc w149ot w484ou) (.cons (kit_own w485nes w152oc w153ot w486ou) (.cons (kit_own w487nes w156oc w157ot w488ou) (.cons (kit_own w489nes w160oc w161ot w490ou) (.cons (kit_own w491nes w164oc w165ot w492ou) (.cons (kit_own w493nes w168oc w169ot w494ou) (.cons (kit_own w495nes w172oc w173ot w496ou) (.cons (kit_own w497nes w176oc w177ot w498ou) (.cons kit_self (.cons (kit_own w499nes w184oc w185ot w500ou) (.nil)))))))))))), kit_own w501nes w188oc w189ot w502ou, kit_blt (by decide +kernel) w503ov⟩,
    er_PowerCut := ⟨⟨w504eg, w505ek, w506eb, w507ed, w508ea, w140en, w141et, w509em⟩, .cons (kit_own w510nes w199oc w200ot w511ou) (.cons (kit_own w512nes w144oc w145ot w513ou) (.cons (kit_own w514nes w148oc w149ot w515ou) (.cons (kit_own w516nes w152oc w153ot w517ou) (.cons (kit_own w518nes w156oc w157ot w519ou) (.cons (kit_own w520nes w160oc w161ot w521ou) (.cons (kit_own w522nes w164oc w165ot w523ou) (.cons (kit_own w524nes w168oc w169ot w525ou) (.cons (kit_own w526nes w172oc w173ot w527ou) (.cons (kit_own w528nes w176oc w177ot w529ou) (.cons (kit_own w530nes w180oc w181ot w531ou) (.cons kit_self (.nil)))))))))))), kit_own w532nes w188oc w189ot w533ou, kit_blt (by decide +kernel) w534ov⟩,
    m_ValueError := PySem.W.mg_none_of X G z0,
    m_int := PySem.W.mg_none_of X G z1,
    m_isinstance := PySem.W.mg_none_of X G z2,
    m_len := PySem.W.mg_none_of X G z3,
    m_range := PySem.W.mg_none_of X G z4,
    t_MOST_SOURCE := tk0,
    g_MOST_SOURCE := PySem.W.mg_of X G y0,
    t_MOST_NAME := tk1,
    g_MOST_NAME := PySem.W.mg_of X G y1,
    t_MOST_TEXT := tk2,
    g_MOST_TEXT := PySem.W.mg_of X G y2,
    t_MOST_VERSION := tk3,
    g_MOST_VERSION := PySem.W.mg_of X G y3,
    t_MOST_ITEMS := tk4,
    g_MOST_ITEMS := PySem.W.mg_of X G y4,
    t_MOST_METHODS := tk5,
    g_MOST_METHODS := PySem.W.mg_of X G y5,
    t_MOST_INT := tk6,
    g_MOST_INT := PySem.W.mg_of X G y6,
    t_MOST_OPEN := tk7,
    g_MOST_OPEN := PySem.W.mg_of X G y7,
    t_MOST_NESTED := tk8,
    g_MOST_NESTED := PySem.W.mg_of X G y8,
    t_MOST_NODES := tk9,
    g_MOST_NODES := PySem.W.mg_of X G y9,
    t_MOST_CODE := tk10,
    g_MOST_CODE := PySem.W.mg_of X G y10,
    t_MOST_STACK := tk11,
    g_MOST_STACK := PySem.W.mg_of X G y11,
    t_MOST_HANDLERS := tk12,
    g_MOST_HANDLERS := PySem.W.mg_of X G y12,
    t_MOST_APPLETS := tk13,
    g_MOST_APPLETS := PySem.W.mg_of X G y13,
    t_MOST_CHANNELS := tk14,
    g_MOST_CHANNELS := PySem.W.mg_of X G y14,
    t_MOST_BUFFER := tk15,
    g_MOST_BUFFER := PySem.W.mg_of X G y15,
    t_MOST_BYTES := tk16,
    g_MOST_BYTES := PySem.W.mg_of X G y16,
    t_MOST_CELLS := tk17,
    g_MOST_CELLS := PySem.W.mg_of X G y17,
    t_MOST_OBJECTS := tk18,
    g_MOST_OBJECTS := PySem.W.mg_of X G y18,
    t_MOST_LOG := tk19,
    g_MOST_LOG := PySem.W.mg_of X G y19,
    t_MOST_DEPTH := tk20,
    g_MOST_DEPTH := PySem.W.mg_of X G y20,
    t_MOST_STEPS := tk21,
    g_MOST_STEPS := PySem.W.mg_of X G y21,
    t_NULL := tk22,
    g_NULL := PySem.W.mg_of X G y22,
    t_PLACE := tk23,
    g_PLACE := PySem.W.mg_of X G y23,
    t_DIVIDED := tk24,
    g_DIVIDED := PySem.W.mg_of X G y24,
    t_KIND := tk25,
    g_KIND := PySem.W.mg_of X G y25,
    t_LOOK := tk26,
    g_LOOK := PySem.W.mg_of X G y26,
    t_ROOM := tk27,
    g_ROOM := PySem.W.mg_of X G y27,
    t_SIZE := tk28,
    g_SIZE := PySem.W.mg_of X G y28,
    t_TRANSACTION := tk29,
    g_TRANSACTION := PySem.W.mg_of X G y29,
    t_DEPTH := tk30,
    g_DEPTH := PySem.W.mg_of X G y30,
    t_STEPS := tk31,
    g_STEPS := PySem.W.mg_of X G y31 }
  exact ⟨T.d_law, fun s v => .of_eq rfl, fun base _ _ => ok_law T⟩
end
end My
open PySem PySem.W PyProof.Rows
set_option maxHeartbeats 0 in
theorem PySem.Challenge.cw_warycard_k00_errors_and_limits_holds : PySem.Challenge.rw_warycard_k00_errors_and_limits.Holds := by
  w_on; o_law; k_head; (case hw => w_witness2)
  k_fill
  refine L2.walk_of (l := PySem.Challenge.rw_warycard_k00_errors_and_limits) (n := 63) (k := 4) (x := "_law_script") (CX := fun _ => L2.CX0) (sp := fun w => My.sp_law _) rfl (by decide) rfl ⟨rfl, by decide, by decide⟩ (fun w h Y => PySem.W.kIn_of Y) ?F (fun _ _ a ns hl _ hS => ⟨a, ns, rfl, hS, hl, fun _ => rfl⟩) (fun _ _ _ _ _ h => h)
  case F =>
    intro w mg fa h KX G hmg
    refine' My.all_mk KX G hmg ?l0 ?c0 ?k0 ?l1 ?c1 ?k1 ?l2 ?c2 ?k2 ?l3 ?c3 ?k3 ?a4 ?l4 ?c4 ?k4 ?a5 ?l5 ?c5 ?k5 ?a6 ?l6 ?c6 ?k6 ?a7 ?l7 ?c7 ?k7 ?a8 ?l8 ?c8 ?k8 ?aC_CardError ?aC_BadSource ?aC_BadTree ?aC_BadProgram ?aC_BadModule ?aC_BadPackage ?aC_BadLink ?aC_BadCode ?aC_BadPaper ?aC_BadScript ?aC_Fault ?aC_StepsGone ?aC_PowerCut ?w1eb ?w2ei ?w3et ?w4es ?w5eb ?w6ei ?w7et ?w8es ?w9eb ?w10ei ?w11et ?w12es ?w13eb ?w14ei ?w15et ?w16es ?w17eb ?w18ei ?w19et ?w20es ?w21eb ?w22ei ?w23et ?w24es ?w25eb ?w26ei ?w27et ?w28es ?w29eb ?w30ei ?w31et ?w32es ?w33eb ?w34ei ?w35et ?w36es ?w37eb ?w38ei ?w39et ?w40es ?w41eb ?w42ei ?w43et ?w44es ?w45eb ?w46ei ?w47et ?w48es ?w49oe ?w50rv ?w51os ?w52ob ?w53ot ?w54ok ?w55in ?w56ti ?w57on ?w58on ?w59xg ?w60xh ?w61xe ?w62xd ?w63x ?w64kx ?w65be ?w66ty ?w67oe ?w68rv ?w69os ?w70ob ?w71ot ?w72ok ?w73in ?w74ti ?w75on ?w76xg ?w77xh ?w78xe ?w79xd ?w80x ?w81kx ?w82be ?w83ty ?w84x ?w85kx ?w86be ?w87ty ?w88x ?w89kx ?w90be ?w91ty ?w92x ?w93kx ?w94be ?w95ty ?w96x ?w97kx ?w98be ?w99ty ?w100oe ?w101rv ?w102os ?w103ob ?w104ot ?w105ok ?w106in ?w107ti ?w108on ?w109on ?w110xg ?w111xh ?w112xe ?w113xd ?w114oe ?w115rv ?w116os ?w117ob ?w118ot ?w119ok ?w120in ?w121ti ?w122on ?w123xg ?w124xh ?w125xe ?w126xd ?w127x ?w128kx ?w129be ?w130ty ?w131x ?w132kx ?w133be ?w134ty ?w135eg ?w136ek ?w137eb ?w138ed ?w139ea ?w140en ?w141et ?w142em ?w143nes ?w144oc ?w145ot ?w146ou ?w147nes ?w148oc ?w149ot ?w150ou ?w151nes ?w152oc ?w153ot ?w154ou ?w155nes ?w156oc ?w157ot ?w158ou ?w159nes ?w160oc ?w161ot ?w162ou ?w163nes ?w164oc ?w165ot ?w166ou ?w167nes ?w168oc ?w169ot ?w170ou ?w171nes ?w172oc ?w173ot ?w174ou ?w175nes ?w176oc ?w177ot ?w178ou ?w179nes ?w180oc ?w181ot ?w182ou ?w183nes ?w184oc ?w185ot ?w186ou ?w187nes ?w188oc ?w189ot ?w190ou ?w191ov ?w192eg ?w193ek ?w194eb ?w195ed ?w196ea ?w197em ?w198nes ?w199oc ?w200ot ?w201ou ?w202nes ?w203ou ?w204nes ?w205ou ?w206nes ?w207ou ?w208nes ?w209ou ?w210nes ?w211ou ?w212nes ?w213ou ?w214nes ?w215ou ?w216nes ?w217ou ?w218nes ?w219ou ?w220nes ?w221ou ?w222nes ?w223ou ?w224ov ?w225eg ?w226ek ?w227eb ?w228ed ?w229ea ?w230em ?w231nes ?w232ou ?w233nes ?w234ou ?w235nes ?w236ou ?w237nes ?w238ou ?w239nes ?w240ou ?w241nes ?w242ou ?w243nes ?w244ou ?w245nes ?w246ou ?w247nes ?w248ou ?w249nes ?w250ou ?w251nes ?w252ou ?w253nes ?w254ou ?w255ov ?w256eg ?w257ek ?w258eb ?w259ed ?w260ea ?w261em ?w262nes ?w263ou ?w264nes ?w265ou ?w266nes ?w267ou ?w268nes ?w269ou ?w270nes ?w271ou ?w272nes ?w273ou ?w274nes ?w275ou ?w276nes ?w277ou ?w278nes ?w279ou ?w280nes ?w281ou ?w282nes ?w283ou ?w284nes ?w285ou ?w286ov ?w287eg ?w288ek ?w289eb ?w290ed ?w291ea ?w292em ?w293nes ?w294ou ?w295nes ?w296ou ?w297nes ?w298ou ?w299nes ?w300ou ?w301nes ?w302ou ?w303nes ?w304ou ?w305nes ?w306ou ?w307nes ?w308ou ?w309nes ?w310ou ?w311nes ?w312ou ?w313nes ?w314ou ?w315nes ?w316ou ?w317ov ?w318eg ?w319ek ?w320eb ?w321ed ?w322ea ?w323em ?w324nes ?w325ou ?w326nes ?w327ou ?w328nes ?w329ou ?w330nes ?w331ou ?w332nes ?w333ou ?w334nes ?w335ou ?w336nes ?w337ou ?w338nes ?w339ou ?w340nes ?w341ou ?w342nes ?w343ou ?w344nes ?w345ou ?w346nes ?w347ou ?w348ov ?w349eg ?w350ek ?w351eb ?w352ed ?w353ea ?w354em ?w355nes ?w356ou ?w357nes ?w358ou ?w359nes ?w360ou ?w361nes ?w362ou ?w363nes ?w364ou ?w365nes ?w366ou ?w367nes ?w368ou ?w369nes ?w370ou ?w371nes ?w372ou ?w373nes ?w374ou ?w375nes ?w376ou ?w377nes ?w378ou ?w379ov ?w380eg ?w381ek ?w382eb ?w383ed ?w384ea ?w385em ?w386nes ?w387ou ?w388nes ?w389ou ?w390nes ?w391ou ?w392nes ?w393ou ?w394nes ?w395ou ?w396nes ?w397ou ?w398nes ?w399ou ?w400nes ?w401ou ?w402nes ?w403ou ?w404nes ?w405ou ?w406nes ?w407ou ?w408nes ?w409ou ?w410ov ?w411eg ?w412ek ?w413eb ?w414ed ?w415ea ?w416em ?w417nes ?w418ou ?w419nes ?w420ou ?w421nes ?w422ou ?w423nes ?w424ou ?w425nes ?w426ou ?w427nes ?w428ou ?w429nes ?w430ou ?w431nes ?w432ou ?w433nes ?w434ou ?w435nes ?w436ou ?w437nes ?w438ou ?w439nes ?w440ou ?w441ov ?w442eg ?w443ek ?w444eb ?w445ed ?w446ea ?w447em ?w448nes ?w449ou ?w450nes ?w451ou ?w452nes ?w453ou ?w454nes ?w455ou ?w456nes ?w457ou ?w458nes ?w459ou ?w460nes ?w461ou ?w462nes ?w463ou ?w464nes ?w465ou ?w466nes ?w467ou ?w468nes ?w469ou ?w470nes ?w471ou ?w472ov ?w473eg ?w474ek ?w475eb ?w476ed ?w477ea ?w478em ?w479nes ?w480ou ?w481nes ?w482ou ?w483nes ?w484ou ?w485nes ?w486ou ?w487nes ?w488ou ?w489nes ?w490ou ?w491nes ?w492ou ?w493nes ?w494ou ?w495nes ?w496ou ?w497nes ?w498ou ?w499nes ?w500ou ?w501nes ?w502ou ?w503ov ?w504eg ?w505ek ?w506eb ?w507ed ?w508ea ?w509em ?w510nes ?w511ou ?w512nes ?w513ou ?w514nes ?w515ou ?w516nes ?w517ou ?w518nes ?w519ou ?w520nes ?w521ou ?w522nes ?w523ou ?w524nes ?w525ou ?w526nes ?w527ou ?w528nes ?w529ou ?w530nes ?w531ou ?w532nes ?w533ou ?w534ov ?z0 ?z1 ?z2 ?z3 ?z4 ?y0 ?y1 ?y2 ?y3 ?y4 ?y5 ?y6 ?y7 ?y8 ?y9 ?y10 ?y11 ?y12 ?y13 ?y14 ?y15 ?y16 ?y17 ?y18 ?y19 ?y20 ?y21 ?y22 ?y23 ?y24 ?y25 ?y26 ?y27 ?y28 ?y29 ?y30 ?y31
    (case a4 => k_is); (case a5 => k_is); (case a6 => k_is); (case a7 => k_is); (case a8 => k_is); (case aC_CardError => k_is); (case aC_BadSource => k_is); (case aC_BadTree => k_is); (case aC_BadProgram => k_is); (case aC_BadModule => k_is); (case aC_BadPackage => k_is); (case aC_BadLink => k_is); (case aC_BadCode => k_is); (case aC_BadPaper => k_is); (case aC_BadScript => k_is); (case aC_Fault => k_is); (case aC_StepsGone => k_is); (case aC_PowerCut => k_is); (case z0 => k_is); (case z1 => k_is); (case z2 => k_is); (case z3 => k_is); (case z4 => k_is); (case y0 => k_is); (case y1 => k_is); (case y2 => k_is); (case y3 => k_is); (case y4 => k_is); (case y5 => k_is); (case y6 => k_is); (case y7 => k_is); (case y8 => k_is); (case y9 => k_is); (case y10 => k_is); (case y11 => k_is); (case y12 => k_is); (case y13 => k_is); (case y14 => k_is); (case y15 => k_is); (case y16 => k_is); (case y17 => k_is); (case y18 => k_is); (case y19 => k_is); (case y20 => k_is); (case y21 => k_is); (case y22 => k_is); (case y23 => k_is); (case y24 => k_is); (case y25 => k_is); (case y26 => k_is); (case y27 => k_is); (case y28 => k_is); (case y29 => k_is); (case y30 => k_is); (case y31 => k_is); (case w55in => k_is); (case w73in => k_is); (case w106in => k_is); (case w120in => k_is); (case l0 => k_is); (case l1 => k_is); (case l2 => k_is); (case l3 => k_is); (case l4 => k_is); (case l5 => k_is); (case l6 => k_is); (case l7 => k_is); (case l8 => k_is); (case w49oe => k_is); (case w67oe => k_is); (case w100oe => k_is); (case w114oe => k_is); (case c0 => k_is); (case k0 => k_is); (case c1 => k_is); (case k1 => k_is); (case c2 => k_is); (case k2 => k_is); (case c3 => k_is); (case k3 => k_is); (case c4 => k_is); (case k4 => k_is); (case c5 => k_is); (case k5 => k_is); (case c6 => k_is); (case k6 => k_is); (case c7 => k_is); (case k7 => k_is); (case c8 => k_is); (case k8 => k_is); (case w1eb => k_is); (case w2ei => k_is); (case w3et => k_is); (case w4es => first | rfl | k_is); (case w5eb => k_is); (case w6ei => k_is); (case w7et => k_is); (case w8es => first | rfl | k_is); (case w9eb => k_is); (case w10ei => k_is); (case w11et => k_is); (case w12es => first | rfl | k_is); (case w13eb => k_is); (case w14ei => k_is); (case w15et => k_is); (case w16es => first | rfl | k_is); (case w17eb => k_is); (case w18ei => k_is); (case w19et => k_is); (case w20es => first | rfl | k_is); (case w21eb => k_is); (case w22ei => k_is); (case w23et => k_is); (case w24es => first | rfl | k_is); (case w25eb => k_is); (case w26ei => k_is); (case w27et => k_is); (case w28es => first | rfl | k_is); (case w29eb => k_is); (case w30ei => k_is); (case w31et => k_is); (case w32es => first | rfl | k_is); (case w33eb => k_is); (case w34ei => k_is); (case w35et => k_is); (case w36es => first | rfl | k_is); (case w37eb => k_is); (case w38ei => k_is); (case w39et => k_is); (case w40es => first | rfl | k_is); (case w41eb => k_is); (case w42ei => k_is); (case w43et => k_is); (case w44es => first | rfl | k_is); (case w45eb => k_is); (case w46ei => k_is); (case w47et => k_is); (case w48es => first | rfl | k_is); (case w50rv => rfl); (case w51os => k_is); (case w52ob => k_is); (case w53ot => k_is); (case w54ok => k_is); (case w56ti => k_is); (case w57on => k_is); (case w58on => k_is); (case w59xg => k_is); (case w60xh => k_is); (case w61xe => k_is); (case w62xd => k_is); (case w63x => k_exc); (case w64kx => k_is); (case w65be => k_is); (case w66ty => k_is); (case w68rv => rfl); (case w69os => k_is); (case w70ob => k_is); (case w71ot => k_is); (case w72ok => k_is); (case w74ti => k_is); (case w75on => k_is); (case w76xg => k_is); (case w77xh => k_is); (case w78xe => k_is); (case w79xd => k_is); (case w80x => k_exc); (case w81kx => k_is); (case w82be => k_is); (case w83ty => k_is); (case w84x => k_exc); (case w85kx => k_is); (case w86be => k_is); (case w87ty => k_is); (case w88x => k_exc); (case w89kx => k_is); (case w90be => k_is); (case w91ty => k_is); (case w92x => k_exc); (case w93kx => k_is); (case w94be => k_is); (case w95ty => k_is); (case w96x => k_exc); (case w97kx => k_is); (case w98be => k_is); (case w99ty => k_is); (case w101rv => rfl); (case w102os => k_is); (case w103ob => k_is); (case w104ot => k_is); (case w105ok => k_is); (case w107ti => k_is); (case w108on => k_is); (case w109on => k_is); (case w110xg => k_is); (case w111xh => k_is); (case w112xe => k_is); (case w113xd => k_is); (case w115rv => rfl); (case w116os => k_is); (case w117ob => k_is); (case w118ot => k_is); (case w119ok => k_is); (case w121ti => k_is); (case w122on => k_is); (case w123xg => k_is); (case w124xh => k_is); (case w125xe => k_is); (case w126xd => k_is); (case w127x => k_exc); (case w128kx => k_is); (case w129be => k_is); (case w130ty => k_is); (case w131x => k_exc); (case w132kx => k_is); (case w133be => k_is); (case w134ty => k_is); (case w135eg => k_is); (case w136ek => k_is); (case w137eb => k_is); (case w138ed => k_is); (case w139ea => k_is); (case w140en => k_is); (case w141et => k_is); (case w142em => k_is); (case w143nes => first | rfl | k_is); (case w144oc => k_is); (case w145ot => k_is); (case w146ou => k_is); (case w147nes => first | rfl | k_is); (case w148oc => k_is); (case w149ot => k_is); (case w150ou => k_is); (case w151nes => first | rfl | k_is); (case w152oc => k_is); (case w153ot => k_is); (case w154ou => k_is); (case w155nes => first | rfl | k_is); (case w156oc => k_is); (case w157ot => k_is); (case w158ou => k_is); (case w159nes => first | rfl | k_is); (case w160oc => k_is); (case w161ot => k_is); (case w162ou => k_is); (case w163nes => first | rfl | k_is); (case w164oc => k_is); (case w165ot => k_is); (case w166ou => k_is); (case w167nes => first | rfl | k_is); (case w168oc => k_is); (case w169ot => k_is); (case w170ou => k_is); (case w171nes => first | rfl | k_is); (case w172oc => k_is); (case w173ot => k_is); (case w174ou => k_is); (case w175nes => first | rfl | k_is); (case w176oc => k_is); (case w177ot => k_is); (case w178ou => k_is); (case w179nes => first | rfl | k_is); (case w180oc => k_is); (case w181ot => k_is); (case w182ou => k_is); (case w183nes => first | rfl | k_is); (case w184oc => k_is); (case w185ot => k_is); (case w186ou => k_is); (case w187nes => first | rfl | k_is); (case w188oc => k_is); (case w189ot => k_is); (case w190ou => k_is); (case w191ov => k_is); (case w192eg => k_is); (case w193ek => k_is); (case w194eb => k_is); (case w195ed => k_is); (case w196ea => k_is); (case w197em => k_is); (case w198nes => first | rfl | k_is); (case w199oc => k_is); (case w200ot => k_is); (case w201ou => k_is); (case w202nes => first | rfl | k_is); (case w203ou => k_is); (case w204nes => first | rfl | k_is); (case w205ou => k_is); (case w206nes => first | rfl | k_is); (case w207ou => k_is); (case w208nes => first | rfl | k_is); (case w209ou => k_is); (case w210nes => first | rfl | k_is); (case w211ou => k_is); (case w212nes => first | rfl | k_is); (case w213ou => k_is); (case w214nes => first | rfl | k_is); (case w215ou => k_is); (case w216nes => first | rfl | k_is); (case w217ou => k_is); (case w218nes => first | rfl | k_is); (case w219ou => k_is); (case w220nes => first | rfl | k_is); (case w221ou => k_is); (case w222nes => first | rfl | k_is); (case w223ou => k_is); (case w224ov => k_is); (case w225eg => k_is); (case w226ek => k_is); (case w227eb => k_is); (case w228ed => k_is); (case w229ea => k_is); (case w230em => k_is); (case w231nes => first | rfl | k_is); (case w232ou => k_is); (case w233nes => first | rfl | k_is); (case w234ou => k_is); (case w235nes => first | rfl | k_is); (case w236ou => k_is); (case w237nes => first | rfl | k_is); (case w238ou => k_is); (case w239nes => first | rfl | k_is); (case w240ou => k_is); (case w241nes => first | rfl | k_is); (case w242ou => k_is); (case w243nes => first | rfl | k_is); (case w244ou => k_is); (case w245nes => first | rfl | k_is); (case w246ou => k_is); (case w247nes => first | rfl | k_is); (case w248ou => k_is); (case w249nes => first | rfl | k_is); (case w250ou => k_is); (case w251nes => first | rfl | k_is); (case w252ou => k_is); (case w253nes => first | rfl | k_is); (case w254ou => k_is); (case w255ov => k_is); (case w256eg => k_is); (case w257ek => k_is); (case w258eb => k_is); (case w259ed => k_is); (case w260ea => k_is); (case w261em => k_is); (case w262nes => first | rfl | k_is); (case w263ou => k_is); (case w264nes => first | rfl | k_is); (case w265ou => k_is); (case w266nes => first | rfl | k_is); (case w267ou => k_is); (case w268nes => first | rfl | k_is); (case w269ou => k_is); (case w270nes => first | rfl | k_is); (case w271ou => k_is); (case w272nes => first | rfl | k_is); (case w273ou => k_is); (case w274nes => first | rfl | k_is); (case w275ou => k_is); (case w276nes => first | rfl | k_is); (case w277ou => k_is); (case w278nes => first | rfl | k_is); (case w279ou => k_is); (case w280nes => first | rfl | k_is); (case w281ou => k_is); (case w282nes => first | rfl | k_is); (case w283ou => k_is); (case w284nes => first | rfl | k_is); (case w285ou => k_is); (case w286ov => k_is); (case w287eg => k_is); (case w288ek => k_is); (case w289eb => k_is); (case w290ed => k_is); (case w291ea => k_is); (case w292em => k_is); (case w293nes => first | rfl | k_is); (case w294ou => k_is); (case w295nes => first | rfl | k_is); (case w296ou => k_is); (case w297nes => first | rfl | k_is); (case w298ou => k_is); (case w299nes => first | rfl | k_is); (case w300ou => k_is); (case w301nes => first | rfl | k_is); (case w302ou => k_is); (case w303nes => first | rfl | k_is); (case w304ou => k_is); (case w305nes => first | rfl | k_is); (case w306ou => k_is); (case w307nes => first | rfl | k_is); (case w308ou => k_is); (case w309nes => first | rfl | k_is); (case w310ou => k_is); (case w311nes => first | rfl | k_is); (case w312ou => k_is); (case w313nes => first | rfl | k_is); (case w314ou => k_is); (case w315nes => first | rfl | k_is); (case w316ou => k_is); (case w317ov => k_is); (case w318eg => k_is); (case w319ek => k_is); (case w320eb => k_is); (case w321ed => k_is); (case w322ea => k_is); (case w323em => k_is); (case w324nes => first | rfl | k_is); (case w325ou => k_is); (case w326nes => first | rfl | k_is); (case w327ou => k_is); (case w328nes => first | rfl | k_is); (case w329ou => k_is); (case w330nes => first | rfl | k_is); (case w331ou => k_is); (case w332nes => first | rfl | k_is); (case w333ou => k_is); (case w334nes => first | rfl | k_is); (case w335ou => k_is); (case w336nes => first | rfl | k_is); (case w337ou => k_is); (case w338nes => first | rfl | k_is); (case w339ou => k_is); (case w340nes => first | rfl | k_is); (case w341ou => k_is); (case w342nes => first | rfl | k_is); (case w343ou => k_is); (case w344nes => first | rfl | k_is); (case w345ou => k_is); (case w346nes => first | rfl | k_is); (case w347ou => k_is); (case w348ov => k_is); (case w349eg => k_is); (case w350ek => k_is); (case w351eb => k_is); (case w352ed => k_is); (case w353ea => k_is); (case w354em => k_is); (case w355nes => first | rfl | k_is); (case w356ou => k_is); (case w357nes => first | rfl | k_is); (case w358ou => k_is); (case w359nes => first | rfl | k_is); (case w360ou => k_is); (case w361nes => first | rfl | k_is); (case w362ou => k_is); (case w363nes => first | rfl | k_is); (case w364ou => k_is); (case w365nes => first | rfl | k_is); (case w366ou => k_is); (case w367nes => first | rfl | k_is); (case w368ou => k_is); (case w369nes => first | rfl | k_is); (case w370ou => k_is); (case w371nes => first | rfl | k_is); (case w372ou => k_is); (case w373nes => first | rfl | k_is); (case w374ou => k_is); (case w375nes => first | rfl | k_is); (case w376ou => k_is); (case w377nes => first | rfl | k_is); (case w378ou => k_is); (case w379ov => k_is); (case w380eg => k_is); (case w381ek => k_is); (case w382eb => k_is); (case w383ed => k_is); (case w384ea => k_is); (case w385em => k_is); (case w386nes => first | rfl | k_is); (case w387ou => k_is); (case w388nes => first | rfl | k_is); (case w389ou => k_is); (case w390nes => first | rfl | k_is); (case w391ou => k_is); (case w392nes => first | rfl | k_is); (case w393ou => k_is); (case w394nes => first | rfl | k_is); (case w395ou => k_is); (case w396nes => first | rfl | k_is); (case w397ou => k_is); (case w398nes => first | rfl | k_is); (case w399ou => k_is); (case w400nes => first | rfl | k_is); (case w401ou => k_is); (case w402nes => first | rfl | k_is); (case w403ou => k_is); (case w404nes => first | rfl | k_is); (case w405ou => k_is); (case w406nes => first | rfl | k_is); (case w407ou => k_is); (case w408nes => first | rfl | k_is); (case w409ou => k_is); (case w410ov => k_is); (case w411eg => k_is); (case w412ek => k_is); (case w413eb => k_is); (case w414ed => k_is); (case w415ea => k_is); (case w416em => k_is); (case w417nes => first | rfl | k_is); (case w418ou => k_is); (case w419nes => first | rfl | k_is); (case w420ou => k_is); (case w421nes => first | rfl | k_is); (case w422ou => k_is); (case w423nes => first | rfl | k_is); (case w424ou => k_is); (case w425nes => first | rfl | k_is); (case w426ou => k_is); (case w427nes => first | rfl | k_is); (case w428ou => k_is); (case w429nes => first | rfl | k_is); (case w430ou => k_is); (case w431nes => first | rfl | k_is); (case w432ou => k_is); (case w433nes => first | rfl | k_is); (case w434ou => k_is); (case w435nes => first | rfl | k_is); (case w436ou => k_is); (case w437nes => first | rfl | k_is); (case w438ou => k_is); (case w439nes => first | rfl | k_is); (case w440ou => k_is); (case w441ov => k_is); (case w442eg => k_is); (case w443ek => k_is); (case w444eb => k_is); (case w445ed => k_is); (case w446ea => k_is); (case w447em => k_is); (case w448nes => first | rfl | k_is); (case w449ou => k_is); (case w450nes => first | rfl | k_is); (case w451ou => k_is); (case w452nes => first | rfl | k_is); (case w453ou => k_is); (case w454nes => first | rfl | k_is); (case w455ou => k_is); (case w456nes => first | rfl | k_is); (case w457ou => k_is); (case w458nes => first | rfl | k_is); (case w459ou => k_is); (case w460nes => first | rfl | k_is); (case w461ou => k_is); (case w462nes => first | rfl | k_is); (case w463ou => k_is); (case w464nes => first | rfl | k_is); (case w465ou => k_is); (case w466nes => first | rfl | k_is); (case w467ou => k_is); (case w468nes => first | rfl | k_is); (case w469ou => k_is); (case w470nes => first | rfl | k_is); (case w471ou => k_is); (case w472ov => k_is); (case w473eg => k_is); (case w474ek => k_is); (case w475eb => k_is); (case w476ed => k_is); (case w477ea => k_is); (case w478em => k_is); (case w479nes => first | rfl | k_is); (case w480ou => k_is); (case w481nes => first | rfl | k_is); (case w482ou => k_is); (case w483nes => first | rfl | k_is); (case w484ou => k_is); (case w485nes => first | rfl | k_is); (case w486ou => k_is); (case w487nes => first | rfl | k_is); (case w488ou => k_is); (case w489nes => first | rfl | k_is); (case w490ou => k_is); (case w491nes => first | rfl | k_is); (case w492ou => k_is); (case w493nes => first | rfl | k_is); (case w494ou => k_is); (case w495nes => first | rfl | k_is); (case w496ou => k_is); (case w497nes => first | rfl | k_is); (case w498ou => k_is); (case w499nes => first | rfl | k_is); (case w500ou => k_is); (case w501nes => first | rfl | k_is); (case w502ou => k_is); (case w503ov => k_is); (case w504eg => k_is); (case w505ek => k_is); (case w506eb => k_is); (case w507ed => k_is); (case w508ea => k_is); (case w509em => k_is); (case w510nes => first | rfl | k_is); (case w511ou => k_is); (case w512nes => first | rfl | k_is); (case w513ou => k_is); (case w514nes => first | rfl | k_is); (case w515ou => k_is); (case w516nes => first | rfl | k_is); (case w517ou => k_is); (case w518nes => first | rfl | k_is); (case w519ou => k_is); (case w520nes => first | rfl | k_is); (case w521ou => k_is); (case w522nes => first | rfl | k_is); (case w523ou => k_is); (case w524nes => first | rfl | k_is); (case w525ou => k_is); (case w526nes => first | rfl | k_is); (case w527ou => k_is); (case w528nes => first | rfl | k_is); (case w529ou => k_is); (case w530nes => first | rfl | k_is); (case w531ou => k_is); (case w532nes => first | rfl | k_is); (case w533ou => k_is); (case w534ov => k_is)
#print axioms PySem.Challenge.cw_warycard_k00_errors_and_limits_holds
