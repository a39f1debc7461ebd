import PyProof.Rows.All
import Wide.All
import OpenK.AllK
import Wide.FinOn
import HandS.ForMost
import HandS.Wide
import HandS.IsInst
import HandS.Walk
import HandS.Codes
import HandS.ForExc
import HandS.Style
import HandS.ExcInit
import HandS.ExcField
import HandS.RevRange
import HandS.Conv
import HandS.Deep
import PySem.Challenge.RW_warycard_k71_whole_torn_transactions
set_option Elab.async false
set_option maxRecDepth 100000
set_option maxHeartbeats 4000000
namespace My
open PySem PySem.Spec PyProof.Rows L2
/-! ### readings -/
theorem OpR.imp' {X : Cx} {f : Value → Value → Sem Value} {r r' : R2} (h : OpR X f r) (i : ∀ x y H Q, r' x y H Q → r x y H Q) : OpR X f r' := fun pins s σ H x y u v Q I rx ry q => h pins s σ H x y u v Q I rx ry (i _ _ _ _ q)
theorem op_modP {X : Cx} : OpR X (binaryOp .Mod) (rI (fun _ j => 0 < j) fun i j => .int (i % j)) := OpR.imp' op_modN fun x y H Q ⟨i, j, e1, e2, hj, q⟩ => ⟨i, j, e1, e2, by have hj : 0 < j := hj; show j ≠ 0; omega, by
  have hj : 0 < j := hj
  have e : i.fmod j = i % j := Int.fmod_eq_emod_of_nonneg i (by omega)
  show Q (V.int (i.fmod j)) H
  rw [e]; exact q⟩
theorem rdSeq {t u : TS} {D : Ends} {σ : L2.St} {H : Hp} (h : t { D with nx := u D } σ H) : tSeq t u D σ H := h
/-- all that was tracked is kept but the list at a, which holds three ints -/
def Bag (H : Hp) (a : Addr) : Prop := ∃ x y z : Int, H a = some (.lst [.int x, .int y, .int z])
structure Mv (a : Addr) (H H' : Hp) : Prop where
  bag : Bag H' a
  old : ∀ b o, b ≠ a → H b = some o → H' b = some o
theorem Mv.refl {a : Addr} {H : Hp} (h : Bag H a) : Mv a H H := ⟨h, fun _ _ _ e => e⟩
theorem Mv.trans {a : Addr} {H H1 H2 : Hp} (h : Mv a H H1) (k : Mv a H1 H2) : Mv a H H2 := ⟨k.bag, fun b o n e => k.old b o n (h.old b o n e)⟩
theorem Mv.new {a p : Addr} {o : HO} {H H1 : Hp} (h : Mv a H H1) (n : H1 p = none) : Mv a H (upd H1 p o) := by
  obtain ⟨x, y, z, e⟩ := h.bag
  have ne : a ≠ p := fun q => by subst q; rw [n] at e; cases e
  exact ⟨⟨x, y, z, by rw [upd_ne ne]; exact e⟩, fun b u hb hu => by
    have := h.old b u hb hu
    rw [upd_ne (ne_of_none this n)]; exact this⟩
theorem Mv.ne {a p : Addr} {H H1 : Hp} (h : Mv a H H1) (n : H1 p = none) : p ≠ a := fun q => by
  obtain ⟨x, y, z, e⟩ := h.bag
  subst q; rw [n] at e; cases e
theorem Mv.free {a p : Addr} {H H1 : Hp} (h : Mv a H H1) (n : H1 p = none) : H p = none := by
  cases e : H p with
  | none => rfl
  | some o => rw [h.old p o (h.ne n) e] at n; cases n
theorem bag_ne {a p : Addr} {H : Hp} (h : Bag H a) (n : H p = none) : p ≠ a := fun q => by
  obtain ⟨x, y, z, e⟩ := h
  subst q; rw [n] at e; cases e
theorem sqL_of {K : PySem.W.Frag} {H : Hp} {a : Addr} {xs : List V} (h : H a = some (.lst xs)) : SqL K H a xs := .inl (.inl h)
theorem sqT_of {K : PySem.W.Frag} {H : Hp} {a : Addr} {xs : List V} (h : H a = some (.tup xs)) : SqT K H a xs := .inl (.inl h)
def rIntA : List V → Hp → VK → Prop := fun xs H Q => ∃ x, xs = [x] ∧ match x with
  | .int i => Q (.int i) H
  | .bl k => Q (.int (if k = true then 1 else 0)) H
  | _ => False
theorem call_intI {X : Cx} : CallR X (.type "int") rIntA := fun pins s σ H xs us Q I r ⟨x, e, q⟩ => by
  cases x with
  | int i => exact call_int1 pins s σ H xs us Q I r (.inl ⟨i, e, q⟩)
  | bl k => exact call_int1 pins s σ H xs us Q I r (.inr ⟨k, e, q⟩)
  | _ => exact False.elim q
/-- len of a list, of a tuple -/
def rLenL (K : PySem.W.Frag) : List V → Hp → VK → Prop := fun xs H Q => ∃ p ys, xs = [.ref p] ∧ SqL K H p ys ∧ Q (.int ys.length) H
def rLenT (K : PySem.W.Frag) : List V → Hp → VK → Prop := fun xs H Q => ∃ p ys, xs = [.ref p] ∧ SqT K H p ys ∧ Q (.int ys.length) H
theorem call_lenL {X : Cx} : CallR X (.builtin "len") (rLenL X.K) := fun pins s σ H xs us Q I r ⟨p, ys, e, h, q⟩ => call_len_seq pins s σ H xs us Q I r ⟨p, ys, e, .inl h, q⟩
theorem call_lenT {X : Cx} : CallR X (.builtin "len") (rLenT X.K) := fun pins s σ H xs us Q I r ⟨p, ys, e, h, q⟩ => call_len_seq pins s σ H xs us Q I r ⟨p, ys, e, .inr h, q⟩
theorem i_lenL {K : PySem.W.Frag} {H : Hp} {Q : VK} {p : Addr} {ys : List V} (h : SqL K H p ys) (q : Q (.int ys.length) H) : rLenL K [.ref p] H Q := ⟨p, ys, rfl, h, q⟩
theorem i_lenT {K : PySem.W.Frag} {H : Hp} {Q : VK} {p : Addr} {ys : List V} (h : SqT K H p ys) (q : Q (.int ys.length) H) : rLenT K [.ref p] H Q := ⟨p, ys, rfl, h, q⟩
theorem i_ixL {K : PySem.W.Frag} {H : Hp} {Q : VK} {p : Addr} {xs : List V} {i : Int} {v : V} (h : SqL K H p xs) (e : atI xs i = some v) (q : Q v H) : rIxL K (.ref p) (.int i) H Q := ⟨p, xs, i, v, rfl, rfl, h, e, q⟩
theorem i_ixT {K : PySem.W.Frag} {H : Hp} {Q : VK} {p : Addr} {xs : List V} {i : Int} {v : V} (h : SqT K H p xs) (e : atI xs i = some v) (q : Q v H) : rIxT K (.ref p) (.int i) H Q := ⟨p, xs, i, v, rfl, rfl, h, e, q⟩
theorem i_setL {H : Hp} {p : Addr} {xs : List V} {i : Int} {j : Nat} {v : V} {Q : Hp → Prop} (h : H p = some (.lst xs)) (e : ixN xs.length i = some j) (q : Q (upd H p (.lst (xs.set j v)))) : rSetL (.ref p) (.int i) v H Q := ⟨p, xs, i, j, rfl, rfl, h, e, q⟩
theorem i_lst {H : Hp} {xs : List V} {Q : VK} (hl : xs.length ≤ sizeLine) (q : ∀ p, H p = none → Q (.ref p) (upd H p (.lst xs))) : xs.length ≤ sizeLine ∧ ∀ p, H p = none → Q (.ref p) (upd H p (.lst xs)) := ⟨hl, q⟩
/-- an item at a drawn place of a written list -/
theorem at_of {α : Type} {xs : List α} {i : Int} (h0 : 0 ≤ i) (h1 : i < xs.length) : ∃ v, atI xs i = some v ∧ v ∈ xs := by
  obtain ⟨j, rfl⟩ := Int.eq_ofNat_of_zero_le h0
  have hi : j < xs.length := by omega
  exact ⟨xs[j], atI_nat (List.getElem?_eq_getElem hi), List.getElem_mem hi⟩
theorem pow18 : CPow 10 18 := ⟨by decide, by decide, by decide⟩
theorem cm_r {i j : Int} (h : decide (-(2 ^ 64) < j) && decide (j < 2 ^ 64) = true) : CMul i j := by
  simp only [Bool.and_eq_true, decide_eq_true_eq] at h
  exact .inr h
theorem cm_l {i j : Int} (h : decide (-(2 ^ 64) < i) && decide (i < 2 ^ 64) = true) : CMul i j := by
  simp only [Bool.and_eq_true, decide_eq_true_eq] at h
  exact .inl h
theorem i_isi {K : PySem.W.Frag} {H : Hp} {Q : VK} {x : V} {t c : String} {b : Bool} (ty : TyX K H x (.type t)) (hk : kitB t c = some b) (q : Q (.bl b) H) : rIsi K [x, .ty c] H Q := ⟨x, .ty c, .type t, .type c, b, rfl, .ty c, ty, kit_ty hk, q⟩
theorem ty_int {K : PySem.W.Frag} {H : Hp} {i : Int} : TyX K H (.int i) (.type "int") := .base (.int _)
theorem ty_bl {K : PySem.W.Frag} {H : Hp} {i : Bool} : TyX K H (.bl i) (.type "bool") := .base (.bl _)
theorem ty_str {K : PySem.W.Frag} {H : Hp} {i : Str} : TyX K H (.str i) (.type "str") := .base (.str _)
theorem ty_non {K : PySem.W.Frag} {H : Hp} : TyX K H .non (.type "NoneType") := .base .non
theorem kb_ii : kitB "int" "int" = some true := by decide +kernel
theorem kb_bi : kitB "bool" "int" = some true := by decide +kernel
theorem kb_ib : kitB "int" "bool" = some false := by decide +kernel
theorem kb_bb : kitB "bool" "bool" = some true := by decide +kernel
theorem pow17 : CPow 10 17 := ⟨by decide, by decide, by decide⟩
/-- for over range(n) -/
def rForR (lo : Int) (n : Nat) (g : TG) (tb : TS) : TS := fun D σ H => ∃ W : Nat → Nat → L2.St → Hp → Prop, (∃ m, W 0 m σ H) ∧ ∀ i m σ H, W i m σ H →
  ((Itr lo n).stop i H ∧ D.nx σ H) ∨ ((Itr lo n).go i H ∧ ∃ Nx : L2.St → Hp → Prop, (∀ σ' H', Nx σ' H' → ∃ m', m' < m ∧ W (i + 1) m' σ' H') ∧ ∀ x H', (Itr lo n).yld i H x H' → g x σ H' fun σ2 H2 => tb { D with nx := Nx, ct := Nx, bk := D.nx } σ2 H2)
theorem i_forR1 {ta : TA} {g : TG} {tb : TS} {D : Ends} {σ : L2.St} {H : Hp} (h : ta σ H fun vs H1 => ∃ j : Int, vs = [.int j] ∧ -(2 ^ 62) ≤ j ∧ j < 2 ^ 62 ∧ rForR 0 j.toNat g tb D σ H1) : tFor (iRng1 ta) g tb D σ H := h
theorem i_forR2 {ta : TA} {g : TG} {tb : TS} {D : Ends} {σ : L2.St} {H : Hp} (h : ta σ H fun vs H1 => ∃ i j : Int, vs = [.int i, .int j] ∧ (-(2 ^ 62) ≤ i ∧ i < 2 ^ 62 ∧ -(2 ^ 62) ≤ j ∧ j < 2 ^ 62) ∧ rForR i (j - i).toNat g tb D σ H1) : tFor (iRng2 ta) g tb D σ H := h
theorem i_loopR {lo : Int} {n : Nat} {j : Nat} {tb : TS} {D : Ends} {σ : L2.St} {H : Hp} (Pv : Nat → L2.St → Hp → Prop) (h0 : Pv 0 σ H)
    (hs : ∀ (i : Nat) σ H, i < n → Pv i σ H → tb { D with nx := Pv (i + 1), ct := Pv (i + 1), bk := D.nx } (σ.set j (some (.int (lo + i)))) H) (hd : ∀ σ H, Pv n σ H → D.nx σ H) : rForR lo n (gName j) tb D σ H := for_range Pv h0 hs hd
theorem i_else {c A B : Prop} [Decidable c] (h : ¬ c) (b : B) : if c then A else B := by rw [if_neg h]; exact b
theorem i_then {c A B : Prop} [Decidable c] (h : c) (a : A) : if c then A else B := by rw [if_pos h]; exact a
/-- two ways that meet -/
theorem i_both {c A B T : Prop} [Decidable c] (t : T) (h1 : c → T → A) (h2 : ¬ c → T → B) : if c then A else B := ite2 (fun h => h1 h t) (fun h => h2 h t)
theorem ty_tup {K : PySem.W.Frag} {H : Hp} {p : Addr} {xs : List V} (h : H p = some (.tup xs)) : TyX K H (.ref p) (.type "tuple") := .base (.tup h)
theorem ty_lst {K : PySem.W.Frag} {H : Hp} {p : Addr} {xs : List V} (h : H p = some (.lst xs)) : TyX K H (.ref p) (.type "list") := .base (.lst h)
theorem kb_ni : kitB "NoneType" "int" = some false := by decide +kernel
theorem kb_si : kitB "str" "int" = some false := by decide +kernel
theorem kb_li : kitB "list" "int" = some false := by decide +kernel
theorem kb_ti : kitB "tuple" "int" = some false := by decide +kernel
theorem kb_di : kitB "dict" "int" = some false := by decide +kernel
/-! ### loops by what is walked -/
def rForJ (J : It) (g : TG) (tb : TS) : TS := fun D σ H => ∃ W : Nat → Nat → L2.St → Hp → Prop, (∃ m, W 0 m σ H) ∧ ∀ i m σ H, W i m σ H →
  (J.stop i H ∧ D.nx σ H) ∨ (J.go i H ∧ ∃ Nx : L2.St → Hp → Prop, (∀ σ' H', Nx σ' H' → ∃ m', m' < m ∧ W (i + 1) m' σ' H') ∧ ∀ x H', J.yld i H x H' → g x σ H' fun σ2 H2 => tb { D with nx := Nx, ct := Nx, bk := D.nx } σ2 H2)
theorem tFor_J {wi : TI} {g : TG} {tb : TS} {D : Ends} {σ : L2.St} {H : Hp} : tFor wi g tb D σ H = wi σ H fun J H1 => rForJ J g tb D σ H1 := rfl
def rLcJ (J : It) (g : TG) (tt : TT) (te : TE) (vs : List Nat) : TE := fun σ H1 Q => ∀ D, H1 D = none → ∃ W : Nat → Nat → Hp → Prop, (∃ m, W 0 m (upd H1 D (.lst []))) ∧ ∀ i m H, W i m H →
  (J.stop i H ∧ Q (.ref D) H) ∨ (J.go i H ∧ ∃ Nx : Hp → Prop, (∀ H', Nx H' → ∃ m', m' < m ∧ W (i + 1) m' H') ∧ ∀ x H', J.yld i H x H' → g x (wipe σ vs) H' fun σ2 H2 => wipe σ2 vs = wipe σ vs ∧ tt σ2 H2 fun b H3 =>
    if b = true then te σ2 H3 fun y H4 => ∃ acc, H4 D = some (.lst acc) ∧ acc.length < sizeLine ∧ Nx (upd H4 D (.lst (acc ++ [y]))) else Nx H3)
theorem tLc_J {wi : TI} {g : TG} {tt : TT} {te : TE} {vs : List Nat} {σ : L2.St} {H : Hp} {Q : VK} : tLc wi g tt te vs σ H Q = wi σ H fun J H1 => rLcJ J g tt te vs σ H1 Q := rfl
theorem i_for {J : It} {n : Nat} {G : Hp → Prop} {Y : Nat → Hp → V → Hp → Prop} (w : Walk J n G Y) {j : Nat} {tb : TS} {D : Ends} {σ : L2.St} {H : Hp} (Pv : Nat → L2.St → Hp → Prop) (h0 : Pv 0 σ H) (hG : ∀ i σ H, i ≤ n → Pv i σ H → G H)
    (hs : ∀ i x σ H H', i < n → Pv i σ H → Y i H x H' → tb { D with nx := Pv (i + 1), ct := Pv (i + 1), bk := D.nx } (σ.set j (some x)) H') (hd : ∀ σ H, Pv n σ H → D.nx σ H) : rForJ J (gName j) tb D σ H := for_it w Pv h0 hG hs hd
theorem wipe_one {σ : L2.St} {j : Nat} {x : V} : wipe ((wipe σ [j]).set j (some x)) [j] = wipe σ [j] := by
  show ((σ.set j none).set j (some x)).set j none = σ.set j none
  rw [List.set_set, List.set_set]
def YL {α : Type} (l : List α) (r : α → V) : Nat → Hp → V → Hp → Prop := fun i H v H' => H' = H ∧ ∃ c, l[i]? = some c ∧ v = r c
/-- [e for x in ..], e without an effect -/
theorem i_lcL {α : Type} {J : It} {l : List α} {r : α → V} {G : Hp → Prop} (w : Walk J l.length G (YL l r)) {j : Nat} {te : TE} {σ : L2.St} {H : Hp} {Q : VK} (g : α → V) (hn : l.length < sizeLine) (hG : ∀ D ys, H D = none → G (upd H D (.lst ys)))
    (hs : ∀ c ∈ l, ∀ H1 (Q' : VK), Same H H1 → Q' (g c) H1 → te ((wipe σ [j]).set j (some (r c))) H1 Q') (q : ∀ D, H D = none → Q (.ref D) (upd H D (.lst (l.map g)))) : rLcJ J (gName j) tYes te [j] σ H Q := by
  intro D hD
  refine lc_it w (fun i H' => H' = upd H D (.lst ((l.take i).map g))) rfl (fun i H' _ e => by subst e; exact hG D _ hD) (fun i x H1 H2 hi e y => ?_) (fun H' e => by subst e; rw [List.take_length]; exact q D hD)
  obtain ⟨e2, c, hc, rfl⟩ := y
  subst e2
  refine ⟨wipe_one, hs c (List.mem_of_getElem? hc) H2 (fun y H4 => ∃ acc, H4 D = some (.lst acc) ∧ acc.length < sizeLine ∧ upd H4 D (.lst (acc ++ [y])) = upd H D (.lst ((l.take (i + 1)).map g))) (by subst e; intro b o h; rw [upd_ne (ne_of_none h hD)]; exact h) ?_⟩
  subst e
  refine ⟨_, upd_same, by rw [List.length_map, List.length_take]; omega, ?_⟩
  rw [upd_upd, List.take_add_one, hc, List.map_append]; rfl
/-- for x in ..: if not p: return False -/
theorem i_forall {α : Type} {J : It} {l : List α} {r : α → V} {G : Hp → Prop} (w : Walk J l.length G (YL l r)) {j : Nat} {tb : TS} {D : Ends} {σ : L2.St} {H : Hp} (p : α → Bool) (v : V) (hG : G H)
    (hs : ∀ c ∈ l, ∀ D' : Ends, (p c = true → D'.nx (σ.set j (some (r c))) H) → (p c = false → D'.rt v H) → tb D' (σ.set j (some (r c))) H) (h1 : l.all p = true → D.nx σ H ∧ ∀ u, D.nx (σ.set j u) H) (h2 : l.all p = false → D.rt v H) : rForJ J (gName j) tb D σ H := by
  refine i_for w (fun i σ' H' => H' = H ∧ (σ' = σ ∨ ∃ u, σ' = σ.set j u) ∧ ∀ c ∈ l.take i, p c = true) ⟨rfl, .inl rfl, by simp⟩ (fun i σ' H' _ h => by rw [h.1]; exact hG) ?_ ?_
  · rintro i x σ' H' H2 hi ⟨rfl, hσ, hp⟩ ⟨rfl, c, hc, rfl⟩
    have hm := List.mem_of_getElem? hc
    have es : σ'.set j (some (r c)) = σ.set j (some (r c)) := by
      rcases hσ with rfl | ⟨u, rfl⟩
      · rfl
      · rw [List.set_set]
    rw [es]
    refine hs c hm _ (fun hpc => ⟨rfl, .inr ⟨_, rfl⟩, fun d hd => ?_⟩) (fun hpc => h2 ?_)
    · rw [List.take_add_one, hc] at hd
      rcases List.mem_append.mp hd with h | h
      · exact hp d h
      · rw [List.mem_singleton.mp h]; exact hpc
    · rw [List.all_eq_false]
      exact ⟨c, hm, by rw [hpc]; simp⟩
  · rintro σ' H' ⟨rfl, hσ, hp⟩
    rw [List.take_length] at hp
    have h := h1 (List.all_eq_true.mpr hp)
    rcases hσ with rfl | ⟨u, rfl⟩
    · exact h.1
    · exact h.2 u
/-- [e for x in ..], e draws from the bag at a -/
theorem i_lcD {J : It} {n : Nat} {G : Hp → Prop} {Y : Nat → Hp → V → Hp → Prop} (w : Walk J n G Y) {a : Addr} {j : Nat} {te : TE} {σ : L2.St} {H : Hp} {Q : VK} (hB : Bag H a) (P : V → Prop) (hn : n < sizeLine) (hG : ∀ H', Mv a H H' → G H') (hY : ∀ i H x H', Y i H x H' → H' = H)
    (hs : ∀ i x H1 (Q' : VK), i < n → Y i H1 x H1 → Mv a H H1 → (∀ y H2, P y → Mv a H1 H2 → Q' y H2) → te ((wipe σ [j]).set j (some x)) H1 Q') (q : ∀ D H' ys, H D = none → Mv a H H' → H' D = some (.lst ys) → ys.length = n → (∀ y ∈ ys, P y) → Q (.ref D) H') : rLcJ J (gName j) tYes te [j] σ H Q := by
  intro D hD
  have nD := bag_ne hB hD
  refine lc_it w (fun i H' => Mv a H H' ∧ ∃ ys, H' D = some (.lst ys) ∧ ys.length = i ∧ ∀ y ∈ ys, P y) ⟨(Mv.refl hB).new hD, [], upd_same, rfl, fun _ h => nomatch h⟩ (fun i H' _ e => hG H' e.1) (fun i x H1 H2 hi e y => ?_) (fun H' e => ?_)
  · have e2 := hY i H1 x H2 y
    subst e2
    obtain ⟨mv, ys, e1, e2, e3⟩ := e
    refine ⟨wipe_one, hs i x H2 (fun y H4 => ∃ acc, H4 D = some (.lst acc) ∧ acc.length < sizeLine ∧ (Mv a H (upd H4 D (.lst (acc ++ [y]))) ∧ ∃ ys, upd H4 D (.lst (acc ++ [y])) D = some (.lst ys) ∧ ys.length = i + 1 ∧ ∀ y ∈ ys, P y)) hi y mv fun v H3 hv mv3 => ?_⟩
    refine ⟨ys, mv3.old D _ nD e1, by omega, ?_⟩
    have m3 := mv.trans mv3
    refine ⟨⟨?_, fun b o hb e => ?_⟩, ys ++ [v], upd_same, by simp [e2], fun y hy => ?_⟩
    · obtain ⟨x1, x2, x3, hx⟩ := m3.bag
      exact ⟨x1, x2, x3, by rw [upd_ne nD.symm]; exact hx⟩
    · rw [upd_ne (ne_of_none e hD)]; exact m3.old b o hb e
    · rcases List.mem_append.mp hy with h | h
      · exact e3 y h
      · rw [List.mem_singleton.mp h]; exact hv
  · obtain ⟨mv, ys, e1, e2, e3⟩ := e
    exact q D H' ys hD mv e1 e2 e3
theorem rdCut {t u : TS} {D : Ends} {σ : L2.St} {H : Hp} (Mid : L2.St → Hp → Prop) (h : t { D with nx := Mid } σ H) (k : ∀ σ' H', Mid σ' H' → u D σ' H') : C8.tCut t u D σ H := ⟨Mid, h, k⟩
theorem pow9 : CPow 10 9 := ⟨by decide, by decide, by decide⟩
theorem pow8 : CPow 10 8 := ⟨by decide, by decide, by decide⟩
theorem pow12 : CPow 10 12 := ⟨by decide, by decide, by decide⟩
theorem walk_rangeL {lo : Int} {n : Nat} : Walk (Itr lo n) (List.range n).length (fun _ => True) (YL (List.range n) fun i => .int (lo + i)) := by
  rw [List.length_range]
  exact walk_range.mono (fun _ h => h) fun i H x H' hi _ y => ⟨y.1, i, by rw [List.getElem?_range hi], y.2⟩
theorem i_app {H : Hp} {l : Addr} {xs : List V} {v : V} {Q : VK} (h : H l = some (.lst xs)) (hz : xs.length < sizeLine) (q : Q .non (upd H l (.lst (xs ++ [v])))) : rAppend (.ref l) [v] H Q := ⟨l, xs, v, rfl, rfl, h, hz, q⟩
theorem ty_app {K : PySem.W.Frag} {H : Hp} {l : Addr} {xs : List V} (h : SqL K H l xs) : tyV K "list" (.ref l) H := .inl ⟨rfl, xs, h⟩
theorem i_slL {K : PySem.W.Frag} {H : Hp} {a : Addr} {xs : List V} {lo hi : Option Int} {Q : VK} (h : SqL K H a xs) (q : ∀ p, H p = none → Q (.ref p) (upd H p (.lst (cutV xs lo hi)))) : rSlL K (.ref a) lo hi H Q := ⟨a, xs, rfl, h, q⟩
theorem i_cat {H : Hp} {l b : Addr} {xs zs : List V} {Q : VK} (h1 : H l = some (.lst xs)) (h2 : H b = some (.lst zs)) (hz : xs.length + zs.length ≤ sizeLine) (q : ∀ p, H p = none → Q (.ref p) (upd H p (.lst (xs ++ zs)))) : rCat (.ref l) (.ref b) H Q := ⟨l, b, xs, zs, rfl, rfl, h1, h2, hz, q⟩
theorem i_inL {K : PySem.W.Frag} {neg : Bool} {x : V} {H : Hp} {p : Addr} {xs : List V} {Q : VK} (h : SqL K H p xs ∨ SqT K H p xs) (h1 : flatV x = true) (h2 : xs.all flatV = true) (q : Q (.bl (if neg then !inV x xs else inV x xs)) H) : rIn K neg x (.ref p) H Q := ⟨p, xs, rfl, h, h1, h2, q⟩
theorem cut_take {xs : List V} {n : Nat} : cutV xs none (some (n : Int)) = xs.take n := by
  unfold cutV
  rw [HT.sIx_none, HT.sIx_nat]
  simp only [List.drop_zero, Nat.sub_zero]
  rw [Nat.min_comm, ← List.take_take, List.take_of_length_le (by rw [List.length_take]; omega)]
theorem cut_drop {xs : List V} {n : Nat} : cutV xs (some (n : Int)) none = xs.drop n := by
  unfold cutV
  rw [HT.sIx_none, HT.sIx_nat]
  by_cases h : n ≤ xs.length
  · rw [Nat.min_eq_left h, List.take_of_length_le (by rw [List.length_drop]; omega)]
  · rw [Nat.min_eq_right (by omega), List.drop_of_length_le (by omega), List.drop_of_length_le (by omega)]; simp
theorem line5 {n : Nat} (h : n ≤ 100000) : n ≤ sizeLine := Nat.le_trans h (by decide)
theorem line5' {n : Nat} (h : n ≤ 100000) : n < sizeLine := Nat.lt_of_le_of_lt h (by decide)
/-! ### the same rules with the written part named (for a comprehension's block) -/
theorem ix_listK (K : PySem.W.Frag) {X : Cx} (h : X.K = K := by rfl) : IxR X (rIxL K) := h ▸ ix_list
theorem ix_tupK (K : PySem.W.Frag) {X : Cx} (h : X.K = K := by rfl) : IxR X (rIxT K) := h ▸ ix_tup
theorem sl_listK (K : PySem.W.Frag) {X : Cx} (h : X.K = K := by rfl) : SlR X (rSlL K) := h ▸ sl_list
theorem sl_tupK (K : PySem.W.Frag) {X : Cx} (h : X.K = K := by rfl) : SlR X (rSlT K) := h ▸ sl_tup
theorem lenLK (K : PySem.W.Frag) {X : Cx} (h : X.K = K := by rfl) : CallR X (.builtin "len") (rLenL K) := h ▸ call_lenL
theorem lenTK (K : PySem.W.Frag) {X : Cx} (h : X.K = K := by rfl) : CallR X (.builtin "len") (rLenT K) := h ▸ call_lenT
theorem isiK (K : PySem.W.Frag) {X : Cx} (h : X.K = K := by rfl) : CallR X (.builtin "isinstance") (rIsi K) := h ▸ call_isi
theorem isiTK (K : PySem.W.Frag) {X : Cx} (h : X.K = K := by rfl) : CallR X (.builtin "isinstance") (rIsiT K) := h ▸ call_isiT
theorem in_seqK (K : PySem.W.Frag) {X : Cx} (h : X.K = K := by rfl) : OpR X (compareOp .In) (rIn K false) := h ▸ op_in_seq
theorem notIn_seqK (K : PySem.W.Frag) {X : Cx} (h : X.K = K := by rfl) : OpR X (compareOp .NotIn) (rIn K true) := h ▸ op_notIn_seq
theorem i_indexS {K : PySem.W.Frag} {H : Hp} {Q : VK} {p : Addr} {l : List Str} {s : Str} {j : Nat} (h : SqL K H p (l.map V.str)) (hj : l[j]? = some s) (hn : s ∉ l.take j) (q : Q (.int (j : Nat)) H) : rIndex K (.ref p) [.str s] H Q := by
  refine ⟨p, _, .str s, j, .str s, rfl, rfl, h, rfl, ?_, by rw [List.getElem?_map, hj]; rfl, by simp [eqV], ?_, q⟩
  · rw [List.all_map, List.all_eq_true]; intro x _; rfl
  · intro m z hm hz
    rw [List.getElem?_map] at hz
    cases e : l[m]? with
    | none => rw [e] at hz; cases hz
    | some t =>
      rw [e] at hz
      have hz : V.str t = z := Option.some.inj hz
      subst hz
      show (t == s) = false
      rw [beq_eq_false_iff_ne]
      intro et; subst et
      exact hn (List.mem_of_getElem? (by rw [List.getElem?_take_of_lt hm]; exact e))
theorem walk_listL {K : PySem.W.Frag} {a : Addr} {α : Type} {l : List α} {r : α → V} : Walk (Itl K a) l.length (fun H => SqL K H a (l.map r)) (YL l r) := by
  have w := walk_list (K := K) (a := a) (xs := l.map r)
  rw [List.length_map] at w
  exact w.mono (fun _ h => h) fun i H x H' hi _ y => ⟨y.1, l[i], List.getElem?_eq_getElem hi, by
    have := y.2
    rw [List.getElem?_map, List.getElem?_eq_getElem hi] at this
    exact (Option.some.inj this).symm⟩
theorem walk_tupL {K : PySem.W.Frag} {a : Addr} {α : Type} {l : List α} {r : α → V} : Walk (Itt K a) l.length (fun H => SqT K H a (l.map r)) (YL l r) := by
  have w := walk_tup (K := K) (a := a) (xs := l.map r)
  rw [List.length_map] at w
  exact w.mono (fun _ h => h) fun i H x H' hi _ y => ⟨y.1, l[i], List.getElem?_eq_getElem hi, by
    have := y.2
    rw [List.getElem?_map, List.getElem?_eq_getElem hi] at this
    exact (Option.some.inj this).symm⟩
theorem dpStrs {K : PySem.W.Frag} {H : Hp} : ∀ l : List Str, DpAll K H (l.map V.str) (l.map PyData.str)
  | [] => .nil
  | x :: l => .cons (.str x) (dpStrs l)
theorem dpInts {K : PySem.W.Frag} {H : Hp} : ∀ l : List Int, DpAll K H (l.map V.int) (l.map PyData.int)
  | [] => .nil
  | x :: l => .cons (.int x) (dpInts l)
theorem kb_tt : kitB "tuple" "tuple" = some true := by decide +kernel
theorem pow15 : CPow 10 15 := ⟨by decide, by decide, by decide⟩
theorem sc_ii {a b : Int} : scal (.int a) (.int b) = true := rfl
theorem sc_ss {a b : Str} : scal (.str a) (.str b) = true := rfl
theorem sc_bb {a b : Bool} : scal (.bl a) (.bl b) = true := rfl
theorem sc_in {a : Int} : scal (.int a) .non = true := rfl
theorem sc_ni {a : Int} : scal .non (.int a) = true := rfl
theorem sc_nn : scal .non .non = true := rfl
theorem sc_is {a : Int} {b : Str} : scal (.int a) (.str b) = true := rfl
theorem sc_si {a : Int} {b : Str} : scal (.str b) (.int a) = true := rfl
theorem sc_ns {b : Str} : scal .non (.str b) = true := rfl
theorem sc_sn {b : Str} : scal (.str b) .non = true := rfl
theorem sc_bn {b : Bool} : scal (.bl b) .non = true := rfl
theorem sc_nb {b : Bool} : scal .non (.bl b) = true := rfl
theorem sc_sb {b : Bool} {a : Str} : scal (.str a) (.bl b) = true := rfl
theorem sc_bs {b : Bool} {a : Str} : scal (.bl b) (.str a) = true := rfl
/-- a new list at p, all else kept -/
structure NewL (H H' : Hp) (p : Addr) (xs : List V) : Prop where
  free : H p = none
  same : Same H H'
  at_ : H' p = some (.lst xs)
theorem NewL.sq {K : PySem.W.Frag} {H H' : Hp} {p : Addr} {xs : List V} (n : NewL H H' p xs) : SqL K H' p xs := sqL_of n.at_
theorem NewL.set {H H' : Hp} {p : Addr} {xs ys : List V} (n : NewL H H' p xs) : NewL H (upd H' p (.lst ys)) p ys := ⟨n.free, fun b o e => by rw [upd_ne (ne_of_none e n.free)]; exact n.same b o e, upd_same⟩
theorem NewL.more {H H' H2 : Hp} {p : Addr} {xs : List V} (n : NewL H H' p xs) (s : Same H' H2) : NewL H H2 p xs := ⟨n.free, n.same.trans s, s _ _ n.at_⟩
theorem same_new {H : Hp} {p : Addr} {o : HO} (n : H p = none) : Same H (upd H p o) := fun b u e => by rw [upd_ne (ne_of_none e n)]; exact e
theorem cut_all {xs : List V} : cutV xs (some 0) none = xs := cut_drop (n := 0)
theorem pow14 : CPow 10 14 := ⟨by decide, by decide, by decide⟩
theorem ixN_of {n j : Nat} (h : j < n) : ixN n (j : Int) = some j := by
  unfold ixN
  rw [if_pos (by omega), if_pos (by omega)]; simp

/-! ### fields, methods and exceptions, the written part named -/
section
variable {X : Cx} {K : PySem.W.Frag}
theorem pe_fldK (K : PySem.W.Frag) {e : Expr} {ta : TE} {f : Str} {pos : Pos} (he : PE X e ta) (hb : attributeBase e f X.env (eval e X.env) = eval e X.env) (hK : X.K = K := by rfl) : PE X (.Attribute e f pos) (tFld K ta f) := by
  have h := pe_fld (pos := pos) he hb
  rw [hK] at h
  exact h
theorem ps_fldK (K : PySem.W.Frag) {o value : Expr} {ta tv : TE} {f : Str} {pos pos' : Pos} (ha : PE X o ta) (hv : PE X value tv) (hs : swapsWith value (some (.Attribute o f pos')) pos.line X.env = pure false) (hK : X.K = K := by rfl) : PS X (.Assign [.Attribute o f pos'] value pos) (sFld K ta tv f) := by
  have h := ps_fld (pos := pos) ha hv hs
  rw [hK] at h
  exact h
theorem ps_fldaugK (K : PySem.W.Frag) {o value : Expr} {ta tv : TE} {f : Str} {pos tpos : Pos} {op : Operator} {rd : V → V → Hp → VK → Prop} (ha : PE X o ta) (hv : PE X value tv) (hop : InOp X op rd) (hK : X.K = K := by rfl) : PS X (.AugAssign (.Attribute o f tpos) op value pos) (sFldAug K ta tv rd f) := by
  have h := ps_fldaug (f := f) (pos := pos) (tpos := tpos) ha hv hop
  rw [hK] at h
  exact h
theorem pe_bmK (K : PySem.W.Frag) {T id : String} {name : Str} {r : V → List V → Hp → VK → Prop} {o e : Expr} {es : List Expr} {to : TE} {t : TA} {apos cpos : Pos} (pa : PlainAttrs T) (slot : Slot T name id) (hty : typeOf (.builtin id) = pure (.type "method_descriptor")) (hm : MtR X id r) (ho : PE X o to) (ha : PA X (e :: es) t)
    (hbase : attributeBase o name X.env (eval o X.env) = eval o X.env := by rfl)
    (hfew : ((backTo cpos (starEach (e :: es) X.env)).all (fun x => !x.1) && (backToKw cpos (keywordEach [] X.env)).all (fun x => x.1.isSome)
      && decide ((e :: es).length + ([] : List Keyword).length + (if ([] : List Keyword).isEmpty then 0 else 1) < 30)) = true := by rfl)
    (hline : (apos.endLine == cpos.line) = true := by rfl) (hs : starEach (e :: es) X.env = (false, eval e X.env) :: starEach es X.env := by rfl) (hplain : (backTo cpos (starEach es X.env)).any (·.1) = false := by rfl) (hK : X.K = K := by rfl) :
    PE X (.Call (.Attribute o name apos) (e :: es) [] cpos) (tBM K T r to t) := by
  have h := pe_bm pa slot hty hm ho ha hbase hfew hline hs hplain
  rw [hK] at h
  exact h
theorem pe_bm0K (K : PySem.W.Frag) {T id : String} {name : Str} {r : V → List V → Hp → VK → Prop} {o : Expr} {to : TE} {apos cpos : Pos} (pa : PlainAttrs T) (slot : Slot T name id) (hty : typeOf (.builtin id) = pure (.type "method_descriptor")) (hm : MtR X id r) (ho : PE X o to)
    (hbase : attributeBase o name X.env (eval o X.env) = eval o X.env := by rfl) (hline : (apos.endLine == cpos.line) = true := by rfl) (hK : X.K = K := by rfl) : PE X (.Call (.Attribute o name apos) [] [] cpos) (tBM0 K T r to) := by
  have h := pe_bm0 pa slot hty hm ho hbase hline
  rw [hK] at h
  exact h
/-- o.m(..) that may raise, what is raised wished for at the caller's slots -/
def tMethS (C : Addr) (m : Str) (sp : Sp) (E : L2.St → XK) (ta : TE) (t : TA) : TE := fun σ H Q => ta σ H fun x H1 => ∃ a dx fs, x = .ref a ∧ H1 a = some (.ins C dx fs) ∧ fs.lookup m = none ∧ t σ H1 fun vs H2 => sp (x :: vs) H2 Q (E σ)
variable {CX : CXT} {k : Nat} {f C : Addr} {fd : FuncData} {ps : List Str} {sp : Sp} {E : L2.St → XK} {m : Str} {pos apos : Pos} {e o : Expr} {es : List Expr} {ta : TE} {t : TA}
theorem pe_methS {pl : Sem Bool} (he : PE X o ta) (c : Cls X.K C) (hm : Meth X.K C m f) (F : FnOk X.prog X.w X.K X.mg X.base CX k f fd ps sp) (hr : Room k X.A) (hb : Binds X.K fd ps []) (hx : ∀ σ, PassesAt CX X σ (E σ)) (ha : PA X (e :: es) t)
    (hst : starEach (e :: es) X.env = (false, eval e X.env) :: starEach es X.env := by rfl) (hpl : (backTo pos (starEach es X.env)).any (·.1) = false := by rfl)
    (ht : eval (.Call (.Attribute o m apos) (e :: es) [] pos) X.env = (do
      let ov ← eval o X.env
      standAt apos.atName
      let (f, first) ← holding [ov] (getMethod ov m pl)
      callWith pos f first (backTo pos (starEach (e :: es) X.env)) (backToKw pos (keywordEach [] X.env))) := by rfl) :
    PE X (.Call (.Attribute o m apos) (e :: es) [] pos) (tMethS C m sp E ta t) := by
  refine ⟨fun pins s σ H Q I h => ?_⟩
  refine PySem.W.methodCall_KW (pl := pl) (thn (he.run pins s σ H _ I h) fun u s1 ⟨x, H1, I1, rx, a, dx, fs, ex, ea, l, q⟩ => ?_) ht
  subst ex
  obtain rfl : u = Value.ref a := rx
  refine getmeth_ok I1 ea c hm l ?_
  refine PySem.W.callWith_K (first := [.ref a]) (h₀ := X.base) I.ok.mod.kin hm.kp (thn (ha.run pos pins s1 σ H1 _ I1 q) fun us s2 ⟨vs, H2, I2, r, q2⟩ => ⟨I2.kIn, ?_⟩) hst hpl
  exact run_fnS (us := .ref a :: us) (vs := .ref a :: vs) F hr hb (hx σ) I2 (.cons rfl r) q2
theorem pe_meth0S {pl : Sem Bool} (he : PE X o ta) (c : Cls X.K C) (hm : Meth X.K C m f) (F : FnOk X.prog X.w X.K X.mg X.base CX k f fd ps sp) (hr : Room k X.A) (hb : Binds X.K fd ps []) (hx : ∀ σ, PassesAt CX X σ (E σ))
    (ht : eval (.Call (.Attribute o m apos) [] [] pos) X.env = (do
      let ov ← eval o X.env
      standAt apos.atName
      let (f, first) ← holding [ov] (getMethod ov m pl)
      callWith pos f first (backTo pos (starEach [] X.env)) (backToKw pos (keywordEach [] X.env))) := by rfl) :
    PE X (.Call (.Attribute o m apos) [] [] pos) (tMethS C m sp E ta tNil) := by
  refine ⟨fun pins s σ H Q I h => ?_⟩
  refine PySem.W.methodCall_KW (pl := pl) (thn (he.run pins s σ H _ I h) fun u s1 ⟨x, H1, I1, rx, a, dx, fs, ex, ea, l, q⟩ => ?_) ht
  subst ex
  obtain rfl : u = Value.ref a := rx
  refine getmeth_ok I1 ea c hm l ?_
  exact PySem.W.callWith_K0 (first := [.ref a]) I1.kIn hm.kp (run_fnS (us := [.ref a]) (vs := [.ref a]) F hr hb (hx σ) I1 (.cons rfl .nil) q)
theorem pe_call0S {x : Str} {p : Pos} (F : FnOk X.prog X.w X.K X.mg X.base CX k f fd ps sp) (hr : Room k X.A) (hg : Gl X x) (hm : X.mg x = some (.ref f)) (hk : PySem.W.keepIn X.K (.ref f) = true) (hb : Binds X.K fd ps []) (hx : ∀ σ, PassesAt CX X σ (E σ))
    (hdb : (x == ("__debug__" : Str)) = false := by decide) : PE X (.Call (.Name x p) [] [] pos) (tCallS sp E tNil) := by
  refine ⟨fun pins s σ H Q I h => ?_⟩
  refine wpAny_Call_Name_kw (ld_glob I hg hm ?_ hdb)
  exact PySem.W.callWith_K0 I.kIn hk (run_fnS (us := []) F hr hb (hx σ) I .nil h)
/-- X(), X an own exception class without own __init__ -/
theorem pmk_own0 {C : Addr} {bmB : List Value} {B newId initId : String} {x : Str} {p pos : Pos} (F : ExcBaseFacts B newId initId bmB) (q : PySem.W.excIn X.K C bmB newId = true) (gC : X.mg x = some (.ref C))
    (kC : PySem.W.keepIn X.K (.ref C) = true) (r : Raises X (.ref C)) (hg : Gl X x) (hdb : (x == ("__debug__" : Str)) = false := by decide) :
    PMk X (.Call (.Name x p) [] [] pos) (fun _ H Q => Q (.ref C) none H) := by
  intro pins s σ H Q I h
  refine wpAny_Call_Name_kw (ld_glob I hg gC ?_ hdb)
  refine PySem.W.callWith_K0 I.kIn kC ?_
  show wpAny _ _ (call (.ref C) []) _ _ _
  obtain ⟨bm, N, nm, qn, bs, hdct, sn, sub, ab, col, dd, k0, k1, k2, k3, k5, mN, hC, hN, hni, T⟩ := exc_obj I.kIn q
  refine wpAny_call_exc_subT F T hC hN hni (fun h' e hm => ?_) (Nat.zero_le _)
  exact mk_of I hm r h (I.hok.gone hm.new)
end
/-- an error of the class at B met by «except A» -/
theorem exm_two {K : PySem.W.Frag} {B A : Addr} {b : Bool} (h1 : PySem.W.subIn K (.ref A) (.type "BaseException") = some true) (h2 : PySem.W.isClsIn K A = true) (h3 : PySem.W.typeIn K (.ref A) = some (.type "type")) (h4 : PySem.W.subIn K (.ref B) (.ref A) = some b) :
    PySem.W.exmOne K (.ref B) (.ref A) = some b := by
  have e1 : (PySem.W.subIn K (.ref A) (.type "BaseException") == some true) = true := by rw [h1] <;> rfl
  have e2 : ((PySem.W.clsIn K A).isSome && PySem.W.typeIn K (.ref A) == some (.type "type")) = true := by
    have h2' : (PySem.W.clsIn K A).isSome = true := h2
    rw [h2', h3] <;> rfl
  show (if (PySem.W.subIn K (.ref A) (.type "BaseException") == some true) = true then (if ((PySem.W.clsIn K A).isSome && PySem.W.typeIn K (.ref A) == some (.type "type")) = true then PySem.W.subIn K (.ref B) (.ref A) else none) else none) = some b
  rw [if_pos e1, if_pos e2]
  exact h4
/-- a class of exceptions without own __init__, raised -/
structure Exc (K : PySem.W.Frag) (C : Addr) : Prop where
  x : PySem.W.excIn K C [.type "ValueError", .type "Exception", .type "BaseException", .type "object"] "ValueError.__new__" = true
  kp : PySem.W.keepIn K (.ref C) = true
  be : PySem.W.subIn K (.ref C) (.type "BaseException") = some true
  ty : PySem.W.typeIn K (.ref C) = some (.type "type")
/-! ### dicts with written keys -/
def rDGet : R2 := fun x y H Q => ∃ a v, x = .ref a ∧ DGet H a y (some v) ∧ Q v H
theorem tDGet_eq {td ty : TE} {σ : L2.St} {H : Hp} {Q : VK} : tDGet td ty σ H Q = td σ H fun x H1 => ty σ H1 fun y H2 => rDGet x y H2 Q := rfl
def rDPut : V → V → V → Hp → (Hp → Prop) → Prop := fun x y v H Q => ∃ a H4, x = .ref a ∧ DPut H a y v H4 ∧ Q H4
theorem sDPut_eq {td ty tv : TE} {D : Ends} {σ : L2.St} {H : Hp} : sDPut td ty tv D σ H = tv σ H fun v H1 => td σ H1 fun x H2 => ty σ H2 fun y H3 => rDPut x y v H3 fun H4 => D.nx σ H4 := rfl
theorem i_dget {H : Hp} {a : Addr} {kvs : List (Key × V)} {k : Str} {v : V} {Q : VK} (h : H a = some (.dK kvs)) (e : valV kvs (.inr k) = some v) (q : Q v H) : rDGet (.ref a) (.str k) H Q := ⟨a, v, rfl, by rw [← e]; exact DGet.k (k := .inr k) h, q⟩
theorem i_dput {H : Hp} {a : Addr} {kvs : List (Key × V)} {k : Str} {v : V} {Q : Hp → Prop} (h : H a = some (.dK kvs)) (hl : kvs.length < sizeLine) (q : Q (upd H a (.dK (putK kvs (.inr k) v)))) : rDPut (.ref a) (.str k) v H Q := ⟨a, _, rfl, DPut.k (k := .inr k) h hl, q⟩
/-! ### what is kept but for some objects -/
def Kp (X : List Addr) (H H' : Hp) : Prop := ∀ b o, b ∉ X → H b = some o → H' b = some o
theorem Kp.refl (X : List Addr) (H : Hp) : Kp X H H := fun _ _ _ e => e
theorem Kp.trans {X : List Addr} {H H1 H2 : Hp} (a : Kp X H H1) (b : Kp X H1 H2) : Kp X H H2 := fun c o n e => b c o n (a c o n e)
theorem Kp.mono {X Y : List Addr} {H H1 : Hp} (a : Kp X H H1) (h : ∀ b ∈ X, b ∈ Y) : Kp Y H H1 := fun c o n e => a c o (fun k => n (h c k)) e
theorem Kp.set {X : List Addr} {H : Hp} {a : Addr} {o : HO} (h : a ∈ X) : Kp X H (upd H a o) := fun b u n e => by
  rw [upd_ne (fun k => n (by rw [k]; exact h))]; exact e
theorem Kp.new {X : List Addr} {H : Hp} {a : Addr} {o : HO} (h : H a = none) : Kp X H (upd H a o) := fun b u n e => by
  rw [upd_ne (ne_of_none e h)]; exact e
theorem Kp.of {X : List Addr} {H H' : Hp} (s : Same H H') : Kp X H H' := fun b u _ e => s b u e
theorem Kp.same {X : List Addr} {H H' H0 : Hp} (k : Kp X H H') (s : Same H0 H) (n : ∀ a ∈ X, H0 a = none) : Same H0 H' := fun b o e => k b o (fun h => by rw [n b h] at e; cases e) (s b o e)
/-! ### fields -/
def rFld (K : PySem.W.Frag) (f : Str) : V → Hp → VK → Prop := fun x H1 Q => ∃ a C dx fs v, x = .ref a ∧ H1 a = some (.ins C dx fs) ∧ Cls K C ∧ NoAttr K C f ∧ fs.lookup f = some v ∧ Q v H1
theorem tFld_eq {K : PySem.W.Frag} {ta : TE} {f : Str} {σ : L2.St} {H : Hp} {Q : VK} : tFld K ta f σ H Q = ta σ H fun x H1 => rFld K f x H1 Q := rfl
def rFldS (K : PySem.W.Frag) (f : Str) : V → V → Hp → (Hp → Prop) → Prop := fun x y H2 Q => ∃ a C dx fs, x = .ref a ∧ H2 a = some (.ins C dx fs) ∧ Cls K C ∧ NoAttr K C f ∧ fs.length < 1000 ∧ Q (upd H2 a (.ins C dx (putF f y fs)))
theorem sFld_eq {K : PySem.W.Frag} {ta tv : TE} {f : Str} {D : Ends} {σ : L2.St} {H : Hp} : sFld K ta tv f D σ H = tv σ H fun y H1 => ta σ H1 fun x H2 => rFldS K f x y H2 fun H3 => D.nx σ H3 := rfl
theorem i_fld {K : PySem.W.Frag} {a C dx : Addr} {fs : List (Str × V)} {f : Str} {v : V} {H : Hp} {Q : VK} (c : Cls K C) (n : NoAttr K C f) (h : H a = some (.ins C dx fs)) (l : fs.lookup f = some v) (q : Q v H) : rFld K f (.ref a) H Q := ⟨a, C, dx, fs, v, rfl, h, c, n, l, q⟩
theorem i_fldS {K : PySem.W.Frag} {a C dx : Addr} {fs : List (Str × V)} {f : Str} {y : V} {H : Hp} {Q : Hp → Prop} (c : Cls K C) (n : NoAttr K C f) (h : H a = some (.ins C dx fs)) (l : fs.length < 1000) (q : Q (upd H a (.ins C dx (putF f y fs)))) : rFldS K f (.ref a) y H Q := ⟨a, C, dx, fs, rfl, h, c, n, l, q⟩
theorem i_rep {H : Hp} {l : Addr} {k : Int} {xs : List V} {Q : VK} (h : H l = some (.lst xs)) (h1 : -(2 ^ 63) ≤ k) (h2 : k < 2 ^ 63) (hz : xs.length * k.toNat ≤ sizeLine) (q : ∀ p, H p = none → Q (.ref p) (upd H p (.lst (List.replicate k.toNat xs).flatten))) : rRep (.ref l) (.int k) H Q := ⟨l, k, xs, rfl, rfl, h, h1, h2, hz, q⟩
theorem rep1 {n : Nat} {v : V} : (List.replicate n [v]).flatten = List.replicate n v := by
  induction n with
  | zero => rfl
  | succ n ih => rw [List.replicate_succ, List.flatten_cons, ih, List.replicate_succ]; rfl
/-- a call of a method -/
def rMeth (C : Addr) (m : Str) (sp : Sp) (E : XK) (t : (List V → Hp → Prop) → Hp → Prop) : V → Hp → VK → Prop := fun x H1 Q => ∃ a dx fs, x = .ref a ∧ H1 a = some (.ins C dx fs) ∧ fs.lookup m = none ∧ t (fun vs H2 => sp (x :: vs) H2 Q E) H1
theorem tMeth_eq {C : Addr} {m : Str} {sp : Sp} {dvs : List V} {E : XK} {ta : TE} {t : TA} {σ : L2.St} {H : Hp} {Q : VK} : tMeth C m sp dvs E ta t σ H Q = ta σ H fun x H1 => rMeth C m sp E (fun k H => t σ H fun vs H2 => k (vs ++ dvs) H2) x H1 Q := rfl
theorem tMethS_eq {C : Addr} {m : Str} {sp : Sp} {E : L2.St → XK} {ta : TE} {t : TA} {σ : L2.St} {H : Hp} {Q : VK} : tMethS C m sp E ta t σ H Q = ta σ H fun x H1 => rMeth C m sp (E σ) (fun k H => t σ H k) x H1 Q := rfl
theorem i_meth {C : Addr} {m : Str} {sp : Sp} {E : XK} {t : (List V → Hp → Prop) → Hp → Prop} {a dx : Addr} {fs : List (Str × V)} {H : Hp} {Q : VK} (h : H a = some (.ins C dx fs)) (l : fs.lookup m = none) (q : t (fun vs H2 => sp (.ref a :: vs) H2 Q E) H) : rMeth C m sp E t (.ref a) H Q := ⟨a, dx, fs, rfl, h, l, q⟩
def rFldA (K : PySem.W.Frag) (f : Str) (tv : (V → Hp → Prop) → Hp → Prop) (rd : V → V → Hp → VK → Prop) : V → Hp → (Hp → Prop) → Prop := fun x H1 Q => ∃ a C dx fs v, x = .ref a ∧ H1 a = some (.ins C dx fs) ∧ Cls K C ∧ NoAttr K C f ∧ fs.lookup f = some v ∧
  tv (fun y H2 => rd v y H2 fun z H3 => ∃ dx' fs', H3 a = some (.ins C dx' fs') ∧ fs'.length < 1000 ∧ Q (upd H3 a (.ins C dx' (putF f z fs')))) H1
theorem sFldAug_eq {K : PySem.W.Frag} {ta tv : TE} {rd : V → V → Hp → VK → Prop} {f : Str} {D : Ends} {σ : L2.St} {H : Hp} : sFldAug K ta tv rd f D σ H = ta σ H fun x H1 => rFldA K f (fun k H => tv σ H k) rd x H1 fun H3 => D.nx σ H3 := rfl
theorem i_fldA {K : PySem.W.Frag} {f : Str} {tv : (V → Hp → Prop) → Hp → Prop} {rd : V → V → Hp → VK → Prop} {a C dx : Addr} {fs : List (Str × V)} {v : V} {H : Hp} {Q : Hp → Prop} (c : Cls K C) (n : NoAttr K C f) (h : H a = some (.ins C dx fs)) (l : fs.lookup f = some v)
    (q : tv (fun y H2 => rd v y H2 fun z H3 => ∃ dx' fs', H3 a = some (.ins C dx' fs') ∧ fs'.length < 1000 ∧ Q (upd H3 a (.ins C dx' (putF f z fs')))) H) : rFldA K f tv rd (.ref a) H Q := ⟨a, C, dx, fs, v, rfl, h, c, n, l, q⟩
/-! ### == and != of data that is the same -/
theorem shaped_lay {d : PyData} (h : SeqAt.shaped d = true) : d.canLay0 = true := by
  unfold SeqAt.shaped at h
  simp only [Bool.and_eq_true] at h
  exact h.1
theorem i_neD {K : PySem.W.Frag} {x y : V} {d : PyData} {H : Hp} {Q : VK} (h1 : Dp K H x d) (h2 : Dp K H y d) (hs : SeqAt.shaped d = true) (q : Q (.bl false) H) : rNeD K x y H Q :=
  ⟨d, d, h1, h2, hs, hs, by rw [SeqAt.eqv_refl d (shaped_lay hs)]; exact q⟩
theorem i_eqD {K : PySem.W.Frag} {x y : V} {d : PyData} {H : Hp} {Q : VK} (h1 : Dp K H x d) (h2 : Dp K H y d) (hs : SeqAt.shaped d = true) (q : Q (.bl true) H) : rEqD K x y H Q :=
  ⟨d, d, h1, h2, hs, hs, by rw [SeqAt.eqv_refl d (shaped_lay hs)]; exact q⟩

/-! ### own exceptions with an __init__ that keeps its arguments -/
def rMkO (C : Addr) (sp : Sp) (dvs : List V) : List V → Hp → XK → Prop := fun vs H1 Q => vs.length ≤ 1000 ∧ ∀ a, H1 a = none → sp (.ref a :: (vs ++ dvs)) (upd H1 a (exo a C none))
  (fun v H2 => v = .non ∧ ∃ (d : Addr) (fs : List (Str × V)), H2 a = some (exo a C (some d)) ∧ H2 d = some (exd d fs) ∧ H1 d = none ∧ Q (.ref C) (some d) (upd (del H2 a) d (.xd fs))) (fun _ _ _ => False)
theorem tMkO_eq {C : Addr} {sp : Sp} {dvs : List V} {ta : TA} {σ : L2.St} {H : Hp} {Q : XK} : tMkO C sp dvs ta σ H Q = ta σ H fun vs H1 => rMkO C sp dvs vs H1 Q := rfl
def spX1 (C : Addr) (f : Str) : Sp := fun vs H Q _ => ∃ (a : Addr) (v : V), vs = [.ref a, v] ∧ H a = some (exo a C none) ∧ ∀ dx, H dx = none → dx ≠ a → Q .non (upd (upd H dx (exd dx [(f, v)])) a (exo a C (some dx)))
theorem i_mkO1 {C : Addr} {f : Str} {v : V} {H : Hp} {Q : XK} (q : ∀ dx, H dx = none → Q (.ref C) (some dx) (upd H dx (.xd [(f, v)]))) : rMkO C (spX1 C f) [] [v] H Q := by
  refine ⟨by show 1 ≤ 1000; decide, fun a ha => ⟨a, v, rfl, upd_same, fun dx hd hne => ⟨rfl, dx, [(f, v)], upd_same, by rw [upd_ne hne, upd_same], by rw [upd_ne hne] at hd; exact hd, ?_⟩⟩⟩
  have hd : H dx = none := by rw [upd_ne hne] at hd; exact hd
  have e : upd (del (upd (upd (upd H a (exo a C none)) dx (exd dx [(f, v)])) a (exo a C (some dx))) a) dx (.xd [(f, v)]) = upd H dx (.xd [(f, v)]) := by
    funext b
    by_cases hb : b = dx
    · subst hb; rw [upd_same, upd_same]
    · rw [upd_ne hb, upd_ne hb]
      by_cases hb2 : b = a
      · subst hb2; rw [del_same, ha]
      · rw [del_ne hb2, upd_ne hb2, upd_ne hb, upd_ne hb2]
  rw [e]
  exact q dx hd
def rOst (K : PySem.W.Frag) (f : Str) : V → V → Hp → (Hp → Prop) → Prop := fun x y H2 Q => ∃ a C : Addr, x = .ref a ∧ OexC K C ∧ PySem.W.findIn K (.ref C) f = some none ∧
  ((H2 a = some (exo a C none) ∧ ∀ dx, H2 dx = none → dx ≠ a → Q (upd (upd H2 dx (exd dx [(f, y)])) a (exo a C (some dx)))) ∨
    ∃ (dx : Addr) (fs : List (Str × V)), H2 a = some (exo a C (some dx)) ∧ H2 dx = some (exd dx fs) ∧ fs.length ≤ 900 ∧ Q (upd H2 dx (exd dx ((f, y) :: fs))))
theorem tOst_eq {K : PySem.W.Frag} {f : Str} {to te : TE} {D : Ends} {σ : L2.St} {H : Hp} : tOst K f to te D σ H = te σ H fun y H1 => to σ H1 fun x H2 => rOst K f x y H2 fun H3 => D.nx σ H3 := rfl
theorem i_ost {K : PySem.W.Frag} {C a : Addr} {f : Str} {y : V} {H : Hp} {Q : Hp → Prop} (T : OexC K C) (n : PySem.W.findIn K (.ref C) f = some none) (h : H a = some (exo a C none)) (q : ∀ dx, H dx = none → dx ≠ a → Q (upd (upd H dx (exd dx [(f, y)])) a (exo a C (some dx)))) : rOst K f (.ref a) y H Q := ⟨a, C, rfl, T, n, .inl ⟨h, q⟩⟩
theorem i_catchAs {K : PySem.W.Frag} {c cls : Value} {i : Nat} {ts : Addr → Value → Option Addr → TS} {Wout : WX} {D : Ends} {d : Option Addr} {σ : L2.St} {H : Hp} (h : PySem.W.exmOne K cls c = some true)
    (q : ∀ a, H a = none → ts a cls d { nx := fun σ' H' => D.nx (σ'.set i none) H', rt := D.rt, bk := fun σ' H' => D.bk (σ'.set i none) H', ct := fun σ' H' => D.ct (σ'.set i none) H' } (σ.set i (some (.ref a))) H) : wAs K c i ts Wout D cls d σ H := ⟨true, h, fun _ a n => q a n, fun z => nomatch z⟩
theorem i_catch {K : PySem.W.Frag} {c cls : Value} {ts : Addr → Value → Option Addr → TS} {Wout : WX} {D : Ends} {d : Option Addr} {σ : L2.St} {H : Hp} (h : PySem.W.exmOne K cls c = some true) (q : ∀ a, H a = none → ts a cls d D σ H) : wOnly K c ts Wout D cls d σ H := ⟨true, h, fun _ a n => q a n, fun z => nomatch z⟩
/-- told.f -/
def rXf (a : Addr) (cls : Value) (d : Option Addr) (C : Addr) (f : Str) : V → Hp → VK → Prop := fun x H1 Q => x = .ref a ∧ cls = .ref C ∧ ∃ (dd : Addr) (fs : List (Str × V)) (v : V), d = some dd ∧ H1 dd = some (.xd fs) ∧ fs.lookup f = some v ∧ Q v H1
theorem tXf_eq {a : Addr} {cls : Value} {d : Option Addr} {C : Addr} {f : Str} {te : TE} {σ : L2.St} {H : Hp} {Q : VK} : tXf a cls d C f te σ H Q = te σ H fun x H1 => rXf a cls d C f x H1 Q := rfl
theorem i_xf {a dd C : Addr} {f : Str} {fs : List (Str × V)} {v : V} {H : Hp} {Q : VK} (h : H dd = some (.xd fs)) (l : fs.lookup f = some v) (q : Q v H) : rXf a (.ref C) (some dd) C f (.ref a) H Q := ⟨rfl, rfl, dd, fs, v, rfl, h, l, q⟩
theorem iRevR_eq {tr : L2.St → Hp → (Int → Int → Hp → Prop) → Prop} {σ : L2.St} {H : Hp} {R : It → Hp → Prop} : iRevR tr σ H R = tr σ H fun a b H1 => -(2 ^ 62) ≤ a ∧ a < 2 ^ 62 ∧ -(2 ^ 62) ≤ b ∧ b < 2 ^ 62 ∧ R (Itc (a + (((b - a).toNat : Nat) : Int) - 1) (-1) (b - a).toNat) H1 := rfl
theorem tRg1_eq {ta : TE} {σ : L2.St} {H : Hp} {Q : Int → Int → Hp → Prop} : tRg1 ta σ H Q = ta σ H fun x H1 => ∃ n, x = .int n ∧ Q 0 n H1 := rfl
theorem tRg2_eq {ta tb : TE} {σ : L2.St} {H : Hp} {Q : Int → Int → Hp → Prop} : tRg2 ta tb σ H Q = ta σ H fun x H1 => tb σ H1 fun y H2 => ∃ i j, x = .int i ∧ y = .int j ∧ Q i j H2 := rfl
theorem tLstRg_eq {te : L2.St → Hp → (Int → Int → Hp → Prop) → Prop} {σ : L2.St} {H : Hp} {Q : VK} : tLstRg te σ H Q = te σ H fun a b H1 => RgOk a b ∧ ∀ q, H1 q = none → Q (.ref q) (upd H1 q (.lst (rgV a b))) := rfl
def rRevL (K : PySem.W.Frag) : V → Hp → VK → Prop := fun x H1 Q => ∃ a xs, x = .ref a ∧ SqL K H1 a xs ∧ ∀ p, H1 p = none → Q (.ref p) (upd H1 p (.lst xs.reverse))
theorem tRevL_eq {K : PySem.W.Frag} {te : TE} {σ : L2.St} {H : Hp} {Q : VK} : tRevL K te σ H Q = te σ H fun x H1 => rRevL K x H1 Q := rfl
theorem i_revL {K : PySem.W.Frag} {H : Hp} {Q : VK} {a : Addr} {xs : List V} (h : SqL K H a xs) (q : ∀ p, H p = none → Q (.ref p) (upd H p (.lst xs.reverse))) : rRevL K (.ref a) H Q := ⟨a, xs, rfl, h, q⟩
theorem room65 {k : Nat} {A : Around} (r : Room k A) : A.units + 65 < cLine := by have := r.un; omega
theorem i_forPost {J : It} {g : TG} {tb : TS} {D : Ends} {σ : L2.St} {H : Hp} (Post : L2.St → Hp → Prop) (h1 : (∀ σ' H', Post σ' H' → D.nx σ' H') → rForJ J g tb D σ H) (h2 : ∀ σ' H', Post σ' H' → D.nx σ' H') : rForJ J g tb D σ H := h1 h2

local macro_rules | `(tactic| walk_at "rd") => `(tactic| try simp only [L2.start, cxOf, tVar, tC, tOp, tUn, rI0, rI, rU, tCB, tCons, tNil, tAsg, gName, gSub, tDrop, tSub, tAdd, tMul, tCmp, t2I, tIsN, tNotN, tRet, tDGet_eq, sDPut_eq, tMeth_eq, tMethS_eq, tMkO_eq, tOst_eq, tXf_eq, iRevR_eq, tRg1_eq, tRg2_eq, tLstRg_eq, tRevL_eq, tMake, tFld_eq, sFld_eq, sFldAug_eq, rSub, rAdd, tCallS, tDisp, tPairs, rIntA, tDNewK, wipe, tFor_J, tLc_J, iRng1, iRng2, iList, iTup, iStr, tM1, tM0, tBM, tBM0, tSl, tPart, tNoPart, tLst, tTup, sizeLine_eq, Nat.reduceLeDiff, true_and, tIfS, tTest, tB, tAnd, tOr, tNot, tAndV, tOrV, tNotV, tChain, rEq, rNe, rNotB, rIsB, sc_ii, sc_ss, sc_bb, sc_in, sc_ni, sc_nn, sc_is, sc_si, sc_ns, sc_sn, sc_bn, sc_nb, sc_sb, sc_bs, tCall, tNext,  List.map, List.length, List.replicate, List.cons_append, List.nil_append, List.append_nil, List.getElem?_cons_zero, List.getElem?_cons_succ, List.set_cons_zero, List.set_cons_succ, Option.some.injEq, exists_eq_left', exists_eq_left, exists_eq', V.int.injEq, V.str.injEq, V.ref.injEq, V.bl.injEq, List.cons.injEq, and_true, true_and, and_assoc, exists_and_left, Int.reduceLT, Int.reduceNeg, Int.reduceLE, ↓reduceIte, Bool.false_eq_true, Bool.not_true, Bool.not_false, reduceCtorEq, false_and, and_false, exists_false, or_false, false_or, Nat.reduceAdd, Nat.reduceSub, decide_eq_true_eq, decide_true, decide_false])

def topS (i : Nat) : Stmt := PySem.Challenge.pw_warycard_k71_whole_torn_transactions.main.body.getD i (.Pass ⟨0, 0, 0, 0⟩)
abbrev s_Fault_init : Stmt := inClass (topS 3) 0
theorem sc_Fault_init : FnScope ["self", "code"] ["self", "code"] (defScope s_Fault_init) := ⟨rfl, rfl, rfl, by decide +kernel, rfl, by decide +kernel, by decide +kernel⟩
abbrev s_Journal_init : Stmt := inClass (topS 8) 0
theorem sc_Journal_init : FnScope ["self", "cells", "start"] ["self", "cells", "start"] (defScope s_Journal_init) := ⟨rfl, rfl, rfl, by decide +kernel, rfl, by decide +kernel, by decide +kernel⟩
abbrev s_Journal_change : Stmt := inClass (topS 8) 2
theorem sc_Journal_change : FnScope ["self", "place", "word", "count", "entry"] ["self", "place", "word"] (defScope s_Journal_change) := ⟨rfl, rfl, rfl, by decide +kernel, rfl, by decide +kernel, by decide +kernel⟩
abbrev s_Journal_begin : Stmt := inClass (topS 8) 3
theorem sc_Journal_begin : FnScope ["self"] ["self"] (defScope s_Journal_begin) := ⟨rfl, rfl, rfl, by decide +kernel, rfl, by decide +kernel, by decide +kernel⟩
abbrev s_Journal_commit : Stmt := inClass (topS 8) 4
theorem sc_Journal_commit : FnScope ["self"] ["self"] (defScope s_Journal_commit) := ⟨rfl, rfl, rfl, by decide +kernel, rfl, by decide +kernel, by decide +kernel⟩
abbrev s_Journal_abort : Stmt := inClass (topS 8) 5
theorem sc_Journal_abort : FnScope ["self"] ["self"] (defScope s_Journal_abort) := ⟨rfl, rfl, rfl, by decide +kernel, rfl, by decide +kernel, by decide +kernel⟩
abbrev s_Journal_put_back : Stmt := inClass (topS 8) 6
theorem sc_Journal_put_back : FnScope ["self", "index", "entry"] ["self"] (defScope s_Journal_put_back) := ⟨rfl, rfl, rfl, by decide +kernel, rfl, by decide +kernel, by decide +kernel⟩
abbrev s_Journal__forget : Stmt := inClass (topS 8) 7
theorem sc_Journal__forget : FnScope ["self"] ["self"] (defScope s_Journal__forget) := ⟨rfl, rfl, rfl, by decide +kernel, rfl, by decide +kernel, by decide +kernel⟩
abbrev s_Cells_init : Stmt := inClass (topS 10) 0
theorem sc_Cells_init : FnScope ["self", "count"] ["self", "count"] (defScope s_Cells_init) := ⟨rfl, rfl, rfl, by decide +kernel, rfl, by decide +kernel, by decide +kernel⟩
abbrev s_Cells_cut : Stmt := inClass (topS 10) 2
theorem sc_Cells_cut : FnScope ["self", "writes"] ["self", "writes"] (defScope s_Cells_cut) := ⟨rfl, rfl, rfl, by decide +kernel, rfl, by decide +kernel, by decide +kernel⟩
abbrev s_Cells_restore : Stmt := inClass (topS 10) 3
theorem sc_Cells_restore : FnScope ["self"] ["self"] (defScope s_Cells_restore) := ⟨rfl, rfl, rfl, by decide +kernel, rfl, by decide +kernel, by decide +kernel⟩
abbrev s_Cells_read : Stmt := inClass (topS 10) 4
theorem sc_Cells_read : FnScope ["self", "place"] ["self", "place"] (defScope s_Cells_read) := ⟨rfl, rfl, rfl, by decide +kernel, rfl, by decide +kernel, by decide +kernel⟩
abbrev s_Cells_write : Stmt := inClass (topS 10) 5
theorem sc_Cells_write : FnScope ["self", "place", "word"] ["self", "place", "word"] (defScope s_Cells_write) := ⟨rfl, rfl, rfl, by decide +kernel, rfl, by decide +kernel, by decide +kernel⟩
abbrev s_law_draws : Stmt := topS 12
theorem sc_law_draws : FnScope ["_law_script", "_law_start", "_law_most", "_law_draws_here", "_law_cell", "_law_number", "_law_mixed", "_law_k"] ["_law_script", "_law_start", "_law_most"] (defScope s_law_draws) := ⟨rfl, rfl, rfl, by decide +kernel, rfl, by decide +kernel, by decide +kernel⟩
abbrev s_law_step : Stmt := topS 13
theorem sc_law_step : FnScope ["_law_draw", "_law_rest", "_law_changes", "_law_k"] ["_law_draw"] (defScope s_law_step) := ⟨rfl, rfl, rfl, by decide +kernel, rfl, by decide +kernel, by decide +kernel⟩
abbrev s_law_behind : Stmt := topS 14
theorem sc_law_behind : FnScope ["_law_words", "_law_step_here", "_law_kind", "_law_changes", "_law_place", "_law_word"] ["_law_words", "_law_step_here"] (defScope s_law_behind) := ⟨rfl, rfl, rfl, by decide +kernel, rfl, by decide +kernel, by decide +kernel⟩
abbrev s_law_do : Stmt := topS 15
theorem sc_law_do : FnScope ["_law_journal", "_law_step_here", "_law_kind", "_law_changes", "_law_place", "_law_word"] ["_law_journal", "_law_step_here"] (defScope s_law_do) := ⟨rfl, rfl, rfl, by decide +kernel, rfl, by decide +kernel, by decide +kernel⟩
abbrev s_law_back : Stmt := topS 16
theorem sc_law_back : FnScope ["_law_cells", "_law_writes"] ["_law_cells", "_law_writes"] (defScope s_law_back) := ⟨rfl, rfl, rfl, by decide +kernel, rfl, by decide +kernel, by decide +kernel⟩
abbrev s_law : Stmt := topS 17
theorem sc_law : FnScope ["_law_script", "_law_cells", "_law_words", "_law_k", "_law_draws_here", "_law_journal", "_law_found", "_law_draw", "_law_step_here"] ["_law_script"] (defScope s_law) := ⟨rfl, rfl, rfl, by decide +kernel, rfl, by decide +kernel, by decide +kernel⟩
/-- what the top has left -/
structure Txt (K : PySem.W.Frag) (mg : Str → Option Value) where
  f_Fault_init : Addr
  d_Fault_init : FuncData
  k_Fault_init : Fun K "__init__" "Fault.__init__" s_Fault_init f_Fault_init d_Fault_init
  b_Fault_init : Binds K d_Fault_init ["self", "code"] []
  f_Journal_init : Addr
  d_Journal_init : FuncData
  k_Journal_init : Fun K "__init__" "Journal.__init__" s_Journal_init f_Journal_init d_Journal_init
  b_Journal_init : Binds K d_Journal_init ["self", "cells", "start"] []
  f_Journal_change : Addr
  d_Journal_change : FuncData
  k_Journal_change : Fun K "change" "Journal.change" s_Journal_change f_Journal_change d_Journal_change
  b_Journal_change : Binds K d_Journal_change ["self", "place", "word"] []
  f_Journal_begin : Addr
  d_Journal_begin : FuncData
  k_Journal_begin : Fun K "begin" "Journal.begin" s_Journal_begin f_Journal_begin d_Journal_begin
  b_Journal_begin : Binds K d_Journal_begin ["self"] []
  f_Journal_commit : Addr
  d_Journal_commit : FuncData
  k_Journal_commit : Fun K "commit" "Journal.commit" s_Journal_commit f_Journal_commit d_Journal_commit
  b_Journal_commit : Binds K d_Journal_commit ["self"] []
  f_Journal_abort : Addr
  d_Journal_abort : FuncData
  k_Journal_abort : Fun K "abort" "Journal.abort" s_Journal_abort f_Journal_abort d_Journal_abort
  b_Journal_abort : Binds K d_Journal_abort ["self"] []
  f_Journal_put_back : Addr
  d_Journal_put_back : FuncData
  k_Journal_put_back : Fun K "put_back" "Journal.put_back" s_Journal_put_back f_Journal_put_back d_Journal_put_back
  b_Journal_put_back : Binds K d_Journal_put_back ["self"] []
  f_Journal__forget : Addr
  d_Journal__forget : FuncData
  k_Journal__forget : Fun K "_forget" "Journal._forget" s_Journal__forget f_Journal__forget d_Journal__forget
  b_Journal__forget : Binds K d_Journal__forget ["self"] []
  f_Cells_init : Addr
  d_Cells_init : FuncData
  k_Cells_init : Fun K "__init__" "Cells.__init__" s_Cells_init f_Cells_init d_Cells_init
  b_Cells_init : Binds K d_Cells_init ["self", "count"] []
  f_Cells_cut : Addr
  d_Cells_cut : FuncData
  k_Cells_cut : Fun K "cut" "Cells.cut" s_Cells_cut f_Cells_cut d_Cells_cut
  b_Cells_cut : Binds K d_Cells_cut ["self", "writes"] []
  f_Cells_restore : Addr
  d_Cells_restore : FuncData
  k_Cells_restore : Fun K "restore" "Cells.restore" s_Cells_restore f_Cells_restore d_Cells_restore
  b_Cells_restore : Binds K d_Cells_restore ["self"] []
  f_Cells_read : Addr
  d_Cells_read : FuncData
  k_Cells_read : Fun K "read" "Cells.read" s_Cells_read f_Cells_read d_Cells_read
  b_Cells_read : Binds K d_Cells_read ["self", "place"] []
  f_Cells_write : Addr
  d_Cells_write : FuncData
  k_Cells_write : Fun K "write" "Cells.write" s_Cells_write f_Cells_write d_Cells_write
  b_Cells_write : Binds K d_Cells_write ["self", "place", "word"] []
  f_law_draws : Addr
  d_law_draws : FuncData
  k_law_draws : Fun K "_law_draws" "_law_draws" s_law_draws f_law_draws d_law_draws
  b_law_draws : Binds K d_law_draws ["_law_script", "_law_start", "_law_most"] []
  g_law_draws : mg "_law_draws" = some (.ref f_law_draws)
  f_law_step : Addr
  d_law_step : FuncData
  k_law_step : Fun K "_law_step" "_law_step" s_law_step f_law_step d_law_step
  b_law_step : Binds K d_law_step ["_law_draw"] []
  g_law_step : mg "_law_step" = some (.ref f_law_step)
  f_law_behind : Addr
  d_law_behind : FuncData
  k_law_behind : Fun K "_law_behind" "_law_behind" s_law_behind f_law_behind d_law_behind
  b_law_behind : Binds K d_law_behind ["_law_words", "_law_step_here"] []
  g_law_behind : mg "_law_behind" = some (.ref f_law_behind)
  f_law_do : Addr
  d_law_do : FuncData
  k_law_do : Fun K "_law_do" "_law_do" s_law_do f_law_do d_law_do
  b_law_do : Binds K d_law_do ["_law_journal", "_law_step_here"] []
  g_law_do : mg "_law_do" = some (.ref f_law_do)
  f_law_back : Addr
  d_law_back : FuncData
  k_law_back : Fun K "_law_back" "_law_back" s_law_back f_law_back d_law_back
  b_law_back : Binds K d_law_back ["_law_cells", "_law_writes"] []
  g_law_back : mg "_law_back" = some (.ref f_law_back)
  f_law : Addr
  d_law : FuncData
  k_law : Fun K "law" "law" s_law f_law d_law
  b_law : Binds K d_law ["_law_script"] []
  g_law : mg "law" = some (.ref f_law)
  c_CardError : Addr
  g_CardError : mg "CardError" = some (.ref c_CardError)
  c_Fault : Addr
  g_Fault : mg "Fault" = some (.ref c_Fault)
  c_PowerCut : Addr
  g_PowerCut : mg "PowerCut" = some (.ref c_PowerCut)
  c_Journal : Addr
  g_Journal : mg "Journal" = some (.ref c_Journal)
  c_Cells : Addr
  g_Cells : mg "Cells" = some (.ref c_Cells)
  ox_Fault : OexC K c_Fault
  in_Fault : PySem.W.findIn K (.ref c_Fault) "__init__" = some (some (.ref f_Fault_init))
  ti_Fault : PySem.W.typeIn K (.ref f_Fault_init) = some (.type "function")
  on_Fault_code : PySem.W.findIn K (.ref c_Fault) "code" = some none
  xf_Fault : XfC K c_Fault
  x_PowerCut : Exc K c_PowerCut
  ex_Fault_PowerCut : PySem.W.exmOne K (.ref c_Fault) (.ref c_PowerCut) = some false
  ex_PowerCut_PowerCut : PySem.W.exmOne K (.ref c_PowerCut) (.ref c_PowerCut) = some true
  cl_Journal : Cls K c_Journal
  mk_Journal : Mk K c_Journal f_Journal_init
  me_Journal_change : Meth K c_Journal "change" f_Journal_change
  me_Journal_begin : Meth K c_Journal "begin" f_Journal_begin
  me_Journal_commit : Meth K c_Journal "commit" f_Journal_commit
  me_Journal_abort : Meth K c_Journal "abort" f_Journal_abort
  me_Journal_put_back : Meth K c_Journal "put_back" f_Journal_put_back
  me_Journal__forget : Meth K c_Journal "_forget" f_Journal__forget
  nf_Journal_cells : NoAttr K c_Journal "_cells"
  nf_Journal_start : NoAttr K c_Journal "_start"
  nf_Journal_open : NoAttr K c_Journal "_open"
  cl_Cells : Cls K c_Cells
  mk_Cells : Mk K c_Cells f_Cells_init
  me_Cells_cut : Meth K c_Cells "cut" f_Cells_cut
  me_Cells_restore : Meth K c_Cells "restore" f_Cells_restore
  me_Cells_read : Meth K c_Cells "read" f_Cells_read
  me_Cells_write : Meth K c_Cells "write" f_Cells_write
  nf_Cells_words : NoAttr K c_Cells "_words"
  nf_Cells_left : NoAttr K c_Cells "_left"
  nf_Cells_on : NoAttr K c_Cells "_on"
  m_abs : mg "abs" = none
  m_int : mg "int" = none
  m_len : mg "len" = none
  m_list : mg "list" = none
  m_range : mg "range" = none
  m_reversed : mg "reversed" = none
  t_MOST_LOG : Tok
  g_MOST_LOG : mg "MOST_LOG" = some (.int (40) t_MOST_LOG)
  t_TRANSACTION : Tok
  g_TRANSACTION : mg "TRANSACTION" = some (.int (-8) t_TRANSACTION)
section
variable {P : Program} {w : World} {K : PySem.W.Frag} {mg : Str → Option Value} {base : Heap}

/-! ### cells.py -/
def cf (l : Addr) (lv : V) (b : Bool) : List (Str × V) := [("_words", .ref l), ("_left", lv), ("_on", .bl b)]
structure CS where
  words : List Int
  left : Option Int
  on : Bool
def lfV : Option Int → V
  | none => .non
  | some i => .int i
/-- a Cells object stands at a, its words at l -/
structure CellsAt (C : Addr) (H : Hp) (a l : Addr) (S : CS) : Prop where
  ob : ∃ dx, H a = some (.ins C dx (cf l (lfV S.left) S.on))
  ws : H l = some (.lst (S.words.map V.int))
  sz : S.words.length ≤ 1000
theorem CellsAt.ne {C : Addr} {H : Hp} {a l : Addr} {S : CS} (c : CellsAt C H a l S) : a ≠ l := by
  obtain ⟨dx, h⟩ := c.ob
  exact ne_of h c.ws (by intro z; cases z)
theorem CellsAt.keep {C : Addr} {H H' : Hp} {a l : Addr} {S : CS} {X : List Addr} (c : CellsAt C H a l S) (k : Kp X H H') (h1 : a ∉ X) (h2 : l ∉ X) : CellsAt C H' a l S := by
  obtain ⟨dx, h⟩ := c.ob
  exact ⟨⟨dx, k a _ h1 h⟩, k l _ h2 c.ws, c.sz⟩
def sp_Cells_init {K : PySem.W.Frag} {mg : Str → Option Value} (T : Txt K mg) : Sp := fun vs H Q _ => ∃ (x dx : Addr) (n : Nat), vs = [.ref x, .int n] ∧ H x = some (.ins T.c_Cells dx []) ∧ n ≤ 1000 ∧
  ∀ H' l, CellsAt T.c_Cells H' x l ⟨List.replicate n 0, none, true⟩ → H l = none → Kp [x] H H' → Q .non H'
theorem ok_Cells_init (T : Txt K mg) : FnOk P w K mg base CX0 1 T.f_Cells_init T.d_Cells_init ["self", "count"] (sp_Cells_init T) := by
  refine T.k_Cells_init.ok sc_Cells_init (fun vs H Q E h => ?_) (fun cdv A outer s H vs Q E hr h => ?_)
  · obtain ⟨x, dx, n, rfl, _⟩ := h
    rfl
  · obtain ⟨x, dx, n, rfl, hx, hn, q⟩ := h
    refine ⟨_, (pss_cons (ps_fldK K (pv 0) (pe_op op_rep (pe_lst (pa_cons pe_int pa_nil)) (pv 1)) rfl)
      (pss_cons (ps_fldK K (pv 0) pe_non rfl)
      (pss_one (ps_fldK K (pv 0) pe_bl rfl)))), ?_⟩
    walk_at "rd"
    refine rdSeq ?_
    walk_at "rd"
    intro p hp
    have xp : x ≠ p := ne_of_none hx hp
    refine i_rep upd_same (by omega) (by omega) (by show 1 * _ ≤ _; rw [sizeLine_eq]; omega) fun l hl => ?_
    have xl : x ≠ l := ne_of_none (same_new hp _ _ hx) hl
    have hx2 : upd (upd H p (.lst [.int 0])) l (.lst (List.replicate ((n : Int)).toNat [V.int 0]).flatten) x = some (.ins T.c_Cells dx []) := same_new hl _ _ (same_new hp _ _ hx)
    refine i_fldS T.cl_Cells T.nf_Cells_words hx2 (by decide) (rdSeq ?_)
    walk_at "rd"
    refine i_fldS T.cl_Cells T.nf_Cells_left upd_same (by show 1 < 1000; decide) ?_
    refine i_fldS T.cl_Cells T.nf_Cells_on upd_same (by show 2 < 1000; decide) ?_
    rw [upd_upd, upd_upd]
    refine q _ l ⟨⟨dx, by rw [upd_same]; rfl⟩, ?_, by show (List.replicate n (0 : Int)).length ≤ 1000; rw [List.length_replicate]; exact hn⟩ ?_ ?_
    · rw [upd_ne (Ne.symm xl), upd_same, rep1, List.map_replicate]; rfl
    · exact (same_new hp).free hl
    · intro b o hb e
      rw [upd_ne (by simpa using hb)]
      exact same_new hl _ _ (same_new hp _ _ e)
def sp_Cells_read {K : PySem.W.Frag} {mg : Str → Option Value} (T : Txt K mg) : Sp := fun vs H Q E => ∃ (a l : Addr) (S : CS) (i : Nat), vs = [.ref a, .int i] ∧ CellsAt T.c_Cells H a l S ∧ i < S.words.length ∧
  (S.on = true → Q (.int (S.words.getD i 0)) H) ∧ (S.on = false → E (.ref T.c_PowerCut) none H)
theorem ok_Cells_read (T : Txt K mg) : FnOk P w K mg base (L2.CX P w) 1 T.f_Cells_read T.d_Cells_read ["self", "place"] (sp_Cells_read T) := by
  refine T.k_Cells_read.okX sc_Cells_read (fun vs H Q E h => ?_) (fun cdv A outer s H vs Q E hr h => ?_)
  · obtain ⟨a, l, S, i, rfl, _⟩ := h
    rfl
  · obtain ⟨a, l, S, i, rfl, c, hi, q1, q2⟩ := h
    refine ⟨_, (pss_cons (ps_if (pt_not (pt_val (pe_fldK K (pv 0) rfl))) (pss_one (ps_raise rfl (takes_of rfl rfl rfl rfl) (pmk_own0 PySem.F.excBase_ValueError T.x_PowerCut.x T.g_PowerCut T.x_PowerCut.kp (raises_own T.x_PowerCut.be T.x_PowerCut.ty) (by exact rfl)))) pss_nil)
      (pss_one (ps_ret (pe_ix (ix_listK K) (pe_fldK K (pv 0) rfl) (pv 1) (fun _ _ => rfl))))), ?_⟩
    walk_at "rd"
    refine rdSeq ?_
    walk_at "rd"
    obtain ⟨dx, h⟩ := c.ob
    refine i_fld T.cl_Cells T.nf_Cells_on h rfl ?_
    walk_at "rd"
    cases e : S.on with
    | false => exact q2 e
    | true =>
      refine i_else (by simp) (i_fld T.cl_Cells T.nf_Cells_words h rfl ?_)
      refine i_ixL (sqL_of c.ws) (atI_nat (j := i) (v := .int (S.words.getD i 0)) ?_) (q1 e)
      rw [List.getElem?_map, List.getElem?_eq_getElem hi, List.getD_eq_getElem?_getD, List.getElem?_eq_getElem hi]; rfl
def writeS (S : CS) (i : Nat) (w : Int) : CS × Bool :=
  if S.on = false then (S, false) else if S.left = some 0 then (⟨S.words, S.left, false⟩, false) else (⟨S.words.set i w, S.left.map (· - 1), true⟩, true)
def sp_Cells_write {K : PySem.W.Frag} {mg : Str → Option Value} (T : Txt K mg) : Sp := fun vs H Q E => ∃ (a l : Addr) (S : CS) (i : Nat) (w : Int), vs = [.ref a, .int i, .int w] ∧ CellsAt T.c_Cells H a l S ∧ i < S.words.length ∧
  ∀ H', CellsAt T.c_Cells H' a l (writeS S i w).1 → Kp [a, l] H H' → ((writeS S i w).2 = true → Q .non H') ∧ ((writeS S i w).2 = false → E (.ref T.c_PowerCut) none H')
theorem ok_Cells_write (T : Txt K mg) : FnOk P w K mg base (L2.CX P w) 1 T.f_Cells_write T.d_Cells_write ["self", "place", "word"] (sp_Cells_write T) := by
  refine T.k_Cells_write.okX sc_Cells_write (fun vs H Q E h => ?_) (fun cdv A outer s H vs Q E hr h => ?_)
  · obtain ⟨a, l, S, i, w, rfl, _⟩ := h
    rfl
  · obtain ⟨a, l, S, i, w, rfl, c, hi, q⟩ := h
    refine ⟨_, (pss_cons (ps_if (pt_not (pt_val (pe_fldK K (pv 0) rfl))) (pss_one (ps_raise rfl (takes_of rfl rfl rfl rfl) (pmk_own0 PySem.F.excBase_ValueError T.x_PowerCut.x T.g_PowerCut T.x_PowerCut.kp (raises_own T.x_PowerCut.be T.x_PowerCut.ty) (by exact rfl)))) pss_nil)
      (pss_cons (ps_if (pt_cmpR op_eq (pe_fldK K (pv 0) rfl) pe_int (nomark _)) (pss_cons (ps_fldK K (pv 0) pe_bl rfl)
      (pss_one (ps_raise rfl (takes_of rfl rfl rfl rfl) (pmk_own0 PySem.F.excBase_ValueError T.x_PowerCut.x T.g_PowerCut T.x_PowerCut.kp (raises_own T.x_PowerCut.be T.x_PowerCut.ty) (by exact rfl))))) pss_nil)
      (C8.pss_cut (ps_if (pt_cmpR op_notN (pe_fldK K (pv 0) rfl) pe_non (nomark _)) (pss_one (ps_fldaugK K (pv 0) pe_int in_sub)) pss_nil)
      (pss_one (ps_asg (pv 2) (pg_sub (pe_fldK K (pv 0) rfl) (pv 1) set_list)))))), ?_⟩
    walk_at "rd"
    refine rdSeq ?_
    walk_at "rd"
    obtain ⟨dx, h⟩ := c.ob
    refine i_fld T.cl_Cells T.nf_Cells_on h rfl ?_
    walk_at "rd"
    have hne := c.ne
    cases e : S.on with
    | false =>
      have ew : writeS S i w = (S, false) := by unfold writeS; rw [if_pos e]
      rw [ew] at q
      exact (q H c (Kp.refl _ _)).2 rfl
    | true =>
      refine i_else (by simp) (rdSeq ?_)
      walk_at "rd"
      refine i_fld T.cl_Cells T.nf_Cells_left h rfl ?_
      have fin : ∀ (dx : Addr) (lv : Option Int) (H1 : Hp), S.left ≠ some 0 → lv = S.left.map (· - 1) → Kp [a, l] H H1 → H1 a = some (.ins T.c_Cells dx (cf l (lfV lv) true)) → H1 l = some (.lst (S.words.map V.int)) →
          tAsg (tVar 2) (gSub (tFld K (tVar 0) (Str.ofString "_words")) (tVar 1) rSetL) { nx := fun x H' => Q V.non H', rt := Q } [some (V.ref a), some (V.int (i : Int)), some (V.int w)] H1 := fun dx lv H1 n0 el kp ha hl => by
        walk_at "rd"
        refine i_fld T.cl_Cells T.nf_Cells_words ha rfl ?_
        refine i_setL hl (j := i) (by rw [List.length_map]; unfold ixN; rw [if_pos (by omega), if_pos (by omega)]; simp) ?_
        have ew : writeS S i w = (⟨S.words.set i w, S.left.map (· - 1), true⟩, true) := by unfold writeS; rw [if_neg (by rw [e]; simp), if_neg n0]
        rw [ew] at q
        refine (q _ ⟨⟨dx, ?_⟩, ?_, by show (S.words.set i w).length ≤ 1000; rw [List.length_set]; exact c.sz⟩ (kp.trans (Kp.set (by simp)))).1 rfl
        · rw [upd_ne hne, ha, el]
        · rw [upd_same, List.map_set]
      cases el : S.left with
      | none =>
        rw [el] at h
        simp only [lfV]
        walk_at "rd"
        refine rdCut (fun σ H1 => H1 = H ∧ σ = [some (V.ref a), some (V.int (i : Int)), some (V.int w)]) ?_ ?_
        · walk_at "rd"
          refine i_fld T.cl_Cells T.nf_Cells_left h rfl ?_
          simp only [lfV]
          walk_at "rd"
        · rintro σ H1 ⟨rfl, rfl⟩
          exact fin dx none _ (by rw [el]; simp) (by rw [el]; rfl) (Kp.refl _ _) (by rw [e] at h; exact h) c.ws
      | some z =>
        rw [el] at h
        simp only [lfV]
        walk_at "rd"
        by_cases hz : z = 0
        · subst hz
          refine i_then rfl (rdSeq ?_)
          walk_at "rd"
          refine i_fldS T.cl_Cells T.nf_Cells_on h (by show 3 < 1000; decide) ?_
          have ew : writeS S i w = (⟨S.words, S.left, false⟩, false) := by unfold writeS; rw [if_neg (by rw [e]; simp), if_pos el]
          rw [ew] at q
          exact (q _ ⟨⟨dx, by rw [upd_same, el]; rfl⟩, by rw [upd_ne (Ne.symm hne)]; exact c.ws, c.sz⟩ (Kp.set (by simp))).2 rfl
        · refine i_else hz (rdCut (fun σ H1 => (∃ dx, H1 a = some (.ins T.c_Cells dx (cf l (lfV (some (z - 1))) true))) ∧ H1 l = some (.lst (S.words.map V.int)) ∧ Kp [a, l] H H1 ∧ σ = [some (V.ref a), some (V.int (i : Int)), some (V.int w)]) ?_ ?_)
          · walk_at "rd"
            refine i_fld T.cl_Cells T.nf_Cells_left h rfl ?_
            simp only [lfV]
            walk_at "rd"
            rw [e] at h
            refine i_fldA T.cl_Cells T.nf_Cells_left h rfl ⟨z, 1, rfl, rfl, dx, _, h, by show 3 < 1000; decide, ⟨dx, by rw [upd_same]; rfl⟩, by rw [upd_ne (Ne.symm hne)]; exact c.ws, Kp.set (by simp)⟩
          · rintro σ H1 ⟨⟨dx', h1⟩, h2, h3, rfl⟩
            exact fin dx' (some (z - 1)) _ (by rw [el]; simpa using hz) (by rw [el]; rfl) h3 h1 h2

def sp_Cells_cut {K : PySem.W.Frag} {mg : Str → Option Value} (T : Txt K mg) : Sp := fun vs H Q _ => ∃ (a l : Addr) (S : CS) (n : Int), vs = [.ref a, .int n] ∧ CellsAt T.c_Cells H a l S ∧ ∀ H', CellsAt T.c_Cells H' a l ⟨S.words, some n, S.on⟩ → Kp [a, l] H H' → Q .non H'
theorem ok_Cells_cut (T : Txt K mg) : FnOk P w K mg base CX0 1 T.f_Cells_cut T.d_Cells_cut ["self", "writes"] (sp_Cells_cut T) := by
  refine T.k_Cells_cut.ok sc_Cells_cut (fun vs H Q E h => ?_) (fun cdv A outer s H vs Q E hr h => ?_)
  · obtain ⟨a, l, S, n, rfl, _⟩ := h
    rfl
  · obtain ⟨a, l, S, n, rfl, c, q⟩ := h
    refine ⟨_, (pss_one (ps_fldK K (pv 0) (pv 1) rfl)), ?_⟩
    walk_at "rd"
    obtain ⟨dx, h⟩ := c.ob
    refine i_fldS T.cl_Cells T.nf_Cells_left h (by show 3 < 1000; decide) ?_
    exact q _ ⟨⟨dx, by rw [upd_same]; rfl⟩, by rw [upd_ne (Ne.symm c.ne)]; exact c.ws, c.sz⟩ (Kp.set (by simp))
def sp_Cells_restore {K : PySem.W.Frag} {mg : Str → Option Value} (T : Txt K mg) : Sp := fun vs H Q _ => ∃ (a l : Addr) (S : CS), vs = [.ref a] ∧ CellsAt T.c_Cells H a l S ∧ ∀ H', CellsAt T.c_Cells H' a l ⟨S.words, none, true⟩ → Kp [a, l] H H' → Q .non H'
theorem ok_Cells_restore (T : Txt K mg) : FnOk P w K mg base CX0 1 T.f_Cells_restore T.d_Cells_restore ["self"] (sp_Cells_restore T) := by
  refine T.k_Cells_restore.ok sc_Cells_restore (fun vs H Q E h => ?_) (fun cdv A outer s H vs Q E hr h => ?_)
  · obtain ⟨a, l, S, rfl, _⟩ := h
    rfl
  · obtain ⟨a, l, S, rfl, c, q⟩ := h
    refine ⟨_, (pss_cons (ps_fldK K (pv 0) pe_non rfl)
      (pss_one (ps_fldK K (pv 0) pe_bl rfl))), ?_⟩
    walk_at "rd"
    refine rdSeq ?_
    walk_at "rd"
    obtain ⟨dx, h⟩ := c.ob
    refine i_fldS T.cl_Cells T.nf_Cells_left h (by show 3 < 1000; decide) ?_
    refine i_fldS T.cl_Cells T.nf_Cells_on upd_same (by show 3 < 1000; decide) ?_
    rw [upd_upd]
    exact q _ ⟨⟨dx, by rw [upd_same]; rfl⟩, by rw [upd_ne (Ne.symm c.ne)]; exact c.ws, c.sz⟩ (Kp.set (by simp))

/-! ### journal.py -/
inductive Out where
  | ok
  | cut
  | fault
def seqS (r : CS × Out) (k : CS → CS × Out) : CS × Out := match r.2 with
  | .ok => k r.1
  | _ => r
def wS (S : CS) (i : Nat) (w : Int) : CS × Out := ((writeS S i w).1, if (writeS S i w).2 = true then .ok else .cut)
def rdS (S : CS) (i : Nat) (k : Int → CS × Out) : CS × Out := if S.on = true then k (S.words.getD i 0) else (S, .cut)
theorem writeS_len {S : CS} {i : Nat} {w : Int} : (writeS S i w).1.words.length = S.words.length := by
  unfold writeS
  split
  · rfl
  · split
    · rfl
    · exact List.length_set
theorem writeS_on {S : CS} {i : Nat} {w : Int} (h : (writeS S i w).2 = true) : (writeS S i w).1.words = S.words.set i w ∧ (writeS S i w).1.on = true ∧ S.on = true := by
  unfold writeS at h ⊢
  split
  · rename_i e; rw [if_pos e] at h; cases h
  · rename_i e
    rw [if_neg e] at h
    split
    · rename_i e2; rw [if_pos e2] at h; cases h
    · exact ⟨rfl, rfl, by simpa using e⟩
/-- a Journal stands at j, over the cells at c -/
def jf (c : Addr) (st : Nat) (b : Bool) : List (Str × V) := [("_cells", .ref c), ("_start", .int st), ("_open", .bl b)]
def JrnAt (C : Addr) (H : Hp) (j c : Addr) (st : Nat) (b : Bool) : Prop := ∃ dx, H j = some (.ins C dx (jf c st b))
theorem jrn_ne_cells {H : Hp} {C D j c dj dx c' l : Addr} {st : Nat} {b o : Bool} {lv : V} (h1 : H j = some (.ins C dj (jf c' st b))) (h2 : H c = some (.ins D dx (cf l lv o))) : j ≠ c := fun e => by
  subst e
  rw [h2] at h1
  injection h1 with h1
  injection h1 with _ _ h1
  exact absurd (congrArg (List.map Prod.fst) h1) (by show ¬ (([("_words" : Str), "_left", "_on"] : List Str) = [("_cells" : Str), "_start", "_open"]); decide)
theorem JrnAt.keep {C : Addr} {H H' : Hp} {j c : Addr} {st : Nat} {b : Bool} {X : List Addr} (h : JrnAt C H j c st b) (k : Kp X H H') (n : j ∉ X) : JrnAt C H' j c st b := by
  obtain ⟨dx, h⟩ := h
  exact ⟨dx, k _ _ n h⟩
theorem seq_ok {S : CS} {i : Nat} {w : Int} {k : CS → CS × Out} (e : (writeS S i w).2 = true) : seqS (wS S i w) k = k (writeS S i w).1 := by
  unfold seqS wS
  rw [if_pos e]
theorem seq_cut {S : CS} {i : Nat} {w : Int} {k : CS → CS × Out} (e : (writeS S i w).2 = false) : seqS (wS S i w) k = ((writeS S i w).1, .cut) := by
  unfold seqS wS
  rw [if_neg (by rw [e]; exact Bool.false_ne_true)]
theorem wS_ok {S : CS} {i : Nat} {w : Int} (e : (writeS S i w).2 = true) : wS S i w = ((writeS S i w).1, .ok) := by
  unfold wS
  rw [if_pos e]
theorem wS_cut {S : CS} {i : Nat} {w : Int} (e : (writeS S i w).2 = false) : wS S i w = ((writeS S i w).1, .cut) := by
  unfold wS
  rw [if_neg (by rw [e]; exact Bool.false_ne_true)]
theorem rdS_on {S : CS} {i : Nat} {k : Int → CS × Out} (e : S.on = true) : rdS S i k = k (S.words.getD i 0) := if_pos e
theorem rdS_off {S : CS} {i : Nat} {k : Int → CS × Out} (e : S.on = false) : rdS S i k = (S, .cut) := if_neg (by rw [e]; exact Bool.false_ne_true)
def sp_Fault_init {K : PySem.W.Frag} {mg : Str → Option Value} (T : Txt K mg) : Sp := spX1 T.c_Fault "code"
theorem ok_Fault_init (T : Txt K mg) : FnOk P w K mg base CX0 1 T.f_Fault_init T.d_Fault_init ["self", "code"] (sp_Fault_init T) := by
  refine T.k_Fault_init.ok sc_Fault_init (fun vs H Q E h => ?_) (fun cdv A outer s H vs Q E hr h => ?_)
  · obtain ⟨a, v, rfl, _⟩ := h
    rfl
  · obtain ⟨a, v, rfl, ha, q⟩ := h
    refine ⟨_, (pss_one (ps_ost (pv 0) (pv 1) rfl)), ?_⟩
    walk_at "rd"
    exact i_ost T.ox_Fault T.on_Fault_code ha q
def sp_Journal_init {K : PySem.W.Frag} {mg : Str → Option Value} (T : Txt K mg) : Sp := fun vs H Q _ => ∃ (x dx c : Addr) (st : Nat), vs = [.ref x, .ref c, .int st] ∧ H x = some (.ins T.c_Journal dx []) ∧ ∀ H', JrnAt T.c_Journal H' x c st false → Kp [x] H H' → Q .non H'
theorem ok_Journal_init (T : Txt K mg) : FnOk P w K mg base CX0 1 T.f_Journal_init T.d_Journal_init ["self", "cells", "start"] (sp_Journal_init T) := by
  refine T.k_Journal_init.ok sc_Journal_init (fun vs H Q E h => ?_) (fun cdv A outer s H vs Q E hr h => ?_)
  · obtain ⟨x, dx, c, st, rfl, _⟩ := h
    rfl
  · obtain ⟨x, dx, c, st, rfl, hx, q⟩ := h
    refine ⟨_, (pss_cons (ps_fldK K (pv 0) (pv 1) rfl)
      (pss_cons (ps_fldK K (pv 0) (pv 2) rfl)
      (pss_one (ps_fldK K (pv 0) pe_bl rfl)))), ?_⟩
    walk_at "rd"
    refine rdSeq ?_
    walk_at "rd"
    refine i_fldS T.cl_Journal T.nf_Journal_cells hx (by decide) (rdSeq ?_)
    walk_at "rd"
    refine i_fldS T.cl_Journal T.nf_Journal_start upd_same (by show 1 < 1000; decide) ?_
    refine i_fldS T.cl_Journal T.nf_Journal_open upd_same (by show 2 < 1000; decide) ?_
    rw [upd_upd, upd_upd]
    exact q _ ⟨dx, by rw [upd_same]; rfl⟩ (Kp.set (by simp))
def jchange (st : Nat) (b : Bool) (S : CS) (p : Nat) (w : Int) : CS × Out :=
  if b = true then rdS S st fun n => if n = 40 then (S, .fault) else seqS (wS S (st + 1 + 2 * n.toNat) p) fun S1 => seqS (wS S1 (st + 2 + 2 * n.toNat) (S1.words.getD p 0)) fun S2 => seqS (wS S2 st (n + 1)) fun S3 => wS S3 p w
  else wS S p w
def CntOk (st : Nat) (S : CS) : Prop := st + 80 < S.words.length ∧ 0 ≤ S.words.getD st 0 ∧ S.words.getD st 0 ≤ 40
def tellE {K : PySem.W.Frag} {mg : Str → Option Value} (T : Txt K mg) (Q : VK) (E : XK) (o : Out) (H' : Hp) : Prop := match o with
  | .ok => Q .non H'
  | .cut => E (.ref T.c_PowerCut) none H'
  | .fault => ∀ dx, H' dx = none → E (.ref T.c_Fault) (some dx) (upd H' dx (.xd [("code", .int (-8))]))
def sp_Journal_change {K : PySem.W.Frag} {mg : Str → Option Value} (T : Txt K mg) : Sp := fun vs H Q E => ∃ (j c l : Addr) (st : Nat) (b : Bool) (S : CS) (p : Nat) (w : Int), vs = [.ref j, .int p, .int w] ∧ JrnAt T.c_Journal H j c st b ∧ CellsAt T.c_Cells H c l S ∧ p < S.words.length ∧ (b = true → CntOk st S) ∧
  ∀ H', CellsAt T.c_Cells H' c l (jchange st b S p w).1 → Kp [c, l] H H' → tellE T Q E (jchange st b S p w).2 H'
theorem ok_Journal_change (T : Txt K mg) : FnOk P w K mg base (L2.CX P w) 3 T.f_Journal_change T.d_Journal_change ["self", "place", "word"] (sp_Journal_change T) := by
  refine T.k_Journal_change.okX sc_Journal_change (fun vs H Q E h => ?_) (fun cdv A outer s H vs Q E hr h => ?_)
  · obtain ⟨j, c, l, st, b, S, p, w, rfl, _⟩ := h
    rfl
  · obtain ⟨j, c, l, st, b, S, p, w, rfl, hj, hc, hp, hcn, q⟩ := h
    refine ⟨_, (C8.pss_cut (ps_if (pt_val (pe_fldK K (pv 0) rfl)) (pss_cons (ps_set (i := 3) sc_Journal_change.nd rfl (.inl rfl) (pe_methS (pe_fldK K (pv 0) rfl) T.cl_Cells T.me_Cells_read (ok_Cells_read T) (hr.mono (by decide)) T.b_Cells_read (fun σ => passAt (takes_of rfl rfl rfl rfl) σ) (pa_cons (pe_fldK K (pv 0) rfl) pa_nil)))
      (pss_cons (ps_if (pt_cmpR op_eq (pv 3) (pe_glob (v := .int _) rfl T.g_MOST_LOG ⟨_, rfl⟩) (nomark _)) (pss_one (ps_raise rfl (takes_of rfl rfl rfl rfl) (pmk_oex T.ox_Fault T.in_Fault T.ti_Fault (ok_Fault_init T) (hr.mono (by decide)) T.b_Fault_init .nil pass0 rfl T.g_Fault (pa_cons (pe_glob (v := .int _) rfl T.g_TRANSACTION ⟨_, rfl⟩) pa_nil)))) pss_nil)
      (pss_cons (ps_set (i := 4) sc_Journal_change.nd rfl (.inl rfl) (pe_op op_add (pe_op op_add (pe_fldK K (pv 0) rfl) pe_int) (pe_op op_mul pe_int (pv 3))))
      (pss_cons (ps_expr (pe_methS (pe_fldK K (pv 0) rfl) T.cl_Cells T.me_Cells_write (ok_Cells_write T) (hr.mono (by decide)) T.b_Cells_write (fun σ => passAt (takes_of rfl rfl rfl rfl) σ) (pa_cons (pv 4) (pa_cons (pv 1) pa_nil))))
      (pss_cons (ps_expr (pe_methS (pe_fldK K (pv 0) rfl) T.cl_Cells T.me_Cells_write (ok_Cells_write T) (hr.mono (by decide)) T.b_Cells_write (fun σ => passAt (takes_of rfl rfl rfl rfl) σ) (pa_cons (pe_op op_add (pv 4) pe_int) (pa_cons (pe_methS (pe_fldK K (pv 0) rfl) T.cl_Cells T.me_Cells_read (ok_Cells_read T) (hr.mono (by decide)) T.b_Cells_read (fun σ => passAt (takes_of rfl rfl rfl rfl) σ) (pa_cons (pv 1) pa_nil)) pa_nil))))
      (pss_one (ps_expr (pe_methS (pe_fldK K (pv 0) rfl) T.cl_Cells T.me_Cells_write (ok_Cells_write T) (hr.mono (by decide)) T.b_Cells_write (fun σ => passAt (takes_of rfl rfl rfl rfl) σ) (pa_cons (pe_fldK K (pv 0) rfl) (pa_cons (pe_op op_add (pv 3) pe_int) pa_nil)))))))))) pss_nil)
      (pss_one (ps_expr (pe_methS (pe_fldK K (pv 0) rfl) T.cl_Cells T.me_Cells_write (ok_Cells_write T) (hr.mono (by decide)) T.b_Cells_write (fun σ => passAt (takes_of rfl rfl rfl rfl) σ) (pa_cons (pv 1) (pa_cons (pv 2) pa_nil)))))), ?_⟩
    walk_at "rd"
    obtain ⟨dj, hjo⟩ := hj
    obtain ⟨dx, ho⟩ := hc.ob
    have njc : j ≠ c := jrn_ne_cells hjo ho
    have njl : j ≠ l := ne_of hjo hc.ws (by intro z; cases z)
    have nk : j ∉ [c, l] := by simp [njc, njl]
    have last : ∀ (x3 x4 : Option V) (S1 : CS) (H1 : Hp), JrnAt T.c_Journal H1 j c st b → CellsAt T.c_Cells H1 c l S1 → p < S1.words.length → (∀ H', CellsAt T.c_Cells H' c l (wS S1 p w).1 → Kp [c, l] H1 H' → tellE T Q E (wS S1 p w).2 H') →
        tDrop (tMethS T.c_Cells (Str.ofString "write") (sp_Cells_write T) (fun σ => WE (fun cls d x H => E cls d H) σ) (tFld K (tVar 0) (Str.ofString "_cells")) (tCons (tVar 1) (tCons (tVar 2) tNil)))
          { nx := fun x H' => Q V.non H', rt := Q } [some (V.ref j), some (V.int (p : Int)), some (V.int w), x3, x4] H1 := fun x3 x4 S1 H1 hj1 hc1 hp1 q1 => by
      obtain ⟨dj, hjo⟩ := hj1
      obtain ⟨dx, ho⟩ := hc1.ob
      walk_at "rd"
      refine i_fld T.cl_Journal T.nf_Journal_cells hjo rfl (i_meth ho rfl ?_)
      refine ⟨c, l, S1, p, w, rfl, hc1, hp1, fun H' hc' kp => ⟨fun e => ?_, fun e => ?_⟩⟩
      · have := q1 H'
        rw [wS_ok e] at this
        exact this hc' kp
      · have := q1 H'
        rw [wS_cut e] at this
        exact this hc' kp
    cases b with
    | false =>
      refine rdCut (fun σ H1 => H1 = H ∧ σ = [some (V.ref j), some (V.int (p : Int)), some (V.int w), none, none]) ?_ ?_
      · walk_at "rd"
        refine i_fld T.cl_Journal T.nf_Journal_open hjo rfl ?_
        walk_at "rd"
      · rintro σ H1 ⟨rfl, rfl⟩
        exact last _ _ S H1 ⟨dj, hjo⟩ hc hp q
    | true =>
      obtain ⟨hz, h0, h40⟩ := hcn rfl
      obtain ⟨m, hm⟩ : ∃ m : Nat, S.words.getD st 0 = (m : Int) := ⟨(S.words.getD st 0).toNat, by omega⟩
      have q' : ∀ H', CellsAt T.c_Cells H' c l (rdS S st fun n => if n = 40 then (S, .fault) else seqS (wS S (st + 1 + 2 * n.toNat) p) fun S1 => seqS (wS S1 (st + 2 + 2 * n.toNat) (S1.words.getD p 0)) fun S2 => seqS (wS S2 st (n + 1)) fun S3 => wS S3 p w).1 → Kp [c, l] H H' →
          tellE T Q E (rdS S st fun n => if n = 40 then (S, .fault) else seqS (wS S (st + 1 + 2 * n.toNat) p) fun S1 => seqS (wS S1 (st + 2 + 2 * n.toNat) (S1.words.getD p 0)) fun S2 => seqS (wS S2 st (n + 1)) fun S3 => wS S3 p w).2 H' := q
      cases eo : S.on with
      | false =>
        rw [rdS_off eo] at q'
        refine rdCut (fun σ H1 => False) ?_ (fun _ _ h => h.elim)
        walk_at "rd"
        refine i_fld T.cl_Journal T.nf_Journal_open hjo rfl ?_
        walk_at "rd"
        refine rdSeq ?_
        walk_at "rd"
        refine i_fld T.cl_Journal T.nf_Journal_cells hjo rfl (i_meth ho rfl (i_fld T.cl_Journal T.nf_Journal_start hjo rfl ?_))
        exact ⟨c, l, S, st, rfl, hc, by omega, (fun e => by rw [eo] at e; cases e), fun _ => q' H hc (Kp.refl _ _)⟩
      | true =>
        rw [rdS_on eo, hm] at q'
        simp only [Int.toNat_natCast] at q'
        refine rdCut (fun σ H1 => ∃ S3 x3 x4, CellsAt T.c_Cells H1 c l S3 ∧ Kp [c, l] H H1 ∧ p < S3.words.length ∧ (∀ H', CellsAt T.c_Cells H' c l (wS S3 p w).1 → Kp [c, l] H1 H' → tellE T Q E (wS S3 p w).2 H') ∧ σ = [some (V.ref j), some (V.int (p : Int)), some (V.int w), x3, x4]) ?_ ?_
        · walk_at "rd"
          refine i_fld T.cl_Journal T.nf_Journal_open hjo rfl ?_
          walk_at "rd"
          refine rdSeq ?_
          walk_at "rd"
          refine i_fld T.cl_Journal T.nf_Journal_cells hjo rfl (i_meth ho rfl (i_fld T.cl_Journal T.nf_Journal_start hjo rfl ?_))
          refine ⟨c, l, S, st, rfl, hc, by omega, fun _ => ?_, fun e => by rw [eo] at e; cases e⟩
          rw [hm]
          refine rdSeq ?_
          walk_at "rd"
          refine ite2 (fun e40 => ?_) (fun e40 => rdSeq ?_)
          · rw [if_pos e40] at q'
            exact i_mkO1 (q' H hc (Kp.refl _ _))
          · rw [if_neg e40] at q'
            walk_at "rd"
            refine i_fld T.cl_Journal T.nf_Journal_start hjo rfl ?_
            walk_at "rd"
            refine ⟨cm_l (by decide), rdSeq ?_⟩
            walk_at "rd"
            refine i_fld T.cl_Journal T.nf_Journal_cells hjo rfl (i_meth ho rfl ?_)
            refine ⟨c, l, S, st + 1 + 2 * m, p, rfl, hc, by omega, fun H1 hc1 kp1 => ⟨fun e1 => ?_, fun e1 => ?_⟩⟩
            rotate_left
            · rw [seq_cut e1] at q'
              exact q' H1 hc1 kp1
            rw [seq_ok e1] at q'
            have hjo1 := kp1 _ _ nk hjo
            obtain ⟨dx1, ho1⟩ := hc1.ob
            have len1 := writeS_len (S := S) (i := st + 1 + 2 * m) (w := p)
            have on1 := (writeS_on e1).2.1
            generalize (writeS S (st + 1 + 2 * m) p).1 = S1 at q' hc1 len1 on1 ho1
            refine rdSeq ?_
            walk_at "rd"
            refine i_fld T.cl_Journal T.nf_Journal_cells hjo1 rfl (i_meth ho1 rfl (i_fld T.cl_Journal T.nf_Journal_cells hjo1 rfl (i_meth ho1 rfl ?_)))
            refine ⟨c, l, S1, p, rfl, hc1, by omega, fun _ => ?_, fun e => by rw [on1] at e; cases e⟩
            refine ⟨c, l, S1, st + 2 + 2 * m, S1.words.getD p 0, ?_, hc1, by omega, fun H2 hc2 kp2 => ⟨fun e2 => ?_, fun e2 => ?_⟩⟩
            · rw [show ((st + 2 + 2 * m : Nat) : Int) = (st : Int) + 1 + 2 * m + 1 by omega]
            rotate_left
            · rw [seq_cut e2] at q'
              exact q' H2 hc2 (kp1.trans kp2)
            rw [seq_ok e2] at q'
            have hjo2 := kp2 _ _ nk hjo1
            obtain ⟨dx2, ho2⟩ := hc2.ob
            have len2 := writeS_len (S := S1) (i := st + 2 + 2 * m) (w := S1.words.getD p 0)
            generalize (writeS S1 (st + 2 + 2 * m) (S1.words.getD p 0)).1 = S2 at q' hc2 len2 ho2
            walk_at "rd"
            refine i_fld T.cl_Journal T.nf_Journal_cells hjo2 rfl (i_meth ho2 rfl (i_fld T.cl_Journal T.nf_Journal_start hjo2 rfl ?_))
            refine ⟨c, l, S2, st, m + 1, rfl, hc2, by omega, fun H3 hc3 kp3 => ⟨fun e3 => ?_, fun e3 => ?_⟩⟩
            rotate_left
            · rw [seq_cut e3] at q'
              exact q' H3 hc3 (kp1.trans (kp2.trans kp3))
            rw [seq_ok e3] at q'
            have len3 := writeS_len (S := S2) (i := st) (w := m + 1)
            generalize (writeS S2 st (m + 1)).1 = S3 at q' hc3 len3
            exact ⟨S3, hc3, kp1.trans (kp2.trans kp3), by omega, fun H' h' k' => q' H' h' (kp1.trans (kp2.trans (kp3.trans k')))⟩
        · rintro σ H1 ⟨S3, x3, x4, hc3, kp3, hp3, q3, rfl⟩
          exact last _ _ S3 H1 (JrnAt.keep ⟨dj, hjo⟩ kp3 nk) hc3 hp3 q3
def lOut (o : Out) : Bool := match o with
  | .ok => true
  | _ => false
def jforget (st : Nat) (S : CS) : CS × Out := rdS S st fun n => if n ≠ 0 then wS S st 0 else (S, .ok)
/-- the journal after it: closed where all went well -/
def tellJ {K : PySem.W.Frag} {mg : Str → Option Value} (T : Txt K mg) (j c : Addr) (st : Nat) (b : Bool) (Q : VK) (E : XK) (o : Out) (H' : Hp) : Prop := match o with
  | .ok => JrnAt T.c_Journal H' j c st false → Q .non H'
  | .cut => JrnAt T.c_Journal H' j c st b → E (.ref T.c_PowerCut) none H'
  | .fault => JrnAt T.c_Journal H' j c st b → ∀ dx, H' dx = none → E (.ref T.c_Fault) (some dx) (upd H' dx (.xd [("code", .int (-8))]))
def sp_Journal__forget {K : PySem.W.Frag} {mg : Str → Option Value} (T : Txt K mg) : Sp := fun vs H Q E => ∃ (j c l : Addr) (st : Nat) (b : Bool) (S : CS), vs = [.ref j] ∧ JrnAt T.c_Journal H j c st b ∧ CellsAt T.c_Cells H c l S ∧ st < S.words.length ∧
  ∀ H', CellsAt T.c_Cells H' c l (jforget st S).1 → Kp [c, l, j] H H' → tellJ T j c st b Q E (jforget st S).2 H'
theorem ok_Journal__forget (T : Txt K mg) : FnOk P w K mg base (L2.CX P w) 2 T.f_Journal__forget T.d_Journal__forget ["self"] (sp_Journal__forget T) := by
  refine T.k_Journal__forget.okX sc_Journal__forget (fun vs H Q E h => ?_) (fun cdv A outer s H vs Q E hr h => ?_)
  · obtain ⟨j, c, l, st, b, S, rfl, _⟩ := h
    rfl
  · obtain ⟨j, c, l, st, b, S, rfl, hj, hc, hz, q⟩ := h
    refine ⟨_, (C8.pss_cut (ps_if (pt_cmpR op_ne (pe_methS (pe_fldK K (pv 0) rfl) T.cl_Cells T.me_Cells_read (ok_Cells_read T) (hr.mono (by decide)) T.b_Cells_read (fun σ => passAt (takes_of rfl rfl rfl rfl) σ) (pa_cons (pe_fldK K (pv 0) rfl) pa_nil)) pe_int (nomark _)) (pss_one (ps_expr (pe_methS (pe_fldK K (pv 0) rfl) T.cl_Cells T.me_Cells_write (ok_Cells_write T) (hr.mono (by decide)) T.b_Cells_write (fun σ => passAt (takes_of rfl rfl rfl rfl) σ) (pa_cons (pe_fldK K (pv 0) rfl) (pa_cons pe_int pa_nil))))) pss_nil)
      (pss_one (ps_fldK K (pv 0) pe_bl rfl))), ?_⟩
    obtain ⟨dj, hjo⟩ := hj
    obtain ⟨dx, ho⟩ := hc.ob
    have njc : j ≠ c := jrn_ne_cells hjo ho
    have njl : j ≠ l := ne_of hjo hc.ws (by intro z; cases z)
    have nk : j ∉ [c, l] := by simp [njc, njl]
    have fin : ∀ (H1 : Hp) (S1 : CS), CellsAt T.c_Cells H1 c l S1 → Kp [c, l] H H1 → jforget st S = (S1, .ok) → sFld K (tVar 0) (tC (V.bl false)) (Str.ofString "_open") { nx := fun x H' => Q V.non H', rt := Q } [some (V.ref j)] H1 := fun H1 S1 hc1 kp1 e => by
      have hjo1 := kp1 _ _ nk hjo
      walk_at "rd"
      refine i_fldS T.cl_Journal T.nf_Journal_open hjo1 (by show 3 < 1000; decide) ?_
      have q1 := q (upd H1 j (.ins T.c_Journal dj (jf c st false)))
      rw [e] at q1
      refine q1 (hc1.keep (Kp.set (X := [j]) (by simp)) (by simpa using Ne.symm njc) (by simpa using Ne.symm njl)) ((kp1.mono (by simp +contextual)).trans (Kp.set (by simp))) ⟨dj, by rw [upd_same]⟩
    have off : ∀ (H1 : Hp) (S1 : CS), CellsAt T.c_Cells H1 c l S1 → Kp [c, l] H H1 → jforget st S = (S1, .cut) → E (.ref T.c_PowerCut) none H1 := fun H1 S1 hc1 kp1 e => by
      have q1 := q H1
      rw [e] at q1
      exact q1 hc1 (kp1.mono (by simp +contextual)) ⟨dj, kp1 _ _ nk hjo⟩
    cases eo : S.on with
    | false =>
      refine rdCut (fun σ H1 => False) ?_ (fun _ _ h => h.elim)
      walk_at "rd"
      refine i_fld T.cl_Journal T.nf_Journal_cells hjo rfl (i_meth ho rfl (i_fld T.cl_Journal T.nf_Journal_start hjo rfl ?_))
      exact ⟨c, l, S, st, rfl, hc, hz, (fun e => by rw [eo] at e; cases e), fun _ => off H S hc (Kp.refl _ _) (rdS_off eo)⟩
    | true =>
      have ej : jforget st S = if S.words.getD st 0 ≠ 0 then wS S st 0 else (S, .ok) := rdS_on eo
      refine rdCut (fun σ H1 => ∃ S1, CellsAt T.c_Cells H1 c l S1 ∧ Kp [c, l] H H1 ∧ jforget st S = (S1, .ok) ∧ σ = [some (V.ref j)]) ?_ ?_
      · walk_at "rd"
        refine i_fld T.cl_Journal T.nf_Journal_cells hjo rfl (i_meth ho rfl (i_fld T.cl_Journal T.nf_Journal_start hjo rfl ?_))
        refine ⟨c, l, S, st, rfl, hc, hz, fun _ => ?_, fun e => by rw [eo] at e; cases e⟩
        walk_at "rd"
        by_cases hn : S.words.getD st 0 = 0
        · refine i_else (by rw [hn]; simp) ?_
          exact ⟨S, hc, Kp.refl _ _, by rw [ej, if_neg (by rw [hn]; simp)]⟩
        · refine i_then (by simpa using hn) (i_fld T.cl_Journal T.nf_Journal_cells hjo rfl (i_meth ho rfl (i_fld T.cl_Journal T.nf_Journal_start hjo rfl ?_)))
          rw [if_pos hn] at ej
          refine ⟨c, l, S, st, 0, rfl, hc, hz, fun H1 hc1 kp1 => ⟨fun e1 => ?_, fun e1 => ?_⟩⟩
          · exact ⟨_, hc1, kp1, by rw [ej, wS_ok e1]⟩
          · exact off H1 _ hc1 kp1 (by rw [ej, wS_cut e1])
      · rintro σ H1 ⟨S1, hc1, kp1, e, rfl⟩
        exact fin H1 S1 hc1 kp1 e
def jback (st : Nat) : Nat → CS → CS × Out
  | 0, S => (S, .ok)
  | k + 1, S => rdS S (st + 1 + 2 * k) fun p => rdS S (st + 2 + 2 * k) fun x => seqS (wS S p.toNat x) (jback st k)
def jputback (st : Nat) (S : CS) : CS × Out := rdS S st fun n => seqS (jback st n.toNat S) (jforget st)
/-- the log may be put back -/
structure LogOk (st : Nat) (S : CS) : Prop where
  sz : st + 80 < S.words.length
  lo : 0 ≤ S.words.getD st 0
  hi : S.words.getD st 0 ≤ 40
  en : ∀ k : Nat, (k : Int) < S.words.getD st 0 → (st : Int) + 80 < S.words.getD (st + 1 + 2 * k) 0 ∧ S.words.getD (st + 1 + 2 * k) 0 < S.words.length
theorem getD_set_ne {ws : List Int} {i k : Nat} {w : Int} (h : i ≠ k) : (ws.set i w).getD k 0 = ws.getD k 0 := by
  rw [List.getD_eq_getElem?_getD, List.getElem?_set_ne h, ← List.getD_eq_getElem?_getD]
theorem LogOk.far {st : Nat} {S S1 : CS} {p : Nat} {x : Int} (h : LogOk st S) (e : S1.words = S.words.set p x) (hp : st + 80 < p) : LogOk st S1 := by
  have e0 : S1.words.getD st 0 = S.words.getD st 0 := by rw [e, getD_set_ne (by omega)]
  have el : S1.words.length = S.words.length := by rw [e, List.length_set]
  have := h.hi
  refine ⟨by rw [el]; exact h.sz, by rw [e0]; exact h.lo, by rw [e0]; exact h.hi, fun k hk => ?_⟩
  rw [e0] at hk
  have ek : S1.words.getD (st + 1 + 2 * k) 0 = S.words.getD (st + 1 + 2 * k) 0 := by rw [e, getD_set_ne (by omega)]
  rw [ek, el]
  exact h.en k hk
def sp_Journal_put_back {K : PySem.W.Frag} {mg : Str → Option Value} (T : Txt K mg) : Sp := fun vs H Q E => ∃ (j c l : Addr) (st : Nat) (b : Bool) (S : CS), vs = [.ref j] ∧ JrnAt T.c_Journal H j c st b ∧ CellsAt T.c_Cells H c l S ∧ LogOk st S ∧
  ∀ H', CellsAt T.c_Cells H' c l (jputback st S).1 → Kp [c, l, j] H H' → tellJ T j c st b Q E (jputback st S).2 H'
theorem ok_Journal_put_back (T : Txt K mg) : FnOk P w K mg base (L2.CX P w) 3 T.f_Journal_put_back T.d_Journal_put_back ["self"] (sp_Journal_put_back T) := by
  refine T.k_Journal_put_back.okX sc_Journal_put_back (fun vs H Q E h => ?_) (fun cdv A outer s H vs Q E hr h => ?_)
  · obtain ⟨j, c, l, st, b, S, rfl, _⟩ := h
    rfl
  · obtain ⟨j, c, l, st, b, S, rfl, hj, hc, hL, q⟩ := h
    refine ⟨_, (pss_cons (ps_for (passes_of rfl) rfl (pi_revR (by rfl) T.m_reversed (prg_1 (by rfl) T.m_range (pe_methS (pe_fldK K (pv 0) rfl) T.cl_Cells T.me_Cells_read (ok_Cells_read T) (hr.mono (by decide)) T.b_Cells_read (fun σ => passAt (takes_of rfl rfl rfl rfl) σ) (pa_cons (pe_fldK K (pv 0) rfl) pa_nil)))) (pg_name (i := 1) sc_Journal_put_back.nd rfl (Or.inl rfl)) (pss_cons (ps_set (i := 2) sc_Journal_put_back.nd rfl (.inl rfl) (pe_op op_add (pe_op op_add (pe_fldK K (pv 0) rfl) pe_int) (pe_op op_mul pe_int (pv 1))))
      (pss_one (ps_expr (pe_methS (pe_fldK K (pv 0) rfl) T.cl_Cells T.me_Cells_write (ok_Cells_write T) (hr.mono (by decide)) T.b_Cells_write (fun σ => passAt (takes_of rfl rfl rfl rfl) σ) (pa_cons (pe_methS (pe_fldK K (pv 0) rfl) T.cl_Cells T.me_Cells_read (ok_Cells_read T) (hr.mono (by decide)) T.b_Cells_read (fun σ => passAt (takes_of rfl rfl rfl rfl) σ) (pa_cons (pv 2) pa_nil)) (pa_cons (pe_methS (pe_fldK K (pv 0) rfl) T.cl_Cells T.me_Cells_read (ok_Cells_read T) (hr.mono (by decide)) T.b_Cells_read (fun σ => passAt (takes_of rfl rfl rfl rfl) σ) (pa_cons (pe_op op_add (pv 2) pe_int) pa_nil)) pa_nil)))))))
      (pss_one (ps_expr (pe_meth0S (pv 0) T.cl_Journal T.me_Journal__forget (ok_Journal__forget T) (hr.mono (by decide)) T.b_Journal__forget (fun σ => passAt (takes_of rfl rfl rfl rfl) σ))))), ?_⟩
    obtain ⟨dj, hjo⟩ := hj
    obtain ⟨dx, ho⟩ := hc.ob
    have njc : j ≠ c := jrn_ne_cells hjo ho
    have njl : j ≠ l := ne_of hjo hc.ws (by intro z; cases z)
    have nk : j ∉ [c, l] := by simp [njc, njl]
    have off : ∀ (H1 : Hp) (S1 : CS), CellsAt T.c_Cells H1 c l S1 → Kp [c, l] H H1 → jputback st S = (S1, .cut) → E (.ref T.c_PowerCut) none H1 := fun H1 S1 hc1 kp1 e => by
      have q1 := q H1
      rw [e] at q1
      exact q1 hc1 (kp1.mono (by simp +contextual)) ⟨dj, kp1 _ _ nk hjo⟩
    walk_at "rd"
    refine rdSeq ?_
    walk_at "rd"
    refine i_fld T.cl_Journal T.nf_Journal_cells hjo rfl (i_meth ho rfl (i_fld T.cl_Journal T.nf_Journal_start hjo rfl ?_))
    cases eo : S.on with
    | false =>
      exact ⟨c, l, S, st, rfl, hc, by have := hL.sz; omega, (fun e => by rw [eo] at e; cases e), fun _ => off H S hc (Kp.refl _ _) (rdS_off eo)⟩
    | true =>
      refine ⟨c, l, S, st, rfl, hc, by have := hL.sz; omega, fun _ => ?_, fun e => by rw [eo] at e; cases e⟩
      have h0 := hL.lo
      have h40 := hL.hi
      obtain ⟨m, hm⟩ : ∃ m : Nat, S.words.getD st 0 = (m : Int) := ⟨(S.words.getD st 0).toNat, by omega⟩
      have ejp : jputback st S = seqS (jback st m S) (jforget st) := by
        unfold jputback
        rw [rdS_on eo, hm]; rfl
      rw [hm]
      refine ⟨_, rfl, by decide, by decide, by omega, by omega, ?_⟩
      have en : ((m : Int) - 0).toNat = m := by omega
      rw [en]
      refine i_for walk_rangeC (fun i σ H' => (∃ S1, CellsAt T.c_Cells H' c l S1 ∧ LogOk st S1 ∧ S1.words.getD st 0 = (m : Int) ∧ jback st m S = jback st (m - i) S1) ∧ Kp [c, l] H H' ∧ ∃ y1 y2, σ = [some (.ref j), y1, y2])
        ⟨⟨S, hc, hL, hm, rfl⟩, Kp.refl _ _, _, _, rfl⟩ (fun _ _ _ _ _ => trivial) ?_ ?_
      · rintro i _ σ _ H1 hi ⟨⟨S1, hc1, hL1, hm1, ej⟩, kp1, y1, y2, rfl⟩ ⟨rfl, rfl⟩
        obtain ⟨k, ek⟩ : ∃ k, m = i + (k + 1) := ⟨m - i - 1, by omega⟩
        have e1 : m - i = k + 1 := by omega
        rw [e1] at ej
        have ei : (0 + (m : Int) - 1 + (i : Int) * -1) = (k : Int) := by omega
        have hjo1 := kp1 _ _ nk hjo
        obtain ⟨dx1, ho1⟩ := hc1.ob
        refine rdSeq ?_
        walk_at "rd"
        rw [ei]
        refine i_fld T.cl_Journal T.nf_Journal_start hjo1 rfl ?_
        walk_at "rd"
        refine ⟨cm_l (by decide), ?_⟩
        refine i_fld T.cl_Journal T.nf_Journal_cells hjo1 rfl (i_meth ho1 rfl (i_fld T.cl_Journal T.nf_Journal_cells hjo1 rfl (i_meth ho1 rfl ?_)))
        have hsz := hL1.sz
        cases eo1 : S1.on with
        | false =>
          refine ⟨c, l, S1, st + 1 + 2 * k, rfl, hc1, by omega, (fun e => by rw [eo1] at e; cases e), fun _ => off H1 S1 hc1 kp1 ?_⟩
          rw [ejp, ej]
          unfold jback
          rw [rdS_off eo1]; rfl
        | true =>
          refine ⟨c, l, S1, st + 1 + 2 * k, rfl, hc1, by omega, fun _ => ?_, fun e => by rw [eo1] at e; cases e⟩
          refine i_fld T.cl_Journal T.nf_Journal_cells hjo1 rfl (i_meth ho1 rfl ?_)
          refine ⟨c, l, S1, st + 2 + 2 * k, ?_, hc1, by omega, fun _ => ?_, fun e => by rw [eo1] at e; cases e⟩
          · rw [show ((st + 2 + 2 * k : Nat) : Int) = (st : Int) + 1 + 2 * k + 1 by omega]
          obtain ⟨g1, g2⟩ := hL1.en k (by rw [hm1]; omega)
          obtain ⟨p, hp⟩ : ∃ p : Nat, S1.words.getD (st + 1 + 2 * k) 0 = (p : Int) := ⟨(S1.words.getD (st + 1 + 2 * k) 0).toNat, by omega⟩
          rw [hp] at g1 g2 ⊢
          have ejb : jback st m S = seqS (wS S1 p (S1.words.getD (st + 2 + 2 * k) 0)) (jback st k) := by
            rw [ej]
            show rdS _ _ _ = _
            rw [rdS_on eo1, rdS_on eo1, hp]; rfl
          refine ⟨c, l, S1, p, S1.words.getD (st + 2 + 2 * k) 0, rfl, hc1, by omega, fun H2 hc2 kp2 => ⟨fun e2 => ?_, fun e2 => ?_⟩⟩
          · rw [seq_ok e2] at ejb
            have ew := (writeS_on e2).1
            refine ⟨⟨_, hc2, hL1.far ew (by omega), ?_, ?_⟩, kp1.trans kp2⟩
            · rw [ew, getD_set_ne (by omega), hm1]
            · rw [ejb, show m - (i + 1) = k by omega]
          · refine off H2 _ hc2 (kp1.trans kp2) ?_
            rw [ejp, ejb, seq_cut e2]; rfl
      · rintro σ H1 ⟨⟨S1, hc1, hL1, hm1, ej⟩, kp1, y1, y2, rfl⟩
        have hjo1 := kp1 _ _ nk hjo
        have ejf : jputback st S = jforget st S1 := by
          rw [ejp, ej, Nat.sub_self]; rfl
        walk_at "rd"
        refine i_meth hjo1 rfl ⟨j, c, l, st, b, S1, rfl, ⟨dj, hjo1⟩, hc1, by have := hL1.sz; omega, fun H2 hc2 kp2 => ?_⟩
        rw [← ejf] at hc2 ⊢
        exact q H2 hc2 ((kp1.mono (by simp +contextual)).trans kp2)

def sp_Journal_begin {K : PySem.W.Frag} {mg : Str → Option Value} (T : Txt K mg) : Sp := fun vs H Q E => ∃ (j c : Addr) (st : Nat) (b : Bool), vs = [.ref j] ∧ JrnAt T.c_Journal H j c st b ∧
  (b = false → ∀ H', JrnAt T.c_Journal H' j c st true → Kp [j] H H' → Q .non H') ∧ (b = true → ∀ dx, H dx = none → E (.ref T.c_Fault) (some dx) (upd H dx (.xd [("code", .int (-8))])))
theorem ok_Journal_begin (T : Txt K mg) : FnOk P w K mg base (L2.CX P w) 3 T.f_Journal_begin T.d_Journal_begin ["self"] (sp_Journal_begin T) := by
  refine T.k_Journal_begin.okX sc_Journal_begin (fun vs H Q E h => ?_) (fun cdv A outer s H vs Q E hr h => ?_)
  · obtain ⟨j, c, st, b, rfl, _⟩ := h
    rfl
  · obtain ⟨j, c, st, b, rfl, ⟨dj, hjo⟩, q1, q2⟩ := h
    refine ⟨_, (pss_cons (ps_if (pt_val (pe_fldK K (pv 0) rfl)) (pss_one (ps_raise rfl (takes_of rfl rfl rfl rfl) (pmk_oex T.ox_Fault T.in_Fault T.ti_Fault (ok_Fault_init T) (hr.mono (by decide)) T.b_Fault_init .nil pass0 rfl T.g_Fault (pa_cons (pe_glob (v := .int _) rfl T.g_TRANSACTION ⟨_, rfl⟩) pa_nil)))) pss_nil)
      (pss_one (ps_fldK K (pv 0) pe_bl rfl))), ?_⟩
    walk_at "rd"
    refine rdSeq ?_
    walk_at "rd"
    refine i_fld T.cl_Journal T.nf_Journal_open hjo rfl ?_
    walk_at "rd"
    cases b with
    | true => exact i_then rfl (i_mkO1 (q2 rfl))
    | false =>
      refine i_else (by simp) ?_
      refine i_fldS T.cl_Journal T.nf_Journal_open hjo (by show 3 < 1000; decide) ?_
      exact q1 rfl _ ⟨dj, by rw [upd_same]; rfl⟩ (Kp.set (by simp))
def jcommit (st : Nat) (b : Bool) (S : CS) : CS × Out := if b = true then jforget st S else (S, .fault)
def jabort (st : Nat) (b : Bool) (S : CS) : CS × Out := if b = true then jputback st S else (S, .fault)
def sp_Journal_commit {K : PySem.W.Frag} {mg : Str → Option Value} (T : Txt K mg) : Sp := fun vs H Q E => ∃ (j c l : Addr) (st : Nat) (b : Bool) (S : CS), vs = [.ref j] ∧ JrnAt T.c_Journal H j c st b ∧ CellsAt T.c_Cells H c l S ∧ st < S.words.length ∧
  ∀ H', CellsAt T.c_Cells H' c l (jcommit st b S).1 → Kp [c, l, j] H H' → tellJ T j c st b Q E (jcommit st b S).2 H'
theorem ok_Journal_commit (T : Txt K mg) : FnOk P w K mg base (L2.CX P w) 3 T.f_Journal_commit T.d_Journal_commit ["self"] (sp_Journal_commit T) := by
  refine T.k_Journal_commit.okX sc_Journal_commit (fun vs H Q E h => ?_) (fun cdv A outer s H vs Q E hr h => ?_)
  · obtain ⟨j, c, l, st, b, S, rfl, _⟩ := h
    rfl
  · obtain ⟨j, c, l, st, b, S, rfl, ⟨dj, hjo⟩, hc, hz, q⟩ := h
    refine ⟨_, (pss_cons (ps_if (pt_not (pt_val (pe_fldK K (pv 0) rfl))) (pss_one (ps_raise rfl (takes_of rfl rfl rfl rfl) (pmk_oex T.ox_Fault T.in_Fault T.ti_Fault (ok_Fault_init T) (hr.mono (by decide)) T.b_Fault_init .nil pass0 rfl T.g_Fault (pa_cons (pe_glob (v := .int _) rfl T.g_TRANSACTION ⟨_, rfl⟩) pa_nil)))) pss_nil)
      (pss_one (ps_expr (pe_meth0S (pv 0) T.cl_Journal T.me_Journal__forget (ok_Journal__forget T) (hr.mono (by decide)) T.b_Journal__forget (fun σ => passAt (takes_of rfl rfl rfl rfl) σ))))), ?_⟩
    walk_at "rd"
    refine rdSeq ?_
    walk_at "rd"
    refine i_fld T.cl_Journal T.nf_Journal_open hjo rfl ?_
    walk_at "rd"
    cases b with
    | false => exact i_then rfl (i_mkO1 (q H hc (Kp.refl _ _) ⟨dj, hjo⟩))
    | true =>
      refine i_else (by simp) ?_
      exact i_meth hjo rfl ⟨j, c, l, st, true, S, rfl, ⟨dj, hjo⟩, hc, hz, fun H' hc' kp => q H' hc' kp⟩
def sp_Journal_abort {K : PySem.W.Frag} {mg : Str → Option Value} (T : Txt K mg) : Sp := fun vs H Q E => ∃ (j c l : Addr) (st : Nat) (b : Bool) (S : CS), vs = [.ref j] ∧ JrnAt T.c_Journal H j c st b ∧ CellsAt T.c_Cells H c l S ∧ (b = true → LogOk st S) ∧
  ∀ H', CellsAt T.c_Cells H' c l (jabort st b S).1 → Kp [c, l, j] H H' → tellJ T j c st b Q E (jabort st b S).2 H'
theorem ok_Journal_abort (T : Txt K mg) : FnOk P w K mg base (L2.CX P w) 4 T.f_Journal_abort T.d_Journal_abort ["self"] (sp_Journal_abort T) := by
  refine T.k_Journal_abort.okX sc_Journal_abort (fun vs H Q E h => ?_) (fun cdv A outer s H vs Q E hr h => ?_)
  · obtain ⟨j, c, l, st, b, S, rfl, _⟩ := h
    rfl
  · obtain ⟨j, c, l, st, b, S, rfl, ⟨dj, hjo⟩, hc, hz, q⟩ := h
    refine ⟨_, (pss_cons (ps_if (pt_not (pt_val (pe_fldK K (pv 0) rfl))) (pss_one (ps_raise rfl (takes_of rfl rfl rfl rfl) (pmk_oex T.ox_Fault T.in_Fault T.ti_Fault (ok_Fault_init T) (hr.mono (by decide)) T.b_Fault_init .nil pass0 rfl T.g_Fault (pa_cons (pe_glob (v := .int _) rfl T.g_TRANSACTION ⟨_, rfl⟩) pa_nil)))) pss_nil)
      (pss_one (ps_expr (pe_meth0S (pv 0) T.cl_Journal T.me_Journal_put_back (ok_Journal_put_back T) (hr.mono (by decide)) T.b_Journal_put_back (fun σ => passAt (takes_of rfl rfl rfl rfl) σ))))), ?_⟩
    walk_at "rd"
    refine rdSeq ?_
    walk_at "rd"
    refine i_fld T.cl_Journal T.nf_Journal_open hjo rfl ?_
    walk_at "rd"
    cases b with
    | false => exact i_then rfl (i_mkO1 (q H hc (Kp.refl _ _) ⟨dj, hjo⟩))
    | true =>
      refine i_else (by simp) ?_
      exact i_meth hjo rfl ⟨j, c, l, st, true, S, rfl, ⟨dj, hjo⟩, hc, hz rfl, fun H' hc' kp => q H' hc' kp⟩


/-! ### the draws of a script -/
def sp_law_draws {K : PySem.W.Frag} {mg : Str → Option Value} (_ : Txt K mg) : Sp := fun vs H Q _ => ∃ (a : Addr) (ns : List Int) (m : Nat), vs = [.ref a, .int 0, .int m] ∧ SqL K H a (ns.map V.int) ∧ ns.length ≤ 63 ∧
  ∀ (p : Addr) (H' : Hp) (ms : List Int), NewL H H' p (ms.map V.int) → ms.length ≤ m → Q (.ref p) H'
theorem ok_law_draws (T : Txt K mg) : FnOk P w K mg base CX0 1 T.f_law_draws T.d_law_draws ["_law_script", "_law_start", "_law_most"] (sp_law_draws T) := by
  refine T.k_law_draws.ok sc_law_draws (fun vs H Q E h => ?_) (fun cdv A outer s H vs Q E hr h => ?_)
  · obtain ⟨a, ns, m, rfl, _⟩ := h
    rfl
  · obtain ⟨a, ns, m, rfl, hS, hl, q⟩ := h
    refine ⟨_, (pss_cons (ps_set (i := 3) sc_law_draws.nd rfl (.inl rfl) (pe_lst pa_nil))
      (pss_cons (ps_for PassesOwn.never rfl (pi_list (pe_slice (sl_listK K) (pv 0) (po_some (pv 1)) po_none)) (pg_name (i := 4) sc_law_draws.nd rfl (Or.inl rfl)) (pss_cons (ps_set (i := 5) sc_law_draws.nd rfl (.inl rfl) (pe_callB call_abs (by rfl) T.m_abs (by decide +kernel) (pa_cons (pe_callTy call_intI (by rfl) T.m_int (by decide +kernel) (pa_cons (pv 4) pa_nil)) pa_nil)))
      (pss_one (ps_if (pt_cmpR op_lt (pv 5) (pe_op op_pow pe_int pe_int) (nomark _)) (pss_cons (ps_set (i := 6) sc_law_draws.nd rfl (.inl rfl) (pe_op op_modP (pe_callTy call_intI (by rfl) T.m_int (by decide +kernel) (pa_cons (pe_op op_add (pe_op op_mul (pv 5) pe_int) pe_int) pa_nil)) pe_int))
      (pss_cons (ps_expr (pe_bmK K PySem.F.plainAttrs_list PySem.F.slot_list_append PySem.F.type_list_append mt_append (pv 3) (pa_cons (pe_op op_add (pe_op op_mul (pv 6) pe_int) (pe_op op_modP (pe_callTy call_intI (by rfl) T.m_int (by decide +kernel) (pa_cons (pe_op op_add (pe_op op_mul (pv 6) pe_int) (pv 5)) pa_nil)) pe_int)) pa_nil)))
      (pss_one (ps_expr (pe_bmK K PySem.F.plainAttrs_list PySem.F.slot_list_append PySem.F.type_list_append mt_append (pv 3) (pa_cons (pe_op op_add (pe_op op_mul (pe_op op_modP (pe_callTy call_intI (by rfl) T.m_int (by decide +kernel) (pa_cons (pe_op op_add (pe_op op_add (pe_op op_mul (pv 6) pe_int) (pe_op op_fdivW (pv 5) pe_int)) pe_int) pa_nil)) pe_int) pe_int) (pe_op op_modP (pv 5) pe_int)) pa_nil)))))) (pss_one (ps_for PassesOwn.never rfl (pi_range1 (by rfl) T.m_range (pa_cons pe_int pa_nil)) (pg_name (i := 7) sc_law_draws.nd rfl (Or.inl rfl)) (C8.pss_cut (ps_if (pt_cmpR op_gt (pv 5) pe_int (nomark _)) (pss_one (ps_expr (pe_bmK K PySem.F.plainAttrs_list PySem.F.slot_list_append PySem.F.type_list_append mt_append (pv 3) (pa_cons (pe_op op_modP (pe_callTy call_intI (by rfl) T.m_int (by decide +kernel) (pa_cons (pv 5) pa_nil)) (pe_op op_pow pe_int pe_int)) pa_nil)))) pss_nil)
      (pss_one (ps_set (i := 5) sc_law_draws.nd rfl (.inl rfl) (pe_op op_fdivW (pv 5) (pe_op op_pow pe_int pe_int)))))))))))
      (pss_one (ps_ret (pe_slice (sl_listK K) (pv 3) po_none (po_some (pv 2))))))), ?_⟩
    walk_at "rd"
    refine rdSeq ?_
    walk_at "rd"
    intro p hp
    refine rdSeq ?_
    walk_at "rd"
    refine i_slL ((same_new hp).seq hS) fun c hc => ?_
    rw [cut_all]
    have npc : p ≠ c := ne_of_none upd_same hc
    walk_at "rd"
    refine ⟨⟨_, sqL_of upd_same⟩, ?_⟩
    refine i_for (walk_listL (l := ns) (r := V.int)) (fun i σ H' => (∃ ms : List Int, NewL H H' p (ms.map V.int) ∧ ms.length ≤ 12 * i) ∧ H' c = some (.lst (ns.map V.int)) ∧ ∃ y1 y2 y3 y4, σ = [some (.ref a), some (.int 0), some (.int (m : Int)), some (.ref p), y1, y2, y3, y4])
      ⟨⟨[], ⟨hp, (same_new hp).trans (same_new hc), by rw [upd_ne npc]; exact upd_same⟩, Nat.zero_le _⟩, upd_same, _, _, _, _, rfl⟩ (fun i σ H' _ h => sqL_of h.2.1) ?_ ?_
    · rintro i _ σ H1 _ hi ⟨⟨ms, n, hm⟩, hC, y1, y2, y3, y4, rfl⟩ ⟨rfl, x, hx, rfl⟩
      refine rdSeq ?_
      walk_at "rd"
      generalize (if x < 0 then -x else x) = y
      refine ⟨pow18, ite2 (fun _ => rdSeq ?_) (fun _ => ?_)⟩
      · walk_at "rd"
        refine ⟨cm_r (by decide), ?_⟩
        generalize (y * 48611 + 43) % 2147483647 = z
        refine rdSeq ?_
        walk_at "rd"
        refine ⟨ty_app n.sq, cm_r (by decide), cm_r (by decide), i_app n.at_ (by rw [List.length_map]; exact line5' (by omega)) ?_⟩
        have n2 := n.set (ys := List.map V.int ms ++ [V.int (z * 2147483629 + (z * 16807 + y) % 2147483629)])
        refine ⟨ty_app n2.sq, cm_r (by decide), ⟨by decide, by decide⟩, cm_r (by decide), i_app n2.at_ (by rw [List.length_append, List.length_map]; exact line5' (by show _ + 1 ≤ _; omega)) ?_⟩
        have n3 := n2.set (ys := List.map V.int ms ++ [V.int (z * 2147483629 + (z * 16807 + y) % 2147483629)] ++ [V.int ((z * 69621 + y / 9 + 3) % 2147483399 * 7919 + y % 7919)])
        refine ⟨⟨ms ++ [z * 2147483629 + (z * 16807 + y) % 2147483629] ++ [(z * 69621 + y / 9 + 3) % 2147483399 * 7919 + y % 7919], by rw [List.map_append, List.map_append]; exact n3, by simp; omega⟩, ?_⟩
        rw [upd_ne (Ne.symm npc), upd_ne (Ne.symm npc)]; exact hC
      · walk_at "rd"
        refine ⟨by decide, by decide, i_for walk_range (fun j σ H' => (∃ ms : List Int, NewL H H' p (ms.map V.int) ∧ ms.length ≤ 12 * i + j) ∧ H' c = some (.lst (ns.map V.int)) ∧ ∃ (u : Int) (y3 y4 : Option V), σ = [some (.ref a), some (.int 0), some (.int (m : Int)), some (.ref p), some (.int x), some (.int u), y3, y4])
          ⟨⟨ms, n, by omega⟩, hC, y, _, _, rfl⟩ (fun _ _ _ _ _ => trivial) ?_ ?_⟩
        · rintro j _ σ H2 _ hj ⟨⟨ms, n, hm⟩, hC, u, y3, y4, rfl⟩ ⟨rfl, rfl⟩
          have hj : j < 12 := hj
          have hi : i < ns.length := hi
          refine rdCut (fun σ H' => (∃ ms : List Int, NewL H H' p (ms.map V.int) ∧ ms.length ≤ 12 * i + (j + 1)) ∧ H' c = some (.lst (ns.map V.int)) ∧ ∃ (y3 y4 : Option V), σ = [some (.ref a), some (.int 0), some (.int (m : Int)), some (.ref p), some (.int x), some (.int u), y3, y4]) ?_ ?_
          · walk_at "rd"
            refine ite2 (fun _ => ⟨ty_app n.sq, pow14, by decide, i_app n.at_ (by rw [List.length_map]; exact line5' (by omega)) ?_⟩) (fun _ => ⟨⟨ms, n, by omega⟩, hC⟩)
            refine ⟨⟨ms ++ [u % 10 ^ Int.toNat 14], by rw [List.map_append]; exact n.set, by simp; omega⟩, ?_⟩
            rw [upd_ne (Ne.symm npc)]; exact hC
          · rintro σ H3 ⟨⟨ms, n, hm⟩, hC, y3, y4, rfl⟩
            walk_at "rd"
            exact ⟨pow14, ⟨by decide, by decide⟩, ⟨ms, n, hm⟩, hC⟩
        · rintro σ H2 ⟨⟨ms, n, hm⟩, hC, u, y3, y4, rfl⟩
          exact ⟨⟨ms, n, by have : Int.toNat 12 = 12 := rfl; omega⟩, hC, _, _, _, _, rfl⟩
    · rintro σ H1 ⟨⟨ms, n, hm⟩, hC, y1, y2, y3, y4, rfl⟩
      walk_at "rd"
      refine i_slL n.sq fun d hd => ?_
      rw [cut_take, ← List.map_take]
      refine q _ _ _ ⟨n.same.free hd, n.same.trans (same_new hd), upd_same⟩ (List.length_take_le _ _)

/-! ### the plain law: a log that may be put back at any time -/
def wback : Nat → List Int → List Int
  | 0, ws => ws
  | k + 1, ws => wback k (ws.set (ws.getD (1 + 2 * k) 0).toNat (ws.getD (2 + 2 * k) 0))
theorem wback_len : ∀ (k : Nat) (ws : List Int), (wback k ws).length = ws.length
  | 0, _ => rfl
  | k + 1, ws => by
    show (wback k _).length = _
    rw [wback_len k, List.length_set]
theorem getD_set_eq {ws : List Int} {i : Nat} {w : Int} (h : i < ws.length) : (ws.set i w).getD i 0 = w := by
  rw [List.getD_eq_getElem?_getD, List.getElem?_set_self h]; rfl
theorem set_getD {ws : List Int} {i : Nat} : ws.set i (ws.getD i 0) = ws := by
  apply List.ext_getElem?
  intro j
  by_cases h : i = j
  · subst h
    by_cases hl : i < ws.length
    · rw [List.getElem?_set_self hl, List.getD_eq_getElem?_getD, List.getElem?_eq_getElem hl]; rfl
    · rw [List.getElem?_eq_none (by rw [List.length_set]; omega), List.getElem?_eq_none (by omega)]
  · rw [List.getElem?_set_ne h]
structure LP (W : List Int) (c : Nat) : Prop where
  len : W.length = 87
  c0 : W.getD 0 0 = c
  c40 : c ≤ 40
  en : ∀ j : Nat, j < c → 80 < W.getD (1 + 2 * j) 0 ∧ W.getD (1 + 2 * j) 0 < 87
theorem LP.log {S : CS} {c : Nat} (h : LP S.words c) : LogOk 0 S := by
  refine ⟨by have := h.len; omega, by rw [h.c0]; omega, by rw [h.c0]; have := h.c40; omega, fun k hk => ?_⟩
  rw [h.c0] at hk
  have := h.en k (by omega)
  rw [Nat.zero_add, h.len]
  omega
theorem LP.data {W : List Int} {c p : Nat} {x : Int} (h : LP W c) (hp : 80 < p) : LP (W.set p x) c := by
  have := h.c40
  refine ⟨by rw [List.length_set]; exact h.len, by rw [getD_set_ne (by omega)]; exact h.c0, h.c40, fun j hj => ?_⟩
  rw [getD_set_ne (by omega)]; exact h.en j hj
theorem LP.above {W : List Int} {c i : Nat} {x : Int} (h : LP W c) (hi : 2 * c < i) : LP (W.set i x) c := by
  refine ⟨by rw [List.length_set]; exact h.len, by rw [getD_set_ne (by omega)]; exact h.c0, h.c40, fun j hj => ?_⟩
  rw [getD_set_ne (by omega)]; exact h.en j hj
theorem LP.push {W : List Int} {c : Nat} (h : LP W c) (hc : c < 40) (hp : 80 < W.getD (1 + 2 * c) 0 ∧ W.getD (1 + 2 * c) 0 < 87) : LP (W.set 0 ((c : Int) + 1)) (c + 1) := by
  have := h.len
  refine ⟨by rw [List.length_set]; exact h.len, by rw [getD_set_eq (by omega)]; omega, by omega, fun j hj => ?_⟩
  rw [getD_set_ne (by omega)]
  by_cases e : j = c
  · rw [e]; exact hp
  · exact h.en j (by omega)
theorem LP.zero {W : List Int} (h : W.length = 87) : LP (W.set 0 0) 0 :=
  ⟨by rw [List.length_set]; exact h, by rw [getD_set_eq (by omega)]; rfl, by omega, fun j hj => absurd hj (by omega)⟩
def rcv (W : List Int) (c : Nat) : List Int := (wback c W).drop 81
/-- a write apart from the log's first k entries -/
theorem wback_apart : ∀ (k : Nat) (W : List Int) (i : Nat) (x : Int), (∀ j : Nat, j < k → 80 < W.getD (1 + 2 * j) 0) → i ≤ 80 → (i = 0 ∨ 2 * k < i) → k ≤ 40 → wback k (W.set i x) = (wback k W).set i x
  | 0, _, _, _, _, _, _, _ => rfl
  | k + 1, W, i, x, he, hi, ha, hk => by
    have hq := he k (by omega)
    show wback k _ = (wback k _).set i x
    rw [getD_set_ne (by omega), getD_set_ne (by omega), List.set_comm x _ (by omega)]
    exact wback_apart k _ i x (fun j hj => by rw [getD_set_ne (by omega)]; exact he j (by omega)) hi (by omega) (by omega)
/-- a write at a place that the log has -/
theorem wback_data : ∀ (k : Nat) (W : List Int) (p : Nat) (x : Int), (∀ j : Nat, j < k → 80 < W.getD (1 + 2 * j) 0) → 80 < p → (∃ j, j < k ∧ W.getD (1 + 2 * j) 0 = (p : Int)) → k ≤ 40 → wback k (W.set p x) = wback k W
  | 0, _, _, _, _, _, ⟨j, hj, _⟩, _ => absurd hj (by omega)
  | k + 1, W, p, x, he, hp, ⟨j, hj, ej⟩, hk => by
    have hq := he k (by omega)
    show wback k _ = wback k _
    rw [getD_set_ne (by omega), getD_set_ne (by omega)]
    by_cases e : (W.getD (1 + 2 * k) 0).toNat = p
    · rw [e, List.set_set]
    · rw [List.set_comm x _ (Ne.symm e)]
      have jk : j ≠ k := fun h => by subst h; omega
      exact wback_data k _ p x (fun j hj => by rw [getD_set_ne (by omega)]; exact he j (by omega)) hp ⟨j, by omega, by rw [getD_set_ne (by omega)]; exact ej⟩ (by omega)
structure Rec (W : List Int) (c : Nat) (X : List Int) : Prop where
  lp : LP W c
  rc : rcv W c = X
theorem Rec.above {W X : List Int} {c i : Nat} {x : Int} (h : Rec W c X) (h1 : 2 * c < i) (h2 : i ≤ 80) : Rec (W.set i x) c X := by
  refine ⟨h.lp.above h1, ?_⟩
  unfold rcv
  rw [wback_apart c W i x (fun j hj => (h.lp.en j hj).1) h2 (.inr h1) h.lp.c40, List.drop_set_of_lt (by omega)]
  exact h.rc
theorem Rec.data {W X : List Int} {c p : Nat} {x : Int} (h : Rec W c X) (hp : 80 < p) (hj : ∃ j, j < c ∧ W.getD (1 + 2 * j) 0 = (p : Int)) : Rec (W.set p x) c X := by
  refine ⟨h.lp.data hp, ?_⟩
  unfold rcv
  rw [wback_data c W p x (fun j hj => (h.lp.en j hj).1) hp hj h.lp.c40]
  exact h.rc
theorem Rec.push {W X : List Int} {c p : Nat} (h : Rec W c X) (hc : c < 40) (h1 : W.getD (1 + 2 * c) 0 = (p : Int)) (hp : 80 < p ∧ p < 87) (h2 : W.getD (2 + 2 * c) 0 = W.getD p 0) : Rec (W.set 0 ((c : Int) + 1)) (c + 1) X := by
  refine ⟨h.lp.push hc (by omega), ?_⟩
  have e : wback (c + 1) (W.set 0 ((c : Int) + 1)) = wback c (W.set 0 ((c : Int) + 1)) := by
    show wback c _ = _
    rw [getD_set_ne (by omega), getD_set_ne (by omega), h1, h2]
    have : W.getD p 0 = (W.set 0 ((c : Int) + 1)).getD p 0 := by rw [getD_set_ne (by omega)]
    rw [this]
    show wback c ((W.set 0 ((c : Int) + 1)).set p _) = _
    rw [set_getD]
  unfold rcv
  rw [e, wback_apart c W 0 _ (fun j hj => (h.lp.en j hj).1) (by omega) (.inl rfl) h.lp.c40, List.drop_set_of_lt (by omega)]
  exact h.rc
theorem rec_zero {W : List Int} (h : LP W 0) : Rec W 0 (W.drop 81) := ⟨h, rfl⟩
/-- what is told of an outcome -/
def Tell (r : CS × Out) (okP cutP : List Int → Prop) : Prop := match r.2 with
  | .ok => okP r.1.words
  | .cut => cutP r.1.words
  | .fault => False
theorem write_cases (S : CS) (i : Nat) (w : Int) : ((writeS S i w).2 = false ∧ (writeS S i w).1.words = S.words) ∨ ((writeS S i w).2 = true ∧ (writeS S i w).1.words = S.words.set i w ∧ (writeS S i w).1.on = true) := by
  cases e : (writeS S i w).2 with
  | true => exact .inr ⟨rfl, (writeS_on e).1, (writeS_on e).2.1⟩
  | false =>
    refine .inl ⟨rfl, ?_⟩
    unfold writeS at e ⊢
    split
    · rfl
    · rename_i h1
      rw [if_neg h1] at e
      split
      · rfl
      · rename_i h2
        rw [if_neg h2] at e; cases e
theorem tell_rd {S : CS} {i : Nat} {k : Int → CS × Out} {okP cutP : List Int → Prop} (h1 : cutP S.words) (h2 : Tell (k (S.words.getD i 0)) okP cutP) : Tell (rdS S i k) okP cutP := by
  cases e : S.on with
  | true => rw [rdS_on e]; exact h2
  | false => rw [rdS_off e]; exact h1
theorem tell_seq {S : CS} {i : Nat} {w : Int} {k : CS → CS × Out} {okP cutP : List Int → Prop} (h1 : cutP S.words) (h2 : ∀ S', S'.words = S.words.set i w → Tell (k S') okP cutP) : Tell (seqS (wS S i w) k) okP cutP := by
  rcases write_cases S i w with ⟨e, ew⟩ | ⟨e, ew, _⟩
  · rw [seq_cut e]
    show cutP (writeS S i w).1.words
    rw [ew]; exact h1
  · rw [seq_ok e]; exact h2 _ ew
theorem tell_w {S : CS} {i : Nat} {w : Int} {okP cutP : List Int → Prop} (h1 : cutP S.words) (h2 : okP (S.words.set i w)) : Tell (wS S i w) okP cutP := by
  rcases write_cases S i w with ⟨e, ew⟩ | ⟨e, ew, _⟩
  · rw [wS_cut e]
    show cutP (writeS S i w).1.words
    rw [ew]; exact h1
  · rw [wS_ok e]
    show okP (writeS S i w).1.words
    rw [ew]; exact h2
theorem Tell.mono {r : CS × Out} {p1 p2 q1 q2 : List Int → Prop} (h : Tell r p1 p2) (h1 : ∀ W, p1 W → q1 W) (h2 : ∀ W, p2 W → q2 W) : Tell r q1 q2 := by
  unfold Tell at h ⊢
  split
  · rename_i e; rw [e] at h; exact h1 _ h
  · rename_i e; rw [e] at h; exact h2 _ h
  · rename_i e; rw [e] at h; exact h
theorem tell_change {S : CS} {c p : Nat} {w : Int} {X : List Int} (h : Rec S.words c X) (hc : c < 40) (hp : 80 < p ∧ p < 87) :
    Tell (jchange 0 true S p w) (fun W => Rec W (c + 1) X ∧ W.drop 81 = (S.words.drop 81).set (p - 81) w) (fun W => ∃ c', Rec W c' X) := by
  have hl := h.lp.len
  show Tell (rdS S 0 fun n => if n = 40 then (S, .fault) else seqS (wS S (0 + 1 + 2 * n.toNat) p) fun S1 => seqS (wS S1 (0 + 2 + 2 * n.toNat) (S1.words.getD p 0)) fun S2 => seqS (wS S2 0 (n + 1)) fun S3 => wS S3 p w) _ _
  refine tell_rd ⟨c, h⟩ ?_
  rw [h.lp.c0, if_neg (by omega)]
  simp only [Nat.zero_add, Int.toNat_natCast]
  have r1 : Rec (S.words.set (1 + 2 * c) p) c X := h.above (by omega) (by omega)
  refine tell_seq ⟨c, h⟩ fun S1 e1 => tell_seq ⟨c, by rw [e1]; exact r1⟩ fun S2 e2 => ?_
  have r2 : Rec S2.words c X := by rw [e2, e1]; exact r1.above (by omega) (by omega)
  have g1 : S2.words.getD (1 + 2 * c) 0 = (p : Int) := by rw [e2, getD_set_ne (by omega), e1, getD_set_eq (by omega)]
  have g2 : S2.words.getD (2 + 2 * c) 0 = S2.words.getD p 0 := by rw [e2, getD_set_eq (by rw [e1, List.length_set]; omega), getD_set_ne (by omega)]
  have r3 := r2.push hc g1 hp g2
  refine tell_seq ⟨c, r2⟩ fun S3 e3 => tell_w ⟨c + 1, by rw [e3]; exact r3⟩ ?_
  rw [e3]
  refine ⟨r3.data hp.1 ⟨c, by omega, by rw [getD_set_ne (by omega)]; exact g1⟩, ?_⟩
  rw [List.drop_set, if_neg (by omega), List.drop_set_of_lt (by omega), e2, List.drop_set_of_lt (by omega), e1, List.drop_set_of_lt (by omega)]
theorem tell_single {S : CS} {p : Nat} {w : Int} (h : LP S.words 0) (hp : 80 < p ∧ p < 87) :
    Tell (jchange 0 false S p w) (fun W => LP W 0 ∧ W.drop 81 = (S.words.drop 81).set (p - 81) w) (fun W => Rec W 0 (S.words.drop 81)) := by
  show Tell (wS S p w) _ _
  refine tell_w (rec_zero h) ⟨h.data hp.1, ?_⟩
  rw [List.drop_set, if_neg (by omega)]
theorem tell_forget {S : CS} {c : Nat} {X : List Int} (h : Rec S.words c X) : Tell (jforget 0 S) (fun W => LP W 0 ∧ W.drop 81 = S.words.drop 81) (fun W => ∃ c', Rec W c' X) := by
  show Tell (rdS S 0 fun n => if n ≠ 0 then wS S 0 0 else (S, .ok)) _ _
  refine tell_rd ⟨c, h⟩ ?_
  rw [h.lp.c0]
  by_cases e : (c : Int) = 0
  · rw [if_neg (by simpa using e)]
    obtain rfl : c = 0 := by omega
    exact ⟨h.lp, rfl⟩
  · rw [if_pos e]
    exact tell_w ⟨c, h⟩ ⟨.zero h.lp.len, List.drop_set_of_lt (by omega)⟩
theorem tell_back : ∀ (k : Nat) (S : CS) (c : Nat) (X Y : List Int), Rec S.words c X → k ≤ c → (wback k S.words).drop 81 = Y → Tell (jback 0 k S) (fun W => Rec W c X ∧ W.drop 81 = Y) (fun W => ∃ c', Rec W c' X)
  | 0, S, c, X, Y, h, _, e => ⟨h, e⟩
  | k + 1, S, c, X, Y, h, hk, e => by
    have h40 := h.lp.c40
    show Tell (rdS S (0 + 1 + 2 * k) fun p => rdS S (0 + 2 + 2 * k) fun x => seqS (wS S p.toNat x) (jback 0 k)) _ _
    simp only [Nat.zero_add]
    refine tell_rd ⟨c, h⟩ (tell_rd ⟨c, h⟩ (tell_seq ⟨c, h⟩ fun S1 e1 => ?_))
    have g := h.lp.en k (by omega)
    refine tell_back k S1 c X Y ?_ (by omega) ?_
    · rw [e1]
      exact h.data (by omega) ⟨k, by omega, by omega⟩
    · rw [e1]; exact e
theorem tell_putback {S : CS} {c : Nat} {X : List Int} (h : Rec S.words c X) : Tell (jputback 0 S) (fun W => LP W 0 ∧ W.drop 81 = X) (fun W => ∃ c', Rec W c' X) := by
  show Tell (rdS S 0 fun n => seqS (jback 0 n.toNat S) (jforget 0)) _ _
  refine tell_rd ⟨c, h⟩ ?_
  rw [h.lp.c0, Int.toNat_natCast]
  have b := tell_back c S c X X h (Nat.le_refl _) h.rc
  unfold seqS
  unfold Tell at b
  cases e : (jback 0 c S).2 with
  | ok =>
    rw [e] at b
    obtain ⟨b1, b2⟩ : Rec (jback 0 c S).1.words c X ∧ (jback 0 c S).1.words.drop 81 = X := b
    exact (tell_forget b1).mono (fun W hw => ⟨hw.1, by rw [hw.2]; exact b2⟩) (fun _ hw => hw)
  | cut =>
    rw [e] at b
    show Tell (jback 0 c S) _ _
    unfold Tell
    rw [e]; exact b
  | fault => rw [e] at b; exact b.elim
theorem tell_commit {S : CS} {c : Nat} {X : List Int} (h : Rec S.words c X) : Tell (jcommit 0 true S) (fun W => LP W 0 ∧ W.drop 81 = S.words.drop 81) (fun W => ∃ c', Rec W c' X) := tell_forget h
theorem tell_abort {S : CS} {c : Nat} {X : List Int} (h : Rec S.words c X) : Tell (jabort 0 true S) (fun W => LP W 0 ∧ W.drop 81 = X) (fun W => ∃ c', Rec W c' X) := tell_putback h
theorem jback_on : ∀ (k : Nat) (ws : List Int), ∃ ws', jback 0 k ⟨ws, none, true⟩ = (⟨ws', none, true⟩, .ok)
  | 0, ws => ⟨ws, rfl⟩
  | k + 1, ws => jback_on k (ws.set (ws.getD (0 + 1 + 2 * k) 0).toNat (ws.getD (0 + 2 + 2 * k) 0))
theorem jputback_on (ws : List Int) : ∃ ws', jputback 0 ⟨ws, none, true⟩ = (⟨ws', none, true⟩, .ok) := by
  obtain ⟨ws1, e1⟩ := jback_on (ws.getD 0 0).toNat ws
  have e : jputback 0 ⟨ws, none, true⟩ = seqS (jback 0 (ws.getD 0 0).toNat ⟨ws, none, true⟩) (jforget 0) := rfl
  rw [e, e1]
  show ∃ ws', jforget 0 ⟨ws1, none, true⟩ = _
  unfold jforget
  rw [rdS_on rfl]
  by_cases h : ws1.getD 0 0 = 0
  · exact ⟨ws1, by rw [if_neg (by simpa using h)]⟩
  · exact ⟨ws1.set 0 0, by rw [if_pos h]; rfl⟩

theorem at_words {ws : List Int} {i : Nat} (h : i < ws.length) : atI (ws.map V.int) (i : Int) = some (.int (ws.getD i 0)) :=
  atI_nat (by rw [List.getElem?_map, List.getElem?_eq_getElem h, List.getD_eq_getElem?_getD, List.getElem?_eq_getElem h]; rfl)
theorem log_small {j : Int} (h : j.natAbs < 2 ^ 200) : j.natAbs.log2 < 9000 := by
  by_cases h0 : j.natAbs = 0
  · rw [h0]; decide
  · have := (Nat.log2_lt h0).mpr h
    omega
theorem i_gTup2 {K : PySem.W.Frag} {n i j : Nat} {a : Addr} {x y : V} {σ : L2.St} {H : Hp} {Q : L2.St → Hp → Prop} (hn : n = 2) (h : SqT K H a [x, y]) (q : Q ((σ.set i (some x)).set j (some y)) H) : gTup K n (gCons (gName i) (gCons (gName j) gNil)) (.ref a) σ H Q :=
  ⟨a, [x, y], rfl, h, hn.symm, x, [y], rfl, y, [], rfl, rfl, q⟩
theorem i_forG {J : It} {n : Nat} {G : Hp → Prop} {Y : Nat → Hp → V → Hp → Prop} (w : Walk J n G Y) {g : TG} {tb : TS} {D : Ends} {σ : L2.St} {H : Hp} (Pv : Nat → L2.St → Hp → Prop) (h0 : Pv 0 σ H) (hG : ∀ i σ H, i ≤ n → Pv i σ H → G H)
    (hs : ∀ i x σ H H', i < n → Pv i σ H → Y i H x H' → g x σ H' fun σ2 H2 => tb { D with nx := Pv (i + 1), ct := Pv (i + 1), bk := D.nx } σ2 H2) (hd : ∀ σ H, Pv n σ H → D.nx σ H) : rForJ J g tb D σ H := for_it w Pv h0 hG hs hd
/-! ### the steps -/
def Chg (H : Hp) (l : Addr) (cs : List (Nat × Int)) : Prop := ∃ rs : List Addr, H l = some (.lst (rs.map V.ref)) ∧ rs.length = cs.length ∧ ∀ (i : Nat) (r : Addr) (c : Nat × Int), rs[i]? = some r → cs[i]? = some c → H r = some (.tup [.int c.1, .int c.2])
def CsOk (cs : List (Nat × Int)) : Prop := 1 ≤ cs.length ∧ cs.length ≤ 8 ∧ ∀ c ∈ cs, 80 < c.1 ∧ c.1 < 87
def KdOk (k : Str) : Prop := k = "single" ∨ k = "commit" ∨ k = "abort"
theorem Chg.same {H H' : Hp} {l : Addr} {cs : List (Nat × Int)} (h : Chg H l cs) (s : Same H H') : Chg H' l cs := by
  obtain ⟨rs, h1, h2, h3⟩ := h
  exact ⟨rs, s _ _ h1, h2, fun i r c a b => s _ _ (h3 i r c a b)⟩
def sp_law_step {K : PySem.W.Frag} {mg : Str → Option Value} (_ : Txt K mg) : Sp := fun vs H Q _ => ∃ d : Int, vs = [.int d] ∧ ∀ (H' : Hp) (r cl : Addr) (k : Str) (cs : List (Nat × Int)), Same H H' → H cl = none → H r = none → H' r = some (.tup [.str k, .ref cl]) → Chg H' cl cs → CsOk cs → KdOk k → Q (.ref r) H'
theorem ok_law_step (T : Txt K mg) : FnOk P w K mg base CX0 1 T.f_law_step T.d_law_step ["_law_draw"] (sp_law_step T) := by
  refine T.k_law_step.ok sc_law_step (fun vs H Q E h => ?_) (fun cdv A outer s H vs Q E hr h => ?_)
  · obtain ⟨d, rfl, _⟩ := h
    rfl
  · obtain ⟨d, rfl, q⟩ := h
    refine ⟨_, (pss_cons (ps_set (i := 1) sc_law_step.nd rfl (.inl rfl) (pe_op op_fdivW (pv 0) pe_int))
      (pss_cons (ps_set (i := 2) sc_law_step.nd rfl (.inl rfl) (pe_lst pa_nil))
      (pss_cons (ps_for PassesOwn.never rfl (pi_range1 (by rfl) T.m_range (pa_cons (pe_op op_add pe_int (pe_op op_modP (pv 1) pe_int)) pa_nil)) (pg_name (i := 3) sc_law_step.nd rfl (Or.inl rfl)) (pss_one (ps_expr (pe_bmK K PySem.F.plainAttrs_list PySem.F.slot_list_append PySem.F.type_list_append mt_append (pv 2) (pa_cons (pe_tup (pa_cons (pe_op op_add pe_int (pe_op op_modP (pe_op op_fdivW (pv 1) (pe_op op_add (pv 3) pe_int)) pe_int)) (pa_cons (pe_op op_sub (pe_op op_modP (pe_op op_fdivW (pv 1) (pe_op op_add (pv 3) pe_int)) pe_int) pe_int) pa_nil))) pa_nil)))))
      (pss_one (ps_ret (pe_tup (pa_cons (pe_ix (ix_listK K) (pe_lst (pa_cons pe_str (pa_cons pe_str (pa_cons pe_str pa_nil)))) (pe_op op_modP (pv 0) pe_int) (fun _ _ => rfl)) (pa_cons (pv 2) pa_nil)))))))), ?_⟩
    walk_at "rd"
    refine rdSeq ?_
    walk_at "rd"
    refine ⟨⟨by decide, by decide⟩, rdSeq ?_⟩
    walk_at "rd"
    intro cl hcl
    refine rdSeq ?_
    walk_at "rd"
    obtain ⟨m, em, hm1, hm2⟩ : ∃ m : Nat, 1 + d / 3 % 8 = (m : Int) ∧ 1 ≤ m ∧ m ≤ 8 := ⟨(1 + d / 3 % 8).toNat, by omega, by omega, by omega⟩
    rw [em]
    generalize d / 3 = rest
    refine ⟨by omega, by omega, i_for walk_range (fun i σ H' => (∃ cs, Same H H' ∧ Chg H' cl cs ∧ cs.length = i ∧ ∀ c ∈ cs, 80 < c.1 ∧ c.1 < 87) ∧ ∃ y, σ = [some (.int d), some (.int rest), some (.ref cl), y])
      ⟨⟨[], same_new hcl, ⟨[], upd_same, rfl, fun _ _ _ h => nomatch h⟩, rfl, fun _ h => nomatch h⟩, _, rfl⟩ (fun _ _ _ _ _ => trivial) ?_ ?_⟩
    · rintro i _ σ _ H1 hi ⟨⟨cs, s1, ⟨rs, g1, g2, g3⟩, el, hcs⟩, y, rfl⟩ ⟨rfl, rfl⟩
      have hi : i < m := by have : i < ((m : Int)).toNat := hi; omega
      walk_at "rd"
      refine ⟨ty_app (sqL_of g1), ⟨by omega, log_small (by omega)⟩, ⟨by omega, log_small (by omega)⟩, fun p hp => ?_⟩
      have npc : p ≠ cl := fun e => by subst e; rw [hp] at g1; cases g1
      obtain ⟨pl, epl, hpl1, hpl2⟩ : ∃ pl : Nat, 81 + rest / (0 + (i : Int) + 2) % 6 = (pl : Int) ∧ 80 < pl ∧ pl < 87 := ⟨(81 + rest / (0 + (i : Int) + 2) % 6).toNat, by omega, by omega, by omega⟩
      rw [epl]
      refine i_app (same_new hp _ _ g1) (by rw [List.length_map]; exact line5' (by omega)) ?_
      refine ⟨?_, cs ++ [(pl, rest / (0 + (i : Int) + 5) % 200 - 100)], ⟨rs ++ [p], by rw [upd_same, List.map_append]; rfl, by simp [g2], fun j r c a b => ?_⟩, by simp [el], fun c hc => ?_⟩
      · intro b o e
        rw [upd_ne (ne_of_none e hcl)]
        exact same_new hp _ _ (s1 _ _ e)
      · have jr : j < (rs ++ [p]).length := List.getElem?_eq_some_iff.mp a |>.1
        rw [List.length_append, List.length_singleton] at jr
        by_cases hj : j < rs.length
        · rw [List.getElem?_append_left hj] at a
          rw [List.getElem?_append_left (by omega)] at b
          have := g3 j r c a b
          rw [upd_ne (ne_of this g1 (by intro z; cases z))]
          exact same_new hp _ _ this
        · obtain rfl : j = rs.length := by omega
          rw [List.getElem?_append_right (Nat.le_refl _), Nat.sub_self] at a
          rw [g2, List.getElem?_append_right (Nat.le_refl _), Nat.sub_self] at b
          cases a; cases b
          rw [upd_ne npc, upd_same]
      · rcases List.mem_append.mp hc with h | h
        · exact hcs c h
        · rw [List.mem_singleton.mp h]; exact ⟨hpl1, hpl2⟩
    · rintro σ H1 ⟨⟨cs, s1, hch, el, hcs⟩, y, rfl⟩
      walk_at "rd"
      intro p hp
      have em' : cs.length = m := by have : ((m : Int)).toNat = m := rfl; omega
      obtain ⟨k, hk, hk2⟩ : ∃ k : Str, atI [V.str "single", V.str "commit", V.str "abort"] (d % 3) = some (.str k) ∧ KdOk k := by
        have : d % 3 = 0 ∨ d % 3 = 1 ∨ d % 3 = 2 := by omega
        rcases this with e | e | e
        · exact ⟨"single", by rw [e]; rfl, .inl rfl⟩
        · exact ⟨"commit", by rw [e]; rfl, .inr (.inl rfl)⟩
        · exact ⟨"abort", by rw [e]; rfl, .inr (.inr rfl)⟩
      refine i_ixL (sqL_of upd_same) hk fun r hr => ?_
      have s2 : Same H1 (upd (upd H1 p (.lst [V.str "single", V.str "commit", V.str "abort"])) r (.tup [.str k, .ref cl])) := (same_new hp).trans (same_new hr)
      exact q _ r cl k cs (s1.trans s2) hcl (s1.free ((same_new hp).free hr)) upd_same (hch.same s2) ⟨by omega, by omega, hcs⟩ hk2
def behind (D : List Int) (k : Str) (cs : List (Nat × Int)) : List Int := if k = "abort" then D else (if k = "single" then cs.take 1 else cs).foldl (fun D c => D.set (c.1 - 81) c.2) D
inductive MidB (H1 : Hp) (nl : Addr) (cs : List (Nat × Int)) (pre : Addr → Option V → Option V → L2.St) (σ : L2.St) (H2 : Hp) : Prop where
  | mk (c2 : Addr) (y4 y5 : Option V) (s : Same H1 H2) (ch : Chg H2 c2 cs) (ne : nl ≠ c2) (e : σ = pre c2 y4 y5)
def sp_law_behind {K : PySem.W.Frag} {mg : Str → Option Value} (_ : Txt K mg) : Sp := fun vs H Q _ => ∃ (wl r cl : Addr) (D : List Int) (k : Str) (cs : List (Nat × Int)), vs = [.ref wl, .ref r] ∧ H wl = some (.lst (D.map V.int)) ∧ D.length = 6 ∧ H r = some (.tup [.str k, .ref cl]) ∧ Chg H cl cs ∧ CsOk cs ∧ KdOk k ∧
  ∀ (H' : Hp) (nl : Addr), Same H H' → H nl = none → H' nl = some (.lst ((behind D k cs).map V.int)) → Q (.ref nl) H'
theorem ok_law_behind (T : Txt K mg) : FnOk P w K mg base CX0 1 T.f_law_behind T.d_law_behind ["_law_words", "_law_step_here"] (sp_law_behind T) := by
  refine T.k_law_behind.ok sc_law_behind (fun vs H Q E h => ?_) (fun cdv A outer s H vs Q E hr h => ?_)
  · obtain ⟨wl, r, cl, D, k, cs, rfl, _⟩ := h
    rfl
  · obtain ⟨wl, r, cl, D, k, cs, rfl, hwl, hD, hr', hch, hcs, hk, q⟩ := h
    refine ⟨_, (pss_cons (ps_set (i := 0) sc_law_behind.nd rfl (.inl rfl) (pe_callTy call_list_of (by rfl) T.m_list (by decide +kernel) (pa_cons (pv 0) pa_nil)))
      (pss_cons (ps_asg (pv 1) (pg_tup rfl (pgs_cons (pg_name (i := 2) sc_law_behind.nd rfl (Or.inl rfl)) (pgs_cons (pg_name (i := 3) sc_law_behind.nd rfl (Or.inl rfl)) pgs_nil))))
      (C8.pss_cut (ps_if (pt_cmpR op_eq (pv 2) pe_str (nomark _)) (pss_one (ps_set (i := 3) sc_law_behind.nd rfl (.inl rfl) (pe_slice (sl_listK K) (pv 3) po_none (po_some pe_int)))) pss_nil)
      (C8.pss_cut (ps_if (pt_cmpR op_ne (pv 2) pe_str (nomark _)) (pss_one (ps_for PassesOwn.never rfl (pi_list (pv 3)) (pg_tup rfl (pgs_cons (pg_name (i := 4) sc_law_behind.nd rfl (Or.inl rfl)) (pgs_cons (pg_name (i := 5) sc_law_behind.nd rfl (Or.inl rfl)) pgs_nil))) (pss_one (ps_asg (pv 5) (pg_sub (pv 0) (pe_op op_sub (pv 4) pe_int) set_list))))) pss_nil)
      (pss_one (ps_ret (pv 0))))))), ?_⟩
    walk_at "rd"
    refine rdSeq ?_
    walk_at "rd"
    refine ⟨_, .inl (sqL_of hwl), fun nl hnl => ?_⟩
    have s1 : Same H (upd H nl (.lst (D.map V.int))) := same_new hnl
    have hn1 : upd H nl (.lst (D.map V.int)) nl = some (.lst (D.map V.int)) := upd_same
    generalize upd H nl (.lst (D.map V.int)) = H1 at s1 hn1
    refine rdSeq ?_
    walk_at "rd"
    refine i_gTup2 rfl (sqT_of (s1 _ _ hr')) ?_
    walk_at "rd"
    have hch1 := hch.same s1
    have ncl : nl ≠ cl := fun e => by obtain ⟨rs, g1, _⟩ := hch; subst e; rw [hnl] at g1; cases g1
    refine rdCut (MidB H1 nl (if k = "single" then cs.take 1 else cs) (fun c2 y4 y5 => [some (.ref nl), some (.ref r), some (.str k), some (.ref c2), y4, y5])) ?_ ?_
    · walk_at "rd"
      refine ite2 (fun e => ?_) (fun e => ⟨cl, _, _, fun _ _ h => h, by rw [if_neg e]; exact hch1, ncl, rfl⟩)
      obtain ⟨rs, g1, g2, g3⟩ := hch1
      refine i_slL (sqL_of g1) fun c2 hc2 => ?_
      refine ⟨c2, _, _, same_new hc2, ?_, ne_of_none hn1 hc2, rfl⟩
      rw [if_pos e]
      refine ⟨rs.take 1, by rw [upd_same]; exact congrArg (fun z => some (HO.lst z)) (by rw [List.map_take]; exact cut_take (n := 1)), by rw [List.length_take, List.length_take, g2], fun j r c a b => same_new hc2 _ _ (g3 j r c ?_ ?_)⟩
      · rw [List.getElem?_take] at a
        split at a
        · exact a
        · cases a
      · rw [List.getElem?_take] at b
        split at b
        · exact b
        · cases b
    rintro σ H2 ⟨c2, y4, y5, s2, hc2, nc2, rfl⟩
    have eb : behind D k cs = if k = "abort" then D else (if k = "single" then cs.take 1 else cs).foldl (fun D c => D.set (c.1 - 81) c.2) D := rfl
    have hcs2 : ∀ c ∈ (if k = "single" then cs.take 1 else cs), 80 < c.1 ∧ c.1 < 87 := fun c hc => by
      split at hc
      · exact hcs.2.2 c (List.mem_of_mem_take hc)
      · exact hcs.2.2 c hc
    generalize (if k = "single" then cs.take 1 else cs) = cs2 at hc2 eb hcs2
    have hn2 := s2 _ _ hn1
    refine rdCut (fun σ H' => (∃ y3 y4 y5, σ = [some (.ref nl), some (.ref r), some (.str k), y3, y4, y5]) ∧ Kp [nl] H2 H' ∧ H' nl = some (.lst ((behind D k cs).map V.int))) ?_ ?_
    · walk_at "rd"
      by_cases ek : k = "abort"
      · refine i_else (by simpa using ek) ?_
        rw [eb, if_pos ek]
        exact ⟨Kp.refl _ _, hn2⟩
      · refine i_then (by simpa using ek) ?_
        rw [eb, if_neg ek]
        obtain ⟨rs, g1, g2, g3⟩ := hc2
        refine ⟨⟨_, sqL_of g1⟩, i_forG (walk_listL (l := rs) (r := V.ref)) (fun i σ H' => (∃ y4 y5, σ = [some (.ref nl), some (.ref r), some (.str k), some (.ref c2), y4, y5]) ∧ Kp [nl] H2 H' ∧ H' nl = some (.lst (((cs2.take i).foldl (fun D c => D.set (c.1 - 81) c.2) D).map V.int)))
          ⟨⟨_, _, rfl⟩, Kp.refl _ _, hn2⟩ (fun i σ H' _ h => sqL_of (h.2.1 _ _ (by simpa using Ne.symm nc2) g1)) ?_ ?_⟩
        · rintro i _ σ _ H3 hi ⟨⟨y4, y5, rfl⟩, kp3, hn3⟩ ⟨rfl, ri, hri, rfl⟩
          obtain ⟨c, hci⟩ : ∃ c, cs2[i]? = some c := ⟨cs2[i]'(by omega), List.getElem?_eq_getElem (by omega)⟩
          have hti := g3 i ri c hri hci
          have nri : ri ≠ nl := ne_of hti hn2 (by intro z; cases z)
          have hti3 := kp3 _ _ (by simpa using nri) hti
          refine i_gTup2 rfl (sqT_of hti3) ?_
          walk_at "rd"
          have hc := hcs2 c (List.mem_of_getElem? hci)
          have fl : ∀ (l : List (Nat × Int)) (D : List Int), (l.foldl (fun D c => D.set (c.1 - 81) c.2) D).length = D.length := fun l => by
            induction l with
            | nil => intro D; rfl
            | cons c l ih => intro D; rw [List.foldl_cons, ih, List.length_set]
          rw [show (c.1 : Int) - 81 = ((c.1 - 81 : Nat) : Int) by omega]
          refine i_setL hn3 (j := c.1 - 81) (ixN_of (by rw [List.length_map, fl]; omega)) ?_
          refine ⟨kp3.trans (Kp.set (by simp)), ?_⟩
          rw [upd_same, List.take_add_one, hci, List.foldl_append, ← List.map_set]
          rfl
        · rintro σ H3 ⟨⟨y4, y5, rfl⟩, kp3, hn3⟩
          rw [g2, List.take_length] at hn3
          exact ⟨⟨_, _, _, rfl⟩, kp3, hn3⟩
    · rintro σ H3 ⟨⟨y3, y4, y5, rfl⟩, kp3, hn3⟩
      walk_at "rd"
      refine q H3 nl ?_ hnl hn3
      intro b o e
      exact kp3 b o (by simpa using ne_of_none e hnl) (s2 _ _ (s1 _ _ e))
theorem tellE_of {K : PySem.W.Frag} {mg : Str → Option Value} {T : Txt K mg} {Q : VK} {E : XK} {H' : Hp} {r : CS × Out} {okP cutP : List Int → Prop} (h : Tell r okP cutP) (h1 : okP r.1.words → Q .non H') (h2 : cutP r.1.words → E (.ref T.c_PowerCut) none H') : tellE T Q E r.2 H' := by
  unfold Tell at h
  unfold tellE
  cases e : r.2 with
  | ok => rw [e] at h; exact h1 h
  | cut => rw [e] at h; exact h2 h
  | fault => rw [e] at h; exact h.elim
theorem tellJ_of {K : PySem.W.Frag} {mg : Str → Option Value} {T : Txt K mg} {Q : VK} {E : XK} {H' : Hp} {r : CS × Out} {okP cutP : List Int → Prop} {j c : Addr} {st : Nat} {b : Bool} (h : Tell r okP cutP) (h1 : okP r.1.words → JrnAt T.c_Journal H' j c st false → Q .non H') (h2 : cutP r.1.words → E (.ref T.c_PowerCut) none H') : tellJ T j c st b Q E r.2 H' := by
  unfold Tell at h
  unfold tellJ
  cases e : r.2 with
  | ok => rw [e] at h; exact h1 h
  | cut => rw [e] at h; exact fun _ => h2 h
  | fault => rw [e] at h; exact h.elim
/-- a step that may be torn -/
def sp_law_do {K : PySem.W.Frag} {mg : Str → Option Value} (T : Txt K mg) : Sp := fun vs H Q E => ∃ (j c l r cl : Addr) (S : CS) (k : Str) (cs : List (Nat × Int)), vs = [.ref j, .ref r] ∧ JrnAt T.c_Journal H j c 0 false ∧ CellsAt T.c_Cells H c l S ∧ LP S.words 0 ∧ H r = some (.tup [.str k, .ref cl]) ∧ Chg H cl cs ∧ cl ≠ l ∧ CsOk cs ∧ KdOk k ∧
  (∀ H' S', JrnAt T.c_Journal H' j c 0 false → CellsAt T.c_Cells H' c l S' → Kp [c, l, j] H H' → LP S'.words 0 → S'.words.drop 81 = behind (S.words.drop 81) k cs → Q .non H') ∧
  (∀ H' S' c', CellsAt T.c_Cells H' c l S' → Kp [c, l, j] H H' → Rec S'.words c' (S.words.drop 81) → E (.ref T.c_PowerCut) none H')
theorem ok_law_do (T : Txt K mg) : FnOk P w K mg base (L2.CX P w) 5 T.f_law_do T.d_law_do ["_law_journal", "_law_step_here"] (sp_law_do T) := by
  refine T.k_law_do.okX sc_law_do (fun vs H Q E h => ?_) (fun cdv A outer s H vs Q E hr h => ?_)
  · obtain ⟨j, c, l, r, cl, S, k, cs, rfl, _⟩ := h
    rfl
  · obtain ⟨j, c, l, r, cl, S, k, cs, rfl, hj, hc, hLP, hr', hch, ncl, hcs, hk, q1, q2⟩ := h
    refine ⟨_, (pss_cons (ps_asg (pv 1) (pg_tup rfl (pgs_cons (pg_name (i := 2) sc_law_do.nd rfl (Or.inl rfl)) (pgs_cons (pg_name (i := 3) sc_law_do.nd rfl (Or.inl rfl)) pgs_nil))))
      (pss_cons (ps_if (pt_cmpR op_eq (pv 2) pe_str (nomark _)) (pss_cons (ps_expr (pe_methS (pv 0) T.cl_Journal T.me_Journal_change (ok_Journal_change T) (hr.mono (by decide)) T.b_Journal_change (fun σ => passAt (takes_of rfl rfl rfl rfl) σ) (pa_cons (pe_ix (ix_tupK K) (pe_ix (ix_listK K) (pv 3) pe_int (fun _ _ => rfl)) pe_int (fun _ _ => rfl)) (pa_cons (pe_ix (ix_tupK K) (pe_ix (ix_listK K) (pv 3) pe_int (fun _ _ => rfl)) pe_int (fun _ _ => rfl)) pa_nil))))
      (pss_one (ps_retN))) pss_nil)
      (pss_cons (ps_expr (pe_meth0S (pv 0) T.cl_Journal T.me_Journal_begin (ok_Journal_begin T) (hr.mono (by decide)) T.b_Journal_begin (fun σ => passAt (takes_of rfl rfl rfl rfl) σ)))
      (pss_cons (ps_for (passes_of rfl) rfl (pi_list (pv 3)) (pg_tup rfl (pgs_cons (pg_name (i := 4) sc_law_do.nd rfl (Or.inl rfl)) (pgs_cons (pg_name (i := 5) sc_law_do.nd rfl (Or.inl rfl)) pgs_nil))) (pss_one (ps_expr (pe_methS (pv 0) T.cl_Journal T.me_Journal_change (ok_Journal_change T) (hr.mono (by decide)) T.b_Journal_change (fun σ => passAt (takes_of rfl rfl rfl rfl) σ) (pa_cons (pv 4) (pa_cons (pv 5) pa_nil))))))
      (pss_one (ps_if (pt_cmpR op_eq (pv 2) pe_str (nomark _)) (pss_one (ps_expr (pe_meth0S (pv 0) T.cl_Journal T.me_Journal_commit (ok_Journal_commit T) (hr.mono (by decide)) T.b_Journal_commit (fun σ => passAt (takes_of rfl rfl rfl rfl) σ)))) (pss_one (ps_expr (pe_meth0S (pv 0) T.cl_Journal T.me_Journal_abort (ok_Journal_abort T) (hr.mono (by decide)) T.b_Journal_abort (fun σ => passAt (takes_of rfl rfl rfl rfl) σ)))))))))), ?_⟩
    walk_at "rd"
    refine rdSeq ?_
    walk_at "rd"
    refine i_gTup2 rfl (sqT_of hr') ?_
    walk_at "rd"
    obtain ⟨dj, hjo⟩ := id hj
    obtain ⟨dx, ho⟩ := hc.ob
    obtain ⟨rs, g1, g2, g3⟩ := hch
    have njc : j ≠ c := jrn_ne_cells hjo ho
    have njl : j ≠ l := ne_of hjo hc.ws (by intro z; cases z)
    have nclc : cl ≠ c := ne_of g1 ho (by intro z; cases z)
    have nclj : cl ≠ j := ne_of g1 hjo (by intro z; cases z)
    have up3 : ∀ {H1 H2 : Hp}, Kp [c, l] H1 H2 → Kp [c, l, j] H1 H2 := fun k => k.mono (by simp +contextual)
    by_cases ek : k = "single"
    · refine rdSeq ?_
      walk_at "rd"
      refine i_then ek ?_
      have h0 : 0 < cs.length := hcs.1
      obtain ⟨c0, hc0⟩ : ∃ c0, cs[0]? = some c0 := ⟨cs[0], List.getElem?_eq_getElem h0⟩
      obtain ⟨r0, hr0⟩ : ∃ r0, rs[0]? = some r0 := ⟨rs[0]'(by omega), List.getElem?_eq_getElem (by omega)⟩
      have ht0 := g3 0 r0 c0 hr0 hc0
      have hp0 := hcs.2.2 c0 (List.mem_of_getElem? hc0)
      have at0 : atI (rs.map V.ref) 0 = some (.ref r0) := atI_nat (j := 0) (by rw [List.getElem?_map, hr0]; rfl)
      refine rdSeq ?_
      walk_at "rd"
      refine i_meth hjo rfl (i_ixL (sqL_of g1) at0 (i_ixT (sqT_of ht0) (atI_nat (j := 0) rfl) (i_ixL (sqL_of g1) at0 (i_ixT (sqT_of ht0) (atI_nat (j := 1) rfl) ?_))))
      refine ⟨j, c, l, 0, false, S, c0.1, c0.2, rfl, hj, hc, by rw [hLP.len]; exact hp0.2, (fun e => nomatch e), fun H1 hc1 kp1 => tellE_of (tell_single hLP hp0) (fun hh => ?_) (fun rc => q2 H1 _ _ hc1 (up3 kp1) rc)⟩
      refine q1 H1 _ (hj.keep kp1 (by simp [njc, njl])) hc1 (up3 kp1) hh.1 ?_
      rw [hh.2]
      unfold behind
      rw [if_neg (by rw [ek]; decide), if_pos ek]
      cases cs with
      | nil => cases hc0
      | cons a t => cases hc0; rfl
    · have eb : ∀ X, behind X k cs = if k = "abort" then X else cs.foldl (fun D c => D.set (c.1 - 81) c.2) X := fun X => by
        unfold behind
        rw [if_neg ek]
      refine rdSeq ?_
      walk_at "rd"
      refine i_else ek (rdSeq ?_)
      walk_at "rd"
      refine i_meth hjo rfl ⟨j, c, 0, false, rfl, hj, fun _ H1 hj1 kp1 => rdSeq ?_, fun e => nomatch e⟩
      have kp1 : Kp [c, l, j] H H1 := kp1.mono (by simp)
      have hc1 : CellsAt T.c_Cells H1 c l S := by
        obtain ⟨dx1, ho1⟩ := hc.ob
        rename_i kpj
        exact hc.keep kpj (by simpa using Ne.symm njc) (by simpa using Ne.symm njl)
      walk_at "rd"
      have hcl : ∀ {H2 : Hp}, Kp [c, l, j] H H2 → H2 cl = some (.lst (rs.map V.ref)) := fun kp => kp _ _ (by simp [nclc, ncl, nclj]) g1
      refine ⟨⟨_, sqL_of (hcl kp1)⟩, i_forG (walk_listL (l := rs) (r := V.ref)) (fun i σ H' => (∃ S', JrnAt T.c_Journal H' j c 0 true ∧ CellsAt T.c_Cells H' c l S' ∧ Rec S'.words i (S.words.drop 81) ∧ S'.words.drop 81 = (cs.take i).foldl (fun D c => D.set (c.1 - 81) c.2) (S.words.drop 81)) ∧ Kp [c, l, j] H H' ∧ ∃ y4 y5, σ = [some (.ref j), some (.ref r), some (.str k), some (.ref cl), y4, y5])
        ⟨⟨S, hj1, hc1, rec_zero hLP, rfl⟩, kp1, _, _, rfl⟩ (fun i σ H' _ h => sqL_of (hcl h.2.1)) ?_ ?_⟩
      · rintro i _ σ _ H3 hi ⟨⟨S', hj3, hc3, rc3, dr3⟩, kp3, y4, y5, rfl⟩ ⟨rfl, ri, hri, rfl⟩
        obtain ⟨ci, hci⟩ : ∃ ci, cs[i]? = some ci := ⟨cs[i]'(by omega), List.getElem?_eq_getElem (by omega)⟩
        have hti := g3 i ri ci hri hci
        have hti3 := kp3 _ _ (by simp [ne_of hti ho (by intro z; cases z), ne_of hti hc.ws (by intro z; cases z), ne_of hti hjo (by intro z; cases z)]) hti
        have hpi := hcs.2.2 ci (List.mem_of_getElem? hci)
        refine i_gTup2 rfl (sqT_of hti3) ?_
        obtain ⟨dj3, hjo3⟩ := id hj3
        walk_at "rd"
        have h8 := hcs.2.1
        refine i_meth hjo3 rfl ⟨j, c, l, 0, true, S', ci.1, ci.2, rfl, hj3, hc3, by rw [rc3.lp.len]; exact hpi.2, (fun _ => ⟨by have := rc3.lp.len; omega, by rw [rc3.lp.c0]; omega, by rw [rc3.lp.c0]; have := rc3.lp.c40; omega⟩), fun H4 hc4 kp4 => tellE_of (tell_change rc3 (by omega) hpi) (fun hh => ?_) (fun ⟨c', rc⟩ => q2 H4 _ c' hc4 (kp3.trans (up3 kp4)) rc)⟩
        refine ⟨hj3.keep kp4 (by simp [njc, njl]), ⟨_, hc4, hh.1, ?_⟩, kp3.trans (up3 kp4)⟩
        rw [hh.2, dr3, List.take_add_one, hci, List.foldl_append]
        rfl
      · rintro σ H3 ⟨⟨S', hj3, hc3, rc3, dr3⟩, kp3, y4, y5, rfl⟩
        rw [g2, List.take_length] at dr3
        obtain ⟨dj3, hjo3⟩ := id hj3
        dsimp only
        walk_at "rd"
        have h87 : 0 < S'.words.length := by rw [rc3.lp.len]; decide
        by_cases ec : k = "commit"
        · refine i_then ec (i_meth hjo3 rfl ⟨j, c, l, 0, true, S', rfl, hj3, hc3, h87, fun H4 hc4 kp4 => tellJ_of (tell_commit rc3) (fun hh hj4 => q1 H4 _ hj4 hc4 (kp3.trans kp4) hh.1 ?_) (fun ⟨c', rc⟩ => q2 H4 _ c' hc4 (kp3.trans kp4) rc)⟩)
          rw [hh.2, dr3, eb, if_neg (by rw [ec]; decide)]
        · refine i_else ec (i_meth hjo3 rfl ⟨j, c, l, 0, true, S', rfl, hj3, hc3, (fun _ => rc3.lp.log), fun H4 hc4 kp4 => tellJ_of (tell_abort rc3) (fun hh hj4 => q1 H4 _ hj4 hc4 (kp3.trans kp4) hh.1 ?_) (fun ⟨c', rc⟩ => q2 H4 _ c' hc4 (kp3.trans kp4) rc)⟩)
          have ea : k = "abort" := by
            rcases hk with h | h | h
            · exact absurd h ek
            · exact absurd h ec
            · exact h
          rw [hh.2, eb, if_pos ea]
/-- the power comes back, perhaps for a while -/
def sp_law_back {K : PySem.W.Frag} {mg : Str → Option Value} (T : Txt K mg) : Sp := fun vs H Q _ => ∃ (c l : Addr) (S : CS) (n : Option Int) (cn : Nat) (X : List Int), vs = [.ref c, lfV n] ∧ CellsAt T.c_Cells H c l S ∧ Rec S.words cn X ∧
  ∀ (H' : Hp) (b : Bool) (S' : CS), CellsAt T.c_Cells H' c l S' → Kp [c, l] H H' → (b = true → LP S'.words 0 ∧ S'.words.drop 81 = X) → (b = false → ∃ c', Rec S'.words c' X) → (n = none → b = true ∧ S'.on = true) → Q (.bl b) H'
theorem ok_law_back (T : Txt K mg) : FnOk P w K mg base CX0 4 T.f_law_back T.d_law_back ["_law_cells", "_law_writes"] (sp_law_back T) := by
  refine T.k_law_back.ok sc_law_back (fun vs H Q E h => ?_) (fun cdv A outer s H vs Q E hr h => ?_)
  · obtain ⟨c, l, S, n, cn, X, rfl, _⟩ := h
    rfl
  · obtain ⟨c, l, S, n, cn, X, rfl, hc, hR, q⟩ := h
    refine ⟨_, (pss_cons (ps_expr (pe_meth0 (pv 0) T.cl_Cells T.me_Cells_restore (ok_Cells_restore T) (hr.mono (by decide)) T.b_Cells_restore .nil pass0))
      (C8.pss_cut (ps_if (pt_cmpR op_notN (pv 1) pe_non (nomark _)) (pss_one (ps_expr (pe_meth (pv 0) T.cl_Cells T.me_Cells_cut (ok_Cells_cut T) (hr.mono (by decide)) T.b_Cells_cut .nil pass0 (pa_cons (pv 1) pa_nil)))) pss_nil)
      (pss_cons (ps_try_only rfl rfl ⟨rfl, by decide, .inl T.g_PowerCut⟩ takes0 (fun W pn xe tk po => (pss_one (ps_expr (pe_meth0S (pe_make T.mk_Journal (ok_Journal_init T) (hr.mono (by decide)) (by rfl) T.g_Journal T.b_Journal_init .nil pass0 (pa_cons (pv 0) (pa_cons pe_int pa_nil))) T.cl_Journal T.me_Journal_put_back (ok_Journal_put_back T) (hr.mono (by decide)) T.b_Journal_put_back (fun σ => passAt tk σ))))) (fun a oe cls d pn hz hf => (pss_one (ps_ret pe_bl))))
      (pss_one (ps_ret pe_bl))))), ?_⟩
    obtain ⟨dx, ho⟩ := hc.ob
    walk_at "rd"
    refine rdSeq ?_
    walk_at "rd"
    refine i_meth ho rfl ⟨c, l, S, rfl, hc, fun H1 hc1 kp1 => ?_⟩
    refine rdCut (fun σ H2 => CellsAt T.c_Cells H2 c l ⟨S.words, n, true⟩ ∧ Kp [c, l] H H2 ∧ σ = [some (V.ref c), some (lfV n)]) ?_ ?_
    · cases n with
      | none => walk_at "rd"; exact ⟨hc1, kp1⟩
      | some m =>
        simp only [lfV]
        walk_at "rd"
        obtain ⟨dx1, ho1⟩ := hc1.ob
        exact i_meth ho1 rfl ⟨c, l, _, m, rfl, hc1, fun H2 hc2 kp2 => ⟨hc2, kp1.trans kp2⟩⟩
    rintro σ H2 ⟨hc2, kp2, rfl⟩
    refine rdSeq ?_
    walk_at "rd"
    intro x dx2 hx hdx2 ndx
    have sA : Same H2 (upd (upd H2 dx2 (.own x)) x (.ins T.c_Journal dx2 [])) := (same_new hdx2).trans (same_new (by rw [upd_ne (Ne.symm ndx)]; exact hx))
    refine ⟨x, dx2, c, 0, rfl, upd_same, fun H3 hj3 kp3 => ⟨rfl, ?_⟩⟩
    have s3 : Same H2 H3 := kp3.same sA (by simp [hx])
    have hc3 := hc2.keep (Kp.of s3 (X := [])) (by simp) (by simp)
    obtain ⟨dj3, hjo3⟩ := id hj3
    have hR3 : Rec (CS.words ⟨S.words, n, true⟩) cn X := hR
    have kpf : ∀ {H4 : Hp}, Kp [c, l, x] H3 H4 → Kp [c, l] H H4 := fun {H4} k4 b o hb e => by
      have e2 := kp2 b o hb e
      have nb : b ≠ x := fun z => by subst z; rw [hx] at e2; cases e2
      exact k4 b o (by simp only [List.mem_cons, List.not_mem_nil, or_false] at hb ⊢; exact fun z => z.elim (fun z => hb (.inl z)) fun z => z.elim (fun z => hb (.inr z)) nb) (s3 _ _ e2)
    refine i_meth hjo3 rfl ⟨x, c, l, 0, false, ⟨S.words, n, true⟩, rfl, hj3, hc3, hR3.lp.log, fun H4 hc4 kp4 => ?_⟩
    have tl := tell_putback hR3
    cases n with
    | none =>
      obtain ⟨ws', ew⟩ := jputback_on S.words
      have ew : jputback 0 ⟨S.words, none, true⟩ = (⟨ws', none, true⟩, .ok) := ew
      rw [ew] at hc4 tl ⊢
      intro _
      walk_at "rd"
      exact q H4 true _ hc4 (kpf kp4) (fun _ => tl) (fun e => nomatch e) (fun _ => ⟨rfl, rfl⟩)
    | some m =>
      refine tellJ_of tl (fun hh _ => ?_) (fun hh => ?_)
      · walk_at "rd"
        exact q H4 true _ hc4 (kpf kp4) (fun _ => hh) (fun e => nomatch e) (fun e => nomatch e)
      · refine i_catch T.ex_PowerCut_PowerCut fun a _ => ?_
        walk_at "rd"
        exact q H4 false _ hc4 (kpf kp4) (fun e => nomatch e) (fun _ => hh) (fun e => nomatch e)
/-- what was found, none of it the cells' own list -/
inductive FO (l : Addr) (H : Hp) (fl : Addr) : List (List Int) → Prop where
  | one (wl : Addr) (D : List Int) (h : H fl = some (.lst [.ref wl])) (h1 : H wl = some (.lst (D.map V.int))) (n : fl ≠ l) (n1 : wl ≠ l) : FO l H fl [D]
  | two (wl nl : Addr) (D D2 : List Int) (h : H fl = some (.lst [.ref wl, .ref nl])) (h1 : H wl = some (.lst (D.map V.int))) (h2 : H nl = some (.lst (D2.map V.int))) (n : fl ≠ l) (n1 : wl ≠ l) (n2 : nl ≠ l) : FO l H fl [D, D2]
theorem FO.keep {l fl : Addr} {H H' : Hp} {Ds : List (List Int)} {X : List Addr} (h : FO l H fl Ds) (k : Kp X H H') (hx : ∀ b xs, H b = some (.lst xs) → b ≠ l → b ∉ X) : FO l H' fl Ds := by
  cases h with
  | one wl D h h1 n n1 => exact .one wl D (k _ _ (hx _ _ h n) h) (k _ _ (hx _ _ h1 n1) h1) n n1
  | two wl nl D D2 h h1 h2 n n1 n2 => exact .two wl nl D D2 (k _ _ (hx _ _ h n) h) (k _ _ (hx _ _ h1 n1) h1) (k _ _ (hx _ _ h2 n2) h2) n n1 n2
def dL (D : List Int) : PyData := .list (D.map PyData.int)
theorem FO.dp {K : PySem.W.Frag} {l fl : Addr} {H : Hp} {Ds : List (List Int)} (h : FO l H fl Ds) : Dp K H (.ref fl) (.list (Ds.map dL)) := by
  cases h with
  | one wl D h h1 n n1 => exact .lst (sqL_of h) (.cons (.lst (sqL_of h1) (dpInts D)) .nil)
  | two wl nl D D2 h h1 h2 n n1 n2 => exact .lst (sqL_of h) (.cons (.lst (sqL_of h1) (dpInts D)) (.cons (.lst (sqL_of h2) (dpInts D2)) .nil))
theorem six_words {W : List Int} (h : W.length = 87) : (List.range 6).map (fun i => W.getD (81 + i) 0) = W.drop 81 := by
  apply List.ext_getElem?
  intro i
  rw [List.getElem?_map, List.getElem?_drop]
  by_cases hi : i < 6
  · rw [List.getElem?_range hi, Option.map_some, List.getD_eq_getElem?_getD, List.getElem?_eq_getElem (by omega)]; rfl
  · rw [List.getElem?_eq_none (by rw [List.length_range]; omega), List.getElem?_eq_none (by omega)]; rfl
theorem depth_ints : ∀ D : List Int, PyData.depthAll (D.map PyData.int) ≤ 1
  | [] => by simp [PyData.depthAll]
  | z :: D => by
    have h := depth_ints D
    simp only [List.map_cons, PyData.depthAll, PyData.depth]
    omega
theorem dL_lay (D : List Int) : (dL D).canLay0 = true := shaped_lay (PySem.W.ke_shaped_ints D)
theorem dL_depth (D : List Int) : (dL D).depth ≤ 3 := by
  have h := depth_ints D
  unfold dL
  simp only [PyData.depth]
  omega
theorem shaped_lists {Ds : List (List Int)} : SeqAt.shaped (.list (Ds.map dL)) = true := by
  have h1 : ∀ Ds : List (List Int), PyData.canLayAll0 (Ds.map dL) = true := fun Ds => by
    induction Ds with
    | nil => simp [PyData.canLayAll0]
    | cons D Ds ih => simp [PyData.canLayAll0, dL_lay D, ih]
  have h2 : ∀ Ds : List (List Int), PyData.depthAll (Ds.map dL) ≤ 3 := fun Ds => by
    induction Ds with
    | nil => simp [PyData.depthAll]
    | cons D Ds ih =>
      have := dL_depth D
      simp only [List.map_cons, PyData.depthAll]
      omega
  have h3 : PyData.depth (.list (Ds.map dL)) ≤ 64 := by
    have := h2 Ds
    simp only [PyData.depth]
    omega
  show (PyData.canLay0 (.list (Ds.map dL)) && decide (PyData.depth (.list (Ds.map dL)) ≤ 64)) = true
  rw [Bool.and_eq_true]
  exact ⟨by simp only [PyData.canLay0]; exact h1 Ds, decide_eq_true h3⟩
theorem FO.shaped {l fl : Addr} {H : Hp} {Ds : List (List Int)} (_ : FO l H fl Ds) : SeqAt.shaped (.list (Ds.map dL)) = true := shaped_lists
inductive MidF (CC c l a pd : Addr) (ds : List Int) (σ : L2.St) (H : Hp) : Prop where
  | mk (S : CS) (cn : Nat) (X : List Int) (Ds : List (List Int)) (wl j fl : Addr) (y3 y7 y8 : Option V) (hc : CellsAt CC H c l S) (hr : Rec S.words cn X) (hf : FO l H fl Ds) (hX : X ∈ Ds) (hd : H pd = some (.lst (ds.map V.int))) (e : σ = [some (.ref a), some (.ref c), some (.ref wl), y3, some (.ref pd), some (.ref j), some (.ref fl), y7, y8])
inductive MidRun (CJ CC c l a pd sl : Addr) (ds es : List Int) (σ : L2.St) (H : Hp) : Prop where
  | mk (S : CS) (D : List Int) (wl j fl : Addr) (y3 y7 y8 : Option V) (hj : JrnAt CJ H j c 0 false) (hc : CellsAt CC H c l S) (hl : LP S.words 0) (hD : S.words.drop 81 = D) (hw : H wl = some (.lst (D.map V.int))) (nw : wl ≠ l) (hf : H fl = some (.lst [.ref wl])) (nf : fl ≠ l) (hd : H pd = some (.lst (ds.map V.int))) (hs : H sl = some (.lst (es.map V.int))) (e : σ = [some (.ref a), some (.ref c), some (.ref wl), y3, some (.ref pd), some (.ref j), some (.ref fl), y7, y8])
def sp_law (K : PySem.W.Frag) : Sp := fun vs H Q _ => ∃ (a : Addr) (ns : List Int), vs = [.ref a] ∧ SqL K H a (ns.map V.int) ∧ ns.length ≤ 63 ∧ ∀ H', Q (.bl true) H'
theorem ok_law (T : Txt K mg) : FnOk P w K mg base CX0 6 T.f_law T.d_law ["_law_script"] (sp_law K) := by
  refine T.k_law.ok sc_law (fun vs H Q E h => ?_) (fun cdv A outer s H vs Q E hr h => ?_)
  · obtain ⟨a, ns, rfl, _⟩ := h
    rfl
  · obtain ⟨a, ns', rfl, hS, hl', q⟩ := h
    refine ⟨_, (pss_cons (ps_set (i := 1) sc_law.nd rfl (.inr rfl) (pe_make T.mk_Cells (ok_Cells_init T) (hr.mono (by decide)) (by rfl) T.g_Cells T.b_Cells_init .nil pass0 (pa_cons pe_int pa_nil)))
      (pss_cons (ps_set (i := 2) sc_law.nd rfl (.inl rfl) (pe_lst (pa_cons (pe_op op_sub (pe_op op_modP (pe_callB (lenLK K) (by rfl) T.m_len (by decide +kernel) (pa_cons (pv 0) pa_nil)) pe_int) pe_int) (pa_cons pe_int (pa_cons pe_int (pa_cons pe_int (pa_cons pe_int (pa_cons pe_int pa_nil))))))))
      (pss_cons (ps_for PassesOwn.never rfl (pi_range1 (by rfl) T.m_range (pa_cons pe_int pa_nil)) (pg_name (i := 3) sc_law.nd rfl (Or.inl rfl)) (pss_one (ps_expr (pe_meth (pv 1) T.cl_Cells T.me_Cells_write (ok_Cells_write T) (hr.mono (by decide)) T.b_Cells_write .nil passL (pa_cons (pe_op op_add pe_int (pv 3)) (pa_cons (pe_ix (ix_listK K) (pv 2) (pv 3) (fun _ _ => rfl)) pa_nil))))))
      (pss_cons (ps_set (i := 4) sc_law.nd rfl (.inl rfl) (pe_op op_cat (pe_call (ok_law_draws T) (hr.mono (by decide)) (by rfl) T.g_law_draws T.k_law_draws.kp T.b_law_draws .nil pass0 (pa_cons (pv 0) (pa_cons pe_int (pa_cons pe_int pa_nil)))) (pe_lst (pa_cons pe_int (pa_cons pe_int (pa_cons pe_int pa_nil))))))
      (pss_cons (ps_expr (pe_meth (pv 1) T.cl_Cells T.me_Cells_cut (ok_Cells_cut T) (hr.mono (by decide)) T.b_Cells_cut .nil pass0 (pa_cons (pe_op op_modP (pe_ix (ix_listK K) (pv 4) pe_int (fun _ _ => rfl)) pe_int) pa_nil)))
      (pss_cons (ps_set (i := 5) sc_law.nd rfl (.inl rfl) (pe_make T.mk_Journal (ok_Journal_init T) (hr.mono (by decide)) (by rfl) T.g_Journal T.b_Journal_init .nil pass0 (pa_cons (pv 1) (pa_cons pe_int pa_nil))))
      (pss_cons (ps_set (i := 6) sc_law.nd rfl (.inl rfl) (pe_lst (pa_cons (pv 2) pa_nil)))
      (pss_cons (ps_for PassesOwn.never rfl (pi_list (pe_slice (sl_listK K) (pv 4) (po_some pe_int) po_none)) (pg_name (i := 7) sc_law.nd rfl (Or.inl rfl)) (pss_cons (ps_set (i := 8) sc_law.nd rfl (.inl rfl) (pe_call (ok_law_step T) (hr.mono (by decide)) (by rfl) T.g_law_step T.k_law_step.kp T.b_law_step .nil pass0 (pa_cons (pv 7) pa_nil)))
      (pss_cons (ps_set (i := 6) sc_law.nd rfl (.inl rfl) (pe_lst (pa_cons (pv 2) (pa_cons (pe_call (ok_law_behind T) (hr.mono (by decide)) (by rfl) T.g_law_behind T.k_law_behind.kp T.b_law_behind .nil pass0 (pa_cons (pv 2) (pa_cons (pv 8) pa_nil))) pa_nil))))
      (pss_cons (ps_try_only rfl rfl ⟨rfl, by decide, .inl T.g_PowerCut⟩ takes0 (fun W pn xe tk po => (pss_one (ps_expr (pe_callS (ok_law_do T) (hr.mono (by decide)) (by rfl) T.g_law_do T.k_law_do.kp T.b_law_do (fun σ => passAt tk σ) (pa_cons (pv 5) (pa_cons (pv 8) pa_nil)))))) (fun a oe cls d pn hz hf => (pss_one (ps_break))))
      (pss_cons (ps_set (i := 2) sc_law.nd rfl (.inl rfl) (pe_ix (ix_listK K) (pv 6) pe_int (fun _ _ => rfl)))
      (pss_one (ps_set (i := 6) sc_law.nd rfl (.inl rfl) (pe_lst (pa_cons (pv 2) pa_nil)))))))))
      (pss_cons (ps_for PassesOwn.never rfl (pi_range1 (by rfl) T.m_range (pa_cons (pe_op op_modP (pe_ix (ix_listK K) (pv 4) pe_int (fun _ _ => rfl)) pe_int) pa_nil)) (pg_name (i := 3) sc_law.nd rfl (Or.inl rfl)) (pss_one (ps_expr (pe_call (ok_law_back T) (hr.mono (by decide)) (by rfl) T.g_law_back T.k_law_back.kp T.b_law_back .nil pass0 (pa_cons (pv 1) (pa_cons (pe_op op_modP (pe_op op_fdivW (pe_ix (ix_listK K) (pv 4) pe_int (fun _ _ => rfl)) (pe_op op_add (pv 3) pe_int)) pe_int) pa_nil))))))
      (pss_cons (ps_if (pt_not (pt_val (pe_call (ok_law_back T) (hr.mono (by decide)) (by rfl) T.g_law_back T.k_law_back.kp T.b_law_back .nil pass0 (pa_cons (pv 1) (pa_cons pe_non pa_nil))))) (pss_one (ps_ret pe_bl)) pss_nil)
      (pss_one (ps_ret (pe_and (pe_cmpR (op_inD (room65 hr)) (pe_lc (own := [("_law_k", 3)]) (g := gName 3) (tt := tYes) rfl sc_law.nd (pi_range1 (by rfl) T.m_range (pa_cons pe_int pa_nil)) (blkOk_by (own := [("_law_k", 3)]) (N := ["_law_script", "_law_cells", "_law_words", "_law_k", "_law_draws_here", "_law_journal", "_law_found", "_law_draw", "_law_step_here"]) (sc := defScope s_law) (by decide +kernel)) (fun _ _ _ _ _ => pg_name (i := 3) sc_law.nd rfl (Or.inl rfl)) (fun _ _ _ _ _ => pts_nil) (fun _ _ _ _ _ => (pe_meth (pv 1) T.cl_Cells T.me_Cells_read (ok_Cells_read T) (hr.mono (by decide)) T.b_Cells_read .nil passL (pa_cons (pe_op op_add pe_int (pv 3)) pa_nil)))) (pv 6) rfl) (pe_one (pe_cmpR op_eq (pe_meth (pv 1) T.cl_Cells T.me_Cells_read (ok_Cells_read T) (hr.mono (by decide)) T.b_Cells_read .nil passL (pa_cons pe_int pa_nil)) pe_int (nomark _)))))))))))))))), ?_⟩
    walk_at "rd"
    refine rdSeq ?_
    walk_at "rd"
    intro c dx hc hdx ndx
    have s0 : Same H (upd (upd H dx (.own c)) c (.ins T.c_Cells dx [])) := (same_new hdx).trans (same_new (by rw [upd_ne (Ne.symm ndx)]; exact hc))
    refine ⟨c, dx, 87, rfl, upd_same, by omega, fun H1 l hC hl kp1 => ⟨rfl, rdSeq ?_⟩⟩
    have s1 : Same H H1 := kp1.same s0 (by simp [hc])
    walk_at "rd"
    refine i_lenL (s1.seq hS) ?_
    walk_at "rd"
    generalize ((ns'.map V.int).length : Int) % 7 - 3 = x0
    intro wl hwl
    have nlw : l ≠ wl := ne_of_none hC.ws hwl
    have ncw : c ≠ wl := by obtain ⟨_, ho⟩ := hC.ob; exact ne_of_none ho hwl
    have s2 := s1.trans (same_new (o := .lst [.int x0, .int 1, .int 2, .int 3, .int 4, .int 5]) hwl)
    have hC2 := hC.keep (Kp.new (o := .lst [.int x0, .int 1, .int 2, .int 3, .int 4, .int 5]) hwl (X := [])) (by simp) (by simp)
    have hw2 : upd H1 wl (.lst [.int x0, .int 1, .int 2, .int 3, .int 4, .int 5]) wl = some (.lst (([x0, 1, 2, 3, 4, 5] : List Int).map V.int)) := upd_same
    generalize upd H1 wl (.lst [.int x0, .int 1, .int 2, .int 3, .int 4, .int 5]) = H2 at s2 hC2 hw2
    refine rdSeq ?_
    walk_at "rd"
    have hlH : H l = none := s0.free hl
    refine ⟨by decide, by decide, i_for walk_range (fun i σ H' => CellsAt T.c_Cells H' c l ⟨(List.range i).foldl (fun W k => W.set (81 + k) (([x0, 1, 2, 3, 4, 5] : List Int).getD k 0)) (List.replicate 87 0), none, true⟩ ∧ Kp [c, l] H2 H' ∧ ∃ y3, σ = [some (.ref a), some (.ref c), some (.ref wl), y3, none, none, none, none, none])
      ⟨hC2, Kp.refl _ _, _, rfl⟩ (fun _ _ _ _ _ => trivial) ?_ ?_⟩
    · rintro i _ σ _ H3 hi ⟨hc3, kp3, y3, rfl⟩ ⟨rfl, rfl⟩
      have hi : i < 6 := hi
      walk_at "rd"
      obtain ⟨dx3, ho3⟩ := hc3.ob
      rw [Int.zero_add]
      refine i_meth ho3 rfl (i_ixL (sqL_of (kp3 _ _ (by simp [Ne.symm ncw, Ne.symm nlw]) hw2)) (at_words (by exact hi)) ?_)
      have fl : ∀ (is : List Nat) (W : List Int), (is.foldl (fun W k => W.set (81 + k) (([x0, 1, 2, 3, 4, 5] : List Int).getD k 0)) W).length = W.length := fun is => by
        induction is with
        | nil => intro W; rfl
        | cons c is ih => intro W; rw [List.foldl_cons, ih, List.length_set]
      refine ⟨c, l, _, 81 + i, _, rfl, hc3, by show 81 + i < List.length _; rw [fl, List.length_replicate]; omega, fun H4 hc4 kp4 => ⟨fun _ => ?_, fun e => nomatch e⟩⟩
      refine ⟨?_, kp3.trans kp4⟩
      rw [List.range_succ, List.foldl_append]
      exact hc4
    · rintro σ H3 ⟨hc3, kp3, y3, rfl⟩
      dsimp only
      refine rdSeq ?_
      walk_at "rd"
      have s3 : Same H H3 := kp3.same s2 (by simp [hc, hlH])
      have hw3 := kp3 _ _ (by simp [Ne.symm ncw, Ne.symm nlw]) hw2
      have d6 : ((List.range 6).foldl (fun W k => W.set (81 + k) (([x0, 1, 2, 3, 4, 5] : List Int).getD k 0)) (List.replicate 87 0)).drop 81 = [x0, 1, 2, 3, 4, 5] := rfl
      have d0 : LP ((List.range 6).foldl (fun W k => W.set (81 + k) (([x0, 1, 2, 3, 4, 5] : List Int).getD k 0)) (List.replicate 87 0)) 0 := ⟨rfl, rfl, by omega, fun j hj => absurd hj (by omega)⟩
      have hc3 : CellsAt T.c_Cells H3 c l ⟨(List.range 6).foldl (fun W k => W.set (81 + k) (([x0, 1, 2, 3, 4, 5] : List Int).getD k 0)) (List.replicate 87 0), none, true⟩ := hc3
      generalize (List.range 6).foldl (fun W k => W.set (81 + k) (([x0, 1, 2, 3, 4, 5] : List Int).getD k 0)) (List.replicate 87 0) = W3 at hc3 d6 d0
      generalize ([x0, 1, 2, 3, 4, 5] : List Int) = D0 at hw3 d6
      refine ⟨a, ns', 14, rfl, s3.seq hS, hl', fun p1 H4 ms nw hm p2 hp2 => i_cat (same_new hp2 _ _ nw.at_) upd_same (by rw [List.length_map]; exact line5 (by show ms.length + 3 ≤ _; omega)) fun pd hpd => rdSeq ?_⟩
      have s5 : Same H3 (upd (upd H4 p2 (.lst [.int 17, .int 5, .int 23])) pd (.lst (ms.map V.int ++ [.int 17, .int 5, .int 23]))) := nw.same.trans ((same_new hp2).trans (same_new hpd))
      have hd5 : upd (upd H4 p2 (.lst [.int 17, .int 5, .int 23])) pd (.lst (ms.map V.int ++ [.int 17, .int 5, .int 23])) pd = some (.lst ((ms ++ [17, 5, 23]).map V.int)) := by rw [upd_same, List.map_append]; rfl
      have npd : H3 pd = none := nw.same.free ((same_new hp2).free hpd)
      have hlen : 3 ≤ (ms ++ [17, 5, 23]).length := by rw [List.length_append]; show 3 ≤ ms.length + 3; omega
      generalize upd (upd H4 p2 (.lst [.int 17, .int 5, .int 23])) pd (.lst (ms.map V.int ++ [.int 17, .int 5, .int 23])) = H5 at s5 hd5
      generalize (ms ++ [17, 5, 23] : List Int) = ds at hd5 hlen
      have nlpd : l ≠ pd := ne_of_none hc3.ws npd
      have hc5 := hc3.keep (Kp.of s5 (X := [])) (by simp) (by simp)
      have hw5 := s5 _ _ hw3
      obtain ⟨dc5, ho5⟩ := id hc5.ob
      have nlist : ∀ (b : Addr) (xs : List V), H5 b = some (.lst xs) → b ≠ c := fun b xs e => ne_of e ho5 (by intro z; cases z)
      walk_at "rd"
      refine i_meth ho5 rfl (i_ixL (sqL_of hd5) (at_words (i := 0) (by omega)) ?_)
      walk_at "rd"
      refine ⟨c, l, _, _, rfl, hc5, fun H6 hc6 kp6 => rdSeq ?_⟩
      have hw6 := kp6 _ _ (by simp [nlist _ _ hw5, Ne.symm nlw]) hw5
      have hd6 := kp6 _ _ (by simp [nlist _ _ hd5, Ne.symm nlpd]) hd5
      walk_at "rd"
      intro j dj hj hdj ndj
      have sA : Same H6 (upd (upd H6 dj (.own j)) j (.ins T.c_Journal dj [])) := (same_new hdj).trans (same_new (by rw [upd_ne (Ne.symm ndj)]; exact hj))
      refine ⟨j, dj, c, 0, rfl, upd_same, fun H7 hj7 kp7 => ⟨rfl, rdSeq ?_⟩⟩
      have s7 : Same H6 H7 := kp7.same sA (by simp [hj])
      walk_at "rd"
      intro fl hfl
      have nlfl : fl ≠ l := Ne.symm (ne_of_none (s7 _ _ hc6.ws) hfl)
      have s8 := s7.trans (same_new (o := .lst [.ref wl]) hfl)
      refine rdSeq ?_
      walk_at "rd"
      refine i_slL (sqL_of (s8 _ _ hd6)) fun sl hsl => ?_
      have e1 : cutV (ds.map V.int) (some 1) none = (ds.drop 1).map V.int := by rw [List.map_drop]; exact cut_drop (n := 1)
      rw [e1]
      have s9 := s8.trans (same_new (o := .lst ((ds.drop 1).map V.int)) hsl)
      have nsl : sl ≠ l := Ne.symm (ne_of_none (s8 _ _ hc6.ws) hsl)
      refine ⟨sl, rfl, ⟨_, sqL_of upd_same⟩, i_forPost (MidF T.c_Cells c l a pd ds) (fun hPost => ?_) ?_⟩
      · refine i_for (walk_listL (l := ds.drop 1) (r := V.int)) (fun _ => MidRun T.c_Journal T.c_Cells c l a pd sl ds (ds.drop 1))
          ⟨_, D0, wl, j, fl, _, _, _, hj7.keep ((Kp.new hfl (X := [])).trans (Kp.new hsl)) (by simp), hc6.keep (Kp.of s9 (X := [])) (by simp) (by simp), d0, d6, s9 _ _ hw6, Ne.symm nlw, same_new hsl _ _ upd_same, nlfl, s9 _ _ hd6, upd_same, rfl⟩ (fun i σ H' _ h => by obtain ⟨_, _, _, _, _, _, _, _, _, _, _, _, _, _, _, _, _, h, _⟩ := h; exact sqL_of h) ?_ ?_
        · rintro i _ σ _ H10 hi ⟨S, D, wl, j, fl, y3, y7, y8, hj10, hc10, hL, hD, hw, nw, hf, nf, hd, hs, rfl⟩ ⟨rfl, x, hx, rfl⟩
          refine rdSeq ?_
          walk_at "rd"
          refine ⟨x, rfl, fun H11 r cl k cs s11 fcl fr hr11 hch hcs hk => rdSeq ?_⟩
          have hD6 : D.length = 6 := by rw [← hD, List.length_drop, hL.len]
          have ncl : cl ≠ l := fun e => by subst e; have := hc10.ws; rw [fcl] at this; cases this
          walk_at "rd"
          refine ⟨wl, r, cl, D, k, cs, rfl, s11 _ _ hw, hD6, hr11, hch, hcs, hk, fun H12 nl s12 fnl hnl12 => ?_⟩
          have nnl : nl ≠ l := fun e => by subst e; have := s11 _ _ hc10.ws; rw [fnl] at this; cases this
          intro fl2 hfl2
          have s13 : Same H12 (upd H12 fl2 (.lst [.ref wl, .ref nl])) := same_new hfl2
          have nfl2 : fl2 ≠ l := fun e => by subst e; have := s12 _ _ (s11 _ _ hc10.ws); rw [hfl2] at this; cases this
          have hf13 : upd H12 fl2 (.lst [.ref wl, .ref nl]) fl2 = some (.lst [.ref wl, .ref nl]) := upd_same
          generalize upd H12 fl2 (.lst [.ref wl, .ref nl]) = H13 at s13 hf13
          have sm := s11.trans (s12.trans s13)
          have hj13 := hj10.keep (Kp.of sm (X := [])) (by simp)
          have hc13 := hc10.keep (Kp.of sm (X := [])) (by simp) (by simp)
          obtain ⟨dj13, hjo⟩ := id hj13
          obtain ⟨dc13, hco⟩ := id hc13.ob
          have nin : ∀ (b : Addr) (xs : List V), H13 b = some (.lst xs) → b ≠ l → b ∉ [c, l, j] := fun b xs e n => by
            simp [n, ne_of e hjo (by intro z; cases z), ne_of e hco (by intro z; cases z)]
          refine rdSeq ?_
          walk_at "rd"
          refine ⟨j, c, l, r, cl, S, k, cs, rfl, hj13, hc13, hL, s13 _ _ (s12 _ _ hr11), (hch.same s12).same s13, ncl, hcs, hk, fun H14 S' hj14 hc14 kp14 hL' hD' => ?_, fun H14 S' c' hc14 kp14 hR => ?_⟩
          · have hf14 := kp14 _ _ (nin _ _ hf13 nfl2) hf13
            have hn14 := kp14 _ _ (nin _ _ (s13 _ _ hnl12) nnl) (s13 _ _ hnl12)
            have hd14 := kp14 _ _ (nin _ _ (sm _ _ hd) (Ne.symm nlpd)) (sm _ _ hd)
            have hs14 := kp14 _ _ (nin _ _ (sm _ _ hs) nsl) (sm _ _ hs)
            refine rdSeq ?_
            walk_at "rd"
            refine i_ixL (sqL_of hf14) (atI_nat (j := 1) rfl) ?_
            intro fl3 hfl3
            have nfl3 : fl3 ≠ l := fun e => by subst e; have := hc14.ws; rw [hfl3] at this; cases this
            have s15 := same_new (o := .lst [.ref nl]) hfl3
            exact ⟨S', behind D k cs, nl, j, fl3, _, _, _, hj14.keep (Kp.of s15 (X := [])) (by simp), hc14.keep (Kp.of s15 (X := [])) (by simp) (by simp), hL', by rw [hD', hD], s15 _ _ hn14, nnl, upd_same, nfl3, s15 _ _ hd14, s15 _ _ hs14, rfl⟩
          · refine i_catch T.ex_PowerCut_PowerCut fun _ _ => ?_
            refine hPost _ _ ⟨S', c', D, [D, behind D k cs], wl, j, fl2, _, _, _, hc14, by rw [← hD]; exact hR, .two wl nl D (behind D k cs) (kp14 _ _ (nin _ _ hf13 nfl2) hf13) (kp14 _ _ (nin _ _ (sm _ _ hw) nw) (sm _ _ hw)) (kp14 _ _ (nin _ _ (s13 _ _ hnl12) nnl) (s13 _ _ hnl12)) nfl2 nw nnl, by simp, kp14 _ _ (nin _ _ (sm _ _ hd) (Ne.symm nlpd)) (sm _ _ hd), rfl⟩
        · rintro σ H10 ⟨S, D, wl, j, fl, y3, y7, y8, hj10, hc10, hL, hD, hw, nw, hf, nf, hd, hs, rfl⟩
          exact hPost _ _ ⟨S, 0, D, [D], wl, j, fl, _, _, _, hc10, by rw [← hD]; exact rec_zero hL, .one wl D hf hw nf nw, by simp, hd, rfl⟩
      · rintro σ H10 ⟨S, cn, X, Ds, wl, j, fl, y3, y7, y8, hc10, hR, hf, hX, hd, rfl⟩
        dsimp only
        refine rdSeq ?_
        walk_at "rd"
        refine i_ixL (sqL_of hd) (at_words (i := 1) (by omega)) ?_
        generalize ds.getD 1 0 = u1
        walk_at "rd"
        refine ⟨by omega, by omega, i_for walk_range (fun _ => MidF T.c_Cells c l a pd ds) ⟨S, cn, X, Ds, wl, j, fl, _, _, _, hc10, hR, hf, hX, hd, rfl⟩ (fun _ _ _ _ _ => trivial) ?_ ?_⟩
        · rintro i _ σ _ H11 hi ⟨S, cn, X, Ds, wl, j, fl, y3, y7, y8, hc11, hR, hf, hX, hd, rfl⟩ ⟨rfl, rfl⟩
          have hi : i < (u1 % 7).toNat := hi
          walk_at "rd"
          refine i_ixL (sqL_of hd) (at_words (i := 2) (by omega)) ?_
          walk_at "rd"
          refine ⟨⟨by omega, log_small (by omega)⟩, ?_⟩
          obtain ⟨dc11, hco⟩ := id hc11.ob
          refine ⟨c, l, S, some _, cn, X, rfl, hc11, hR, fun H12 b S' hc12 kp12 h1 h2 _ => ?_⟩
          have hR' : ∃ c', Rec S'.words c' X := by
            cases b with
            | true => exact ⟨0, by rw [← (h1 rfl).2]; exact rec_zero (h1 rfl).1⟩
            | false => exact h2 rfl
          obtain ⟨c', hR'⟩ := hR'
          have nin : ∀ (b : Addr) (xs : List V), H11 b = some (.lst xs) → b ≠ l → b ∉ [c, l] := fun b xs e n => by
            simp [n, ne_of e hco (by intro z; cases z)]
          exact ⟨S', c', X, Ds, wl, j, fl, _, _, _, hc12, hR', hf.keep kp12 nin, hX, kp12 _ _ (nin _ _ hd (Ne.symm nlpd)) hd, rfl⟩
        · rintro σ H11 ⟨S, cn, X, Ds, wl, j, fl, y3, y7, y8, hc11, hR, hf, hX, hd, rfl⟩
          dsimp only
          refine rdSeq ?_
          walk_at "rd"
          obtain ⟨dc11, hco⟩ := id hc11.ob
          refine ⟨c, l, S, none, cn, X, rfl, hc11, hR, fun H12 b S' hc12 kp12 h1 _ h3 => ?_⟩
          obtain ⟨rfl, hon⟩ := h3 rfl
          obtain ⟨hL', hX'⟩ := h1 rfl
          have nin : ∀ (b : Addr) (xs : List V), H11 b = some (.lst xs) → b ≠ l → b ∉ [c, l] := fun b xs e n => by
            simp [n, ne_of e hco (by intro z; cases z)]
          have hf12 := hf.keep kp12 nin
          obtain ⟨dc12, hco12⟩ := id hc12.ob
          walk_at "rd"
          refine ⟨by decide, by decide, i_lcL (walk_rangeL (lo := 0) (n := 6)) (fun i => .int (S'.words.getD (81 + i) 0)) (by rw [List.length_range]; exact line5' (by decide)) (fun _ _ _ => trivial) (fun i hi H1 Q' sm q' => ?_) fun D hD => ?_⟩
          · walk_at "rd"
            have hi : i < 6 := List.mem_range.mp hi
            rw [Int.zero_add]
            refine i_meth (sm _ _ hco12) rfl ⟨c, l, S', 81 + i, rfl, hc12.keep (Kp.of sm (X := [])) (by simp) (by simp), by rw [hL'.len]; omega, fun _ => q', fun e2 => by rw [hon] at e2; cases e2⟩
          · have eX : (List.range 6).map (fun i => V.int (S'.words.getD (81 + i) 0)) = X.map V.int := by
              rw [← hX', ← six_words hL'.len, List.map_map]
              rfl
            rw [eX]
            have hf13 := hf12.keep (Kp.new (o := .lst (X.map V.int)) hD (X := [])) (by simp)
            have hc13 := hc12.keep (Kp.new (o := .lst (X.map V.int)) hD (X := [])) (by simp) (by simp)
            refine ⟨dL X, Ds.map dL, .lst (sqL_of upd_same) (dpInts X), hf13.dp, PySem.W.ke_shaped_ints X, hf13.shaped, ?_⟩
            have ea : ((Ds.map dL).any fun z => PyData.eqv z (dL X)) = true := List.any_eq_true.mpr ⟨dL X, List.mem_map_of_mem hX, SeqAt.eqv_refl _ (shaped_lay (PySem.W.ke_shaped_ints X))⟩
            rw [ea]
            walk_at "rd"
            obtain ⟨dc13, hco13⟩ := id hc13.ob
            refine i_meth hco13 rfl ⟨c, l, S', 0, rfl, hc13, by rw [hL'.len]; decide, fun _ => ?_, fun e2 => by rw [hon] at e2; cases e2⟩
            walk_at "rd"
            have e0 : S'.words.getD 0 0 = 0 := hL'.c0
            rw [e0]
            exact q _

theorem all_mk {l : PySem.W.OpenLaw} {w : World} {K : PySem.W.Frag} {h : Heap} {mg : Str → Option Value} {fa : Addr} (X : K.In h) (G : h.Ns mainGlobals mg) (hfa : mg "law" = some (.ref fa))
    {f0 : Addr} {od0 an0 : Option Addr} {sl0 : Array (Option Value)} {oc0 kV0 dc0 pm0 cd0 ct0 : Value}
    {f1 : Addr} {od1 an1 : Option Addr} {sl1 : Array (Option Value)} {oc1 kV1 dc1 pm1 cd1 ct1 : Value}
    {f2 : Addr} {od2 an2 : Option Addr} {sl2 : Array (Option Value)} {oc2 kV2 dc2 pm2 cd2 ct2 : Value}
    {f3 : Addr} {od3 an3 : Option Addr} {sl3 : Array (Option Value)} {oc3 kV3 dc3 pm3 cd3 ct3 : Value}
    {f4 : Addr} {od4 an4 : Option Addr} {sl4 : Array (Option Value)} {oc4 kV4 dc4 pm4 cd4 ct4 : Value}
    {f5 : Addr} {od5 an5 : Option Addr} {sl5 : Array (Option Value)} {oc5 kV5 dc5 pm5 cd5 ct5 : Value}
    {f6 : Addr} {od6 an6 : Option Addr} {sl6 : Array (Option Value)} {oc6 kV6 dc6 pm6 cd6 ct6 : Value}
    {f7 : Addr} {od7 an7 : Option Addr} {sl7 : Array (Option Value)} {oc7 kV7 dc7 pm7 cd7 ct7 : Value}
    {f8 : Addr} {od8 an8 : Option Addr} {sl8 : Array (Option Value)} {oc8 kV8 dc8 pm8 cd8 ct8 : Value}
    {f9 : Addr} {od9 an9 : Option Addr} {sl9 : Array (Option Value)} {oc9 kV9 dc9 pm9 cd9 ct9 : Value}
    {f10 : Addr} {od10 an10 : Option Addr} {sl10 : Array (Option Value)} {oc10 kV10 dc10 pm10 cd10 ct10 : Value}
    {f11 : Addr} {od11 an11 : Option Addr} {sl11 : Array (Option Value)} {oc11 kV11 dc11 pm11 cd11 ct11 : Value}
    {f12 : Addr} {od12 an12 : Option Addr} {sl12 : Array (Option Value)} {oc12 kV12 dc12 pm12 cd12 ct12 : Value}
    {f13 : Addr} {od13 an13 : Option Addr} {sl13 : Array (Option Value)} {oc13 kV13 dc13 pm13 cd13 ct13 : Value}
    {f14 : Addr} {od14 an14 : Option Addr} {sl14 : Array (Option Value)} {oc14 kV14 dc14 pm14 cd14 ct14 : Value}
    {f15 : Addr} {od15 an15 : Option Addr} {sl15 : Array (Option Value)} {oc15 kV15 dc15 pm15 cd15 ct15 : Value}
    {f16 : Addr} {od16 an16 : Option Addr} {sl16 : Array (Option Value)} {oc16 kV16 dc16 pm16 cd16 ct16 : Value}
    {f17 : Addr} {od17 an17 : Option Addr} {sl17 : Array (Option Value)} {oc17 kV17 dc17 pm17 cd17 ct17 : Value}
    {f18 : Addr} {od18 an18 : Option Addr} {sl18 : Array (Option Value)} {oc18 kV18 dc18 pm18 cd18 ct18 : Value}
    {c_CardError : Addr}
    {c_Fault : Addr}
    {em0_Fault em1_Fault : Str} {em2_Fault : Addr} {em3_Fault em4_Fault : List Value} {em5_Fault : List Str} {em6_Fault : List Value} {em7_Fault : Bool} {em8_Fault : Option Bool} {em9_Fault : Option Addr} {em10_Fault em11_Fault em12_Fault em13_Fault em14_Fault : Option Value}
    {c_PowerCut : Addr}
    {c_Journal : Addr}
    {c_Cells : Addr}
    {tk0 : Tok}
    {tk1 : Tok}
    (l0 : K.lookup f0 = some ⟨oc0, od0, .func (PySem.W.fnOf "__init__" "Fault.__init__" (defArgs s_Fault_init) (defBody s_Fault_init) (defScope s_Fault_init) .none kV0 dc0 pm0 an0 cd0 ct0), sl0⟩) (c0 : PySem.W.codeIn K cd0 "Fault.__init__" = true) (k0 : PySem.W.keepIn K (.ref f0) = true)
    (l1 : K.lookup f1 = some ⟨oc1, od1, .func (PySem.W.fnOf "__init__" "Journal.__init__" (defArgs s_Journal_init) (defBody s_Journal_init) (defScope s_Journal_init) .none kV1 dc1 pm1 an1 cd1 ct1), sl1⟩) (c1 : PySem.W.codeIn K cd1 "Journal.__init__" = true) (k1 : PySem.W.keepIn K (.ref f1) = true)
    (l2 : K.lookup f2 = some ⟨oc2, od2, .func (PySem.W.fnOf "change" "Journal.change" (defArgs s_Journal_change) (defBody s_Journal_change) (defScope s_Journal_change) .none kV2 dc2 pm2 an2 cd2 ct2), sl2⟩) (c2 : PySem.W.codeIn K cd2 "Journal.change" = true) (k2 : PySem.W.keepIn K (.ref f2) = true)
    (l3 : K.lookup f3 = some ⟨oc3, od3, .func (PySem.W.fnOf "begin" "Journal.begin" (defArgs s_Journal_begin) (defBody s_Journal_begin) (defScope s_Journal_begin) .none kV3 dc3 pm3 an3 cd3 ct3), sl3⟩) (c3 : PySem.W.codeIn K cd3 "Journal.begin" = true) (k3 : PySem.W.keepIn K (.ref f3) = true)
    (l4 : K.lookup f4 = some ⟨oc4, od4, .func (PySem.W.fnOf "commit" "Journal.commit" (defArgs s_Journal_commit) (defBody s_Journal_commit) (defScope s_Journal_commit) .none kV4 dc4 pm4 an4 cd4 ct4), sl4⟩) (c4 : PySem.W.codeIn K cd4 "Journal.commit" = true) (k4 : PySem.W.keepIn K (.ref f4) = true)
    (l5 : K.lookup f5 = some ⟨oc5, od5, .func (PySem.W.fnOf "abort" "Journal.abort" (defArgs s_Journal_abort) (defBody s_Journal_abort) (defScope s_Journal_abort) .none kV5 dc5 pm5 an5 cd5 ct5), sl5⟩) (c5 : PySem.W.codeIn K cd5 "Journal.abort" = true) (k5 : PySem.W.keepIn K (.ref f5) = true)
    (l6 : K.lookup f6 = some ⟨oc6, od6, .func (PySem.W.fnOf "put_back" "Journal.put_back" (defArgs s_Journal_put_back) (defBody s_Journal_put_back) (defScope s_Journal_put_back) .none kV6 dc6 pm6 an6 cd6 ct6), sl6⟩) (c6 : PySem.W.codeIn K cd6 "Journal.put_back" = true) (k6 : PySem.W.keepIn K (.ref f6) = true)
    (l7 : K.lookup f7 = some ⟨oc7, od7, .func (PySem.W.fnOf "_forget" "Journal._forget" (defArgs s_Journal__forget) (defBody s_Journal__forget) (defScope s_Journal__forget) .none kV7 dc7 pm7 an7 cd7 ct7), sl7⟩) (c7 : PySem.W.codeIn K cd7 "Journal._forget" = true) (k7 : PySem.W.keepIn K (.ref f7) = true)
    (l8 : K.lookup f8 = some ⟨oc8, od8, .func (PySem.W.fnOf "__init__" "Cells.__init__" (defArgs s_Cells_init) (defBody s_Cells_init) (defScope s_Cells_init) .none kV8 dc8 pm8 an8 cd8 ct8), sl8⟩) (c8 : PySem.W.codeIn K cd8 "Cells.__init__" = true) (k8 : PySem.W.keepIn K (.ref f8) = true)
    (l9 : K.lookup f9 = some ⟨oc9, od9, .func (PySem.W.fnOf "cut" "Cells.cut" (defArgs s_Cells_cut) (defBody s_Cells_cut) (defScope s_Cells_cut) .none kV9 dc9 pm9 an9 cd9 ct9), sl9⟩) (c9 : PySem.W.codeIn K cd9 "Cells.cut" = true) (k9 : PySem.W.keepIn K (.ref f9) = true)
    (l10 : K.lookup f10 = some ⟨oc10, od10, .func (PySem.W.fnOf "restore" "Cells.restore" (defArgs s_Cells_restore) (defBody s_Cells_restore) (defScope s_Cells_restore) .none kV10 dc10 pm10 an10 cd10 ct10), sl10⟩) (c10 : PySem.W.codeIn K cd10 "Cells.restore" = true) (k10 : PySem.W.keepIn K (.ref f10) = true)
    (l11 : K.lookup f11 = some ⟨oc11, od11, .func (PySem.W.fnOf "read" "Cells.read" (defArgs s_Cells_read) (defBody s_Cells_read) (defScope s_Cells_read) .none kV11 dc11 pm11 an11 cd11 ct11), sl11⟩) (c11 : PySem.W.codeIn K cd11 "Cells.read" = true) (k11 : PySem.W.keepIn K (.ref f11) = true)
    (l12 : K.lookup f12 = some ⟨oc12, od12, .func (PySem.W.fnOf "write" "Cells.write" (defArgs s_Cells_write) (defBody s_Cells_write) (defScope s_Cells_write) .none kV12 dc12 pm12 an12 cd12 ct12), sl12⟩) (c12 : PySem.W.codeIn K cd12 "Cells.write" = true) (k12 : PySem.W.keepIn K (.ref f12) = true)
    (a13 : PySem.W.nsIn K mainGlobals "_law_draws" = some (some (.ref f13)))
    (l13 : K.lookup f13 = some ⟨oc13, od13, .func (PySem.W.fnOf "_law_draws" "_law_draws" (defArgs s_law_draws) (defBody s_law_draws) (defScope s_law_draws) .none kV13 dc13 pm13 an13 cd13 ct13), sl13⟩) (c13 : PySem.W.codeIn K cd13 "_law_draws" = true) (k13 : PySem.W.keepIn K (.ref f13) = true)
    (a14 : PySem.W.nsIn K mainGlobals "_law_step" = some (some (.ref f14)))
    (l14 : K.lookup f14 = some ⟨oc14, od14, .func (PySem.W.fnOf "_law_step" "_law_step" (defArgs s_law_step) (defBody s_law_step) (defScope s_law_step) .none kV14 dc14 pm14 an14 cd14 ct14), sl14⟩) (c14 : PySem.W.codeIn K cd14 "_law_step" = true) (k14 : PySem.W.keepIn K (.ref f14) = true)
    (a15 : PySem.W.nsIn K mainGlobals "_law_behind" = some (some (.ref f15)))
    (l15 : K.lookup f15 = some ⟨oc15, od15, .func (PySem.W.fnOf "_law_behind" "_law_behind" (defArgs s_law_behind) (defBody s_law_behind) (defScope s_law_behind) .none kV15 dc15 pm15 an15 cd15 ct15), sl15⟩) (c15 : PySem.W.codeIn K cd15 "_law_behind" = true) (k15 : PySem.W.keepIn K (.ref f15) = true)
    (a16 : PySem.W.nsIn K mainGlobals "_law_do" = some (some (.ref f16)))
    (l16 : K.lookup f16 = some ⟨oc16, od16, .func (PySem.W.fnOf "_law_do" "_law_do" (defArgs s_law_do) (defBody s_law_do) (defScope s_law_do) .none kV16 dc16 pm16 an16 cd16 ct16), sl16⟩) (c16 : PySem.W.codeIn K cd16 "_law_do" = true) (k16 : PySem.W.keepIn K (.ref f16) = true)
    (a17 : PySem.W.nsIn K mainGlobals "_law_back" = some (some (.ref f17)))
    (l17 : K.lookup f17 = some ⟨oc17, od17, .func (PySem.W.fnOf "_law_back" "_law_back" (defArgs s_law_back) (defBody s_law_back) (defScope s_law_back) .none kV17 dc17 pm17 an17 cd17 ct17), sl17⟩) (c17 : PySem.W.codeIn K cd17 "_law_back" = true) (k17 : PySem.W.keepIn K (.ref f17) = true)
    (a18 : PySem.W.nsIn K mainGlobals "law" = some (some (.ref f18)))
    (l18 : K.lookup f18 = some ⟨oc18, od18, .func (PySem.W.fnOf "law" "law" (defArgs s_law) (defBody s_law) (defScope s_law) .none kV18 dc18 pm18 an18 cd18 ct18), sl18⟩) (c18 : PySem.W.codeIn K cd18 "law" = true) (k18 : PySem.W.keepIn K (.ref f18) = true)
    (aC_CardError : PySem.W.nsIn K mainGlobals "CardError" = some (some (.ref c_CardError)))
    (aC_Fault : PySem.W.nsIn K mainGlobals "Fault" = some (some (.ref c_Fault)))
    (aC_PowerCut : PySem.W.nsIn K mainGlobals "PowerCut" = some (some (.ref c_PowerCut)))
    (aC_Journal : PySem.W.nsIn K mainGlobals "Journal" = some (some (.ref c_Journal)))
    (aC_Cells : PySem.W.nsIn K mainGlobals "Cells" = some (some (.ref c_Cells)))
    (w1oe : K.lookup c_Fault = some (excClassObj em0_Fault em1_Fault c_Fault em2_Fault em3_Fault em4_Fault true em5_Fault em6_Fault em7_Fault em8_Fault em9_Fault em10_Fault em11_Fault em12_Fault em13_Fault em14_Fault "ValueError.__new__"))
    (w2rv : PySem.HandSPX.refsVE em4_Fault = true)
    (w3os : PySem.W.findIn K (.ref c_Fault) "__setattr__" = some (some (.builtin "object.__setattr__")))
    (w4ob : PySem.W.subIn K (.ref c_Fault) (.type "BaseException") = some true)
    (w5ot : PySem.W.typeIn K (.ref c_Fault) = some (.type "type"))
    (w6ok : PySem.W.keepIn K (.ref c_Fault) = true)
    (w7in : PySem.W.findIn K (.ref c_Fault) "__init__" = some (some (.ref f0)))
    (w8ti : PySem.W.typeIn K (.ref f0) = some (.type "function"))
    (w9on : PySem.W.findIn K (.ref c_Fault) "code" = some none)
    (w10xg : PySem.W.findIn K (.ref c_Fault) "__getattribute__" = some (some (.builtin "BaseException.__getattribute__")))
    (w11xh : PySem.W.findIn K (.ref c_Fault) "__getattr__" = some none)
    (w12xe : PySem.W.subIn K (.ref c_Fault) (.type "BaseException") = some true)
    (w13xd : PySem.W.hasDictIn K c_Fault = true)
    (w14x : PySem.W.excIn K c_PowerCut [.type "ValueError", .type "Exception", .type "BaseException", .type "object"] "ValueError.__new__" = true)
    (w15kx : PySem.W.keepIn K (.ref c_PowerCut) = true)
    (w16be : PySem.W.subIn K (.ref c_PowerCut) (.type "BaseException") = some true)
    (w17ty : PySem.W.typeIn K (.ref c_PowerCut) = some (.type "type"))
    (w18eb : PySem.W.subIn K (.ref c_PowerCut) (.type "BaseException") = some true)
    (w19ei : PySem.W.isClsIn K c_PowerCut = true)
    (w20et : PySem.W.typeIn K (.ref c_PowerCut) = some (.type "type"))
    (w21es : PySem.W.subIn K (.ref c_Fault) (.ref c_PowerCut) = some false)
    (w22eb : PySem.W.subIn K (.ref c_PowerCut) (.type "BaseException") = some true)
    (w23ei : PySem.W.isClsIn K c_PowerCut = true)
    (w24et : PySem.W.typeIn K (.ref c_PowerCut) = some (.type "type"))
    (w25es : PySem.W.subIn K (.ref c_PowerCut) (.ref c_PowerCut) = some true)
    (w26pg : PySem.W.plainGet K c_Journal Str.empty = true)
    (w27hd : PySem.W.hasDictIn K c_Journal = true)
    (w28po : PySem.W.plainOver K c_Journal = true)
    (w29sa : PySem.W.findIn K (.ref c_Journal) "__setattr__" = some (some (.builtin "object.__setattr__")))
    (w30mk : PySem.W.makesIn K c_Journal = true)
    (w31in : PySem.W.findIn K (.ref c_Journal) "__init__" = some (some (.ref f1)))
    (w32fi : PySem.W.isFn K (.ref f1) = true)
    (w33kc : PySem.W.keepIn K (.ref c_Journal) = true)
    (w34at : PySem.W.findIn K (.ref c_Journal) "change" = some (some (.ref f2)))
    (w35fn : PySem.W.isFn K (.ref f2) = true)
    (w36km : PySem.W.keepIn K (.ref f2) = true)
    (w37at : PySem.W.findIn K (.ref c_Journal) "begin" = some (some (.ref f3)))
    (w38fn : PySem.W.isFn K (.ref f3) = true)
    (w39km : PySem.W.keepIn K (.ref f3) = true)
    (w40at : PySem.W.findIn K (.ref c_Journal) "commit" = some (some (.ref f4)))
    (w41fn : PySem.W.isFn K (.ref f4) = true)
    (w42km : PySem.W.keepIn K (.ref f4) = true)
    (w43at : PySem.W.findIn K (.ref c_Journal) "abort" = some (some (.ref f5)))
    (w44fn : PySem.W.isFn K (.ref f5) = true)
    (w45km : PySem.W.keepIn K (.ref f5) = true)
    (w46at : PySem.W.findIn K (.ref c_Journal) "put_back" = some (some (.ref f6)))
    (w47fn : PySem.W.isFn K (.ref f6) = true)
    (w48km : PySem.W.keepIn K (.ref f6) = true)
    (w49at : PySem.W.findIn K (.ref c_Journal) "_forget" = some (some (.ref f7)))
    (w50fn : PySem.W.isFn K (.ref f7) = true)
    (w51km : PySem.W.keepIn K (.ref f7) = true)
    (w52na : PySem.W.findIn K (.ref c_Journal) "_cells" = some none)
    (w53na : PySem.W.findIn K (.ref c_Journal) "_start" = some none)
    (w54na : PySem.W.findIn K (.ref c_Journal) "_open" = some none)
    (w55pg : PySem.W.plainGet K c_Cells Str.empty = true)
    (w56hd : PySem.W.hasDictIn K c_Cells = true)
    (w57po : PySem.W.plainOver K c_Cells = true)
    (w58sa : PySem.W.findIn K (.ref c_Cells) "__setattr__" = some (some (.builtin "object.__setattr__")))
    (w59mk : PySem.W.makesIn K c_Cells = true)
    (w60in : PySem.W.findIn K (.ref c_Cells) "__init__" = some (some (.ref f8)))
    (w61fi : PySem.W.isFn K (.ref f8) = true)
    (w62kc : PySem.W.keepIn K (.ref c_Cells) = true)
    (w63at : PySem.W.findIn K (.ref c_Cells) "cut" = some (some (.ref f9)))
    (w64fn : PySem.W.isFn K (.ref f9) = true)
    (w65km : PySem.W.keepIn K (.ref f9) = true)
    (w66at : PySem.W.findIn K (.ref c_Cells) "restore" = some (some (.ref f10)))
    (w67fn : PySem.W.isFn K (.ref f10) = true)
    (w68km : PySem.W.keepIn K (.ref f10) = true)
    (w69at : PySem.W.findIn K (.ref c_Cells) "read" = some (some (.ref f11)))
    (w70fn : PySem.W.isFn K (.ref f11) = true)
    (w71km : PySem.W.keepIn K (.ref f11) = true)
    (w72at : PySem.W.findIn K (.ref c_Cells) "write" = some (some (.ref f12)))
    (w73fn : PySem.W.isFn K (.ref f12) = true)
    (w74km : PySem.W.keepIn K (.ref f12) = true)
    (w75na : PySem.W.findIn K (.ref c_Cells) "_words" = some none)
    (w76na : PySem.W.findIn K (.ref c_Cells) "_left" = some none)
    (w77na : PySem.W.findIn K (.ref c_Cells) "_on" = some none)
    (z0 : PySem.W.nsIn K mainGlobals "abs" = some none)
    (z1 : PySem.W.nsIn K mainGlobals "int" = some none)
    (z2 : PySem.W.nsIn K mainGlobals "len" = some none)
    (z3 : PySem.W.nsIn K mainGlobals "list" = some none)
    (z4 : PySem.W.nsIn K mainGlobals "range" = some none)
    (z5 : PySem.W.nsIn K mainGlobals "reversed" = some none)
    (y0 : PySem.W.nsIn K mainGlobals "MOST_LOG" = some (some (.int (40) tk0)))
    (y1 : PySem.W.nsIn K mainGlobals "TRANSACTION" = some (some (.int (-8) tk1))) :
    ∃ fd : FuncData, (∀ (s : Shared) (v : Value), BindsTo s fd ⟨[v], []⟩ [("_law_script", v)]) ∧ ∀ base : Heap, K.In base → base.Ns mainGlobals mg → FnOk l.prog w K mg base CX0 6 fa fd ["_law_script"] (sp_law K) := by
  have e := hfa.symm.trans (PySem.W.mg_of X G a18)
  cases e
  let T : Txt K mg := {
    f_Fault_init := f0,
    d_Fault_init := _,
    k_Fault_init := (fun_mk (st := s_Fault_init) l0 c0 k0),
    b_Fault_init := (Fun.binds (ps := ["self", "code"]) (fun_mk (st := s_Fault_init) l0 c0 k0) fun _ _ _ _ _ _ us hl => match us, hl with | [_, _], _ => rfl),
    f_Journal_init := f1,
    d_Journal_init := _,
    k_Journal_init := (fun_mk (st := s_Journal_init) l1 c1 k1),
    b_Journal_init := (Fun.binds (ps := ["self", "cells", "start"]) (fun_mk (st := s_Journal_init) l1 c1 k1) fun _ _ _ _ _ _ us hl => match us, hl with | [_, _, _], _ => rfl),
    f_Journal_change := f2,
    d_Journal_change := _,
    k_Journal_change := (fun_mk (st := s_Journal_change) l2 c2 k2),
    b_Journal_change := (Fun.binds (ps := ["self", "place", "word"]) (fun_mk (st := s_Journal_change) l2 c2 k2) fun _ _ _ _ _ _ us hl => match us, hl with | [_, _, _], _ => rfl),
    f_Journal_begin := f3,
    d_Journal_begin := _,
    k_Journal_begin := (fun_mk (st := s_Journal_begin) l3 c3 k3),
    b_Journal_begin := (Fun.binds (ps := ["self"]) (fun_mk (st := s_Journal_begin) l3 c3 k3) fun _ _ _ _ _ _ us hl => match us, hl with | [_], _ => rfl),
    f_Journal_commit := f4,
    d_Journal_commit := _,
    k_Journal_commit := (fun_mk (st := s_Journal_commit) l4 c4 k4),
    b_Journal_commit := (Fun.binds (ps := ["self"]) (fun_mk (st := s_Journal_commit) l4 c4 k4) fun _ _ _ _ _ _ us hl => match us, hl with | [_], _ => rfl),
    f_Journal_abort := f5,
    d_Journal_abort := _,
    k_Journal_abort := (fun_mk (st := s_Journal_abort) l5 c5 k5),
    b_Journal_abort := (Fun.binds (ps := ["self"]) (fun_mk (st := s_Journal_abort) l5 c5 k5) fun _ _ _ _ _ _ us hl => match us, hl with | [_], _ => rfl),
    f_Journal_put_back := f6,
    d_Journal_put_back := _,
    k_Journal_put_back := (fun_mk (st := s_Journal_put_back) l6 c6 k6),
    b_Journal_put_back := (Fun.binds (ps := ["self"]) (fun_mk (st := s_Journal_put_back) l6 c6 k6) fun _ _ _ _ _ _ us hl => match us, hl with | [_], _ => rfl),
    f_Journal__forget := f7,
    d_Journal__forget := _,
    k_Journal__forget := (fun_mk (st := s_Journal__forget) l7 c7 k7),
    b_Journal__forget := (Fun.binds (ps := ["self"]) (fun_mk (st := s_Journal__forget) l7 c7 k7) fun _ _ _ _ _ _ us hl => match us, hl with | [_], _ => rfl),
    f_Cells_init := f8,
    d_Cells_init := _,
    k_Cells_init := (fun_mk (st := s_Cells_init) l8 c8 k8),
    b_Cells_init := (Fun.binds (ps := ["self", "count"]) (fun_mk (st := s_Cells_init) l8 c8 k8) fun _ _ _ _ _ _ us hl => match us, hl with | [_, _], _ => rfl),
    f_Cells_cut := f9,
    d_Cells_cut := _,
    k_Cells_cut := (fun_mk (st := s_Cells_cut) l9 c9 k9),
    b_Cells_cut := (Fun.binds (ps := ["self", "writes"]) (fun_mk (st := s_Cells_cut) l9 c9 k9) fun _ _ _ _ _ _ us hl => match us, hl with | [_, _], _ => rfl),
    f_Cells_restore := f10,
    d_Cells_restore := _,
    k_Cells_restore := (fun_mk (st := s_Cells_restore) l10 c10 k10),
    b_Cells_restore := (Fun.binds (ps := ["self"]) (fun_mk (st := s_Cells_restore) l10 c10 k10) fun _ _ _ _ _ _ us hl => match us, hl with | [_], _ => rfl),
    f_Cells_read := f11,
    d_Cells_read := _,
    k_Cells_read := (fun_mk (st := s_Cells_read) l11 c11 k11),
    b_Cells_read := (Fun.binds (ps := ["self", "place"]) (fun_mk (st := s_Cells_read) l11 c11 k11) fun _ _ _ _ _ _ us hl => match us, hl with | [_, _], _ => rfl),
    f_Cells_write := f12,
    d_Cells_write := _,
    k_Cells_write := (fun_mk (st := s_Cells_write) l12 c12 k12),
    b_Cells_write := (Fun.binds (ps := ["self", "place", "word"]) (fun_mk (st := s_Cells_write) l12 c12 k12) fun _ _ _ _ _ _ us hl => match us, hl with | [_, _, _], _ => rfl),
    f_law_draws := f13,
    d_law_draws := _,
    k_law_draws := (fun_mk (st := s_law_draws) l13 c13 k13),
    b_law_draws := (Fun.binds (ps := ["_law_script", "_law_start", "_law_most"]) (fun_mk (st := s_law_draws) l13 c13 k13) fun _ _ _ _ _ _ us hl => match us, hl with | [_, _, _], _ => rfl),
    g_law_draws := PySem.W.mg_of X G a13,
    f_law_step := f14,
    d_law_step := _,
    k_law_step := (fun_mk (st := s_law_step) l14 c14 k14),
    b_law_step := (Fun.binds (ps := ["_law_draw"]) (fun_mk (st := s_law_step) l14 c14 k14) fun _ _ _ _ _ _ us hl => match us, hl with | [_], _ => rfl),
    g_law_step := PySem.W.mg_of X G a14,
    f_law_behind := f15,
    d_law_behind := _,
    k_law_behind := (fun_mk (st := s_law_behind) l15 c15 k15),
    b_law_behind := (Fun.binds (ps := ["_law_words", "_law_step_here"]) (fun_mk (st := s_law_behind) l15 c15 k15) fun _ _ _ _ _ _ us hl => match us, hl with | [_, _], _ => rfl),
    g_law_behind := PySem.W.mg_of X G a15,
    f_law_do := f16,
    d_law_do := _,
    k_law_do := (fun_mk (st := s_law_do) l16 c16 k16),
    b_law_do := (Fun.binds (ps := ["_law_journal", "_law_step_here"]) (fun_mk (st := s_law_do) l16 c16 k16) fun _ _ _ _ _ _ us hl => match us, hl with | [_, _], _ => rfl),
    g_law_do := PySem.W.mg_of X G a16,
    f_law_back := f17,
    d_law_back := _,
    k_law_back := (fun_mk (st := s_law_back) l17 c17 k17),
    b_law_back := (Fun.binds (ps := ["_law_cells", "_law_writes"]) (fun_mk (st := s_law_back) l17 c17 k17) fun _ _ _ _ _ _ us hl => match us, hl with | [_, _], _ => rfl),
    g_law_back := PySem.W.mg_of X G a17,
    f_law := fa,
    d_law := _,
    k_law := (fun_mk (st := s_law) l18 c18 k18),
    b_law := (Fun.binds (ps := ["_law_script"]) (fun_mk (st := s_law) l18 c18 k18) fun _ _ _ _ _ _ us hl => match us, hl with | [_], _ => rfl),
    g_law := PySem.W.mg_of X G a18,
    c_CardError := c_CardError,
    g_CardError := PySem.W.mg_of X G aC_CardError,
    c_Fault := c_Fault,
    g_Fault := PySem.W.mg_of X G aC_Fault,
    c_PowerCut := c_PowerCut,
    g_PowerCut := PySem.W.mg_of X G aC_PowerCut,
    c_Journal := c_Journal,
    g_Journal := PySem.W.mg_of X G aC_Journal,
    c_Cells := c_Cells,
    g_Cells := PySem.W.mg_of X G aC_Cells,
    ox_Fault := ⟨⟨_, _, _, _, _, _, _, _, _, _, _, _, _, _, _, w1oe, w2rv⟩, w3os, w4ob, w5ot, w6ok⟩,
    in_Fault := w7in,
    ti_Fault := w8ti,
    on_Fault_code := w9on,
    xf_Fault := ⟨w10xg, w11xh, w12xe, w13xd⟩,
    x_PowerCut := ⟨w14x, w15kx, w16be, w17ty⟩,
    ex_Fault_PowerCut := exm_two w18eb w19ei w20et w21es,
    ex_PowerCut_PowerCut := exm_two w22eb w23ei w24et w25es,
    cl_Journal := ⟨w26pg, w27hd, w28po, w29sa⟩,
    mk_Journal := ⟨w30mk, w31in, w32fi, w33kc⟩,
    me_Journal_change := ⟨w34at, w35fn, w36km⟩,
    me_Journal_begin := ⟨w37at, w38fn, w39km⟩,
    me_Journal_commit := ⟨w40at, w41fn, w42km⟩,
    me_Journal_abort := ⟨w43at, w44fn, w45km⟩,
    me_Journal_put_back := ⟨w46at, w47fn, w48km⟩,
    me_Journal__forget := ⟨w49at, w50fn, w51km⟩,
    nf_Journal_cells := w52na,
    nf_Journal_start := w53na,
    nf_Journal_open := w54na,
    cl_Cells := ⟨w55pg, w56hd, w57po, w58sa⟩,
    mk_Cells := ⟨w59mk, w60in, w61fi, w62kc⟩,
    me_Cells_cut := ⟨w63at, w64fn, w65km⟩,
    me_Cells_restore := ⟨w66at, w67fn, w68km⟩,
    me_Cells_read := ⟨w69at, w70fn, w71km⟩,
    me_Cells_write := ⟨w72at, w73fn, w74km⟩,
    nf_Cells_words := w75na,
    nf_Cells_left := w76na,
    nf_Cells_on := w77na,
    m_abs := PySem.W.mg_none_of X G z0,
    m_int := PySem.W.mg_none_of X G z1,
    m_len := PySem.W.mg_none_of X G z2,
    m_list := PySem.W.mg_none_of X G z3,
    m_range := PySem.W.mg_none_of X G z4,
    m_reversed := PySem.W.mg_none_of X G z5,
    t_MOST_LOG := tk0,
    g_MOST_LOG := PySem.W.mg_of X G y0,
    t_TRANSACTION := tk1,
    g_TRANSACTION := PySem.W.mg_of X G y1 }
  exact ⟨T.d_law, fun s v => .of_eq rfl, fun base _ _ => ok_law T⟩
end
end My
open PySem PySem.W PyProof.Rows
set_option maxHeartbeats 0 in
theorem PySem.Challenge.cw_warycard_k71_whole_torn_transactions_holds : PySem.Challenge.rw_warycard_k71_whole_torn_transactions.Holds := by
  w_on; o_law; k_head; (case hw => w_witness2)
  k_fill
  refine L2.walk_of (l := PySem.Challenge.rw_warycard_k71_whole_torn_transactions) (n := 63) (k := 6) (x := "_law_script") (CX := fun _ => L2.CX0) (sp := fun w => My.sp_law _) rfl (by decide) rfl ⟨rfl, by decide, by decide⟩ (fun w h Y => PySem.W.kIn_of Y) ?F (fun _ _ a ns hl _ hS => ⟨a, ns, rfl, hS, hl, fun _ => rfl⟩) (fun _ _ _ _ _ h => h)
  case F =>
    intro w mg fa h KX G hmg
    refine' My.all_mk KX G hmg ?l0 ?c0 ?k0 ?l1 ?c1 ?k1 ?l2 ?c2 ?k2 ?l3 ?c3 ?k3 ?l4 ?c4 ?k4 ?l5 ?c5 ?k5 ?l6 ?c6 ?k6 ?l7 ?c7 ?k7 ?l8 ?c8 ?k8 ?l9 ?c9 ?k9 ?l10 ?c10 ?k10 ?l11 ?c11 ?k11 ?l12 ?c12 ?k12 ?a13 ?l13 ?c13 ?k13 ?a14 ?l14 ?c14 ?k14 ?a15 ?l15 ?c15 ?k15 ?a16 ?l16 ?c16 ?k16 ?a17 ?l17 ?c17 ?k17 ?a18 ?l18 ?c18 ?k18 ?aC_CardError ?aC_Fault ?aC_PowerCut ?aC_Journal ?aC_Cells ?w1oe ?w2rv ?w3os ?w4ob ?w5ot ?w6ok ?w7in ?w8ti ?w9on ?w10xg ?w11xh ?w12xe ?w13xd ?w14x ?w15kx ?w16be ?w17ty ?w18eb ?w19ei ?w20et ?w21es ?w22eb ?w23ei ?w24et ?w25es ?w26pg ?w27hd ?w28po ?w29sa ?w30mk ?w31in ?w32fi ?w33kc ?w34at ?w35fn ?w36km ?w37at ?w38fn ?w39km ?w40at ?w41fn ?w42km ?w43at ?w44fn ?w45km ?w46at ?w47fn ?w48km ?w49at ?w50fn ?w51km ?w52na ?w53na ?w54na ?w55pg ?w56hd ?w57po ?w58sa ?w59mk ?w60in ?w61fi ?w62kc ?w63at ?w64fn ?w65km ?w66at ?w67fn ?w68km ?w69at ?w70fn ?w71km ?w72at ?w73fn ?w74km ?w75na ?w76na ?w77na ?z0 ?z1 ?z2 ?z3 ?z4 ?z5 ?y0 ?y1
    (case a13 => k_is); (case a14 => k_is); (case a15 => k_is); (case a16 => k_is); (case a17 => k_is); (case a18 => k_is); (case aC_CardError => k_is); (case aC_Fault => k_is); (case aC_PowerCut => k_is); (case aC_Journal => k_is); (case aC_Cells => k_is); (case z0 => k_is); (case z1 => k_is); (case z2 => k_is); (case z3 => k_is); (case z4 => k_is); (case z5 => k_is); (case y0 => k_is); (case y1 => k_is); (case w7in => k_is); (case w31in => k_is); (case w34at => k_is); (case w37at => k_is); (case w40at => k_is); (case w43at => k_is); (case w46at => k_is); (case w49at => k_is); (case w60in => k_is); (case w63at => k_is); (case w66at => k_is); (case w69at => k_is); (case w72at => k_is); (case l0 => k_is); (case l1 => k_is); (case l2 => k_is); (case l3 => k_is); (case l4 => k_is); (case l5 => k_is); (case l6 => k_is); (case l7 => k_is); (case l8 => k_is); (case l9 => k_is); (case l10 => k_is); (case l11 => k_is); (case l12 => k_is); (case l13 => k_is); (case l14 => k_is); (case l15 => k_is); (case l16 => k_is); (case l17 => k_is); (case l18 => k_is); (case w1oe => k_is); (case c0 => k_is); (case k0 => k_is); (case c1 => k_is); (case k1 => k_is); (case c2 => k_is); (case k2 => k_is); (case c3 => k_is); (case k3 => k_is); (case c4 => k_is); (case k4 => k_is); (case c5 => k_is); (case k5 => k_is); (case c6 => k_is); (case k6 => k_is); (case c7 => k_is); (case k7 => k_is); (case c8 => k_is); (case k8 => k_is); (case c9 => k_is); (case k9 => k_is); (case c10 => k_is); (case k10 => k_is); (case c11 => k_is); (case k11 => k_is); (case c12 => k_is); (case k12 => k_is); (case c13 => k_is); (case k13 => k_is); (case c14 => k_is); (case k14 => k_is); (case c15 => k_is); (case k15 => k_is); (case c16 => k_is); (case k16 => k_is); (case c17 => k_is); (case k17 => k_is); (case c18 => k_is); (case k18 => k_is); (case w2rv => rfl); (case w3os => k_is); (case w4ob => k_is); (case w5ot => k_is); (case w6ok => k_is); (case w8ti => k_is); (case w9on => k_is); (case w10xg => k_is); (case w11xh => k_is); (case w12xe => k_is); (case w13xd => k_is); (case w14x => k_exc); (case w15kx => k_is); (case w16be => k_is); (case w17ty => k_is); (case w18eb => k_is); (case w19ei => k_is); (case w20et => k_is); (case w21es => first | rfl | k_is); (case w22eb => k_is); (case w23ei => k_is); (case w24et => k_is); (case w25es => first | rfl | k_is); (case w26pg => k_is); (case w27hd => k_is); (case w28po => k_is); (case w29sa => k_is); (case w30mk => k_is); (case w32fi => k_is); (case w33kc => k_is); (case w35fn => k_is); (case w36km => k_is); (case w38fn => k_is); (case w39km => k_is); (case w41fn => k_is); (case w42km => k_is); (case w44fn => k_is); (case w45km => k_is); (case w47fn => k_is); (case w48km => k_is); (case w50fn => k_is); (case w51km => k_is); (case w52na => k_is); (case w53na => k_is); (case w54na => k_is); (case w55pg => k_is); (case w56hd => k_is); (case w57po => k_is); (case w58sa => k_is); (case w59mk => k_is); (case w61fi => k_is); (case w62kc => k_is); (case w64fn => k_is); (case w65km => k_is); (case w67fn => k_is); (case w68km => k_is); (case w70fn => k_is); (case w71km => k_is); (case w73fn => k_is); (case w74km => k_is); (case w75na => k_is); (case w76na => k_is); (case w77na => k_is)
#print axioms PySem.Challenge.cw_warycard_k71_whole_torn_transactions_holds
