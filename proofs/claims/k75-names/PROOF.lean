import PyProof.Rows.All
import Wide.All
import OpenK.AllK
import Wide.FinOn
import HandS.ForMost
import HandS.Wide
import HandS.IsInst
import HandS.Walk
import HandS.Codes
import HandS.ForExc
import HandS.Style
import HandS.ExcInit
import HandS.ExcField
import HandS.RevRange
import HandS.Conv
import HandS.Deep
import HandS.Text
import HandS.Replace
import HandS.Iter
import HandS.More
import HandS.ExcCtx
import HandS.HotCalls
import HandS.SuiteRaise
import HandS.ExcInitHot
import PySem.Challenge.RW_warycard_k75_names
set_option Elab.async false
set_option maxRecDepth 100000
set_option maxHeartbeats 4000000
namespace My
open PySem PySem.Spec PyProof.Rows L2
/-! ### readings -/
theorem OpR.imp' {X : Cx} {f : Value → Value → Sem Value} {r r' : R2} (h : OpR X f r) (i : ∀ x y H Q, r' x y H Q → r x y H Q) : OpR X f r' := fun pins s σ H x y u v Q I rx ry q => h pins s σ H x y u v Q I rx ry (i _ _ _ _ q)
theorem op_modP {X : Cx} : OpR X (binaryOp .Mod) (rI (fun _ j => 0 < j) fun i j => .int (i % j)) := OpR.imp' op_modN fun x y H Q ⟨i, j, e1, e2, hj, q⟩ => ⟨i, j, e1, e2, by have hj : 0 < j := hj; show j ≠ 0; omega, by
  have hj : 0 < j := hj
  have e : i.fmod j = i % j := Int.fmod_eq_emod_of_nonneg i (by omega)
  show Q (V.int (i.fmod j)) H
  rw [e]; exact q⟩
theorem rdSeq {t u : TS} {D : Ends} {σ : L2.St} {H : Hp} (h : t { D with nx := u D } σ H) : tSeq t u D σ H := h
/-- all that was tracked is kept but the list at a, which holds three ints -/
def Bag (H : Hp) (a : Addr) : Prop := ∃ x y z : Int, H a = some (.lst [.int x, .int y, .int z])
structure Mv (a : Addr) (H H' : Hp) : Prop where
  bag : Bag H' a
  old : ∀ b o, b ≠ a → H b = some o → H' b = some o
theorem Mv.refl {a : Addr} {H : Hp} (h : Bag H a) : Mv a H H := ⟨h, fun _ _ _ e => e⟩
theorem Mv.trans {a : Addr} {H H1 H2 : Hp} (h : Mv a H H1) (k : Mv a H1 H2) : Mv a H H2 := ⟨k.bag, fun b o n e => k.old b o n (h.old b o n e)⟩
theorem Mv.new {a p : Addr} {o : HO} {H H1 : Hp} (h : Mv a H H1) (n : H1 p = none) : Mv a H (upd H1 p o) := by
  obtain ⟨x, y, z, e⟩ := h.bag
  have ne : a ≠ p := fun q => by subst q; rw [n] at e; cases e
  exact ⟨⟨x, y, z, by rw [upd_ne ne]; exact e⟩, fun b u hb hu => by
    have := h.old b u hb hu
    rw [upd_ne (ne_of_none this n)]; exact this⟩
theorem Mv.ne {a p : Addr} {H H1 : Hp} (h : Mv a H H1) (n : H1 p = none) : p ≠ a := fun q => by
  obtain ⟨x, y, z, e⟩ := h.bag
  subst q; rw [n] at e; cases e
theorem Mv.free {a p : Addr} {H H1 : Hp} (h : Mv a H H1) (n : H1 p = none) : H p = none := by
  cases e : H p with
  | none => rfl
  | some o => rw [h.old p o (h.ne n) e] at n; cases n
theorem bag_ne {a p : Addr} {H : Hp} (h : Bag H a) (n : H p = none) : p ≠ a := fun q => by
  obtain ⟨x, y, z, e⟩ := h
  subst q; rw [n] at e; cases e
theorem sqL_of {K : PySem.W.Frag} {H : Hp} {a : Addr} {xs : List V} (h : H a = some (.lst xs)) : SqL K H a xs := .inl (.inl h)
theorem sqT_of {K : PySem.W.Frag} {H : Hp} {a : Addr} {xs : List V} (h : H a = some (.tup xs)) : SqT K H a xs := .inl (.inl h)
def rIntA : List V → Hp → VK → Prop := fun xs H Q => ∃ x, xs = [x] ∧ match x with
  | .int i => Q (.int i) H
  | .bl k => Q (.int (if k = true then 1 else 0)) H
  | _ => False
theorem call_intI {X : Cx} : CallR X (.type "int") rIntA := fun pins s σ H xs us Q I r ⟨x, e, q⟩ => by
  cases x with
  | int i => exact call_int1 pins s σ H xs us Q I r (.inl ⟨i, e, q⟩)
  | bl k => exact call_int1 pins s σ H xs us Q I r (.inr ⟨k, e, q⟩)
  | _ => exact False.elim q
/-- len of a list, of a tuple -/
def rLenL (K : PySem.W.Frag) : List V → Hp → VK → Prop := fun xs H Q => ∃ p ys, xs = [.ref p] ∧ SqL K H p ys ∧ Q (.int ys.length) H
def rLenT (K : PySem.W.Frag) : List V → Hp → VK → Prop := fun xs H Q => ∃ p ys, xs = [.ref p] ∧ SqT K H p ys ∧ Q (.int ys.length) H
theorem call_lenL {X : Cx} : CallR X (.builtin "len") (rLenL X.K) := fun pins s σ H xs us Q I r ⟨p, ys, e, h, q⟩ => call_len_seq pins s σ H xs us Q I r ⟨p, ys, e, .inl h, q⟩
theorem call_lenT {X : Cx} : CallR X (.builtin "len") (rLenT X.K) := fun pins s σ H xs us Q I r ⟨p, ys, e, h, q⟩ => call_len_seq pins s σ H xs us Q I r ⟨p, ys, e, .inr h, q⟩
theorem i_lenL {K : PySem.W.Frag} {H : Hp} {Q : VK} {p : Addr} {ys : List V} (h : SqL K H p ys) (q : Q (.int ys.length) H) : rLenL K [.ref p] H Q := ⟨p, ys, rfl, h, q⟩
theorem i_lenT {K : PySem.W.Frag} {H : Hp} {Q : VK} {p : Addr} {ys : List V} (h : SqT K H p ys) (q : Q (.int ys.length) H) : rLenT K [.ref p] H Q := ⟨p, ys, rfl, h, q⟩
theorem i_ixL {K : PySem.W.Frag} {H : Hp} {Q : VK} {p : Addr} {xs : List V} {i : Int} {v : V} (h : SqL K H p xs) (e : atI xs i = some v) (q : Q v H) : rIxL K (.ref p) (.int i) H Q := ⟨p, xs, i, v, rfl, rfl, h, e, q⟩
theorem i_ixT {K : PySem.W.Frag} {H : Hp} {Q : VK} {p : Addr} {xs : List V} {i : Int} {v : V} (h : SqT K H p xs) (e : atI xs i = some v) (q : Q v H) : rIxT K (.ref p) (.int i) H Q := ⟨p, xs, i, v, rfl, rfl, h, e, q⟩
theorem i_setL {H : Hp} {p : Addr} {xs : List V} {i : Int} {j : Nat} {v : V} {Q : Hp → Prop} (h : H p = some (.lst xs)) (e : ixN xs.length i = some j) (q : Q (upd H p (.lst (xs.set j v)))) : rSetL (.ref p) (.int i) v H Q := ⟨p, xs, i, j, rfl, rfl, h, e, q⟩
theorem i_lst {H : Hp} {xs : List V} {Q : VK} (hl : xs.length ≤ sizeLine) (q : ∀ p, H p = none → Q (.ref p) (upd H p (.lst xs))) : xs.length ≤ sizeLine ∧ ∀ p, H p = none → Q (.ref p) (upd H p (.lst xs)) := ⟨hl, q⟩
/-- an item at a drawn place of a written list -/
theorem at_of {α : Type} {xs : List α} {i : Int} (h0 : 0 ≤ i) (h1 : i < xs.length) : ∃ v, atI xs i = some v ∧ v ∈ xs := by
  obtain ⟨j, rfl⟩ := Int.eq_ofNat_of_zero_le h0
  have hi : j < xs.length := by omega
  exact ⟨xs[j], atI_nat (List.getElem?_eq_getElem hi), List.getElem_mem hi⟩
theorem pow18 : CPow 10 18 := ⟨by decide, by decide, by decide⟩
theorem cm_r {i j : Int} (h : decide (-(2 ^ 64) < j) && decide (j < 2 ^ 64) = true) : CMul i j := by
  simp only [Bool.and_eq_true, decide_eq_true_eq] at h
  exact .inr h
theorem cm_l {i j : Int} (h : decide (-(2 ^ 64) < i) && decide (i < 2 ^ 64) = true) : CMul i j := by
  simp only [Bool.and_eq_true, decide_eq_true_eq] at h
  exact .inl h
theorem i_isi {K : PySem.W.Frag} {H : Hp} {Q : VK} {x : V} {t c : String} {b : Bool} (ty : TyX K H x (.type t)) (hk : kitB t c = some b) (q : Q (.bl b) H) : rIsi K [x, .ty c] H Q := ⟨x, .ty c, .type t, .type c, b, rfl, .ty c, ty, kit_ty hk, q⟩
theorem ty_int {K : PySem.W.Frag} {H : Hp} {i : Int} : TyX K H (.int i) (.type "int") := .base (.int _)
theorem ty_bl {K : PySem.W.Frag} {H : Hp} {i : Bool} : TyX K H (.bl i) (.type "bool") := .base (.bl _)
theorem ty_str {K : PySem.W.Frag} {H : Hp} {i : Str} : TyX K H (.str i) (.type "str") := .base (.str _)
theorem ty_non {K : PySem.W.Frag} {H : Hp} : TyX K H .non (.type "NoneType") := .base .non
theorem kb_ii : kitB "int" "int" = some true := by decide +kernel
theorem kb_bi : kitB "bool" "int" = some true := by decide +kernel
theorem kb_ib : kitB "int" "bool" = some false := by decide +kernel
theorem kb_bb : kitB "bool" "bool" = some true := by decide +kernel
theorem pow17 : CPow 10 17 := ⟨by decide, by decide, by decide⟩
/-- for over range(n) -/
def rForR (lo : Int) (n : Nat) (g : TG) (tb : TS) : TS := fun D σ H => ∃ W : Nat → Nat → L2.St → Hp → Prop, (∃ m, W 0 m σ H) ∧ ∀ i m σ H, W i m σ H →
  ((Itr lo n).stop i H ∧ D.nx σ H) ∨ ((Itr lo n).go i H ∧ ∃ Nx : L2.St → Hp → Prop, (∀ σ' H', Nx σ' H' → ∃ m', m' < m ∧ W (i + 1) m' σ' H') ∧ ∀ x H', (Itr lo n).yld i H x H' → g x σ H' fun σ2 H2 => tb { D with nx := Nx, ct := Nx, bk := D.nx } σ2 H2)
theorem i_forR1 {ta : TA} {g : TG} {tb : TS} {D : Ends} {σ : L2.St} {H : Hp} (h : ta σ H fun vs H1 => ∃ j : Int, vs = [.int j] ∧ -(2 ^ 62) ≤ j ∧ j < 2 ^ 62 ∧ rForR 0 j.toNat g tb D σ H1) : tFor (iRng1 ta) g tb D σ H := h
theorem i_forR2 {ta : TA} {g : TG} {tb : TS} {D : Ends} {σ : L2.St} {H : Hp} (h : ta σ H fun vs H1 => ∃ i j : Int, vs = [.int i, .int j] ∧ (-(2 ^ 62) ≤ i ∧ i < 2 ^ 62 ∧ -(2 ^ 62) ≤ j ∧ j < 2 ^ 62) ∧ rForR i (j - i).toNat g tb D σ H1) : tFor (iRng2 ta) g tb D σ H := h
theorem i_loopR {lo : Int} {n : Nat} {j : Nat} {tb : TS} {D : Ends} {σ : L2.St} {H : Hp} (Pv : Nat → L2.St → Hp → Prop) (h0 : Pv 0 σ H)
    (hs : ∀ (i : Nat) σ H, i < n → Pv i σ H → tb { D with nx := Pv (i + 1), ct := Pv (i + 1), bk := D.nx } (σ.set j (some (.int (lo + i)))) H) (hd : ∀ σ H, Pv n σ H → D.nx σ H) : rForR lo n (gName j) tb D σ H := for_range Pv h0 hs hd
theorem i_else {c A B : Prop} [Decidable c] (h : ¬ c) (b : B) : if c then A else B := by rw [if_neg h]; exact b
theorem i_then {c A B : Prop} [Decidable c] (h : c) (a : A) : if c then A else B := by rw [if_pos h]; exact a
/-- two ways that meet -/
theorem i_both {c A B T : Prop} [Decidable c] (t : T) (h1 : c → T → A) (h2 : ¬ c → T → B) : if c then A else B := ite2 (fun h => h1 h t) (fun h => h2 h t)
theorem ty_tup {K : PySem.W.Frag} {H : Hp} {p : Addr} {xs : List V} (h : H p = some (.tup xs)) : TyX K H (.ref p) (.type "tuple") := .base (.tup h)
theorem ty_lst {K : PySem.W.Frag} {H : Hp} {p : Addr} {xs : List V} (h : H p = some (.lst xs)) : TyX K H (.ref p) (.type "list") := .base (.lst h)
theorem kb_ni : kitB "NoneType" "int" = some false := by decide +kernel
theorem kb_si : kitB "str" "int" = some false := by decide +kernel
theorem kb_li : kitB "list" "int" = some false := by decide +kernel
theorem kb_ti : kitB "tuple" "int" = some false := by decide +kernel
theorem kb_di : kitB "dict" "int" = some false := by decide +kernel
/-! ### loops by what is walked -/
def rForJ (J : It) (g : TG) (tb : TS) : TS := fun D σ H => ∃ W : Nat → Nat → L2.St → Hp → Prop, (∃ m, W 0 m σ H) ∧ ∀ i m σ H, W i m σ H →
  (J.stop i H ∧ D.nx σ H) ∨ (J.go i H ∧ ∃ Nx : L2.St → Hp → Prop, (∀ σ' H', Nx σ' H' → ∃ m', m' < m ∧ W (i + 1) m' σ' H') ∧ ∀ x H', J.yld i H x H' → g x σ H' fun σ2 H2 => tb { D with nx := Nx, ct := Nx, bk := D.nx } σ2 H2)
theorem tFor_J {wi : TI} {g : TG} {tb : TS} {D : Ends} {σ : L2.St} {H : Hp} : tFor wi g tb D σ H = wi σ H fun J H1 => rForJ J g tb D σ H1 := rfl
def rLcJ (J : It) (g : TG) (tt : TT) (te : TE) (vs : List Nat) : TE := fun σ H1 Q => ∀ D, H1 D = none → ∃ W : Nat → Nat → Hp → Prop, (∃ m, W 0 m (upd H1 D (.lst []))) ∧ ∀ i m H, W i m H →
  (J.stop i H ∧ Q (.ref D) H) ∨ (J.go i H ∧ ∃ Nx : Hp → Prop, (∀ H', Nx H' → ∃ m', m' < m ∧ W (i + 1) m' H') ∧ ∀ x H', J.yld i H x H' → g x (wipe σ vs) H' fun σ2 H2 => wipe σ2 vs = wipe σ vs ∧ tt σ2 H2 fun b H3 =>
    if b = true then te σ2 H3 fun y H4 => ∃ acc, H4 D = some (.lst acc) ∧ acc.length < sizeLine ∧ Nx (upd H4 D (.lst (acc ++ [y]))) else Nx H3)
theorem tLc_J {wi : TI} {g : TG} {tt : TT} {te : TE} {vs : List Nat} {σ : L2.St} {H : Hp} {Q : VK} : tLc wi g tt te vs σ H Q = wi σ H fun J H1 => rLcJ J g tt te vs σ H1 Q := rfl
theorem i_for {J : It} {n : Nat} {G : Hp → Prop} {Y : Nat → Hp → V → Hp → Prop} (w : Walk J n G Y) {j : Nat} {tb : TS} {D : Ends} {σ : L2.St} {H : Hp} (Pv : Nat → L2.St → Hp → Prop) (h0 : Pv 0 σ H) (hG : ∀ i σ H, i ≤ n → Pv i σ H → G H)
    (hs : ∀ i x σ H H', i < n → Pv i σ H → Y i H x H' → tb { D with nx := Pv (i + 1), ct := Pv (i + 1), bk := D.nx } (σ.set j (some x)) H') (hd : ∀ σ H, Pv n σ H → D.nx σ H) : rForJ J (gName j) tb D σ H := for_it w Pv h0 hG hs hd
theorem wipe_one {σ : L2.St} {j : Nat} {x : V} : wipe ((wipe σ [j]).set j (some x)) [j] = wipe σ [j] := by
  show ((σ.set j none).set j (some x)).set j none = σ.set j none
  rw [List.set_set, List.set_set]
def YL {α : Type} (l : List α) (r : α → V) : Nat → Hp → V → Hp → Prop := fun i H v H' => H' = H ∧ ∃ c, l[i]? = some c ∧ v = r c
/-- [e for x in ..], e without an effect -/
theorem i_lcL {α : Type} {J : It} {l : List α} {r : α → V} {G : Hp → Prop} (w : Walk J l.length G (YL l r)) {j : Nat} {te : TE} {σ : L2.St} {H : Hp} {Q : VK} (g : α → V) (hn : l.length < sizeLine) (hG : ∀ D ys, H D = none → G (upd H D (.lst ys)))
    (hs : ∀ c ∈ l, ∀ H1 (Q' : VK), Same H H1 → Q' (g c) H1 → te ((wipe σ [j]).set j (some (r c))) H1 Q') (q : ∀ D, H D = none → Q (.ref D) (upd H D (.lst (l.map g)))) : rLcJ J (gName j) tYes te [j] σ H Q := by
  intro D hD
  refine lc_it w (fun i H' => H' = upd H D (.lst ((l.take i).map g))) rfl (fun i H' _ e => by subst e; exact hG D _ hD) (fun i x H1 H2 hi e y => ?_) (fun H' e => by subst e; rw [List.take_length]; exact q D hD)
  obtain ⟨e2, c, hc, rfl⟩ := y
  subst e2
  refine ⟨wipe_one, hs c (List.mem_of_getElem? hc) H2 (fun y H4 => ∃ acc, H4 D = some (.lst acc) ∧ acc.length < sizeLine ∧ upd H4 D (.lst (acc ++ [y])) = upd H D (.lst ((l.take (i + 1)).map g))) (by subst e; intro b o h; rw [upd_ne (ne_of_none h hD)]; exact h) ?_⟩
  subst e
  refine ⟨_, upd_same, by rw [List.length_map, List.length_take]; omega, ?_⟩
  rw [upd_upd, List.take_add_one, hc, List.map_append]; rfl
/-- for x in ..: if not p: return False -/
theorem i_forall {α : Type} {J : It} {l : List α} {r : α → V} {G : Hp → Prop} (w : Walk J l.length G (YL l r)) {j : Nat} {tb : TS} {D : Ends} {σ : L2.St} {H : Hp} (p : α → Bool) (v : V) (hG : G H)
    (hs : ∀ c ∈ l, ∀ D' : Ends, (p c = true → D'.nx (σ.set j (some (r c))) H) → (p c = false → D'.rt v H) → tb D' (σ.set j (some (r c))) H) (h1 : l.all p = true → D.nx σ H ∧ ∀ u, D.nx (σ.set j u) H) (h2 : l.all p = false → D.rt v H) : rForJ J (gName j) tb D σ H := by
  refine i_for w (fun i σ' H' => H' = H ∧ (σ' = σ ∨ ∃ u, σ' = σ.set j u) ∧ ∀ c ∈ l.take i, p c = true) ⟨rfl, .inl rfl, by simp⟩ (fun i σ' H' _ h => by rw [h.1]; exact hG) ?_ ?_
  · rintro i x σ' H' H2 hi ⟨rfl, hσ, hp⟩ ⟨rfl, c, hc, rfl⟩
    have hm := List.mem_of_getElem? hc
    have es : σ'.set j (some (r c)) = σ.set j (some (r c)) := by
      rcases hσ with rfl | ⟨u, rfl⟩
      · rfl
      · rw [List.set_set]
    rw [es]
    refine hs c hm _ (fun hpc => ⟨rfl, .inr ⟨_, rfl⟩, fun d hd => ?_⟩) (fun hpc => h2 ?_)
    · rw [List.take_add_one, hc] at hd
      rcases List.mem_append.mp hd with h | h
      · exact hp d h
      · rw [List.mem_singleton.mp h]; exact hpc
    · rw [List.all_eq_false]
      exact ⟨c, hm, by rw [hpc]; simp⟩
  · rintro σ' H' ⟨rfl, hσ, hp⟩
    rw [List.take_length] at hp
    have h := h1 (List.all_eq_true.mpr hp)
    rcases hσ with rfl | ⟨u, rfl⟩
    · exact h.1
    · exact h.2 u
/-- [e for x in ..], e draws from the bag at a -/
theorem i_lcD {J : It} {n : Nat} {G : Hp → Prop} {Y : Nat → Hp → V → Hp → Prop} (w : Walk J n G Y) {a : Addr} {j : Nat} {te : TE} {σ : L2.St} {H : Hp} {Q : VK} (hB : Bag H a) (P : V → Prop) (hn : n < sizeLine) (hG : ∀ H', Mv a H H' → G H') (hY : ∀ i H x H', Y i H x H' → H' = H)
    (hs : ∀ i x H1 (Q' : VK), i < n → Y i H1 x H1 → Mv a H H1 → (∀ y H2, P y → Mv a H1 H2 → Q' y H2) → te ((wipe σ [j]).set j (some x)) H1 Q') (q : ∀ D H' ys, H D = none → Mv a H H' → H' D = some (.lst ys) → ys.length = n → (∀ y ∈ ys, P y) → Q (.ref D) H') : rLcJ J (gName j) tYes te [j] σ H Q := by
  intro D hD
  have nD := bag_ne hB hD
  refine lc_it w (fun i H' => Mv a H H' ∧ ∃ ys, H' D = some (.lst ys) ∧ ys.length = i ∧ ∀ y ∈ ys, P y) ⟨(Mv.refl hB).new hD, [], upd_same, rfl, fun _ h => nomatch h⟩ (fun i H' _ e => hG H' e.1) (fun i x H1 H2 hi e y => ?_) (fun H' e => ?_)
  · have e2 := hY i H1 x H2 y
    subst e2
    obtain ⟨mv, ys, e1, e2, e3⟩ := e
    refine ⟨wipe_one, hs i x H2 (fun y H4 => ∃ acc, H4 D = some (.lst acc) ∧ acc.length < sizeLine ∧ (Mv a H (upd H4 D (.lst (acc ++ [y]))) ∧ ∃ ys, upd H4 D (.lst (acc ++ [y])) D = some (.lst ys) ∧ ys.length = i + 1 ∧ ∀ y ∈ ys, P y)) hi y mv fun v H3 hv mv3 => ?_⟩
    refine ⟨ys, mv3.old D _ nD e1, by omega, ?_⟩
    have m3 := mv.trans mv3
    refine ⟨⟨?_, fun b o hb e => ?_⟩, ys ++ [v], upd_same, by simp [e2], fun y hy => ?_⟩
    · obtain ⟨x1, x2, x3, hx⟩ := m3.bag
      exact ⟨x1, x2, x3, by rw [upd_ne nD.symm]; exact hx⟩
    · rw [upd_ne (ne_of_none e hD)]; exact m3.old b o hb e
    · rcases List.mem_append.mp hy with h | h
      · exact e3 y h
      · rw [List.mem_singleton.mp h]; exact hv
  · obtain ⟨mv, ys, e1, e2, e3⟩ := e
    exact q D H' ys hD mv e1 e2 e3
theorem rdCut {t u : TS} {D : Ends} {σ : L2.St} {H : Hp} (Mid : L2.St → Hp → Prop) (h : t { D with nx := Mid } σ H) (k : ∀ σ' H', Mid σ' H' → u D σ' H') : C8.tCut t u D σ H := ⟨Mid, h, k⟩
theorem pow9 : CPow 10 9 := ⟨by decide, by decide, by decide⟩
theorem pow8 : CPow 10 8 := ⟨by decide, by decide, by decide⟩
theorem pow12 : CPow 10 12 := ⟨by decide, by decide, by decide⟩
theorem walk_rangeL {lo : Int} {n : Nat} : Walk (Itr lo n) (List.range n).length (fun _ => True) (YL (List.range n) fun i => .int (lo + i)) := by
  rw [List.length_range]
  exact walk_range.mono (fun _ h => h) fun i H x H' hi _ y => ⟨y.1, i, by rw [List.getElem?_range hi], y.2⟩
theorem i_app {H : Hp} {l : Addr} {xs : List V} {v : V} {Q : VK} (h : H l = some (.lst xs)) (hz : xs.length < sizeLine) (q : Q .non (upd H l (.lst (xs ++ [v])))) : rAppend (.ref l) [v] H Q := ⟨l, xs, v, rfl, rfl, h, hz, q⟩
theorem ty_app {K : PySem.W.Frag} {H : Hp} {l : Addr} {xs : List V} (h : SqL K H l xs) : tyV K "list" (.ref l) H := .inl ⟨rfl, xs, h⟩
theorem i_slL {K : PySem.W.Frag} {H : Hp} {a : Addr} {xs : List V} {lo hi : Option Int} {Q : VK} (h : SqL K H a xs) (q : ∀ p, H p = none → Q (.ref p) (upd H p (.lst (cutV xs lo hi)))) : rSlL K (.ref a) lo hi H Q := ⟨a, xs, rfl, h, q⟩
theorem i_cat {H : Hp} {l b : Addr} {xs zs : List V} {Q : VK} (h1 : H l = some (.lst xs)) (h2 : H b = some (.lst zs)) (hz : xs.length + zs.length ≤ sizeLine) (q : ∀ p, H p = none → Q (.ref p) (upd H p (.lst (xs ++ zs)))) : rCat (.ref l) (.ref b) H Q := ⟨l, b, xs, zs, rfl, rfl, h1, h2, hz, q⟩
theorem i_inL {K : PySem.W.Frag} {neg : Bool} {x : V} {H : Hp} {p : Addr} {xs : List V} {Q : VK} (h : SqL K H p xs ∨ SqT K H p xs) (h1 : flatV x = true) (h2 : xs.all flatV = true) (q : Q (.bl (if neg then !inV x xs else inV x xs)) H) : rIn K neg x (.ref p) H Q := ⟨p, xs, rfl, h, h1, h2, q⟩
theorem cut_take {xs : List V} {n : Nat} : cutV xs none (some (n : Int)) = xs.take n := by
  unfold cutV
  rw [HT.sIx_none, HT.sIx_nat]
  simp only [List.drop_zero, Nat.sub_zero]
  rw [Nat.min_comm, ← List.take_take, List.take_of_length_le (by rw [List.length_take]; omega)]
theorem cut_drop {xs : List V} {n : Nat} : cutV xs (some (n : Int)) none = xs.drop n := by
  unfold cutV
  rw [HT.sIx_none, HT.sIx_nat]
  by_cases h : n ≤ xs.length
  · rw [Nat.min_eq_left h, List.take_of_length_le (by rw [List.length_drop]; omega)]
  · rw [Nat.min_eq_right (by omega), List.drop_of_length_le (by omega), List.drop_of_length_le (by omega)]; simp
theorem line5 {n : Nat} (h : n ≤ 100000) : n ≤ sizeLine := Nat.le_trans h (by decide)
theorem line5' {n : Nat} (h : n ≤ 100000) : n < sizeLine := Nat.lt_of_le_of_lt h (by decide)
/-! ### the same rules with the written part named (for a comprehension's block) -/
theorem ix_listK (K : PySem.W.Frag) {X : Cx} (h : X.K = K := by rfl) : IxR X (rIxL K) := h ▸ ix_list
theorem ix_tupK (K : PySem.W.Frag) {X : Cx} (h : X.K = K := by rfl) : IxR X (rIxT K) := h ▸ ix_tup
theorem sl_listK (K : PySem.W.Frag) {X : Cx} (h : X.K = K := by rfl) : SlR X (rSlL K) := h ▸ sl_list
theorem sl_tupK (K : PySem.W.Frag) {X : Cx} (h : X.K = K := by rfl) : SlR X (rSlT K) := h ▸ sl_tup
theorem lenLK (K : PySem.W.Frag) {X : Cx} (h : X.K = K := by rfl) : CallR X (.builtin "len") (rLenL K) := h ▸ call_lenL
theorem lenTK (K : PySem.W.Frag) {X : Cx} (h : X.K = K := by rfl) : CallR X (.builtin "len") (rLenT K) := h ▸ call_lenT
theorem isiK (K : PySem.W.Frag) {X : Cx} (h : X.K = K := by rfl) : CallR X (.builtin "isinstance") (rIsi K) := h ▸ call_isi
theorem isiTK (K : PySem.W.Frag) {X : Cx} (h : X.K = K := by rfl) : CallR X (.builtin "isinstance") (rIsiT K) := h ▸ call_isiT
theorem in_seqK (K : PySem.W.Frag) {X : Cx} (h : X.K = K := by rfl) : OpR X (compareOp .In) (rIn K false) := h ▸ op_in_seq
theorem notIn_seqK (K : PySem.W.Frag) {X : Cx} (h : X.K = K := by rfl) : OpR X (compareOp .NotIn) (rIn K true) := h ▸ op_notIn_seq
theorem i_indexS {K : PySem.W.Frag} {H : Hp} {Q : VK} {p : Addr} {l : List Str} {s : Str} {j : Nat} (h : SqL K H p (l.map V.str)) (hj : l[j]? = some s) (hn : s ∉ l.take j) (q : Q (.int (j : Nat)) H) : rIndex K (.ref p) [.str s] H Q := by
  refine ⟨p, _, .str s, j, .str s, rfl, rfl, h, rfl, ?_, by rw [List.getElem?_map, hj]; rfl, by simp [eqV], ?_, q⟩
  · rw [List.all_map, List.all_eq_true]; intro x _; rfl
  · intro m z hm hz
    rw [List.getElem?_map] at hz
    cases e : l[m]? with
    | none => rw [e] at hz; cases hz
    | some t =>
      rw [e] at hz
      have hz : V.str t = z := Option.some.inj hz
      subst hz
      show (t == s) = false
      rw [beq_eq_false_iff_ne]
      intro et; subst et
      exact hn (List.mem_of_getElem? (by rw [List.getElem?_take_of_lt hm]; exact e))
theorem walk_listL {K : PySem.W.Frag} {a : Addr} {α : Type} {l : List α} {r : α → V} : Walk (Itl K a) l.length (fun H => SqL K H a (l.map r)) (YL l r) := by
  have w := walk_list (K := K) (a := a) (xs := l.map r)
  rw [List.length_map] at w
  exact w.mono (fun _ h => h) fun i H x H' hi _ y => ⟨y.1, l[i], List.getElem?_eq_getElem hi, by
    have := y.2
    rw [List.getElem?_map, List.getElem?_eq_getElem hi] at this
    exact (Option.some.inj this).symm⟩
theorem walk_tupL {K : PySem.W.Frag} {a : Addr} {α : Type} {l : List α} {r : α → V} : Walk (Itt K a) l.length (fun H => SqT K H a (l.map r)) (YL l r) := by
  have w := walk_tup (K := K) (a := a) (xs := l.map r)
  rw [List.length_map] at w
  exact w.mono (fun _ h => h) fun i H x H' hi _ y => ⟨y.1, l[i], List.getElem?_eq_getElem hi, by
    have := y.2
    rw [List.getElem?_map, List.getElem?_eq_getElem hi] at this
    exact (Option.some.inj this).symm⟩
theorem dpStrs {K : PySem.W.Frag} {H : Hp} : ∀ l : List Str, DpAll K H (l.map V.str) (l.map PyData.str)
  | [] => .nil
  | x :: l => .cons (.str x) (dpStrs l)
theorem dpInts {K : PySem.W.Frag} {H : Hp} : ∀ l : List Int, DpAll K H (l.map V.int) (l.map PyData.int)
  | [] => .nil
  | x :: l => .cons (.int x) (dpInts l)
theorem kb_tt : kitB "tuple" "tuple" = some true := by decide +kernel
theorem pow15 : CPow 10 15 := ⟨by decide, by decide, by decide⟩
theorem sc_ii {a b : Int} : scal (.int a) (.int b) = true := rfl
theorem sc_ss {a b : Str} : scal (.str a) (.str b) = true := rfl
theorem sc_bb {a b : Bool} : scal (.bl a) (.bl b) = true := rfl
theorem sc_in {a : Int} : scal (.int a) .non = true := rfl
theorem sc_ni {a : Int} : scal .non (.int a) = true := rfl
theorem sc_nn : scal .non .non = true := rfl
theorem sc_is {a : Int} {b : Str} : scal (.int a) (.str b) = true := rfl
theorem sc_si {a : Int} {b : Str} : scal (.str b) (.int a) = true := rfl
theorem sc_ns {b : Str} : scal .non (.str b) = true := rfl
theorem sc_sn {b : Str} : scal (.str b) .non = true := rfl
theorem sc_bn {b : Bool} : scal (.bl b) .non = true := rfl
theorem sc_nb {b : Bool} : scal .non (.bl b) = true := rfl
theorem sc_sb {b : Bool} {a : Str} : scal (.str a) (.bl b) = true := rfl
theorem sc_bs {b : Bool} {a : Str} : scal (.bl b) (.str a) = true := rfl
/-- a new list at p, all else kept -/
structure NewL (H H' : Hp) (p : Addr) (xs : List V) : Prop where
  free : H p = none
  same : Same H H'
  at_ : H' p = some (.lst xs)
theorem NewL.sq {K : PySem.W.Frag} {H H' : Hp} {p : Addr} {xs : List V} (n : NewL H H' p xs) : SqL K H' p xs := sqL_of n.at_
theorem NewL.set {H H' : Hp} {p : Addr} {xs ys : List V} (n : NewL H H' p xs) : NewL H (upd H' p (.lst ys)) p ys := ⟨n.free, fun b o e => by rw [upd_ne (ne_of_none e n.free)]; exact n.same b o e, upd_same⟩
theorem NewL.more {H H' H2 : Hp} {p : Addr} {xs : List V} (n : NewL H H' p xs) (s : Same H' H2) : NewL H H2 p xs := ⟨n.free, n.same.trans s, s _ _ n.at_⟩
theorem same_new {H : Hp} {p : Addr} {o : HO} (n : H p = none) : Same H (upd H p o) := fun b u e => by rw [upd_ne (ne_of_none e n)]; exact e
theorem cut_all {xs : List V} : cutV xs (some 0) none = xs := cut_drop (n := 0)
theorem pow14 : CPow 10 14 := ⟨by decide, by decide, by decide⟩
theorem ixN_of {n j : Nat} (h : j < n) : ixN n (j : Int) = some j := by
  unfold ixN
  rw [if_pos (by omega), if_pos (by omega)]; simp

/-! ### texts -/
def chr1 (c : Nat) : Str := ⟨#[c]⟩
def rLeC : R2 := fun x y H Q => ∃ c d, x = .str ⟨#[c]⟩ ∧ y = .str ⟨#[d]⟩ ∧ Q (.bl (decide (c ≤ d))) H
theorem op_leC {X : Cx} : OpR X (compareOp .LtE) rLeC := OpR.imp' op_le_str fun x y H Q ⟨c, d, e1, e2, q⟩ => ⟨⟨#[c]⟩, ⟨#[d]⟩, e1, e2, by
  have e : (!decide ((⟨#[d]⟩ : Str).cps.toList < (⟨#[c]⟩ : Str).cps.toList)) = decide (c ≤ d) := by
    show (!decide ([d] < [c])) = decide (c ≤ d)
    have h : ([d] < [c]) ↔ d < c := by
      rw [List.cons_lt_cons_iff]
      constructor
      · rintro (h | ⟨_, h⟩)
        · exact h
        · exact absurd h (by simp)
      · exact fun h => .inl h
    by_cases hc : c ≤ d
    · have : ¬ ([d] < [c]) := fun k => by have := h.mp k; omega
      rw [decide_eq_true hc, decide_eq_false this]; rfl
    · have : [d] < [c] := h.mpr (by omega)
      rw [decide_eq_false hc, decide_eq_true this]; rfl
  show Q (V.bl _) H
  rw [e]; exact q⟩
theorem i_leC {x y : V} {c d : Nat} {H : Hp} {Q : VK} (e1 : x = .str ⟨#[c]⟩) (e2 : y = .str ⟨#[d]⟩) (q : Q (.bl (decide (c ≤ d))) H) : rLeC x y H Q := ⟨c, d, e1, e2, q⟩
def rOrdC : List V → Hp → VK → Prop := fun xs H Q => ∃ c : Nat, xs = [.str ⟨#[c]⟩] ∧ Q (.int c) H
theorem call_ordC {X : Cx} : CallR X (.builtin "ord") rOrdC := fun pins s σ H xs us Q I r ⟨c, e, q⟩ => call_ord pins s σ H xs us Q I r ⟨⟨#[c]⟩, e, rfl, q⟩
theorem i_ordC {x : V} {c : Nat} {H : Hp} {Q : VK} (e1 : x = .str ⟨#[c]⟩) (q : Q (.int c) H) : rOrdC [x] H Q := ⟨c, by rw [e1], q⟩
def rInC (neg : Bool) : R2 := fun x y H Q => ∃ (c : Nat) (z : Str), x = .str ⟨#[c]⟩ ∧ y = .str z ∧ Q (.bl (if neg then !decide (c ∈ z.cps.toList) else decide (c ∈ z.cps.toList))) H
theorem op_inC {X : Cx} : OpR X (compareOp .In) (rInC false) := op_in_sign
theorem op_notInC {X : Cx} : OpR X (compareOp .NotIn) (rInC true) := op_notIn_sign
theorem i_inC {x y : V} {neg : Bool} {c : Nat} {z : Str} {H : Hp} {Q : VK} (e1 : x = .str ⟨#[c]⟩) (e2 : y = .str z) (q : Q (.bl (if neg then !decide (c ∈ z.cps.toList) else decide (c ∈ z.cps.toList))) H) : rInC neg x y H Q := ⟨c, z, e1, e2, q⟩
def rLenS' : List V → Hp → VK → Prop := fun xs H Q => ∃ z : Str, xs = [.str z] ∧ z.length ≤ sizeLine ∧ Q (.int z.length) H
theorem call_lenS {X : Cx} : CallR X (.builtin "len") rLenS' := call_len_str
theorem i_lenS {x : V} {z : Str} {H : Hp} {Q : VK} (e1 : x = .str z) (hz : z.length ≤ sizeLine) (q : Q (.int z.length) H) : rLenS' [x] H Q := ⟨z, by rw [e1], hz, q⟩
theorem i_ixS {z : Str} {i : Int} {c : Nat} {H : Hp} {Q : VK} (hz : z.length ≤ sizeLine) (e : atI z.cps.toList i = some c) (q : Q (.str ⟨#[c]⟩) H) : rIxS (.str z) (.int i) H Q := ⟨z, i, c, rfl, rfl, hz, e, q⟩
/-- a sign at a drawn place -/
theorem at_chr {z : Str} {i : Int} (h0 : 0 ≤ i) (h1 : i < z.length) : ∃ c, atI z.cps.toList i = some c ∧ c ∈ z.cps.toList := at_of h0 (by rw [Array.length_toList]; exact h1)
theorem walk_chars {z : Str} : Walk (Its z) z.cps.toList.length (fun _ => True) (YL z.cps.toList fun c => .str ⟨#[c]⟩) := by
  rw [Array.length_toList]
  exact walk_str.mono (fun _ h => h) fun i H x H' _ _ ⟨e, c, h, hv⟩ => ⟨e, c, by rw [Array.getElem?_toList]; exact h, hv⟩
def rJoin (K : PySem.W.Frag) : V → List V → Hp → VK → Prop := fun x xs H Q => ∃ a p, ∃ ys : List Str, x = .str a ∧ xs = [.ref p] ∧ (SqL K H p (ys.map V.str) ∨ SqT K H p (ys.map V.str)) ∧
      (ys.map (·.length)).sum + ys.length * a.length ≤ 16777216 ∧ Q (.str (Txt.join a ys)) H
theorem pe_joinR {X : Cx} {o e : Expr} {to te : TE} {apos pos : Pos} (ho : PE X o to) (he : PE X e te) (hs : starEach [e] X.env = [(false, eval e X.env)] := by rfl) (hbase : attributeBase o "join" X.env (eval o X.env) = eval o X.env := by rfl) (hline : (apos.endLine == pos.line) = true := by rfl) :
    PE X (.Call (.Attribute o "join" apos) [e] [] pos) (tM1 (rJoin X.K) to te) := pe_join ho he hs hbase hline
theorem kb_ss : kitB "str" "str" = some true := by decide +kernel
theorem kb_bs : kitB "bool" "str" = some false := by decide +kernel
theorem kb_ns : kitB "NoneType" "str" = some false := by decide +kernel
theorem kb_is : kitB "int" "str" = some false := by decide +kernel
theorem kb_ls : kitB "list" "str" = some false := by decide +kernel
theorem kb_ts : kitB "tuple" "str" = some false := by decide +kernel
theorem kb_ds : kitB "dict" "str" = some false := by decide +kernel
theorem i_all {K : PySem.W.Frag} {H : Hp} {Q : VK} {p : Addr} {bs : List Bool} (h : H p = some (.lst (bs.map V.bl))) (q : Q (.bl (bs.all id)) H) : rAll K [.ref p] H Q := ⟨p, bs, rfl, sqL_of h, q⟩
theorem strs_of {P : Str → Prop} : ∀ {ys : List V}, (∀ y ∈ ys, ∃ s, y = .str s ∧ P s) → ∃ zs : List Str, ys = zs.map V.str ∧ ∀ s ∈ zs, P s
  | [], _ => ⟨[], rfl, fun _ h => nomatch h⟩
  | y :: ys, h => by
    obtain ⟨s, rfl, hs⟩ := h y List.mem_cons_self
    obtain ⟨zs, rfl, hz⟩ := strs_of (ys := ys) fun y hy => h y (List.mem_cons_of_mem _ hy)
    exact ⟨s :: zs, rfl, fun t ht => by
      rcases List.mem_cons.mp ht with rfl | ht
      · exact hs
      · exact hz t ht⟩
theorem joinL_nil : ∀ ps : List (List Nat), TL.joinL [] ps = ps.flatten
  | [] => rfl
  | [p] => by simp [TL.joinL]
  | p :: q :: r => by
    show p ++ ([] ++ TL.joinL [] (q :: r)) = _
    rw [joinL_nil (q :: r)]; simp
theorem join_cl (ys : List Str) : (Txt.join Str.empty ys).cps.toList = (ys.map fun s => s.cps.toList).flatten := by
  rw [TL.join_eq]
  have e := TL.tl_join Str.empty ys
  have e2 : TL.tl Str.empty = [] := rfl
  rw [e2, joinL_nil] at e
  exact e
theorem cl_append (a b : Str) : (a ++ b).cps.toList = a.cps.toList ++ b.cps.toList := TL.tl_append a b
theorem cl_length (a : Str) : a.cps.toList.length = a.length := Array.length_toList
theorem len_append (a b : Str) : (a ++ b).length = a.length + b.length := by rw [← cl_length, cl_append, List.length_append, cl_length, cl_length]
theorem mem_cut {z : Str} {lo hi : Option Int} {c : Nat} (h : c ∈ (cutS z lo hi).cps.toList) : c ∈ z.cps.toList := by
  unfold cutS at h
  exact List.mem_of_mem_drop (List.mem_of_mem_take (by simpa using h))
theorem i_slS {z : Str} {lo hi : Option Int} {H : Hp} {Q : VK} (hz : z.length ≤ sizeLine) (q : Q (.str (cutS z lo hi)) H) : rSlS (.str z) lo hi H Q := ⟨z, rfl, hz, q⟩

/-! ### fields, methods and exceptions, the written part named -/
section
variable {X : Cx} {K : PySem.W.Frag}
theorem pe_fldK (K : PySem.W.Frag) {e : Expr} {ta : TE} {f : Str} {pos : Pos} (he : PE X e ta) (hb : attributeBase e f X.env (eval e X.env) = eval e X.env) (hK : X.K = K := by rfl) : PE X (.Attribute e f pos) (tFld K ta f) := by
  have h := pe_fld (pos := pos) he hb
  rw [hK] at h
  exact h
theorem ps_fldK (K : PySem.W.Frag) {o value : Expr} {ta tv : TE} {f : Str} {pos pos' : Pos} (ha : PE X o ta) (hv : PE X value tv) (hs : swapsWith value (some (.Attribute o f pos')) pos.line X.env = pure false) (hK : X.K = K := by rfl) : PS X (.Assign [.Attribute o f pos'] value pos) (sFld K ta tv f) := by
  have h := ps_fld (pos := pos) ha hv hs
  rw [hK] at h
  exact h
theorem ps_fldaugK (K : PySem.W.Frag) {o value : Expr} {ta tv : TE} {f : Str} {pos tpos : Pos} {op : Operator} {rd : V → V → Hp → VK → Prop} (ha : PE X o ta) (hv : PE X value tv) (hop : InOp X op rd) (hK : X.K = K := by rfl) : PS X (.AugAssign (.Attribute o f tpos) op value pos) (sFldAug K ta tv rd f) := by
  have h := ps_fldaug (f := f) (pos := pos) (tpos := tpos) ha hv hop
  rw [hK] at h
  exact h
theorem pe_bmK (K : PySem.W.Frag) {T id : String} {name : Str} {r : V → List V → Hp → VK → Prop} {o e : Expr} {es : List Expr} {to : TE} {t : TA} {apos cpos : Pos} (pa : PlainAttrs T) (slot : Slot T name id) (hty : typeOf (.builtin id) = pure (.type "method_descriptor")) (hm : MtR X id r) (ho : PE X o to) (ha : PA X (e :: es) t)
    (hbase : attributeBase o name X.env (eval o X.env) = eval o X.env := by rfl)
    (hfew : ((backTo cpos (starEach (e :: es) X.env)).all (fun x => !x.1) && (backToKw cpos (keywordEach [] X.env)).all (fun x => x.1.isSome)
      && decide ((e :: es).length + ([] : List Keyword).length + (if ([] : List Keyword).isEmpty then 0 else 1) < 30)) = true := by rfl)
    (hline : (apos.endLine == cpos.line) = true := by rfl) (hs : starEach (e :: es) X.env = (false, eval e X.env) :: starEach es X.env := by rfl) (hplain : (backTo cpos (starEach es X.env)).any (·.1) = false := by rfl) (hK : X.K = K := by rfl) :
    PE X (.Call (.Attribute o name apos) (e :: es) [] cpos) (tBM K T r to t) := by
  have h := pe_bm pa slot hty hm ho ha hbase hfew hline hs hplain
  rw [hK] at h
  exact h
theorem pe_bm0K (K : PySem.W.Frag) {T id : String} {name : Str} {r : V → List V → Hp → VK → Prop} {o : Expr} {to : TE} {apos cpos : Pos} (pa : PlainAttrs T) (slot : Slot T name id) (hty : typeOf (.builtin id) = pure (.type "method_descriptor")) (hm : MtR X id r) (ho : PE X o to)
    (hbase : attributeBase o name X.env (eval o X.env) = eval o X.env := by rfl) (hline : (apos.endLine == cpos.line) = true := by rfl) (hK : X.K = K := by rfl) : PE X (.Call (.Attribute o name apos) [] [] cpos) (tBM0 K T r to) := by
  have h := pe_bm0 pa slot hty hm ho hbase hline
  rw [hK] at h
  exact h
/-- o.m(..) that may raise, what is raised wished for at the caller's slots -/
def tMethS (C : Addr) (m : Str) (sp : Sp) (E : L2.St → XK) (ta : TE) (t : TA) : TE := fun σ H Q => ta σ H fun x H1 => ∃ a dx fs, x = .ref a ∧ H1 a = some (.ins C dx fs) ∧ fs.lookup m = none ∧ t σ H1 fun vs H2 => sp (x :: vs) H2 Q (E σ)
variable {CX : CXT} {k : Nat} {f C : Addr} {fd : FuncData} {ps : List Str} {sp : Sp} {E : L2.St → XK} {m : Str} {pos apos : Pos} {e o : Expr} {es : List Expr} {ta : TE} {t : TA}
theorem pe_methS {pl : Sem Bool} (he : PE X o ta) (c : Cls X.K C) (hm : Meth X.K C m f) (F : FnOk X.prog X.w X.K X.mg X.base CX k f fd ps sp) (hr : Room k X.A) (hb : Binds X.K fd ps []) (hx : ∀ σ, PassesAt CX X σ (E σ)) (ha : PA X (e :: es) t)
    (hst : starEach (e :: es) X.env = (false, eval e X.env) :: starEach es X.env := by rfl) (hpl : (backTo pos (starEach es X.env)).any (·.1) = false := by rfl)
    (ht : eval (.Call (.Attribute o m apos) (e :: es) [] pos) X.env = (do
      let ov ← eval o X.env
      standAt apos.atName
      let (f, first) ← holding [ov] (getMethod ov m pl)
      callWith pos f first (backTo pos (starEach (e :: es) X.env)) (backToKw pos (keywordEach [] X.env))) := by rfl) :
    PE X (.Call (.Attribute o m apos) (e :: es) [] pos) (tMethS C m sp E ta t) := by
  refine ⟨fun pins s σ H Q I h => ?_⟩
  refine PySem.W.methodCall_KW (pl := pl) (thn (he.run pins s σ H _ I h) fun u s1 ⟨x, H1, I1, rx, a, dx, fs, ex, ea, l, q⟩ => ?_) ht
  subst ex
  obtain rfl : u = Value.ref a := rx
  refine getmeth_ok I1 ea c hm l ?_
  refine PySem.W.callWith_K (first := [.ref a]) (h₀ := X.base) I.ok.mod.kin hm.kp (thn (ha.run pos pins s1 σ H1 _ I1 q) fun us s2 ⟨vs, H2, I2, r, q2⟩ => ⟨I2.kIn, ?_⟩) hst hpl
  exact run_fnS (us := .ref a :: us) (vs := .ref a :: vs) F hr hb (hx σ) I2 (.cons rfl r) q2
theorem pe_meth0S {pl : Sem Bool} (he : PE X o ta) (c : Cls X.K C) (hm : Meth X.K C m f) (F : FnOk X.prog X.w X.K X.mg X.base CX k f fd ps sp) (hr : Room k X.A) (hb : Binds X.K fd ps []) (hx : ∀ σ, PassesAt CX X σ (E σ))
    (ht : eval (.Call (.Attribute o m apos) [] [] pos) X.env = (do
      let ov ← eval o X.env
      standAt apos.atName
      let (f, first) ← holding [ov] (getMethod ov m pl)
      callWith pos f first (backTo pos (starEach [] X.env)) (backToKw pos (keywordEach [] X.env))) := by rfl) :
    PE X (.Call (.Attribute o m apos) [] [] pos) (tMethS C m sp E ta tNil) := by
  refine ⟨fun pins s σ H Q I h => ?_⟩
  refine PySem.W.methodCall_KW (pl := pl) (thn (he.run pins s σ H _ I h) fun u s1 ⟨x, H1, I1, rx, a, dx, fs, ex, ea, l, q⟩ => ?_) ht
  subst ex
  obtain rfl : u = Value.ref a := rx
  refine getmeth_ok I1 ea c hm l ?_
  exact PySem.W.callWith_K0 (first := [.ref a]) I1.kIn hm.kp (run_fnS (us := [.ref a]) (vs := [.ref a]) F hr hb (hx σ) I1 (.cons rfl .nil) q)
theorem pe_call0S {x : Str} {p : Pos} (F : FnOk X.prog X.w X.K X.mg X.base CX k f fd ps sp) (hr : Room k X.A) (hg : Gl X x) (hm : X.mg x = some (.ref f)) (hk : PySem.W.keepIn X.K (.ref f) = true) (hb : Binds X.K fd ps []) (hx : ∀ σ, PassesAt CX X σ (E σ))
    (hdb : (x == ("__debug__" : Str)) = false := by decide) : PE X (.Call (.Name x p) [] [] pos) (tCallS sp E tNil) := by
  refine ⟨fun pins s σ H Q I h => ?_⟩
  refine wpAny_Call_Name_kw (ld_glob I hg hm ?_ hdb)
  exact PySem.W.callWith_K0 I.kIn hk (run_fnS (us := []) F hr hb (hx σ) I .nil h)
/-- X(), X an own exception class without own __init__ -/
theorem pmk_own0 {C : Addr} {bmB : List Value} {B newId initId : String} {x : Str} {p pos : Pos} (F : ExcBaseFacts B newId initId bmB) (q : PySem.W.excIn X.K C bmB newId = true) (gC : X.mg x = some (.ref C))
    (kC : PySem.W.keepIn X.K (.ref C) = true) (r : Raises X (.ref C)) (hg : Gl X x) (hdb : (x == ("__debug__" : Str)) = false := by decide) :
    PMk X (.Call (.Name x p) [] [] pos) (fun _ H Q => Q (.ref C) none H) := by
  intro pins s σ H Q I h
  refine wpAny_Call_Name_kw (ld_glob I hg gC ?_ hdb)
  refine PySem.W.callWith_K0 I.kIn kC ?_
  show wpAny _ _ (call (.ref C) []) _ _ _
  obtain ⟨bm, N, nm, qn, bs, hdct, sn, sub, ab, col, dd, k0, k1, k2, k3, k5, mN, hC, hN, hni, T⟩ := exc_obj I.kIn q
  refine wpAny_call_exc_subT F T hC hN hni (fun h' e hm => ?_) (Nat.zero_le _)
  exact mk_of I hm r h (I.hok.gone hm.new)
end
/-- an error of the class at B met by «except A» -/
theorem exm_two {K : PySem.W.Frag} {B A : Addr} {b : Bool} (h1 : PySem.W.subIn K (.ref A) (.type "BaseException") = some true) (h2 : PySem.W.isClsIn K A = true) (h3 : PySem.W.typeIn K (.ref A) = some (.type "type")) (h4 : PySem.W.subIn K (.ref B) (.ref A) = some b) :
    PySem.W.exmOne K (.ref B) (.ref A) = some b := by
  have e1 : (PySem.W.subIn K (.ref A) (.type "BaseException") == some true) = true := by rw [h1] <;> rfl
  have e2 : ((PySem.W.clsIn K A).isSome && PySem.W.typeIn K (.ref A) == some (.type "type")) = true := by
    have h2' : (PySem.W.clsIn K A).isSome = true := h2
    rw [h2', h3] <;> rfl
  show (if (PySem.W.subIn K (.ref A) (.type "BaseException") == some true) = true then (if ((PySem.W.clsIn K A).isSome && PySem.W.typeIn K (.ref A) == some (.type "type")) = true then PySem.W.subIn K (.ref B) (.ref A) else none) else none) = some b
  rw [if_pos e1, if_pos e2]
  exact h4
/-- a class of exceptions without own __init__, raised -/
structure Exc (K : PySem.W.Frag) (C : Addr) : Prop where
  x : PySem.W.excIn K C [.type "ValueError", .type "Exception", .type "BaseException", .type "object"] "ValueError.__new__" = true
  kp : PySem.W.keepIn K (.ref C) = true
  be : PySem.W.subIn K (.ref C) (.type "BaseException") = some true
  ty : PySem.W.typeIn K (.ref C) = some (.type "type")
/-! ### dicts with written keys -/
def rDGet : R2 := fun x y H Q => ∃ a v, x = .ref a ∧ DGet H a y (some v) ∧ Q v H
theorem tDGet_eq {td ty : TE} {σ : L2.St} {H : Hp} {Q : VK} : tDGet td ty σ H Q = td σ H fun x H1 => ty σ H1 fun y H2 => rDGet x y H2 Q := rfl
def rDPut : V → V → V → Hp → (Hp → Prop) → Prop := fun x y v H Q => ∃ a H4, x = .ref a ∧ DPut H a y v H4 ∧ Q H4
theorem sDPut_eq {td ty tv : TE} {D : Ends} {σ : L2.St} {H : Hp} : sDPut td ty tv D σ H = tv σ H fun v H1 => td σ H1 fun x H2 => ty σ H2 fun y H3 => rDPut x y v H3 fun H4 => D.nx σ H4 := rfl
theorem i_dget {H : Hp} {a : Addr} {kvs : List (Key × V)} {k : Str} {v : V} {Q : VK} (h : H a = some (.dK kvs)) (e : valV kvs (.inr k) = some v) (q : Q v H) : rDGet (.ref a) (.str k) H Q := ⟨a, v, rfl, by rw [← e]; exact DGet.k (k := .inr k) h, q⟩
theorem i_dput {H : Hp} {a : Addr} {kvs : List (Key × V)} {k : Str} {v : V} {Q : Hp → Prop} (h : H a = some (.dK kvs)) (hl : kvs.length < sizeLine) (q : Q (upd H a (.dK (putK kvs (.inr k) v)))) : rDPut (.ref a) (.str k) v H Q := ⟨a, _, rfl, DPut.k (k := .inr k) h hl, q⟩
/-! ### what is kept but for some objects -/
def Kp (X : List Addr) (H H' : Hp) : Prop := ∀ b o, b ∉ X → H b = some o → H' b = some o
theorem Kp.refl (X : List Addr) (H : Hp) : Kp X H H := fun _ _ _ e => e
theorem Kp.trans {X : List Addr} {H H1 H2 : Hp} (a : Kp X H H1) (b : Kp X H1 H2) : Kp X H H2 := fun c o n e => b c o n (a c o n e)
theorem Kp.mono {X Y : List Addr} {H H1 : Hp} (a : Kp X H H1) (h : ∀ b ∈ X, b ∈ Y) : Kp Y H H1 := fun c o n e => a c o (fun k => n (h c k)) e
theorem Kp.set {X : List Addr} {H : Hp} {a : Addr} {o : HO} (h : a ∈ X) : Kp X H (upd H a o) := fun b u n e => by
  rw [upd_ne (fun k => n (by rw [k]; exact h))]; exact e
theorem Kp.new {X : List Addr} {H : Hp} {a : Addr} {o : HO} (h : H a = none) : Kp X H (upd H a o) := fun b u n e => by
  rw [upd_ne (ne_of_none e h)]; exact e
theorem Kp.of {X : List Addr} {H H' : Hp} (s : Same H H') : Kp X H H' := fun b u _ e => s b u e
theorem Kp.same {X : List Addr} {H H' H0 : Hp} (k : Kp X H H') (s : Same H0 H) (n : ∀ a ∈ X, H0 a = none) : Same H0 H' := fun b o e => k b o (fun h => by rw [n b h] at e; cases e) (s b o e)
/-! ### fields -/
def rFld (K : PySem.W.Frag) (f : Str) : V → Hp → VK → Prop := fun x H1 Q => ∃ a C dx fs v, x = .ref a ∧ H1 a = some (.ins C dx fs) ∧ Cls K C ∧ NoAttr K C f ∧ fs.lookup f = some v ∧ Q v H1
theorem tFld_eq {K : PySem.W.Frag} {ta : TE} {f : Str} {σ : L2.St} {H : Hp} {Q : VK} : tFld K ta f σ H Q = ta σ H fun x H1 => rFld K f x H1 Q := rfl
def rFldS (K : PySem.W.Frag) (f : Str) : V → V → Hp → (Hp → Prop) → Prop := fun x y H2 Q => ∃ a C dx fs, x = .ref a ∧ H2 a = some (.ins C dx fs) ∧ Cls K C ∧ NoAttr K C f ∧ fs.length < 1000 ∧ Q (upd H2 a (.ins C dx (putF f y fs)))
theorem sFld_eq {K : PySem.W.Frag} {ta tv : TE} {f : Str} {D : Ends} {σ : L2.St} {H : Hp} : sFld K ta tv f D σ H = tv σ H fun y H1 => ta σ H1 fun x H2 => rFldS K f x y H2 fun H3 => D.nx σ H3 := rfl
theorem i_fld {K : PySem.W.Frag} {a C dx : Addr} {fs : List (Str × V)} {f : Str} {v : V} {H : Hp} {Q : VK} (c : Cls K C) (n : NoAttr K C f) (h : H a = some (.ins C dx fs)) (l : fs.lookup f = some v) (q : Q v H) : rFld K f (.ref a) H Q := ⟨a, C, dx, fs, v, rfl, h, c, n, l, q⟩
theorem i_fldS {K : PySem.W.Frag} {a C dx : Addr} {fs : List (Str × V)} {f : Str} {y : V} {H : Hp} {Q : Hp → Prop} (c : Cls K C) (n : NoAttr K C f) (h : H a = some (.ins C dx fs)) (l : fs.length < 1000) (q : Q (upd H a (.ins C dx (putF f y fs)))) : rFldS K f (.ref a) y H Q := ⟨a, C, dx, fs, rfl, h, c, n, l, q⟩
theorem i_rep {H : Hp} {l : Addr} {k : Int} {xs : List V} {Q : VK} (h : H l = some (.lst xs)) (h1 : -(2 ^ 63) ≤ k) (h2 : k < 2 ^ 63) (hz : xs.length * k.toNat ≤ sizeLine) (q : ∀ p, H p = none → Q (.ref p) (upd H p (.lst (List.replicate k.toNat xs).flatten))) : rRep (.ref l) (.int k) H Q := ⟨l, k, xs, rfl, rfl, h, h1, h2, hz, q⟩
theorem rep1 {n : Nat} {v : V} : (List.replicate n [v]).flatten = List.replicate n v := by
  induction n with
  | zero => rfl
  | succ n ih => rw [List.replicate_succ, List.flatten_cons, ih, List.replicate_succ]; rfl
/-- a call of a method -/
def rMeth (C : Addr) (m : Str) (sp : Sp) (E : XK) (t : (List V → Hp → Prop) → Hp → Prop) : V → Hp → VK → Prop := fun x H1 Q => ∃ a dx fs, x = .ref a ∧ H1 a = some (.ins C dx fs) ∧ fs.lookup m = none ∧ t (fun vs H2 => sp (x :: vs) H2 Q E) H1
theorem tMeth_eq {C : Addr} {m : Str} {sp : Sp} {dvs : List V} {E : XK} {ta : TE} {t : TA} {σ : L2.St} {H : Hp} {Q : VK} : tMeth C m sp dvs E ta t σ H Q = ta σ H fun x H1 => rMeth C m sp E (fun k H => t σ H fun vs H2 => k (vs ++ dvs) H2) x H1 Q := rfl
theorem tMethS_eq {C : Addr} {m : Str} {sp : Sp} {E : L2.St → XK} {ta : TE} {t : TA} {σ : L2.St} {H : Hp} {Q : VK} : tMethS C m sp E ta t σ H Q = ta σ H fun x H1 => rMeth C m sp (E σ) (fun k H => t σ H k) x H1 Q := rfl
theorem i_meth {C : Addr} {m : Str} {sp : Sp} {E : XK} {t : (List V → Hp → Prop) → Hp → Prop} {a dx : Addr} {fs : List (Str × V)} {H : Hp} {Q : VK} (h : H a = some (.ins C dx fs)) (l : fs.lookup m = none) (q : t (fun vs H2 => sp (.ref a :: vs) H2 Q E) H) : rMeth C m sp E t (.ref a) H Q := ⟨a, dx, fs, rfl, h, l, q⟩
def rFldA (K : PySem.W.Frag) (f : Str) (tv : (V → Hp → Prop) → Hp → Prop) (rd : V → V → Hp → VK → Prop) : V → Hp → (Hp → Prop) → Prop := fun x H1 Q => ∃ a C dx fs v, x = .ref a ∧ H1 a = some (.ins C dx fs) ∧ Cls K C ∧ NoAttr K C f ∧ fs.lookup f = some v ∧
  tv (fun y H2 => rd v y H2 fun z H3 => ∃ dx' fs', H3 a = some (.ins C dx' fs') ∧ fs'.length < 1000 ∧ Q (upd H3 a (.ins C dx' (putF f z fs')))) H1
theorem sFldAug_eq {K : PySem.W.Frag} {ta tv : TE} {rd : V → V → Hp → VK → Prop} {f : Str} {D : Ends} {σ : L2.St} {H : Hp} : sFldAug K ta tv rd f D σ H = ta σ H fun x H1 => rFldA K f (fun k H => tv σ H k) rd x H1 fun H3 => D.nx σ H3 := rfl
theorem i_fldA {K : PySem.W.Frag} {f : Str} {tv : (V → Hp → Prop) → Hp → Prop} {rd : V → V → Hp → VK → Prop} {a C dx : Addr} {fs : List (Str × V)} {v : V} {H : Hp} {Q : Hp → Prop} (c : Cls K C) (n : NoAttr K C f) (h : H a = some (.ins C dx fs)) (l : fs.lookup f = some v)
    (q : tv (fun y H2 => rd v y H2 fun z H3 => ∃ dx' fs', H3 a = some (.ins C dx' fs') ∧ fs'.length < 1000 ∧ Q (upd H3 a (.ins C dx' (putF f z fs')))) H) : rFldA K f tv rd (.ref a) H Q := ⟨a, C, dx, fs, v, rfl, h, c, n, l, q⟩
/-! ### == and != of data that is the same -/
theorem shaped_lay {d : PyData} (h : SeqAt.shaped d = true) : d.canLay0 = true := by
  unfold SeqAt.shaped at h
  simp only [Bool.and_eq_true] at h
  exact h.1
theorem i_neD {K : PySem.W.Frag} {x y : V} {d : PyData} {H : Hp} {Q : VK} (h1 : Dp K H x d) (h2 : Dp K H y d) (hs : SeqAt.shaped d = true) (q : Q (.bl false) H) : rNeD K x y H Q :=
  ⟨d, d, h1, h2, hs, hs, by rw [SeqAt.eqv_refl d (shaped_lay hs)]; exact q⟩
theorem i_eqD {K : PySem.W.Frag} {x y : V} {d : PyData} {H : Hp} {Q : VK} (h1 : Dp K H x d) (h2 : Dp K H y d) (hs : SeqAt.shaped d = true) (q : Q (.bl true) H) : rEqD K x y H Q :=
  ⟨d, d, h1, h2, hs, hs, by rw [SeqAt.eqv_refl d (shaped_lay hs)]; exact q⟩

/-! ### own exceptions with an __init__ that keeps its arguments -/
def rMkO (C : Addr) (sp : Sp) (dvs : List V) : List V → Hp → XK → Prop := fun vs H1 Q => vs.length ≤ 1000 ∧ ∀ a, H1 a = none → sp (.ref a :: (vs ++ dvs)) (upd H1 a (exo a C none))
  (fun v H2 => v = .non ∧ ∃ (d : Addr) (fs : List (Str × V)), H2 a = some (exo a C (some d)) ∧ H2 d = some (exd d fs) ∧ H1 d = none ∧ Q (.ref C) (some d) (upd (del H2 a) d (.xd fs))) (fun _ _ _ => False)
theorem tMkO_eq {C : Addr} {sp : Sp} {dvs : List V} {ta : TA} {σ : L2.St} {H : Hp} {Q : XK} : tMkO C sp dvs ta σ H Q = ta σ H fun vs H1 => rMkO C sp dvs vs H1 Q := rfl
def spX1 (C : Addr) (f : Str) : Sp := fun vs H Q _ => ∃ (a : Addr) (v : V), vs = [.ref a, v] ∧ H a = some (exo a C none) ∧ ∀ dx, H dx = none → dx ≠ a → Q .non (upd (upd H dx (exd dx [(f, v)])) a (exo a C (some dx)))
theorem i_mkO1 {C : Addr} {f : Str} {v : V} {H : Hp} {Q : XK} (q : ∀ dx, H dx = none → Q (.ref C) (some dx) (upd H dx (.xd [(f, v)]))) : rMkO C (spX1 C f) [] [v] H Q := by
  refine ⟨by show 1 ≤ 1000; decide, fun a ha => ⟨a, v, rfl, upd_same, fun dx hd hne => ⟨rfl, dx, [(f, v)], upd_same, by rw [upd_ne hne, upd_same], by rw [upd_ne hne] at hd; exact hd, ?_⟩⟩⟩
  have hd : H dx = none := by rw [upd_ne hne] at hd; exact hd
  have e : upd (del (upd (upd (upd H a (exo a C none)) dx (exd dx [(f, v)])) a (exo a C (some dx))) a) dx (.xd [(f, v)]) = upd H dx (.xd [(f, v)]) := by
    funext b
    by_cases hb : b = dx
    · subst hb; rw [upd_same, upd_same]
    · rw [upd_ne hb, upd_ne hb]
      by_cases hb2 : b = a
      · subst hb2; rw [del_same, ha]
      · rw [del_ne hb2, upd_ne hb2, upd_ne hb, upd_ne hb2]
  rw [e]
  exact q dx hd
def rOst (K : PySem.W.Frag) (f : Str) : V → V → Hp → (Hp → Prop) → Prop := fun x y H2 Q => ∃ a C : Addr, x = .ref a ∧ OexC K C ∧ PySem.W.findIn K (.ref C) f = some none ∧
  ((H2 a = some (exo a C none) ∧ ∀ dx, H2 dx = none → dx ≠ a → Q (upd (upd H2 dx (exd dx [(f, y)])) a (exo a C (some dx)))) ∨
    ∃ (dx : Addr) (fs : List (Str × V)), H2 a = some (exo a C (some dx)) ∧ H2 dx = some (exd dx fs) ∧ fs.length ≤ 900 ∧ Q (upd H2 dx (exd dx ((f, y) :: fs))))
theorem tOst_eq {K : PySem.W.Frag} {f : Str} {to te : TE} {D : Ends} {σ : L2.St} {H : Hp} : tOst K f to te D σ H = te σ H fun y H1 => to σ H1 fun x H2 => rOst K f x y H2 fun H3 => D.nx σ H3 := rfl
theorem i_ost {K : PySem.W.Frag} {C a : Addr} {f : Str} {y : V} {H : Hp} {Q : Hp → Prop} (T : OexC K C) (n : PySem.W.findIn K (.ref C) f = some none) (h : H a = some (exo a C none)) (q : ∀ dx, H dx = none → dx ≠ a → Q (upd (upd H dx (exd dx [(f, y)])) a (exo a C (some dx)))) : rOst K f (.ref a) y H Q := ⟨a, C, rfl, T, n, .inl ⟨h, q⟩⟩
theorem i_catchAs {K : PySem.W.Frag} {c cls : Value} {i : Nat} {ts : Addr → Value → Option Addr → TS} {Wout : WX} {D : Ends} {d : Option Addr} {σ : L2.St} {H : Hp} (h : PySem.W.exmOne K cls c = some true)
    (q : ∀ a, H a = none → ts a cls d { nx := fun σ' H' => D.nx (σ'.set i none) H', rt := D.rt, bk := fun σ' H' => D.bk (σ'.set i none) H', ct := fun σ' H' => D.ct (σ'.set i none) H' } (σ.set i (some (.ref a))) H) : wAs K c i ts Wout D cls d σ H := ⟨true, h, fun _ a n => q a n, fun z => nomatch z⟩
theorem i_catch {K : PySem.W.Frag} {c cls : Value} {ts : Addr → Value → Option Addr → TS} {Wout : WX} {D : Ends} {d : Option Addr} {σ : L2.St} {H : Hp} (h : PySem.W.exmOne K cls c = some true) (q : ∀ a, H a = none → ts a cls d D σ H) : wOnly K c ts Wout D cls d σ H := ⟨true, h, fun _ a n => q a n, fun z => nomatch z⟩
/-- told.f -/
def rXf (a : Addr) (cls : Value) (d : Option Addr) (C : Addr) (f : Str) : V → Hp → VK → Prop := fun x H1 Q => x = .ref a ∧ cls = .ref C ∧ ∃ (dd : Addr) (fs : List (Str × V)) (v : V), d = some dd ∧ H1 dd = some (.xd fs) ∧ fs.lookup f = some v ∧ Q v H1
theorem tXf_eq {a : Addr} {cls : Value} {d : Option Addr} {C : Addr} {f : Str} {te : TE} {σ : L2.St} {H : Hp} {Q : VK} : tXf a cls d C f te σ H Q = te σ H fun x H1 => rXf a cls d C f x H1 Q := rfl
theorem i_xf {a dd C : Addr} {f : Str} {fs : List (Str × V)} {v : V} {H : Hp} {Q : VK} (h : H dd = some (.xd fs)) (l : fs.lookup f = some v) (q : Q v H) : rXf a (.ref C) (some dd) C f (.ref a) H Q := ⟨rfl, rfl, dd, fs, v, rfl, h, l, q⟩
theorem iRevR_eq {tr : L2.St → Hp → (Int → Int → Hp → Prop) → Prop} {σ : L2.St} {H : Hp} {R : It → Hp → Prop} : iRevR tr σ H R = tr σ H fun a b H1 => -(2 ^ 62) ≤ a ∧ a < 2 ^ 62 ∧ -(2 ^ 62) ≤ b ∧ b < 2 ^ 62 ∧ R (Itc (a + (((b - a).toNat : Nat) : Int) - 1) (-1) (b - a).toNat) H1 := rfl
theorem tRg1_eq {ta : TE} {σ : L2.St} {H : Hp} {Q : Int → Int → Hp → Prop} : tRg1 ta σ H Q = ta σ H fun x H1 => ∃ n, x = .int n ∧ Q 0 n H1 := rfl
theorem tRg2_eq {ta tb : TE} {σ : L2.St} {H : Hp} {Q : Int → Int → Hp → Prop} : tRg2 ta tb σ H Q = ta σ H fun x H1 => tb σ H1 fun y H2 => ∃ i j, x = .int i ∧ y = .int j ∧ Q i j H2 := rfl
theorem tLstRg_eq {te : L2.St → Hp → (Int → Int → Hp → Prop) → Prop} {σ : L2.St} {H : Hp} {Q : VK} : tLstRg te σ H Q = te σ H fun a b H1 => RgOk a b ∧ ∀ q, H1 q = none → Q (.ref q) (upd H1 q (.lst (rgV a b))) := rfl
def rRevL (K : PySem.W.Frag) : V → Hp → VK → Prop := fun x H1 Q => ∃ a xs, x = .ref a ∧ SqL K H1 a xs ∧ ∀ p, H1 p = none → Q (.ref p) (upd H1 p (.lst xs.reverse))
theorem tRevL_eq {K : PySem.W.Frag} {te : TE} {σ : L2.St} {H : Hp} {Q : VK} : tRevL K te σ H Q = te σ H fun x H1 => rRevL K x H1 Q := rfl
theorem i_revL {K : PySem.W.Frag} {H : Hp} {Q : VK} {a : Addr} {xs : List V} (h : SqL K H a xs) (q : ∀ p, H p = none → Q (.ref p) (upd H p (.lst xs.reverse))) : rRevL K (.ref a) H Q := ⟨a, xs, rfl, h, q⟩
theorem room65 {k : Nat} {A : Around} (r : Room k A) : A.units + 65 < cLine := by have := r.un; omega
theorem i_forPost {J : It} {g : TG} {tb : TS} {D : Ends} {σ : L2.St} {H : Hp} (Post : L2.St → Hp → Prop) (h1 : (∀ σ' H', Post σ' H' → D.nx σ' H') → rForJ J g tb D σ H) (h2 : ∀ σ' H', Post σ' H' → D.nx σ' H') : rForJ J g tb D σ H := h1 h2

/-! ### dicts with int keys, text.index, sorted(d) -/
def rSidx : V → List V → Hp → VK → Prop := fun x xs H Q => ∃ a b i rest, x = .str a ∧ xs = [.str b] ∧ Builtin.Str.occurrences a b 0 a.length 1 = i :: rest ∧ Q (.int (i : Nat)) H
theorem mt_sidx {X : Cx} : MtR X "str.index" rSidx := mt_sindex
def rSortedDI : List V → Hp → VK → Prop := fun xs H Q => ∃ (a : Addr) (kvs : List (Key × V)) (ks : List Int), xs = [.ref a] ∧ Rd H a (.dK kvs) ∧ kvs.map (·.1) = ks.map Sum.inl ∧ ks.length < 64 ∧
    ∀ (ys : List Int) (p : Addr), ys.Perm ks → ys.Pairwise (· ≤ ·) → H p = none → Q (.ref p) (upd H p (.lst (ys.map V.int)))
theorem cr_sortedDI {X : Cx} (h : X.calm = true) : CallR X (.builtin "sorted") rSortedDI := call_sortedDI h
def rDIn : R2 := fun y x H2 Q => ∃ a o, x = .ref a ∧ DGet H2 a y o ∧ Q (.bl o.isSome) H2
theorem tDIn_eq {td ty : TE} {σ : L2.St} {H : Hp} {Q : VK} : tDIn ty td σ H Q = ty σ H fun y H1 => td σ H1 fun x H2 => rDIn y x H2 Q := rfl
theorem i_din {H : Hp} {a : Addr} {kvs : List (Key × V)} {k : Key} {Q : VK} (h : H a = some (.dK kvs)) (q : Q (.bl (valV kvs k).isSome) H) : rDIn (kV k) (.ref a) H Q := ⟨a, _, rfl, DGet.k h, q⟩
def rDPop2 : V → V → V → Hp → VK → Prop := fun x y z H3 Q => ∃ a kvs k, x = .ref a ∧ H3 a = some (.dK kvs) ∧ y = kV k ∧ (∀ v, valV kvs k = some v → Q v (upd H3 a (.dK (dropK kvs k)))) ∧ (valV kvs k = none → Q z H3)
theorem iEnum_eq {K : PySem.W.Frag} {ta : TA} {σ : L2.St} {H : Hp} {R : It → Hp → Prop} : iEnum K ta σ H R = ta σ H fun vs H1 => ∃ a xs, vs = [.ref a] ∧ SqL K H1 a xs ∧ R (Ite K a) H1 := rfl
theorem i_gTup2 {K : PySem.W.Frag} {n i j : Nat} {a : Addr} {x y : V} {σ : L2.St} {H : Hp} {Q : L2.St → Hp → Prop} (hn : n = 2) (h : SqT K H a [x, y]) (q : Q ((σ.set i (some x)).set j (some y)) H) : gTup K n (gCons (gName i) (gCons (gName j) gNil)) (.ref a) σ H Q :=
  ⟨a, [x, y], rfl, h, hn.symm, x, [y], rfl, y, [], rfl, rfl, q⟩
theorem i_forG {J : It} {n : Nat} {G : Hp → Prop} {Y : Nat → Hp → V → Hp → Prop} (w : Walk J n G Y) {g : TG} {tb : TS} {D : Ends} {σ : L2.St} {H : Hp} (Pv : Nat → L2.St → Hp → Prop) (h0 : Pv 0 σ H) (hG : ∀ i σ H, i ≤ n → Pv i σ H → G H)
    (hs : ∀ i x σ H H', i < n → Pv i σ H → Y i H x H' → g x σ H' fun σ2 H2 => tb { D with nx := Pv (i + 1), ct := Pv (i + 1), bk := D.nx } σ2 H2) (hd : ∀ σ H, Pv n σ H → D.nx σ H) : rForJ J g tb D σ H := for_it w Pv h0 hG hs hd
theorem log_small {j : Int} (h : j.natAbs < 2 ^ 200) : j.natAbs.log2 < 9000 := by
  by_cases h0 : j.natAbs = 0
  · rw [h0]; decide
  · have := (Nat.log2_lt h0).mpr h
    omega

/-! ### calls within an except suite -/
theorem pmkN_own0 {X : Cx} {C : Addr} {bmB : List Value} {B newId initId : String} {x : Str} {p pos : Pos} (F : ExcBaseFacts B newId initId bmB) (q : PySem.W.excIn X.K C bmB newId = true) (gC : X.mg x = some (.ref C))
    (kC : PySem.W.keepIn X.K (.ref C) = true) (r : Raises X (.ref C)) (hg : Gl X x) (hdb : (x == ("__debug__" : Str)) = false := by decide) :
    L2N.PMk X (.Call (.Name x p) [] [] pos) (fun _ H Q => Q (.ref C) none H) := by
  intro pins s σ H Q I h
  refine wpAny_Call_Name_kw (ld_glob I hg gC ?_ hdb)
  refine PySem.W.callWith_K0 I.kIn kC ?_
  show wpAny _ _ (call (.ref C) []) _ _ _
  obtain ⟨_, _, _, _, _, _, _, _, _, _, _, _, _, _, _, _, mN, hC, hN, hni, T⟩ := exc_obj I.kIn q
  exact wpAny_call_exc_subT F T hC hN hni (fun h' e hm => L2N.mk_of I hm r h (I.hok.gone hm.new)) (Nat.zero_le _)
theorem okXN {P : Program} {w : World} {K : PySem.W.Frag} {mg : Str → Option Value} {base : Heap} {x qual : Str} {st : Stmt} {f : Addr} {fd : FuncData} {N ps : List Str} {k : Nat} {sp : Sp} (F : Fun K x qual st f fd) (S : FnScope N ps (defScope st))
    (len : ∀ vs H Q E, sp vs H Q E → vs.length = ps.length)
    (hbody : ∀ (cdv : Value) (A : Around) (outer : List Env) (s : Shared) (H : Hp) (vs : List V) (Q : VK) (E : XK), Room k (A.deeper (envOfC qual (defScope st) s.heap.objs.size f cdv)) → sp vs H Q E →
      ∃ t, PSs (cxOf (L2N.CX P w) P w K mg base N qual (defScope st) f cdv A outer s H E) (defBody st) t ∧ t { nx := fun _ H' => Q .non H', rt := Q } (start N vs) H) : FnOk P w K mg base (L2N.CX P w) (k + 1) f fd ps sp := by
  obtain ⟨_, _, _, _, _, _, cdv, _, _, rfl, lk, hcd⟩ := F.ex
  exact fn_of lk hcd S len (hbody cdv)
theorem okH {P : Program} {w : World} {K : PySem.W.Frag} {mg : Str → Option Value} {base : Heap} {CX : CXT} {x qual : Str} {st : Stmt} {f : Addr} {fd : FuncData} {N ps : List Str} {k : Nat} {sp : Sp} (F : Fun K x qual st f fd) (S : FnScope N ps (defScope st))
    (len : ∀ vs H Q E, sp vs H Q E → vs.length = ps.length)
    (hbody : ∀ (cdv : Value) (A : Around) (outer : List Env) (s : Shared) (H : Hp) (vs : List V) (Q : VK) (E : XK) (p : Addr × Obj), L2H.Hot1 A p → L2H.RoomH k (A.deeper (envOfC qual (defScope st) s.heap.objs.size f cdv)) → sp vs H Q E →
      ∃ t, PSs (L2H.cxH CX P w K mg base N qual (defScope st) f cdv A outer s H E p) (defBody st) t ∧ t { nx := fun _ H' => Q .non H', rt := Q } (start N vs) H) : L2H.FnH P w K mg base CX (k + 1) f fd ps sp := by
  obtain ⟨_, _, _, _, _, _, cdv, _, _, rfl, lk, hcd⟩ := F.ex
  exact L2H.fn_ofH lk hcd S len (hbody cdv)
theorem passNL {X : Cx} : Passes (L2N.CX X.prog X.w) X L2.E0 := fun _ _ _ _ _ _ _ h => by
  obtain ⟨_, _, _, _, _, _, _, _, _, _, _, _, z⟩ := h
  exact z.elim
theorem passH0 {X : Cx} (σ : L2.St) : PassesAt CX0 X σ L2.E0 := fun _ _ _ _ _ _ h => h.elim
section
variable {X : Cx} {CX : CXT} {k : Nat} {f C : Addr} {fd : FuncData} {ps : List Str} {sp : Sp} {E : L2.St → XK} {m : Str} {pos apos : Pos} {o : Expr} {ta : TE}
theorem pe_methH0 {pl : Sem Bool} (he : PE X o ta) (c : Cls X.K C) (hm : Meth X.K C m f) (F : L2H.FnH X.prog X.w X.K X.mg X.base CX k f fd ps sp) (hr : L2H.RoomH k X.A) (hc : L2H.HotC X) (hb : Binds X.K fd ps []) (hx : ∀ σ, PassesAt CX X σ (E σ))
    (ht : eval (.Call (.Attribute o m apos) [] [] pos) X.env = (do
      let ov ← eval o X.env
      standAt apos.atName
      let (f, first) ← holding [ov] (getMethod ov m pl)
      callWith pos f first (backTo pos (starEach [] X.env)) (backToKw pos (keywordEach [] X.env))) := by rfl) :
    PE X (.Call (.Attribute o m apos) [] [] pos) (L2H.tMethH C m sp E ta tNil) := by
  refine ⟨fun pins s σ H Q I h => PySem.W.methodCall_KW (pl := pl) (thn (he.run pins s σ H _ I h) fun u s1 hu => ?_) ht⟩
  obtain ⟨_, H1, I1, rx, a, dx, fs, rfl, ea, l, q⟩ := hu
  obtain rfl : u = Value.ref a := rx
  exact getmeth_ok I1 ea c hm l (PySem.W.callWith_K0 (first := [.ref a]) I1.kIn hm.kp (L2H.run_fnH (us := [.ref a]) (vs := [.ref a]) F hr hc hb (hx σ) I1 (.cons rfl .nil) q))
end
theorem tMethH_eq {C : Addr} {m : Str} {sp : Sp} {E : L2.St → XK} {ta : TE} {t : TA} {σ : L2.St} {H : Hp} {Q : VK} : L2H.tMethH C m sp E ta t σ H Q = ta σ H fun x H1 => rMeth C m sp (E σ) (fun k H => t σ H k) x H1 Q := rfl

local macro_rules | `(tactic| walk_at "rd") => `(tactic| try simp only [L2.start, cxOf, tVar, tC, tOp, tUn, rI0, rI, rU, tCB, tCons, tNil, tAsg, gName, gSub, tDrop, tSub, tAdd, tMul, tCmp, t2I, tIsN, tNotN, tRet, tDGet_eq, sDPut_eq, tMeth_eq, tMethS_eq, tMethH_eq, tDIn_eq, iEnum_eq, tMkO_eq, tOst_eq, tXf_eq, iRevR_eq, tRg1_eq, tRg2_eq, tLstRg_eq, tRevL_eq, tMake, tFld_eq, sFld_eq, sFldAug_eq, rSub, rAdd, tCallS, tDisp, tPairs, rIntA, tDNewK, wipe, tFor_J, tLc_J, iRng1, iRng2, iList, iTup, iStr, tM1, tM0, tBM, tBM0, tSl, tPart, tNoPart, tLst, tTup, sizeLine_eq, Nat.reduceLeDiff, true_and, tIfS, tTest, tB, tAnd, tOr, tNot, tAndV, tOrV, tNotV, tChain, rEq, rNe, rNotB, rIsB, sc_ii, sc_ss, sc_bb, sc_in, sc_ni, sc_nn, sc_is, sc_si, sc_ns, sc_sn, sc_bn, sc_nb, sc_sb, sc_bs, tCall, tNext,  List.map, List.length, List.replicate, List.cons_append, List.nil_append, List.append_nil, List.getElem?_cons_zero, List.getElem?_cons_succ, List.set_cons_zero, List.set_cons_succ, Option.some.injEq, exists_eq_left', exists_eq_left, exists_eq', V.int.injEq, V.str.injEq, V.ref.injEq, V.bl.injEq, List.cons.injEq, and_true, true_and, and_assoc, exists_and_left, Int.reduceLT, Int.reduceNeg, Int.reduceLE, ↓reduceIte, Bool.false_eq_true, Bool.not_true, Bool.not_false, reduceCtorEq, false_and, and_false, exists_false, or_false, false_or, Nat.reduceAdd, Nat.reduceSub, decide_eq_true_eq, decide_true, decide_false])

def topS (i : Nat) : Stmt := PySem.Challenge.pw_warycard_k75_names.main.body.getD i (.Pass ⟨0, 0, 0, 0⟩)
abbrev s_Names_init : Stmt := inClass (topS 6) 0
theorem sc_Names_init : FnScope ["self", "cells", "start"] ["self", "cells", "start"] (defScope s_Names_init) := ⟨rfl, rfl, rfl, by decide +kernel, rfl, by decide +kernel, by decide +kernel⟩
abbrev s_Names_put : Stmt := inClass (topS 6) 1
theorem sc_Names_put : FnScope ["self", "owner", "number", "name", "row", "words", "index", "word", "character"] ["self", "owner", "number", "name"] (defScope s_Names_put) := ⟨rfl, rfl, rfl, by decide +kernel, rfl, by decide +kernel, by decide +kernel⟩
abbrev s_Names_remove : Stmt := inClass (topS 6) 2
theorem sc_Names_remove : FnScope ["self", "owner"] ["self", "owner"] (defScope s_Names_remove) := ⟨rfl, rfl, rfl, by decide +kernel, rfl, by decide +kernel, by decide +kernel⟩
abbrev s_Names_rows : Stmt := inClass (topS 6) 3
theorem sc_Names_rows : FnScope ["self", "found", "owner", "row", "size", "name", "index"] ["self"] (defScope s_Names_rows) := ⟨rfl, rfl, rfl, by decide +kernel, rfl, by decide +kernel, by decide +kernel⟩
abbrev s_Names__row : Stmt := inClass (topS 6) 4
theorem sc_Names__row : FnScope ["self", "owner"] ["self", "owner"] (defScope s_Names__row) := ⟨rfl, rfl, rfl, by decide +kernel, rfl, by decide +kernel, by decide +kernel⟩
abbrev s_Cells_init : Stmt := inClass (topS 11) 0
theorem sc_Cells_init : FnScope ["self", "count"] ["self", "count"] (defScope s_Cells_init) := ⟨rfl, rfl, rfl, by decide +kernel, rfl, by decide +kernel, by decide +kernel⟩
abbrev s_Cells_cut : Stmt := inClass (topS 11) 2
theorem sc_Cells_cut : FnScope ["self", "writes"] ["self", "writes"] (defScope s_Cells_cut) := ⟨rfl, rfl, rfl, by decide +kernel, rfl, by decide +kernel, by decide +kernel⟩
abbrev s_Cells_restore : Stmt := inClass (topS 11) 3
theorem sc_Cells_restore : FnScope ["self"] ["self"] (defScope s_Cells_restore) := ⟨rfl, rfl, rfl, by decide +kernel, rfl, by decide +kernel, by decide +kernel⟩
abbrev s_Cells_read : Stmt := inClass (topS 11) 4
theorem sc_Cells_read : FnScope ["self", "place"] ["self", "place"] (defScope s_Cells_read) := ⟨rfl, rfl, rfl, by decide +kernel, rfl, by decide +kernel, by decide +kernel⟩
abbrev s_Cells_write : Stmt := inClass (topS 11) 5
theorem sc_Cells_write : FnScope ["self", "place", "word"] ["self", "place", "word"] (defScope s_Cells_write) := ⟨rfl, rfl, rfl, by decide +kernel, rfl, by decide +kernel, by decide +kernel⟩
abbrev s_law_draws : Stmt := topS 13
theorem sc_law_draws : FnScope ["_law_script", "_law_start", "_law_most", "_law_draws_here", "_law_cell", "_law_number", "_law_mixed", "_law_k"] ["_law_script", "_law_start", "_law_most"] (defScope s_law_draws) := ⟨rfl, rfl, rfl, by decide +kernel, rfl, by decide +kernel, by decide +kernel⟩
abbrev s_law_name : Stmt := topS 14
theorem sc_law_name : FnScope ["_law_rest", "_law_k"] ["_law_rest"] (defScope s_law_name) := ⟨rfl, rfl, rfl, by decide +kernel, rfl, by decide +kernel, by decide +kernel⟩
abbrev s_law_torn : Stmt := topS 15
theorem sc_law_torn : FnScope ["_law_cells", "_law_names", "_law_deed", "_law_writes"] ["_law_cells", "_law_names", "_law_deed", "_law_writes"] (defScope s_law_torn) := ⟨rfl, rfl, rfl, by decide +kernel, rfl, by decide +kernel, by decide +kernel⟩
abbrev s_law : Stmt := topS 16
theorem sc_law : FnScope ["_law_script", "_law_start", "_law_cells", "_law_place", "_law_names", "_law_model", "_law_draw", "_law_owner", "_law_rest", "_law_deed", "_law_writes", "_law_done", "_law_rows", "_law_due", "_law_one"] ["_law_script"] (defScope s_law) := ⟨rfl, rfl, rfl, by decide +kernel, rfl, by decide +kernel, by decide +kernel⟩
/-- what the top has left -/
structure Txt (K : PySem.W.Frag) (mg : Str → Option Value) where
  f_Names_init : Addr
  d_Names_init : FuncData
  k_Names_init : Fun K "__init__" "Names.__init__" s_Names_init f_Names_init d_Names_init
  b_Names_init : Binds K d_Names_init ["self", "cells", "start"] []
  f_Names_put : Addr
  d_Names_put : FuncData
  k_Names_put : Fun K "put" "Names.put" s_Names_put f_Names_put d_Names_put
  b_Names_put : Binds K d_Names_put ["self", "owner", "number", "name"] []
  f_Names_remove : Addr
  d_Names_remove : FuncData
  k_Names_remove : Fun K "remove" "Names.remove" s_Names_remove f_Names_remove d_Names_remove
  b_Names_remove : Binds K d_Names_remove ["self", "owner"] []
  f_Names_rows : Addr
  d_Names_rows : FuncData
  k_Names_rows : Fun K "rows" "Names.rows" s_Names_rows f_Names_rows d_Names_rows
  b_Names_rows : Binds K d_Names_rows ["self"] []
  f_Names__row : Addr
  d_Names__row : FuncData
  k_Names__row : Fun K "_row" "Names._row" s_Names__row f_Names__row d_Names__row
  b_Names__row : Binds K d_Names__row ["self", "owner"] []
  f_Cells_init : Addr
  d_Cells_init : FuncData
  k_Cells_init : Fun K "__init__" "Cells.__init__" s_Cells_init f_Cells_init d_Cells_init
  b_Cells_init : Binds K d_Cells_init ["self", "count"] []
  f_Cells_cut : Addr
  d_Cells_cut : FuncData
  k_Cells_cut : Fun K "cut" "Cells.cut" s_Cells_cut f_Cells_cut d_Cells_cut
  b_Cells_cut : Binds K d_Cells_cut ["self", "writes"] []
  f_Cells_restore : Addr
  d_Cells_restore : FuncData
  k_Cells_restore : Fun K "restore" "Cells.restore" s_Cells_restore f_Cells_restore d_Cells_restore
  b_Cells_restore : Binds K d_Cells_restore ["self"] []
  f_Cells_read : Addr
  d_Cells_read : FuncData
  k_Cells_read : Fun K "read" "Cells.read" s_Cells_read f_Cells_read d_Cells_read
  b_Cells_read : Binds K d_Cells_read ["self", "place"] []
  f_Cells_write : Addr
  d_Cells_write : FuncData
  k_Cells_write : Fun K "write" "Cells.write" s_Cells_write f_Cells_write d_Cells_write
  b_Cells_write : Binds K d_Cells_write ["self", "place", "word"] []
  f_law_draws : Addr
  d_law_draws : FuncData
  k_law_draws : Fun K "_law_draws" "_law_draws" s_law_draws f_law_draws d_law_draws
  b_law_draws : Binds K d_law_draws ["_law_script", "_law_start", "_law_most"] []
  g_law_draws : mg "_law_draws" = some (.ref f_law_draws)
  f_law_name : Addr
  d_law_name : FuncData
  k_law_name : Fun K "_law_name" "_law_name" s_law_name f_law_name d_law_name
  b_law_name : Binds K d_law_name ["_law_rest"] []
  g_law_name : mg "_law_name" = some (.ref f_law_name)
  f_law_torn : Addr
  d_law_torn : FuncData
  k_law_torn : Fun K "_law_torn" "_law_torn" s_law_torn f_law_torn d_law_torn
  b_law_torn : Binds K d_law_torn ["_law_cells", "_law_names", "_law_deed", "_law_writes"] []
  g_law_torn : mg "_law_torn" = some (.ref f_law_torn)
  f_law : Addr
  d_law : FuncData
  k_law : Fun K "law" "law" s_law f_law d_law
  b_law : Binds K d_law ["_law_script"] []
  g_law : mg "law" = some (.ref f_law)
  c_Names : Addr
  g_Names : mg "Names" = some (.ref c_Names)
  c_CardError : Addr
  g_CardError : mg "CardError" = some (.ref c_CardError)
  c_PowerCut : Addr
  g_PowerCut : mg "PowerCut" = some (.ref c_PowerCut)
  c_Cells : Addr
  g_Cells : mg "Cells" = some (.ref c_Cells)
  cl_Names : Cls K c_Names
  mk_Names : Mk K c_Names f_Names_init
  me_Names_put : Meth K c_Names "put" f_Names_put
  me_Names_remove : Meth K c_Names "remove" f_Names_remove
  me_Names_rows : Meth K c_Names "rows" f_Names_rows
  me_Names__row : Meth K c_Names "_row" f_Names__row
  nf_Names_cells : NoAttr K c_Names "_cells"
  nf_Names_start : NoAttr K c_Names "_start"
  x_PowerCut : Exc K c_PowerCut
  ex_PowerCut_PowerCut : PySem.W.exmOne K (.ref c_PowerCut) (.ref c_PowerCut) = some true
  cl_Cells : Cls K c_Cells
  mk_Cells : Mk K c_Cells f_Cells_init
  me_Cells_cut : Meth K c_Cells "cut" f_Cells_cut
  me_Cells_restore : Meth K c_Cells "restore" f_Cells_restore
  me_Cells_read : Meth K c_Cells "read" f_Cells_read
  me_Cells_write : Meth K c_Cells "write" f_Cells_write
  nf_Cells_words : NoAttr K c_Cells "_words"
  nf_Cells_left : NoAttr K c_Cells "_left"
  nf_Cells_on : NoAttr K c_Cells "_on"
  m_abs : mg "abs" = none
  m_enumerate : mg "enumerate" = none
  m_int : mg "int" = none
  m_isinstance : mg "isinstance" = none
  m_len : mg "len" = none
  m_list : mg "list" = none
  m_range : mg "range" = none
  m_sorted : mg "sorted" = none
  t_MOST_APPLETS : Tok
  g_MOST_APPLETS : mg "MOST_APPLETS" = some (.int (8) t_MOST_APPLETS)
  t_ROW_CELLS : Tok
  g_ROW_CELLS : mg "ROW_CELLS" = some (.int (19) t_ROW_CELLS)
  t_NAMES_CELLS : Tok
  g_NAMES_CELLS : mg "NAMES_CELLS" = some (.int (152) t_NAMES_CELLS)
  t_CHARACTERS : Tok
  g_CHARACTERS : mg "CHARACTERS" = some (.str " !#$&'()*+,-./0123456789:;<=>?@ABCDEFGHIJKLMNOPQRSTUVWXYZ[\\]^_`abcdefghijklmnopqrstuvwxyz{|}~" t_CHARACTERS)
section
variable {P : Program} {w : World} {K : PySem.W.Frag} {mg : Str → Option Value} {base : Heap}

/-! ### cells.py -/
def cf (l : Addr) (lv : V) (b : Bool) : List (Str × V) := [("_words", .ref l), ("_left", lv), ("_on", .bl b)]
structure CS where
  words : List Int
  left : Option Int
  on : Bool
def lfV : Option Int → V
  | none => .non
  | some i => .int i
/-- a Cells object stands at a, its words at l -/
structure CellsAt (C : Addr) (H : Hp) (a l : Addr) (S : CS) : Prop where
  ob : ∃ dx, H a = some (.ins C dx (cf l (lfV S.left) S.on))
  ws : H l = some (.lst (S.words.map V.int))
  sz : S.words.length ≤ 1000
theorem CellsAt.ne {C : Addr} {H : Hp} {a l : Addr} {S : CS} (c : CellsAt C H a l S) : a ≠ l := by
  obtain ⟨dx, h⟩ := c.ob
  exact ne_of h c.ws (by intro z; cases z)
theorem CellsAt.keep {C : Addr} {H H' : Hp} {a l : Addr} {S : CS} {X : List Addr} (c : CellsAt C H a l S) (k : Kp X H H') (h1 : a ∉ X) (h2 : l ∉ X) : CellsAt C H' a l S := by
  obtain ⟨dx, h⟩ := c.ob
  exact ⟨⟨dx, k a _ h1 h⟩, k l _ h2 c.ws, c.sz⟩
def sp_Cells_init {K : PySem.W.Frag} {mg : Str → Option Value} (T : Txt K mg) : Sp := fun vs H Q _ => ∃ (x dx : Addr) (n : Nat), vs = [.ref x, .int n] ∧ H x = some (.ins T.c_Cells dx []) ∧ n ≤ 1000 ∧
  ∀ H' l, CellsAt T.c_Cells H' x l ⟨List.replicate n 0, none, true⟩ → H l = none → Kp [x] H H' → Q .non H'
theorem ok_Cells_init (T : Txt K mg) : FnOk P w K mg base CX0 1 T.f_Cells_init T.d_Cells_init ["self", "count"] (sp_Cells_init T) := by
  refine T.k_Cells_init.ok sc_Cells_init (fun vs H Q E h => ?_) (fun cdv A outer s H vs Q E hr h => ?_)
  · obtain ⟨x, dx, n, rfl, _⟩ := h
    rfl
  · obtain ⟨x, dx, n, rfl, hx, hn, q⟩ := h
    refine ⟨_, (pss_cons (ps_fldK K (pv 0) (pe_op op_rep (pe_lst (pa_cons pe_int pa_nil)) (pv 1)) rfl)
      (pss_cons (ps_fldK K (pv 0) pe_non rfl)
      (pss_one (ps_fldK K (pv 0) pe_bl rfl)))), ?_⟩
    walk_at "rd"
    refine rdSeq ?_
    walk_at "rd"
    intro p hp
    have xp : x ≠ p := ne_of_none hx hp
    refine i_rep upd_same (by omega) (by omega) (by show 1 * _ ≤ _; rw [sizeLine_eq]; omega) fun l hl => ?_
    have xl : x ≠ l := ne_of_none (same_new hp _ _ hx) hl
    have hx2 : upd (upd H p (.lst [.int 0])) l (.lst (List.replicate ((n : Int)).toNat [V.int 0]).flatten) x = some (.ins T.c_Cells dx []) := same_new hl _ _ (same_new hp _ _ hx)
    refine i_fldS T.cl_Cells T.nf_Cells_words hx2 (by decide) (rdSeq ?_)
    walk_at "rd"
    refine i_fldS T.cl_Cells T.nf_Cells_left upd_same (by show 1 < 1000; decide) ?_
    refine i_fldS T.cl_Cells T.nf_Cells_on upd_same (by show 2 < 1000; decide) ?_
    rw [upd_upd, upd_upd]
    refine q _ l ⟨⟨dx, by rw [upd_same]; rfl⟩, ?_, by show (List.replicate n (0 : Int)).length ≤ 1000; rw [List.length_replicate]; exact hn⟩ ?_ ?_
    · rw [upd_ne (Ne.symm xl), upd_same, rep1, List.map_replicate]; rfl
    · exact (same_new hp).free hl
    · intro b o hb e
      rw [upd_ne (by simpa using hb)]
      exact same_new hl _ _ (same_new hp _ _ e)
def sp_Cells_read {K : PySem.W.Frag} {mg : Str → Option Value} (T : Txt K mg) : Sp := fun vs H Q E => ∃ (a l : Addr) (S : CS) (i : Nat), vs = [.ref a, .int i] ∧ CellsAt T.c_Cells H a l S ∧ i < S.words.length ∧
  (S.on = true → Q (.int (S.words.getD i 0)) H) ∧ (S.on = false → E (.ref T.c_PowerCut) none H)
theorem ok_Cells_read (T : Txt K mg) : FnOk P w K mg base (L2N.CX P w) 1 T.f_Cells_read T.d_Cells_read ["self", "place"] (sp_Cells_read T) := by
  refine okXN T.k_Cells_read sc_Cells_read (fun vs H Q E h => ?_) (fun cdv A outer s H vs Q E hr h => ?_)
  · obtain ⟨a, l, S, i, rfl, _⟩ := h
    rfl
  · obtain ⟨a, l, S, i, rfl, c, hi, q1, q2⟩ := h
    refine ⟨_, (pss_cons (ps_if (pt_not (pt_val (pe_fldK K (pv 0) rfl))) (pss_one (L2N.ps_raise rfl (L2N.takes_of rfl rfl rfl rfl) (pmkN_own0 PySem.F.excBase_ValueError T.x_PowerCut.x T.g_PowerCut T.x_PowerCut.kp (raises_own T.x_PowerCut.be T.x_PowerCut.ty) (by exact rfl)))) pss_nil)
      (pss_one (ps_ret (pe_ix (ix_listK K) (pe_fldK K (pv 0) rfl) (pv 1) (fun _ _ => rfl))))), ?_⟩
    walk_at "rd"
    refine rdSeq ?_
    walk_at "rd"
    obtain ⟨dx, h⟩ := c.ob
    refine i_fld T.cl_Cells T.nf_Cells_on h rfl ?_
    walk_at "rd"
    cases e : S.on with
    | false => exact q2 e
    | true =>
      refine i_else (by simp) (i_fld T.cl_Cells T.nf_Cells_words h rfl ?_)
      refine i_ixL (sqL_of c.ws) (atI_nat (j := i) (v := .int (S.words.getD i 0)) ?_) (q1 e)
      rw [List.getElem?_map, List.getElem?_eq_getElem hi, List.getD_eq_getElem?_getD, List.getElem?_eq_getElem hi]; rfl
def writeS (S : CS) (i : Nat) (w : Int) : CS × Bool :=
  if S.on = false then (S, false) else if S.left = some 0 then (⟨S.words, S.left, false⟩, false) else (⟨S.words.set i w, S.left.map (· - 1), true⟩, true)
def sp_Cells_write {K : PySem.W.Frag} {mg : Str → Option Value} (T : Txt K mg) : Sp := fun vs H Q E => ∃ (a l : Addr) (S : CS) (i : Nat) (w : Int), vs = [.ref a, .int i, .int w] ∧ CellsAt T.c_Cells H a l S ∧ i < S.words.length ∧
  ∀ H', CellsAt T.c_Cells H' a l (writeS S i w).1 → Kp [a, l] H H' → ((writeS S i w).2 = true → Q .non H') ∧ ((writeS S i w).2 = false → E (.ref T.c_PowerCut) none H')
theorem ok_Cells_write (T : Txt K mg) : FnOk P w K mg base (L2N.CX P w) 1 T.f_Cells_write T.d_Cells_write ["self", "place", "word"] (sp_Cells_write T) := by
  refine okXN T.k_Cells_write sc_Cells_write (fun vs H Q E h => ?_) (fun cdv A outer s H vs Q E hr h => ?_)
  · obtain ⟨a, l, S, i, w, rfl, _⟩ := h
    rfl
  · obtain ⟨a, l, S, i, w, rfl, c, hi, q⟩ := h
    refine ⟨_, (pss_cons (ps_if (pt_not (pt_val (pe_fldK K (pv 0) rfl))) (pss_one (L2N.ps_raise rfl (L2N.takes_of rfl rfl rfl rfl) (pmkN_own0 PySem.F.excBase_ValueError T.x_PowerCut.x T.g_PowerCut T.x_PowerCut.kp (raises_own T.x_PowerCut.be T.x_PowerCut.ty) (by exact rfl)))) pss_nil)
      (pss_cons (ps_if (pt_cmpR op_eq (pe_fldK K (pv 0) rfl) pe_int (nomark _)) (pss_cons (ps_fldK K (pv 0) pe_bl rfl)
      (pss_one (L2N.ps_raise rfl (L2N.takes_of rfl rfl rfl rfl) (pmkN_own0 PySem.F.excBase_ValueError T.x_PowerCut.x T.g_PowerCut T.x_PowerCut.kp (raises_own T.x_PowerCut.be T.x_PowerCut.ty) (by exact rfl))))) pss_nil)
      (C8.pss_cut (ps_if (pt_cmpR op_notN (pe_fldK K (pv 0) rfl) pe_non (nomark _)) (pss_one (ps_fldaugK K (pv 0) pe_int in_sub)) pss_nil)
      (pss_one (ps_asg (pv 2) (pg_sub (pe_fldK K (pv 0) rfl) (pv 1) set_list)))))), ?_⟩
    walk_at "rd"
    refine rdSeq ?_
    walk_at "rd"
    obtain ⟨dx, h⟩ := c.ob
    refine i_fld T.cl_Cells T.nf_Cells_on h rfl ?_
    walk_at "rd"
    have hne := c.ne
    cases e : S.on with
    | false =>
      have ew : writeS S i w = (S, false) := by unfold writeS; rw [if_pos e]
      rw [ew] at q
      exact (q H c (Kp.refl _ _)).2 rfl
    | true =>
      refine i_else (by simp) (rdSeq ?_)
      walk_at "rd"
      refine i_fld T.cl_Cells T.nf_Cells_left h rfl ?_
      have fin : ∀ (dx : Addr) (lv : Option Int) (H1 : Hp), S.left ≠ some 0 → lv = S.left.map (· - 1) → Kp [a, l] H H1 → H1 a = some (.ins T.c_Cells dx (cf l (lfV lv) true)) → H1 l = some (.lst (S.words.map V.int)) →
          tAsg (tVar 2) (gSub (tFld K (tVar 0) (Str.ofString "_words")) (tVar 1) rSetL) { nx := fun x H' => Q V.non H', rt := Q } [some (V.ref a), some (V.int (i : Int)), some (V.int w)] H1 := fun dx lv H1 n0 el kp ha hl => by
        walk_at "rd"
        refine i_fld T.cl_Cells T.nf_Cells_words ha rfl ?_
        refine i_setL hl (j := i) (by rw [List.length_map]; unfold ixN; rw [if_pos (by omega), if_pos (by omega)]; simp) ?_
        have ew : writeS S i w = (⟨S.words.set i w, S.left.map (· - 1), true⟩, true) := by unfold writeS; rw [if_neg (by rw [e]; simp), if_neg n0]
        rw [ew] at q
        refine (q _ ⟨⟨dx, ?_⟩, ?_, by show (S.words.set i w).length ≤ 1000; rw [List.length_set]; exact c.sz⟩ (kp.trans (Kp.set (by simp)))).1 rfl
        · rw [upd_ne hne, ha, el]
        · rw [upd_same, List.map_set]
      cases el : S.left with
      | none =>
        rw [el] at h
        simp only [lfV]
        walk_at "rd"
        refine rdCut (fun σ H1 => H1 = H ∧ σ = [some (V.ref a), some (V.int (i : Int)), some (V.int w)]) ?_ ?_
        · walk_at "rd"
          refine i_fld T.cl_Cells T.nf_Cells_left h rfl ?_
          simp only [lfV]
          walk_at "rd"
        · rintro σ H1 ⟨rfl, rfl⟩
          exact fin dx none _ (by rw [el]; simp) (by rw [el]; rfl) (Kp.refl _ _) (by rw [e] at h; exact h) c.ws
      | some z =>
        rw [el] at h
        simp only [lfV]
        walk_at "rd"
        by_cases hz : z = 0
        · subst hz
          refine i_then rfl (rdSeq ?_)
          walk_at "rd"
          refine i_fldS T.cl_Cells T.nf_Cells_on h (by show 3 < 1000; decide) ?_
          have ew : writeS S i w = (⟨S.words, S.left, false⟩, false) := by unfold writeS; rw [if_neg (by rw [e]; simp), if_pos el]
          rw [ew] at q
          exact (q _ ⟨⟨dx, by rw [upd_same, el]; rfl⟩, by rw [upd_ne (Ne.symm hne)]; exact c.ws, c.sz⟩ (Kp.set (by simp))).2 rfl
        · refine i_else hz (rdCut (fun σ H1 => (∃ dx, H1 a = some (.ins T.c_Cells dx (cf l (lfV (some (z - 1))) true))) ∧ H1 l = some (.lst (S.words.map V.int)) ∧ Kp [a, l] H H1 ∧ σ = [some (V.ref a), some (V.int (i : Int)), some (V.int w)]) ?_ ?_)
          · walk_at "rd"
            refine i_fld T.cl_Cells T.nf_Cells_left h rfl ?_
            simp only [lfV]
            walk_at "rd"
            rw [e] at h
            refine i_fldA T.cl_Cells T.nf_Cells_left h rfl ⟨z, 1, rfl, rfl, dx, _, h, by show 3 < 1000; decide, ⟨dx, by rw [upd_same]; rfl⟩, by rw [upd_ne (Ne.symm hne)]; exact c.ws, Kp.set (by simp)⟩
          · rintro σ H1 ⟨⟨dx', h1⟩, h2, h3, rfl⟩
            exact fin dx' (some (z - 1)) _ (by rw [el]; simpa using hz) (by rw [el]; rfl) h3 h1 h2

def sp_Cells_cut {K : PySem.W.Frag} {mg : Str → Option Value} (T : Txt K mg) : Sp := fun vs H Q _ => ∃ (a l : Addr) (S : CS) (n : Int), vs = [.ref a, .int n] ∧ CellsAt T.c_Cells H a l S ∧ ∀ H', CellsAt T.c_Cells H' a l ⟨S.words, some n, S.on⟩ → Kp [a, l] H H' → Q .non H'
theorem ok_Cells_cut (T : Txt K mg) : FnOk P w K mg base CX0 1 T.f_Cells_cut T.d_Cells_cut ["self", "writes"] (sp_Cells_cut T) := by
  refine T.k_Cells_cut.ok sc_Cells_cut (fun vs H Q E h => ?_) (fun cdv A outer s H vs Q E hr h => ?_)
  · obtain ⟨a, l, S, n, rfl, _⟩ := h
    rfl
  · obtain ⟨a, l, S, n, rfl, c, q⟩ := h
    refine ⟨_, (pss_one (ps_fldK K (pv 0) (pv 1) rfl)), ?_⟩
    walk_at "rd"
    obtain ⟨dx, h⟩ := c.ob
    refine i_fldS T.cl_Cells T.nf_Cells_left h (by show 3 < 1000; decide) ?_
    exact q _ ⟨⟨dx, by rw [upd_same]; rfl⟩, by rw [upd_ne (Ne.symm c.ne)]; exact c.ws, c.sz⟩ (Kp.set (by simp))
def sp_Cells_restore {K : PySem.W.Frag} {mg : Str → Option Value} (T : Txt K mg) : Sp := fun vs H Q _ => ∃ (a l : Addr) (S : CS), vs = [.ref a] ∧ CellsAt T.c_Cells H a l S ∧ ∀ H', CellsAt T.c_Cells H' a l ⟨S.words, none, true⟩ → Kp [a, l] H H' → Q .non H'
theorem ok_Cells_restore (T : Txt K mg) : FnOk P w K mg base CX0 1 T.f_Cells_restore T.d_Cells_restore ["self"] (sp_Cells_restore T) := by
  refine T.k_Cells_restore.ok sc_Cells_restore (fun vs H Q E h => ?_) (fun cdv A outer s H vs Q E hr h => ?_)
  · obtain ⟨a, l, S, rfl, _⟩ := h
    rfl
  · obtain ⟨a, l, S, rfl, c, q⟩ := h
    refine ⟨_, (pss_cons (ps_fldK K (pv 0) pe_non rfl)
      (pss_one (ps_fldK K (pv 0) pe_bl rfl))), ?_⟩
    walk_at "rd"
    refine rdSeq ?_
    walk_at "rd"
    obtain ⟨dx, h⟩ := c.ob
    refine i_fldS T.cl_Cells T.nf_Cells_left h (by show 3 < 1000; decide) ?_
    refine i_fldS T.cl_Cells T.nf_Cells_on upd_same (by show 3 < 1000; decide) ?_
    rw [upd_upd]
    exact q _ ⟨⟨dx, by rw [upd_same]; rfl⟩, by rw [upd_ne (Ne.symm c.ne)]; exact c.ws, c.sz⟩ (Kp.set (by simp))

theorem okH_Cells_restore (T : Txt K mg) : L2H.FnH P w K mg base CX0 1 T.f_Cells_restore T.d_Cells_restore ["self"] (sp_Cells_restore T) := by
  refine okH T.k_Cells_restore sc_Cells_restore (fun vs H Q E h => ?_) (fun cdv A outer s H vs Q E p ht hr h => ?_)
  · obtain ⟨a, l, S, rfl, _⟩ := h
    rfl
  · obtain ⟨a, l, S, rfl, c, q⟩ := h
    refine ⟨_, (pss_cons (ps_fldK K (pv 0) pe_non rfl)
      (pss_one (ps_fldK K (pv 0) pe_bl rfl))), ?_⟩
    walk_at "rd"
    refine rdSeq ?_
    walk_at "rd"
    obtain ⟨dx, h⟩ := c.ob
    refine i_fldS T.cl_Cells T.nf_Cells_left h (by show 3 < 1000; decide) ?_
    refine i_fldS T.cl_Cells T.nf_Cells_on upd_same (by show 3 < 1000; decide) ?_
    rw [upd_upd]
    exact q _ ⟨⟨dx, by rw [upd_same]; rfl⟩, by rw [upd_ne (Ne.symm c.ne)]; exact c.ws, c.sz⟩ (Kp.set (by simp))


/-! ### the draws of a script -/
def sp_law_draws {K : PySem.W.Frag} {mg : Str → Option Value} (_ : Txt K mg) : Sp := fun vs H Q _ => ∃ (a : Addr) (ns : List Int) (m : Nat), vs = [.ref a, .int 0, .int m] ∧ SqL K H a (ns.map V.int) ∧ ns.length ≤ 63 ∧
  ∀ (p : Addr) (H' : Hp) (ms : List Int), NewL H H' p (ms.map V.int) → ms.length ≤ m → Q (.ref p) H'
theorem ok_law_draws (T : Txt K mg) : FnOk P w K mg base CX0 1 T.f_law_draws T.d_law_draws ["_law_script", "_law_start", "_law_most"] (sp_law_draws T) := by
  refine T.k_law_draws.ok sc_law_draws (fun vs H Q E h => ?_) (fun cdv A outer s H vs Q E hr h => ?_)
  · obtain ⟨a, ns, m, rfl, _⟩ := h
    rfl
  · obtain ⟨a, ns, m, rfl, hS, hl, q⟩ := h
    refine ⟨_, (pss_cons (ps_set (i := 3) sc_law_draws.nd rfl (.inl rfl) (pe_lst pa_nil))
      (pss_cons (ps_for PassesOwn.never rfl (pi_list (pe_slice (sl_listK K) (pv 0) (po_some (pv 1)) po_none)) (pg_name (i := 4) sc_law_draws.nd rfl (Or.inl rfl)) (pss_cons (ps_set (i := 5) sc_law_draws.nd rfl (.inl rfl) (pe_callB call_abs (by rfl) T.m_abs (by decide +kernel) (pa_cons (pe_callTy call_intI (by rfl) T.m_int (by decide +kernel) (pa_cons (pv 4) pa_nil)) pa_nil)))
      (pss_one (ps_if (pt_cmpR op_lt (pv 5) (pe_op op_pow pe_int pe_int) (nomark _)) (pss_cons (ps_set (i := 6) sc_law_draws.nd rfl (.inl rfl) (pe_op op_modP (pe_callTy call_intI (by rfl) T.m_int (by decide +kernel) (pa_cons (pe_op op_add (pe_op op_mul (pv 5) pe_int) pe_int) pa_nil)) pe_int))
      (pss_cons (ps_expr (pe_bmK K PySem.F.plainAttrs_list PySem.F.slot_list_append PySem.F.type_list_append mt_append (pv 3) (pa_cons (pe_op op_add (pe_op op_mul (pv 6) pe_int) (pe_op op_modP (pe_callTy call_intI (by rfl) T.m_int (by decide +kernel) (pa_cons (pe_op op_add (pe_op op_mul (pv 6) pe_int) (pv 5)) pa_nil)) pe_int)) pa_nil)))
      (pss_one (ps_expr (pe_bmK K PySem.F.plainAttrs_list PySem.F.slot_list_append PySem.F.type_list_append mt_append (pv 3) (pa_cons (pe_op op_add (pe_op op_mul (pe_op op_modP (pe_callTy call_intI (by rfl) T.m_int (by decide +kernel) (pa_cons (pe_op op_add (pe_op op_add (pe_op op_mul (pv 6) pe_int) (pe_op op_fdivW (pv 5) pe_int)) pe_int) pa_nil)) pe_int) pe_int) (pe_op op_modP (pv 5) pe_int)) pa_nil)))))) (pss_one (ps_for PassesOwn.never rfl (pi_range1 (by rfl) T.m_range (pa_cons pe_int pa_nil)) (pg_name (i := 7) sc_law_draws.nd rfl (Or.inl rfl)) (C8.pss_cut (ps_if (pt_cmpR op_gt (pv 5) pe_int (nomark _)) (pss_one (ps_expr (pe_bmK K PySem.F.plainAttrs_list PySem.F.slot_list_append PySem.F.type_list_append mt_append (pv 3) (pa_cons (pe_op op_modP (pe_callTy call_intI (by rfl) T.m_int (by decide +kernel) (pa_cons (pv 5) pa_nil)) (pe_op op_pow pe_int pe_int)) pa_nil)))) pss_nil)
      (pss_one (ps_set (i := 5) sc_law_draws.nd rfl (.inl rfl) (pe_op op_fdivW (pv 5) (pe_op op_pow pe_int pe_int)))))))))))
      (pss_one (ps_ret (pe_slice (sl_listK K) (pv 3) po_none (po_some (pv 2))))))), ?_⟩
    walk_at "rd"
    refine rdSeq ?_
    walk_at "rd"
    intro p hp
    refine rdSeq ?_
    walk_at "rd"
    refine i_slL ((same_new hp).seq hS) fun c hc => ?_
    rw [cut_all]
    have npc : p ≠ c := ne_of_none upd_same hc
    walk_at "rd"
    refine ⟨⟨_, sqL_of upd_same⟩, ?_⟩
    refine i_for (walk_listL (l := ns) (r := V.int)) (fun i σ H' => (∃ ms : List Int, NewL H H' p (ms.map V.int) ∧ ms.length ≤ 12 * i) ∧ H' c = some (.lst (ns.map V.int)) ∧ ∃ y1 y2 y3 y4, σ = [some (.ref a), some (.int 0), some (.int (m : Int)), some (.ref p), y1, y2, y3, y4])
      ⟨⟨[], ⟨hp, (same_new hp).trans (same_new hc), by rw [upd_ne npc]; exact upd_same⟩, Nat.zero_le _⟩, upd_same, _, _, _, _, rfl⟩ (fun i σ H' _ h => sqL_of h.2.1) ?_ ?_
    · rintro i _ σ H1 _ hi ⟨⟨ms, n, hm⟩, hC, y1, y2, y3, y4, rfl⟩ ⟨rfl, x, hx, rfl⟩
      refine rdSeq ?_
      walk_at "rd"
      generalize (if x < 0 then -x else x) = y
      refine ⟨pow18, ite2 (fun _ => rdSeq ?_) (fun _ => ?_)⟩
      · walk_at "rd"
        refine ⟨cm_r (by decide), ?_⟩
        generalize (y * 48611 + 43) % 2147483647 = z
        refine rdSeq ?_
        walk_at "rd"
        refine ⟨ty_app n.sq, cm_r (by decide), cm_r (by decide), i_app n.at_ (by rw [List.length_map]; exact line5' (by omega)) ?_⟩
        have n2 := n.set (ys := List.map V.int ms ++ [V.int (z * 2147483629 + (z * 16807 + y) % 2147483629)])
        refine ⟨ty_app n2.sq, cm_r (by decide), ⟨by decide, by decide⟩, cm_r (by decide), i_app n2.at_ (by rw [List.length_append, List.length_map]; exact line5' (by show _ + 1 ≤ _; omega)) ?_⟩
        have n3 := n2.set (ys := List.map V.int ms ++ [V.int (z * 2147483629 + (z * 16807 + y) % 2147483629)] ++ [V.int ((z * 69621 + y / 9 + 3) % 2147483399 * 7919 + y % 7919)])
        refine ⟨⟨ms ++ [z * 2147483629 + (z * 16807 + y) % 2147483629] ++ [(z * 69621 + y / 9 + 3) % 2147483399 * 7919 + y % 7919], by rw [List.map_append, List.map_append]; exact n3, by simp; omega⟩, ?_⟩
        rw [upd_ne (Ne.symm npc), upd_ne (Ne.symm npc)]; exact hC
      · walk_at "rd"
        refine ⟨by decide, by decide, i_for walk_range (fun j σ H' => (∃ ms : List Int, NewL H H' p (ms.map V.int) ∧ ms.length ≤ 12 * i + j) ∧ H' c = some (.lst (ns.map V.int)) ∧ ∃ (u : Int) (y3 y4 : Option V), σ = [some (.ref a), some (.int 0), some (.int (m : Int)), some (.ref p), some (.int x), some (.int u), y3, y4])
          ⟨⟨ms, n, by omega⟩, hC, y, _, _, rfl⟩ (fun _ _ _ _ _ => trivial) ?_ ?_⟩
        · rintro j _ σ H2 _ hj ⟨⟨ms, n, hm⟩, hC, u, y3, y4, rfl⟩ ⟨rfl, rfl⟩
          have hj : j < 12 := hj
          have hi : i < ns.length := hi
          refine rdCut (fun σ H' => (∃ ms : List Int, NewL H H' p (ms.map V.int) ∧ ms.length ≤ 12 * i + (j + 1)) ∧ H' c = some (.lst (ns.map V.int)) ∧ ∃ (y3 y4 : Option V), σ = [some (.ref a), some (.int 0), some (.int (m : Int)), some (.ref p), some (.int x), some (.int u), y3, y4]) ?_ ?_
          · walk_at "rd"
            refine ite2 (fun _ => ⟨ty_app n.sq, pow14, by decide, i_app n.at_ (by rw [List.length_map]; exact line5' (by omega)) ?_⟩) (fun _ => ⟨⟨ms, n, by omega⟩, hC⟩)
            refine ⟨⟨ms ++ [u % 10 ^ Int.toNat 14], by rw [List.map_append]; exact n.set, by simp; omega⟩, ?_⟩
            rw [upd_ne (Ne.symm npc)]; exact hC
          · rintro σ H3 ⟨⟨ms, n, hm⟩, hC, y3, y4, rfl⟩
            walk_at "rd"
            exact ⟨pow14, ⟨by decide, by decide⟩, ⟨ms, n, hm⟩, hC⟩
        · rintro σ H2 ⟨⟨ms, n, hm⟩, hC, u, y3, y4, rfl⟩
          exact ⟨⟨ms, n, by have : Int.toNat 12 = 12 := rfl; omega⟩, hC, _, _, _, _, rfl⟩
    · rintro σ H1 ⟨⟨ms, n, hm⟩, hC, y1, y2, y3, y4, rfl⟩
      walk_at "rd"
      refine i_slL n.sq fun d hd => ?_
      rw [cut_take, ← List.map_take]
      refine q _ _ _ ⟨n.same.free hd, n.same.trans (same_new hd), upd_same⟩ (List.length_take_le _ _)

/-! ### names.py -/
def nf (c : Addr) (st : Nat) : List (Str × V) := [("_cells", .ref c), ("_start", .int st)]
def NmsAt (C : Addr) (H : Hp) (m c : Addr) (st : Nat) : Prop := ∃ dx, H m = some (.ins C dx (nf c st))
theorem NmsAt.keep {C : Addr} {H H' : Hp} {m c : Addr} {st : Nat} {X : List Addr} (h : NmsAt C H m c st) (k : Kp X H H') (n : m ∉ X) : NmsAt C H' m c st := by
  obtain ⟨dx, h⟩ := h
  exact ⟨dx, k _ _ n h⟩
theorem nms_ne_cells {H : Hp} {C D j c dj dx c' l : Addr} {st : Nat} {o : Bool} {lv : V} (h1 : H j = some (.ins C dj (nf c' st))) (h2 : H c = some (.ins D dx (cf l lv o))) : j ≠ c := fun e => by
  subst e
  rw [h2] at h1
  injection h1 with h1
  injection h1 with _ _ h1
  exact absurd (congrArg List.length h1) (by show ¬ (3 = 2); decide)
def sp_Names_init {K : PySem.W.Frag} {mg : Str → Option Value} (T : Txt K mg) : Sp := fun vs H Q _ => ∃ (x dx c : Addr) (st : Nat), vs = [.ref x, .ref c, .int st] ∧ H x = some (.ins T.c_Names dx []) ∧ ∀ H', NmsAt T.c_Names H' x c st → Kp [x] H H' → Q .non H'
theorem ok_Names_init (T : Txt K mg) : FnOk P w K mg base CX0 1 T.f_Names_init T.d_Names_init ["self", "cells", "start"] (sp_Names_init T) := by
  refine T.k_Names_init.ok sc_Names_init (fun vs H Q E h => ?_) (fun cdv A outer s H vs Q E hr h => ?_)
  · obtain ⟨x, dx, c, st, rfl, _⟩ := h
    rfl
  · obtain ⟨x, dx, c, st, rfl, hx, q⟩ := h
    refine ⟨_, (pss_cons (ps_fldK K (pv 0) (pv 1) rfl)
      (pss_one (ps_fldK K (pv 0) (pv 2) rfl))), ?_⟩
    walk_at "rd"
    refine rdSeq ?_
    walk_at "rd"
    refine i_fldS T.cl_Names T.nf_Names_cells hx (by decide) ?_
    refine i_fldS T.cl_Names T.nf_Names_start upd_same (by show 1 < 1000; decide) ?_
    rw [upd_upd]
    exact q _ ⟨dx, by rw [upd_same]; rfl⟩ (Kp.set (by simp))
def sp_Names__row {K : PySem.W.Frag} {mg : Str → Option Value} (T : Txt K mg) : Sp := fun vs H Q _ => ∃ (m c : Addr) (st o : Nat), vs = [.ref m, .int o] ∧ NmsAt T.c_Names H m c st ∧ 1 ≤ o ∧ Q (.int ((st + (o - 1) * 19 : Nat) : Int)) H
theorem ok_Names__row (T : Txt K mg) : FnOk P w K mg base CX0 1 T.f_Names__row T.d_Names__row ["self", "owner"] (sp_Names__row T) := by
  refine T.k_Names__row.ok sc_Names__row (fun vs H Q E h => ?_) (fun cdv A outer s H vs Q E hr h => ?_)
  · obtain ⟨m, c, st, o, rfl, _⟩ := h
    rfl
  · obtain ⟨m, c, st, o, rfl, ⟨dm, hm⟩, ho, q⟩ := h
    refine ⟨_, (pss_one (ps_ret (pe_op op_add (pe_fldK K (pv 0) rfl) (pe_op op_mul (pe_op op_sub (pv 1) pe_int) (pe_glob (v := .int _) rfl T.g_ROW_CELLS ⟨_, rfl⟩))))), ?_⟩
    walk_at "rd"
    refine i_fld T.cl_Names T.nf_Names_start hm rfl ?_
    walk_at "rd"
    refine ⟨cm_r (by decide), ?_⟩
    rw [show (st : Int) + ((o : Int) - 1) * 19 = ((st + (o - 1) * 19 : Nat) : Int) by omega]
    exact q
def sp_Names_remove {K : PySem.W.Frag} {mg : Str → Option Value} (T : Txt K mg) : Sp := fun vs H Q E => ∃ (m c l : Addr) (st o : Nat) (S : CS), vs = [.ref m, .int o] ∧ NmsAt T.c_Names H m c st ∧ CellsAt T.c_Cells H c l S ∧ 1 ≤ o ∧ st + (o - 1) * 19 < S.words.length ∧
  ∀ H', CellsAt T.c_Cells H' c l (writeS S (st + (o - 1) * 19) 0).1 → Kp [c, l] H H' → ((writeS S (st + (o - 1) * 19) 0).2 = true → Q .non H') ∧ ((writeS S (st + (o - 1) * 19) 0).2 = false → E (.ref T.c_PowerCut) none H')
theorem ok_Names_remove (T : Txt K mg) : FnOk P w K mg base (L2N.CX P w) 2 T.f_Names_remove T.d_Names_remove ["self", "owner"] (sp_Names_remove T) := by
  refine okXN T.k_Names_remove sc_Names_remove (fun vs H Q E h => ?_) (fun cdv A outer s H vs Q E hr h => ?_)
  · obtain ⟨m, c, l, st, o, S, rfl, _⟩ := h
    rfl
  · obtain ⟨m, c, l, st, o, S, rfl, hm, hc, ho, hz, q⟩ := h
    refine ⟨_, (pss_one (ps_expr (pe_methS (pe_fldK K (pv 0) rfl) T.cl_Cells T.me_Cells_write (ok_Cells_write T) (hr.mono (by decide)) T.b_Cells_write (fun σ => L2N.passAt (L2N.takes_of rfl rfl rfl rfl) σ) (pa_cons (pe_meth (pv 0) T.cl_Names T.me_Names__row (ok_Names__row T) (hr.mono (by decide)) T.b_Names__row .nil pass0 (pa_cons (pv 1) pa_nil)) (pa_cons pe_int pa_nil))))), ?_⟩
    obtain ⟨dm, hmo⟩ := id hm
    obtain ⟨dx, hco⟩ := id hc.ob
    walk_at "rd"
    refine i_fld T.cl_Names T.nf_Names_cells hmo rfl (i_meth hco rfl (i_meth hmo rfl ⟨m, c, st, o, rfl, hm, ho, ?_⟩))
    exact ⟨c, l, S, st + (o - 1) * 19, 0, rfl, hc, hz, fun H' h1 h2 => q H' h1 h2⟩
def chI : Nat → List Nat → Nat := fun c l => l.findIdx (· == c)
def CHS : Str := " !#$&'()*+,-./0123456789:;<=>?\x40ABCDEFGHIJKLMNOPQRSTUVWXYZ[\\]^_`abcdefghijklmnopqrstuvwxyz{|}~"
def wseq : CS → Nat → List Int → CS × Bool
  | S, _, [] => (S, true)
  | S, i, w :: t => if (writeS S i w).2 = true then wseq (writeS S i w).1 (i + 1) t else ((writeS S i w).1, false)
theorem wseq_snoc : ∀ (a : List Int) (S : CS) (i : Nat) (w : Int) (t : List Int), (wseq S i a).2 = true → wseq S i (a ++ w :: t) = wseq (wseq S i a).1 (i + a.length) (w :: t)
  | [], _, _, _, _, _ => rfl
  | x :: a, S, i, w, t, h => by
    by_cases e : (writeS S i x).2 = true
    · have h1 : wseq S i (x :: a) = wseq (writeS S i x).1 (i + 1) a := if_pos e
      have h2 : wseq S i (x :: a ++ w :: t) = wseq (writeS S i x).1 (i + 1) (a ++ w :: t) := if_pos e
      rw [h1] at h
      rw [h1, h2, wseq_snoc a _ _ w t h, List.length_cons, show i + 1 + a.length = i + (a.length + 1) by omega]
    · have h1 : wseq S i (x :: a) = ((writeS S i x).1, false) := if_neg e
      rw [h1] at h; cases h
theorem writeS_len' {S : CS} {i : Nat} {w : Int} : (writeS S i w).1.words.length = S.words.length := by
  unfold writeS
  split
  · rfl
  · split
    · rfl
    · exact List.length_set
theorem wseq_len : ∀ (a : List Int) (S : CS) (i : Nat), (wseq S i a).1.words.length = S.words.length
  | [], _, _ => rfl
  | x :: a, S, i => by
    unfold wseq
    split
    · rw [wseq_len a, writeS_len']
    · exact writeS_len'
def wput (S : CS) (row : Nat) (ws : List Int) : CS × Bool := if (wseq S (row + 1) ws).2 = true then writeS (wseq S (row + 1) ws).1 row 1 else wseq S (row + 1) ws
def nameWs (n : Int) (z : Str) : List Int := n :: (z.length : Int) :: z.cps.toList.map fun c => ((CHS.cps.toList.findIdx (· == c) : Nat) : Int)
def NmOk (z : Str) : Prop := 1 ≤ z.length ∧ z.length ≤ 16 ∧ ∀ c ∈ z.cps.toList, c ∈ CHS.cps.toList
theorem chs_occ : (CHS.cps.toList.all fun c => match Builtin.Str.occurrences CHS ⟨#[c]⟩ 0 CHS.length 1 with
    | i :: _ => i == CHS.cps.toList.findIdx (· == c)
    | [] => false) = true := by decide +kernel
def sp_Names_put {K : PySem.W.Frag} {mg : Str → Option Value} (T : Txt K mg) : Sp := fun vs H Q E => ∃ (m c l : Addr) (st o : Nat) (S : CS) (n : Int) (z : Str), vs = [.ref m, .int o, .int n, .str z] ∧ NmsAt T.c_Names H m c st ∧ CellsAt T.c_Cells H c l S ∧ 1 ≤ o ∧ st + (o - 1) * 19 + 18 < S.words.length ∧ NmOk z ∧
  ∀ H', CellsAt T.c_Cells H' c l (wput S (st + (o - 1) * 19) (nameWs n z)).1 → Kp [c, l] H H' → ((wput S (st + (o - 1) * 19) (nameWs n z)).2 = true → Q .non H') ∧ ((wput S (st + (o - 1) * 19) (nameWs n z)).2 = false → E (.ref T.c_PowerCut) none H')
theorem ok_Names_put (T : Txt K mg) : FnOk P w K mg base (L2N.CX P w) 2 T.f_Names_put T.d_Names_put ["self", "owner", "number", "name"] (sp_Names_put T) := by
  refine okXN T.k_Names_put sc_Names_put (fun vs H Q E h => ?_) (fun cdv A outer s H vs Q E hr h => ?_)
  · obtain ⟨m, c, l, st, o, S, n, z, rfl, _⟩ := h
    rfl
  · obtain ⟨m, c, l, st, o, S, n, z, rfl, hm, hc, ho, hz, hn, q⟩ := h
    refine ⟨_, (pss_cons (ps_set (i := 4) sc_Names_put.nd rfl (.inl rfl) (pe_meth (pv 0) T.cl_Names T.me_Names__row (ok_Names__row T) (hr.mono (by decide)) T.b_Names__row .nil pass0 (pa_cons (pv 1) pa_nil)))
      (pss_cons (ps_set (i := 5) sc_Names_put.nd rfl (.inl rfl) (pe_op op_cat (pe_lst (pa_cons (pv 2) (pa_cons (pe_callB call_lenS (by rfl) T.m_len (by decide +kernel) (pa_cons (pv 3) pa_nil)) pa_nil))) (pe_lc (own := [("character", 8)]) (g := gName 8) (tt := tYes) rfl sc_Names_put.nd (pi_str (pv 3)) (blkOk_by (own := [("character", 8)]) (N := ["self", "owner", "number", "name", "row", "words", "index", "word", "character"]) (sc := defScope s_Names_put) (by decide +kernel)) (fun _ _ _ _ _ => pg_name (i := 8) sc_Names_put.nd rfl (Or.inl rfl)) (fun _ _ _ _ _ => pts_nil) (fun _ _ _ _ _ => (pe_bmK K PySem.F.plainAttrs_str PySem.F.slot_str_index PySem.F.type_str_index mt_sidx (pe_glob (v := .str _) rfl T.g_CHARACTERS ⟨_, rfl⟩) (pa_cons (pv 8) pa_nil))))))
      (pss_cons (ps_for (passes_of rfl) rfl (pi_enum (by rfl) T.m_enumerate (pa_cons (pv 5) pa_nil)) (pg_tup rfl (pgs_cons (pg_name (i := 6) sc_Names_put.nd rfl (Or.inl rfl)) (pgs_cons (pg_name (i := 7) sc_Names_put.nd rfl (Or.inl rfl)) pgs_nil))) (pss_one (ps_expr (pe_methS (pe_fldK K (pv 0) rfl) T.cl_Cells T.me_Cells_write (ok_Cells_write T) (hr.mono (by decide)) T.b_Cells_write (fun σ => L2N.passAt (L2N.takes_of rfl rfl rfl rfl) σ) (pa_cons (pe_op op_add (pe_op op_add (pv 4) pe_int) (pv 6)) (pa_cons (pv 7) pa_nil))))))
      (pss_one (ps_expr (pe_methS (pe_fldK K (pv 0) rfl) T.cl_Cells T.me_Cells_write (ok_Cells_write T) (hr.mono (by decide)) T.b_Cells_write (fun σ => L2N.passAt (L2N.takes_of rfl rfl rfl rfl) σ) (pa_cons (pv 4) (pa_cons pe_int pa_nil)))))))), ?_⟩
    obtain ⟨dm, hmo⟩ := id hm
    obtain ⟨dx, hco⟩ := id hc.ob
    walk_at "rd"
    refine rdSeq ?_
    walk_at "rd"
    refine i_meth hmo rfl ⟨m, c, st, o, rfl, hm, ho, rdSeq ?_⟩
    walk_at "rd"
    have hz16 := hn.2.1
    refine i_lenS rfl (line5 (by omega)) ?_
    intro p hp
    refine i_lcL (walk_chars (z := z)) (fun ch => .int ((CHS.cps.toList.findIdx (· == ch) : Nat) : Int)) (by rw [cl_length]; exact line5' (by omega)) (fun _ _ _ => trivial) (fun ch hch H1 Q' sm q' => ?_) fun d hd => ?_
    · walk_at "rd"
      have h := List.all_eq_true.mp chs_occ ch (hn.2.2 ch hch)
      cases e : Builtin.Str.occurrences CHS ⟨#[ch]⟩ 0 CHS.length 1 with
      | nil => rw [e] at h; cases h
      | cons i rest =>
        rw [e] at h
        have ei : i = CHS.cps.toList.findIdx (· == ch) := beq_iff_eq.mp h
        refine ⟨rfl, CHS, ⟨#[ch]⟩, i, rest, rfl, rfl, e, ?_⟩
        rw [ei]; exact q'
    · have s1 : Same H (upd (upd H p (.lst [V.int n, V.int (z.length : Int)])) d (.lst (z.cps.toList.map fun ch => V.int ((CHS.cps.toList.findIdx (· == ch) : Nat) : Int)))) := (same_new hp).trans (same_new hd)
      refine i_cat (same_new hd _ _ upd_same) upd_same (by rw [List.length_map, cl_length]; exact line5 (by show 2 + _ ≤ _; omega)) fun w hw => rdSeq ?_
      have ew : [V.int n, V.int (z.length : Int)] ++ (z.cps.toList.map fun ch => V.int ((CHS.cps.toList.findIdx (· == ch) : Nat) : Int)) = (nameWs n z).map V.int := by
        unfold nameWs
        rw [List.map_cons, List.map_cons, List.map_map]; rfl
      rw [ew]
      have lws : (nameWs n z).length = z.length + 2 := by unfold nameWs; rw [List.length_cons, List.length_cons, List.length_map, cl_length]
      have s2 := s1.trans (same_new (o := .lst ((nameWs n z).map V.int)) hw)
      have nlw : l ≠ w := ne_of_none (s1 _ _ hc.ws) hw
      have ncw : c ≠ w := ne_of_none (s1 _ _ hco) hw
      walk_at "rd"
      have off : ∀ (H1 : Hp) (S1 : CS), CellsAt T.c_Cells H1 c l S1 → Kp [c, l] H H1 → wput S (st + (o - 1) * 19) (nameWs n z) = (S1, false) → E (.ref T.c_PowerCut) none H1 := fun H1 S1 h1 k1 e => by
        have q1 := q H1
        rw [e] at q1
        exact (q1 h1 k1).2 rfl
      generalize hrow : st + (o - 1) * 19 = row at q off hz
      generalize hwl : nameWs n z = ws at q off lws ew
      have hwat : upd (upd (upd H p (.lst [V.int n, V.int (z.length : Int)])) d (.lst (z.cps.toList.map fun ch => V.int ((CHS.cps.toList.findIdx (· == ch) : Nat) : Int)))) w (.lst (ws.map V.int)) w = some (.lst (ws.map V.int)) := upd_same
      rw [hwl] at s2
      generalize upd (upd (upd H p (.lst [V.int n, V.int (z.length : Int)])) d (.lst (z.cps.toList.map fun ch => V.int ((CHS.cps.toList.findIdx (· == ch) : Nat) : Int)))) w (.lst (ws.map V.int)) = H2 at s2 hwat
      have hsplit : ∀ i (h : i < ws.length), ws = ws.take i ++ ws[i] :: ws.drop (i + 1) := fun i h => by rw [← List.drop_eq_getElem_cons h, List.take_append_drop]
      refine ⟨_, sqL_of hwat, i_forG (walk_enum (xs := ws.map V.int)) (fun i σ H' => (∃ S', CellsAt T.c_Cells H' c l S' ∧ wseq S (row + 1) (ws.take i) = (S', true)) ∧ Kp [c, l] H2 H' ∧ ∃ y6 y7 y8, σ = [some (V.ref m), some (V.int (o : Int)), some (V.int n), some (V.str z), some (V.int (row : Int)), some (V.ref w), y6, y7, y8])
        ⟨⟨S, hc.keep (Kp.of s2 (X := [])) (by simp) (by simp), rfl⟩, Kp.refl _ _, _, _, _, rfl⟩ (fun i σ H' _ h => sqL_of (h.2.1 _ _ (by simp [Ne.symm ncw, Ne.symm nlw]) hwat)) ?_ ?_⟩
      · rintro i _ σ H3 _ hi ⟨⟨S', hc3, es⟩, kp3, y6, y7, y8, rfl⟩ ⟨tp, x, y, rfl, htp, rfl, hx, hy⟩
        have hi : i < ws.length := by rw [List.length_map] at hi; exact hi
        cases hx
        have hy : (ws.map V.int)[i]? = some y := hy
        rw [List.getElem?_map, List.getElem?_eq_getElem hi] at hy
        cases hy
        refine i_gTup2 rfl (sqT_of upd_same) ?_
        have hc4 := hc3.keep (Kp.new (o := .tup [V.int (i : Int), V.int ws[i]]) htp (X := [])) (by simp) (by simp)
        obtain ⟨dx4, hco4⟩ := id hc4.ob
        have kpn : Kp [c, l] H2 (upd H3 tp (.tup [V.int (i : Int), V.int ws[i]])) := kp3.trans (Kp.new htp)
        have hmo4 : upd H3 tp (.tup [V.int (i : Int), V.int ws[i]]) m = some (.ins T.c_Names dm (nf c st)) := kpn _ _ (by simp [nms_ne_cells hmo hco, ne_of hmo hc.ws (by intro z; cases z)]) (s2 _ _ hmo)
        generalize upd H3 tp (.tup [V.int (i : Int), V.int ws[i]]) = H4 at hc4 hco4 kpn hmo4
        walk_at "rd"
        refine i_fld T.cl_Names T.nf_Names_cells hmo4 rfl (i_meth hco4 rfl ?_)
        have slen : S'.words.length = S.words.length := by have := wseq_len (ws.take i) S (row + 1); rw [es] at this; exact this
        have e1 : wseq S (row + 1) ws = wseq S' (row + 1 + i) (ws[i] :: ws.drop (i + 1)) := by
          have := wseq_snoc (ws.take i) S (row + 1) ws[i] (ws.drop (i + 1)) (by rw [es])
          rw [← hsplit i hi, es, List.length_take, Nat.min_eq_left (by omega)] at this
          exact this
        refine ⟨c, l, S', row + 1 + i, ws[i], rfl, hc4, by omega, fun H5 hc5 kp5 => ⟨fun e5 => ?_, fun e5 => ?_⟩⟩
        · refine ⟨⟨_, hc5, ?_⟩, kpn.trans kp5⟩
          rw [List.take_add_one, List.getElem?_eq_getElem hi]
          have := wseq_snoc (ws.take i) S (row + 1) ws[i] [] (by rw [es])
          rw [es, List.length_take, Nat.min_eq_left (by omega)] at this
          exact this.trans (if_pos e5)
        · refine off H5 _ hc5 ((Kp.of s2).trans (kpn.trans kp5)) ?_
          have e2 : wseq S (row + 1) ws = ((writeS S' (row + 1 + i) ws[i]).1, false) := e1.trans (if_neg (by rw [e5]; simp))
          unfold wput
          rw [e2]; rfl
      · rintro σ H3 ⟨⟨S', hc3, es⟩, kp3, y6, y7, y8, rfl⟩
        rw [List.length_map, List.take_length] at es
        have hmo3 := kp3 _ _ (by simp [nms_ne_cells hmo hco, ne_of hmo hc.ws (by intro z; cases z)]) (s2 _ _ hmo)
        obtain ⟨dx3, hco3⟩ := id hc3.ob
        have slen : S'.words.length = S.words.length := by have := wseq_len ws S (row + 1); rw [es] at this; exact this
        have ep : wput S row ws = writeS S' row 1 := by unfold wput; rw [es]; rfl
        dsimp only
        walk_at "rd"
        refine i_fld T.cl_Names T.nf_Names_cells hmo3 rfl (i_meth hco3 rfl ?_)
        rw [ep] at q
        exact ⟨c, l, S', row, 1, rfl, hc3, by omega, fun H5 hc5 kp5 => q H5 hc5 ((Kp.of s2).trans (kp3.trans kp5))⟩
theorem fm1 {β : Type} {f : Nat → Option β} {i : Nat} : List.filterMap f [i] = (f i).toList := by
  rw [List.filterMap_cons, List.filterMap_nil]
  cases f i <;> rfl
theorem find_back {c : Nat} {l : List Nat} (h : c ∈ l) : l[l.findIdx (· == c)]? = some c := by
  have hl : l.findIdx (· == c) < l.length := List.findIdx_lt_length_of_exists ⟨c, h, by simp⟩
  rw [List.getElem?_eq_getElem hl]
  have := List.findIdx_getElem (p := (· == c)) (xs := l) (w := hl)
  rw [beq_iff_eq] at this
  rw [this]
theorem sum_ones : ∀ l : List Nat, (l.map ((fun s : Str => s.length) ∘ fun c => (⟨#[c]⟩ : Str))).sum = l.length
  | [] => rfl
  | c :: l => by
    rw [List.map_cons, List.sum_cons, sum_ones l, List.length_cons]
    show 1 + _ = _
    omega
theorem chars_range {z : Str} : (List.range z.length).map (fun j => V.str ⟨#[z.cps.toList.getD j 0]⟩) = z.cps.toList.map (V.str ∘ fun c => (⟨#[c]⟩ : Str)) := by
  apply List.ext_getElem?
  intro i
  rw [List.getElem?_map, List.getElem?_map]
  by_cases h : i < z.length
  · have h' : i < z.cps.toList.length := by rw [cl_length]; exact h
    rw [List.getElem?_range h, List.getElem?_eq_getElem h', Option.map_some, Option.map_some, List.getD_eq_getElem?_getD, List.getElem?_eq_getElem h']; rfl
  · rw [List.getElem?_eq_none (by rw [List.length_range]; omega), List.getElem?_eq_none (by rw [cl_length]; omega)]; rfl
theorem join_chrs {z : Str} : Txt.join Str.empty (z.cps.toList.map fun c => ⟨#[c]⟩) = z := by
  have h := join_cl (z.cps.toList.map fun c => (⟨#[c]⟩ : Str))
  have e : ((z.cps.toList.map fun c => (⟨#[c]⟩ : Str)).map fun s => s.cps.toList).flatten = z.cps.toList := by
    rw [List.map_map]
    induction z.cps.toList with
    | nil => rfl
    | cons c t ih => rw [List.map_cons, List.flatten_cons, ih]; rfl
  rw [e] at h
  generalize Txt.join Str.empty (z.cps.toList.map fun c => (⟨#[c]⟩ : Str)) = y at h
  obtain ⟨⟨a⟩⟩ := y
  obtain ⟨⟨b⟩⟩ := z
  have : a = b := h
  rw [this]
/-- the rows of names as the cells hold them -/
def RowAt (W : List Int) (b : Nat) : Option (Int × Str) → Prop
  | none => W.getD b 0 = 0
  | some e => W.getD b 0 = 1 ∧ NmOk e.2 ∧ ∀ i, i < (nameWs e.1 e.2).length → W.getD (b + 1 + i) 0 = (nameWs e.1 e.2).getD i 0
def RowsOk (W : List Int) (st : Nat) (M : Nat → Option (Int × Str)) : Prop := ∀ o, 1 ≤ o → o ≤ 8 → RowAt W (st + (o - 1) * 19) (M o)
def ents (M : Nat → Option (Int × Str)) (k : Nat) : List (Nat × Int × Str) := (List.range k).filterMap fun i => (M (i + 1)).map fun e => (i + 1, e)
def Tups (H : Hp) (p : Addr) (es : List (Nat × Int × Str)) : Prop := ∃ rs : List Addr, H p = some (.lst (rs.map V.ref)) ∧ rs.length = es.length ∧ ∀ (i : Nat) (r : Addr) (e : Nat × Int × Str), rs[i]? = some r → es[i]? = some e → H r = some (.tup [.int e.1, .int e.2.1, .str e.2.2])
def sp_Names_rows {K : PySem.W.Frag} {mg : Str → Option Value} (T : Txt K mg) : Sp := fun vs H Q _ => ∃ (m c l : Addr) (st : Nat) (S : CS) (M : Nat → Option (Int × Str)), vs = [.ref m] ∧ NmsAt T.c_Names H m c st ∧ CellsAt T.c_Cells H c l S ∧ S.on = true ∧ st + 152 ≤ S.words.length ∧ RowsOk S.words st M ∧
  ∀ H' p, H p = none → Same H H' → Tups H' p (ents M 8) → Q (.ref p) H'
theorem ok_Names_rows (T : Txt K mg) : FnOk P w K mg base CX0 2 T.f_Names_rows T.d_Names_rows ["self"] (sp_Names_rows T) := by
  refine T.k_Names_rows.ok sc_Names_rows (fun vs H Q E h => ?_) (fun cdv A outer s H vs Q E hr h => ?_)
  · obtain ⟨m, c, l, st, S, M, rfl, _⟩ := h
    rfl
  · obtain ⟨m, c, l, st, S, M, rfl, hm, hc, hon, hz, hM, q⟩ := h
    refine ⟨_, (pss_cons (ps_set (i := 1) sc_Names_rows.nd rfl (.inl rfl) (pe_lst pa_nil))
      (pss_cons (ps_for PassesOwn.never rfl (pi_range2 (by rfl) T.m_range (pa_cons pe_int (pa_cons (pe_op op_add (pe_glob (v := .int _) rfl T.g_MOST_APPLETS ⟨_, rfl⟩) pe_int) pa_nil))) (pg_name (i := 2) sc_Names_rows.nd rfl (Or.inl rfl)) (pss_cons (ps_set (i := 3) sc_Names_rows.nd rfl (.inr rfl) (pe_meth (pv 0) T.cl_Names T.me_Names__row (ok_Names__row T) (hr.mono (by decide)) T.b_Names__row .nil pass0 (pa_cons (pv 2) pa_nil)))
      (pss_one (ps_if (pt_cmpR op_eq (pe_meth (pe_fldK K (pv 0) rfl) T.cl_Cells T.me_Cells_read (ok_Cells_read T) (hr.mono (by decide)) T.b_Cells_read .nil passNL (pa_cons (pv 3) pa_nil)) pe_int (nomark _)) (pss_cons (ps_set (i := 4) sc_Names_rows.nd rfl (.inl rfl) (pe_meth (pe_fldK K (pv 0) rfl) T.cl_Cells T.me_Cells_read (ok_Cells_read T) (hr.mono (by decide)) T.b_Cells_read .nil passNL (pa_cons (pe_op op_add (pv 3) pe_int) pa_nil)))
      (pss_cons (ps_set (i := 5) sc_Names_rows.nd rfl (.inl rfl) (pe_joinR pe_str (pe_lc (own := [("index", 6)]) (g := gName 6) (tt := tYes) rfl sc_Names_rows.nd (pi_range1 (by rfl) T.m_range (pa_cons (pv 4) pa_nil)) (blkOk_by (own := [("index", 6)]) (N := ["self", "found", "owner", "row", "size", "name", "index"]) (sc := defScope s_Names_rows) (by decide +kernel)) (fun _ _ _ _ _ => pg_name (i := 6) sc_Names_rows.nd rfl (Or.inl rfl)) (fun _ _ _ _ _ => pts_nil) (fun _ _ _ _ _ => (pe_ix ix_str (pe_glob (v := .str _) rfl T.g_CHARACTERS ⟨_, rfl⟩) (pe_meth (pe_fldK K (pv 0) rfl) T.cl_Cells T.me_Cells_read (ok_Cells_read T) (hr.mono (by decide)) T.b_Cells_read .nil passNL (pa_cons (pe_op op_add (pe_op op_add (pv 3) pe_int) (pv 6)) pa_nil)) (fun _ _ => rfl))))))
      (pss_one (ps_expr (pe_bmK K PySem.F.plainAttrs_list PySem.F.slot_list_append PySem.F.type_list_append mt_append (pv 1) (pa_cons (pe_tup (pa_cons (pv 2) (pa_cons (pe_meth (pe_fldK K (pv 0) rfl) T.cl_Cells T.me_Cells_read (ok_Cells_read T) (hr.mono (by decide)) T.b_Cells_read .nil passNL (pa_cons (pe_op op_add (pv 3) pe_int) pa_nil)) (pa_cons (pv 5) pa_nil)))) pa_nil)))))) pss_nil))))
      (pss_one (ps_ret (pv 1))))), ?_⟩
    obtain ⟨dm, hmo⟩ := id hm
    obtain ⟨dx, hco⟩ := id hc.ob
    walk_at "rd"
    refine rdSeq ?_
    walk_at "rd"
    intro p hp
    refine rdSeq ?_
    walk_at "rd"
    refine ⟨by decide, by decide, by decide, by decide, i_for walk_range (fun i σ H' => Same H H' ∧ Tups H' p (ents M i) ∧ ∃ y2 y3 y4 y5 y6, σ = [some (V.ref m), some (V.ref p), y2, y3, y4, y5, y6])
      ⟨same_new hp, ⟨[], upd_same, rfl, fun _ _ _ h => nomatch h⟩, _, _, _, _, _, rfl⟩ (fun _ _ _ _ _ => trivial) ?_ ?_⟩
    · rintro i _ σ _ H1 hi ⟨s1, ht, y2, y3, y4, y5, y6, rfl⟩ ⟨rfl, rfl⟩
      have hi : i < 8 := hi
      refine rdSeq ?_
      walk_at "rd"
      have hmo1 := s1 _ _ hmo
      have hco1 := s1 _ _ hco
      have hm1 : NmsAt T.c_Names H1 m c st := ⟨dm, hmo1⟩
      have hc1 := hc.keep (Kp.of s1 (X := [])) (by simp) (by simp)
      have hMo := hM (i + 1) (by omega) (by omega)
      rw [show (1 : Int) + (i : Int) = ((i + 1 : Nat) : Int) by omega]
      refine i_meth hmo1 rfl ⟨m, c, st, i + 1, rfl, hm1, by omega, i_fld T.cl_Names T.nf_Names_cells hmo1 rfl (i_meth hco1 rfl ?_)⟩
      rw [show st + (i + 1 - 1) * 19 = st + i * 19 by omega] at hMo ⊢
      refine ⟨c, l, S, st + i * 19, rfl, hc1, by omega, fun _ => ?_, fun e => by rw [hon] at e; cases e⟩
      have eents : ents M (i + 1) = ents M i ++ ((M (i + 1)).map fun e => (i + 1, e)).toList := by
        unfold ents
        rw [List.range_succ, List.filterMap_append, fm1]
      cases eM : M (i + 1) with
      | none =>
        rw [eM] at hMo eents
        have e0 : S.words.getD (st + i * 19) 0 = 0 := hMo
        have eents : ents M (i + 1) = ents M i := by rw [eents]; simp
        rw [e0, eents]
        walk_at "rd"
        exact ⟨s1, ht⟩
      | some e =>
        obtain ⟨n, z⟩ := e
        rw [eM] at hMo eents
        obtain ⟨e1, hz2, hw⟩ : S.words.getD (st + i * 19) 0 = 1 ∧ NmOk z ∧ ∀ j, j < (nameWs n z).length → S.words.getD (st + i * 19 + 1 + j) 0 = (nameWs n z).getD j 0 := hMo
        rw [e1, eents]
        have lws : (nameWs n z).length = z.length + 2 := by unfold nameWs; rw [List.length_cons, List.length_cons, List.length_map, cl_length]
        have hz16 := hz2.2.1
        have w0 : S.words.getD (st + i * 19 + 1) 0 = n := hw 0 (by omega)
        have w1 : S.words.getD (st + i * 19 + 2) 0 = (z.length : Int) := hw 1 (by omega)
        walk_at "rd"
        refine rdSeq ?_
        walk_at "rd"
        refine i_fld T.cl_Names T.nf_Names_cells hmo1 rfl (i_meth hco1 rfl ?_)
        refine ⟨c, l, S, st + i * 19 + 2, rfl, hc1, by omega, fun _ => ?_, fun e => by rw [hon] at e; cases e⟩
        rw [w1]
        refine rdSeq ?_
        walk_at "rd"
        refine ⟨by omega, by omega, i_lcL (walk_rangeL (lo := 0) (n := z.length)) (fun j => .str ⟨#[z.cps.toList.getD j 0]⟩) (by rw [List.length_range]; exact line5' (by omega)) (fun _ _ _ => trivial) (fun j hj H2 Q' sm q' => ?_) fun d hd => ?_⟩
        · walk_at "rd"
          have hj : j < z.length := List.mem_range.mp hj
          have hj' : j < z.cps.toList.length := by rw [cl_length]; exact hj
          refine i_fld T.cl_Names T.nf_Names_cells (sm _ _ hmo1) rfl (i_meth (sm _ _ hco1) rfl ?_)
          refine ⟨c, l, S, st + i * 19 + 3 + j, by rw [show ((st + i * 19 + 3 + j : Nat) : Int) = ((st + i * 19 : Nat) : Int) + 3 + (0 + (j : Int)) by omega], hc1.keep (Kp.of sm (X := [])) (by simp) (by simp), by omega, fun _ => ?_, fun e => by rw [hon] at e; cases e⟩
          have ew : S.words.getD (st + i * 19 + 3 + j) 0 = ((CHS.cps.toList.findIdx (· == z.cps.toList.getD j 0) : Nat) : Int) := by
            rw [show st + i * 19 + 3 + j = st + i * 19 + 1 + (2 + j) by omega, hw (2 + j) (by omega)]
            unfold nameWs
            rw [show 2 + j = j + 1 + 1 by omega, List.getD_cons_succ, List.getD_cons_succ, List.getD_eq_getElem?_getD, List.getElem?_map, List.getD_eq_getElem?_getD, List.getElem?_eq_getElem hj']
            rfl
          rw [ew]
          have hmem := hz2.2.2 (z.cps.toList.getD j 0) (by rw [List.getD_eq_getElem?_getD, List.getElem?_eq_getElem hj']; exact List.getElem_mem hj')
          exact i_ixS (z := CHS) (line5 (by decide +kernel)) (atI_nat (find_back hmem)) q'
        · refine ⟨Str.empty, d, z.cps.toList.map (fun c => ⟨#[c]⟩), rfl, rfl, .inl ?_, ?_, ?_⟩
          · exact sqL_of (by rw [upd_same, List.map_map, chars_range])
          · have e : ((z.cps.toList.map (fun c => (⟨#[c]⟩ : Str))).map (·.length)).sum = z.length := by
              rw [List.map_map, ← cl_length]
              exact sum_ones z.cps.toList
            rw [e, List.length_map, cl_length]
            show z.length + z.length * 0 ≤ _
            omega
          · rw [join_chrs]
            obtain ⟨rs, g1, g2, g3⟩ := ht
            have s2 : Same H1 (upd H1 d (.lst ((List.range z.length).map fun j => V.str ⟨#[z.cps.toList.getD j 0]⟩))) := same_new hd
            generalize upd H1 d (.lst ((List.range z.length).map fun j => V.str ⟨#[z.cps.toList.getD j 0]⟩)) = H2 at s2
            have hco2 := s2 _ _ hco1
            refine ⟨ty_app (sqL_of (s2 _ _ g1)), i_fld T.cl_Names T.nf_Names_cells (s2 _ _ hmo1) rfl (i_meth hco2 rfl ?_)⟩
            refine ⟨c, l, S, st + i * 19 + 1, rfl, hc1.keep (Kp.of s2 (X := [])) (by simp) (by simp), by omega, fun _ => ?_, fun e => by rw [hon] at e; cases e⟩
            rw [w0]
            intro tp htp
            have npt : tp ≠ p := fun e => by subst e; have := s2 _ _ g1; rw [htp] at this; cases this
            have eil : (ents M i).length ≤ i := by unfold ents; exact Nat.le_trans (List.length_filterMap_le _ _) (by rw [List.length_range]; exact Nat.le_refl _)
            refine i_app (same_new htp _ _ (s2 _ _ g1)) (by rw [List.length_map]; exact line5' (by omega)) ?_
            refine ⟨fun b o e => ?_, rs ++ [tp], by rw [upd_same, List.map_append]; rfl, by simp [g2], fun k r e a b => ?_⟩
            · rw [upd_ne (ne_of_none e hp)]
              exact same_new htp _ _ (s2 _ _ (s1 _ _ e))
            · have jr : k < (rs ++ [tp]).length := List.getElem?_eq_some_iff.mp a |>.1
              rw [List.length_append, List.length_singleton] at jr
              by_cases hk : k < rs.length
              · rw [List.getElem?_append_left hk] at a
                rw [List.getElem?_append_left (by omega)] at b
                have h3 := g3 k r e a b
                rw [upd_ne (ne_of h3 g1 (by intro z; cases z))]
                exact same_new htp _ _ (s2 _ _ h3)
              · obtain rfl : k = rs.length := by omega
                rw [List.getElem?_append_right (Nat.le_refl _), Nat.sub_self] at a
                rw [g2, List.getElem?_append_right (Nat.le_refl _), Nat.sub_self] at b
                cases a; cases b
                rw [upd_ne npt, upd_same]
    · rintro σ H1 ⟨s1, ht, y2, y3, y4, y5, y6, rfl⟩
      dsimp only
      walk_at "rd"
      exact q H1 p hp s1 ht
def sp_law_name {K : PySem.W.Frag} {mg : Str → Option Value} (_ : Txt K mg) : Sp := fun vs H Q _ => ∃ r : Int, vs = [.int r] ∧ ∀ H' z, Same H H' → NmOk z → Q (.str z) H'
theorem chs_len : CHS.length = 93 := by decide +kernel
theorem ok_law_name (T : Txt K mg) : FnOk P w K mg base CX0 1 T.f_law_name T.d_law_name ["_law_rest"] (sp_law_name T) := by
  refine T.k_law_name.ok sc_law_name (fun vs H Q E h => ?_) (fun cdv A outer s H vs Q E hr h => ?_)
  · obtain ⟨r, rfl, _⟩ := h
    rfl
  · obtain ⟨r, rfl, q⟩ := h
    refine ⟨_, (pss_one (ps_ret (pe_joinR pe_str (pe_lc (own := [("_law_k", 1)]) (g := gName 1) (tt := tYes) rfl sc_law_name.nd (pi_range1 (by rfl) T.m_range (pa_cons (pe_op op_add pe_int (pe_op op_modP (pv 0) pe_int)) pa_nil)) (blkOk_by (own := [("_law_k", 1)]) (N := ["_law_rest", "_law_k"]) (sc := defScope s_law_name) (by decide +kernel)) (fun _ _ _ _ _ => pg_name (i := 1) sc_law_name.nd rfl (Or.inl rfl)) (fun _ _ _ _ _ => pts_nil) (fun _ _ _ _ _ => (pe_ix ix_str (pe_glob (v := .str _) rfl T.g_CHARACTERS ⟨_, rfl⟩) (pe_op op_modP (pe_op op_fdivW (pv 0) (pe_op op_add (pv 1) pe_int)) (pe_callB call_lenS (by rfl) T.m_len (by decide +kernel) (pa_cons (pe_glob (v := .str _) rfl T.g_CHARACTERS ⟨_, rfl⟩) pa_nil))) (fun _ _ => rfl))))))), ?_⟩
    walk_at "rd"
    obtain ⟨n, en, hn1, hn2⟩ : ∃ n : Nat, 1 + r % 16 = (n : Int) ∧ 1 ≤ n ∧ n ≤ 16 := ⟨(1 + r % 16).toNat, by omega, by omega, by omega⟩
    rw [en]
    refine ⟨by omega, by omega, i_lcL (walk_rangeL (lo := 0) (n := n)) (fun k => .str ⟨#[CHS.cps.toList.getD (r / (0 + (k : Int) + 1) % 93).toNat 0]⟩) (by rw [List.length_range]; exact line5' (by omega)) (fun _ _ _ => trivial) (fun k hk H1 Q' sm q' => ?_) fun d hd => ?_⟩
    · walk_at "rd"
      have hk : k < n := List.mem_range.mp hk
      refine ⟨⟨by omega, ?_⟩, ?_⟩
      · exact log_small (by omega)
      · refine i_lenS (z := CHS) rfl (line5 (by decide +kernel)) ?_
        rw [chs_len]
        refine ⟨_, rfl, by decide, ?_⟩
        obtain ⟨j, hj, hj2⟩ : ∃ j : Nat, r / (0 + (k : Int) + 1) % 93 = (j : Int) ∧ j < 93 := ⟨(r / (0 + (k : Int) + 1) % 93).toNat, by omega, by omega⟩
        show rIxS (V.str CHS) (V.int (r / (0 + (k : Int) + 1) % 93)) H1 Q'
        rw [hj] at q' ⊢
        have hl : j < CHS.cps.toList.length := by rw [cl_length, chs_len]; exact hj2
        refine i_ixS (line5 (by decide +kernel)) (atI_nat (List.getElem?_eq_getElem hl)) ?_
        rw [Int.toNat_natCast, List.getD_eq_getElem?_getD, List.getElem?_eq_getElem hl] at q'
        exact q'
    · have hj := join_chrs (z := ⟨((List.range n).map fun k : Nat => CHS.cps.toList.getD (r / (0 + (k : Int) + 1) % 93).toNat 0).toArray⟩)
      have ey : (((List.range n).map fun k : Nat => CHS.cps.toList.getD (r / (0 + (k : Int) + 1) % 93).toNat 0).map fun c => (⟨#[c]⟩ : Str)).map V.str = (List.range n).map fun k : Nat => V.str ⟨#[CHS.cps.toList.getD (r / (0 + (k : Int) + 1) % 93).toNat 0]⟩ := by
        rw [List.map_map, List.map_map]; rfl
      refine ⟨Str.empty, d, ((List.range n).map fun k : Nat => CHS.cps.toList.getD (r / (0 + (k : Int) + 1) % 93).toNat 0).map fun c => (⟨#[c]⟩ : Str), rfl, rfl, .inl ?_, ?_, ?_⟩
      · rw [ey]; exact sqL_of upd_same
      · rw [List.map_map, sum_ones, List.length_map, List.length_map, List.length_range]
        show n + n * 0 ≤ _
        omega
      · have hj : Txt.join Str.empty (((List.range n).map fun k : Nat => CHS.cps.toList.getD (r / (0 + (k : Int) + 1) % 93).toNat 0).map fun c => (⟨#[c]⟩ : Str)) = ⟨((List.range n).map fun k : Nat => CHS.cps.toList.getD (r / (0 + (k : Int) + 1) % 93).toNat 0).toArray⟩ := hj
        rw [hj]
        have hlen : (⟨((List.range n).map fun k : Nat => CHS.cps.toList.getD (r / (0 + (k : Int) + 1) % 93).toNat 0).toArray⟩ : Str).length = n := by
          show Array.size _ = n
          simp
        refine q _ _ (same_new hd) ⟨by rw [hlen]; exact hn1, by rw [hlen]; exact hn2, fun c hc => ?_⟩
        obtain ⟨k, hk, rfl⟩ := List.mem_map.mp hc
        have hl : (r / (0 + (k : Int) + 1) % 93).toNat < CHS.cps.toList.length := by rw [cl_length, chs_len]; omega
        rw [List.getD_eq_getElem?_getD, List.getElem?_eq_getElem hl]
        exact List.getElem_mem hl

/-! ### the plain law: rows of names, torn -/
def putL : List Int → Nat → List Int → List Int
  | W, _, [] => W
  | W, i, x :: t => putL (W.set i x) (i + 1) t
theorem putL_len : ∀ (a W : List Int) (i : Nat), (putL W i a).length = W.length
  | [], _, _ => rfl
  | x :: t, W, i => by
    show (putL _ _ t).length = _
    rw [putL_len t, List.length_set]
theorem setD (W : List Int) (i j : Nat) (x : Int) (h : i < W.length) : (W.set i x).getD j 0 = if j = i then x else W.getD j 0 := by
  rw [List.getD_eq_getElem?_getD, List.getElem?_set, List.getD_eq_getElem?_getD]
  by_cases e : i = j
  · subst e; rw [if_pos rfl, if_pos h, if_pos rfl]; rfl
  · rw [if_neg e, if_neg (Ne.symm e)]
theorem putL_getD : ∀ (a W : List Int) (i j : Nat), i + a.length ≤ W.length → (putL W i a).getD j 0 = if i ≤ j ∧ j < i + a.length then a.getD (j - i) 0 else W.getD j 0
  | [], W, i, j, _ => by
    rw [if_neg (by rw [List.length_nil]; omega)]; rfl
  | x :: t, W, i, j, h => by
    rw [List.length_cons] at h ⊢
    show (putL (W.set i x) (i + 1) t).getD j 0 = _
    rw [putL_getD t _ _ _ (by rw [List.length_set]; omega), setD _ _ _ _ (by omega)]
    by_cases e : j = i
    · subst e
      rw [if_neg (by omega), if_pos rfl, if_pos (by omega), Nat.sub_self]; rfl
    · rw [if_neg e]
      by_cases e2 : i + 1 ≤ j ∧ j < i + 1 + t.length
      · rw [if_pos e2, if_pos (by omega), show j - i = (j - (i + 1)) + 1 by omega]; rfl
      · rw [if_neg e2, if_neg (by omega)]
theorem wseq_cut : ∀ (a W : List Int) (i w : Nat), wseq ⟨W, some (w : Int), true⟩ i a = if a.length ≤ w then (⟨putL W i a, some ((w - a.length : Nat) : Int), true⟩, true) else (⟨putL W i (a.take w), some 0, false⟩, false)
  | [], W, i, w => by rw [if_pos (show ([] : List Int).length ≤ w from Nat.zero_le _)]; rfl
  | x :: t, W, i, 0 => by
    rw [if_neg (by rw [List.length_cons]; omega)]; rfl
  | x :: t, W, i, w + 1 => by
    have e : writeS ⟨W, some ((w + 1 : Nat) : Int), true⟩ i x = (⟨W.set i x, some (w : Int), true⟩, true) := by
      unfold writeS
      rw [if_neg (by simp), if_neg (by simp; omega)]
      simp
    unfold wseq
    rw [e, if_pos rfl, wseq_cut t _ _ w, List.length_cons]
    by_cases h : t.length ≤ w
    · rw [if_pos h, if_pos (by omega), show w + 1 - (t.length + 1) = w - t.length by omega]; rfl
    · rw [if_neg h, if_neg (by omega)]; rfl
theorem write_cut (W : List Int) (i w : Nat) (x : Int) : (writeS ⟨W, some (w : Int), true⟩ i x).2 = decide (1 ≤ w) ∧ (writeS ⟨W, some (w : Int), true⟩ i x).1.words = if 1 ≤ w then W.set i x else W := by
  unfold writeS
  rw [if_neg (by simp)]
  by_cases h : 1 ≤ w
  · rw [if_neg (by simp; omega), if_pos h]; simp [h]
  · obtain rfl : w = 0 := by omega
    simp
theorem wput_cut (W : List Int) (row w : Nat) (a : List Int) : (wput ⟨W, some (w : Int), true⟩ row a).2 = decide (a.length + 1 ≤ w) ∧
    (wput ⟨W, some (w : Int), true⟩ row a).1.words = if a.length + 1 ≤ w then (putL W (row + 1) a).set row 1 else putL W (row + 1) (a.take w) := by
  unfold wput
  rw [wseq_cut]
  by_cases h : a.length ≤ w
  · rw [if_pos h]
    dsimp only
    rw [if_pos rfl, (write_cut _ row _ 1).1, (write_cut _ row _ 1).2]
    by_cases h2 : a.length + 1 ≤ w
    · rw [if_pos h2, if_pos (by omega)]; simp [h2]; omega
    · rw [if_neg h2, if_neg (by omega), List.take_of_length_le (by omega)]
      simp [h2]; omega
  · rw [if_neg h]
    dsimp only
    rw [if_neg (by simp), if_neg (by omega)]
    simp; omega
def RMap := Nat → Option (Int × Str)
def RMap.put (M : RMap) (o : Nat) (e : Option (Int × Str)) : RMap := fun k => if k = o then e else M k
structure NInv (st : Nat) (W : List Int) (M : RMap) : Prop where
  len : W.length = 162
  st4 : st ≤ 4
  out : ∀ j, j < 162 → (j < st ∨ st + 152 ≤ j) → W.getD j 0 = 77
  rows : RowsOk W st M
theorem rowAt_same {W W' : List Int} {b : Nat} {e : Option (Int × Str)} (h : RowAt W b e) (k : ∀ j, b ≤ j → j < b + 19 → W'.getD j 0 = W.getD j 0) : RowAt W' b e := by
  cases e with
  | none =>
    have h : W.getD b 0 = 0 := h
    show W'.getD b 0 = 0
    rw [k b (by omega) (by omega)]; exact h
  | some e =>
    obtain ⟨h1, h2, h3⟩ : W.getD b 0 = 1 ∧ NmOk e.2 ∧ ∀ i, i < (nameWs e.1 e.2).length → W.getD (b + 1 + i) 0 = (nameWs e.1 e.2).getD i 0 := h
    refine ⟨by rw [k b (by omega) (by omega)]; exact h1, h2, fun i hi => ?_⟩
    have lw : (nameWs e.1 e.2).length = e.2.length + 2 := by unfold nameWs; rw [List.length_cons, List.length_cons, List.length_map, cl_length]
    have := h2.2.1
    rw [k _ (by omega) (by omega)]; exact h3 i hi
theorem NInv.step {st : Nat} {W W' : List Int} {M : RMap} {o : Nat} {e : Option (Int × Str)} (I : NInv st W M) (h1 : 1 ≤ o) (h8 : o ≤ 8) (hl : W'.length = W.length)
    (k : ∀ j, (j < st + (o - 1) * 19 ∨ st + (o - 1) * 19 + 19 ≤ j) → W'.getD j 0 = W.getD j 0) (r : RowAt W' (st + (o - 1) * 19) e) : NInv st W' (M.put o e) := by
  refine ⟨by rw [hl]; exact I.len, I.st4, fun j hj ho => ?_, fun p hp1 hp8 => ?_⟩
  · rw [k j (by omega)]; exact I.out j hj ho
  · by_cases ep : p = o
    · subst ep
      show RowAt W' _ (if p = p then e else M p)
      rw [if_pos rfl]; exact r
    · show RowAt W' _ (if p = o then e else M p)
      rw [if_neg ep]
      exact rowAt_same (I.rows p hp1 hp8) fun j a b => k j (by omega)
theorem NInv.put {st : Nat} {W : List Int} {M : RMap} {o : Nat} {n : Int} {z : Str} (I : NInv st W M) (h1 : 1 ≤ o) (h8 : o ≤ 8) (hz : NmOk z) : NInv st ((putL W (st + (o - 1) * 19 + 1) (nameWs n z)).set (st + (o - 1) * 19) 1) (M.put o (some (n, z))) := by
  have lw : (nameWs n z).length = z.length + 2 := by unfold nameWs; rw [List.length_cons, List.length_cons, List.length_map, cl_length]
  have := hz.2.1
  have := I.len
  have := I.st4
  have lp : (putL W (st + (o - 1) * 19 + 1) (nameWs n z)).length = W.length := putL_len _ _ _
  refine I.step h1 h8 (by rw [List.length_set]; exact lp) (fun j hj => ?_) ⟨?_, hz, fun i hi => ?_⟩
  · rw [setD _ _ _ _ (by omega), if_neg (by omega), putL_getD _ _ _ _ (by omega), if_neg (by omega)]
  · rw [setD _ _ _ _ (by omega), if_pos rfl]
  · have hi : i < (nameWs n z).length := hi
    rw [setD _ _ _ _ (by omega), if_neg (by omega), putL_getD _ _ _ _ (by omega), if_pos (by omega), Nat.add_sub_cancel_left]
theorem RMap.put_self {M : RMap} {o : Nat} {e : Option (Int × Str)} (h : M o = e) : M.put o e = M := by
  funext k
  show (if k = o then e else M k) = M k
  by_cases ek : k = o
  · rw [if_pos ek, ek, h]
  · rw [if_neg ek]
theorem NInv.torn {st : Nat} {W : List Int} {M : RMap} {o : Nat} {n : Int} {z : Str} {w : Nat} (I : NInv st W M) (h1 : 1 ≤ o) (h8 : o ≤ 8) (hz : NmOk z) (e : M o = none) : NInv st (putL W (st + (o - 1) * 19 + 1) ((nameWs n z).take w)) M := by
  have lw : (nameWs n z).length = z.length + 2 := by unfold nameWs; rw [List.length_cons, List.length_cons, List.length_map, cl_length]
  have := hz.2.1
  have := I.len
  have := I.st4
  have lt : ((nameWs n z).take w).length ≤ (nameWs n z).length := List.length_take_le' _ _
  have h := I.rows o h1 h8
  rw [e] at h
  have h : W.getD (st + (o - 1) * 19) 0 = 0 := h
  have := I.step (o := o) (e := none) (W' := putL W (st + (o - 1) * 19 + 1) ((nameWs n z).take w)) h1 h8 (putL_len _ _ _) (fun j hj => by rw [putL_getD _ _ _ _ (by omega), if_neg (by omega)])
    (show _ = _ by rw [putL_getD _ _ _ _ (by omega), if_neg (by omega)]; exact h)
  rw [RMap.put_self e] at this
  exact this
theorem NInv.rem {st : Nat} {W : List Int} {M : RMap} {o : Nat} (I : NInv st W M) (h1 : 1 ≤ o) (h8 : o ≤ 8) : NInv st (W.set (st + (o - 1) * 19) 0) (M.put o none) := by
  have := I.len
  have := I.st4
  refine I.step h1 h8 List.length_set (fun j hj => ?_) ?_
  · rw [setD _ _ _ _ (by omega), if_neg (by omega)]
  · show _ = _
    rw [setD _ _ _ _ (by omega), if_pos rfl]
/-- the model's dict -/
def owns (M : RMap) : List Nat := (List.range 8).filterMap fun i => (M (i + 1)).map fun _ => i + 1
theorem ents_owns (M : RMap) : owns M = (ents M 8).map (·.1) := by
  unfold owns ents
  rw [List.map_filterMap]
  congr 1
  funext i
  cases M (i + 1) <;> rfl
theorem owns_mem {M : RMap} {o : Nat} : o ∈ owns M ↔ 1 ≤ o ∧ o ≤ 8 ∧ (M o).isSome = true := by
  unfold owns
  rw [List.mem_filterMap]
  constructor
  · rintro ⟨i, hi, h⟩
    have hi := List.mem_range.mp hi
    cases e : M (i + 1) with
    | none => rw [e] at h; cases h
    | some x => rw [e] at h; cases h; exact ⟨Nat.succ_le_succ (Nat.zero_le _), hi, by show (M (i + 1)).isSome = true; rw [e]; rfl⟩
  · rintro ⟨h1, h8, h⟩
    refine ⟨o - 1, List.mem_range.mpr (by omega), ?_⟩
    rw [show o - 1 + 1 = o by omega]
    obtain ⟨x, e⟩ := Option.isSome_iff_exists.mp h
    rw [e]; rfl
theorem owns_lt (M : RMap) : (owns M).Pairwise (· < ·) := by
  unfold owns
  rw [List.pairwise_filterMap]
  refine List.Pairwise.imp ?_ List.pairwise_lt_range
  intro a b hab x hx y hy
  cases e : M (a + 1) with
  | none => rw [e] at hx; cases hx
  | some u =>
    cases e2 : M (b + 1) with
    | none => rw [e2] at hy; cases hy
    | some v => rw [e] at hx; rw [e2] at hy; cases hx; cases hy; show a + 1 < b + 1; omega
/-- the keys of the dict -/
structure Keys (M : RMap) (ks : List Nat) : Prop where
  nd : ks.Nodup
  mem : ∀ o, o ∈ ks ↔ o ∈ owns M
theorem Keys.perm {M : RMap} {ks : List Nat} (h : Keys M ks) : ks.Perm (owns M) := (List.perm_ext_iff_of_nodup h.nd ((owns_lt M).imp fun h => Nat.ne_of_lt h)).mpr h.mem
theorem Keys.sorted {M : RMap} {ks : List Nat} (h : Keys M ks) {ys : List Int} (hp : ys.Perm (ks.map Int.ofNat)) (hs : ys.Pairwise (· ≤ ·)) : ys = (owns M).map Int.ofNat := by
  refine List.Perm.eq_of_pairwise (le := (· ≤ ·)) (fun a b _ _ h1 h2 => Int.le_antisymm h1 h2) hs ?_ (hp.trans (h.perm.map _))
  rw [List.pairwise_map]
  exact (owns_lt M).imp fun {a b} hab => by show (a : Int) ≤ (b : Int); omega

inductive ND where
  | put (o : Nat) (n : Int) (z : Str)
  | rem (o : Nat)
def ND.vs : ND → List V
  | .put o n z => [.str "put", .int o, .int n, .str z]
  | .rem o => [.str "remove", .int o]
def ND.ok : ND → Prop
  | .put o _ z => 1 ≤ o ∧ o ≤ 8 ∧ NmOk z
  | .rem o => 1 ≤ o ∧ o ≤ 8
def ND.run (st : Nat) (S : CS) : ND → CS × Bool
  | .put o n z => wput S (st + (o - 1) * 19) (nameWs n z)
  | .rem o => writeS S (st + (o - 1) * 19) 0
def sp_law_torn {K : PySem.W.Frag} {mg : Str → Option Value} (T : Txt K mg) : Sp := fun vs H Q _ => ∃ (c l m p : Addr) (st : Nat) (S : CS) (d : ND) (w : Int), vs = [.ref c, .ref m, .ref p, .int w] ∧ CellsAt T.c_Cells H c l S ∧ NmsAt T.c_Names H m c st ∧ H p = some (.tup d.vs) ∧ d.ok ∧ st + 152 ≤ S.words.length ∧
  ∀ H', CellsAt T.c_Cells H' c l ⟨(d.run st ⟨S.words, some w, S.on⟩).1.words, none, true⟩ → Kp [c, l] H H' → Q (.bl (!(d.run st ⟨S.words, some w, S.on⟩).2)) H'
theorem ok_law_torn (T : Txt K mg) : FnOk P w K mg base CX0 3 T.f_law_torn T.d_law_torn ["_law_cells", "_law_names", "_law_deed", "_law_writes"] (sp_law_torn T) := by
  refine T.k_law_torn.ok sc_law_torn (fun vs H Q E h => ?_) (fun cdv A outer s H vs Q E hr h => ?_)
  · obtain ⟨c, l, m, p, st, S, d, w, rfl, _⟩ := h
    rfl
  · obtain ⟨c, l, m, p, st, S, d, w, rfl, hc, hm, hp, hd, hz, q⟩ := h
    refine ⟨_, (pss_cons (ps_expr (pe_meth (pv 0) T.cl_Cells T.me_Cells_cut (ok_Cells_cut T) (hr.mono (by decide)) T.b_Cells_cut .nil pass0 (pa_cons (pv 3) pa_nil)))
      (pss_cons (L2H.ps_try_onlyX rfl rfl ⟨rfl, by decide, .inl T.g_PowerCut⟩ (fun _ => PassesOwnAt.never) takes0 (fun W pn xe tk tk2 po => (pss_one (ps_if (pt_cmpR op_eq (pe_ix (ix_tupK K) (pv 2) pe_int (fun _ _ => rfl)) pe_str (nomark _)) (pss_one (ps_expr (pe_methS (pv 1) T.cl_Names T.me_Names_put (ok_Names_put T) (hr.mono (by decide)) T.b_Names_put (fun σ => L2N.passAt tk σ) (pa_cons (pe_ix (ix_tupK K) (pv 2) pe_int (fun _ _ => rfl)) (pa_cons (pe_ix (ix_tupK K) (pv 2) pe_int (fun _ _ => rfl)) (pa_cons (pe_ix (ix_tupK K) (pv 2) pe_int (fun _ _ => rfl)) pa_nil)))))) (pss_one (ps_expr (pe_methS (pv 1) T.cl_Names T.me_Names_remove (ok_Names_remove T) (hr.mono (by decide)) T.b_Names_remove (fun σ => L2N.passAt tk σ) (pa_cons (pe_ix (ix_tupK K) (pv 2) pe_int (fun _ _ => rfl)) pa_nil))))))) (fun a oe cls d pn hz hf tks hot => (pss_cons (ps_expr (pe_methH0 (pv 0) T.cl_Cells T.me_Cells_restore (okH_Cells_restore T) (L2H.roomH_mark (hr.mono (by decide)) _) hot T.b_Cells_restore passH0))
      (pss_one (ps_ret pe_bl)))))
      (pss_cons (ps_expr (pe_meth0 (pv 0) T.cl_Cells T.me_Cells_restore (ok_Cells_restore T) (hr.mono (by decide)) T.b_Cells_restore .nil pass0))
      (pss_one (ps_ret pe_bl))))), ?_⟩
    obtain ⟨dm, hmo⟩ := id hm
    obtain ⟨dx, hco⟩ := id hc.ob
    walk_at "rd"
    refine rdSeq ?_
    walk_at "rd"
    refine i_meth hco rfl ⟨c, l, S, w, rfl, hc, fun H1 hc1 kp1 => ?_⟩
    have hmn : m ∉ [c, l] := by simp [nms_ne_cells hmo hco, ne_of hmo hc.ws (by intro z; cases z)]
    have hpn : p ∉ [c, l] := by simp [ne_of hp hco (by intro z; cases z), ne_of hp hc.ws (by intro z; cases z)]
    have hm1 := kp1 _ _ hmn hmo
    have hp1 := kp1 _ _ hpn hp
    obtain ⟨dx1, hco1⟩ := id hc1.ob
    have good : ∀ H2, CellsAt T.c_Cells H2 c l (d.run st ⟨S.words, some w, S.on⟩).1 → Kp [c, l] H1 H2 → (d.run st ⟨S.words, some w, S.on⟩).2 = true → ∀ H3, CellsAt T.c_Cells H3 c l ⟨(d.run st ⟨S.words, some w, S.on⟩).1.words, none, true⟩ → Kp [c, l] H2 H3 → Q (.bl false) H3 := fun H2 h2 k2 e H3 h3 k3 => by
      have := q H3 h3 (kp1.trans (k2.trans k3))
      rw [e] at this; exact this
    have bad : ∀ H2, CellsAt T.c_Cells H2 c l (d.run st ⟨S.words, some w, S.on⟩).1 → Kp [c, l] H1 H2 → (d.run st ⟨S.words, some w, S.on⟩).2 = false → ∀ H3, CellsAt T.c_Cells H3 c l ⟨(d.run st ⟨S.words, some w, S.on⟩).1.words, none, true⟩ → Kp [c, l] H2 H3 → Q (.bl true) H3 := fun H2 h2 k2 e H3 h3 k3 => by
      have := q H3 h3 (kp1.trans (k2.trans k3))
      rw [e] at this; exact this
    have sl : (⟨S.words, some w, S.on⟩ : CS).words.length = S.words.length := rfl
    refine rdSeq ?_
    cases d with
    | put o n z =>
      obtain ⟨ho1, ho8, hn⟩ := hd
      have hp1 : H1 p = some (.tup [.str "put", .int o, .int n, .str z]) := hp1
      walk_at "rd"
      refine i_ixT (sqT_of hp1) rfl ?_
      walk_at "rd"
      refine i_meth hm1 rfl (i_ixT (sqT_of hp1) rfl (i_ixT (sqT_of hp1) rfl (i_ixT (sqT_of hp1) rfl ?_)))
      refine ⟨m, c, l, st, o, _, n, z, rfl, ⟨dm, hm1⟩, hc1, ho1, by rw [sl]; omega, hn, fun H2 hc2 kp2 => ⟨fun e => ?_, fun e => ?_⟩⟩
      · obtain ⟨dx2, hco2⟩ := id hc2.ob
        refine rdSeq ?_
        walk_at "rd"
        exact i_meth hco2 rfl ⟨c, l, _, rfl, hc2, fun H3 hc3 kp3 => good H2 hc2 kp2 e H3 hc3 kp3⟩
      · obtain ⟨dx2, hco2⟩ := id hc2.ob
        refine i_catch T.ex_PowerCut_PowerCut fun a na => ?_
        refine rdSeq ?_
        walk_at "rd"
        exact i_meth hco2 rfl ⟨c, l, _, rfl, hc2, fun H3 hc3 kp3 => bad H2 hc2 kp2 e H3 hc3 kp3⟩
    | rem o =>
      obtain ⟨ho1, ho8⟩ := hd
      have hp1 : H1 p = some (.tup [.str "remove", .int o]) := hp1
      walk_at "rd"
      refine i_ixT (sqT_of hp1) rfl ?_
      walk_at "rd"
      refine i_else (by decide) (i_meth hm1 rfl (i_ixT (sqT_of hp1) rfl ?_))
      refine ⟨m, c, l, st, o, _, rfl, ⟨dm, hm1⟩, hc1, ho1, by rw [sl]; omega, fun H2 hc2 kp2 => ⟨fun e => ?_, fun e => ?_⟩⟩
      · obtain ⟨dx2, hco2⟩ := id hc2.ob
        refine rdSeq ?_
        walk_at "rd"
        exact i_meth hco2 rfl ⟨c, l, _, rfl, hc2, fun H3 hc3 kp3 => good H2 hc2 kp2 e H3 hc3 kp3⟩
      · obtain ⟨dx2, hco2⟩ := id hc2.ob
        refine i_catch T.ex_PowerCut_PowerCut fun a na => ?_
        refine rdSeq ?_
        walk_at "rd"
        exact i_meth hco2 rfl ⟨c, l, _, rfl, hc2, fun H3 hc3 kp3 => bad H2 hc2 kp2 e H3 hc3 kp3⟩

def ND.need : ND → Nat
  | .put _ _ z => z.length + 3
  | .rem _ => 1
def ND.own : ND → Nat
  | .put o _ _ => o
  | .rem o => o
def ND.new : ND → Option (Int × Str)
  | .put _ n z => some (n, z)
  | .rem _ => none
theorem ND.run_ok (d : ND) (st : Nat) (W : List Int) (w : Nat) : (d.run st ⟨W, some (w : Int), true⟩).2 = decide (d.need ≤ w) := by
  cases d with
  | put o n z =>
    have lw : (nameWs n z).length = z.length + 2 := by unfold nameWs; rw [List.length_cons, List.length_cons, List.length_map, cl_length]
    have := (wput_cut W (st + (o - 1) * 19) w (nameWs n z)).1
    rw [lw] at this; exact this
  | rem o => exact (write_cut W (st + (o - 1) * 19) w 0).1
theorem ND.run_inv {d : ND} {st : Nat} {W : List Int} {w : Nat} {M : RMap} (I : NInv st W M) (hd : d.ok) (hf : ∀ o n z, d = .put o n z → M o = none) :
    NInv st (d.run st ⟨W, some (w : Int), true⟩).1.words (if d.need ≤ w then M.put d.own d.new else M) := by
  cases d with
  | put o n z =>
    obtain ⟨h1, h8, hz⟩ := hd
    have lw : (nameWs n z).length = z.length + 2 := by unfold nameWs; rw [List.length_cons, List.length_cons, List.length_map, cl_length]
    have e := (wput_cut W (st + (o - 1) * 19) w (nameWs n z)).2
    rw [lw] at e
    show NInv st (wput _ _ _).1.words (if z.length + 3 ≤ w then M.put o (some (n, z)) else M)
    rw [e]
    by_cases h : z.length + 3 ≤ w
    · rw [if_pos h, if_pos (by omega)]; exact I.put h1 h8 hz
    · rw [if_neg h, if_neg (by omega)]; exact I.torn h1 h8 hz (hf _ _ _ rfl)
  | rem o =>
    obtain ⟨h1, h8⟩ := hd
    have e := (write_cut W (st + (o - 1) * 19) w 0).2
    show NInv st (writeS _ _ _).1.words (if 1 ≤ w then M.put o none else M)
    rw [e]
    by_cases h : 1 ≤ w
    · rw [if_pos h, if_pos h]; exact I.rem h1 h8
    · rw [if_neg h, if_neg h]; exact I
theorem valV_drop {κ : Type} [DecidableEq κ] (k j : κ) : ∀ kvs : List (κ × V), valV (dropK kvs k) j = if j = k then none else valV kvs j
  | [] => by
    by_cases e : j = k
    · rw [if_pos e]; rfl
    · rw [if_neg e]; rfl
  | p :: r => by
    by_cases e : p.1 = k
    · rw [dropK_pos e, valV_drop k j r]
      by_cases e2 : j = k
      · rw [if_pos e2, if_pos e2]
      · rw [if_neg e2, if_neg e2, valV_neg (by rw [e]; exact Ne.symm e2)]
    · rw [dropK_neg e]
      by_cases e2 : p.1 = j
      · rw [valV_pos e2, valV_pos e2, if_neg (by rw [← e2]; exact e)]
      · rw [valV_neg e2, valV_neg e2, valV_drop k j r]
def nk (o : Nat) : Key := .inl (o : Int)
theorem nk_inj {a b : Nat} : nk a = nk b ↔ a = b := ⟨fun h => by have := Sum.inl.inj h; omega, fun h => by rw [h]⟩
/-- the model's dict stands at p -/
inductive Mdl (H : Hp) (p : Addr) (M : RMap) : Prop
  | mk (kvs : List (Key × V)) (ks : List Nat) (at_ : H p = some (.dK kvs)) (kk : kvs.map (·.1) = ks.map nk) (ok : Keys M ks)
      (val : ∀ o, o ∈ ks → ∃ r n z, M o = some (n, z) ∧ valV kvs (nk o) = some (.ref r) ∧ H r = some (.tup [.int o, .int n, .str z])) : Mdl H p M
theorem Keys.in {M : RMap} {ks : List Nat} (h : Keys M ks) {o : Nat} (h1 : 1 ≤ o) (h8 : o ≤ 8) : o ∈ ks ↔ (M o).isSome = true := by
  rw [h.mem, owns_mem]
  exact ⟨fun h => h.2.2, fun h => ⟨h1, h8, h⟩⟩
theorem Keys.lt {M : RMap} {ks : List Nat} (h : Keys M ks) : ks.length ≤ 8 := by
  rw [h.perm.length_eq]
  exact Nat.le_trans (List.length_filterMap_le _ _) (by rw [List.length_range]; exact Nat.le_refl _)
theorem vin {kvs : List (Key × V)} {ks : List Nat} (kk : kvs.map (·.1) = ks.map nk) (o : Nat) : (valV kvs (nk o)).isSome = true ↔ o ∈ ks := by
  constructor
  · intro h
    obtain ⟨v, e⟩ := Option.isSome_iff_exists.mp h
    have := valV_in e
    rw [kk] at this
    obtain ⟨a, ha, e⟩ := List.mem_map.mp this
    rw [← nk_inj.mp e]; exact ha
  · intro h
    cases e : valV kvs (nk o) with
    | some v => rfl
    | none =>
      have := valV_not e
      rw [kk] at this
      exact absurd (List.mem_map.mpr ⟨o, h, rfl⟩) this
theorem Mdl.keep {H H' : Hp} {p : Addr} {M : RMap} {X : List Addr} (m : Mdl H p M) (k : Kp X H H') (hp : ∀ kvs, H p = some (.dK kvs) → p ∉ X) (hr : ∀ r xs, H r = some (.tup xs) → r ∉ X) : Mdl H' p M := by
  obtain ⟨kvs, ks, h, kk, ok, val⟩ := m
  refine ⟨kvs, ks, k _ _ (hp _ h) h, kk, ok, fun o ho => ?_⟩
  obtain ⟨r, n, z, e1, e2, e3⟩ := val o ho
  exact ⟨r, n, z, e1, e2, k _ _ (hr _ _ e3) e3⟩
theorem Mdl.same {H H' : Hp} {p : Addr} {M : RMap} (m : Mdl H p M) (s : Same H H') : Mdl H' p M := m.keep (Kp.of s (X := [])) (fun _ _ => by simp) (fun _ _ _ => by simp)
theorem Mdl.put {H : Hp} {p t : Addr} {M : RMap} {o : Nat} {n : Int} {z : Str} {kvs : List (Key × V)} {ks : List Nat} (h : H p = some (.dK kvs)) (kk : kvs.map (·.1) = ks.map nk) (ok : Keys M ks)
    (val : ∀ o, o ∈ ks → ∃ r n z, M o = some (n, z) ∧ valV kvs (nk o) = some (.ref r) ∧ H r = some (.tup [.int o, .int n, .str z])) (h1 : 1 ≤ o) (h8 : o ≤ 8) (e : M o = none) (ht : H t = some (.tup [.int o, .int n, .str z])) :
    Mdl (upd H p (.dK (putK kvs (nk o) (.ref t)))) p (M.put o (some (n, z))) := by
  have no : o ∉ ks := fun h => by rw [ok.in h1 h8, e] at h; cases h
  have nv : valV kvs (nk o) = none := by
    cases ev : valV kvs (nk o) with
    | none => rfl
    | some v => exact absurd ((vin kk o).mp (by rw [ev]; rfl)) no
  have ep : putK kvs (nk o) (.ref t) = kvs ++ [(nk o, .ref t)] := by
    unfold putK
    rw [valV_any, nv]; rfl
  have tp : ∀ {r : Addr} {xs : List V}, H r = some (.tup xs) → upd H p (.dK (putK kvs (nk o) (.ref t))) r = some (.tup xs) := fun {r xs} e => by
    rw [upd_ne (ne_of e h (by intro z; cases z))]; exact e
  refine ⟨_, ks ++ [o], upd_same, by rw [ep, List.map_append, List.map_append, kk]; rfl, ⟨?_, fun q => ?_⟩, fun q hq => ?_⟩
  · rw [List.nodup_append]
    exact ⟨ok.nd, by simp, fun a ha b hb e2 => by rw [List.mem_singleton.mp hb] at e2; rw [e2] at ha; exact no ha⟩
  · rw [List.mem_append, List.mem_singleton, ok.mem, owns_mem, owns_mem]
    show _ ↔ 1 ≤ q ∧ q ≤ 8 ∧ (if q = o then some (n, z) else M q).isSome = true
    by_cases eq : q = o
    · rw [if_pos eq]; exact ⟨fun _ => ⟨by omega, by omega, rfl⟩, fun _ => .inr eq⟩
    · rw [if_neg eq]; exact ⟨fun h => h.resolve_right eq, fun h => .inl h⟩
  · show ∃ r n' z', (if q = o then some (n, z) else M q) = some (n', z') ∧ _
    by_cases eq : q = o
    · subst eq
      exact ⟨t, n, z, if_pos rfl, by rw [valV_put, if_pos rfl], tp ht⟩
    · have hq := (List.mem_append.mp hq).resolve_right (by simpa using eq)
      obtain ⟨r, n', z', e1, e2, e3⟩ := val q hq
      exact ⟨r, n', z', by rw [if_neg eq]; exact e1, by rw [valV_put, if_neg (by rw [nk_inj]; exact eq)]; exact e2, tp e3⟩
theorem Mdl.drop {H : Hp} {p : Addr} {M : RMap} {o : Nat} {kvs : List (Key × V)} {ks : List Nat} (h : H p = some (.dK kvs)) (kk : kvs.map (·.1) = ks.map nk) (ok : Keys M ks)
    (val : ∀ o, o ∈ ks → ∃ r n z, M o = some (n, z) ∧ valV kvs (nk o) = some (.ref r) ∧ H r = some (.tup [.int o, .int n, .str z])) :
    Mdl (upd H p (.dK (dropK kvs (nk o)))) p (M.put o none) := by
  have tp : ∀ {r : Addr} {xs : List V}, H r = some (.tup xs) → upd H p (.dK (dropK kvs (nk o))) r = some (.tup xs) := fun {r xs} e => by
    rw [upd_ne (ne_of e h (by intro z; cases z))]; exact e
  have hf : (dropK kvs (nk o)).map (·.1) = (ks.filter fun a => decide (a ≠ o)).map nk := by
    have e1 : (dropK kvs (nk o)).map (·.1) = (kvs.map (·.1)).filter fun a => decide (a ≠ nk o) := by
      unfold dropK
      rw [List.filter_map]; rfl
    rw [e1, kk, List.filter_map]
    congr 1
    apply List.filter_congr
    intro a _
    show decide (nk a ≠ nk o) = decide (a ≠ o)
    exact decide_eq_decide.mpr (not_congr nk_inj)
  refine ⟨_, ks.filter fun a => decide (a ≠ o), upd_same, hf, ⟨ok.nd.sublist List.filter_sublist, fun q => ?_⟩, fun q hq => ?_⟩
  · rw [List.mem_filter, ok.mem, owns_mem, owns_mem]
    show _ ↔ 1 ≤ q ∧ q ≤ 8 ∧ (if q = o then none else M q).isSome = true
    by_cases eq : q = o
    · rw [if_pos eq]; exact ⟨fun h => absurd eq (of_decide_eq_true h.2), fun h => by cases h.2.2⟩
    · rw [if_neg eq]; exact ⟨fun h => h.1, fun h => ⟨h, decide_eq_true eq⟩⟩
  · obtain ⟨hq1, hq2⟩ := List.mem_filter.mp hq
    have eq : ¬ q = o := of_decide_eq_true hq2
    obtain ⟨r, n', z', e1, e2, e3⟩ := val q hq1
    refine ⟨r, n', z', ?_, by rw [valV_drop, if_neg (by rw [nk_inj]; exact eq)]; exact e2, tp e3⟩
    show (if q = o then none else M q) = _
    rw [if_neg eq]; exact e1
def eD (e : Nat × Int × Str) : PyData := .tuple [.int e.1, .int e.2.1, .str e.2.2]
theorem chs_small : (CHS.cps.toList.all fun c => decide (c < 0x110000)) = true := by decide +kernel
theorem nm_strOk {z : Str} (h : NmOk z) : PyData.strOk z = true := by
  unfold PyData.strOk
  rw [← Array.all_toList, List.all_eq_true]
  intro c hc
  exact List.all_eq_true.mp chs_small c (h.2.2 c hc)
theorem ents_lay : ∀ es : List (Nat × Int × Str), (∀ e ∈ es, PyData.strOk e.2.2 = true) → PyData.canLayAll0 (es.map eD) = true ∧ PyData.depthAll (es.map eD) ≤ 3
  | [], _ => by simp [PyData.canLayAll0, PyData.depthAll]
  | e :: es, h => by
    have ih := ents_lay es fun e he => h e (List.mem_cons_of_mem _ he)
    have h0 := h e List.mem_cons_self
    simp [PyData.canLayAll0, PyData.depthAll, PyData.canLay0, PyData.depth, eD, ih.1, h0]
    omega
theorem ents_shaped (es : List (Nat × Int × Str)) (h : ∀ e ∈ es, PyData.strOk e.2.2 = true) : SeqAt.shaped (.list (es.map eD)) = true := by
  have h := ents_lay es h
  have h2 := h.2
  unfold SeqAt.shaped
  rw [show PyData.canLay0 (.list (es.map eD)) = true from h.1, Bool.true_and, decide_eq_true_eq]
  simp only [PyData.depth]
  omega
theorem dp_ents {K : PySem.W.Frag} {H : Hp} : ∀ (vs : List V) (es : List (Nat × Int × Str)), vs.length = es.length → (∀ (i : Nat) (v : V) (e : Nat × Int × Str), vs[i]? = some v → es[i]? = some e → ∃ r, v = .ref r ∧ H r = some (.tup [.int e.1, .int e.2.1, .str e.2.2])) → DpAll K H vs (es.map eD)
  | [], [], _, _ => .nil
  | v :: vs, e :: es, hl, h => by
    obtain ⟨r, rfl, hr⟩ := h 0 v e rfl rfl
    exact .cons (.tup (sqT_of hr) (.cons (.int _) (.cons (.int _) (.cons (.str _) .nil)))) (dp_ents vs es (Nat.succ.inj hl) fun i v e h1 h2 => h (i + 1) v e h1 h2)
theorem ents_some {M : RMap} {i : Nat} {e : Nat × Int × Str} (h : (ents M 8)[i]? = some e) : M e.1 = some e.2 ∧ (owns M)[i]? = some e.1 := by
  refine ⟨?_, by rw [ents_owns, List.getElem?_map, h]; rfl⟩
  have hm := List.mem_of_getElem? h
  obtain ⟨j, _, hj⟩ := List.mem_filterMap.mp hm
  cases em : M (j + 1) with
  | none => rw [em] at hj; cases hj
  | some x => rw [em] at hj; cases hj; exact em
theorem i_dgetI {H : Hp} {a : Addr} {kvs : List (Key × V)} {k : Int} {v : V} {Q : VK} (h : H a = some (.dK kvs)) (e : valV kvs (.inl k) = some v) (q : Q v H) : rDGet (.ref a) (.int k) H Q := ⟨a, v, rfl, by rw [← e]; exact DGet.k (k := .inl k) h, q⟩
theorem i_dputI {H : Hp} {a : Addr} {kvs : List (Key × V)} {k : Int} {v : V} {Q : Hp → Prop} (h : H a = some (.dK kvs)) (hl : kvs.length < sizeLine) (q : Q (upd H a (.dK (putK kvs (.inl k) v)))) : rDPut (.ref a) (.int k) v H Q := ⟨a, _, rfl, DPut.k (k := .inl k) h hl, q⟩
theorem ninv0 {st : Nat} {W : List Int} (hl : W.length = 162) (h4 : st ≤ 4) (h : ∀ j, j < 162 → W.getD j 0 = if j < st ∨ st + 152 ≤ j then 77 else 0) : NInv st W fun _ => none := by
  refine ⟨hl, h4, fun j hj ho => by rw [h j hj, if_pos ho], fun o h1 h8 => ?_⟩
  show W.getD (st + (o - 1) * 19) 0 = 0
  rw [h _ (by omega), if_neg (by omega)]
theorem mdl0 {H : Hp} {p : Addr} (h : H p = some (.dK [])) : Mdl H p fun _ => none :=
  ⟨[], [], h, rfl, ⟨List.nodup_nil, fun o => ⟨(fun h => nomatch h), fun h => by have := (owns_mem.mp h).2.2; cases this⟩⟩, fun o h => nomatch h⟩
theorem pow6 : CPow 10 6 := ⟨by decide, by decide, by decide⟩
theorem kb_ll : kitB "list" "list" = some true := by decide +kernel
def ND.m4 (d : ND) (w : Nat) (M : RMap) : RMap := match d with
  | .put o n z => if z.length + 3 ≤ w then M.put o (some (n, z)) else M
  | .rem _ => M
def ND.m5 (d : ND) (w : Nat) (M : RMap) : RMap := if d.need ≤ w then M.put d.own d.new else M
inductive LI (CC CN : Addr) (c l m pm pd : Addr) (st : Nat) (ms : List Int) (H : Hp) (W : List Int) (M : RMap) : Prop
  | mk (I : NInv st W M) (hc : CellsAt CC H c l ⟨W, none, true⟩) (hm : NmsAt CN H m c st) (hd : Mdl H pm M) (hp : H pd = some (.lst (ms.map V.int)))
theorem LI.same {CC CN c l m pm pd : Addr} {st : Nat} {ms : List Int} {H H' : Hp} {W : List Int} {M : RMap} (h : LI CC CN c l m pm pd st ms H W M) (s : Same H H') : LI CC CN c l m pm pd st ms H' W M := by
  obtain ⟨I, hc, hm, hd, hp⟩ := h
  exact ⟨I, hc.keep (Kp.of s (X := [])) (by simp) (by simp), hm.keep (Kp.of s (X := [])) (by simp), hd.same s, s _ _ hp⟩
inductive MidA (H2 : Hp) (M : RMap) (o : Nat) (g : Addr → L2.St) (σ : L2.St) (H' : Hp) : Prop
  | mk (t : Addr) (d : ND) (s : Same H2 H') (ht : H' t = some (.tup d.vs)) (ok : d.ok) (own : d.own = o) (fr : ∀ o n z, d = .put o n z → M o = none) (es : σ = g t)
inductive MidW (H2 : Hp) (g : V → L2.St) (σ : L2.St) (H' : Hp) : Prop
  | mk (w : Nat) (s : H' = H2) (es : σ = g (.int (w : Int)))
inductive MidM (CC CN : Addr) (c l m pm pd : Addr) (st : Nat) (ms : List Int) (W : List Int) (Mi Md : RMap) (t : Addr) (d : ND) (σ0 : L2.St) (σ : L2.St) (H : Hp) : Prop
  | mk (I : NInv st W Mi) (hc : CellsAt CC H c l ⟨W, none, true⟩) (hm : NmsAt CN H m c st) (hd : Mdl H pm Md) (hp : H pd = some (.lst (ms.map V.int))) (ht : H t = some (.tup d.vs)) (es : σ = σ0)
def sp_law (K : PySem.W.Frag) : Sp := fun vs H Q _ => ∃ (a : Addr) (ns : List Int), vs = [.ref a] ∧ SqL K H a (ns.map V.int) ∧ ns.length ≤ 63 ∧ ∀ H', Q (.bl true) H'
theorem ok_law (T : Txt K mg) : FnOk P w K mg base CX0 4 T.f_law T.d_law ["_law_script"] (sp_law K) := by
  refine T.k_law.ok sc_law (fun vs H Q E h => ?_) (fun cdv A outer s H vs Q E hr h => ?_)
  · obtain ⟨a, ns, rfl, _⟩ := h
    rfl
  · obtain ⟨a, ns', rfl, hS, hl', q⟩ := h
    refine ⟨_, (pss_cons (ps_set (i := 1) sc_law.nd rfl (.inl rfl) (pe_op op_modP (pe_callB (lenLK K) (by rfl) T.m_len (by decide +kernel) (pa_cons (pv 0) pa_nil)) pe_int))
      (pss_cons (ps_set (i := 2) sc_law.nd rfl (.inl rfl) (pe_make T.mk_Cells (ok_Cells_init T) (hr.mono (by decide)) (by rfl) T.g_Cells T.b_Cells_init .nil pass0 (pa_cons (pe_op op_add (pe_glob (v := .int _) rfl T.g_NAMES_CELLS ⟨_, rfl⟩) pe_int) pa_nil)))
      (pss_cons (ps_for PassesOwn.never rfl (pi_range1 (by rfl) T.m_range (pa_cons (pe_op op_add (pe_glob (v := .int _) rfl T.g_NAMES_CELLS ⟨_, rfl⟩) pe_int) pa_nil)) (pg_name (i := 3) sc_law.nd rfl (Or.inl rfl)) (pss_one (ps_if (PW.pt (pw_or (pt_cmpR op_lt (pv 3) (pv 1) (nomark _)) (pw_or1 (pt_cmpR op_ge (pv 3) (pe_op op_add (pv 1) (pe_glob (v := .int _) rfl T.g_NAMES_CELLS ⟨_, rfl⟩)) (nomark _))))) (pss_one (ps_expr (pe_meth (pv 2) T.cl_Cells T.me_Cells_write (ok_Cells_write T) (hr.mono (by decide)) T.b_Cells_write .nil passNL (pa_cons (pv 3) (pa_cons pe_int pa_nil))))) pss_nil)))
      (pss_cons (ps_set (i := 4) sc_law.nd rfl (.inl rfl) (pe_make T.mk_Names (ok_Names_init T) (hr.mono (by decide)) (by rfl) T.g_Names T.b_Names_init .nil pass0 (pa_cons (pv 2) (pa_cons (pv 1) pa_nil))))
      (pss_cons (ps_set (i := 5) sc_law.nd rfl (.inr rfl) pe_dnewK)
      (pss_cons (ps_for PassesOwn.never rfl (pi_list (pe_call (ok_law_draws T) (hr.mono (by decide)) (by rfl) T.g_law_draws T.k_law_draws.kp T.b_law_draws .nil pass0 (pa_cons (pv 0) (pa_cons pe_int (pa_cons pe_int pa_nil))))) (pg_name (i := 6) sc_law.nd rfl (Or.inl rfl)) (pss_cons (ps_set (i := 7) sc_law.nd rfl (.inl rfl) (pe_op op_add pe_int (pe_op op_modP (pv 6) pe_int)))
      (pss_cons (ps_set (i := 8) sc_law.nd rfl (.inl rfl) (pe_op op_fdivW (pv 6) pe_int))
      (pss_cons (ps_set (i := 9) sc_law.nd rfl (.inl rfl) (pe_tup (pa_cons pe_str (pa_cons (pv 7) (pa_cons (pe_op op_add pe_int (pe_op op_modP (pv 8) pe_int)) (pa_cons (pe_call (ok_law_name T) (hr.mono (by decide)) (by rfl) T.g_law_name T.k_law_name.kp T.b_law_name .nil pass0 (pa_cons (pe_op op_fdivW (pv 8) pe_int) pa_nil)) pa_nil))))))
      (C8.pss_cut (ps_if (PW.pt (pw_or (pt_cmpR op_eq (pe_op op_modP (pv 8) pe_int) pe_int (nomark _)) (pw_or1 (pt_cmp (pc_din (hu_of hr) (pv 7) (pv 5)) rfl)))) (pss_one (ps_set (i := 9) sc_law.nd rfl (.inl rfl) (pe_tup (pa_cons pe_str (pa_cons (pv 7) pa_nil))))) pss_nil)
      (pss_cons (ps_set (i := 10) sc_law.nd rfl (.inl rfl) (pe_op op_pow pe_int pe_int))
      (C8.pss_cut (ps_if (pt_cmpR op_eq (pe_op op_modP (pe_op op_fdivW (pv 8) pe_int) pe_int) pe_int (nomark _)) (pss_one (ps_set (i := 10) sc_law.nd rfl (.inl rfl) (pe_op op_modP (pe_op op_fdivW (pv 8) pe_int) pe_int))) pss_nil)
      (pss_cons (ps_set (i := 11) sc_law.nd rfl (.inl rfl) (pe_cmpR op_ge (pv 10) pe_int (nomark _)))
      (C8.pss_cut (ps_if (pt_cmpR op_eq (pe_ix (ix_tupK K) (pv 9) pe_int (fun _ _ => rfl)) pe_str (nomark _)) (pss_one (ps_set (i := 11) sc_law.nd rfl (.inl rfl) (pe_cmpR op_ge (pv 10) (pe_op op_add pe_int (pe_callB call_lenS (by rfl) T.m_len (by decide +kernel) (pa_cons (pe_ix (ix_tupK K) (pv 9) pe_int (fun _ _ => rfl)) pa_nil))) (nomark _)))) pss_nil)
      (pss_cons (ps_if (pt_cmpR op_eq (pe_call (ok_law_torn T) (hr.mono (by decide)) (by rfl) T.g_law_torn T.k_law_torn.kp T.b_law_torn .nil pass0 (pa_cons (pv 2) (pa_cons (pv 4) (pa_cons (pv 9) (pa_cons (pv 10) pa_nil))))) (pv 11) (nomark _)) (pss_one (ps_ret pe_bl)) pss_nil)
      (C8.pss_cut (ps_if (PW.pt (pw_and (pt_val (pv 11)) (pw_and1 (pt_cmpR op_eq (pe_ix (ix_tupK K) (pv 9) pe_int (fun _ _ => rfl)) pe_str (nomark _))))) (pss_one (ps_dput (hu_of hr) (pv 5) (pv 7) (pe_tup (pa_cons (pv 7) (pa_cons (pe_ix (ix_tupK K) (pv 9) pe_int (fun _ _ => rfl)) (pa_cons (pe_ix (ix_tupK K) (pv 9) pe_int (fun _ _ => rfl)) pa_nil)))) rfl)) pss_nil)
      (C8.pss_cut (ps_if (PW.pt (pw_and (pt_val (pv 11)) (pw_and1 (pt_cmpR op_eq (pe_ix (ix_tupK K) (pv 9) pe_int (fun _ _ => rfl)) pe_str (nomark _))))) (pss_one (ps_expr (pe_dpop2 (pv 5) (pv 7) pe_non ⟨rfl, rfl, rfl, rfl⟩))) pss_nil)
      (pss_cons (ps_set (i := 12) sc_law.nd rfl (.inl rfl) (pe_meth0 (pv 4) T.cl_Names T.me_Names_rows (ok_Names_rows T) (hr.mono (by decide)) T.b_Names_rows .nil pass0))
      (pss_one (ps_if (PW.pt (pw_or (pt_not (pt_val (pe_callB (isiK K) (by rfl) T.m_isinstance (by decide +kernel) (pa_cons (pv 12) (pa_cons (pe_bltn (v := .ty "list") (by rfl) T.m_list (by decide +kernel) rfl) pa_nil))))) (pw_or1 (pt_cmpR (op_neD hr.units) (pv 12) (pe_lc (own := [("_law_one", 14)]) (g := gName 14) (tt := tYes) rfl sc_law.nd (pi_list (pe_callB (cr_sortedDI rfl) (by rfl) T.m_sorted (by decide +kernel) (pa_cons (pv 5) pa_nil))) (blkOk_by (own := [("_law_one", 14)]) (N := ["_law_script", "_law_start", "_law_cells", "_law_place", "_law_names", "_law_model", "_law_draw", "_law_owner", "_law_rest", "_law_deed", "_law_writes", "_law_done", "_law_rows", "_law_due", "_law_one"]) (sc := defScope s_law) (by decide +kernel)) (fun _ _ _ _ _ => pg_name (i := 14) sc_law.nd rfl (Or.inl rfl)) (fun _ _ _ _ _ => pts_nil) (fun _ _ _ _ _ => (pe_dget (hu_of hr) (pv 5) (pv 14) (fun _ _ => rfl)))) (nomark _))))) (pss_one (ps_ret pe_bl)) pss_nil)))))))))))))))
      (pss_cons (ps_for PassesOwn.never rfl (pi_range1 (by rfl) T.m_range (pa_cons (pe_op op_add (pe_glob (v := .int _) rfl T.g_NAMES_CELLS ⟨_, rfl⟩) pe_int) pa_nil)) (pg_name (i := 3) sc_law.nd rfl (Or.inl rfl)) (pss_one (ps_if (PW.pt (pw_and (PW.pt (pw_or (pt_cmpR op_lt (pv 3) (pv 1) (nomark _)) (pw_or1 (pt_cmpR op_ge (pv 3) (pe_op op_add (pv 1) (pe_glob (v := .int _) rfl T.g_NAMES_CELLS ⟨_, rfl⟩)) (nomark _))))) (pw_and1 (pt_cmpR op_ne (pe_meth (pv 2) T.cl_Cells T.me_Cells_read (ok_Cells_read T) (hr.mono (by decide)) T.b_Cells_read .nil passNL (pa_cons (pv 3) pa_nil)) pe_int (nomark _))))) (pss_one (ps_ret pe_bl)) pss_nil)))
      (pss_cons (ps_set (i := 13) sc_law.nd rfl (.inl rfl) (pe_joinR pe_str (pe_lst (pa_cons pe_str (pa_cons pe_str (pa_cons pe_str pa_nil))))))
      (pss_one (ps_ret (pe_and (pe_cmpR op_eq (pe_glob (v := .int _) rfl T.g_NAMES_CELLS ⟨_, rfl⟩) pe_int (nomark _)) (pe_one (pe_cmpR op_eq (pe_glob (v := .str _) rfl T.g_CHARACTERS ⟨_, rfl⟩) (pv 13) (nomark _)))))))))))))), ?_⟩
    walk_at "rd"
    refine rdSeq ?_
    walk_at "rd"
    refine i_lenL hS ?_
    rw [List.length_map]
    obtain ⟨st, en, hn⟩ : ∃ n : Nat, (ns'.length : Int) % 5 = (n : Int) ∧ n ≤ 4 := ⟨((ns'.length : Int) % 5).toNat, by omega, by omega⟩
    walk_at "rd"
    rw [en]
    refine rdSeq ?_
    walk_at "rd"
    intro c dx hc hdx ndx
    have s0 : Same H (upd (upd H dx (.own c)) c (.ins T.c_Cells dx [])) := (same_new hdx).trans (same_new (by rw [upd_ne (Ne.symm ndx)]; exact hc))
    refine ⟨c, dx, 162, rfl, upd_same, by omega, fun H1 l hC hl kp1 => ⟨rfl, rdSeq ?_⟩⟩
    have s1 : Same H H1 := kp1.same s0 (by simp [hc])
    walk_at "rd"
    refine ⟨by decide, by decide, i_for walk_range (fun i σ H' => (∃ W : List Int, CellsAt T.c_Cells H' c l ⟨W, none, true⟩ ∧ W.length = 162 ∧ ∀ j, j < 162 → W.getD j 0 = if j < i ∧ (j < st ∨ st + 152 ≤ j) then 77 else 0) ∧ Kp [c, l] H1 H' ∧ ∃ y3, σ = [some (.ref a), some (.int (st : Int)), some (.ref c), y3, none, none, none, none, none, none, none, none, none, none, none])
      ⟨⟨List.replicate 162 0, hC, by simp, fun j hj => by rw [if_neg (by omega), List.getD_eq_getElem?_getD, List.getElem?_replicate, if_pos hj]; rfl⟩, Kp.refl _ _, none, rfl⟩ (fun _ _ _ _ _ => trivial) ?_ ?_⟩
    · rintro i _ σ _ H2 hi ⟨⟨W, hc2, hlen, hW⟩, kp2, y3, rfl⟩ ⟨rfl, rfl⟩
      have hi : i < 162 := hi
      walk_at "rd"
      have wr : (i < st ∨ st + 152 ≤ i) → rMeth T.c_Cells (Str.ofString "write") (sp_Cells_write T) E0 (fun k H => k [V.int (0 + (i : Int)), V.int 77] H) (V.ref c) H2 fun x H1_1 =>
          (∃ W : List Int, CellsAt T.c_Cells H1_1 c l ⟨W, none, true⟩ ∧ W.length = 162 ∧ ∀ (j : Nat), j < 162 → W.getD j 0 = if j < i + 1 ∧ (j < st ∨ st + 152 ≤ j) then 77 else 0) ∧ Kp [c, l] H1 H1_1 := fun ho => by
        obtain ⟨dx2, hco2⟩ := id hc2.ob
        refine i_meth hco2 rfl ⟨c, l, ⟨W, none, true⟩, i, 77, by rw [Int.zero_add], hc2, by show i < W.length; omega, fun H3 hc3 kp3 => ⟨fun _ => ⟨⟨W.set i 77, hc3, by rw [List.length_set]; exact hlen, fun j hj => ?_⟩, kp2.trans kp3⟩, fun e => nomatch e⟩⟩
        rw [setD _ _ _ _ (by omega), hW j hj]
        by_cases ej : j = i
        · rw [if_pos ej, if_pos (by omega)]
        · rw [if_neg ej]
          by_cases e2 : j < i ∧ (j < st ∨ st + 152 ≤ j)
          · rw [if_pos e2, if_pos (by omega)]
          · rw [if_neg e2, if_neg (by omega)]
      refine ite2 (fun e => wr (by omega)) (fun e => ite2 (fun e2 => wr (by omega)) (fun e2 => ⟨⟨W, hc2, hlen, fun j hj => ?_⟩, kp2⟩))
      rw [hW j hj]
      by_cases e3 : j < i ∧ (j < st ∨ st + 152 ≤ j)
      · rw [if_pos e3, if_pos (by omega)]
      · rw [if_neg e3, if_neg (by omega)]
    rintro σ H2 ⟨⟨W, hc2, hlen, hW⟩, kp2, y3, rfl⟩
    have I0 := ninv0 hlen hn fun j hj => by
      rw [hW j hj]
      by_cases e : j < st ∨ st + 152 ≤ j
      · rw [if_pos e, if_pos ⟨by omega, e⟩]
      · rw [if_neg e, if_neg (fun h => e h.2)]
    dsimp only
    refine rdSeq ?_
    walk_at "rd"
    intro m dm hmn hdm ndm
    have sA : Same H2 (upd (upd H2 dm (.own m)) m (.ins T.c_Names dm [])) := (same_new hdm).trans (same_new (by rw [upd_ne (Ne.symm ndm)]; exact hmn))
    refine ⟨m, dm, c, st, rfl, upd_same, fun H3 hM kp3 => ⟨rfl, rdSeq ?_⟩⟩
    have s3 : Same H2 H3 := kp3.same sA (by simp [hmn])
    have hc3 := hc2.keep (Kp.of s3 (X := [])) (by simp) (by simp)
    have hS3 : SqL K H3 a (ns'.map V.int) := by
      obtain ⟨dx1, hco1⟩ := id hC.ob
      rcases hS with h | h
      · rcases h with h | ⟨o, h⟩
        · exact .inl (.inl (s3 _ _ (kp2 _ _ (by simp [ne_of (s1 _ _ h) hco1 (by intro z; cases z), ne_of_none (s0 _ _ h) hl]) (s1 _ _ h))))
        · exact .inl (.inr ⟨o, s3 _ _ (kp2 _ _ (by simp [ne_of (s1 _ _ h) hco1 (by intro z; cases z), ne_of_none (s0 _ _ h) hl]) (s1 _ _ h))⟩)
      · exact .inr h
    walk_at "rd"
    intro pm hpm
    have hM4 : NmsAt T.c_Names (upd H3 pm (.dK [])) m c st := hM.keep (Kp.new hpm (X := [])) (by simp)
    have hc4 := hc3.keep (Kp.new (o := .dK []) hpm (X := [])) (by simp) (by simp)
    refine rdSeq ?_
    walk_at "rd"
    refine ⟨a, ns', 30, rfl, (same_new hpm).seq hS3, hl', fun pd H4 ms nw hmm => ?_⟩
    have npl : pd ≠ l := (ne_of_none hc4.ws nw.free).symm
    have hL4 : LI T.c_Cells T.c_Names c l m pm pd st ms H4 W fun _ => none :=
      ⟨I0, hc4.keep (Kp.of nw.same (X := [])) (by simp) (by simp), hM4.keep (Kp.of nw.same (X := [])) (by simp), mdl0 (nw.same _ _ upd_same), nw.at_⟩
    walk_at "rd"
    refine ⟨⟨_, nw.sq⟩, ?_⟩
    refine i_for (walk_listL (l := ms) (r := V.int)) (fun _ σ H' => (∃ W M, LI T.c_Cells T.c_Names c l m pm pd st ms H' W M) ∧ ∃ y6 y7 y8 y9 y10 y11 y12, σ = [some (.ref a), some (.int (st : Int)), some (.ref c), y3, some (.ref m), some (.ref pm), y6, y7, y8, y9, y10, y11, y12, none, none])
      ⟨⟨_, _, hL4⟩, _, _, _, _, _, _, _, rfl⟩ (fun i σ H' _ h => by obtain ⟨⟨_, _, h⟩, _⟩ := h; exact sqL_of h.5) ?_ ?_
    · rintro i _ σ _ H5 hi ⟨⟨W, M, hL5⟩, y6, y7, y8, y9, y10, y11, y12, rfl⟩ ⟨rfl, x, hx, rfl⟩
      refine rdSeq ?_
      walk_at "rd"
      obtain ⟨o, eo, ho1, ho8⟩ : ∃ o : Nat, 1 + x % 8 = (o : Int) ∧ 1 ≤ o ∧ o ≤ 8 := ⟨(1 + x % 8).toNat, by omega, by omega, by omega⟩
      rw [eo]
      refine rdSeq ?_
      walk_at "rd"
      refine ⟨⟨by decide, by decide⟩, ?_⟩
      refine rdSeq ?_
      walk_at "rd"
      refine ⟨⟨by decide, by decide⟩, x / 8 / 60, rfl, fun H6 z s6 hz t ht => ?_⟩
      have hL6 := hL5.same (s6.trans (same_new (o := .tup (ND.put o (1 + x / 8 % 60) z).vs) ht))
      have s56 : Same H5 (upd H6 t (.tup (ND.put o (1 + x / 8 % 60) z).vs)) := s6.trans (same_new ht)
      have ht6 : upd H6 t (.tup (ND.put o (1 + x / 8 % 60) z).vs) t = some (.tup (ND.put o (1 + x / 8 % 60) z).vs) := upd_same
      have eH : upd H6 t (.tup [V.str "put", V.int o, V.int (1 + x / 8 % 60), V.str z]) = upd H6 t (.tup (ND.put o (1 + x / 8 % 60) z).vs) := rfl
      rw [eH]
      generalize upd H6 t (.tup (ND.put o (1 + x / 8 % 60) z).vs) = H7 at hL6 s56 ht6
      refine rdCut (MidA H5 M o (fun t => [some (.ref a), some (.int (st : Int)), some (.ref c), y3, some (.ref m), some (.ref pm), some (.int x), some (.int (o : Int)), some (.int (x / 8)), some (.ref t), y10, y11, y12, none, none])) ?_ ?_
      · have rm : ∀ r, H7 r = none → MidA H5 M o (fun t => [some (.ref a), some (.int (st : Int)), some (.ref c), y3, some (.ref m), some (.ref pm), some (.int x), some (.int (o : Int)), some (.int (x / 8)), some (.ref t), y10, y11, y12, none, none])
            [some (.ref a), some (.int (st : Int)), some (.ref c), y3, some (.ref m), some (.ref pm), some (.int x), some (.int (o : Int)), some (.int (x / 8)), some (.ref r), y10, y11, y12, none, none] (upd H7 r (.tup (ND.rem o).vs)) := fun r hr =>
          ⟨r, .rem o, s56.trans (same_new hr), upd_same, ⟨ho1, ho8⟩, rfl, (fun _ _ _ e => nomatch e), rfl⟩
        walk_at "rd"
        refine ite2 (fun _ => rm) (fun _ => ?_)
        obtain ⟨kvs, ks, hd, kk, ok, val⟩ := hL6.4
        refine i_din (k := nk o) hd ?_
        have hmem := (vin kk o).trans (ok.in ho1 ho8)
        cases e : (valV kvs (nk o)).isSome with
        | true =>
          walk_at "rd"
          exact rm
        | false =>
          walk_at "rd"
          refine ⟨t, _, s56, ht6, ⟨ho1, ho8, hz⟩, rfl, fun o2 n2 z2 e2 => ?_, rfl⟩
          cases e2
          cases eM : M o with
          | none => rfl
          | some v => rw [hmem.mpr (by rw [eM]; rfl)] at e; cases e
      rintro σ H8 ⟨t8, d, s8, ht8, hdok, hown, hfr, rfl⟩
      have hL8 := hL5.same s8
      refine rdSeq ?_
      walk_at "rd"
      refine ⟨pow6, ?_⟩
      refine rdCut (MidW H8 (fun v => [some (.ref a), some (.int (st : Int)), some (.ref c), y3, some (.ref m), some (.ref pm), some (.int x), some (.int (o : Int)), some (.int (x / 8)), some (.ref t8), some v, y11, y12, none, none])) ?_ ?_
      · walk_at "rd"
        refine ⟨⟨by decide, by decide⟩, ite2 (fun _ => ⟨⟨by decide, by decide⟩, (x / 8 / 15 % 21).toNat, rfl, by rw [Int.toNat_of_nonneg (by omega)]⟩) (fun _ => ⟨1000000, rfl, by rw [show (10 : Int) ^ Int.toNat 6 = ((1000000 : Nat) : Int) by decide]⟩)⟩
      rintro σ H9 ⟨w, rfl, rfl⟩
      refine rdSeq ?_
      walk_at "rd"
      refine rdCut (fun σ H => H = H9 ∧ σ = [some (.ref a), some (.int (st : Int)), some (.ref c), y3, some (.ref m), some (.ref pm), some (.int x), some (.int (o : Int)), some (.int (x / 8)), some (.ref t8), some (.int (w : Int)), some (.bl (decide (d.need ≤ w))), y12, none, none]) ?_ ?_
      · walk_at "rd"
        cases d with
        | put o2 n2 z2 =>
          have ht9 : H9 t8 = some (.tup [.str "put", .int o2, .int n2, .str z2]) := ht8
          refine i_ixT (sqT_of ht9) rfl ?_
          walk_at "rd"
          refine i_ixT (sqT_of ht9) rfl ?_
          have hz2 := hdok.2.2.2.1
          refine i_lenS rfl (line5 (by omega)) ?_
          walk_at "rd"
          exact decide_eq_decide.mpr (show 3 + (z2.length : Int) ≤ (w : Int) ↔ z2.length + 3 ≤ w by omega)
        | rem o2 =>
          have ht9 : H9 t8 = some (.tup [.str "remove", .int o2]) := ht8
          refine i_ixT (sqT_of ht9) rfl ?_
          walk_at "rd"
          exact i_else (by decide) (decide_eq_decide.mpr (show (1 : Int) ≤ (w : Int) ↔ 1 ≤ w by omega))
      rintro σ H10 ⟨rfl, rfl⟩
      refine rdSeq ?_
      walk_at "rd"
      obtain ⟨I8, hc8, hm8, hd8, hp8⟩ := id hL8
      have len8 := I8.len
      refine ⟨c, l, m, t8, st, ⟨W, none, true⟩, d, w, rfl, hc8, hm8, ht8, hdok, by show st + 152 ≤ W.length; omega, fun H11 hc11' kp11 => ?_⟩
      have I11 := ND.run_inv (w := w) I8 hdok hfr
      have hc11 : CellsAt T.c_Cells H11 c l ⟨(d.run st ⟨W, some (w : Int), true⟩).1.words, none, true⟩ := hc11'
      clear hc11'
      have eb : (d.run st ⟨(CS.mk W none true).words, some (w : Int), (CS.mk W none true).on⟩).2 = decide (d.need ≤ w) := d.run_ok st W w
      rw [eb]
      generalize (d.run st ⟨W, some (w : Int), true⟩).1.words = W' at I11 hc11
      obtain ⟨dc8, hco8⟩ := id hc8.ob
      obtain ⟨dm8, hmo8⟩ := id hm8
      have hm11 := hm8.keep kp11 (by simp [nms_ne_cells hmo8 hco8, ne_of hmo8 hc8.ws (by intro z; cases z)])
      have hd11 := hd8.keep kp11 (fun kvs h => by simp [ne_of h hco8 (by intro z; cases z), ne_of h hc8.ws (by intro z; cases z)]) (fun r xs h => by simp [ne_of h hco8 (by intro z; cases z), ne_of h hc8.ws (by intro z; cases z)])
      have hp11 := kp11 _ _ (by simp [ne_of hp8 hco8 (by intro z; cases z), npl]) hp8
      have ht11 := kp11 _ _ (by simp [ne_of ht8 hco8 (by intro z; cases z), ne_of ht8 hc8.ws (by intro z; cases z)]) ht8
      refine ⟨rfl, i_else (by cases decide (d.need ≤ w) <;> simp) ?_⟩
      refine rdCut (MidM T.c_Cells T.c_Names c l m pm pd st ms W' (d.m5 w M) (d.m4 w M) t8 d [some (.ref a), some (.int (st : Int)), some (.ref c), y3, some (.ref m), some (.ref pm), some (.int x), some (.int (o : Int)), some (.int (x / 8)), some (.ref t8), some (.int (w : Int)), some (.bl (decide (d.need ≤ w))), y12, none, none]) ?_ ?_
      · walk_at "rd"
        refine ite2 (fun hw => ?_) (fun hw => ?_)
        · cases d with
          | put o2 n2 z2 =>
            have ho2 : o2 = o := hown
            subst ho2
            have em4 : (ND.put o2 n2 z2).m4 w M = M.put o2 (some (n2, z2)) := if_pos hw
            have ht9 : H11 t8 = some (.tup [.str "put", .int o2, .int n2, .str z2]) := ht11
            refine i_ixT (sqT_of ht9) rfl ?_
            walk_at "rd"
            refine i_ixT (sqT_of ht9) rfl (i_ixT (sqT_of ht9) rfl ?_)
            intro r hr
            obtain ⟨kvs, ks, hdd, kk, ok, val⟩ := hd11.same (same_new (o := .tup [.int o2, .int n2, .str z2]) hr)
            refine i_dputI hdd ?_ ?_
            · have := congrArg List.length kk
              rw [List.length_map, List.length_map] at this
              have := ok.lt
              exact line5' (by omega)
            · have kd : Kp [pm] H11 (upd (upd H11 r (.tup [.int o2, .int n2, .str z2])) pm (.dK (putK kvs (.inl (o2 : Int)) (.ref r)))) := (Kp.new hr).trans (Kp.set (by simp))
              have hpm11 : ∃ kvs, H11 pm = some (.dK kvs) := by
                obtain ⟨kvs, _, h, _⟩ := hd11
                exact ⟨kvs, h⟩
              obtain ⟨kv0, hpm11⟩ := hpm11
              obtain ⟨dc11, hco11⟩ := id hc11.ob
              obtain ⟨dm11, hmo11⟩ := id hm11
              refine ⟨I11, hc11.keep kd (by simp [ne_of hco11 hpm11 (by intro z; cases z)]) (by simp [ne_of hc11.ws hpm11 (by intro z; cases z)]), hm11.keep kd (by simp [ne_of hmo11 hpm11 (by intro z; cases z)]), ?_,
                kd _ _ (by simp [ne_of hp11 hpm11 (by intro z; cases z)]) hp11, kd _ _ (by simp [ne_of ht9 hpm11 (by intro z; cases z)]) ht11, rfl⟩
              rw [em4]
              exact Mdl.put hdd kk ok val ho1 ho8 (hfr _ _ _ rfl) upd_same
          | rem o2 =>
            have ht9 : H11 t8 = some (.tup [.str "remove", .int o2]) := ht11
            refine i_ixT (sqT_of ht9) rfl ?_
            walk_at "rd"
            exact i_else (by decide) ⟨I11, hc11, hm11, hd11, hp11, ht11, rfl⟩
        · have em4 : d.m4 w M = M := by
            cases d with
            | put o2 n2 z2 => exact if_neg hw
            | rem o2 => rfl
          exact ⟨I11, hc11, hm11, by rw [em4]; exact hd11, hp11, ht11, rfl⟩
      rintro σ H12 ⟨I12, hc12, hm12, hd12, hp12, ht12, rfl⟩
      refine rdCut (MidM T.c_Cells T.c_Names c l m pm pd st ms W' (d.m5 w M) (d.m5 w M) t8 d [some (.ref a), some (.int (st : Int)), some (.ref c), y3, some (.ref m), some (.ref pm), some (.int x), some (.int (o : Int)), some (.int (x / 8)), some (.ref t8), some (.int (w : Int)), some (.bl (decide (d.need ≤ w))), y12, none, none]) ?_ ?_
      · walk_at "rd"
        refine ite2 (fun hw => ?_) (fun hw => ?_)
        · cases d with
          | put o2 n2 z2 =>
            have em : (ND.put o2 n2 z2).m5 w M = (ND.put o2 n2 z2).m4 w M := by
              show (if z2.length + 3 ≤ w then _ else _) = (if z2.length + 3 ≤ w then _ else _)
              rfl
            have ht9 : H12 t8 = some (.tup [.str "put", .int o2, .int n2, .str z2]) := ht12
            refine i_ixT (sqT_of ht9) rfl ?_
            walk_at "rd"
            exact i_else (by decide) ⟨I12, hc12, hm12, by rw [em]; exact hd12, hp12, ht12, rfl⟩
          | rem o2 =>
            have ho2 : o2 = o := hown
            subst ho2
            have em5 : (ND.rem o2).m5 w M = M.put o2 none := if_pos hw
            have ht9 : H12 t8 = some (.tup [.str "remove", .int o2]) := ht12
            refine i_ixT (sqT_of ht9) rfl ?_
            walk_at "rd"
            obtain ⟨kvs, ks, hdd, kk, ok, val⟩ := id hd12
            simp only [tDPop2]
            walk_at "rd"
            refine ⟨.inl ⟨_, .of hdd⟩, kvs, hdd, nk o2, rfl, fun v ev => ?_, fun ev => ?_⟩
            · have kd : Kp [pm] H12 (upd H12 pm (.dK (dropK kvs (nk o2)))) := Kp.set (by simp)
              obtain ⟨dc12, hco12⟩ := id hc12.ob
              obtain ⟨dm12, hmo12⟩ := id hm12
              refine ⟨I12, hc12.keep kd (by simp [ne_of hco12 hdd (by intro z; cases z)]) (by simp [ne_of hc12.ws hdd (by intro z; cases z)]), hm12.keep kd (by simp [ne_of hmo12 hdd (by intro z; cases z)]), ?_,
                kd _ _ (by simp [ne_of hp12 hdd (by intro z; cases z)]) hp12, kd _ _ (by simp [ne_of ht9 hdd (by intro z; cases z)]) ht12, rfl⟩
              rw [em5]
              exact Mdl.drop hdd kk ok val
            · refine ⟨I12, hc12, hm12, ?_, hp12, ht12, rfl⟩
              have eM : M o2 = none := by
                cases e : M o2 with
                | none => rfl
                | some u =>
                  have h1 := (ok.in ho1 ho8).mpr (show ((ND.rem o2).m4 w M o2).isSome = true by show (M o2).isSome = true; rw [e]; rfl)
                  have h2 := (vin kk o2).mpr h1
                  rw [ev] at h2; cases h2
              rw [em5, RMap.put_self eM]; exact hd12
        · have em : d.m5 w M = M := if_neg hw
          have em4 : d.m4 w M = M := by
            cases d with
            | put o2 n2 z2 => exact if_neg hw
            | rem o2 => rfl
          exact ⟨I12, hc12, hm12, by rw [em, ← em4]; exact hd12, hp12, ht12, rfl⟩
      rintro σ H13 ⟨I13, hc13, hm13, hd13, hp13, ht13, rfl⟩
      refine rdSeq ?_
      walk_at "rd"
      obtain ⟨dm13, hmo13⟩ := id hm13
      have len13 := I13.len
      have st13 := I13.st4
      refine i_meth hmo13 rfl ⟨m, c, l, st, ⟨W', none, true⟩, d.m5 w M, rfl, hm13, hc13, rfl, by show st + 152 ≤ W'.length; omega, I13.rows, fun H14 p14 hp14 s14 tps => ?_⟩
      walk_at "rd"
      obtain ⟨rs, e1, e2, e3⟩ := tps
      refine i_isi (ty_lst e1) kb_ll ?_
      walk_at "rd"
      have hL14 : LI T.c_Cells T.c_Names c l m pm pd st ms H14 W' (d.m5 w M) := (LI.mk I13 hc13 hm13 hd13 hp13).same s14
      obtain ⟨kvs, ks, hdd, kk, ok, val⟩ := id hL14.4
      refine ⟨pm, kvs, ks.map Int.ofNat, rfl, .of hdd, by rw [kk, List.map_map]; rfl, by rw [List.length_map]; have := ok.lt; omega, fun ys qq hperm hsort hqq => ?_⟩
      have eys := ok.sorted hperm hsort
      subst eys
      generalize hM5 : d.m5 w M = M5 at *
      have eo : ((owns M5).map Int.ofNat).map V.int = (owns M5).map fun o : Nat => V.int (o : Int) := by rw [List.map_map]; rfl
      rw [eo]
      walk_at "rd"
      refine ⟨⟨_, sqL_of upd_same⟩, ?_⟩
      have s15 : Same H14 (upd H14 qq (.lst ((owns M5).map fun o : Nat => V.int (o : Int)))) := same_new hqq
      refine i_lcL (walk_listL (l := owns M5) (r := fun o : Nat => V.int (o : Int))) (fun o => (valV kvs (nk o)).getD .non) ?_ (fun D ys hD => sqL_of (same_new hD _ _ upd_same)) (fun o' ho' H1 Q' sm q' => ?_) fun D hD => ?_
      · have := ok.perm.length_eq
        have := ok.lt
        exact line5' (by omega)
      · walk_at "rd"
        obtain ⟨r, n', z', g1, g2, g3⟩ := val o' ((ok.mem o').mpr ho')
        refine i_dgetI (sm _ _ (s15 _ _ hdd)) g2 ?_
        rw [g2] at q'; exact q'
      · have s16 : Same H14 (upd (upd H14 qq (.lst ((owns M5).map fun o : Nat => V.int (o : Int)))) D (.lst ((owns M5).map fun o => (valV kvs (nk o)).getD .non))) := s15.trans (same_new hD)
        have hat : upd (upd H14 qq (.lst ((owns M5).map fun o : Nat => V.int (o : Int)))) D (.lst ((owns M5).map fun o => (valV kvs (nk o)).getD .non)) D = some (.lst ((owns M5).map fun o => (valV kvs (nk o)).getD .non)) := upd_same
        generalize upd (upd H14 qq (.lst ((owns M5).map fun o : Nat => V.int (o : Int)))) D (.lst ((owns M5).map fun o => (valV kvs (nk o)).getD .non)) = H16 at s16 hat
        have hel : (owns M5).length = (ents M5 8).length := by rw [ents_owns, List.length_map]
        refine i_neD (.lst (sqL_of (s16 _ _ e1)) (dp_ents _ (ents M5 8) (by rw [List.length_map]; exact e2) fun i v e h1 h2 => ?_)) (.lst (sqL_of hat) (dp_ents _ (ents M5 8) (by rw [List.length_map]; exact hel) fun i v e h1 h2 => ?_)) (ents_shaped _ fun e he => ?_) ?_
        · rw [List.getElem?_map] at h1
          cases er : rs[i]? with
          | none => rw [er] at h1; cases h1
          | some r =>
            rw [er] at h1; cases h1
            exact ⟨r, rfl, s16 _ _ (e3 i r e er h2)⟩
        · obtain ⟨g1, g2⟩ := ents_some h2
          rw [List.getElem?_map, g2] at h1
          cases h1
          obtain ⟨r, n', z', f1, f2, f3⟩ := val e.1 ((ok.mem _).mpr (List.mem_of_getElem? g2))
          refine ⟨r, by show (valV kvs (nk e.1)).getD V.non = V.ref r; rw [f2]; rfl, ?_⟩
          rw [g1] at f1
          rw [Option.some.inj f1]
          exact s16 _ _ f3
        · obtain ⟨j, hj⟩ := List.getElem?_of_mem he
          obtain ⟨g1, g2⟩ := ents_some hj
          have hr := owns_mem.mp (List.mem_of_getElem? g2)
          have := I13.rows e.1 hr.1 hr.2.1
          rw [g1] at this
          exact nm_strOk this.2.1
        · walk_at "rd"
          exact ⟨_, _, hL14.same s16⟩
    · rintro σ H5 ⟨⟨W, M, hL5⟩, y6, y7, y8, y9, y10, y11, y12, rfl⟩
      dsimp only
      refine rdSeq ?_
      walk_at "rd"
      obtain ⟨I5, hc5, hm5, hd5, hp5⟩ := hL5
      obtain ⟨dc5, hco5⟩ := id hc5.ob
      have len5 := I5.len
      refine ⟨by decide, by decide, i_for walk_range (fun i σ H' => H' = H5 ∧ ∃ y3, σ = [some (.ref a), some (.int (st : Int)), some (.ref c), y3, some (.ref m), some (.ref pm), y6, y7, y8, y9, y10, y11, y12, none, none])
        ⟨rfl, _, rfl⟩ (fun _ _ _ _ _ => trivial) ?_ ?_⟩
      · rintro i _ σ _ H6 hi ⟨rfl, y3, rfl⟩ ⟨rfl, rfl⟩
        have hi : i < 162 := hi
        walk_at "rd"
        have rd77 : (i < st ∨ st + 152 ≤ i) → rMeth T.c_Cells (Str.ofString "read") (sp_Cells_read T) E0 (fun k H => k [V.int (0 + (i : Int))] H) (V.ref c) H6
            fun x H1 => scal x (V.int 77) = true ∧ if (!decide (x = V.int 77)) = true then Q (V.bl false) H1 else H1 = H6 := fun ho =>
          i_meth hco5 rfl ⟨c, l, ⟨W, none, true⟩, i, by rw [Int.zero_add], hc5, by show i < W.length; omega, fun _ => by
            have e := I5.out i hi ho
            show scal (V.int (W.getD i 0)) (V.int 77) = true ∧ _
            rw [e]
            exact ⟨rfl, i_else (by simp) rfl⟩, fun e => nomatch e⟩
        exact ite2 (fun e => rd77 (by omega)) (fun e => ite2 (fun e2 => rd77 (by omega)) (fun _ => trivial))
      · rintro σ H6 ⟨rfl, y3, rfl⟩
        dsimp only
        refine rdSeq ?_
        walk_at "rd"
        intro p hp
        refine ⟨Str.empty, p, [" !#$&'()*+,-./0123456789:;<=>?\x40", "ABCDEFGHIJKLMNOPQRSTUVWXYZ[\\]^_`", "abcdefghijklmnopqrstuvwxyz{|}~"], rfl, rfl, .inl (sqL_of upd_same), by decide +kernel, ?_⟩
        have ej : Txt.join Str.empty [" !#$&'()*+,-./0123456789:;<=>?\x40", "ABCDEFGHIJKLMNOPQRSTUVWXYZ[\\]^_`", "abcdefghijklmnopqrstuvwxyz{|}~"] = CHS := by decide +kernel
        rw [ej]
        refine ⟨rfl, ?_⟩
        have e1 : decide (V.str (Str.ofString " !#$&'()*+,-./0123456789:;<=>?\x40ABCDEFGHIJKLMNOPQRSTUVWXYZ[\\]^_`abcdefghijklmnopqrstuvwxyz{|}~") = V.str CHS) = true := decide_eq_true rfl
        rw [e1]
        exact q _

theorem all_mk {l : PySem.W.OpenLaw} {w : World} {K : PySem.W.Frag} {h : Heap} {mg : Str → Option Value} {fa : Addr} (X : K.In h) (G : h.Ns mainGlobals mg) (hfa : mg "law" = some (.ref fa))
    {f0 : Addr} {od0 an0 : Option Addr} {sl0 : Array (Option Value)} {oc0 kV0 dc0 pm0 cd0 ct0 : Value}
    {f1 : Addr} {od1 an1 : Option Addr} {sl1 : Array (Option Value)} {oc1 kV1 dc1 pm1 cd1 ct1 : Value}
    {f2 : Addr} {od2 an2 : Option Addr} {sl2 : Array (Option Value)} {oc2 kV2 dc2 pm2 cd2 ct2 : Value}
    {f3 : Addr} {od3 an3 : Option Addr} {sl3 : Array (Option Value)} {oc3 kV3 dc3 pm3 cd3 ct3 : Value}
    {f4 : Addr} {od4 an4 : Option Addr} {sl4 : Array (Option Value)} {oc4 kV4 dc4 pm4 cd4 ct4 : Value}
    {f5 : Addr} {od5 an5 : Option Addr} {sl5 : Array (Option Value)} {oc5 kV5 dc5 pm5 cd5 ct5 : Value}
    {f6 : Addr} {od6 an6 : Option Addr} {sl6 : Array (Option Value)} {oc6 kV6 dc6 pm6 cd6 ct6 : Value}
    {f7 : Addr} {od7 an7 : Option Addr} {sl7 : Array (Option Value)} {oc7 kV7 dc7 pm7 cd7 ct7 : Value}
    {f8 : Addr} {od8 an8 : Option Addr} {sl8 : Array (Option Value)} {oc8 kV8 dc8 pm8 cd8 ct8 : Value}
    {f9 : Addr} {od9 an9 : Option Addr} {sl9 : Array (Option Value)} {oc9 kV9 dc9 pm9 cd9 ct9 : Value}
    {f10 : Addr} {od10 an10 : Option Addr} {sl10 : Array (Option Value)} {oc10 kV10 dc10 pm10 cd10 ct10 : Value}
    {f11 : Addr} {od11 an11 : Option Addr} {sl11 : Array (Option Value)} {oc11 kV11 dc11 pm11 cd11 ct11 : Value}
    {f12 : Addr} {od12 an12 : Option Addr} {sl12 : Array (Option Value)} {oc12 kV12 dc12 pm12 cd12 ct12 : Value}
    {f13 : Addr} {od13 an13 : Option Addr} {sl13 : Array (Option Value)} {oc13 kV13 dc13 pm13 cd13 ct13 : Value}
    {c_Names : Addr}
    {c_CardError : Addr}
    {c_PowerCut : Addr}
    {c_Cells : Addr}
    {tk0 : Tok}
    {tk1 : Tok}
    {tk2 : Tok}
    {tk3 : Tok}
    (l0 : K.lookup f0 = some ⟨oc0, od0, .func (PySem.W.fnOf "__init__" "Names.__init__" (defArgs s_Names_init) (defBody s_Names_init) (defScope s_Names_init) .none kV0 dc0 pm0 an0 cd0 ct0), sl0⟩) (c0 : PySem.W.codeIn K cd0 "Names.__init__" = true) (k0 : PySem.W.keepIn K (.ref f0) = true)
    (l1 : K.lookup f1 = some ⟨oc1, od1, .func (PySem.W.fnOf "put" "Names.put" (defArgs s_Names_put) (defBody s_Names_put) (defScope s_Names_put) .none kV1 dc1 pm1 an1 cd1 ct1), sl1⟩) (c1 : PySem.W.codeIn K cd1 "Names.put" = true) (k1 : PySem.W.keepIn K (.ref f1) = true)
    (l2 : K.lookup f2 = some ⟨oc2, od2, .func (PySem.W.fnOf "remove" "Names.remove" (defArgs s_Names_remove) (defBody s_Names_remove) (defScope s_Names_remove) .none kV2 dc2 pm2 an2 cd2 ct2), sl2⟩) (c2 : PySem.W.codeIn K cd2 "Names.remove" = true) (k2 : PySem.W.keepIn K (.ref f2) = true)
    (l3 : K.lookup f3 = some ⟨oc3, od3, .func (PySem.W.fnOf "rows" "Names.rows" (defArgs s_Names_rows) (defBody s_Names_rows) (defScope s_Names_rows) .none kV3 dc3 pm3 an3 cd3 ct3), sl3⟩) (c3 : PySem.W.codeIn K cd3 "Names.rows" = true) (k3 : PySem.W.keepIn K (.ref f3) = true)
    (l4 : K.lookup f4 = some ⟨oc4, od4, .func (PySem.W.fnOf "_row" "Names._row" (defArgs s_Names__row) (defBody s_Names__row) (defScope s_Names__row) .none kV4 dc4 pm4 an4 cd4 ct4), sl4⟩) (c4 : PySem.W.codeIn K cd4 "Names._row" = true) (k4 : PySem.W.keepIn K (.ref f4) = true)
    (l5 : K.lookup f5 = some ⟨oc5, od5, .func (PySem.W.fnOf "__init__" "Cells.__init__" (defArgs s_Cells_init) (defBody s_Cells_init) (defScope s_Cells_init) .none kV5 dc5 pm5 an5 cd5 ct5), sl5⟩) (c5 : PySem.W.codeIn K cd5 "Cells.__init__" = true) (k5 : PySem.W.keepIn K (.ref f5) = true)
    (l6 : K.lookup f6 = some ⟨oc6, od6, .func (PySem.W.fnOf "cut" "Cells.cut" (defArgs s_Cells_cut) (defBody s_Cells_cut) (defScope s_Cells_cut) .none kV6 dc6 pm6 an6 cd6 ct6), sl6⟩) (c6 : PySem.W.codeIn K cd6 "Cells.cut" = true) (k6 : PySem.W.keepIn K (.ref f6) = true)
    (l7 : K.lookup f7 = some ⟨oc7, od7, .func (PySem.W.fnOf "restore" "Cells.restore" (defArgs s_Cells_restore) (defBody s_Cells_restore) (defScope s_Cells_restore) .none kV7 dc7 pm7 an7 cd7 ct7), sl7⟩) (c7 : PySem.W.codeIn K cd7 "Cells.restore" = true) (k7 : PySem.W.keepIn K (.ref f7) = true)
    (l8 : K.lookup f8 = some ⟨oc8, od8, .func (PySem.W.fnOf "read" "Cells.read" (defArgs s_Cells_read) (defBody s_Cells_read) (defScope s_Cells_read) .none kV8 dc8 pm8 an8 cd8 ct8), sl8⟩) (c8 : PySem.W.codeIn K cd8 "Cells.read" = true) (k8 : PySem.W.keepIn K (.ref f8) = true)
    (l9 : K.lookup f9 = some ⟨oc9, od9, .func (PySem.W.fnOf "write" "Cells.write" (defArgs s_Cells_write) (defBody s_Cells_write) (defScope s_Cells_write) .none kV9 dc9 pm9 an9 cd9 ct9), sl9⟩) (c9 : PySem.W.codeIn K cd9 "Cells.write" = true) (k9 : PySem.W.keepIn K (.ref f9) = true)
    (a10 : PySem.W.nsIn K mainGlobals "_law_draws" = some (some (.ref f10)))
    (l10 : K.lookup f10 = some ⟨oc10, od10, .func (PySem.W.fnOf "_law_draws" "_law_draws" (defArgs s_law_draws) (defBody s_law_draws) (defScope s_law_draws) .none kV10 dc10 pm10 an10 cd10 ct10), sl10⟩) (c10 : PySem.W.codeIn K cd10 "_law_draws" = true) (k10 : PySem.W.keepIn K (.ref f10) = true)
    (a11 : PySem.W.nsIn K mainGlobals "_law_name" = some (some (.ref f11)))
    (l11 : K.lookup f11 = some ⟨oc11, od11, .func (PySem.W.fnOf "_law_name" "_law_name" (defArgs s_law_name) (defBody s_law_name) (defScope s_law_name) .none kV11 dc11 pm11 an11 cd11 ct11), sl11⟩) (c11 : PySem.W.codeIn K cd11 "_law_name" = true) (k11 : PySem.W.keepIn K (.ref f11) = true)
    (a12 : PySem.W.nsIn K mainGlobals "_law_torn" = some (some (.ref f12)))
    (l12 : K.lookup f12 = some ⟨oc12, od12, .func (PySem.W.fnOf "_law_torn" "_law_torn" (defArgs s_law_torn) (defBody s_law_torn) (defScope s_law_torn) .none kV12 dc12 pm12 an12 cd12 ct12), sl12⟩) (c12 : PySem.W.codeIn K cd12 "_law_torn" = true) (k12 : PySem.W.keepIn K (.ref f12) = true)
    (a13 : PySem.W.nsIn K mainGlobals "law" = some (some (.ref f13)))
    (l13 : K.lookup f13 = some ⟨oc13, od13, .func (PySem.W.fnOf "law" "law" (defArgs s_law) (defBody s_law) (defScope s_law) .none kV13 dc13 pm13 an13 cd13 ct13), sl13⟩) (c13 : PySem.W.codeIn K cd13 "law" = true) (k13 : PySem.W.keepIn K (.ref f13) = true)
    (aC_Names : PySem.W.nsIn K mainGlobals "Names" = some (some (.ref c_Names)))
    (aC_CardError : PySem.W.nsIn K mainGlobals "CardError" = some (some (.ref c_CardError)))
    (aC_PowerCut : PySem.W.nsIn K mainGlobals "PowerCut" = some (some (.ref c_PowerCut)))
    (aC_Cells : PySem.W.nsIn K mainGlobals "Cells" = some (some (.ref c_Cells)))
    (w1pg : PySem.W.plainGet K c_Names Str.empty = true)
    (w2hd : PySem.W.hasDictIn K c_Names = true)
    (w3po : PySem.W.plainOver K c_Names = true)
    (w4sa : PySem.W.findIn K (.ref c_Names) "__setattr__" = some (some (.builtin "object.__setattr__")))
    (w5mk : PySem.W.makesIn K c_Names = true)
    (w6in : PySem.W.findIn K (.ref c_Names) "__init__" = some (some (.ref f0)))
    (w7fi : PySem.W.isFn K (.ref f0) = true)
    (w8kc : PySem.W.keepIn K (.ref c_Names) = true)
    (w9at : PySem.W.findIn K (.ref c_Names) "put" = some (some (.ref f1)))
    (w10fn : PySem.W.isFn K (.ref f1) = true)
    (w11km : PySem.W.keepIn K (.ref f1) = true)
    (w12at : PySem.W.findIn K (.ref c_Names) "remove" = some (some (.ref f2)))
    (w13fn : PySem.W.isFn K (.ref f2) = true)
    (w14km : PySem.W.keepIn K (.ref f2) = true)
    (w15at : PySem.W.findIn K (.ref c_Names) "rows" = some (some (.ref f3)))
    (w16fn : PySem.W.isFn K (.ref f3) = true)
    (w17km : PySem.W.keepIn K (.ref f3) = true)
    (w18at : PySem.W.findIn K (.ref c_Names) "_row" = some (some (.ref f4)))
    (w19fn : PySem.W.isFn K (.ref f4) = true)
    (w20km : PySem.W.keepIn K (.ref f4) = true)
    (w21na : PySem.W.findIn K (.ref c_Names) "_cells" = some none)
    (w22na : PySem.W.findIn K (.ref c_Names) "_start" = some none)
    (w23x : PySem.W.excIn K c_PowerCut [.type "ValueError", .type "Exception", .type "BaseException", .type "object"] "ValueError.__new__" = true)
    (w24kx : PySem.W.keepIn K (.ref c_PowerCut) = true)
    (w25be : PySem.W.subIn K (.ref c_PowerCut) (.type "BaseException") = some true)
    (w26ty : PySem.W.typeIn K (.ref c_PowerCut) = some (.type "type"))
    (w27eb : PySem.W.subIn K (.ref c_PowerCut) (.type "BaseException") = some true)
    (w28ei : PySem.W.isClsIn K c_PowerCut = true)
    (w29et : PySem.W.typeIn K (.ref c_PowerCut) = some (.type "type"))
    (w30es : PySem.W.subIn K (.ref c_PowerCut) (.ref c_PowerCut) = some true)
    (w31pg : PySem.W.plainGet K c_Cells Str.empty = true)
    (w32hd : PySem.W.hasDictIn K c_Cells = true)
    (w33po : PySem.W.plainOver K c_Cells = true)
    (w34sa : PySem.W.findIn K (.ref c_Cells) "__setattr__" = some (some (.builtin "object.__setattr__")))
    (w35mk : PySem.W.makesIn K c_Cells = true)
    (w36in : PySem.W.findIn K (.ref c_Cells) "__init__" = some (some (.ref f5)))
    (w37fi : PySem.W.isFn K (.ref f5) = true)
    (w38kc : PySem.W.keepIn K (.ref c_Cells) = true)
    (w39at : PySem.W.findIn K (.ref c_Cells) "cut" = some (some (.ref f6)))
    (w40fn : PySem.W.isFn K (.ref f6) = true)
    (w41km : PySem.W.keepIn K (.ref f6) = true)
    (w42at : PySem.W.findIn K (.ref c_Cells) "restore" = some (some (.ref f7)))
    (w43fn : PySem.W.isFn K (.ref f7) = true)
    (w44km : PySem.W.keepIn K (.ref f7) = true)
    (w45at : PySem.W.findIn K (.ref c_Cells) "read" = some (some (.ref f8)))
    (w46fn : PySem.W.isFn K (.ref f8) = true)
    (w47km : PySem.W.keepIn K (.ref f8) = true)
    (w48at : PySem.W.findIn K (.ref c_Cells) "write" = some (some (.ref f9)))
    (w49fn : PySem.W.isFn K (.ref f9) = true)
    (w50km : PySem.W.keepIn K (.ref f9) = true)
    (w51na : PySem.W.findIn K (.ref c_Cells) "_words" = some none)
    (w52na : PySem.W.findIn K (.ref c_Cells) "_left" = some none)
    (w53na : PySem.W.findIn K (.ref c_Cells) "_on" = some none)
    (z0 : PySem.W.nsIn K mainGlobals "abs" = some none)
    (z1 : PySem.W.nsIn K mainGlobals "enumerate" = some none)
    (z2 : PySem.W.nsIn K mainGlobals "int" = some none)
    (z3 : PySem.W.nsIn K mainGlobals "isinstance" = some none)
    (z4 : PySem.W.nsIn K mainGlobals "len" = some none)
    (z5 : PySem.W.nsIn K mainGlobals "list" = some none)
    (z6 : PySem.W.nsIn K mainGlobals "range" = some none)
    (z7 : PySem.W.nsIn K mainGlobals "sorted" = some none)
    (y0 : PySem.W.nsIn K mainGlobals "MOST_APPLETS" = some (some (.int (8) tk0)))
    (y1 : PySem.W.nsIn K mainGlobals "ROW_CELLS" = some (some (.int (19) tk1)))
    (y2 : PySem.W.nsIn K mainGlobals "NAMES_CELLS" = some (some (.int (152) tk2)))
    (y3 : PySem.W.nsIn K mainGlobals "CHARACTERS" = some (some (.str " !#$&'()*+,-./0123456789:;<=>?@ABCDEFGHIJKLMNOPQRSTUVWXYZ[\\]^_`abcdefghijklmnopqrstuvwxyz{|}~" tk3))) :
    ∃ fd : FuncData, (∀ (s : Shared) (v : Value), BindsTo s fd ⟨[v], []⟩ [("_law_script", v)]) ∧ ∀ base : Heap, K.In base → base.Ns mainGlobals mg → FnOk l.prog w K mg base CX0 4 fa fd ["_law_script"] (sp_law K) := by
  have e := hfa.symm.trans (PySem.W.mg_of X G a13)
  cases e
  let T : Txt K mg := {
    f_Names_init := f0,
    d_Names_init := _,
    k_Names_init := (fun_mk (st := s_Names_init) l0 c0 k0),
    b_Names_init := (Fun.binds (ps := ["self", "cells", "start"]) (fun_mk (st := s_Names_init) l0 c0 k0) fun _ _ _ _ _ _ us hl => match us, hl with | [_, _, _], _ => rfl),
    f_Names_put := f1,
    d_Names_put := _,
    k_Names_put := (fun_mk (st := s_Names_put) l1 c1 k1),
    b_Names_put := (Fun.binds (ps := ["self", "owner", "number", "name"]) (fun_mk (st := s_Names_put) l1 c1 k1) fun _ _ _ _ _ _ us hl => match us, hl with | [_, _, _, _], _ => rfl),
    f_Names_remove := f2,
    d_Names_remove := _,
    k_Names_remove := (fun_mk (st := s_Names_remove) l2 c2 k2),
    b_Names_remove := (Fun.binds (ps := ["self", "owner"]) (fun_mk (st := s_Names_remove) l2 c2 k2) fun _ _ _ _ _ _ us hl => match us, hl with | [_, _], _ => rfl),
    f_Names_rows := f3,
    d_Names_rows := _,
    k_Names_rows := (fun_mk (st := s_Names_rows) l3 c3 k3),
    b_Names_rows := (Fun.binds (ps := ["self"]) (fun_mk (st := s_Names_rows) l3 c3 k3) fun _ _ _ _ _ _ us hl => match us, hl with | [_], _ => rfl),
    f_Names__row := f4,
    d_Names__row := _,
    k_Names__row := (fun_mk (st := s_Names__row) l4 c4 k4),
    b_Names__row := (Fun.binds (ps := ["self", "owner"]) (fun_mk (st := s_Names__row) l4 c4 k4) fun _ _ _ _ _ _ us hl => match us, hl with | [_, _], _ => rfl),
    f_Cells_init := f5,
    d_Cells_init := _,
    k_Cells_init := (fun_mk (st := s_Cells_init) l5 c5 k5),
    b_Cells_init := (Fun.binds (ps := ["self", "count"]) (fun_mk (st := s_Cells_init) l5 c5 k5) fun _ _ _ _ _ _ us hl => match us, hl with | [_, _], _ => rfl),
    f_Cells_cut := f6,
    d_Cells_cut := _,
    k_Cells_cut := (fun_mk (st := s_Cells_cut) l6 c6 k6),
    b_Cells_cut := (Fun.binds (ps := ["self", "writes"]) (fun_mk (st := s_Cells_cut) l6 c6 k6) fun _ _ _ _ _ _ us hl => match us, hl with | [_, _], _ => rfl),
    f_Cells_restore := f7,
    d_Cells_restore := _,
    k_Cells_restore := (fun_mk (st := s_Cells_restore) l7 c7 k7),
    b_Cells_restore := (Fun.binds (ps := ["self"]) (fun_mk (st := s_Cells_restore) l7 c7 k7) fun _ _ _ _ _ _ us hl => match us, hl with | [_], _ => rfl),
    f_Cells_read := f8,
    d_Cells_read := _,
    k_Cells_read := (fun_mk (st := s_Cells_read) l8 c8 k8),
    b_Cells_read := (Fun.binds (ps := ["self", "place"]) (fun_mk (st := s_Cells_read) l8 c8 k8) fun _ _ _ _ _ _ us hl => match us, hl with | [_, _], _ => rfl),
    f_Cells_write := f9,
    d_Cells_write := _,
    k_Cells_write := (fun_mk (st := s_Cells_write) l9 c9 k9),
    b_Cells_write := (Fun.binds (ps := ["self", "place", "word"]) (fun_mk (st := s_Cells_write) l9 c9 k9) fun _ _ _ _ _ _ us hl => match us, hl with | [_, _, _], _ => rfl),
    f_law_draws := f10,
    d_law_draws := _,
    k_law_draws := (fun_mk (st := s_law_draws) l10 c10 k10),
    b_law_draws := (Fun.binds (ps := ["_law_script", "_law_start", "_law_most"]) (fun_mk (st := s_law_draws) l10 c10 k10) fun _ _ _ _ _ _ us hl => match us, hl with | [_, _, _], _ => rfl),
    g_law_draws := PySem.W.mg_of X G a10,
    f_law_name := f11,
    d_law_name := _,
    k_law_name := (fun_mk (st := s_law_name) l11 c11 k11),
    b_law_name := (Fun.binds (ps := ["_law_rest"]) (fun_mk (st := s_law_name) l11 c11 k11) fun _ _ _ _ _ _ us hl => match us, hl with | [_], _ => rfl),
    g_law_name := PySem.W.mg_of X G a11,
    f_law_torn := f12,
    d_law_torn := _,
    k_law_torn := (fun_mk (st := s_law_torn) l12 c12 k12),
    b_law_torn := (Fun.binds (ps := ["_law_cells", "_law_names", "_law_deed", "_law_writes"]) (fun_mk (st := s_law_torn) l12 c12 k12) fun _ _ _ _ _ _ us hl => match us, hl with | [_, _, _, _], _ => rfl),
    g_law_torn := PySem.W.mg_of X G a12,
    f_law := fa,
    d_law := _,
    k_law := (fun_mk (st := s_law) l13 c13 k13),
    b_law := (Fun.binds (ps := ["_law_script"]) (fun_mk (st := s_law) l13 c13 k13) fun _ _ _ _ _ _ us hl => match us, hl with | [_], _ => rfl),
    g_law := PySem.W.mg_of X G a13,
    c_Names := c_Names,
    g_Names := PySem.W.mg_of X G aC_Names,
    c_CardError := c_CardError,
    g_CardError := PySem.W.mg_of X G aC_CardError,
    c_PowerCut := c_PowerCut,
    g_PowerCut := PySem.W.mg_of X G aC_PowerCut,
    c_Cells := c_Cells,
    g_Cells := PySem.W.mg_of X G aC_Cells,
    cl_Names := ⟨w1pg, w2hd, w3po, w4sa⟩,
    mk_Names := ⟨w5mk, w6in, w7fi, w8kc⟩,
    me_Names_put := ⟨w9at, w10fn, w11km⟩,
    me_Names_remove := ⟨w12at, w13fn, w14km⟩,
    me_Names_rows := ⟨w15at, w16fn, w17km⟩,
    me_Names__row := ⟨w18at, w19fn, w20km⟩,
    nf_Names_cells := w21na,
    nf_Names_start := w22na,
    x_PowerCut := ⟨w23x, w24kx, w25be, w26ty⟩,
    ex_PowerCut_PowerCut := exm_two w27eb w28ei w29et w30es,
    cl_Cells := ⟨w31pg, w32hd, w33po, w34sa⟩,
    mk_Cells := ⟨w35mk, w36in, w37fi, w38kc⟩,
    me_Cells_cut := ⟨w39at, w40fn, w41km⟩,
    me_Cells_restore := ⟨w42at, w43fn, w44km⟩,
    me_Cells_read := ⟨w45at, w46fn, w47km⟩,
    me_Cells_write := ⟨w48at, w49fn, w50km⟩,
    nf_Cells_words := w51na,
    nf_Cells_left := w52na,
    nf_Cells_on := w53na,
    m_abs := PySem.W.mg_none_of X G z0,
    m_enumerate := PySem.W.mg_none_of X G z1,
    m_int := PySem.W.mg_none_of X G z2,
    m_isinstance := PySem.W.mg_none_of X G z3,
    m_len := PySem.W.mg_none_of X G z4,
    m_list := PySem.W.mg_none_of X G z5,
    m_range := PySem.W.mg_none_of X G z6,
    m_sorted := PySem.W.mg_none_of X G z7,
    t_MOST_APPLETS := tk0,
    g_MOST_APPLETS := PySem.W.mg_of X G y0,
    t_ROW_CELLS := tk1,
    g_ROW_CELLS := PySem.W.mg_of X G y1,
    t_NAMES_CELLS := tk2,
    g_NAMES_CELLS := PySem.W.mg_of X G y2,
    t_CHARACTERS := tk3,
    g_CHARACTERS := PySem.W.mg_of X G y3 }
  exact ⟨T.d_law, fun s v => .of_eq rfl, fun base _ _ => ok_law T⟩
end
end My
open PySem PySem.W PyProof.Rows
set_option maxHeartbeats 0 in
theorem PySem.Challenge.cw_warycard_k75_names_holds : PySem.Challenge.rw_warycard_k75_names.Holds := by
  w_on; o_law; k_head; (case hw => w_witness2)
  k_fill
  refine L2.walk_of (l := PySem.Challenge.rw_warycard_k75_names) (n := 63) (k := 4) (x := "_law_script") (CX := fun _ => L2.CX0) (sp := fun w => My.sp_law _) rfl (by decide) rfl ⟨rfl, by decide, by decide⟩ (fun w h Y => PySem.W.kIn_of Y) ?F (fun _ _ a ns hl _ hS => ⟨a, ns, rfl, hS, hl, fun _ => rfl⟩) (fun _ _ _ _ _ h => h)
  case F =>
    intro w mg fa h KX G hmg
    refine' My.all_mk KX G hmg ?l0 ?c0 ?k0 ?l1 ?c1 ?k1 ?l2 ?c2 ?k2 ?l3 ?c3 ?k3 ?l4 ?c4 ?k4 ?l5 ?c5 ?k5 ?l6 ?c6 ?k6 ?l7 ?c7 ?k7 ?l8 ?c8 ?k8 ?l9 ?c9 ?k9 ?a10 ?l10 ?c10 ?k10 ?a11 ?l11 ?c11 ?k11 ?a12 ?l12 ?c12 ?k12 ?a13 ?l13 ?c13 ?k13 ?aC_Names ?aC_CardError ?aC_PowerCut ?aC_Cells ?w1pg ?w2hd ?w3po ?w4sa ?w5mk ?w6in ?w7fi ?w8kc ?w9at ?w10fn ?w11km ?w12at ?w13fn ?w14km ?w15at ?w16fn ?w17km ?w18at ?w19fn ?w20km ?w21na ?w22na ?w23x ?w24kx ?w25be ?w26ty ?w27eb ?w28ei ?w29et ?w30es ?w31pg ?w32hd ?w33po ?w34sa ?w35mk ?w36in ?w37fi ?w38kc ?w39at ?w40fn ?w41km ?w42at ?w43fn ?w44km ?w45at ?w46fn ?w47km ?w48at ?w49fn ?w50km ?w51na ?w52na ?w53na ?z0 ?z1 ?z2 ?z3 ?z4 ?z5 ?z6 ?z7 ?y0 ?y1 ?y2 ?y3
    (case a10 => k_is); (case a11 => k_is); (case a12 => k_is); (case a13 => k_is); (case aC_Names => k_is); (case aC_CardError => k_is); (case aC_PowerCut => k_is); (case aC_Cells => k_is); (case z0 => k_is); (case z1 => k_is); (case z2 => k_is); (case z3 => k_is); (case z4 => k_is); (case z5 => k_is); (case z6 => k_is); (case z7 => k_is); (case y0 => k_is); (case y1 => k_is); (case y2 => k_is); (case y3 => k_is); (case w6in => k_is); (case w9at => k_is); (case w12at => k_is); (case w15at => k_is); (case w18at => k_is); (case w36in => k_is); (case w39at => k_is); (case w42at => k_is); (case w45at => k_is); (case w48at => k_is); (case l0 => k_is); (case l1 => k_is); (case l2 => k_is); (case l3 => k_is); (case l4 => k_is); (case l5 => k_is); (case l6 => k_is); (case l7 => k_is); (case l8 => k_is); (case l9 => k_is); (case l10 => k_is); (case l11 => k_is); (case l12 => k_is); (case l13 => k_is); (case c0 => k_is); (case k0 => k_is); (case c1 => k_is); (case k1 => k_is); (case c2 => k_is); (case k2 => k_is); (case c3 => k_is); (case k3 => k_is); (case c4 => k_is); (case k4 => k_is); (case c5 => k_is); (case k5 => k_is); (case c6 => k_is); (case k6 => k_is); (case c7 => k_is); (case k7 => k_is); (case c8 => k_is); (case k8 => k_is); (case c9 => k_is); (case k9 => k_is); (case c10 => k_is); (case k10 => k_is); (case c11 => k_is); (case k11 => k_is); (case c12 => k_is); (case k12 => k_is); (case c13 => k_is); (case k13 => k_is); (case w1pg => k_is); (case w2hd => k_is); (case w3po => k_is); (case w4sa => k_is); (case w5mk => k_is); (case w7fi => k_is); (case w8kc => k_is); (case w10fn => k_is); (case w11km => k_is); (case w13fn => k_is); (case w14km => k_is); (case w16fn => k_is); (case w17km => k_is); (case w19fn => k_is); (case w20km => k_is); (case w21na => k_is); (case w22na => k_is); (case w23x => k_exc); (case w24kx => k_is); (case w25be => k_is); (case w26ty => k_is); (case w27eb => k_is); (case w28ei => k_is); (case w29et => k_is); (case w30es => first | rfl | k_is); (case w31pg => k_is); (case w32hd => k_is); (case w33po => k_is); (case w34sa => k_is); (case w35mk => k_is); (case w37fi => k_is); (case w38kc => k_is); (case w40fn => k_is); (case w41km => k_is); (case w43fn => k_is); (case w44km => k_is); (case w46fn => k_is); (case w47km => k_is); (case w49fn => k_is); (case w50km => k_is); (case w51na => k_is); (case w52na => k_is); (case w53na => k_is)
#print axioms PySem.Challenge.cw_warycard_k75_names_holds
