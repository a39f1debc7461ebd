import PyProof.Rows.All
import Wide.All
import OpenK.AllK
import Wide.FinOn
import HandS.ForMost
import HandS.Wide
import HandS.IsInst
import HandS.Walk
import HandS.Codes
import HandS.ForExc
import HandS.Style
import HandS.ExcInit
import HandS.ExcField
import HandS.RevRange
import HandS.Conv
import PySem.Challenge.RW_warycard_k70_journal
set_option Elab.async false
set_option maxRecDepth 100000
set_option maxHeartbeats 4000000
namespace My
open PySem PySem.Spec PyProof.Rows L2
/-! ### readings -/
theorem OpR.imp' {X : Cx} {f : Value → Value → Sem Value} {r r' : R2} (h : OpR X f r) (i : ∀ x y H Q, r' x y H Q → r x y H Q) : OpR X f r' := fun pins s σ H x y u v Q I rx ry q => h pins s σ H x y u v Q I rx ry (i _ _ _ _ q)
theorem op_modP {X : Cx} : OpR X (binaryOp .Mod) (rI (fun _ j => 0 < j) fun i j => .int (i % j)) := OpR.imp' op_modN fun x y H Q ⟨i, j, e1, e2, hj, q⟩ => ⟨i, j, e1, e2, by have hj : 0 < j := hj; show j ≠ 0; omega, by
  have hj : 0 < j := hj
  have e : i.fmod j = i % j := Int.fmod_eq_emod_of_nonneg i (by omega)
  show Q (V.int (i.fmod j)) H
  rw [e]; exact q⟩
theorem rdSeq {t u : TS} {D : Ends} {σ : L2.St} {H : Hp} (h : t { D with nx := u D } σ H) : tSeq t u D σ H := h
/-- all that was tracked is kept but the list at a, which holds three ints -/
def Bag (H : Hp) (a : Addr) : Prop := ∃ x y z : Int, H a = some (.lst [.int x, .int y, .int z])
structure Mv (a : Addr) (H H' : Hp) : Prop where
  bag : Bag H' a
  old : ∀ b o, b ≠ a → H b = some o → H' b = some o
theorem Mv.refl {a : Addr} {H : Hp} (h : Bag H a) : Mv a H H := ⟨h, fun _ _ _ e => e⟩
theorem Mv.trans {a : Addr} {H H1 H2 : Hp} (h : Mv a H H1) (k : Mv a H1 H2) : Mv a H H2 := ⟨k.bag, fun b o n e => k.old b o n (h.old b o n e)⟩
theorem Mv.new {a p : Addr} {o : HO} {H H1 : Hp} (h : Mv a H H1) (n : H1 p = none) : Mv a H (upd H1 p o) := by
  obtain ⟨x, y, z, e⟩ := h.bag
  have ne : a ≠ p := fun q => by subst q; rw [n] at e; cases e
  exact ⟨⟨x, y, z, by rw [upd_ne ne]; exact e⟩, fun b u hb hu => by
    have := h.old b u hb hu
    rw [upd_ne (ne_of_none this n)]; exact this⟩
theorem Mv.ne {a p : Addr} {H H1 : Hp} (h : Mv a H H1) (n : H1 p = none) : p ≠ a := fun q => by
  obtain ⟨x, y, z, e⟩ := h.bag
  subst q; rw [n] at e; cases e
theorem Mv.free {a p : Addr} {H H1 : Hp} (h : Mv a H H1) (n : H1 p = none) : H p = none := by
  cases e : H p with
  | none => rfl
  | some o => rw [h.old p o (h.ne n) e] at n; cases n
theorem bag_ne {a p : Addr} {H : Hp} (h : Bag H a) (n : H p = none) : p ≠ a := fun q => by
  obtain ⟨x, y, z, e⟩ := h
  subst q; rw [n] at e; cases e
theorem sqL_of {K : PySem.W.Frag} {H : Hp} {a : Addr} {xs : List V} (h : H a = some (.lst xs)) : SqL K H a xs := .inl (.inl h)
theorem sqT_of {K : PySem.W.Frag} {H : Hp} {a : Addr} {xs : List V} (h : H a = some (.tup xs)) : SqT K H a xs := .inl (.inl h)
def rIntA : List V → Hp → VK → Prop := fun xs H Q => ∃ x, xs = [x] ∧ match x with
  | .int i => Q (.int i) H
  | .bl k => Q (.int (if k = true then 1 else 0)) H
  | _ => False
theorem call_intI {X : Cx} : CallR X (.type "int") rIntA := fun pins s σ H xs us Q I r ⟨x, e, q⟩ => by
  cases x with
  | int i => exact call_int1 pins s σ H xs us Q I r (.inl ⟨i, e, q⟩)
  | bl k => exact call_int1 pins s σ H xs us Q I r (.inr ⟨k, e, q⟩)
  | _ => exact False.elim q
/-- len of a list, of a tuple -/
def rLenL (K : PySem.W.Frag) : List V → Hp → VK → Prop := fun xs H Q => ∃ p ys, xs = [.ref p] ∧ SqL K H p ys ∧ Q (.int ys.length) H
def rLenT (K : PySem.W.Frag) : List V → Hp → VK → Prop := fun xs H Q => ∃ p ys, xs = [.ref p] ∧ SqT K H p ys ∧ Q (.int ys.length) H
theorem call_lenL {X : Cx} : CallR X (.builtin "len") (rLenL X.K) := fun pins s σ H xs us Q I r ⟨p, ys, e, h, q⟩ => call_len_seq pins s σ H xs us Q I r ⟨p, ys, e, .inl h, q⟩
theorem call_lenT {X : Cx} : CallR X (.builtin "len") (rLenT X.K) := fun pins s σ H xs us Q I r ⟨p, ys, e, h, q⟩ => call_len_seq pins s σ H xs us Q I r ⟨p, ys, e, .inr h, q⟩
theorem i_lenL {K : PySem.W.Frag} {H : Hp} {Q : VK} {p : Addr} {ys : List V} (h : SqL K H p ys) (q : Q (.int ys.length) H) : rLenL K [.ref p] H Q := ⟨p, ys, rfl, h, q⟩
theorem i_lenT {K : PySem.W.Frag} {H : Hp} {Q : VK} {p : Addr} {ys : List V} (h : SqT K H p ys) (q : Q (.int ys.length) H) : rLenT K [.ref p] H Q := ⟨p, ys, rfl, h, q⟩
theorem i_ixL {K : PySem.W.Frag} {H : Hp} {Q : VK} {p : Addr} {xs : List V} {i : Int} {v : V} (h : SqL K H p xs) (e : atI xs i = some v) (q : Q v H) : rIxL K (.ref p) (.int i) H Q := ⟨p, xs, i, v, rfl, rfl, h, e, q⟩
theorem i_ixT {K : PySem.W.Frag} {H : Hp} {Q : VK} {p : Addr} {xs : List V} {i : Int} {v : V} (h : SqT K H p xs) (e : atI xs i = some v) (q : Q v H) : rIxT K (.ref p) (.int i) H Q := ⟨p, xs, i, v, rfl, rfl, h, e, q⟩
theorem i_setL {H : Hp} {p : Addr} {xs : List V} {i : Int} {j : Nat} {v : V} {Q : Hp → Prop} (h : H p = some (.lst xs)) (e : ixN xs.length i = some j) (q : Q (upd H p (.lst (xs.set j v)))) : rSetL (.ref p) (.int i) v H Q := ⟨p, xs, i, j, rfl, rfl, h, e, q⟩
theorem i_lst {H : Hp} {xs : List V} {Q : VK} (hl : xs.length ≤ sizeLine) (q : ∀ p, H p = none → Q (.ref p) (upd H p (.lst xs))) : xs.length ≤ sizeLine ∧ ∀ p, H p = none → Q (.ref p) (upd H p (.lst xs)) := ⟨hl, q⟩
/-- an item at a drawn place of a written list -/
theorem at_of {α : Type} {xs : List α} {i : Int} (h0 : 0 ≤ i) (h1 : i < xs.length) : ∃ v, atI xs i = some v ∧ v ∈ xs := by
  obtain ⟨j, rfl⟩ := Int.eq_ofNat_of_zero_le h0
  have hi : j < xs.length := by omega
  exact ⟨xs[j], atI_nat (List.getElem?_eq_getElem hi), List.getElem_mem hi⟩
theorem pow18 : CPow 10 18 := ⟨by decide, by decide, by decide⟩
theorem cm_r {i j : Int} (h : decide (-(2 ^ 64) < j) && decide (j < 2 ^ 64) = true) : CMul i j := by
  simp only [Bool.and_eq_true, decide_eq_true_eq] at h
  exact .inr h
theorem cm_l {i j : Int} (h : decide (-(2 ^ 64) < i) && decide (i < 2 ^ 64) = true) : CMul i j := by
  simp only [Bool.and_eq_true, decide_eq_true_eq] at h
  exact .inl h
theorem i_isi {K : PySem.W.Frag} {H : Hp} {Q : VK} {x : V} {t c : String} {b : Bool} (ty : TyX K H x (.type t)) (hk : kitB t c = some b) (q : Q (.bl b) H) : rIsi K [x, .ty c] H Q := ⟨x, .ty c, .type t, .type c, b, rfl, .ty c, ty, kit_ty hk, q⟩
theorem ty_int {K : PySem.W.Frag} {H : Hp} {i : Int} : TyX K H (.int i) (.type "int") := .base (.int _)
theorem ty_bl {K : PySem.W.Frag} {H : Hp} {i : Bool} : TyX K H (.bl i) (.type "bool") := .base (.bl _)
theorem ty_str {K : PySem.W.Frag} {H : Hp} {i : Str} : TyX K H (.str i) (.type "str") := .base (.str _)
theorem ty_non {K : PySem.W.Frag} {H : Hp} : TyX K H .non (.type "NoneType") := .base .non
theorem kb_ii : kitB "int" "int" = some true := by decide +kernel
theorem kb_bi : kitB "bool" "int" = some true := by decide +kernel
theorem kb_ib : kitB "int" "bool" = some false := by decide +kernel
theorem kb_bb : kitB "bool" "bool" = some true := by decide +kernel
theorem pow17 : CPow 10 17 := ⟨by decide, by decide, by decide⟩
/-- for over range(n) -/
def rForR (lo : Int) (n : Nat) (g : TG) (tb : TS) : TS := fun D σ H => ∃ W : Nat → Nat → L2.St → Hp → Prop, (∃ m, W 0 m σ H) ∧ ∀ i m σ H, W i m σ H →
  ((Itr lo n).stop i H ∧ D.nx σ H) ∨ ((Itr lo n).go i H ∧ ∃ Nx : L2.St → Hp → Prop, (∀ σ' H', Nx σ' H' → ∃ m', m' < m ∧ W (i + 1) m' σ' H') ∧ ∀ x H', (Itr lo n).yld i H x H' → g x σ H' fun σ2 H2 => tb { D with nx := Nx, ct := Nx, bk := D.nx } σ2 H2)
theorem i_forR1 {ta : TA} {g : TG} {tb : TS} {D : Ends} {σ : L2.St} {H : Hp} (h : ta σ H fun vs H1 => ∃ j : Int, vs = [.int j] ∧ -(2 ^ 62) ≤ j ∧ j < 2 ^ 62 ∧ rForR 0 j.toNat g tb D σ H1) : tFor (iRng1 ta) g tb D σ H := h
theorem i_forR2 {ta : TA} {g : TG} {tb : TS} {D : Ends} {σ : L2.St} {H : Hp} (h : ta σ H fun vs H1 => ∃ i j : Int, vs = [.int i, .int j] ∧ (-(2 ^ 62) ≤ i ∧ i < 2 ^ 62 ∧ -(2 ^ 62) ≤ j ∧ j < 2 ^ 62) ∧ rForR i (j - i).toNat g tb D σ H1) : tFor (iRng2 ta) g tb D σ H := h
theorem i_loopR {lo : Int} {n : Nat} {j : Nat} {tb : TS} {D : Ends} {σ : L2.St} {H : Hp} (Pv : Nat → L2.St → Hp → Prop) (h0 : Pv 0 σ H)
    (hs : ∀ (i : Nat) σ H, i < n → Pv i σ H → tb { D with nx := Pv (i + 1), ct := Pv (i + 1), bk := D.nx } (σ.set j (some (.int (lo + i)))) H) (hd : ∀ σ H, Pv n σ H → D.nx σ H) : rForR lo n (gName j) tb D σ H := for_range Pv h0 hs hd
theorem i_else {c A B : Prop} [Decidable c] (h : ¬ c) (b : B) : if c then A else B := by rw [if_neg h]; exact b
theorem i_then {c A B : Prop} [Decidable c] (h : c) (a : A) : if c then A else B := by rw [if_pos h]; exact a
/-- two ways that meet -/
theorem i_both {c A B T : Prop} [Decidable c] (t : T) (h1 : c → T → A) (h2 : ¬ c → T → B) : if c then A else B := ite2 (fun h => h1 h t) (fun h => h2 h t)
theorem ty_tup {K : PySem.W.Frag} {H : Hp} {p : Addr} {xs : List V} (h : H p = some (.tup xs)) : TyX K H (.ref p) (.type "tuple") := .base (.tup h)
theorem ty_lst {K : PySem.W.Frag} {H : Hp} {p : Addr} {xs : List V} (h : H p = some (.lst xs)) : TyX K H (.ref p) (.type "list") := .base (.lst h)
theorem kb_ni : kitB "NoneType" "int" = some false := by decide +kernel
theorem kb_si : kitB "str" "int" = some false := by decide +kernel
theorem kb_li : kitB "list" "int" = some false := by decide +kernel
theorem kb_ti : kitB "tuple" "int" = some false := by decide +kernel
theorem kb_di : kitB "dict" "int" = some false := by decide +kernel
/-! ### loops by what is walked -/
def rForJ (J : It) (g : TG) (tb : TS) : TS := fun D σ H => ∃ W : Nat → Nat → L2.St → Hp → Prop, (∃ m, W 0 m σ H) ∧ ∀ i m σ H, W i m σ H →
  (J.stop i H ∧ D.nx σ H) ∨ (J.go i H ∧ ∃ Nx : L2.St → Hp → Prop, (∀ σ' H', Nx σ' H' → ∃ m', m' < m ∧ W (i + 1) m' σ' H') ∧ ∀ x H', J.yld i H x H' → g x σ H' fun σ2 H2 => tb { D with nx := Nx, ct := Nx, bk := D.nx } σ2 H2)
theorem tFor_J {wi : TI} {g : TG} {tb : TS} {D : Ends} {σ : L2.St} {H : Hp} : tFor wi g tb D σ H = wi σ H fun J H1 => rForJ J g tb D σ H1 := rfl
def rLcJ (J : It) (g : TG) (tt : TT) (te : TE) (vs : List Nat) : TE := fun σ H1 Q => ∀ D, H1 D = none → ∃ W : Nat → Nat → Hp → Prop, (∃ m, W 0 m (upd H1 D (.lst []))) ∧ ∀ i m H, W i m H →
  (J.stop i H ∧ Q (.ref D) H) ∨ (J.go i H ∧ ∃ Nx : Hp → Prop, (∀ H', Nx H' → ∃ m', m' < m ∧ W (i + 1) m' H') ∧ ∀ x H', J.yld i H x H' → g x (wipe σ vs) H' fun σ2 H2 => wipe σ2 vs = wipe σ vs ∧ tt σ2 H2 fun b H3 =>
    if b = true then te σ2 H3 fun y H4 => ∃ acc, H4 D = some (.lst acc) ∧ acc.length < sizeLine ∧ Nx (upd H4 D (.lst (acc ++ [y]))) else Nx H3)
theorem tLc_J {wi : TI} {g : TG} {tt : TT} {te : TE} {vs : List Nat} {σ : L2.St} {H : Hp} {Q : VK} : tLc wi g tt te vs σ H Q = wi σ H fun J H1 => rLcJ J g tt te vs σ H1 Q := rfl
theorem i_for {J : It} {n : Nat} {G : Hp → Prop} {Y : Nat → Hp → V → Hp → Prop} (w : Walk J n G Y) {j : Nat} {tb : TS} {D : Ends} {σ : L2.St} {H : Hp} (Pv : Nat → L2.St → Hp → Prop) (h0 : Pv 0 σ H) (hG : ∀ i σ H, i ≤ n → Pv i σ H → G H)
    (hs : ∀ i x σ H H', i < n → Pv i σ H → Y i H x H' → tb { D with nx := Pv (i + 1), ct := Pv (i + 1), bk := D.nx } (σ.set j (some x)) H') (hd : ∀ σ H, Pv n σ H → D.nx σ H) : rForJ J (gName j) tb D σ H := for_it w Pv h0 hG hs hd
theorem wipe_one {σ : L2.St} {j : Nat} {x : V} : wipe ((wipe σ [j]).set j (some x)) [j] = wipe σ [j] := by
  show ((σ.set j none).set j (some x)).set j none = σ.set j none
  rw [List.set_set, List.set_set]
def YL {α : Type} (l : List α) (r : α → V) : Nat → Hp → V → Hp → Prop := fun i H v H' => H' = H ∧ ∃ c, l[i]? = some c ∧ v = r c
/-- [e for x in ..], e without an effect -/
theorem i_lcL {α : Type} {J : It} {l : List α} {r : α → V} {G : Hp → Prop} (w : Walk J l.length G (YL l r)) {j : Nat} {te : TE} {σ : L2.St} {H : Hp} {Q : VK} (g : α → V) (hn : l.length < sizeLine) (hG : ∀ D ys, H D = none → G (upd H D (.lst ys)))
    (hs : ∀ c ∈ l, ∀ H1 (Q' : VK), Same H H1 → Q' (g c) H1 → te ((wipe σ [j]).set j (some (r c))) H1 Q') (q : ∀ D, H D = none → Q (.ref D) (upd H D (.lst (l.map g)))) : rLcJ J (gName j) tYes te [j] σ H Q := by
  intro D hD
  refine lc_it w (fun i H' => H' = upd H D (.lst ((l.take i).map g))) rfl (fun i H' _ e => by subst e; exact hG D _ hD) (fun i x H1 H2 hi e y => ?_) (fun H' e => by subst e; rw [List.take_length]; exact q D hD)
  obtain ⟨e2, c, hc, rfl⟩ := y
  subst e2
  refine ⟨wipe_one, hs c (List.mem_of_getElem? hc) H2 (fun y H4 => ∃ acc, H4 D = some (.lst acc) ∧ acc.length < sizeLine ∧ upd H4 D (.lst (acc ++ [y])) = upd H D (.lst ((l.take (i + 1)).map g))) (by subst e; intro b o h; rw [upd_ne (ne_of_none h hD)]; exact h) ?_⟩
  subst e
  refine ⟨_, upd_same, by rw [List.length_map, List.length_take]; omega, ?_⟩
  rw [upd_upd, List.take_add_one, hc, List.map_append]; rfl
/-- for x in ..: if not p: return False -/
theorem i_forall {α : Type} {J : It} {l : List α} {r : α → V} {G : Hp → Prop} (w : Walk J l.length G (YL l r)) {j : Nat} {tb : TS} {D : Ends} {σ : L2.St} {H : Hp} (p : α → Bool) (v : V) (hG : G H)
    (hs : ∀ c ∈ l, ∀ D' : Ends, (p c = true → D'.nx (σ.set j (some (r c))) H) → (p c = false → D'.rt v H) → tb D' (σ.set j (some (r c))) H) (h1 : l.all p = true → D.nx σ H ∧ ∀ u, D.nx (σ.set j u) H) (h2 : l.all p = false → D.rt v H) : rForJ J (gName j) tb D σ H := by
  refine i_for w (fun i σ' H' => H' = H ∧ (σ' = σ ∨ ∃ u, σ' = σ.set j u) ∧ ∀ c ∈ l.take i, p c = true) ⟨rfl, .inl rfl, by simp⟩ (fun i σ' H' _ h => by rw [h.1]; exact hG) ?_ ?_
  · rintro i x σ' H' H2 hi ⟨rfl, hσ, hp⟩ ⟨rfl, c, hc, rfl⟩
    have hm := List.mem_of_getElem? hc
    have es : σ'.set j (some (r c)) = σ.set j (some (r c)) := by
      rcases hσ with rfl | ⟨u, rfl⟩
      · rfl
      · rw [List.set_set]
    rw [es]
    refine hs c hm _ (fun hpc => ⟨rfl, .inr ⟨_, rfl⟩, fun d hd => ?_⟩) (fun hpc => h2 ?_)
    · rw [List.take_add_one, hc] at hd
      rcases List.mem_append.mp hd with h | h
      · exact hp d h
      · rw [List.mem_singleton.mp h]; exact hpc
    · rw [List.all_eq_false]
      exact ⟨c, hm, by rw [hpc]; simp⟩
  · rintro σ' H' ⟨rfl, hσ, hp⟩
    rw [List.take_length] at hp
    have h := h1 (List.all_eq_true.mpr hp)
    rcases hσ with rfl | ⟨u, rfl⟩
    · exact h.1
    · exact h.2 u
/-- [e for x in ..], e draws from the bag at a -/
theorem i_lcD {J : It} {n : Nat} {G : Hp → Prop} {Y : Nat → Hp → V → Hp → Prop} (w : Walk J n G Y) {a : Addr} {j : Nat} {te : TE} {σ : L2.St} {H : Hp} {Q : VK} (hB : Bag H a) (P : V → Prop) (hn : n < sizeLine) (hG : ∀ H', Mv a H H' → G H') (hY : ∀ i H x H', Y i H x H' → H' = H)
    (hs : ∀ i x H1 (Q' : VK), i < n → Y i H1 x H1 → Mv a H H1 → (∀ y H2, P y → Mv a H1 H2 → Q' y H2) → te ((wipe σ [j]).set j (some x)) H1 Q') (q : ∀ D H' ys, H D = none → Mv a H H' → H' D = some (.lst ys) → ys.length = n → (∀ y ∈ ys, P y) → Q (.ref D) H') : rLcJ J (gName j) tYes te [j] σ H Q := by
  intro D hD
  have nD := bag_ne hB hD
  refine lc_it w (fun i H' => Mv a H H' ∧ ∃ ys, H' D = some (.lst ys) ∧ ys.length = i ∧ ∀ y ∈ ys, P y) ⟨(Mv.refl hB).new hD, [], upd_same, rfl, fun _ h => nomatch h⟩ (fun i H' _ e => hG H' e.1) (fun i x H1 H2 hi e y => ?_) (fun H' e => ?_)
  · have e2 := hY i H1 x H2 y
    subst e2
    obtain ⟨mv, ys, e1, e2, e3⟩ := e
    refine ⟨wipe_one, hs i x H2 (fun y H4 => ∃ acc, H4 D = some (.lst acc) ∧ acc.length < sizeLine ∧ (Mv a H (upd H4 D (.lst (acc ++ [y]))) ∧ ∃ ys, upd H4 D (.lst (acc ++ [y])) D = some (.lst ys) ∧ ys.length = i + 1 ∧ ∀ y ∈ ys, P y)) hi y mv fun v H3 hv mv3 => ?_⟩
    refine ⟨ys, mv3.old D _ nD e1, by omega, ?_⟩
    have m3 := mv.trans mv3
    refine ⟨⟨?_, fun b o hb e => ?_⟩, ys ++ [v], upd_same, by simp [e2], fun y hy => ?_⟩
    · obtain ⟨x1, x2, x3, hx⟩ := m3.bag
      exact ⟨x1, x2, x3, by rw [upd_ne nD.symm]; exact hx⟩
    · rw [upd_ne (ne_of_none e hD)]; exact m3.old b o hb e
    · rcases List.mem_append.mp hy with h | h
      · exact e3 y h
      · rw [List.mem_singleton.mp h]; exact hv
  · obtain ⟨mv, ys, e1, e2, e3⟩ := e
    exact q D H' ys hD mv e1 e2 e3
theorem rdCut {t u : TS} {D : Ends} {σ : L2.St} {H : Hp} (Mid : L2.St → Hp → Prop) (h : t { D with nx := Mid } σ H) (k : ∀ σ' H', Mid σ' H' → u D σ' H') : C8.tCut t u D σ H := ⟨Mid, h, k⟩
theorem pow9 : CPow 10 9 := ⟨by decide, by decide, by decide⟩
theorem pow8 : CPow 10 8 := ⟨by decide, by decide, by decide⟩
theorem pow12 : CPow 10 12 := ⟨by decide, by decide, by decide⟩
theorem walk_rangeL {lo : Int} {n : Nat} : Walk (Itr lo n) (List.range n).length (fun _ => True) (YL (List.range n) fun i => .int (lo + i)) := by
  rw [List.length_range]
  exact walk_range.mono (fun _ h => h) fun i H x H' hi _ y => ⟨y.1, i, by rw [List.getElem?_range hi], y.2⟩
theorem i_app {H : Hp} {l : Addr} {xs : List V} {v : V} {Q : VK} (h : H l = some (.lst xs)) (hz : xs.length < sizeLine) (q : Q .non (upd H l (.lst (xs ++ [v])))) : rAppend (.ref l) [v] H Q := ⟨l, xs, v, rfl, rfl, h, hz, q⟩
theorem ty_app {K : PySem.W.Frag} {H : Hp} {l : Addr} {xs : List V} (h : SqL K H l xs) : tyV K "list" (.ref l) H := .inl ⟨rfl, xs, h⟩
theorem i_slL {K : PySem.W.Frag} {H : Hp} {a : Addr} {xs : List V} {lo hi : Option Int} {Q : VK} (h : SqL K H a xs) (q : ∀ p, H p = none → Q (.ref p) (upd H p (.lst (cutV xs lo hi)))) : rSlL K (.ref a) lo hi H Q := ⟨a, xs, rfl, h, q⟩
theorem i_cat {H : Hp} {l b : Addr} {xs zs : List V} {Q : VK} (h1 : H l = some (.lst xs)) (h2 : H b = some (.lst zs)) (hz : xs.length + zs.length ≤ sizeLine) (q : ∀ p, H p = none → Q (.ref p) (upd H p (.lst (xs ++ zs)))) : rCat (.ref l) (.ref b) H Q := ⟨l, b, xs, zs, rfl, rfl, h1, h2, hz, q⟩
theorem i_inL {K : PySem.W.Frag} {neg : Bool} {x : V} {H : Hp} {p : Addr} {xs : List V} {Q : VK} (h : SqL K H p xs ∨ SqT K H p xs) (h1 : flatV x = true) (h2 : xs.all flatV = true) (q : Q (.bl (if neg then !inV x xs else inV x xs)) H) : rIn K neg x (.ref p) H Q := ⟨p, xs, rfl, h, h1, h2, q⟩
theorem cut_take {xs : List V} {n : Nat} : cutV xs none (some (n : Int)) = xs.take n := by
  unfold cutV
  rw [HT.sIx_none, HT.sIx_nat]
  simp only [List.drop_zero, Nat.sub_zero]
  rw [Nat.min_comm, ← List.take_take, List.take_of_length_le (by rw [List.length_take]; omega)]
theorem cut_drop {xs : List V} {n : Nat} : cutV xs (some (n : Int)) none = xs.drop n := by
  unfold cutV
  rw [HT.sIx_none, HT.sIx_nat]
  by_cases h : n ≤ xs.length
  · rw [Nat.min_eq_left h, List.take_of_length_le (by rw [List.length_drop]; omega)]
  · rw [Nat.min_eq_right (by omega), List.drop_of_length_le (by omega), List.drop_of_length_le (by omega)]; simp
theorem line5 {n : Nat} (h : n ≤ 100000) : n ≤ sizeLine := Nat.le_trans h (by decide)
theorem line5' {n : Nat} (h : n ≤ 100000) : n < sizeLine := Nat.lt_of_le_of_lt h (by decide)
/-! ### the same rules with the written part named (for a comprehension's block) -/
theorem ix_listK (K : PySem.W.Frag) {X : Cx} (h : X.K = K := by rfl) : IxR X (rIxL K) := h ▸ ix_list
theorem ix_tupK (K : PySem.W.Frag) {X : Cx} (h : X.K = K := by rfl) : IxR X (rIxT K) := h ▸ ix_tup
theorem sl_listK (K : PySem.W.Frag) {X : Cx} (h : X.K = K := by rfl) : SlR X (rSlL K) := h ▸ sl_list
theorem sl_tupK (K : PySem.W.Frag) {X : Cx} (h : X.K = K := by rfl) : SlR X (rSlT K) := h ▸ sl_tup
theorem lenLK (K : PySem.W.Frag) {X : Cx} (h : X.K = K := by rfl) : CallR X (.builtin "len") (rLenL K) := h ▸ call_lenL
theorem lenTK (K : PySem.W.Frag) {X : Cx} (h : X.K = K := by rfl) : CallR X (.builtin "len") (rLenT K) := h ▸ call_lenT
theorem isiK (K : PySem.W.Frag) {X : Cx} (h : X.K = K := by rfl) : CallR X (.builtin "isinstance") (rIsi K) := h ▸ call_isi
theorem isiTK (K : PySem.W.Frag) {X : Cx} (h : X.K = K := by rfl) : CallR X (.builtin "isinstance") (rIsiT K) := h ▸ call_isiT
theorem in_seqK (K : PySem.W.Frag) {X : Cx} (h : X.K = K := by rfl) : OpR X (compareOp .In) (rIn K false) := h ▸ op_in_seq
theorem notIn_seqK (K : PySem.W.Frag) {X : Cx} (h : X.K = K := by rfl) : OpR X (compareOp .NotIn) (rIn K true) := h ▸ op_notIn_seq
theorem i_indexS {K : PySem.W.Frag} {H : Hp} {Q : VK} {p : Addr} {l : List Str} {s : Str} {j : Nat} (h : SqL K H p (l.map V.str)) (hj : l[j]? = some s) (hn : s ∉ l.take j) (q : Q (.int (j : Nat)) H) : rIndex K (.ref p) [.str s] H Q := by
  refine ⟨p, _, .str s, j, .str s, rfl, rfl, h, rfl, ?_, by rw [List.getElem?_map, hj]; rfl, by simp [eqV], ?_, q⟩
  · rw [List.all_map, List.all_eq_true]; intro x _; rfl
  · intro m z hm hz
    rw [List.getElem?_map] at hz
    cases e : l[m]? with
    | none => rw [e] at hz; cases hz
    | some t =>
      rw [e] at hz
      have hz : V.str t = z := Option.some.inj hz
      subst hz
      show (t == s) = false
      rw [beq_eq_false_iff_ne]
      intro et; subst et
      exact hn (List.mem_of_getElem? (by rw [List.getElem?_take_of_lt hm]; exact e))
theorem walk_listL {K : PySem.W.Frag} {a : Addr} {α : Type} {l : List α} {r : α → V} : Walk (Itl K a) l.length (fun H => SqL K H a (l.map r)) (YL l r) := by
  have w := walk_list (K := K) (a := a) (xs := l.map r)
  rw [List.length_map] at w
  exact w.mono (fun _ h => h) fun i H x H' hi _ y => ⟨y.1, l[i], List.getElem?_eq_getElem hi, by
    have := y.2
    rw [List.getElem?_map, List.getElem?_eq_getElem hi] at this
    exact (Option.some.inj this).symm⟩
theorem walk_tupL {K : PySem.W.Frag} {a : Addr} {α : Type} {l : List α} {r : α → V} : Walk (Itt K a) l.length (fun H => SqT K H a (l.map r)) (YL l r) := by
  have w := walk_tup (K := K) (a := a) (xs := l.map r)
  rw [List.length_map] at w
  exact w.mono (fun _ h => h) fun i H x H' hi _ y => ⟨y.1, l[i], List.getElem?_eq_getElem hi, by
    have := y.2
    rw [List.getElem?_map, List.getElem?_eq_getElem hi] at this
    exact (Option.some.inj this).symm⟩
theorem dpStrs {K : PySem.W.Frag} {H : Hp} : ∀ l : List Str, DpAll K H (l.map V.str) (l.map PyData.str)
  | [] => .nil
  | x :: l => .cons (.str x) (dpStrs l)
theorem dpInts {K : PySem.W.Frag} {H : Hp} : ∀ l : List Int, DpAll K H (l.map V.int) (l.map PyData.int)
  | [] => .nil
  | x :: l => .cons (.int x) (dpInts l)
theorem kb_tt : kitB "tuple" "tuple" = some true := by decide +kernel
theorem pow15 : CPow 10 15 := ⟨by decide, by decide, by decide⟩
theorem sc_ii {a b : Int} : scal (.int a) (.int b) = true := rfl
theorem sc_ss {a b : Str} : scal (.str a) (.str b) = true := rfl
theorem sc_bb {a b : Bool} : scal (.bl a) (.bl b) = true := rfl
theorem sc_in {a : Int} : scal (.int a) .non = true := rfl
theorem sc_ni {a : Int} : scal .non (.int a) = true := rfl
theorem sc_nn : scal .non .non = true := rfl
theorem sc_is {a : Int} {b : Str} : scal (.int a) (.str b) = true := rfl
theorem sc_si {a : Int} {b : Str} : scal (.str b) (.int a) = true := rfl
theorem sc_ns {b : Str} : scal .non (.str b) = true := rfl
theorem sc_sn {b : Str} : scal (.str b) .non = true := rfl
theorem sc_bn {b : Bool} : scal (.bl b) .non = true := rfl
theorem sc_nb {b : Bool} : scal .non (.bl b) = true := rfl
theorem sc_sb {b : Bool} {a : Str} : scal (.str a) (.bl b) = true := rfl
theorem sc_bs {b : Bool} {a : Str} : scal (.bl b) (.str a) = true := rfl
/-- a new list at p, all else kept -/
structure NewL (H H' : Hp) (p : Addr) (xs : List V) : Prop where
  free : H p = none
  same : Same H H'
  at_ : H' p = some (.lst xs)
theorem NewL.sq {K : PySem.W.Frag} {H H' : Hp} {p : Addr} {xs : List V} (n : NewL H H' p xs) : SqL K H' p xs := sqL_of n.at_
theorem NewL.set {H H' : Hp} {p : Addr} {xs ys : List V} (n : NewL H H' p xs) : NewL H (upd H' p (.lst ys)) p ys := ⟨n.free, fun b o e => by rw [upd_ne (ne_of_none e n.free)]; exact n.same b o e, upd_same⟩
theorem NewL.more {H H' H2 : Hp} {p : Addr} {xs : List V} (n : NewL H H' p xs) (s : Same H' H2) : NewL H H2 p xs := ⟨n.free, n.same.trans s, s _ _ n.at_⟩
theorem same_new {H : Hp} {p : Addr} {o : HO} (n : H p = none) : Same H (upd H p o) := fun b u e => by rw [upd_ne (ne_of_none e n)]; exact e
theorem cut_all {xs : List V} : cutV xs (some 0) none = xs := cut_drop (n := 0)
theorem pow14 : CPow 10 14 := ⟨by decide, by decide, by decide⟩
theorem ixN_of {n j : Nat} (h : j < n) : ixN n (j : Int) = some j := by
  unfold ixN
  rw [if_pos (by omega), if_pos (by omega)]; simp

/-! ### fields, methods and exceptions, the written part named -/
section
variable {X : Cx} {K : PySem.W.Frag}
theorem pe_fldK (K : PySem.W.Frag) {e : Expr} {ta : TE} {f : Str} {pos : Pos} (he : PE X e ta) (hb : attributeBase e f X.env (eval e X.env) = eval e X.env) (hK : X.K = K := by rfl) : PE X (.Attribute e f pos) (tFld K ta f) := by
  have h := pe_fld (pos := pos) he hb
  rw [hK] at h
  exact h
theorem ps_fldK (K : PySem.W.Frag) {o value : Expr} {ta tv : TE} {f : Str} {pos pos' : Pos} (ha : PE X o ta) (hv : PE X value tv) (hs : swapsWith value (some (.Attribute o f pos')) pos.line X.env = pure false) (hK : X.K = K := by rfl) : PS X (.Assign [.Attribute o f pos'] value pos) (sFld K ta tv f) := by
  have h := ps_fld (pos := pos) ha hv hs
  rw [hK] at h
  exact h
theorem ps_fldaugK (K : PySem.W.Frag) {o value : Expr} {ta tv : TE} {f : Str} {pos tpos : Pos} {op : Operator} {rd : V → V → Hp → VK → Prop} (ha : PE X o ta) (hv : PE X value tv) (hop : InOp X op rd) (hK : X.K = K := by rfl) : PS X (.AugAssign (.Attribute o f tpos) op value pos) (sFldAug K ta tv rd f) := by
  have h := ps_fldaug (f := f) (pos := pos) (tpos := tpos) ha hv hop
  rw [hK] at h
  exact h
theorem pe_bmK (K : PySem.W.Frag) {T id : String} {name : Str} {r : V → List V → Hp → VK → Prop} {o e : Expr} {es : List Expr} {to : TE} {t : TA} {apos cpos : Pos} (pa : PlainAttrs T) (slot : Slot T name id) (hty : typeOf (.builtin id) = pure (.type "method_descriptor")) (hm : MtR X id r) (ho : PE X o to) (ha : PA X (e :: es) t)
    (hbase : attributeBase o name X.env (eval o X.env) = eval o X.env := by rfl)
    (hfew : ((backTo cpos (starEach (e :: es) X.env)).all (fun x => !x.1) && (backToKw cpos (keywordEach [] X.env)).all (fun x => x.1.isSome)
      && decide ((e :: es).length + ([] : List Keyword).length + (if ([] : List Keyword).isEmpty then 0 else 1) < 30)) = true := by rfl)
    (hline : (apos.endLine == cpos.line) = true := by rfl) (hs : starEach (e :: es) X.env = (false, eval e X.env) :: starEach es X.env := by rfl) (hplain : (backTo cpos (starEach es X.env)).any (·.1) = false := by rfl) (hK : X.K = K := by rfl) :
    PE X (.Call (.Attribute o name apos) (e :: es) [] cpos) (tBM K T r to t) := by
  have h := pe_bm pa slot hty hm ho ha hbase hfew hline hs hplain
  rw [hK] at h
  exact h
theorem pe_bm0K (K : PySem.W.Frag) {T id : String} {name : Str} {r : V → List V → Hp → VK → Prop} {o : Expr} {to : TE} {apos cpos : Pos} (pa : PlainAttrs T) (slot : Slot T name id) (hty : typeOf (.builtin id) = pure (.type "method_descriptor")) (hm : MtR X id r) (ho : PE X o to)
    (hbase : attributeBase o name X.env (eval o X.env) = eval o X.env := by rfl) (hline : (apos.endLine == cpos.line) = true := by rfl) (hK : X.K = K := by rfl) : PE X (.Call (.Attribute o name apos) [] [] cpos) (tBM0 K T r to) := by
  have h := pe_bm0 pa slot hty hm ho hbase hline
  rw [hK] at h
  exact h
/-- o.m(..) that may raise, what is raised wished for at the caller's slots -/
def tMethS (C : Addr) (m : Str) (sp : Sp) (E : L2.St → XK) (ta : TE) (t : TA) : TE := fun σ H Q => ta σ H fun x H1 => ∃ a dx fs, x = .ref a ∧ H1 a = some (.ins C dx fs) ∧ fs.lookup m = none ∧ t σ H1 fun vs H2 => sp (x :: vs) H2 Q (E σ)
variable {CX : CXT} {k : Nat} {f C : Addr} {fd : FuncData} {ps : List Str} {sp : Sp} {E : L2.St → XK} {m : Str} {pos apos : Pos} {e o : Expr} {es : List Expr} {ta : TE} {t : TA}
theorem pe_methS {pl : Sem Bool} (he : PE X o ta) (c : Cls X.K C) (hm : Meth X.K C m f) (F : FnOk X.prog X.w X.K X.mg X.base CX k f fd ps sp) (hr : Room k X.A) (hb : Binds X.K fd ps []) (hx : ∀ σ, PassesAt CX X σ (E σ)) (ha : PA X (e :: es) t)
    (hst : starEach (e :: es) X.env = (false, eval e X.env) :: starEach es X.env := by rfl) (hpl : (backTo pos (starEach es X.env)).any (·.1) = false := by rfl)
    (ht : eval (.Call (.Attribute o m apos) (e :: es) [] pos) X.env = (do
      let ov ← eval o X.env
      standAt apos.atName
      let (f, first) ← holding [ov] (getMethod ov m pl)
      callWith pos f first (backTo pos (starEach (e :: es) X.env)) (backToKw pos (keywordEach [] X.env))) := by rfl) :
    PE X (.Call (.Attribute o m apos) (e :: es) [] pos) (tMethS C m sp E ta t) := by
  refine ⟨fun pins s σ H Q I h => ?_⟩
  refine PySem.W.methodCall_KW (pl := pl) (thn (he.run pins s σ H _ I h) fun u s1 ⟨x, H1, I1, rx, a, dx, fs, ex, ea, l, q⟩ => ?_) ht
  subst ex
  obtain rfl : u = Value.ref a := rx
  refine getmeth_ok I1 ea c hm l ?_
  refine PySem.W.callWith_K (first := [.ref a]) (h₀ := X.base) I.ok.mod.kin hm.kp (thn (ha.run pos pins s1 σ H1 _ I1 q) fun us s2 ⟨vs, H2, I2, r, q2⟩ => ⟨I2.kIn, ?_⟩) hst hpl
  exact run_fnS (us := .ref a :: us) (vs := .ref a :: vs) F hr hb (hx σ) I2 (.cons rfl r) q2
theorem pe_meth0S {pl : Sem Bool} (he : PE X o ta) (c : Cls X.K C) (hm : Meth X.K C m f) (F : FnOk X.prog X.w X.K X.mg X.base CX k f fd ps sp) (hr : Room k X.A) (hb : Binds X.K fd ps []) (hx : ∀ σ, PassesAt CX X σ (E σ))
    (ht : eval (.Call (.Attribute o m apos) [] [] pos) X.env = (do
      let ov ← eval o X.env
      standAt apos.atName
      let (f, first) ← holding [ov] (getMethod ov m pl)
      callWith pos f first (backTo pos (starEach [] X.env)) (backToKw pos (keywordEach [] X.env))) := by rfl) :
    PE X (.Call (.Attribute o m apos) [] [] pos) (tMethS C m sp E ta tNil) := by
  refine ⟨fun pins s σ H Q I h => ?_⟩
  refine PySem.W.methodCall_KW (pl := pl) (thn (he.run pins s σ H _ I h) fun u s1 ⟨x, H1, I1, rx, a, dx, fs, ex, ea, l, q⟩ => ?_) ht
  subst ex
  obtain rfl : u = Value.ref a := rx
  refine getmeth_ok I1 ea c hm l ?_
  exact PySem.W.callWith_K0 (first := [.ref a]) I1.kIn hm.kp (run_fnS (us := [.ref a]) (vs := [.ref a]) F hr hb (hx σ) I1 (.cons rfl .nil) q)
theorem pe_call0S {x : Str} {p : Pos} (F : FnOk X.prog X.w X.K X.mg X.base CX k f fd ps sp) (hr : Room k X.A) (hg : Gl X x) (hm : X.mg x = some (.ref f)) (hk : PySem.W.keepIn X.K (.ref f) = true) (hb : Binds X.K fd ps []) (hx : ∀ σ, PassesAt CX X σ (E σ))
    (hdb : (x == ("__debug__" : Str)) = false := by decide) : PE X (.Call (.Name x p) [] [] pos) (tCallS sp E tNil) := by
  refine ⟨fun pins s σ H Q I h => ?_⟩
  refine wpAny_Call_Name_kw (ld_glob I hg hm ?_ hdb)
  exact PySem.W.callWith_K0 I.kIn hk (run_fnS (us := []) F hr hb (hx σ) I .nil h)
/-- X(), X an own exception class without own __init__ -/
theorem pmk_own0 {C : Addr} {bmB : List Value} {B newId initId : String} {x : Str} {p pos : Pos} (F : ExcBaseFacts B newId initId bmB) (q : PySem.W.excIn X.K C bmB newId = true) (gC : X.mg x = some (.ref C))
    (kC : PySem.W.keepIn X.K (.ref C) = true) (r : Raises X (.ref C)) (hg : Gl X x) (hdb : (x == ("__debug__" : Str)) = false := by decide) :
    PMk X (.Call (.Name x p) [] [] pos) (fun _ H Q => Q (.ref C) none H) := by
  intro pins s σ H Q I h
  refine wpAny_Call_Name_kw (ld_glob I hg gC ?_ hdb)
  refine PySem.W.callWith_K0 I.kIn kC ?_
  show wpAny _ _ (call (.ref C) []) _ _ _
  obtain ⟨bm, N, nm, qn, bs, hdct, sn, sub, ab, col, dd, k0, k1, k2, k3, k5, mN, hC, hN, hni, T⟩ := exc_obj I.kIn q
  refine wpAny_call_exc_subT F T hC hN hni (fun h' e hm => ?_) (Nat.zero_le _)
  exact mk_of I hm r h (I.hok.gone hm.new)
end
/-- an error of the class at B met by «except A» -/
theorem exm_two {K : PySem.W.Frag} {B A : Addr} {b : Bool} (h1 : PySem.W.subIn K (.ref A) (.type "BaseException") = some true) (h2 : PySem.W.isClsIn K A = true) (h3 : PySem.W.typeIn K (.ref A) = some (.type "type")) (h4 : PySem.W.subIn K (.ref B) (.ref A) = some b) :
    PySem.W.exmOne K (.ref B) (.ref A) = some b := by
  have e1 : (PySem.W.subIn K (.ref A) (.type "BaseException") == some true) = true := by rw [h1] <;> rfl
  have e2 : ((PySem.W.clsIn K A).isSome && PySem.W.typeIn K (.ref A) == some (.type "type")) = true := by
    have h2' : (PySem.W.clsIn K A).isSome = true := h2
    rw [h2', h3] <;> rfl
  show (if (PySem.W.subIn K (.ref A) (.type "BaseException") == some true) = true then (if ((PySem.W.clsIn K A).isSome && PySem.W.typeIn K (.ref A) == some (.type "type")) = true then PySem.W.subIn K (.ref B) (.ref A) else none) else none) = some b
  rw [if_pos e1, if_pos e2]
  exact h4
/-- a class of exceptions without own __init__, raised -/
structure Exc (K : PySem.W.Frag) (C : Addr) : Prop where
  x : PySem.W.excIn K C [.type "ValueError", .type "Exception", .type "BaseException", .type "object"] "ValueError.__new__" = true
  kp : PySem.W.keepIn K (.ref C) = true
  be : PySem.W.subIn K (.ref C) (.type "BaseException") = some true
  ty : PySem.W.typeIn K (.ref C) = some (.type "type")
/-! ### dicts with written keys -/
def rDGet : R2 := fun x y H Q => ∃ a v, x = .ref a ∧ DGet H a y (some v) ∧ Q v H
theorem tDGet_eq {td ty : TE} {σ : L2.St} {H : Hp} {Q : VK} : tDGet td ty σ H Q = td σ H fun x H1 => ty σ H1 fun y H2 => rDGet x y H2 Q := rfl
def rDPut : V → V → V → Hp → (Hp → Prop) → Prop := fun x y v H Q => ∃ a H4, x = .ref a ∧ DPut H a y v H4 ∧ Q H4
theorem sDPut_eq {td ty tv : TE} {D : Ends} {σ : L2.St} {H : Hp} : sDPut td ty tv D σ H = tv σ H fun v H1 => td σ H1 fun x H2 => ty σ H2 fun y H3 => rDPut x y v H3 fun H4 => D.nx σ H4 := rfl
theorem i_dget {H : Hp} {a : Addr} {kvs : List (Key × V)} {k : Str} {v : V} {Q : VK} (h : H a = some (.dK kvs)) (e : valV kvs (.inr k) = some v) (q : Q v H) : rDGet (.ref a) (.str k) H Q := ⟨a, v, rfl, by rw [← e]; exact DGet.k (k := .inr k) h, q⟩
theorem i_dput {H : Hp} {a : Addr} {kvs : List (Key × V)} {k : Str} {v : V} {Q : Hp → Prop} (h : H a = some (.dK kvs)) (hl : kvs.length < sizeLine) (q : Q (upd H a (.dK (putK kvs (.inr k) v)))) : rDPut (.ref a) (.str k) v H Q := ⟨a, _, rfl, DPut.k (k := .inr k) h hl, q⟩
/-! ### what is kept but for some objects -/
def Kp (X : List Addr) (H H' : Hp) : Prop := ∀ b o, b ∉ X → H b = some o → H' b = some o
theorem Kp.refl (X : List Addr) (H : Hp) : Kp X H H := fun _ _ _ e => e
theorem Kp.trans {X : List Addr} {H H1 H2 : Hp} (a : Kp X H H1) (b : Kp X H1 H2) : Kp X H H2 := fun c o n e => b c o n (a c o n e)
theorem Kp.mono {X Y : List Addr} {H H1 : Hp} (a : Kp X H H1) (h : ∀ b ∈ X, b ∈ Y) : Kp Y H H1 := fun c o n e => a c o (fun k => n (h c k)) e
theorem Kp.set {X : List Addr} {H : Hp} {a : Addr} {o : HO} (h : a ∈ X) : Kp X H (upd H a o) := fun b u n e => by
  rw [upd_ne (fun k => n (by rw [k]; exact h))]; exact e
theorem Kp.new {X : List Addr} {H : Hp} {a : Addr} {o : HO} (h : H a = none) : Kp X H (upd H a o) := fun b u n e => by
  rw [upd_ne (ne_of_none e h)]; exact e
theorem Kp.of {X : List Addr} {H H' : Hp} (s : Same H H') : Kp X H H' := fun b u _ e => s b u e
theorem Kp.same {X : List Addr} {H H' H0 : Hp} (k : Kp X H H') (s : Same H0 H) (n : ∀ a ∈ X, H0 a = none) : Same H0 H' := fun b o e => k b o (fun h => by rw [n b h] at e; cases e) (s b o e)
/-! ### fields -/
def rFld (K : PySem.W.Frag) (f : Str) : V → Hp → VK → Prop := fun x H1 Q => ∃ a C dx fs v, x = .ref a ∧ H1 a = some (.ins C dx fs) ∧ Cls K C ∧ NoAttr K C f ∧ fs.lookup f = some v ∧ Q v H1
theorem tFld_eq {K : PySem.W.Frag} {ta : TE} {f : Str} {σ : L2.St} {H : Hp} {Q : VK} : tFld K ta f σ H Q = ta σ H fun x H1 => rFld K f x H1 Q := rfl
def rFldS (K : PySem.W.Frag) (f : Str) : V → V → Hp → (Hp → Prop) → Prop := fun x y H2 Q => ∃ a C dx fs, x = .ref a ∧ H2 a = some (.ins C dx fs) ∧ Cls K C ∧ NoAttr K C f ∧ fs.length < 1000 ∧ Q (upd H2 a (.ins C dx (putF f y fs)))
theorem sFld_eq {K : PySem.W.Frag} {ta tv : TE} {f : Str} {D : Ends} {σ : L2.St} {H : Hp} : sFld K ta tv f D σ H = tv σ H fun y H1 => ta σ H1 fun x H2 => rFldS K f x y H2 fun H3 => D.nx σ H3 := rfl
theorem i_fld {K : PySem.W.Frag} {a C dx : Addr} {fs : List (Str × V)} {f : Str} {v : V} {H : Hp} {Q : VK} (c : Cls K C) (n : NoAttr K C f) (h : H a = some (.ins C dx fs)) (l : fs.lookup f = some v) (q : Q v H) : rFld K f (.ref a) H Q := ⟨a, C, dx, fs, v, rfl, h, c, n, l, q⟩
theorem i_fldS {K : PySem.W.Frag} {a C dx : Addr} {fs : List (Str × V)} {f : Str} {y : V} {H : Hp} {Q : Hp → Prop} (c : Cls K C) (n : NoAttr K C f) (h : H a = some (.ins C dx fs)) (l : fs.length < 1000) (q : Q (upd H a (.ins C dx (putF f y fs)))) : rFldS K f (.ref a) y H Q := ⟨a, C, dx, fs, rfl, h, c, n, l, q⟩
theorem i_rep {H : Hp} {l : Addr} {k : Int} {xs : List V} {Q : VK} (h : H l = some (.lst xs)) (h1 : -(2 ^ 63) ≤ k) (h2 : k < 2 ^ 63) (hz : xs.length * k.toNat ≤ sizeLine) (q : ∀ p, H p = none → Q (.ref p) (upd H p (.lst (List.replicate k.toNat xs).flatten))) : rRep (.ref l) (.int k) H Q := ⟨l, k, xs, rfl, rfl, h, h1, h2, hz, q⟩
theorem rep1 {n : Nat} {v : V} : (List.replicate n [v]).flatten = List.replicate n v := by
  induction n with
  | zero => rfl
  | succ n ih => rw [List.replicate_succ, List.flatten_cons, ih, List.replicate_succ]; rfl
/-- a call of a method -/
def rMeth (C : Addr) (m : Str) (sp : Sp) (E : XK) (t : (List V → Hp → Prop) → Hp → Prop) : V → Hp → VK → Prop := fun x H1 Q => ∃ a dx fs, x = .ref a ∧ H1 a = some (.ins C dx fs) ∧ fs.lookup m = none ∧ t (fun vs H2 => sp (x :: vs) H2 Q E) H1
theorem tMeth_eq {C : Addr} {m : Str} {sp : Sp} {dvs : List V} {E : XK} {ta : TE} {t : TA} {σ : L2.St} {H : Hp} {Q : VK} : tMeth C m sp dvs E ta t σ H Q = ta σ H fun x H1 => rMeth C m sp E (fun k H => t σ H fun vs H2 => k (vs ++ dvs) H2) x H1 Q := rfl
theorem tMethS_eq {C : Addr} {m : Str} {sp : Sp} {E : L2.St → XK} {ta : TE} {t : TA} {σ : L2.St} {H : Hp} {Q : VK} : tMethS C m sp E ta t σ H Q = ta σ H fun x H1 => rMeth C m sp (E σ) (fun k H => t σ H k) x H1 Q := rfl
theorem i_meth {C : Addr} {m : Str} {sp : Sp} {E : XK} {t : (List V → Hp → Prop) → Hp → Prop} {a dx : Addr} {fs : List (Str × V)} {H : Hp} {Q : VK} (h : H a = some (.ins C dx fs)) (l : fs.lookup m = none) (q : t (fun vs H2 => sp (.ref a :: vs) H2 Q E) H) : rMeth C m sp E t (.ref a) H Q := ⟨a, dx, fs, rfl, h, l, q⟩
def rFldA (K : PySem.W.Frag) (f : Str) (tv : (V → Hp → Prop) → Hp → Prop) (rd : V → V → Hp → VK → Prop) : V → Hp → (Hp → Prop) → Prop := fun x H1 Q => ∃ a C dx fs v, x = .ref a ∧ H1 a = some (.ins C dx fs) ∧ Cls K C ∧ NoAttr K C f ∧ fs.lookup f = some v ∧
  tv (fun y H2 => rd v y H2 fun z H3 => ∃ dx' fs', H3 a = some (.ins C dx' fs') ∧ fs'.length < 1000 ∧ Q (upd H3 a (.ins C dx' (putF f z fs')))) H1
theorem sFldAug_eq {K : PySem.W.Frag} {ta tv : TE} {rd : V → V → Hp → VK → Prop} {f : Str} {D : Ends} {σ : L2.St} {H : Hp} : sFldAug K ta tv rd f D σ H = ta σ H fun x H1 => rFldA K f (fun k H => tv σ H k) rd x H1 fun H3 => D.nx σ H3 := rfl
theorem i_fldA {K : PySem.W.Frag} {f : Str} {tv : (V → Hp → Prop) → Hp → Prop} {rd : V → V → Hp → VK → Prop} {a C dx : Addr} {fs : List (Str × V)} {v : V} {H : Hp} {Q : Hp → Prop} (c : Cls K C) (n : NoAttr K C f) (h : H a = some (.ins C dx fs)) (l : fs.lookup f = some v)
    (q : tv (fun y H2 => rd v y H2 fun z H3 => ∃ dx' fs', H3 a = some (.ins C dx' fs') ∧ fs'.length < 1000 ∧ Q (upd H3 a (.ins C dx' (putF f z fs')))) H) : rFldA K f tv rd (.ref a) H Q := ⟨a, C, dx, fs, v, rfl, h, c, n, l, q⟩
/-! ### == and != of data that is the same -/
theorem shaped_lay {d : PyData} (h : SeqAt.shaped d = true) : d.canLay0 = true := by
  unfold SeqAt.shaped at h
  simp only [Bool.and_eq_true] at h
  exact h.1
theorem i_neD {K : PySem.W.Frag} {x y : V} {d : PyData} {H : Hp} {Q : VK} (h1 : Dp K H x d) (h2 : Dp K H y d) (hs : SeqAt.shaped d = true) (q : Q (.bl false) H) : rNeD K x y H Q :=
  ⟨d, d, h1, h2, hs, hs, by rw [SeqAt.eqv_refl d (shaped_lay hs)]; exact q⟩
theorem i_eqD {K : PySem.W.Frag} {x y : V} {d : PyData} {H : Hp} {Q : VK} (h1 : Dp K H x d) (h2 : Dp K H y d) (hs : SeqAt.shaped d = true) (q : Q (.bl true) H) : rEqD K x y H Q :=
  ⟨d, d, h1, h2, hs, hs, by rw [SeqAt.eqv_refl d (shaped_lay hs)]; exact q⟩

/-! ### own exceptions with an __init__ that keeps its arguments -/
def rMkO (C : Addr) (sp : Sp) (dvs : List V) : List V → Hp → XK → Prop := fun vs H1 Q => vs.length ≤ 1000 ∧ ∀ a, H1 a = none → sp (.ref a :: (vs ++ dvs)) (upd H1 a (exo a C none))
  (fun v H2 => v = .non ∧ ∃ (d : Addr) (fs : List (Str × V)), H2 a = some (exo a C (some d)) ∧ H2 d = some (exd d fs) ∧ H1 d = none ∧ Q (.ref C) (some d) (upd (del H2 a) d (.xd fs))) (fun _ _ _ => False)
theorem tMkO_eq {C : Addr} {sp : Sp} {dvs : List V} {ta : TA} {σ : L2.St} {H : Hp} {Q : XK} : tMkO C sp dvs ta σ H Q = ta σ H fun vs H1 => rMkO C sp dvs vs H1 Q := rfl
def spX1 (C : Addr) (f : Str) : Sp := fun vs H Q _ => ∃ (a : Addr) (v : V), vs = [.ref a, v] ∧ H a = some (exo a C none) ∧ ∀ dx, H dx = none → dx ≠ a → Q .non (upd (upd H dx (exd dx [(f, v)])) a (exo a C (some dx)))
theorem i_mkO1 {C : Addr} {f : Str} {v : V} {H : Hp} {Q : XK} (q : ∀ dx, H dx = none → Q (.ref C) (some dx) (upd H dx (.xd [(f, v)]))) : rMkO C (spX1 C f) [] [v] H Q := by
  refine ⟨by show 1 ≤ 1000; decide, fun a ha => ⟨a, v, rfl, upd_same, fun dx hd hne => ⟨rfl, dx, [(f, v)], upd_same, by rw [upd_ne hne, upd_same], by rw [upd_ne hne] at hd; exact hd, ?_⟩⟩⟩
  have hd : H dx = none := by rw [upd_ne hne] at hd; exact hd
  have e : upd (del (upd (upd (upd H a (exo a C none)) dx (exd dx [(f, v)])) a (exo a C (some dx))) a) dx (.xd [(f, v)]) = upd H dx (.xd [(f, v)]) := by
    funext b
    by_cases hb : b = dx
    · subst hb; rw [upd_same, upd_same]
    · rw [upd_ne hb, upd_ne hb]
      by_cases hb2 : b = a
      · subst hb2; rw [del_same, ha]
      · rw [del_ne hb2, upd_ne hb2, upd_ne hb, upd_ne hb2]
  rw [e]
  exact q dx hd
def rOst (K : PySem.W.Frag) (f : Str) : V → V → Hp → (Hp → Prop) → Prop := fun x y H2 Q => ∃ a C : Addr, x = .ref a ∧ OexC K C ∧ PySem.W.findIn K (.ref C) f = some none ∧
  ((H2 a = some (exo a C none) ∧ ∀ dx, H2 dx = none → dx ≠ a → Q (upd (upd H2 dx (exd dx [(f, y)])) a (exo a C (some dx)))) ∨
    ∃ (dx : Addr) (fs : List (Str × V)), H2 a = some (exo a C (some dx)) ∧ H2 dx = some (exd dx fs) ∧ fs.length ≤ 900 ∧ Q (upd H2 dx (exd dx ((f, y) :: fs))))
theorem tOst_eq {K : PySem.W.Frag} {f : Str} {to te : TE} {D : Ends} {σ : L2.St} {H : Hp} : tOst K f to te D σ H = te σ H fun y H1 => to σ H1 fun x H2 => rOst K f x y H2 fun H3 => D.nx σ H3 := rfl
theorem i_ost {K : PySem.W.Frag} {C a : Addr} {f : Str} {y : V} {H : Hp} {Q : Hp → Prop} (T : OexC K C) (n : PySem.W.findIn K (.ref C) f = some none) (h : H a = some (exo a C none)) (q : ∀ dx, H dx = none → dx ≠ a → Q (upd (upd H dx (exd dx [(f, y)])) a (exo a C (some dx)))) : rOst K f (.ref a) y H Q := ⟨a, C, rfl, T, n, .inl ⟨h, q⟩⟩
theorem i_catchAs {K : PySem.W.Frag} {c cls : Value} {i : Nat} {ts : Addr → Value → Option Addr → TS} {Wout : WX} {D : Ends} {d : Option Addr} {σ : L2.St} {H : Hp} (h : PySem.W.exmOne K cls c = some true)
    (q : ∀ a, H a = none → ts a cls d { nx := fun σ' H' => D.nx (σ'.set i none) H', rt := D.rt, bk := fun σ' H' => D.bk (σ'.set i none) H', ct := fun σ' H' => D.ct (σ'.set i none) H' } (σ.set i (some (.ref a))) H) : wAs K c i ts Wout D cls d σ H := ⟨true, h, fun _ a n => q a n, fun z => nomatch z⟩
theorem i_catch {K : PySem.W.Frag} {c cls : Value} {ts : Addr → Value → Option Addr → TS} {Wout : WX} {D : Ends} {d : Option Addr} {σ : L2.St} {H : Hp} (h : PySem.W.exmOne K cls c = some true) (q : ∀ a, H a = none → ts a cls d D σ H) : wOnly K c ts Wout D cls d σ H := ⟨true, h, fun _ a n => q a n, fun z => nomatch z⟩
/-- told.f -/
def rXf (a : Addr) (cls : Value) (d : Option Addr) (C : Addr) (f : Str) : V → Hp → VK → Prop := fun x H1 Q => x = .ref a ∧ cls = .ref C ∧ ∃ (dd : Addr) (fs : List (Str × V)) (v : V), d = some dd ∧ H1 dd = some (.xd fs) ∧ fs.lookup f = some v ∧ Q v H1
theorem tXf_eq {a : Addr} {cls : Value} {d : Option Addr} {C : Addr} {f : Str} {te : TE} {σ : L2.St} {H : Hp} {Q : VK} : tXf a cls d C f te σ H Q = te σ H fun x H1 => rXf a cls d C f x H1 Q := rfl
theorem i_xf {a dd C : Addr} {f : Str} {fs : List (Str × V)} {v : V} {H : Hp} {Q : VK} (h : H dd = some (.xd fs)) (l : fs.lookup f = some v) (q : Q v H) : rXf a (.ref C) (some dd) C f (.ref a) H Q := ⟨rfl, rfl, dd, fs, v, rfl, h, l, q⟩
theorem iRevR_eq {tr : L2.St → Hp → (Int → Int → Hp → Prop) → Prop} {σ : L2.St} {H : Hp} {R : It → Hp → Prop} : iRevR tr σ H R = tr σ H fun a b H1 => -(2 ^ 62) ≤ a ∧ a < 2 ^ 62 ∧ -(2 ^ 62) ≤ b ∧ b < 2 ^ 62 ∧ R (Itc (a + (((b - a).toNat : Nat) : Int) - 1) (-1) (b - a).toNat) H1 := rfl
theorem tRg1_eq {ta : TE} {σ : L2.St} {H : Hp} {Q : Int → Int → Hp → Prop} : tRg1 ta σ H Q = ta σ H fun x H1 => ∃ n, x = .int n ∧ Q 0 n H1 := rfl
theorem tRg2_eq {ta tb : TE} {σ : L2.St} {H : Hp} {Q : Int → Int → Hp → Prop} : tRg2 ta tb σ H Q = ta σ H fun x H1 => tb σ H1 fun y H2 => ∃ i j, x = .int i ∧ y = .int j ∧ Q i j H2 := rfl
theorem tLstRg_eq {te : L2.St → Hp → (Int → Int → Hp → Prop) → Prop} {σ : L2.St} {H : Hp} {Q : VK} : tLstRg te σ H Q = te σ H fun a b H1 => RgOk a b ∧ ∀ q, H1 q = none → Q (.ref q) (upd H1 q (.lst (rgV a b))) := rfl
def rRevL (K : PySem.W.Frag) : V → Hp → VK → Prop := fun x H1 Q => ∃ a xs, x = .ref a ∧ SqL K H1 a xs ∧ ∀ p, H1 p = none → Q (.ref p) (upd H1 p (.lst xs.reverse))
theorem tRevL_eq {K : PySem.W.Frag} {te : TE} {σ : L2.St} {H : Hp} {Q : VK} : tRevL K te σ H Q = te σ H fun x H1 => rRevL K x H1 Q := rfl
theorem i_revL {K : PySem.W.Frag} {H : Hp} {Q : VK} {a : Addr} {xs : List V} (h : SqL K H a xs) (q : ∀ p, H p = none → Q (.ref p) (upd H p (.lst xs.reverse))) : rRevL K (.ref a) H Q := ⟨a, xs, rfl, h, q⟩

local macro_rules | `(tactic| walk_at "rd") => `(tactic| try simp only [L2.start, cxOf, tVar, tC, tOp, tUn, rI0, rI, rU, tCB, tCons, tNil, tAsg, gName, gSub, tDrop, tSub, tAdd, tMul, tCmp, t2I, tIsN, tNotN, tRet, tDGet_eq, sDPut_eq, tMeth_eq, tMethS_eq, tMkO_eq, tOst_eq, tXf_eq, iRevR_eq, tRg1_eq, tRg2_eq, tLstRg_eq, tRevL_eq, tMake, tFld_eq, sFld_eq, sFldAug_eq, rSub, rAdd, tCallS, tDisp, tPairs, rIntA, tDNewK, wipe, tFor_J, tLc_J, iRng1, iRng2, iList, iTup, iStr, tM1, tM0, tBM, tBM0, tSl, tPart, tNoPart, tLst, tTup, sizeLine_eq, Nat.reduceLeDiff, true_and, tIfS, tTest, tB, tAnd, tOr, tNot, tAndV, tOrV, tNotV, tChain, rEq, rNe, rNotB, rIsB, sc_ii, sc_ss, sc_bb, sc_in, sc_ni, sc_nn, sc_is, sc_si, sc_ns, sc_sn, sc_bn, sc_nb, sc_sb, sc_bs, tCall, tNext,  List.map, List.length, List.replicate, List.cons_append, List.nil_append, List.append_nil, List.getElem?_cons_zero, List.getElem?_cons_succ, List.set_cons_zero, List.set_cons_succ, Option.some.injEq, exists_eq_left', exists_eq_left, exists_eq', V.int.injEq, V.str.injEq, V.ref.injEq, V.bl.injEq, List.cons.injEq, and_true, true_and, and_assoc, exists_and_left, Int.reduceLT, Int.reduceNeg, Int.reduceLE, ↓reduceIte, Bool.false_eq_true, Bool.not_true, Bool.not_false, reduceCtorEq, false_and, and_false, exists_false, or_false, false_or, Nat.reduceAdd, Nat.reduceSub, decide_eq_true_eq, decide_true, decide_false])

def topS (i : Nat) : Stmt := PySem.Challenge.pw_warycard_k70_journal.main.body.getD i (.Pass ⟨0, 0, 0, 0⟩)
abbrev s_Fault_init : Stmt := inClass (topS 3) 0
theorem sc_Fault_init : FnScope ["self", "code"] ["self", "code"] (defScope s_Fault_init) := ⟨rfl, rfl, rfl, by decide +kernel, rfl, by decide +kernel, by decide +kernel⟩
abbrev s_Journal_init : Stmt := inClass (topS 9) 0
theorem sc_Journal_init : FnScope ["self", "cells", "start"] ["self", "cells", "start"] (defScope s_Journal_init) := ⟨rfl, rfl, rfl, by decide +kernel, rfl, by decide +kernel, by decide +kernel⟩
abbrev s_Journal_is_open : Stmt := inClass (topS 9) 1
theorem sc_Journal_is_open : FnScope ["self"] ["self"] (defScope s_Journal_is_open) := ⟨rfl, rfl, rfl, by decide +kernel, rfl, by decide +kernel, by decide +kernel⟩
abbrev s_Journal_change : Stmt := inClass (topS 9) 2
theorem sc_Journal_change : FnScope ["self", "place", "word", "count", "entry"] ["self", "place", "word"] (defScope s_Journal_change) := ⟨rfl, rfl, rfl, by decide +kernel, rfl, by decide +kernel, by decide +kernel⟩
abbrev s_Journal_begin : Stmt := inClass (topS 9) 3
theorem sc_Journal_begin : FnScope ["self"] ["self"] (defScope s_Journal_begin) := ⟨rfl, rfl, rfl, by decide +kernel, rfl, by decide +kernel, by decide +kernel⟩
abbrev s_Journal_commit : Stmt := inClass (topS 9) 4
theorem sc_Journal_commit : FnScope ["self"] ["self"] (defScope s_Journal_commit) := ⟨rfl, rfl, rfl, by decide +kernel, rfl, by decide +kernel, by decide +kernel⟩
abbrev s_Journal_abort : Stmt := inClass (topS 9) 5
theorem sc_Journal_abort : FnScope ["self"] ["self"] (defScope s_Journal_abort) := ⟨rfl, rfl, rfl, by decide +kernel, rfl, by decide +kernel, by decide +kernel⟩
abbrev s_Journal_put_back : Stmt := inClass (topS 9) 6
theorem sc_Journal_put_back : FnScope ["self", "index", "entry"] ["self"] (defScope s_Journal_put_back) := ⟨rfl, rfl, rfl, by decide +kernel, rfl, by decide +kernel, by decide +kernel⟩
abbrev s_Journal__forget : Stmt := inClass (topS 9) 7
theorem sc_Journal__forget : FnScope ["self"] ["self"] (defScope s_Journal__forget) := ⟨rfl, rfl, rfl, by decide +kernel, rfl, by decide +kernel, by decide +kernel⟩
abbrev s_Cells_init : Stmt := inClass (topS 11) 0
theorem sc_Cells_init : FnScope ["self", "count"] ["self", "count"] (defScope s_Cells_init) := ⟨rfl, rfl, rfl, by decide +kernel, rfl, by decide +kernel, by decide +kernel⟩
abbrev s_Cells_read : Stmt := inClass (topS 11) 4
theorem sc_Cells_read : FnScope ["self", "place"] ["self", "place"] (defScope s_Cells_read) := ⟨rfl, rfl, rfl, by decide +kernel, rfl, by decide +kernel, by decide +kernel⟩
abbrev s_Cells_write : Stmt := inClass (topS 11) 5
theorem sc_Cells_write : FnScope ["self", "place", "word"] ["self", "place", "word"] (defScope s_Cells_write) := ⟨rfl, rfl, rfl, by decide +kernel, rfl, by decide +kernel, by decide +kernel⟩
abbrev s_law_draws : Stmt := topS 13
theorem sc_law_draws : FnScope ["_law_script", "_law_start", "_law_most", "_law_draws_here", "_law_cell", "_law_number", "_law_mixed", "_law_k"] ["_law_script", "_law_start", "_law_most"] (defScope s_law_draws) := ⟨rfl, rfl, rfl, by decide +kernel, rfl, by decide +kernel, by decide +kernel⟩
abbrev s_law_act : Stmt := topS 14
theorem sc_law_act : FnScope ["_law_journal", "_law_deed", "told"] ["_law_journal", "_law_deed"] (defScope s_law_act) := ⟨rfl, rfl, rfl, by decide +kernel, rfl, by decide +kernel, by decide +kernel⟩
abbrev s_law_change : Stmt := topS 15
theorem sc_law_change : FnScope ["_law_state", "_law_place", "_law_word", "_law_words", "_law_count"] ["_law_state", "_law_place", "_law_word"] (defScope s_law_change) := ⟨rfl, rfl, rfl, by decide +kernel, rfl, by decide +kernel, by decide +kernel⟩
abbrev s_law_expect : Stmt := topS 16
theorem sc_law_expect : FnScope ["_law_state", "_law_deed", "_law_words", "_law_k"] ["_law_state", "_law_deed"] (defScope s_law_expect) := ⟨rfl, rfl, rfl, by decide +kernel, rfl, by decide +kernel, by decide +kernel⟩
abbrev s_law : Stmt := topS 17
theorem sc_law : FnScope ["_law_script", "_law_count", "_law_total", "_law_cells", "_law_journal", "_law_state", "_law_draws_here", "_law_draw", "_law_kind", "_law_rest", "_law_deed", "_law_place", "_law_k"] ["_law_script"] (defScope s_law) := ⟨rfl, rfl, rfl, by decide +kernel, rfl, by decide +kernel, by decide +kernel⟩
/-- what the top has left -/
structure Txt (K : PySem.W.Frag) (mg : Str → Option Value) where
  f_Fault_init : Addr
  d_Fault_init : FuncData
  k_Fault_init : Fun K "__init__" "Fault.__init__" s_Fault_init f_Fault_init d_Fault_init
  b_Fault_init : Binds K d_Fault_init ["self", "code"] []
  f_Journal_init : Addr
  d_Journal_init : FuncData
  k_Journal_init : Fun K "__init__" "Journal.__init__" s_Journal_init f_Journal_init d_Journal_init
  b_Journal_init : Binds K d_Journal_init ["self", "cells", "start"] []
  f_Journal_is_open : Addr
  d_Journal_is_open : FuncData
  k_Journal_is_open : Fun K "is_open" "Journal.is_open" s_Journal_is_open f_Journal_is_open d_Journal_is_open
  b_Journal_is_open : Binds K d_Journal_is_open ["self"] []
  f_Journal_change : Addr
  d_Journal_change : FuncData
  k_Journal_change : Fun K "change" "Journal.change" s_Journal_change f_Journal_change d_Journal_change
  b_Journal_change : Binds K d_Journal_change ["self", "place", "word"] []
  f_Journal_begin : Addr
  d_Journal_begin : FuncData
  k_Journal_begin : Fun K "begin" "Journal.begin" s_Journal_begin f_Journal_begin d_Journal_begin
  b_Journal_begin : Binds K d_Journal_begin ["self"] []
  f_Journal_commit : Addr
  d_Journal_commit : FuncData
  k_Journal_commit : Fun K "commit" "Journal.commit" s_Journal_commit f_Journal_commit d_Journal_commit
  b_Journal_commit : Binds K d_Journal_commit ["self"] []
  f_Journal_abort : Addr
  d_Journal_abort : FuncData
  k_Journal_abort : Fun K "abort" "Journal.abort" s_Journal_abort f_Journal_abort d_Journal_abort
  b_Journal_abort : Binds K d_Journal_abort ["self"] []
  f_Journal_put_back : Addr
  d_Journal_put_back : FuncData
  k_Journal_put_back : Fun K "put_back" "Journal.put_back" s_Journal_put_back f_Journal_put_back d_Journal_put_back
  b_Journal_put_back : Binds K d_Journal_put_back ["self"] []
  f_Journal__forget : Addr
  d_Journal__forget : FuncData
  k_Journal__forget : Fun K "_forget" "Journal._forget" s_Journal__forget f_Journal__forget d_Journal__forget
  b_Journal__forget : Binds K d_Journal__forget ["self"] []
  f_Cells_init : Addr
  d_Cells_init : FuncData
  k_Cells_init : Fun K "__init__" "Cells.__init__" s_Cells_init f_Cells_init d_Cells_init
  b_Cells_init : Binds K d_Cells_init ["self", "count"] []
  f_Cells_read : Addr
  d_Cells_read : FuncData
  k_Cells_read : Fun K "read" "Cells.read" s_Cells_read f_Cells_read d_Cells_read
  b_Cells_read : Binds K d_Cells_read ["self", "place"] []
  f_Cells_write : Addr
  d_Cells_write : FuncData
  k_Cells_write : Fun K "write" "Cells.write" s_Cells_write f_Cells_write d_Cells_write
  b_Cells_write : Binds K d_Cells_write ["self", "place", "word"] []
  f_law_draws : Addr
  d_law_draws : FuncData
  k_law_draws : Fun K "_law_draws" "_law_draws" s_law_draws f_law_draws d_law_draws
  b_law_draws : Binds K d_law_draws ["_law_script", "_law_start", "_law_most"] []
  g_law_draws : mg "_law_draws" = some (.ref f_law_draws)
  f_law_act : Addr
  d_law_act : FuncData
  k_law_act : Fun K "_law_act" "_law_act" s_law_act f_law_act d_law_act
  b_law_act : Binds K d_law_act ["_law_journal", "_law_deed"] []
  g_law_act : mg "_law_act" = some (.ref f_law_act)
  f_law_change : Addr
  d_law_change : FuncData
  k_law_change : Fun K "_law_change" "_law_change" s_law_change f_law_change d_law_change
  b_law_change : Binds K d_law_change ["_law_state", "_law_place", "_law_word"] []
  g_law_change : mg "_law_change" = some (.ref f_law_change)
  f_law_expect : Addr
  d_law_expect : FuncData
  k_law_expect : Fun K "_law_expect" "_law_expect" s_law_expect f_law_expect d_law_expect
  b_law_expect : Binds K d_law_expect ["_law_state", "_law_deed"] []
  g_law_expect : mg "_law_expect" = some (.ref f_law_expect)
  f_law : Addr
  d_law : FuncData
  k_law : Fun K "law" "law" s_law f_law d_law
  b_law : Binds K d_law ["_law_script"] []
  g_law : mg "law" = some (.ref f_law)
  c_CardError : Addr
  g_CardError : mg "CardError" = some (.ref c_CardError)
  c_Fault : Addr
  g_Fault : mg "Fault" = some (.ref c_Fault)
  c_PowerCut : Addr
  g_PowerCut : mg "PowerCut" = some (.ref c_PowerCut)
  c_Journal : Addr
  g_Journal : mg "Journal" = some (.ref c_Journal)
  c_Cells : Addr
  g_Cells : mg "Cells" = some (.ref c_Cells)
  ox_Fault : OexC K c_Fault
  in_Fault : PySem.W.findIn K (.ref c_Fault) "__init__" = some (some (.ref f_Fault_init))
  ti_Fault : PySem.W.typeIn K (.ref f_Fault_init) = some (.type "function")
  on_Fault_code : PySem.W.findIn K (.ref c_Fault) "code" = some none
  xf_Fault : XfC K c_Fault
  ex_Fault_Fault : PySem.W.exmOne K (.ref c_Fault) (.ref c_Fault) = some true
  ex_PowerCut_Fault : PySem.W.exmOne K (.ref c_PowerCut) (.ref c_Fault) = some false
  x_PowerCut : Exc K c_PowerCut
  cl_Journal : Cls K c_Journal
  mk_Journal : Mk K c_Journal f_Journal_init
  me_Journal_is_open : Meth K c_Journal "is_open" f_Journal_is_open
  me_Journal_change : Meth K c_Journal "change" f_Journal_change
  me_Journal_begin : Meth K c_Journal "begin" f_Journal_begin
  me_Journal_commit : Meth K c_Journal "commit" f_Journal_commit
  me_Journal_abort : Meth K c_Journal "abort" f_Journal_abort
  me_Journal_put_back : Meth K c_Journal "put_back" f_Journal_put_back
  me_Journal__forget : Meth K c_Journal "_forget" f_Journal__forget
  nf_Journal_cells : NoAttr K c_Journal "_cells"
  nf_Journal_start : NoAttr K c_Journal "_start"
  nf_Journal_open : NoAttr K c_Journal "_open"
  cl_Cells : Cls K c_Cells
  mk_Cells : Mk K c_Cells f_Cells_init
  me_Cells_read : Meth K c_Cells "read" f_Cells_read
  me_Cells_write : Meth K c_Cells "write" f_Cells_write
  nf_Cells_words : NoAttr K c_Cells "_words"
  nf_Cells_left : NoAttr K c_Cells "_left"
  nf_Cells_on : NoAttr K c_Cells "_on"
  m_abs : mg "abs" = none
  m_int : mg "int" = none
  m_len : mg "len" = none
  m_list : mg "list" = none
  m_range : mg "range" = none
  m_reversed : mg "reversed" = none
  t_MOST_LOG : Tok
  g_MOST_LOG : mg "MOST_LOG" = some (.int (40) t_MOST_LOG)
  t_TRANSACTION : Tok
  g_TRANSACTION : mg "TRANSACTION" = some (.int (-8) t_TRANSACTION)
  t_JOURNAL_CELLS : Tok
  g_JOURNAL_CELLS : mg "JOURNAL_CELLS" = some (.int (81) t_JOURNAL_CELLS)
section
variable {P : Program} {w : World} {K : PySem.W.Frag} {mg : Str → Option Value} {base : Heap}

/-! ### cells.py -/
def cf (l : Addr) (lv : V) (b : Bool) : List (Str × V) := [("_words", .ref l), ("_left", lv), ("_on", .bl b)]
structure CS where
  words : List Int
  left : Option Int
  on : Bool
def lfV : Option Int → V
  | none => .non
  | some i => .int i
/-- a Cells object stands at a, its words at l -/
structure CellsAt (C : Addr) (H : Hp) (a l : Addr) (S : CS) : Prop where
  ob : ∃ dx, H a = some (.ins C dx (cf l (lfV S.left) S.on))
  ws : H l = some (.lst (S.words.map V.int))
  sz : S.words.length ≤ 1000
theorem CellsAt.ne {C : Addr} {H : Hp} {a l : Addr} {S : CS} (c : CellsAt C H a l S) : a ≠ l := by
  obtain ⟨dx, h⟩ := c.ob
  exact ne_of h c.ws (by intro z; cases z)
theorem CellsAt.keep {C : Addr} {H H' : Hp} {a l : Addr} {S : CS} {X : List Addr} (c : CellsAt C H a l S) (k : Kp X H H') (h1 : a ∉ X) (h2 : l ∉ X) : CellsAt C H' a l S := by
  obtain ⟨dx, h⟩ := c.ob
  exact ⟨⟨dx, k a _ h1 h⟩, k l _ h2 c.ws, c.sz⟩
def sp_Cells_init {K : PySem.W.Frag} {mg : Str → Option Value} (T : Txt K mg) : Sp := fun vs H Q _ => ∃ (x dx : Addr) (n : Nat), vs = [.ref x, .int n] ∧ H x = some (.ins T.c_Cells dx []) ∧ n ≤ 1000 ∧
  ∀ H' l, CellsAt T.c_Cells H' x l ⟨List.replicate n 0, none, true⟩ → H l = none → Kp [x] H H' → Q .non H'
theorem ok_Cells_init (T : Txt K mg) : FnOk P w K mg base CX0 1 T.f_Cells_init T.d_Cells_init ["self", "count"] (sp_Cells_init T) := by
  refine T.k_Cells_init.ok sc_Cells_init (fun vs H Q E h => ?_) (fun cdv A outer s H vs Q E hr h => ?_)
  · obtain ⟨x, dx, n, rfl, _⟩ := h
    rfl
  · obtain ⟨x, dx, n, rfl, hx, hn, q⟩ := h
    refine ⟨_, (pss_cons (ps_fldK K (pv 0) (pe_op op_rep (pe_lst (pa_cons pe_int pa_nil)) (pv 1)) rfl)
      (pss_cons (ps_fldK K (pv 0) pe_non rfl)
      (pss_one (ps_fldK K (pv 0) pe_bl rfl)))), ?_⟩
    walk_at "rd"
    refine rdSeq ?_
    walk_at "rd"
    intro p hp
    have xp : x ≠ p := ne_of_none hx hp
    refine i_rep upd_same (by omega) (by omega) (by show 1 * _ ≤ _; rw [sizeLine_eq]; omega) fun l hl => ?_
    have xl : x ≠ l := ne_of_none (same_new hp _ _ hx) hl
    have hx2 : upd (upd H p (.lst [.int 0])) l (.lst (List.replicate ((n : Int)).toNat [V.int 0]).flatten) x = some (.ins T.c_Cells dx []) := same_new hl _ _ (same_new hp _ _ hx)
    refine i_fldS T.cl_Cells T.nf_Cells_words hx2 (by decide) (rdSeq ?_)
    walk_at "rd"
    refine i_fldS T.cl_Cells T.nf_Cells_left upd_same (by show 1 < 1000; decide) ?_
    refine i_fldS T.cl_Cells T.nf_Cells_on upd_same (by show 2 < 1000; decide) ?_
    rw [upd_upd, upd_upd]
    refine q _ l ⟨⟨dx, by rw [upd_same]; rfl⟩, ?_, by show (List.replicate n (0 : Int)).length ≤ 1000; rw [List.length_replicate]; exact hn⟩ ?_ ?_
    · rw [upd_ne (Ne.symm xl), upd_same, rep1, List.map_replicate]; rfl
    · exact (same_new hp).free hl
    · intro b o hb e
      rw [upd_ne (by simpa using hb)]
      exact same_new hl _ _ (same_new hp _ _ e)
def sp_Cells_read {K : PySem.W.Frag} {mg : Str → Option Value} (T : Txt K mg) : Sp := fun vs H Q E => ∃ (a l : Addr) (S : CS) (i : Nat), vs = [.ref a, .int i] ∧ CellsAt T.c_Cells H a l S ∧ i < S.words.length ∧
  (S.on = true → Q (.int (S.words.getD i 0)) H) ∧ (S.on = false → E (.ref T.c_PowerCut) none H)
theorem ok_Cells_read (T : Txt K mg) : FnOk P w K mg base (L2.CX P w) 1 T.f_Cells_read T.d_Cells_read ["self", "place"] (sp_Cells_read T) := by
  refine T.k_Cells_read.okX sc_Cells_read (fun vs H Q E h => ?_) (fun cdv A outer s H vs Q E hr h => ?_)
  · obtain ⟨a, l, S, i, rfl, _⟩ := h
    rfl
  · obtain ⟨a, l, S, i, rfl, c, hi, q1, q2⟩ := h
    refine ⟨_, (pss_cons (ps_if (pt_not (pt_val (pe_fldK K (pv 0) rfl))) (pss_one (ps_raise rfl (takes_of rfl rfl rfl rfl) (pmk_own0 PySem.F.excBase_ValueError T.x_PowerCut.x T.g_PowerCut T.x_PowerCut.kp (raises_own T.x_PowerCut.be T.x_PowerCut.ty) (by exact rfl)))) pss_nil)
      (pss_one (ps_ret (pe_ix (ix_listK K) (pe_fldK K (pv 0) rfl) (pv 1) (fun _ _ => rfl))))), ?_⟩
    walk_at "rd"
    refine rdSeq ?_
    walk_at "rd"
    obtain ⟨dx, h⟩ := c.ob
    refine i_fld T.cl_Cells T.nf_Cells_on h rfl ?_
    walk_at "rd"
    cases e : S.on with
    | false => exact q2 e
    | true =>
      refine i_else (by simp) (i_fld T.cl_Cells T.nf_Cells_words h rfl ?_)
      refine i_ixL (sqL_of c.ws) (atI_nat (j := i) (v := .int (S.words.getD i 0)) ?_) (q1 e)
      rw [List.getElem?_map, List.getElem?_eq_getElem hi, List.getD_eq_getElem?_getD, List.getElem?_eq_getElem hi]; rfl
def writeS (S : CS) (i : Nat) (w : Int) : CS × Bool :=
  if S.on = false then (S, false) else if S.left = some 0 then (⟨S.words, S.left, false⟩, false) else (⟨S.words.set i w, S.left.map (· - 1), true⟩, true)
def sp_Cells_write {K : PySem.W.Frag} {mg : Str → Option Value} (T : Txt K mg) : Sp := fun vs H Q E => ∃ (a l : Addr) (S : CS) (i : Nat) (w : Int), vs = [.ref a, .int i, .int w] ∧ CellsAt T.c_Cells H a l S ∧ i < S.words.length ∧
  ∀ H', CellsAt T.c_Cells H' a l (writeS S i w).1 → Kp [a, l] H H' → ((writeS S i w).2 = true → Q .non H') ∧ ((writeS S i w).2 = false → E (.ref T.c_PowerCut) none H')
theorem ok_Cells_write (T : Txt K mg) : FnOk P w K mg base (L2.CX P w) 1 T.f_Cells_write T.d_Cells_write ["self", "place", "word"] (sp_Cells_write T) := by
  refine T.k_Cells_write.okX sc_Cells_write (fun vs H Q E h => ?_) (fun cdv A outer s H vs Q E hr h => ?_)
  · obtain ⟨a, l, S, i, w, rfl, _⟩ := h
    rfl
  · obtain ⟨a, l, S, i, w, rfl, c, hi, q⟩ := h
    refine ⟨_, (pss_cons (ps_if (pt_not (pt_val (pe_fldK K (pv 0) rfl))) (pss_one (ps_raise rfl (takes_of rfl rfl rfl rfl) (pmk_own0 PySem.F.excBase_ValueError T.x_PowerCut.x T.g_PowerCut T.x_PowerCut.kp (raises_own T.x_PowerCut.be T.x_PowerCut.ty) (by exact rfl)))) pss_nil)
      (pss_cons (ps_if (pt_cmpR op_eq (pe_fldK K (pv 0) rfl) pe_int (nomark _)) (pss_cons (ps_fldK K (pv 0) pe_bl rfl)
      (pss_one (ps_raise rfl (takes_of rfl rfl rfl rfl) (pmk_own0 PySem.F.excBase_ValueError T.x_PowerCut.x T.g_PowerCut T.x_PowerCut.kp (raises_own T.x_PowerCut.be T.x_PowerCut.ty) (by exact rfl))))) pss_nil)
      (C8.pss_cut (ps_if (pt_cmpR op_notN (pe_fldK K (pv 0) rfl) pe_non (nomark _)) (pss_one (ps_fldaugK K (pv 0) pe_int in_sub)) pss_nil)
      (pss_one (ps_asg (pv 2) (pg_sub (pe_fldK K (pv 0) rfl) (pv 1) set_list)))))), ?_⟩
    walk_at "rd"
    refine rdSeq ?_
    walk_at "rd"
    obtain ⟨dx, h⟩ := c.ob
    refine i_fld T.cl_Cells T.nf_Cells_on h rfl ?_
    walk_at "rd"
    have hne := c.ne
    cases e : S.on with
    | false =>
      have ew : writeS S i w = (S, false) := by unfold writeS; rw [if_pos e]
      rw [ew] at q
      exact (q H c (Kp.refl _ _)).2 rfl
    | true =>
      refine i_else (by simp) (rdSeq ?_)
      walk_at "rd"
      refine i_fld T.cl_Cells T.nf_Cells_left h rfl ?_
      have fin : ∀ (dx : Addr) (lv : Option Int) (H1 : Hp), S.left ≠ some 0 → lv = S.left.map (· - 1) → Kp [a, l] H H1 → H1 a = some (.ins T.c_Cells dx (cf l (lfV lv) true)) → H1 l = some (.lst (S.words.map V.int)) →
          tAsg (tVar 2) (gSub (tFld K (tVar 0) (Str.ofString "_words")) (tVar 1) rSetL) { nx := fun x H' => Q V.non H', rt := Q } [some (V.ref a), some (V.int (i : Int)), some (V.int w)] H1 := fun dx lv H1 n0 el kp ha hl => by
        walk_at "rd"
        refine i_fld T.cl_Cells T.nf_Cells_words ha rfl ?_
        refine i_setL hl (j := i) (by rw [List.length_map]; unfold ixN; rw [if_pos (by omega), if_pos (by omega)]; simp) ?_
        have ew : writeS S i w = (⟨S.words.set i w, S.left.map (· - 1), true⟩, true) := by unfold writeS; rw [if_neg (by rw [e]; simp), if_neg n0]
        rw [ew] at q
        refine (q _ ⟨⟨dx, ?_⟩, ?_, by show (S.words.set i w).length ≤ 1000; rw [List.length_set]; exact c.sz⟩ (kp.trans (Kp.set (by simp)))).1 rfl
        · rw [upd_ne hne, ha, el]
        · rw [upd_same, List.map_set]
      cases el : S.left with
      | none =>
        rw [el] at h
        simp only [lfV]
        walk_at "rd"
        refine rdCut (fun σ H1 => H1 = H ∧ σ = [some (V.ref a), some (V.int (i : Int)), some (V.int w)]) ?_ ?_
        · walk_at "rd"
          refine i_fld T.cl_Cells T.nf_Cells_left h rfl ?_
          simp only [lfV]
          walk_at "rd"
        · rintro σ H1 ⟨rfl, rfl⟩
          exact fin dx none _ (by rw [el]; simp) (by rw [el]; rfl) (Kp.refl _ _) (by rw [e] at h; exact h) c.ws
      | some z =>
        rw [el] at h
        simp only [lfV]
        walk_at "rd"
        by_cases hz : z = 0
        · subst hz
          refine i_then rfl (rdSeq ?_)
          walk_at "rd"
          refine i_fldS T.cl_Cells T.nf_Cells_on h (by show 3 < 1000; decide) ?_
          have ew : writeS S i w = (⟨S.words, S.left, false⟩, false) := by unfold writeS; rw [if_neg (by rw [e]; simp), if_pos el]
          rw [ew] at q
          exact (q _ ⟨⟨dx, by rw [upd_same, el]; rfl⟩, by rw [upd_ne (Ne.symm hne)]; exact c.ws, c.sz⟩ (Kp.set (by simp))).2 rfl
        · refine i_else hz (rdCut (fun σ H1 => (∃ dx, H1 a = some (.ins T.c_Cells dx (cf l (lfV (some (z - 1))) true))) ∧ H1 l = some (.lst (S.words.map V.int)) ∧ Kp [a, l] H H1 ∧ σ = [some (V.ref a), some (V.int (i : Int)), some (V.int w)]) ?_ ?_)
          · walk_at "rd"
            refine i_fld T.cl_Cells T.nf_Cells_left h rfl ?_
            simp only [lfV]
            walk_at "rd"
            rw [e] at h
            refine i_fldA T.cl_Cells T.nf_Cells_left h rfl ⟨z, 1, rfl, rfl, dx, _, h, by show 3 < 1000; decide, ⟨dx, by rw [upd_same]; rfl⟩, by rw [upd_ne (Ne.symm hne)]; exact c.ws, Kp.set (by simp)⟩
          · rintro σ H1 ⟨⟨dx', h1⟩, h2, h3, rfl⟩
            exact fin dx' (some (z - 1)) _ (by rw [el]; simpa using hz) (by rw [el]; rfl) h3 h1 h2

/-! ### journal.py -/
inductive Out where
  | ok
  | cut
  | fault
def seqS (r : CS × Out) (k : CS → CS × Out) : CS × Out := match r.2 with
  | .ok => k r.1
  | _ => r
def wS (S : CS) (i : Nat) (w : Int) : CS × Out := ((writeS S i w).1, if (writeS S i w).2 = true then .ok else .cut)
def rdS (S : CS) (i : Nat) (k : Int → CS × Out) : CS × Out := if S.on = true then k (S.words.getD i 0) else (S, .cut)
theorem writeS_len {S : CS} {i : Nat} {w : Int} : (writeS S i w).1.words.length = S.words.length := by
  unfold writeS
  split
  · rfl
  · split
    · rfl
    · exact List.length_set
theorem writeS_on {S : CS} {i : Nat} {w : Int} (h : (writeS S i w).2 = true) : (writeS S i w).1.words = S.words.set i w ∧ (writeS S i w).1.on = true ∧ S.on = true := by
  unfold writeS at h ⊢
  split
  · rename_i e; rw [if_pos e] at h; cases h
  · rename_i e
    rw [if_neg e] at h
    split
    · rename_i e2; rw [if_pos e2] at h; cases h
    · exact ⟨rfl, rfl, by simpa using e⟩
/-- a Journal stands at j, over the cells at c -/
def jf (c : Addr) (st : Nat) (b : Bool) : List (Str × V) := [("_cells", .ref c), ("_start", .int st), ("_open", .bl b)]
def JrnAt (C : Addr) (H : Hp) (j c : Addr) (st : Nat) (b : Bool) : Prop := ∃ dx, H j = some (.ins C dx (jf c st b))
theorem jrn_ne_cells {H : Hp} {C D j c dj dx c' l : Addr} {st : Nat} {b o : Bool} {lv : V} (h1 : H j = some (.ins C dj (jf c' st b))) (h2 : H c = some (.ins D dx (cf l lv o))) : j ≠ c := fun e => by
  subst e
  rw [h2] at h1
  injection h1 with h1
  injection h1 with _ _ h1
  exact absurd (congrArg (List.map Prod.fst) h1) (by show ¬ (([("_words" : Str), "_left", "_on"] : List Str) = [("_cells" : Str), "_start", "_open"]); decide)
theorem JrnAt.keep {C : Addr} {H H' : Hp} {j c : Addr} {st : Nat} {b : Bool} {X : List Addr} (h : JrnAt C H j c st b) (k : Kp X H H') (n : j ∉ X) : JrnAt C H' j c st b := by
  obtain ⟨dx, h⟩ := h
  exact ⟨dx, k _ _ n h⟩
theorem seq_ok {S : CS} {i : Nat} {w : Int} {k : CS → CS × Out} (e : (writeS S i w).2 = true) : seqS (wS S i w) k = k (writeS S i w).1 := by
  unfold seqS wS
  rw [if_pos e]
theorem seq_cut {S : CS} {i : Nat} {w : Int} {k : CS → CS × Out} (e : (writeS S i w).2 = false) : seqS (wS S i w) k = ((writeS S i w).1, .cut) := by
  unfold seqS wS
  rw [if_neg (by rw [e]; exact Bool.false_ne_true)]
theorem wS_ok {S : CS} {i : Nat} {w : Int} (e : (writeS S i w).2 = true) : wS S i w = ((writeS S i w).1, .ok) := by
  unfold wS
  rw [if_pos e]
theorem wS_cut {S : CS} {i : Nat} {w : Int} (e : (writeS S i w).2 = false) : wS S i w = ((writeS S i w).1, .cut) := by
  unfold wS
  rw [if_neg (by rw [e]; exact Bool.false_ne_true)]
theorem rdS_on {S : CS} {i : Nat} {k : Int → CS × Out} (e : S.on = true) : rdS S i k = k (S.words.getD i 0) := if_pos e
theorem rdS_off {S : CS} {i : Nat} {k : Int → CS × Out} (e : S.on = false) : rdS S i k = (S, .cut) := if_neg (by rw [e]; exact Bool.false_ne_true)
def sp_Fault_init {K : PySem.W.Frag} {mg : Str → Option Value} (T : Txt K mg) : Sp := spX1 T.c_Fault "code"
theorem ok_Fault_init (T : Txt K mg) : FnOk P w K mg base CX0 1 T.f_Fault_init T.d_Fault_init ["self", "code"] (sp_Fault_init T) := by
  refine T.k_Fault_init.ok sc_Fault_init (fun vs H Q E h => ?_) (fun cdv A outer s H vs Q E hr h => ?_)
  · obtain ⟨a, v, rfl, _⟩ := h
    rfl
  · obtain ⟨a, v, rfl, ha, q⟩ := h
    refine ⟨_, (pss_one (ps_ost (pv 0) (pv 1) rfl)), ?_⟩
    walk_at "rd"
    exact i_ost T.ox_Fault T.on_Fault_code ha q
def sp_Journal_init {K : PySem.W.Frag} {mg : Str → Option Value} (T : Txt K mg) : Sp := fun vs H Q _ => ∃ (x dx c : Addr) (st : Nat), vs = [.ref x, .ref c, .int st] ∧ H x = some (.ins T.c_Journal dx []) ∧ ∀ H', JrnAt T.c_Journal H' x c st false → Kp [x] H H' → Q .non H'
theorem ok_Journal_init (T : Txt K mg) : FnOk P w K mg base CX0 1 T.f_Journal_init T.d_Journal_init ["self", "cells", "start"] (sp_Journal_init T) := by
  refine T.k_Journal_init.ok sc_Journal_init (fun vs H Q E h => ?_) (fun cdv A outer s H vs Q E hr h => ?_)
  · obtain ⟨x, dx, c, st, rfl, _⟩ := h
    rfl
  · obtain ⟨x, dx, c, st, rfl, hx, q⟩ := h
    refine ⟨_, (pss_cons (ps_fldK K (pv 0) (pv 1) rfl)
      (pss_cons (ps_fldK K (pv 0) (pv 2) rfl)
      (pss_one (ps_fldK K (pv 0) pe_bl rfl)))), ?_⟩
    walk_at "rd"
    refine rdSeq ?_
    walk_at "rd"
    refine i_fldS T.cl_Journal T.nf_Journal_cells hx (by decide) (rdSeq ?_)
    walk_at "rd"
    refine i_fldS T.cl_Journal T.nf_Journal_start upd_same (by show 1 < 1000; decide) ?_
    refine i_fldS T.cl_Journal T.nf_Journal_open upd_same (by show 2 < 1000; decide) ?_
    rw [upd_upd, upd_upd]
    exact q _ ⟨dx, by rw [upd_same]; rfl⟩ (Kp.set (by simp))
def jchange (st : Nat) (b : Bool) (S : CS) (p : Nat) (w : Int) : CS × Out :=
  if b = true then rdS S st fun n => if n = 40 then (S, .fault) else seqS (wS S (st + 1 + 2 * n.toNat) p) fun S1 => seqS (wS S1 (st + 2 + 2 * n.toNat) (S1.words.getD p 0)) fun S2 => seqS (wS S2 st (n + 1)) fun S3 => wS S3 p w
  else wS S p w
def CntOk (st : Nat) (S : CS) : Prop := st + 80 < S.words.length ∧ 0 ≤ S.words.getD st 0 ∧ S.words.getD st 0 ≤ 40
def tellE {K : PySem.W.Frag} {mg : Str → Option Value} (T : Txt K mg) (Q : VK) (E : XK) (o : Out) (H' : Hp) : Prop := match o with
  | .ok => Q .non H'
  | .cut => E (.ref T.c_PowerCut) none H'
  | .fault => ∀ dx, H' dx = none → E (.ref T.c_Fault) (some dx) (upd H' dx (.xd [("code", .int (-8))]))
def sp_Journal_change {K : PySem.W.Frag} {mg : Str → Option Value} (T : Txt K mg) : Sp := fun vs H Q E => ∃ (j c l : Addr) (st : Nat) (b : Bool) (S : CS) (p : Nat) (w : Int), vs = [.ref j, .int p, .int w] ∧ JrnAt T.c_Journal H j c st b ∧ CellsAt T.c_Cells H c l S ∧ p < S.words.length ∧ (b = true → CntOk st S) ∧
  ∀ H', CellsAt T.c_Cells H' c l (jchange st b S p w).1 → Kp [c, l] H H' → tellE T Q E (jchange st b S p w).2 H'
theorem ok_Journal_change (T : Txt K mg) : FnOk P w K mg base (L2.CX P w) 3 T.f_Journal_change T.d_Journal_change ["self", "place", "word"] (sp_Journal_change T) := by
  refine T.k_Journal_change.okX sc_Journal_change (fun vs H Q E h => ?_) (fun cdv A outer s H vs Q E hr h => ?_)
  · obtain ⟨j, c, l, st, b, S, p, w, rfl, _⟩ := h
    rfl
  · obtain ⟨j, c, l, st, b, S, p, w, rfl, hj, hc, hp, hcn, q⟩ := h
    refine ⟨_, (C8.pss_cut (ps_if (pt_val (pe_fldK K (pv 0) rfl)) (pss_cons (ps_set (i := 3) sc_Journal_change.nd rfl (.inl rfl) (pe_methS (pe_fldK K (pv 0) rfl) T.cl_Cells T.me_Cells_read (ok_Cells_read T) (hr.mono (by decide)) T.b_Cells_read (fun σ => passAt (takes_of rfl rfl rfl rfl) σ) (pa_cons (pe_fldK K (pv 0) rfl) pa_nil)))
      (pss_cons (ps_if (pt_cmpR op_eq (pv 3) (pe_glob (v := .int _) rfl T.g_MOST_LOG ⟨_, rfl⟩) (nomark _)) (pss_one (ps_raise rfl (takes_of rfl rfl rfl rfl) (pmk_oex T.ox_Fault T.in_Fault T.ti_Fault (ok_Fault_init T) (hr.mono (by decide)) T.b_Fault_init .nil pass0 rfl T.g_Fault (pa_cons (pe_glob (v := .int _) rfl T.g_TRANSACTION ⟨_, rfl⟩) pa_nil)))) pss_nil)
      (pss_cons (ps_set (i := 4) sc_Journal_change.nd rfl (.inl rfl) (pe_op op_add (pe_op op_add (pe_fldK K (pv 0) rfl) pe_int) (pe_op op_mul pe_int (pv 3))))
      (pss_cons (ps_expr (pe_methS (pe_fldK K (pv 0) rfl) T.cl_Cells T.me_Cells_write (ok_Cells_write T) (hr.mono (by decide)) T.b_Cells_write (fun σ => passAt (takes_of rfl rfl rfl rfl) σ) (pa_cons (pv 4) (pa_cons (pv 1) pa_nil))))
      (pss_cons (ps_expr (pe_methS (pe_fldK K (pv 0) rfl) T.cl_Cells T.me_Cells_write (ok_Cells_write T) (hr.mono (by decide)) T.b_Cells_write (fun σ => passAt (takes_of rfl rfl rfl rfl) σ) (pa_cons (pe_op op_add (pv 4) pe_int) (pa_cons (pe_methS (pe_fldK K (pv 0) rfl) T.cl_Cells T.me_Cells_read (ok_Cells_read T) (hr.mono (by decide)) T.b_Cells_read (fun σ => passAt (takes_of rfl rfl rfl rfl) σ) (pa_cons (pv 1) pa_nil)) pa_nil))))
      (pss_one (ps_expr (pe_methS (pe_fldK K (pv 0) rfl) T.cl_Cells T.me_Cells_write (ok_Cells_write T) (hr.mono (by decide)) T.b_Cells_write (fun σ => passAt (takes_of rfl rfl rfl rfl) σ) (pa_cons (pe_fldK K (pv 0) rfl) (pa_cons (pe_op op_add (pv 3) pe_int) pa_nil)))))))))) pss_nil)
      (pss_one (ps_expr (pe_methS (pe_fldK K (pv 0) rfl) T.cl_Cells T.me_Cells_write (ok_Cells_write T) (hr.mono (by decide)) T.b_Cells_write (fun σ => passAt (takes_of rfl rfl rfl rfl) σ) (pa_cons (pv 1) (pa_cons (pv 2) pa_nil)))))), ?_⟩
    walk_at "rd"
    obtain ⟨dj, hjo⟩ := hj
    obtain ⟨dx, ho⟩ := hc.ob
    have njc : j ≠ c := jrn_ne_cells hjo ho
    have njl : j ≠ l := ne_of hjo hc.ws (by intro z; cases z)
    have nk : j ∉ [c, l] := by simp [njc, njl]
    have last : ∀ (x3 x4 : Option V) (S1 : CS) (H1 : Hp), JrnAt T.c_Journal H1 j c st b → CellsAt T.c_Cells H1 c l S1 → p < S1.words.length → (∀ H', CellsAt T.c_Cells H' c l (wS S1 p w).1 → Kp [c, l] H1 H' → tellE T Q E (wS S1 p w).2 H') →
        tDrop (tMethS T.c_Cells (Str.ofString "write") (sp_Cells_write T) (fun σ => WE (fun cls d x H => E cls d H) σ) (tFld K (tVar 0) (Str.ofString "_cells")) (tCons (tVar 1) (tCons (tVar 2) tNil)))
          { nx := fun x H' => Q V.non H', rt := Q } [some (V.ref j), some (V.int (p : Int)), some (V.int w), x3, x4] H1 := fun x3 x4 S1 H1 hj1 hc1 hp1 q1 => by
      obtain ⟨dj, hjo⟩ := hj1
      obtain ⟨dx, ho⟩ := hc1.ob
      walk_at "rd"
      refine i_fld T.cl_Journal T.nf_Journal_cells hjo rfl (i_meth ho rfl ?_)
      refine ⟨c, l, S1, p, w, rfl, hc1, hp1, fun H' hc' kp => ⟨fun e => ?_, fun e => ?_⟩⟩
      · have := q1 H'
        rw [wS_ok e] at this
        exact this hc' kp
      · have := q1 H'
        rw [wS_cut e] at this
        exact this hc' kp
    cases b with
    | false =>
      refine rdCut (fun σ H1 => H1 = H ∧ σ = [some (V.ref j), some (V.int (p : Int)), some (V.int w), none, none]) ?_ ?_
      · walk_at "rd"
        refine i_fld T.cl_Journal T.nf_Journal_open hjo rfl ?_
        walk_at "rd"
      · rintro σ H1 ⟨rfl, rfl⟩
        exact last _ _ S H1 ⟨dj, hjo⟩ hc hp q
    | true =>
      obtain ⟨hz, h0, h40⟩ := hcn rfl
      obtain ⟨m, hm⟩ : ∃ m : Nat, S.words.getD st 0 = (m : Int) := ⟨(S.words.getD st 0).toNat, by omega⟩
      have q' : ∀ H', CellsAt T.c_Cells H' c l (rdS S st fun n => if n = 40 then (S, .fault) else seqS (wS S (st + 1 + 2 * n.toNat) p) fun S1 => seqS (wS S1 (st + 2 + 2 * n.toNat) (S1.words.getD p 0)) fun S2 => seqS (wS S2 st (n + 1)) fun S3 => wS S3 p w).1 → Kp [c, l] H H' →
          tellE T Q E (rdS S st fun n => if n = 40 then (S, .fault) else seqS (wS S (st + 1 + 2 * n.toNat) p) fun S1 => seqS (wS S1 (st + 2 + 2 * n.toNat) (S1.words.getD p 0)) fun S2 => seqS (wS S2 st (n + 1)) fun S3 => wS S3 p w).2 H' := q
      cases eo : S.on with
      | false =>
        rw [rdS_off eo] at q'
        refine rdCut (fun σ H1 => False) ?_ (fun _ _ h => h.elim)
        walk_at "rd"
        refine i_fld T.cl_Journal T.nf_Journal_open hjo rfl ?_
        walk_at "rd"
        refine rdSeq ?_
        walk_at "rd"
        refine i_fld T.cl_Journal T.nf_Journal_cells hjo rfl (i_meth ho rfl (i_fld T.cl_Journal T.nf_Journal_start hjo rfl ?_))
        exact ⟨c, l, S, st, rfl, hc, by omega, (fun e => by rw [eo] at e; cases e), fun _ => q' H hc (Kp.refl _ _)⟩
      | true =>
        rw [rdS_on eo, hm] at q'
        simp only [Int.toNat_natCast] at q'
        refine rdCut (fun σ H1 => ∃ S3 x3 x4, CellsAt T.c_Cells H1 c l S3 ∧ Kp [c, l] H H1 ∧ p < S3.words.length ∧ (∀ H', CellsAt T.c_Cells H' c l (wS S3 p w).1 → Kp [c, l] H1 H' → tellE T Q E (wS S3 p w).2 H') ∧ σ = [some (V.ref j), some (V.int (p : Int)), some (V.int w), x3, x4]) ?_ ?_
        · walk_at "rd"
          refine i_fld T.cl_Journal T.nf_Journal_open hjo rfl ?_
          walk_at "rd"
          refine rdSeq ?_
          walk_at "rd"
          refine i_fld T.cl_Journal T.nf_Journal_cells hjo rfl (i_meth ho rfl (i_fld T.cl_Journal T.nf_Journal_start hjo rfl ?_))
          refine ⟨c, l, S, st, rfl, hc, by omega, fun _ => ?_, fun e => by rw [eo] at e; cases e⟩
          rw [hm]
          refine rdSeq ?_
          walk_at "rd"
          refine ite2 (fun e40 => ?_) (fun e40 => rdSeq ?_)
          · rw [if_pos e40] at q'
            exact i_mkO1 (q' H hc (Kp.refl _ _))
          · rw [if_neg e40] at q'
            walk_at "rd"
            refine i_fld T.cl_Journal T.nf_Journal_start hjo rfl ?_
            walk_at "rd"
            refine ⟨cm_l (by decide), rdSeq ?_⟩
            walk_at "rd"
            refine i_fld T.cl_Journal T.nf_Journal_cells hjo rfl (i_meth ho rfl ?_)
            refine ⟨c, l, S, st + 1 + 2 * m, p, rfl, hc, by omega, fun H1 hc1 kp1 => ⟨fun e1 => ?_, fun e1 => ?_⟩⟩
            rotate_left
            · rw [seq_cut e1] at q'
              exact q' H1 hc1 kp1
            rw [seq_ok e1] at q'
            have hjo1 := kp1 _ _ nk hjo
            obtain ⟨dx1, ho1⟩ := hc1.ob
            have len1 := writeS_len (S := S) (i := st + 1 + 2 * m) (w := p)
            have on1 := (writeS_on e1).2.1
            generalize (writeS S (st + 1 + 2 * m) p).1 = S1 at q' hc1 len1 on1 ho1
            refine rdSeq ?_
            walk_at "rd"
            refine i_fld T.cl_Journal T.nf_Journal_cells hjo1 rfl (i_meth ho1 rfl (i_fld T.cl_Journal T.nf_Journal_cells hjo1 rfl (i_meth ho1 rfl ?_)))
            refine ⟨c, l, S1, p, rfl, hc1, by omega, fun _ => ?_, fun e => by rw [on1] at e; cases e⟩
            refine ⟨c, l, S1, st + 2 + 2 * m, S1.words.getD p 0, ?_, hc1, by omega, fun H2 hc2 kp2 => ⟨fun e2 => ?_, fun e2 => ?_⟩⟩
            · rw [show ((st + 2 + 2 * m : Nat) : Int) = (st : Int) + 1 + 2 * m + 1 by omega]
            rotate_left
            · rw [seq_cut e2] at q'
              exact q' H2 hc2 (kp1.trans kp2)
            rw [seq_ok e2] at q'
            have hjo2 := kp2 _ _ nk hjo1
            obtain ⟨dx2, ho2⟩ := hc2.ob
            have len2 := writeS_len (S := S1) (i := st + 2 + 2 * m) (w := S1.words.getD p 0)
            generalize (writeS S1 (st + 2 + 2 * m) (S1.words.getD p 0)).1 = S2 at q' hc2 len2 ho2
            walk_at "rd"
            refine i_fld T.cl_Journal T.nf_Journal_cells hjo2 rfl (i_meth ho2 rfl (i_fld T.cl_Journal T.nf_Journal_start hjo2 rfl ?_))
            refine ⟨c, l, S2, st, m + 1, rfl, hc2, by omega, fun H3 hc3 kp3 => ⟨fun e3 => ?_, fun e3 => ?_⟩⟩
            rotate_left
            · rw [seq_cut e3] at q'
              exact q' H3 hc3 (kp1.trans (kp2.trans kp3))
            rw [seq_ok e3] at q'
            have len3 := writeS_len (S := S2) (i := st) (w := m + 1)
            generalize (writeS S2 st (m + 1)).1 = S3 at q' hc3 len3
            exact ⟨S3, hc3, kp1.trans (kp2.trans kp3), by omega, fun H' h' k' => q' H' h' (kp1.trans (kp2.trans (kp3.trans k')))⟩
        · rintro σ H1 ⟨S3, x3, x4, hc3, kp3, hp3, q3, rfl⟩
          exact last _ _ S3 H1 (JrnAt.keep ⟨dj, hjo⟩ kp3 nk) hc3 hp3 q3
def lOut (o : Out) : Bool := match o with
  | .ok => true
  | _ => false
def jforget (st : Nat) (S : CS) : CS × Out := rdS S st fun n => if n ≠ 0 then wS S st 0 else (S, .ok)
/-- the journal after it: closed where all went well -/
def tellJ {K : PySem.W.Frag} {mg : Str → Option Value} (T : Txt K mg) (j c : Addr) (st : Nat) (b : Bool) (Q : VK) (E : XK) (o : Out) (H' : Hp) : Prop := match o with
  | .ok => JrnAt T.c_Journal H' j c st false → Q .non H'
  | .cut => JrnAt T.c_Journal H' j c st b → E (.ref T.c_PowerCut) none H'
  | .fault => JrnAt T.c_Journal H' j c st b → ∀ dx, H' dx = none → E (.ref T.c_Fault) (some dx) (upd H' dx (.xd [("code", .int (-8))]))
def sp_Journal__forget {K : PySem.W.Frag} {mg : Str → Option Value} (T : Txt K mg) : Sp := fun vs H Q E => ∃ (j c l : Addr) (st : Nat) (b : Bool) (S : CS), vs = [.ref j] ∧ JrnAt T.c_Journal H j c st b ∧ CellsAt T.c_Cells H c l S ∧ st < S.words.length ∧
  ∀ H', CellsAt T.c_Cells H' c l (jforget st S).1 → Kp [c, l, j] H H' → tellJ T j c st b Q E (jforget st S).2 H'
theorem ok_Journal__forget (T : Txt K mg) : FnOk P w K mg base (L2.CX P w) 2 T.f_Journal__forget T.d_Journal__forget ["self"] (sp_Journal__forget T) := by
  refine T.k_Journal__forget.okX sc_Journal__forget (fun vs H Q E h => ?_) (fun cdv A outer s H vs Q E hr h => ?_)
  · obtain ⟨j, c, l, st, b, S, rfl, _⟩ := h
    rfl
  · obtain ⟨j, c, l, st, b, S, rfl, hj, hc, hz, q⟩ := h
    refine ⟨_, (C8.pss_cut (ps_if (pt_cmpR op_ne (pe_methS (pe_fldK K (pv 0) rfl) T.cl_Cells T.me_Cells_read (ok_Cells_read T) (hr.mono (by decide)) T.b_Cells_read (fun σ => passAt (takes_of rfl rfl rfl rfl) σ) (pa_cons (pe_fldK K (pv 0) rfl) pa_nil)) pe_int (nomark _)) (pss_one (ps_expr (pe_methS (pe_fldK K (pv 0) rfl) T.cl_Cells T.me_Cells_write (ok_Cells_write T) (hr.mono (by decide)) T.b_Cells_write (fun σ => passAt (takes_of rfl rfl rfl rfl) σ) (pa_cons (pe_fldK K (pv 0) rfl) (pa_cons pe_int pa_nil))))) pss_nil)
      (pss_one (ps_fldK K (pv 0) pe_bl rfl))), ?_⟩
    obtain ⟨dj, hjo⟩ := hj
    obtain ⟨dx, ho⟩ := hc.ob
    have njc : j ≠ c := jrn_ne_cells hjo ho
    have njl : j ≠ l := ne_of hjo hc.ws (by intro z; cases z)
    have nk : j ∉ [c, l] := by simp [njc, njl]
    have fin : ∀ (H1 : Hp) (S1 : CS), CellsAt T.c_Cells H1 c l S1 → Kp [c, l] H H1 → jforget st S = (S1, .ok) → sFld K (tVar 0) (tC (V.bl false)) (Str.ofString "_open") { nx := fun x H' => Q V.non H', rt := Q } [some (V.ref j)] H1 := fun H1 S1 hc1 kp1 e => by
      have hjo1 := kp1 _ _ nk hjo
      walk_at "rd"
      refine i_fldS T.cl_Journal T.nf_Journal_open hjo1 (by show 3 < 1000; decide) ?_
      have q1 := q (upd H1 j (.ins T.c_Journal dj (jf c st false)))
      rw [e] at q1
      refine q1 (hc1.keep (Kp.set (X := [j]) (by simp)) (by simpa using Ne.symm njc) (by simpa using Ne.symm njl)) ((kp1.mono (by simp +contextual)).trans (Kp.set (by simp))) ⟨dj, by rw [upd_same]⟩
    have off : ∀ (H1 : Hp) (S1 : CS), CellsAt T.c_Cells H1 c l S1 → Kp [c, l] H H1 → jforget st S = (S1, .cut) → E (.ref T.c_PowerCut) none H1 := fun H1 S1 hc1 kp1 e => by
      have q1 := q H1
      rw [e] at q1
      exact q1 hc1 (kp1.mono (by simp +contextual)) ⟨dj, kp1 _ _ nk hjo⟩
    cases eo : S.on with
    | false =>
      refine rdCut (fun σ H1 => False) ?_ (fun _ _ h => h.elim)
      walk_at "rd"
      refine i_fld T.cl_Journal T.nf_Journal_cells hjo rfl (i_meth ho rfl (i_fld T.cl_Journal T.nf_Journal_start hjo rfl ?_))
      exact ⟨c, l, S, st, rfl, hc, hz, (fun e => by rw [eo] at e; cases e), fun _ => off H S hc (Kp.refl _ _) (rdS_off eo)⟩
    | true =>
      have ej : jforget st S = if S.words.getD st 0 ≠ 0 then wS S st 0 else (S, .ok) := rdS_on eo
      refine rdCut (fun σ H1 => ∃ S1, CellsAt T.c_Cells H1 c l S1 ∧ Kp [c, l] H H1 ∧ jforget st S = (S1, .ok) ∧ σ = [some (V.ref j)]) ?_ ?_
      · walk_at "rd"
        refine i_fld T.cl_Journal T.nf_Journal_cells hjo rfl (i_meth ho rfl (i_fld T.cl_Journal T.nf_Journal_start hjo rfl ?_))
        refine ⟨c, l, S, st, rfl, hc, hz, fun _ => ?_, fun e => by rw [eo] at e; cases e⟩
        walk_at "rd"
        by_cases hn : S.words.getD st 0 = 0
        · refine i_else (by rw [hn]; simp) ?_
          exact ⟨S, hc, Kp.refl _ _, by rw [ej, if_neg (by rw [hn]; simp)]⟩
        · refine i_then (by simpa using hn) (i_fld T.cl_Journal T.nf_Journal_cells hjo rfl (i_meth ho rfl (i_fld T.cl_Journal T.nf_Journal_start hjo rfl ?_)))
          rw [if_pos hn] at ej
          refine ⟨c, l, S, st, 0, rfl, hc, hz, fun H1 hc1 kp1 => ⟨fun e1 => ?_, fun e1 => ?_⟩⟩
          · exact ⟨_, hc1, kp1, by rw [ej, wS_ok e1]⟩
          · exact off H1 _ hc1 kp1 (by rw [ej, wS_cut e1])
      · rintro σ H1 ⟨S1, hc1, kp1, e, rfl⟩
        exact fin H1 S1 hc1 kp1 e
def jback (st : Nat) : Nat → CS → CS × Out
  | 0, S => (S, .ok)
  | k + 1, S => rdS S (st + 1 + 2 * k) fun p => rdS S (st + 2 + 2 * k) fun x => seqS (wS S p.toNat x) (jback st k)
def jputback (st : Nat) (S : CS) : CS × Out := rdS S st fun n => seqS (jback st n.toNat S) (jforget st)
/-- the log may be put back -/
structure LogOk (st : Nat) (S : CS) : Prop where
  sz : st + 80 < S.words.length
  lo : 0 ≤ S.words.getD st 0
  hi : S.words.getD st 0 ≤ 40
  en : ∀ k : Nat, (k : Int) < S.words.getD st 0 → (st : Int) + 80 < S.words.getD (st + 1 + 2 * k) 0 ∧ S.words.getD (st + 1 + 2 * k) 0 < S.words.length
theorem getD_set_ne {ws : List Int} {i k : Nat} {w : Int} (h : i ≠ k) : (ws.set i w).getD k 0 = ws.getD k 0 := by
  rw [List.getD_eq_getElem?_getD, List.getElem?_set_ne h, ← List.getD_eq_getElem?_getD]
theorem LogOk.far {st : Nat} {S S1 : CS} {p : Nat} {x : Int} (h : LogOk st S) (e : S1.words = S.words.set p x) (hp : st + 80 < p) : LogOk st S1 := by
  have e0 : S1.words.getD st 0 = S.words.getD st 0 := by rw [e, getD_set_ne (by omega)]
  have el : S1.words.length = S.words.length := by rw [e, List.length_set]
  have := h.hi
  refine ⟨by rw [el]; exact h.sz, by rw [e0]; exact h.lo, by rw [e0]; exact h.hi, fun k hk => ?_⟩
  rw [e0] at hk
  have ek : S1.words.getD (st + 1 + 2 * k) 0 = S.words.getD (st + 1 + 2 * k) 0 := by rw [e, getD_set_ne (by omega)]
  rw [ek, el]
  exact h.en k hk
def sp_Journal_put_back {K : PySem.W.Frag} {mg : Str → Option Value} (T : Txt K mg) : Sp := fun vs H Q E => ∃ (j c l : Addr) (st : Nat) (b : Bool) (S : CS), vs = [.ref j] ∧ JrnAt T.c_Journal H j c st b ∧ CellsAt T.c_Cells H c l S ∧ LogOk st S ∧
  ∀ H', CellsAt T.c_Cells H' c l (jputback st S).1 → Kp [c, l, j] H H' → tellJ T j c st b Q E (jputback st S).2 H'
theorem ok_Journal_put_back (T : Txt K mg) : FnOk P w K mg base (L2.CX P w) 3 T.f_Journal_put_back T.d_Journal_put_back ["self"] (sp_Journal_put_back T) := by
  refine T.k_Journal_put_back.okX sc_Journal_put_back (fun vs H Q E h => ?_) (fun cdv A outer s H vs Q E hr h => ?_)
  · obtain ⟨j, c, l, st, b, S, rfl, _⟩ := h
    rfl
  · obtain ⟨j, c, l, st, b, S, rfl, hj, hc, hL, q⟩ := h
    refine ⟨_, (pss_cons (ps_for (passes_of rfl) rfl (pi_revR (by rfl) T.m_reversed (prg_1 (by rfl) T.m_range (pe_methS (pe_fldK K (pv 0) rfl) T.cl_Cells T.me_Cells_read (ok_Cells_read T) (hr.mono (by decide)) T.b_Cells_read (fun σ => passAt (takes_of rfl rfl rfl rfl) σ) (pa_cons (pe_fldK K (pv 0) rfl) pa_nil)))) (pg_name (i := 1) sc_Journal_put_back.nd rfl (Or.inl rfl)) (pss_cons (ps_set (i := 2) sc_Journal_put_back.nd rfl (.inl rfl) (pe_op op_add (pe_op op_add (pe_fldK K (pv 0) rfl) pe_int) (pe_op op_mul pe_int (pv 1))))
      (pss_one (ps_expr (pe_methS (pe_fldK K (pv 0) rfl) T.cl_Cells T.me_Cells_write (ok_Cells_write T) (hr.mono (by decide)) T.b_Cells_write (fun σ => passAt (takes_of rfl rfl rfl rfl) σ) (pa_cons (pe_methS (pe_fldK K (pv 0) rfl) T.cl_Cells T.me_Cells_read (ok_Cells_read T) (hr.mono (by decide)) T.b_Cells_read (fun σ => passAt (takes_of rfl rfl rfl rfl) σ) (pa_cons (pv 2) pa_nil)) (pa_cons (pe_methS (pe_fldK K (pv 0) rfl) T.cl_Cells T.me_Cells_read (ok_Cells_read T) (hr.mono (by decide)) T.b_Cells_read (fun σ => passAt (takes_of rfl rfl rfl rfl) σ) (pa_cons (pe_op op_add (pv 2) pe_int) pa_nil)) pa_nil)))))))
      (pss_one (ps_expr (pe_meth0S (pv 0) T.cl_Journal T.me_Journal__forget (ok_Journal__forget T) (hr.mono (by decide)) T.b_Journal__forget (fun σ => passAt (takes_of rfl rfl rfl rfl) σ))))), ?_⟩
    obtain ⟨dj, hjo⟩ := hj
    obtain ⟨dx, ho⟩ := hc.ob
    have njc : j ≠ c := jrn_ne_cells hjo ho
    have njl : j ≠ l := ne_of hjo hc.ws (by intro z; cases z)
    have nk : j ∉ [c, l] := by simp [njc, njl]
    have off : ∀ (H1 : Hp) (S1 : CS), CellsAt T.c_Cells H1 c l S1 → Kp [c, l] H H1 → jputback st S = (S1, .cut) → E (.ref T.c_PowerCut) none H1 := fun H1 S1 hc1 kp1 e => by
      have q1 := q H1
      rw [e] at q1
      exact q1 hc1 (kp1.mono (by simp +contextual)) ⟨dj, kp1 _ _ nk hjo⟩
    walk_at "rd"
    refine rdSeq ?_
    walk_at "rd"
    refine i_fld T.cl_Journal T.nf_Journal_cells hjo rfl (i_meth ho rfl (i_fld T.cl_Journal T.nf_Journal_start hjo rfl ?_))
    cases eo : S.on with
    | false =>
      exact ⟨c, l, S, st, rfl, hc, by have := hL.sz; omega, (fun e => by rw [eo] at e; cases e), fun _ => off H S hc (Kp.refl _ _) (rdS_off eo)⟩
    | true =>
      refine ⟨c, l, S, st, rfl, hc, by have := hL.sz; omega, fun _ => ?_, fun e => by rw [eo] at e; cases e⟩
      have h0 := hL.lo
      have h40 := hL.hi
      obtain ⟨m, hm⟩ : ∃ m : Nat, S.words.getD st 0 = (m : Int) := ⟨(S.words.getD st 0).toNat, by omega⟩
      have ejp : jputback st S = seqS (jback st m S) (jforget st) := by
        unfold jputback
        rw [rdS_on eo, hm]; rfl
      rw [hm]
      refine ⟨_, rfl, by decide, by decide, by omega, by omega, ?_⟩
      have en : ((m : Int) - 0).toNat = m := by omega
      rw [en]
      refine i_for walk_rangeC (fun i σ H' => (∃ S1, CellsAt T.c_Cells H' c l S1 ∧ LogOk st S1 ∧ S1.words.getD st 0 = (m : Int) ∧ jback st m S = jback st (m - i) S1) ∧ Kp [c, l] H H' ∧ ∃ y1 y2, σ = [some (.ref j), y1, y2])
        ⟨⟨S, hc, hL, hm, rfl⟩, Kp.refl _ _, _, _, rfl⟩ (fun _ _ _ _ _ => trivial) ?_ ?_
      · rintro i _ σ _ H1 hi ⟨⟨S1, hc1, hL1, hm1, ej⟩, kp1, y1, y2, rfl⟩ ⟨rfl, rfl⟩
        obtain ⟨k, ek⟩ : ∃ k, m = i + (k + 1) := ⟨m - i - 1, by omega⟩
        have e1 : m - i = k + 1 := by omega
        rw [e1] at ej
        have ei : (0 + (m : Int) - 1 + (i : Int) * -1) = (k : Int) := by omega
        have hjo1 := kp1 _ _ nk hjo
        obtain ⟨dx1, ho1⟩ := hc1.ob
        refine rdSeq ?_
        walk_at "rd"
        rw [ei]
        refine i_fld T.cl_Journal T.nf_Journal_start hjo1 rfl ?_
        walk_at "rd"
        refine ⟨cm_l (by decide), ?_⟩
        refine i_fld T.cl_Journal T.nf_Journal_cells hjo1 rfl (i_meth ho1 rfl (i_fld T.cl_Journal T.nf_Journal_cells hjo1 rfl (i_meth ho1 rfl ?_)))
        have hsz := hL1.sz
        cases eo1 : S1.on with
        | false =>
          refine ⟨c, l, S1, st + 1 + 2 * k, rfl, hc1, by omega, (fun e => by rw [eo1] at e; cases e), fun _ => off H1 S1 hc1 kp1 ?_⟩
          rw [ejp, ej]
          unfold jback
          rw [rdS_off eo1]; rfl
        | true =>
          refine ⟨c, l, S1, st + 1 + 2 * k, rfl, hc1, by omega, fun _ => ?_, fun e => by rw [eo1] at e; cases e⟩
          refine i_fld T.cl_Journal T.nf_Journal_cells hjo1 rfl (i_meth ho1 rfl ?_)
          refine ⟨c, l, S1, st + 2 + 2 * k, ?_, hc1, by omega, fun _ => ?_, fun e => by rw [eo1] at e; cases e⟩
          · rw [show ((st + 2 + 2 * k : Nat) : Int) = (st : Int) + 1 + 2 * k + 1 by omega]
          obtain ⟨g1, g2⟩ := hL1.en k (by rw [hm1]; omega)
          obtain ⟨p, hp⟩ : ∃ p : Nat, S1.words.getD (st + 1 + 2 * k) 0 = (p : Int) := ⟨(S1.words.getD (st + 1 + 2 * k) 0).toNat, by omega⟩
          rw [hp] at g1 g2 ⊢
          have ejb : jback st m S = seqS (wS S1 p (S1.words.getD (st + 2 + 2 * k) 0)) (jback st k) := by
            rw [ej]
            show rdS _ _ _ = _
            rw [rdS_on eo1, rdS_on eo1, hp]; rfl
          refine ⟨c, l, S1, p, S1.words.getD (st + 2 + 2 * k) 0, rfl, hc1, by omega, fun H2 hc2 kp2 => ⟨fun e2 => ?_, fun e2 => ?_⟩⟩
          · rw [seq_ok e2] at ejb
            have ew := (writeS_on e2).1
            refine ⟨⟨_, hc2, hL1.far ew (by omega), ?_, ?_⟩, kp1.trans kp2⟩
            · rw [ew, getD_set_ne (by omega), hm1]
            · rw [ejb, show m - (i + 1) = k by omega]
          · refine off H2 _ hc2 (kp1.trans kp2) ?_
            rw [ejp, ejb, seq_cut e2]; rfl
      · rintro σ H1 ⟨⟨S1, hc1, hL1, hm1, ej⟩, kp1, y1, y2, rfl⟩
        have hjo1 := kp1 _ _ nk hjo
        have ejf : jputback st S = jforget st S1 := by
          rw [ejp, ej, Nat.sub_self]; rfl
        walk_at "rd"
        refine i_meth hjo1 rfl ⟨j, c, l, st, b, S1, rfl, ⟨dj, hjo1⟩, hc1, by have := hL1.sz; omega, fun H2 hc2 kp2 => ?_⟩
        rw [← ejf] at hc2 ⊢
        exact q H2 hc2 ((kp1.mono (by simp +contextual)).trans kp2)

def sp_Journal_is_open {K : PySem.W.Frag} {mg : Str → Option Value} (T : Txt K mg) : Sp := fun vs H Q _ => ∃ (j c : Addr) (st : Nat) (b : Bool), vs = [.ref j] ∧ JrnAt T.c_Journal H j c st b ∧ Q (.bl b) H
theorem ok_Journal_is_open (T : Txt K mg) : FnOk P w K mg base CX0 1 T.f_Journal_is_open T.d_Journal_is_open ["self"] (sp_Journal_is_open T) := by
  refine T.k_Journal_is_open.ok sc_Journal_is_open (fun vs H Q E h => ?_) (fun cdv A outer s H vs Q E hr h => ?_)
  · obtain ⟨j, c, st, b, rfl, _⟩ := h
    rfl
  · obtain ⟨j, c, st, b, rfl, ⟨dj, hjo⟩, q⟩ := h
    refine ⟨_, (pss_one (ps_ret (pe_fldK K (pv 0) rfl))), ?_⟩
    walk_at "rd"
    exact i_fld T.cl_Journal T.nf_Journal_open hjo rfl q

def sp_Journal_begin {K : PySem.W.Frag} {mg : Str → Option Value} (T : Txt K mg) : Sp := fun vs H Q E => ∃ (j c : Addr) (st : Nat) (b : Bool), vs = [.ref j] ∧ JrnAt T.c_Journal H j c st b ∧
  (b = false → ∀ H', JrnAt T.c_Journal H' j c st true → Kp [j] H H' → Q .non H') ∧ (b = true → ∀ dx, H dx = none → E (.ref T.c_Fault) (some dx) (upd H dx (.xd [("code", .int (-8))])))
theorem ok_Journal_begin (T : Txt K mg) : FnOk P w K mg base (L2.CX P w) 3 T.f_Journal_begin T.d_Journal_begin ["self"] (sp_Journal_begin T) := by
  refine T.k_Journal_begin.okX sc_Journal_begin (fun vs H Q E h => ?_) (fun cdv A outer s H vs Q E hr h => ?_)
  · obtain ⟨j, c, st, b, rfl, _⟩ := h
    rfl
  · obtain ⟨j, c, st, b, rfl, ⟨dj, hjo⟩, q1, q2⟩ := h
    refine ⟨_, (pss_cons (ps_if (pt_val (pe_fldK K (pv 0) rfl)) (pss_one (ps_raise rfl (takes_of rfl rfl rfl rfl) (pmk_oex T.ox_Fault T.in_Fault T.ti_Fault (ok_Fault_init T) (hr.mono (by decide)) T.b_Fault_init .nil pass0 rfl T.g_Fault (pa_cons (pe_glob (v := .int _) rfl T.g_TRANSACTION ⟨_, rfl⟩) pa_nil)))) pss_nil)
      (pss_one (ps_fldK K (pv 0) pe_bl rfl))), ?_⟩
    walk_at "rd"
    refine rdSeq ?_
    walk_at "rd"
    refine i_fld T.cl_Journal T.nf_Journal_open hjo rfl ?_
    walk_at "rd"
    cases b with
    | true => exact i_then rfl (i_mkO1 (q2 rfl))
    | false =>
      refine i_else (by simp) ?_
      refine i_fldS T.cl_Journal T.nf_Journal_open hjo (by show 3 < 1000; decide) ?_
      exact q1 rfl _ ⟨dj, by rw [upd_same]; rfl⟩ (Kp.set (by simp))
def jcommit (st : Nat) (b : Bool) (S : CS) : CS × Out := if b = true then jforget st S else (S, .fault)
def jabort (st : Nat) (b : Bool) (S : CS) : CS × Out := if b = true then jputback st S else (S, .fault)
def sp_Journal_commit {K : PySem.W.Frag} {mg : Str → Option Value} (T : Txt K mg) : Sp := fun vs H Q E => ∃ (j c l : Addr) (st : Nat) (b : Bool) (S : CS), vs = [.ref j] ∧ JrnAt T.c_Journal H j c st b ∧ CellsAt T.c_Cells H c l S ∧ st < S.words.length ∧
  ∀ H', CellsAt T.c_Cells H' c l (jcommit st b S).1 → Kp [c, l, j] H H' → tellJ T j c st b Q E (jcommit st b S).2 H'
theorem ok_Journal_commit (T : Txt K mg) : FnOk P w K mg base (L2.CX P w) 3 T.f_Journal_commit T.d_Journal_commit ["self"] (sp_Journal_commit T) := by
  refine T.k_Journal_commit.okX sc_Journal_commit (fun vs H Q E h => ?_) (fun cdv A outer s H vs Q E hr h => ?_)
  · obtain ⟨j, c, l, st, b, S, rfl, _⟩ := h
    rfl
  · obtain ⟨j, c, l, st, b, S, rfl, ⟨dj, hjo⟩, hc, hz, q⟩ := h
    refine ⟨_, (pss_cons (ps_if (pt_not (pt_val (pe_fldK K (pv 0) rfl))) (pss_one (ps_raise rfl (takes_of rfl rfl rfl rfl) (pmk_oex T.ox_Fault T.in_Fault T.ti_Fault (ok_Fault_init T) (hr.mono (by decide)) T.b_Fault_init .nil pass0 rfl T.g_Fault (pa_cons (pe_glob (v := .int _) rfl T.g_TRANSACTION ⟨_, rfl⟩) pa_nil)))) pss_nil)
      (pss_one (ps_expr (pe_meth0S (pv 0) T.cl_Journal T.me_Journal__forget (ok_Journal__forget T) (hr.mono (by decide)) T.b_Journal__forget (fun σ => passAt (takes_of rfl rfl rfl rfl) σ))))), ?_⟩
    walk_at "rd"
    refine rdSeq ?_
    walk_at "rd"
    refine i_fld T.cl_Journal T.nf_Journal_open hjo rfl ?_
    walk_at "rd"
    cases b with
    | false => exact i_then rfl (i_mkO1 (q H hc (Kp.refl _ _) ⟨dj, hjo⟩))
    | true =>
      refine i_else (by simp) ?_
      exact i_meth hjo rfl ⟨j, c, l, st, true, S, rfl, ⟨dj, hjo⟩, hc, hz, fun H' hc' kp => q H' hc' kp⟩
def sp_Journal_abort {K : PySem.W.Frag} {mg : Str → Option Value} (T : Txt K mg) : Sp := fun vs H Q E => ∃ (j c l : Addr) (st : Nat) (b : Bool) (S : CS), vs = [.ref j] ∧ JrnAt T.c_Journal H j c st b ∧ CellsAt T.c_Cells H c l S ∧ (b = true → LogOk st S) ∧
  ∀ H', CellsAt T.c_Cells H' c l (jabort st b S).1 → Kp [c, l, j] H H' → tellJ T j c st b Q E (jabort st b S).2 H'
theorem ok_Journal_abort (T : Txt K mg) : FnOk P w K mg base (L2.CX P w) 4 T.f_Journal_abort T.d_Journal_abort ["self"] (sp_Journal_abort T) := by
  refine T.k_Journal_abort.okX sc_Journal_abort (fun vs H Q E h => ?_) (fun cdv A outer s H vs Q E hr h => ?_)
  · obtain ⟨j, c, l, st, b, S, rfl, _⟩ := h
    rfl
  · obtain ⟨j, c, l, st, b, S, rfl, ⟨dj, hjo⟩, hc, hz, q⟩ := h
    refine ⟨_, (pss_cons (ps_if (pt_not (pt_val (pe_fldK K (pv 0) rfl))) (pss_one (ps_raise rfl (takes_of rfl rfl rfl rfl) (pmk_oex T.ox_Fault T.in_Fault T.ti_Fault (ok_Fault_init T) (hr.mono (by decide)) T.b_Fault_init .nil pass0 rfl T.g_Fault (pa_cons (pe_glob (v := .int _) rfl T.g_TRANSACTION ⟨_, rfl⟩) pa_nil)))) pss_nil)
      (pss_one (ps_expr (pe_meth0S (pv 0) T.cl_Journal T.me_Journal_put_back (ok_Journal_put_back T) (hr.mono (by decide)) T.b_Journal_put_back (fun σ => passAt (takes_of rfl rfl rfl rfl) σ))))), ?_⟩
    walk_at "rd"
    refine rdSeq ?_
    walk_at "rd"
    refine i_fld T.cl_Journal T.nf_Journal_open hjo rfl ?_
    walk_at "rd"
    cases b with
    | false => exact i_then rfl (i_mkO1 (q H hc (Kp.refl _ _) ⟨dj, hjo⟩))
    | true =>
      refine i_else (by simp) ?_
      exact i_meth hjo rfl ⟨j, c, l, st, true, S, rfl, ⟨dj, hjo⟩, hc, hz rfl, fun H' hc' kp => q H' hc' kp⟩


/-! ### the draws of a script -/
def sp_law_draws {K : PySem.W.Frag} {mg : Str → Option Value} (_ : Txt K mg) : Sp := fun vs H Q _ => ∃ (a : Addr) (ns : List Int) (m : Nat), vs = [.ref a, .int 0, .int m] ∧ SqL K H a (ns.map V.int) ∧ ns.length ≤ 63 ∧
  ∀ (p : Addr) (H' : Hp) (ms : List Int), NewL H H' p (ms.map V.int) → ms.length ≤ m → Q (.ref p) H'
theorem ok_law_draws (T : Txt K mg) : FnOk P w K mg base CX0 1 T.f_law_draws T.d_law_draws ["_law_script", "_law_start", "_law_most"] (sp_law_draws T) := by
  refine T.k_law_draws.ok sc_law_draws (fun vs H Q E h => ?_) (fun cdv A outer s H vs Q E hr h => ?_)
  · obtain ⟨a, ns, m, rfl, _⟩ := h
    rfl
  · obtain ⟨a, ns, m, rfl, hS, hl, q⟩ := h
    refine ⟨_, (pss_cons (ps_set (i := 3) sc_law_draws.nd rfl (.inl rfl) (pe_lst pa_nil))
      (pss_cons (ps_for PassesOwn.never rfl (pi_list (pe_slice (sl_listK K) (pv 0) (po_some (pv 1)) po_none)) (pg_name (i := 4) sc_law_draws.nd rfl (Or.inl rfl)) (pss_cons (ps_set (i := 5) sc_law_draws.nd rfl (.inl rfl) (pe_callB call_abs (by rfl) T.m_abs (by decide +kernel) (pa_cons (pe_callTy call_intI (by rfl) T.m_int (by decide +kernel) (pa_cons (pv 4) pa_nil)) pa_nil)))
      (pss_one (ps_if (pt_cmpR op_lt (pv 5) (pe_op op_pow pe_int pe_int) (nomark _)) (pss_cons (ps_set (i := 6) sc_law_draws.nd rfl (.inl rfl) (pe_op op_modP (pe_callTy call_intI (by rfl) T.m_int (by decide +kernel) (pa_cons (pe_op op_add (pe_op op_mul (pv 5) pe_int) pe_int) pa_nil)) pe_int))
      (pss_cons (ps_expr (pe_bmK K PySem.F.plainAttrs_list PySem.F.slot_list_append PySem.F.type_list_append mt_append (pv 3) (pa_cons (pe_op op_add (pe_op op_mul (pv 6) pe_int) (pe_op op_modP (pe_callTy call_intI (by rfl) T.m_int (by decide +kernel) (pa_cons (pe_op op_add (pe_op op_mul (pv 6) pe_int) (pv 5)) pa_nil)) pe_int)) pa_nil)))
      (pss_one (ps_expr (pe_bmK K PySem.F.plainAttrs_list PySem.F.slot_list_append PySem.F.type_list_append mt_append (pv 3) (pa_cons (pe_op op_add (pe_op op_mul (pe_op op_modP (pe_callTy call_intI (by rfl) T.m_int (by decide +kernel) (pa_cons (pe_op op_add (pe_op op_add (pe_op op_mul (pv 6) pe_int) (pe_op op_fdivW (pv 5) pe_int)) pe_int) pa_nil)) pe_int) pe_int) (pe_op op_modP (pv 5) pe_int)) pa_nil)))))) (pss_one (ps_for PassesOwn.never rfl (pi_range1 (by rfl) T.m_range (pa_cons pe_int pa_nil)) (pg_name (i := 7) sc_law_draws.nd rfl (Or.inl rfl)) (C8.pss_cut (ps_if (pt_cmpR op_gt (pv 5) pe_int (nomark _)) (pss_one (ps_expr (pe_bmK K PySem.F.plainAttrs_list PySem.F.slot_list_append PySem.F.type_list_append mt_append (pv 3) (pa_cons (pe_op op_modP (pe_callTy call_intI (by rfl) T.m_int (by decide +kernel) (pa_cons (pv 5) pa_nil)) (pe_op op_pow pe_int pe_int)) pa_nil)))) pss_nil)
      (pss_one (ps_set (i := 5) sc_law_draws.nd rfl (.inl rfl) (pe_op op_fdivW (pv 5) (pe_op op_pow pe_int pe_int)))))))))))
      (pss_one (ps_ret (pe_slice (sl_listK K) (pv 3) po_none (po_some (pv 2))))))), ?_⟩
    walk_at "rd"
    refine rdSeq ?_
    walk_at "rd"
    intro p hp
    refine rdSeq ?_
    walk_at "rd"
    refine i_slL ((same_new hp).seq hS) fun c hc => ?_
    rw [cut_all]
    have npc : p ≠ c := ne_of_none upd_same hc
    walk_at "rd"
    refine ⟨⟨_, sqL_of upd_same⟩, ?_⟩
    refine i_for (walk_listL (l := ns) (r := V.int)) (fun i σ H' => (∃ ms : List Int, NewL H H' p (ms.map V.int) ∧ ms.length ≤ 12 * i) ∧ H' c = some (.lst (ns.map V.int)) ∧ ∃ y1 y2 y3 y4, σ = [some (.ref a), some (.int 0), some (.int (m : Int)), some (.ref p), y1, y2, y3, y4])
      ⟨⟨[], ⟨hp, (same_new hp).trans (same_new hc), by rw [upd_ne npc]; exact upd_same⟩, Nat.zero_le _⟩, upd_same, _, _, _, _, rfl⟩ (fun i σ H' _ h => sqL_of h.2.1) ?_ ?_
    · rintro i _ σ H1 _ hi ⟨⟨ms, n, hm⟩, hC, y1, y2, y3, y4, rfl⟩ ⟨rfl, x, hx, rfl⟩
      refine rdSeq ?_
      walk_at "rd"
      generalize (if x < 0 then -x else x) = y
      refine ⟨pow18, ite2 (fun _ => rdSeq ?_) (fun _ => ?_)⟩
      · walk_at "rd"
        refine ⟨cm_r (by decide), ?_⟩
        generalize (y * 48611 + 43) % 2147483647 = z
        refine rdSeq ?_
        walk_at "rd"
        refine ⟨ty_app n.sq, cm_r (by decide), cm_r (by decide), i_app n.at_ (by rw [List.length_map]; exact line5' (by omega)) ?_⟩
        have n2 := n.set (ys := List.map V.int ms ++ [V.int (z * 2147483629 + (z * 16807 + y) % 2147483629)])
        refine ⟨ty_app n2.sq, cm_r (by decide), ⟨by decide, by decide⟩, cm_r (by decide), i_app n2.at_ (by rw [List.length_append, List.length_map]; exact line5' (by show _ + 1 ≤ _; omega)) ?_⟩
        have n3 := n2.set (ys := List.map V.int ms ++ [V.int (z * 2147483629 + (z * 16807 + y) % 2147483629)] ++ [V.int ((z * 69621 + y / 9 + 3) % 2147483399 * 7919 + y % 7919)])
        refine ⟨⟨ms ++ [z * 2147483629 + (z * 16807 + y) % 2147483629] ++ [(z * 69621 + y / 9 + 3) % 2147483399 * 7919 + y % 7919], by rw [List.map_append, List.map_append]; exact n3, by simp; omega⟩, ?_⟩
        rw [upd_ne (Ne.symm npc), upd_ne (Ne.symm npc)]; exact hC
      · walk_at "rd"
        refine ⟨by decide, by decide, i_for walk_range (fun j σ H' => (∃ ms : List Int, NewL H H' p (ms.map V.int) ∧ ms.length ≤ 12 * i + j) ∧ H' c = some (.lst (ns.map V.int)) ∧ ∃ (u : Int) (y3 y4 : Option V), σ = [some (.ref a), some (.int 0), some (.int (m : Int)), some (.ref p), some (.int x), some (.int u), y3, y4])
          ⟨⟨ms, n, by omega⟩, hC, y, _, _, rfl⟩ (fun _ _ _ _ _ => trivial) ?_ ?_⟩
        · rintro j _ σ H2 _ hj ⟨⟨ms, n, hm⟩, hC, u, y3, y4, rfl⟩ ⟨rfl, rfl⟩
          have hj : j < 12 := hj
          have hi : i < ns.length := hi
          refine rdCut (fun σ H' => (∃ ms : List Int, NewL H H' p (ms.map V.int) ∧ ms.length ≤ 12 * i + (j + 1)) ∧ H' c = some (.lst (ns.map V.int)) ∧ ∃ (y3 y4 : Option V), σ = [some (.ref a), some (.int 0), some (.int (m : Int)), some (.ref p), some (.int x), some (.int u), y3, y4]) ?_ ?_
          · walk_at "rd"
            refine ite2 (fun _ => ⟨ty_app n.sq, pow14, by decide, i_app n.at_ (by rw [List.length_map]; exact line5' (by omega)) ?_⟩) (fun _ => ⟨⟨ms, n, by omega⟩, hC⟩)
            refine ⟨⟨ms ++ [u % 10 ^ Int.toNat 14], by rw [List.map_append]; exact n.set, by simp; omega⟩, ?_⟩
            rw [upd_ne (Ne.symm npc)]; exact hC
          · rintro σ H3 ⟨⟨ms, n, hm⟩, hC, y3, y4, rfl⟩
            walk_at "rd"
            exact ⟨pow14, ⟨by decide, by decide⟩, ⟨ms, n, hm⟩, hC⟩
        · rintro σ H2 ⟨⟨ms, n, hm⟩, hC, u, y3, y4, rfl⟩
          exact ⟨⟨ms, n, by have : Int.toNat 12 = 12 := rfl; omega⟩, hC, _, _, _, _, rfl⟩
    · rintro σ H1 ⟨⟨ms, n, hm⟩, hC, y1, y2, y3, y4, rfl⟩
      walk_at "rd"
      refine i_slL n.sq fun d hd => ?_
      rw [cut_take, ← List.map_take]
      refine q _ _ _ ⟨n.same.free hd, n.same.trans (same_new hd), upd_same⟩ (List.length_take_le _ _)

theorem range_words {ws : List Int} {n : Nat} (e : ws.length = n) : (List.range n).map (fun i => V.int (ws.getD i 0)) = ws.map V.int := by
  subst e
  apply List.ext_getElem?
  intro i
  rw [List.getElem?_map, List.getElem?_map]
  by_cases h : i < ws.length
  · rw [List.getElem?_range h, List.getElem?_eq_getElem h, Option.map_some, Option.map_some, List.getD_eq_getElem?_getD, List.getElem?_eq_getElem h]; rfl
  · rw [List.getElem?_eq_none (by rw [List.length_range]; omega), List.getElem?_eq_none (by omega)]; rfl
theorem at_int {ns : List Int} {i : Int} (h0 : 0 ≤ i) (h1 : i < ns.length) : ∃ v, atI (ns.map V.int) i = some (.int v) ∧ v ∈ ns := by
  obtain ⟨j, rfl⟩ := Int.eq_ofNat_of_zero_le h0
  have hi : j < ns.length := by omega
  exact ⟨ns[j], atI_nat (by rw [List.getElem?_map, List.getElem?_eq_getElem hi]; rfl), List.getElem_mem hi⟩
/-! ### the plain steps -/
def up (ws : List Int) : CS := ⟨ws, none, true⟩
theorem write_up {ws : List Int} {i : Nat} {w : Int} : writeS (up ws) i w = (up (ws.set i w), true) := rfl
theorem wS_up {ws : List Int} {i : Nat} {w : Int} : wS (up ws) i w = (up (ws.set i w), .ok) := rfl
theorem seq_up {ws : List Int} {i : Nat} {w : Int} {k : CS → CS × Out} : seqS (wS (up ws) i w) k = k (up (ws.set i w)) := rfl
theorem rdS_up {ws : List Int} {i : Nat} {k : Int → CS × Out} : rdS (up ws) i k = k (ws.getD i 0) := rfl
inductive JD where
  | change (p : Nat) (w : Int)
  | begin
  | commit
  | abort
  | back
def JD.vs : JD → List V
  | .change p w => [.str "change", .int p, .int w]
  | .begin => [.str "begin"]
  | .commit => [.str "commit"]
  | .abort => [.str "abort"]
  | .back => [.str "back"]
def JD.ok (n : Nat) : JD → Prop
  | .change p _ => 80 < p ∧ p < n
  | _ => True
/-- a change put into the log: at n the log is full -/
def wchange (ws : List Int) (b : Bool) (p : Nat) (w : Int) : List Int × Bool :=
  if b = true then if ws.getD 0 0 = 40 then (ws, true) else
    ((((ws.set (1 + 2 * (ws.getD 0 0).toNat) p).set (2 + 2 * (ws.getD 0 0).toNat) ((ws.set (1 + 2 * (ws.getD 0 0).toNat) p).getD p 0)).set 0 (ws.getD 0 0 + 1)).set p w, false)
  else (ws.set p w, false)
def wback : Nat → List Int → List Int
  | 0, ws => ws
  | k + 1, ws => wback k (ws.set (ws.getD (1 + 2 * k) 0).toNat (ws.getD (2 + 2 * k) 0))
def wputback (ws : List Int) : List Int := (wback (ws.getD 0 0).toNat ws).set 0 0
def wstep (ws : List Int) (b : Bool) : JD → List Int × Bool × Bool
  | .change p w => ((wchange ws b p w).1, b, (wchange ws b p w).2)
  | .begin => (ws, true, b)
  | .commit => if b = true then (ws.set 0 0, false, false) else (ws, b, true)
  | .abort => if b = true then (wputback ws, false, false) else (ws, b, true)
  | .back => (wputback ws, false, false)
theorem jchange_up {ws : List Int} {b : Bool} {p : Nat} {w : Int} : jchange 0 b (up ws) p w = (up (wchange ws b p w).1, if (wchange ws b p w).2 = true then .fault else .ok) := by
  unfold jchange wchange
  cases b with
  | false => rfl
  | true =>
    rw [if_pos rfl, if_pos rfl, rdS_up]
    by_cases h : ws.getD 0 0 = 40
    · rw [if_pos h, if_pos h]; rfl
    · rw [if_neg h, if_neg h]
      simp only [Nat.zero_add]
      rfl
theorem jback_up : ∀ (k : Nat) (ws : List Int), jback 0 k (up ws) = (up (wback k ws), .ok)
  | 0, ws => rfl
  | k + 1, ws => by
    show rdS _ _ _ = _
    rw [rdS_up, rdS_up, seq_up, jback_up k]
    simp only [Nat.zero_add]
    rfl
theorem jforget_up {ws : List Int} : jforget 0 (up ws) = (up (ws.set 0 0), .ok) := by
  unfold jforget
  rw [rdS_up]
  by_cases h : ws.getD 0 0 = 0
  · rw [if_neg (by simpa using h)]
    have : ws.set 0 0 = ws := by
      cases ws with
      | nil => rfl
      | cons x t =>
        have : x = 0 := h
        rw [this]; rfl
    rw [this]
  · rw [if_pos h]; rfl
theorem jputback_up {ws : List Int} : jputback 0 (up ws) = (up (wputback ws), .ok) := by
  unfold jputback
  rw [rdS_up, jback_up]
  show jforget 0 (up _) = _
  rw [jforget_up]; rfl
theorem wback_len : ∀ (k : Nat) (ws : List Int), (wback k ws).length = ws.length
  | 0, _ => rfl
  | k + 1, ws => by
    show (wback k _).length = _
    rw [wback_len k, List.length_set]
theorem logok_up {ys : List Int} (h1 : 80 < ys.length) (h2 : 0 ≤ ys.getD 0 0) (h3 : ys.getD 0 0 ≤ 40) (h4 : ∀ k : Nat, (k : Int) < ys.getD 0 0 → 80 < ys.getD (1 + 2 * k) 0 ∧ ys.getD (1 + 2 * k) 0 < ys.length) : LogOk 0 (up ys) :=
  ⟨by show 0 + 80 < ys.length; omega, h2, h3, fun k hk => by
    have := h4 k hk
    show ((0 : Nat) : Int) + 80 < ys.getD (0 + 1 + 2 * k) 0 ∧ ys.getD (0 + 1 + 2 * k) 0 < ys.length
    rw [Nat.zero_add]
    omega⟩
theorem logok_en {ys : List Int} (h : LogOk 0 (up ys)) (k : Nat) (hk : (k : Int) < ys.getD 0 0) : 80 < ys.getD (1 + 2 * k) 0 ∧ ys.getD (1 + 2 * k) 0 < ys.length := by
  have : ((0 : Nat) : Int) + 80 < ys.getD (0 + 1 + 2 * k) 0 ∧ ys.getD (0 + 1 + 2 * k) 0 < ys.length := h.en k hk
  rw [Nat.zero_add] at this
  omega
theorem wstep_len {ws : List Int} {b : Bool} {d : JD} : (wstep ws b d).1.length = ws.length := by
  cases d with
  | change p w =>
    show (wchange ws b p w).1.length = _
    unfold wchange
    split
    · split
      · rfl
      · simp
    · simp
  | begin => rfl
  | commit => cases b <;> simp [wstep]
  | abort => cases b <;> simp [wstep, wputback, wback_len]
  | back => simp [wstep, wputback, wback_len]
theorem getD_set_eq {ws : List Int} {i : Nat} {w : Int} (h : i < ws.length) : (ws.set i w).getD i 0 = w := by
  rw [List.getD_eq_getElem?_getD, List.getElem?_set_self h]; rfl
theorem wstep_ok {ws : List Int} {b : Bool} {d : JD} (h : LogOk 0 (up ws)) (hd : d.ok ws.length) : LogOk 0 (up (wstep ws b d).1) := by
  have hz : 0 + 80 < ws.length := h.sz
  have zero : ∀ vs : List Int, vs.length = ws.length → LogOk 0 (up (vs.set 0 0)) := fun vs e => by
    have e0 : (vs.set 0 0).getD 0 0 = 0 := getD_set_eq (by omega)
    exact logok_up (by rw [List.length_set]; omega) (by rw [e0]; omega) (by rw [e0]; omega) fun k hk => by rw [e0] at hk; omega
  cases d with
  | change p w =>
    obtain ⟨hp1, hp2⟩ : 80 < p ∧ p < ws.length := hd
    show LogOk 0 (up (wchange ws b p w).1)
    unfold wchange
    split
    · split
      · exact h
      · rename_i h40
        have l0 : 0 ≤ ws.getD 0 0 := h.lo
        have l1 : ws.getD 0 0 ≤ 40 := h.hi
        refine LogOk.far (S := up (((ws.set (1 + 2 * (ws.getD 0 0).toNat) p).set (2 + 2 * (ws.getD 0 0).toNat) ((ws.set (1 + 2 * (ws.getD 0 0).toNat) p).getD p 0)).set 0 (ws.getD 0 0 + 1))) (p := p) (x := w) ?_ rfl (by omega)
        generalize (ws.set (1 + 2 * (ws.getD 0 0).toNat) p).getD p 0 = x
        have e0 : (((ws.set (1 + 2 * (ws.getD 0 0).toNat) p).set (2 + 2 * (ws.getD 0 0).toNat) x).set 0 (ws.getD 0 0 + 1)).getD 0 0 = ws.getD 0 0 + 1 := getD_set_eq (by simp; omega)
        have el : (((ws.set (1 + 2 * (ws.getD 0 0).toNat) p).set (2 + 2 * (ws.getD 0 0).toNat) x).set 0 (ws.getD 0 0 + 1)).length = ws.length := by simp
        refine logok_up (by rw [el]; omega) (by rw [e0]; omega) (by rw [e0]; omega) fun k hk => ?_
        rw [e0] at hk
        rw [el, getD_set_ne (by omega), getD_set_ne (by omega)]
        by_cases ek : k = (ws.getD 0 0).toNat
        · rw [ek, getD_set_eq (by omega)]; omega
        · rw [getD_set_ne (by omega)]
          exact logok_en h k (by omega)
    · exact h.far rfl (by omega)
  | begin => exact h
  | commit =>
    cases b with
    | true => exact zero ws rfl
    | false => exact h
  | abort =>
    cases b with
    | true => exact zero _ (wback_len _ _)
    | false => exact h
  | back => exact zero _ (wback_len _ _)
/-- nothing, or that the log is full -/
inductive Ans (H H' : Hp) : Bool → V → Prop where
  | non : Ans H H' false .non
  | flt (a : Addr) : H a = none → H' a = some (.tup [.str "fault", .int (-8)]) → Ans H H' true (.ref a)
def sp_law_act {K : PySem.W.Frag} {mg : Str → Option Value} (T : Txt K mg) : Sp := fun vs H Q _ => ∃ (j c l p : Addr) (b : Bool) (ws : List Int) (d : JD), vs = [.ref j, .ref p] ∧ JrnAt T.c_Journal H j c 0 b ∧ CellsAt T.c_Cells H c l (up ws) ∧ H p = some (.tup d.vs) ∧ LogOk 0 (up ws) ∧ d.ok ws.length ∧
  ∀ H' r, JrnAt T.c_Journal H' j c 0 (wstep ws b d).2.1 → CellsAt T.c_Cells H' c l (up (wstep ws b d).1) → Kp [c, l, j] H H' → Ans H H' (wstep ws b d).2.2 r → Q r H'
theorem ok_law_act (T : Txt K mg) : FnOk P w K mg base CX0 5 T.f_law_act T.d_law_act ["_law_journal", "_law_deed"] (sp_law_act T) := by
  refine T.k_law_act.ok sc_law_act (fun vs H Q E h => ?_) (fun cdv A outer s H vs Q E hr h => ?_)
  · obtain ⟨j, c, l, p, b, ws, d, rfl, _⟩ := h
    rfl
  · obtain ⟨j, c, l, p, b, ws, d, rfl, hj, hc, hp, hL, hd, q⟩ := h
    refine ⟨_, (pss_one (ps_try_as (i := 2) rfl rfl sc_law_act.nd rfl rfl ⟨rfl, by decide, .inl T.g_Fault⟩ takes0 (fun W pn xe tk po => (pss_cons (ps_if (pt_cmpR op_eq (pe_ix (ix_tupK K) (pv 1) pe_int (fun _ _ => rfl)) pe_str (nomark _)) (pss_one (ps_ret (pe_methS (pv 0) T.cl_Journal T.me_Journal_change (ok_Journal_change T) (hr.mono (by decide)) T.b_Journal_change (fun σ => passAt tk σ) (pa_cons (pe_ix (ix_tupK K) (pv 1) pe_int (fun _ _ => rfl)) (pa_cons (pe_ix (ix_tupK K) (pv 1) pe_int (fun _ _ => rfl)) pa_nil))))) pss_nil)
      (pss_cons (ps_if (pt_cmpR op_eq (pe_ix (ix_tupK K) (pv 1) pe_int (fun _ _ => rfl)) pe_str (nomark _)) (pss_one (ps_ret (pe_meth0S (pv 0) T.cl_Journal T.me_Journal_begin (ok_Journal_begin T) (hr.mono (by decide)) T.b_Journal_begin (fun σ => passAt tk σ)))) pss_nil)
      (pss_cons (ps_if (pt_cmpR op_eq (pe_ix (ix_tupK K) (pv 1) pe_int (fun _ _ => rfl)) pe_str (nomark _)) (pss_one (ps_ret (pe_meth0S (pv 0) T.cl_Journal T.me_Journal_commit (ok_Journal_commit T) (hr.mono (by decide)) T.b_Journal_commit (fun σ => passAt tk σ)))) pss_nil)
      (pss_cons (ps_if (pt_cmpR op_eq (pe_ix (ix_tupK K) (pv 1) pe_int (fun _ _ => rfl)) pe_str (nomark _)) (pss_one (ps_ret (pe_meth0S (pv 0) T.cl_Journal T.me_Journal_abort (ok_Journal_abort T) (hr.mono (by decide)) T.b_Journal_abort (fun σ => passAt tk σ)))) pss_nil)
      (pss_one (ps_ret (pe_meth0S (pv 0) T.cl_Journal T.me_Journal_put_back (ok_Journal_put_back T) (hr.mono (by decide)) T.b_Journal_put_back (fun σ => passAt tk σ))))))))) (fun a oe cls d pn hz hf => (pss_one (ps_ret (pe_tup (pa_cons pe_str (pa_cons (pe_xf T.xf_Fault T.on_Fault_code hz hf (pv 2) rfl) pa_nil)))))))), ?_⟩
    obtain ⟨dj, hjo⟩ := hj
    have hj : JrnAt T.c_Journal H j c 0 b := ⟨dj, hjo⟩
    have free : ∀ {H1 : Hp} {b1 : Bool} {S1 : CS} {r : Addr}, JrnAt T.c_Journal H1 j c 0 b1 → CellsAt T.c_Cells H1 c l S1 → Kp [c, l, j] H H1 → H1 r = none → H r = none := fun {H1 b1 S1 r} h1 h2 kp hr => by
      cases hh : H r with
      | none => rfl
      | some o =>
        by_cases hb : r ∈ [c, l, j]
        · simp only [List.mem_cons, List.not_mem_nil, or_false] at hb
          rcases hb with rfl | rfl | rfl
          · obtain ⟨_, h'⟩ := h2.ob; rw [hr] at h'; cases h'
          · have := h2.ws; rw [hr] at this; cases this
          · obtain ⟨_, h'⟩ := h1; rw [hr] at h'; cases h'
        · rw [kp r o hb hh] at hr; cases hr
    have ok : ∀ {H1 : Hp} {b1 : Bool} {ws1 : List Int}, wstep ws b d = (ws1, b1, false) → JrnAt T.c_Journal H1 j c 0 b1 → CellsAt T.c_Cells H1 c l (up ws1) → Kp [c, l, j] H H1 → Q .non H1 := fun {H1 b1 ws1} e h1 h2 kp => by
      rw [e] at q
      exact q H1 .non h1 h2 kp .non
    have flt : ∀ {H1 : Hp} {b1 : Bool} {ws1 : List Int}, wstep ws b d = (ws1, b1, true) → JrnAt T.c_Journal H1 j c 0 b1 → CellsAt T.c_Cells H1 c l (up ws1) → Kp [c, l, j] H H1 → ∀ dx, H1 dx = none →
        WE (wAs K (Value.ref T.c_Fault) 2 (fun a cls d => tRet (tTup (tCons (tC (V.str (Str.ofString "fault"))) (tCons (tXf a cls d T.c_Fault (Str.ofString "code") (tVar 2)) tNil)))) (fun x x_1 x_2 x_3 => False) { nx := fun x H' => Q V.non H', rt := Q }) [some (.ref j), some (.ref p), none] (.ref T.c_Fault) (some dx) (upd H1 dx (.xd [("code", .int (-8))])) := fun {H1 b1 ws1} e h1 h2 kp dx hdx => by
      rw [e] at q
      refine i_catchAs T.ex_Fault_Fault fun a ha => ?_
      walk_at "rd"
      refine i_xf upd_same rfl ?_
      intro r hr
      have hr1 : H1 r = none := (same_new hdx).free hr
      have k2 : Kp [] H1 (upd (upd H1 dx (.xd [("code", .int (-8))])) r (.tup [.str "fault", .int (-8)])) := (Kp.new hdx).trans (Kp.new hr)
      exact q _ (.ref r) (h1.keep k2 (by simp)) (h2.keep k2 (by simp) (by simp)) (kp.trans (k2.mono (by simp))) (.flt r (free h1 h2 kp hr1) upd_same)
    walk_at "rd"
    cases d with
    | change pl w =>
      refine rdSeq ?_
      walk_at "rd"
      refine i_ixT (sqT_of hp) (atI_nat (j := 0) rfl) ?_
      walk_at "rd"
      refine i_meth hjo rfl (i_ixT (sqT_of hp) (atI_nat (j := 1) rfl) (i_ixT (sqT_of hp) (atI_nat (j := 2) rfl) ?_))
      refine ⟨j, c, l, 0, b, up ws, pl, w, rfl, hj, hc, hd.2, fun _ => ⟨hL.sz, hL.lo, hL.hi⟩, fun H1 hc1 kp1 => ?_⟩
      rw [jchange_up] at hc1 ⊢
      have njc : j ≠ c := by obtain ⟨_, ho⟩ := hc.ob; exact jrn_ne_cells hjo ho
      have njl : j ≠ l := ne_of hjo hc.ws (by intro z; cases z)
      have hj1 := hj.keep kp1 (by simp [njc, njl])
      have kp2 : Kp [c, l, j] H H1 := kp1.mono (by simp +contextual)
      cases e : (wchange ws b pl w).2 with
      | true =>
        exact flt (b1 := b) (ws1 := (wchange ws b pl w).1) (by show (_, b, (wchange ws b pl w).2) = _; rw [e]) hj1 hc1 kp2
      | false =>
        exact ok (b1 := b) (ws1 := (wchange ws b pl w).1) (by show (_, b, (wchange ws b pl w).2) = _; rw [e]) hj1 hc1 kp2
    | begin =>
      refine rdSeq ?_
      walk_at "rd"
      refine i_ixT (sqT_of hp) (atI_nat (j := 0) rfl) ?_
      walk_at "rd"
      refine i_else (by decide) (rdSeq ?_)
      walk_at "rd"
      refine i_ixT (sqT_of hp) (atI_nat (j := 0) rfl) ?_
      walk_at "rd"
      refine i_meth hjo rfl ⟨j, c, 0, b, rfl, hj, fun e H1 h1 kp => ?_, fun e => ?_⟩
      · have njc : c ∉ [j] := by obtain ⟨_, ho⟩ := hc.ob; simpa using Ne.symm (jrn_ne_cells hjo ho)
        have njl : l ∉ [j] := by simpa using Ne.symm (ne_of hjo hc.ws (by intro z; cases z))
        exact ok (b1 := true) (ws1 := ws) (by show (ws, true, b) = _; rw [e]) h1 (hc.keep kp njc njl) (kp.mono (by simp +contextual))
      · subst e
        exact flt (b1 := true) (ws1 := ws) rfl hj hc (Kp.refl _ _)
    | commit =>
      refine rdSeq ?_
      walk_at "rd"
      refine i_ixT (sqT_of hp) (atI_nat (j := 0) rfl) ?_
      walk_at "rd"
      refine i_else (by decide) (rdSeq ?_)
      walk_at "rd"
      refine i_ixT (sqT_of hp) (atI_nat (j := 0) rfl) ?_
      walk_at "rd"
      refine i_else (by decide) (rdSeq ?_)
      walk_at "rd"
      refine i_ixT (sqT_of hp) (atI_nat (j := 0) rfl) ?_
      walk_at "rd"
      refine i_meth hjo rfl ⟨j, c, l, 0, b, up ws, rfl, hj, hc, by have := hL.sz; omega, fun H1 hc1 kp1 => ?_⟩
      cases b with
      | true =>
        have e : jcommit 0 true (up ws) = (up (ws.set 0 0), .ok) := jforget_up
        rw [e] at hc1 ⊢
        intro h1
        exact ok (b1 := false) (ws1 := ws.set 0 0) rfl h1 hc1 kp1
      | false =>
        intro h1
        exact flt (b1 := false) (ws1 := ws) rfl h1 hc1 kp1
    | abort =>
      refine rdSeq ?_
      walk_at "rd"
      refine i_ixT (sqT_of hp) (atI_nat (j := 0) rfl) ?_
      walk_at "rd"
      refine i_else (by decide) (rdSeq ?_)
      walk_at "rd"
      refine i_ixT (sqT_of hp) (atI_nat (j := 0) rfl) ?_
      walk_at "rd"
      refine i_else (by decide) (rdSeq ?_)
      walk_at "rd"
      refine i_ixT (sqT_of hp) (atI_nat (j := 0) rfl) ?_
      walk_at "rd"
      refine i_else (by decide) (rdSeq ?_)
      walk_at "rd"
      refine i_ixT (sqT_of hp) (atI_nat (j := 0) rfl) ?_
      walk_at "rd"
      refine i_meth hjo rfl ⟨j, c, l, 0, b, up ws, rfl, hj, hc, fun _ => hL, fun H1 hc1 kp1 => ?_⟩
      cases b with
      | true =>
        have e : jabort 0 true (up ws) = (up (wputback ws), .ok) := jputback_up
        rw [e] at hc1 ⊢
        intro h1
        exact ok (b1 := false) (ws1 := wputback ws) rfl h1 hc1 kp1
      | false =>
        intro h1
        exact flt (b1 := false) (ws1 := ws) rfl h1 hc1 kp1
    | back =>
      refine rdSeq ?_
      walk_at "rd"
      refine i_ixT (sqT_of hp) (atI_nat (j := 0) rfl) ?_
      walk_at "rd"
      refine i_else (by decide) (rdSeq ?_)
      walk_at "rd"
      refine i_ixT (sqT_of hp) (atI_nat (j := 0) rfl) ?_
      walk_at "rd"
      refine i_else (by decide) (rdSeq ?_)
      walk_at "rd"
      refine i_ixT (sqT_of hp) (atI_nat (j := 0) rfl) ?_
      walk_at "rd"
      refine i_else (by decide) (rdSeq ?_)
      walk_at "rd"
      refine i_ixT (sqT_of hp) (atI_nat (j := 0) rfl) ?_
      walk_at "rd"
      refine i_else (by decide) ?_
      walk_at "rd"
      refine i_meth hjo rfl ⟨j, c, l, 0, b, up ws, rfl, hj, hc, hL, fun H1 hc1 kp1 => ?_⟩
      rw [jputback_up] at hc1 ⊢
      intro h1
      exact ok (b1 := false) (ws1 := wputback ws) rfl h1 hc1 kp1
/-- the law's state at s, its words at w -/
def sdJ (w : Addr) (b : Bool) : List (Key × V) := [(.inr "words", .ref w), (.inr "open", .bl b)]
structure JSt (H : Hp) (s w : Addr) (ws : List Int) (b : Bool) : Prop where
  ob : H s = some (.dK (sdJ w b))
  ws : H w = some (.lst (ws.map V.int))
theorem JSt.ne {H : Hp} {s w : Addr} {ws : List Int} {b : Bool} (h : JSt H s w ws b) : s ≠ w := ne_of h.ob h.ws (by intro z; cases z)
theorem JSt.keep {H H' : Hp} {s w : Addr} {ws : List Int} {b : Bool} {X : List Addr} (h : JSt H s w ws b) (k : Kp X H H') (h1 : s ∉ X) (h2 : w ∉ X) : JSt H' s w ws b := ⟨k s _ h1 h.ob, k w _ h2 h.ws⟩
theorem JSt.free {H H1 : Hp} {s w r : Addr} {ws : List Int} {b : Bool} (h : JSt H1 s w ws b) (kp : Kp [s, w] H H1) (hr : H1 r = none) : H r = none := by
  cases hh : H r with
  | none => rfl
  | some o =>
    by_cases hb : r ∈ [s, w]
    · simp only [List.mem_cons, List.not_mem_nil, or_false] at hb
      rcases hb with rfl | rfl
      · have := h.ob; rw [hr] at this; cases this
      · have := h.ws; rw [hr] at this; cases this
    · rw [kp r o hb hh] at hr; cases hr
theorem at_words {ws : List Int} {i : Nat} (h : i < ws.length) : atI (ws.map V.int) (i : Int) = some (.int (ws.getD i 0)) :=
  atI_nat (by rw [List.getElem?_map, List.getElem?_eq_getElem h, List.getD_eq_getElem?_getD, List.getElem?_eq_getElem h]; rfl)
def sp_law_change {K : PySem.W.Frag} {mg : Str → Option Value} (_ : Txt K mg) : Sp := fun vs H Q _ => ∃ (s w : Addr) (p : Nat) (x : Int) (b : Bool) (ws : List Int), vs = [.ref s, .int p, .int x] ∧ JSt H s w ws b ∧ LogOk 0 (up ws) ∧ p < ws.length ∧
  ∀ H' r, JSt H' s w (wchange ws b p x).1 b → Kp [s, w] H H' → Ans H H' (wchange ws b p x).2 r → Q r H'
theorem ok_law_change (T : Txt K mg) : FnOk P w K mg base CX0 1 T.f_law_change T.d_law_change ["_law_state", "_law_place", "_law_word"] (sp_law_change T) := by
  refine T.k_law_change.ok sc_law_change (fun vs H Q E h => ?_) (fun cdv A outer s H vs Q E hr h => ?_)
  · obtain ⟨s, w, p, x, b, ws, rfl, _⟩ := h
    rfl
  · obtain ⟨s, w, p, x, b, ws, rfl, hs, hL, hp, q⟩ := h
    refine ⟨_, (pss_cons (ps_set (i := 3) sc_law_change.nd rfl (.inl rfl) (pe_dget (hu_of hr) (pv 0) pe_str (fun _ _ => rfl)))
      (C8.pss_cut (ps_if (pt_val (pe_dget (hu_of hr) (pv 0) pe_str (fun _ _ => rfl))) (pss_cons (ps_set (i := 4) sc_law_change.nd rfl (.inl rfl) (pe_ix (ix_listK K) (pv 3) pe_int (fun _ _ => rfl)))
      (pss_cons (ps_if (pt_cmpR op_eq (pv 4) pe_int (nomark _)) (pss_one (ps_ret (pe_tup (pa_cons pe_str (pa_cons (pe_un un_neg pe_int) pa_nil))))) pss_nil)
      (pss_cons (ps_asg (pv 1) (pg_sub (pv 3) (pe_op op_add pe_int (pe_op op_mul pe_int (pv 4))) set_list))
      (pss_cons (ps_asg (pe_ix (ix_listK K) (pv 3) (pv 1) (fun _ _ => rfl)) (pg_sub (pv 3) (pe_op op_add pe_int (pe_op op_mul pe_int (pv 4))) set_list))
      (pss_one (ps_asg (pe_op op_add (pv 4) pe_int) (pg_sub (pv 3) pe_int set_list))))))) pss_nil)
      (pss_cons (ps_asg (pv 2) (pg_sub (pv 3) (pv 1) set_list))
      (pss_one (ps_ret pe_non))))), ?_⟩
    walk_at "rd"
    refine rdSeq ?_
    walk_at "rd"
    refine i_dget hs.ob rfl ?_
    have hne := hs.ne
    have last : ∀ (x5 : Option V) (H1 : Hp) (vs : List Int), JSt H1 s w vs b → Kp [s, w] H H1 → wchange ws b p x = (vs.set p x, false) → p < vs.length →
        tSeq (tAsg (tVar 2) (gSub (tVar 3) (tVar 1) rSetL)) (tRet (tC V.non)) { nx := fun x H' => Q V.non H', rt := Q } [some (.ref s), some (.int (p : Int)), some (.int x), some (.ref w), x5] H1 := fun x5 H1 vs h1 kp1 e hpl => by
      refine rdSeq ?_
      walk_at "rd"
      refine i_setL h1.ws (j := p) (ixN_of (by rw [List.length_map]; exact hpl)) ?_
      rw [e] at q
      exact q _ .non ⟨by rw [upd_ne hne]; exact h1.ob, by rw [upd_same, List.map_set]⟩ (kp1.trans (Kp.set (by simp))) .non
    have hz : 80 < ws.length := by have : 0 + 80 < ws.length := hL.sz; omega
    have l0 : 0 ≤ ws.getD 0 0 := hL.lo
    have l1 : ws.getD 0 0 ≤ 40 := hL.hi
    cases b with
    | false =>
      refine rdCut (fun σ H1 => H1 = H ∧ ∃ x5, σ = [some (.ref s), some (.int (p : Int)), some (.int x), some (.ref w), x5]) ?_ ?_
      · walk_at "rd"
        refine i_dget hs.ob rfl ?_
        walk_at "rd"
      · rintro σ H1 ⟨rfl, x5, rfl⟩
        exact last _ H1 ws hs (Kp.refl _ _) rfl hp
    | true =>
      have n0 : 0 < ws.length := by omega
      obtain ⟨m, hm⟩ : ∃ m : Nat, ws.getD 0 0 = (m : Int) := ⟨(ws.getD 0 0).toNat, by omega⟩
      have at0 : atI (ws.map V.int) 0 = some (.int (m : Int)) := by rw [← hm]; exact at_words (i := 0) n0
      have ew : wchange ws true p x = if ws.getD 0 0 = 40 then (ws, true) else ((((ws.set (1 + 2 * (ws.getD 0 0).toNat) p).set (2 + 2 * (ws.getD 0 0).toNat) ((ws.set (1 + 2 * (ws.getD 0 0).toNat) p).getD p 0)).set 0 (ws.getD 0 0 + 1)).set p x, false) := rfl
      rw [hm] at ew l1
      by_cases h40 : (m : Int) = 40
      · rw [if_pos h40] at ew
        refine rdCut (fun σ H1 => False) ?_ (fun _ _ h => h.elim)
        walk_at "rd"
        refine i_dget hs.ob rfl ?_
        walk_at "rd"
        refine rdSeq ?_
        walk_at "rd"
        refine i_ixL (sqL_of hs.ws) at0 ?_
        refine rdSeq ?_
        walk_at "rd"
        refine i_then h40 ?_
        intro r hr
        rw [ew] at q
        exact q _ (.ref r) (hs.keep (Kp.new hr (X := [])) (by simp) (by simp)) (Kp.new hr) (.flt r hr upd_same)
      · rw [if_neg h40] at ew
        simp only [Int.toNat_natCast] at ew
        refine rdCut (fun σ H1 => JSt H1 s w (((ws.set (1 + 2 * m) p).set (2 + 2 * m) ((ws.set (1 + 2 * m) p).getD p 0)).set 0 (m + 1)) true ∧ Kp [s, w] H H1 ∧ ∃ x5, σ = [some (.ref s), some (.int (p : Int)), some (.int x), some (.ref w), x5]) ?_ ?_
        · walk_at "rd"
          refine i_dget hs.ob rfl ?_
          walk_at "rd"
          refine rdSeq ?_
          walk_at "rd"
          refine i_ixL (sqL_of hs.ws) at0 ?_
          refine rdSeq ?_
          walk_at "rd"
          refine i_else h40 ?_
          refine rdSeq ?_
          walk_at "rd"
          refine ⟨cm_l (by decide), ?_⟩
          have ix1 : ixN (ws.map V.int).length ((1 + 2 * m : Nat) : Int) = some (1 + 2 * m) := ixN_of (by rw [List.length_map]; omega)
          refine i_setL hs.ws (j := 1 + 2 * m) ix1 ?_
          rw [← List.map_set]
          refine rdSeq ?_
          walk_at "rd"
          refine i_ixL (sqL_of upd_same) (at_words (i := p) (by rw [List.length_set]; exact hp)) ?_
          refine ⟨cm_l (by decide), ?_⟩
          have ix2 : ixN ((ws.set (1 + 2 * m) p).map V.int).length ((2 + 2 * m : Nat) : Int) = some (2 + 2 * m) := ixN_of (by rw [List.length_map, List.length_set]; omega)
          refine i_setL upd_same (j := 2 + 2 * m) ix2 ?_
          rw [← List.map_set, upd_upd]
          walk_at "rd"
          refine i_setL upd_same (j := 0) (ixN_of (n := List.length _) (j := 0) (by rw [List.length_map, List.length_set, List.length_set]; omega)) ?_
          rw [← List.map_set, upd_upd]
          exact ⟨⟨by rw [upd_ne hne]; exact hs.ob, upd_same⟩, Kp.set (by simp)⟩
        · rintro σ H1 ⟨h1, kp1, x5, rfl⟩
          exact last _ H1 _ h1 kp1 ew (by simp; exact hp)
def sp_law_expect {K : PySem.W.Frag} {mg : Str → Option Value} (_ : Txt K mg) : Sp := fun vs H Q _ => ∃ (s w p : Addr) (b : Bool) (ws : List Int) (d : JD), vs = [.ref s, .ref p] ∧ JSt H s w ws b ∧ H p = some (.tup d.vs) ∧ LogOk 0 (up ws) ∧ d.ok ws.length ∧
  ∀ H' r, JSt H' s w (wstep ws b d).1 (wstep ws b d).2.1 → Kp [s, w] H H' → Ans H H' (wstep ws b d).2.2 r → Q r H'
theorem ok_law_expect (T : Txt K mg) : FnOk P w K mg base CX0 2 T.f_law_expect T.d_law_expect ["_law_state", "_law_deed"] (sp_law_expect T) := by
  refine T.k_law_expect.ok sc_law_expect (fun vs H Q E h => ?_) (fun cdv A outer s H vs Q E hr h => ?_)
  · obtain ⟨s, w, p, b, ws, d, rfl, _⟩ := h
    rfl
  · obtain ⟨s, w, p, b, ws, d, rfl, hs, hp, hL, hd, q⟩ := h
    refine ⟨_, (pss_cons (ps_set (i := 2) sc_law_expect.nd rfl (.inl rfl) (pe_dget (hu_of hr) (pv 0) pe_str (fun _ _ => rfl)))
      (pss_cons (ps_if (pt_cmpR op_eq (pe_ix (ix_tupK K) (pv 1) pe_int (fun _ _ => rfl)) pe_str (nomark _)) (pss_one (ps_ret (pe_call (ok_law_change T) (hr.mono (by decide)) (by rfl) T.g_law_change T.k_law_change.kp T.b_law_change .nil pass0 (pa_cons (pv 0) (pa_cons (pe_ix (ix_tupK K) (pv 1) pe_int (fun _ _ => rfl)) (pa_cons (pe_ix (ix_tupK K) (pv 1) pe_int (fun _ _ => rfl)) pa_nil)))))) pss_nil)
      (pss_cons (ps_if (PW.pt (pw_or (PW.pt (pw_and (pt_cmpR op_eq (pe_ix (ix_tupK K) (pv 1) pe_int (fun _ _ => rfl)) pe_str (nomark _)) (pw_and1 (pt_val (pe_dget (hu_of hr) (pv 0) pe_str (fun _ _ => rfl)))))) (pw_or1 (PW.pt (pw_and (pt_cmpR (in_seqK K) (pe_ix (ix_tupK K) (pv 1) pe_int (fun _ _ => rfl)) (pe_lst (pa_cons pe_str (pa_cons pe_str pa_nil))) rfl) (pw_and1 (pt_not (pt_val (pe_dget (hu_of hr) (pv 0) pe_str (fun _ _ => rfl)))))))))) (pss_one (ps_ret (pe_tup (pa_cons pe_str (pa_cons (pe_un un_neg pe_int) pa_nil))))) pss_nil)
      (pss_cons (ps_if (pt_cmpR op_eq (pe_ix (ix_tupK K) (pv 1) pe_int (fun _ _ => rfl)) pe_str (nomark _)) (pss_cons (ps_dput (hu_of hr) (pv 0) pe_str pe_bl rfl)
      (pss_one (ps_ret pe_non))) pss_nil)
      (C8.pss_cut (ps_if (pt_cmpR op_ne (pe_ix (ix_tupK K) (pv 1) pe_int (fun _ _ => rfl)) pe_str (nomark _)) (pss_one (ps_for PassesOwn.never rfl (pi_list (pe_revL (pe_listRg rfl (by rfl) T.m_list (prg_1 (by rfl) T.m_range (pe_ix (ix_listK K) (pv 2) pe_int (fun _ _ => rfl)))))) (pg_name (i := 3) sc_law_expect.nd rfl (Or.inl rfl)) (pss_one (ps_asg (pe_ix (ix_listK K) (pv 2) (pe_op op_add pe_int (pe_op op_mul pe_int (pv 3))) (fun _ _ => rfl)) (pg_sub (pv 2) (pe_ix (ix_listK K) (pv 2) (pe_op op_add pe_int (pe_op op_mul pe_int (pv 3))) (fun _ _ => rfl)) set_list))))) pss_nil)
      (pss_cons (ps_asg pe_int (pg_sub (pv 2) pe_int set_list))
      (pss_cons (ps_dput (hu_of hr) (pv 0) pe_str pe_bl rfl)
      (pss_one (ps_ret pe_non))))))))), ?_⟩
    walk_at "rd"
    refine rdSeq ?_
    walk_at "rd"
    refine i_dget hs.ob rfl ?_
    have hne := hs.ne
    have hz : 80 < ws.length := by have : 0 + 80 < ws.length := hL.sz; omega
    have l0 : 0 ≤ ws.getD 0 0 := hL.lo
    have l1 : ws.getD 0 0 ≤ 40 := hL.hi
    have nps : p ≠ s := ne_of hp hs.ob (by intro z; cases z)
    have npw : p ≠ w := ne_of hp hs.ws (by intro z; cases z)
    have rest : ∀ (H1 : Hp) (vs : List Int), d = .commit ∧ vs = ws ∨ (d = .abort ∨ d = .back) ∧ vs = wback (ws.getD 0 0).toNat ws → wstep ws b d = (vs.set 0 0, false, false) → JSt H1 s w ws b → Kp [] H H1 →
        tSeq (tIfS (tTest (tOp rEq (tOp (rIxT K) (tVar 1) (tC (V.int 0))) (tC (V.str (Str.ofString "begin"))))) (tSeq (sDPut (tVar 0) (tC (V.str (Str.ofString "open"))) (tC (V.bl true))) (tRet (tC V.non))) tNext)
          (C8.tCut (tIfS (tTest (tOp rNe (tOp (rIxT K) (tVar 1) (tC (V.int 0))) (tC (V.str (Str.ofString "commit")))))
              (tFor (iList K (tRevL K (tLstRg (tRg1 (tOp (rIxL K) (tVar 2) (tC (V.int 0))))))) (gName 3)
                (tAsg (tOp (rIxL K) (tVar 2) (tOp (rI0 fun i j => V.int (i + j)) (tC (V.int 2)) (tOp (rI CMul fun i j => V.int (i * j)) (tC (V.int 2)) (tVar 3))))
                  (gSub (tVar 2) (tOp (rIxL K) (tVar 2) (tOp (rI0 fun i j => V.int (i + j)) (tC (V.int 1)) (tOp (rI CMul fun i j => V.int (i * j)) (tC (V.int 2)) (tVar 3)))) rSetL))) tNext)
            (tSeq (tAsg (tC (V.int 0)) (gSub (tVar 2) (tC (V.int 0)) rSetL)) (tSeq (sDPut (tVar 0) (tC (V.str (Str.ofString "open"))) (tC (V.bl false))) (tRet (tC V.non)))))
          { nx := fun x H' => Q V.non H', rt := Q } [some (V.ref s), some (V.ref p), some (V.ref w), none] H1 := fun H1 vs hdv ew h1 kp1 => by
      have hp1 : H1 p = some (.tup d.vs) := kp1 p _ (by simp) hp
      have nb : ∃ x t, d.vs = .str x :: t ∧ x ≠ "begin" ∧ (x = "commit" ↔ d = .commit) := by
        rcases hdv with ⟨rfl, _⟩ | ⟨rfl | rfl, _⟩
        · exact ⟨"commit", [], rfl, by decide, by simp⟩
        · exact ⟨"abort", [], rfl, by decide, by simp; decide⟩
        · exact ⟨"back", [], rfl, by decide, by simp; decide⟩
      obtain ⟨x, t, ev, nx, xc⟩ := nb
      refine rdSeq ?_
      walk_at "rd"
      refine i_ixT (sqT_of hp1) (atI_nat (j := 0) (by rw [ev]; rfl)) ?_
      walk_at "rd"
      refine i_else nx (rdCut (fun σ H2 => JSt H2 s w vs b ∧ Kp [s, w] H H2 ∧ vs.length = ws.length ∧ ∃ y, σ = [some (V.ref s), some (V.ref p), some (V.ref w), y]) ?_ ?_)
      · walk_at "rd"
        refine i_ixT (sqT_of hp1) (atI_nat (j := 0) (by rw [ev]; rfl)) ?_
        walk_at "rd"
        by_cases hc : d = .commit
        · refine i_else (by simpa using xc.mpr hc) ?_
          rcases hdv with ⟨_, rfl⟩ | ⟨h | h, _⟩
          · exact ⟨h1, kp1.mono (by simp), rfl⟩
          · rw [hc] at h; cases h
          · rw [hc] at h; cases h
        · obtain rfl : vs = wback (ws.getD 0 0).toNat ws := by
            rcases hdv with ⟨h, _⟩ | ⟨_, h⟩
            · exact absurd h hc
            · exact h
          refine i_then (by simpa using fun e => hc (xc.mp e)) ?_
          obtain ⟨m, hm⟩ : ∃ m : Nat, ws.getD 0 0 = (m : Int) := ⟨(ws.getD 0 0).toNat, by omega⟩
          have at0 : atI (ws.map V.int) 0 = some (.int (m : Int)) := by rw [← hm]; exact at_words (i := 0) (by omega)
          refine i_ixL (sqL_of h1.ws) at0 ?_
          have erv : (rgV 0 (m : Int)).reverse = (List.range m).reverse.map (fun k : Nat => V.int (k : Int)) := by
            unfold rgV
            rw [← List.map_reverse, show ((m : Int) - 0).toNat = m by omega]
            exact List.map_congr_left fun k _ => by rw [Int.zero_add]
          refine ⟨_, rfl, ⟨by decide, by decide, by omega, by omega, by omega⟩, fun r hr => i_revL (sqL_of upd_same) fun r2 hr2 => ⟨r2, rfl, ⟨_, sqL_of upd_same⟩, ?_⟩⟩
          rw [erv]
          have k2 : Kp [] H1 (upd (upd H1 r (.lst (rgV 0 m))) r2 (.lst ((List.range m).reverse.map (fun k : Nat => V.int (k : Int))))) := (Kp.new hr).trans (Kp.new hr2)
          have n2w : r2 ≠ w := fun e => by subst e; have := same_new (o := .lst (rgV 0 m)) hr _ _ h1.ws; rw [hr2] at this; cases this
          refine i_for (walk_listL (l := (List.range m).reverse) (r := fun k : Nat => V.int (k : Int))) (fun i σ H' => (∃ us : List Int, JSt H' s w us b ∧ LogOk 0 (up us) ∧ us.length = ws.length ∧ us.getD 0 0 = (m : Int) ∧ wback m ws = wback (m - i) us) ∧ Kp [s, w] H H' ∧ H' r2 = some (.lst ((List.range m).reverse.map (fun k : Nat => V.int (k : Int)))) ∧ ∃ y, σ = [some (V.ref s), some (V.ref p), some (V.ref w), y])
            ⟨⟨ws, h1.keep k2 (by simp) (by simp), hL, rfl, hm, rfl⟩, (kp1.trans k2).mono (by simp), upd_same, _, rfl⟩ (fun i σ H' _ h => sqL_of h.2.2.1) ?_ ?_
          · rintro i _ σ _ H3 hi ⟨⟨us, h3, hL3, el3, em3, eb3⟩, kp3, hr3, y, rfl⟩ ⟨rfl, k, hk, rfl⟩
            have hi : i < m := by simpa using hi
            have ek : m = i + (k + 1) := by
              rw [List.getElem?_reverse (by simpa using hi), List.length_range, List.getElem?_range (by omega)] at hk
              have := Option.some.inj hk
              omega
            rw [show m - i = k + 1 by omega] at eb3
            obtain ⟨g1, g2⟩ := logok_en hL3 k (by rw [em3]; omega)
            obtain ⟨pp, hpp⟩ : ∃ pp : Nat, us.getD (1 + 2 * k) 0 = (pp : Int) := ⟨(us.getD (1 + 2 * k) 0).toNat, by omega⟩
            have a1 : atI (us.map V.int) ((1 + 2 * k : Nat) : Int) = some (.int (pp : Int)) := by rw [← hpp]; exact at_words (by omega)
            have a2 : atI (us.map V.int) ((2 + 2 * k : Nat) : Int) = some (.int (us.getD (2 + 2 * k) 0)) := at_words (by omega)
            rw [hpp] at g1 g2
            walk_at "rd"
            refine ⟨cm_l (by decide), ?_⟩
            refine i_ixL (sqL_of h3.ws) a2 ?_
            refine ⟨cm_l (by decide), ?_⟩
            refine i_ixL (sqL_of h3.ws) a1 ?_
            refine i_setL h3.ws (j := pp) (ixN_of (by rw [List.length_map]; omega)) ?_
            rw [← List.map_set]
            have eb : wback m ws = wback k (us.set pp (us.getD (2 + 2 * k) 0)) := by
              rw [eb3]
              show wback k _ = _
              rw [hpp]; rfl
            refine ⟨⟨us.set pp (us.getD (2 + 2 * k) 0), ⟨by rw [upd_ne hne]; exact h3.ob, upd_same⟩, hL3.far (S1 := up (us.set pp (us.getD (2 + 2 * k) 0))) rfl (by omega), by rw [List.length_set]; exact el3, by rw [getD_set_ne (by omega)]; exact em3, by rw [eb, show m - (i + 1) = k by omega]⟩, kp3.trans (Kp.set (by simp)), by rw [upd_ne n2w]; exact hr3⟩
          · rintro σ H3 ⟨⟨us, h3, hL3, el3, em3, eb3⟩, kp3, hr3, y, rfl⟩
            rw [List.length_reverse, List.length_range, Nat.sub_self] at eb3
            have eb3 : wback m ws = us := eb3
            have e2 : wback (ws.getD 0 0).toNat ws = us := by rw [hm]; exact eb3
            exact ⟨by rw [e2]; exact h3, kp3, by rw [e2]; exact el3, _, rfl⟩
      · rintro σ H2 ⟨h2, kp2, el, y, rfl⟩
        refine rdSeq ?_
        walk_at "rd"
        refine i_setL h2.ws (j := 0) (ixN_of (n := List.length _) (j := 0) (by rw [List.length_map]; omega)) ?_
        rw [← List.map_set]
        refine rdSeq ?_
        walk_at "rd"
        refine i_dput (by rw [upd_ne hne]; exact h2.ob) (by show 2 < sizeLine; decide) ?_
        rw [ew] at q
        exact q _ .non ⟨by rw [upd_same]; rfl, by rw [upd_ne (Ne.symm hne), upd_same]⟩ (kp2.trans ((Kp.set (by simp)).trans (Kp.set (by simp)))) .non
    cases d with
    | change pl x =>
      refine rdSeq ?_
      walk_at "rd"
      refine i_ixT (sqT_of hp) (atI_nat (j := 0) rfl) ?_
      walk_at "rd"
      refine i_ixT (sqT_of hp) (atI_nat (j := 1) rfl) (i_ixT (sqT_of hp) (atI_nat (j := 2) rfl) ?_)
      exact ⟨s, w, pl, x, b, ws, rfl, hs, hL, hd.2, fun H' r h1 kp an => q H' r h1 kp an⟩
    | begin =>
      refine rdSeq ?_
      walk_at "rd"
      refine i_ixT (sqT_of hp) (atI_nat (j := 0) rfl) ?_
      walk_at "rd"
      refine i_else (by decide) (rdSeq ?_)
      walk_at "rd"
      refine i_ixT (sqT_of hp) (atI_nat (j := 0) rfl) ?_
      walk_at "rd"
      refine i_dget hs.ob rfl ?_
      walk_at "rd"
      cases b with
      | true =>
        refine i_then rfl ?_
        intro r hr
        exact q _ (.ref r) (hs.keep (Kp.new hr (X := [])) (by simp) (by simp)) (Kp.new hr) (.flt r hr upd_same)
      | false =>
        refine i_else (by simp) (i_ixT (sqT_of hp) (atI_nat (j := 0) rfl) ?_)
        intro a ha
        refine i_inL (.inl (sqL_of upd_same)) rfl rfl ?_
        rw [show inV (V.str "begin") [V.str "commit", V.str "abort"] = false from by decide +kernel]
        walk_at "rd"
        have k1 : Kp [] H (upd H a (.lst [V.str "commit", V.str "abort"])) := Kp.new ha
        refine rdSeq ?_
        walk_at "rd"
        refine i_ixT (sqT_of (k1 _ _ (by simp) hp)) (atI_nat (j := 0) rfl) ?_
        walk_at "rd"
        refine rdSeq ?_
        walk_at "rd"
        refine i_dput (hs.keep k1 (by simp) (by simp)).ob (by show 2 < sizeLine; decide) ?_
        walk_at "rd"
        exact q _ .non ⟨by rw [upd_same]; rfl, by rw [upd_ne (Ne.symm hne)]; exact (hs.keep k1 (by simp) (by simp)).ws⟩ ((k1.mono (by simp)).trans (Kp.set (by simp))) .non
    | back =>
      refine rdSeq ?_
      walk_at "rd"
      refine i_ixT (sqT_of hp) (atI_nat (j := 0) rfl) ?_
      walk_at "rd"
      refine i_else (by decide) (rdSeq ?_)
      walk_at "rd"
      refine i_ixT (sqT_of hp) (atI_nat (j := 0) rfl) ?_
      walk_at "rd"
      refine i_else (by decide) (i_ixT (sqT_of hp) (atI_nat (j := 0) rfl) ?_)
      intro a ha
      refine i_inL (.inl (sqL_of upd_same)) rfl rfl ?_
      rw [show inV (V.str "back") [V.str "commit", V.str "abort"] = false from by decide +kernel]
      walk_at "rd"
      have k1 : Kp [] H (upd H a (.lst [V.str "commit", V.str "abort"])) := Kp.new ha
      exact rest _ _ (.inr ⟨.inr rfl, rfl⟩) rfl (hs.keep k1 (by simp) (by simp)) k1
    | commit =>
      refine rdSeq ?_
      walk_at "rd"
      refine i_ixT (sqT_of hp) (atI_nat (j := 0) rfl) ?_
      walk_at "rd"
      refine i_else (by decide) (rdSeq ?_)
      walk_at "rd"
      refine i_ixT (sqT_of hp) (atI_nat (j := 0) rfl) ?_
      walk_at "rd"
      refine i_else (by decide) (i_ixT (sqT_of hp) (atI_nat (j := 0) rfl) ?_)
      intro a ha
      refine i_inL (.inl (sqL_of upd_same)) rfl rfl ?_
      rw [show inV (V.str "commit") [V.str "commit", V.str "abort"] = true from by decide +kernel]
      walk_at "rd"
      have k1 : Kp [] H (upd H a (.lst [V.str "commit", V.str "abort"])) := Kp.new ha
      have hs1 := hs.keep k1 (by simp) (by simp)
      refine i_dget hs1.ob rfl ?_
      walk_at "rd"
      cases b with
      | false =>
        refine i_then rfl ?_
        intro r hr
        exact q _ (.ref r) (hs1.keep (Kp.new hr (X := [])) (by simp) (by simp)) ((k1.mono (by simp)).trans (Kp.new hr)) (.flt r ((same_new ha).free hr) upd_same)
      | true =>
        refine i_else (by simp) ?_
        exact rest _ _ (.inl ⟨rfl, rfl⟩) rfl hs1 k1
    | abort =>
      refine rdSeq ?_
      walk_at "rd"
      refine i_ixT (sqT_of hp) (atI_nat (j := 0) rfl) ?_
      walk_at "rd"
      refine i_else (by decide) (rdSeq ?_)
      walk_at "rd"
      refine i_ixT (sqT_of hp) (atI_nat (j := 0) rfl) ?_
      walk_at "rd"
      refine i_else (by decide) (i_ixT (sqT_of hp) (atI_nat (j := 0) rfl) ?_)
      intro a ha
      refine i_inL (.inl (sqL_of upd_same)) rfl rfl ?_
      rw [show inV (V.str "abort") [V.str "commit", V.str "abort"] = true from by decide +kernel]
      walk_at "rd"
      have k1 : Kp [] H (upd H a (.lst [V.str "commit", V.str "abort"])) := Kp.new ha
      have hs1 := hs.keep k1 (by simp) (by simp)
      refine i_dget hs1.ob rfl ?_
      walk_at "rd"
      cases b with
      | false =>
        refine i_then rfl ?_
        intro r hr
        exact q _ (.ref r) (hs1.keep (Kp.new hr (X := [])) (by simp) (by simp)) ((k1.mono (by simp)).trans (Kp.new hr)) (.flt r ((same_new ha).free hr) upd_same)
      | true =>
        refine i_else (by simp) ?_
        exact rest _ _ (.inr ⟨.inl rfl, rfl⟩) rfl hs1 k1
inductive MidR (H0 : Hp) (pre : Addr → Option V → Option V → L2.St) (σ : L2.St) (H' : Hp) : Prop where
  | mk (pd : Addr) (ms : List Int) (y z : Option V) (f : H0 pd = none) (s : Same H0 H') (h : H' pd = some (.lst (ms.map V.int))) (e : σ = pre pd y z)
inductive MidL (CJ CC j c l s w pd : Addr) (N : Nat) (ms : List Int) (pre : Option V → Option V → Option V → Option V → Option V → Option V → L2.St) (σ : L2.St) (H' : Hp) : Prop where
  | mk (ws : List Int) (b : Bool) (y7 y8 y9 y10 y11 y12 : Option V) (hj : JrnAt CJ H' j c 0 b) (hc : CellsAt CC H' c l (up ws)) (hs : JSt H' s w ws b) (hL : LogOk 0 (up ws)) (hn : ws.length = N) (hp : H' pd = some (.lst (ms.map V.int))) (e : σ = pre y7 y8 y9 y10 y11 y12)
def sp_law (K : PySem.W.Frag) : Sp := fun vs H Q _ => ∃ (a : Addr) (ns : List Int), vs = [.ref a] ∧ SqL K H a (ns.map V.int) ∧ ns.length ≤ 63 ∧ ∀ H', Q (.bl true) H'
theorem ok_law (T : Txt K mg) : FnOk P w K mg base CX0 6 T.f_law T.d_law ["_law_script"] (sp_law K) := by
  refine T.k_law.ok sc_law (fun vs H Q E h => ?_) (fun cdv A outer s H vs Q E hr h => ?_)
  · obtain ⟨a, ns, rfl, _⟩ := h
    rfl
  · obtain ⟨a, ns', rfl, hS, hl', q⟩ := h
    refine ⟨_, (pss_cons (ps_set (i := 1) sc_law.nd rfl (.inl rfl) (pe_op op_add pe_int (pe_op op_modP (pe_callB (lenLK K) (by rfl) T.m_len (by decide +kernel) (pa_cons (pv 0) pa_nil)) pe_int)))
      (pss_cons (ps_set (i := 2) sc_law.nd rfl (.inl rfl) (pe_op op_add pe_int (pv 1)))
      (pss_cons (ps_set (i := 3) sc_law.nd rfl (.inr rfl) (pe_make T.mk_Cells (ok_Cells_init T) (hr.mono (by decide)) (by rfl) T.g_Cells T.b_Cells_init .nil pass0 (pa_cons (pv 2) pa_nil)))
      (pss_cons (ps_set (i := 4) sc_law.nd rfl (.inl rfl) (pe_make T.mk_Journal (ok_Journal_init T) (hr.mono (by decide)) (by rfl) T.g_Journal T.b_Journal_init .nil pass0 (pa_cons (pv 3) (pa_cons pe_int pa_nil))))
      (pss_cons (ps_set (i := 5) sc_law.nd rfl (.inl rfl) (pe_disp (pps_cons pe_str (pe_op op_rep (pe_lst (pa_cons pe_int pa_nil)) (pv 2)) (pps_cons pe_str pe_bl pps_nil)) (by rfl) (by rfl) (fun z => by cases z) (by decide)))
      (pss_cons (ps_set (i := 6) sc_law.nd rfl (.inl rfl) (pe_call (ok_law_draws T) (hr.mono (by decide)) (by rfl) T.g_law_draws T.k_law_draws.kp T.b_law_draws .nil pass0 (pa_cons (pv 0) (pa_cons pe_int (pa_cons pe_int pa_nil)))))
      (C8.pss_cut (ps_if (PW.pt (pw_and (pt_cmpR op_gt (pe_callB (lenLK K) (by rfl) T.m_len (by decide +kernel) (pa_cons (pv 6) pa_nil)) pe_int (nomark _)) (pw_and1 (pt_cmpR op_eq (pe_op op_modP (pe_ix (ix_listK K) (pv 6) pe_int (fun _ _ => rfl)) pe_int) pe_int (nomark _))))) (pss_one (ps_set (i := 6) sc_law.nd rfl (.inl rfl) (pe_op op_cat (pe_op op_cat (pe_lc (own := [("_law_k", 12)]) (g := gName 12) (tt := tYes) rfl sc_law.nd (pi_range1 (by rfl) T.m_range (pa_cons pe_int pa_nil)) (blkOk_by (own := [("_law_k", 12)]) (N := ["_law_script", "_law_count", "_law_total", "_law_cells", "_law_journal", "_law_state", "_law_draws_here", "_law_draw", "_law_kind", "_law_rest", "_law_deed", "_law_place", "_law_k"]) (sc := defScope s_law) (by decide +kernel)) (fun _ _ _ _ _ => pg_name (i := 12) sc_law.nd rfl (Or.inl rfl)) (fun _ _ _ _ _ => pts_nil) (fun _ _ _ _ _ => (pe_op op_add (pe_op op_mul pe_int (pv 12)) pe_int))) (pe_lc (own := [("_law_k", 12)]) (g := gName 12) (tt := tYes) rfl sc_law.nd (pi_range1 (by rfl) T.m_range (pa_cons pe_int pa_nil)) (blkOk_by (own := [("_law_k", 12)]) (N := ["_law_script", "_law_count", "_law_total", "_law_cells", "_law_journal", "_law_state", "_law_draws_here", "_law_draw", "_law_kind", "_law_rest", "_law_deed", "_law_place", "_law_k"]) (sc := defScope s_law) (by decide +kernel)) (fun _ _ _ _ _ => pg_name (i := 12) sc_law.nd rfl (Or.inl rfl)) (fun _ _ _ _ _ => pts_nil) (fun _ _ _ _ _ => (pe_op op_mul pe_int (pe_op op_add (pe_op op_mul (pv 12) (pv 12)) pe_int))))) (pv 6)))) pss_nil)
      (pss_cons (ps_for PassesOwn.never rfl (pi_list (pv 6)) (pg_name (i := 7) sc_law.nd rfl (Or.inl rfl)) (pss_cons (ps_set (i := 8) sc_law.nd rfl (.inl rfl) (pe_ix (ix_listK K) (pe_lst (pa_cons pe_int (pa_cons pe_int (pa_cons pe_int (pa_cons pe_int (pa_cons pe_int (pa_cons pe_int (pa_cons pe_int (pa_cons pe_int pa_nil))))))))) (pe_op op_modP (pv 7) pe_int) (fun _ _ => rfl)))
      (pss_cons (ps_set (i := 9) sc_law.nd rfl (.inl rfl) (pe_op op_fdivW (pv 7) pe_int))
      (pss_cons (ps_set (i := 10) sc_law.nd rfl (.inl rfl) (pe_ix (ix_listK K) (pe_lst (pa_cons (pe_tup (pa_cons pe_str (pa_cons (pe_op op_add pe_int (pe_op op_modP (pv 9) (pv 1))) (pa_cons (pe_op op_sub (pe_op op_modP (pe_op op_fdivW (pv 9) pe_int) pe_int) pe_int) pa_nil)))) (pa_cons (pe_tup (pa_cons pe_str pa_nil)) (pa_cons (pe_tup (pa_cons pe_str pa_nil)) (pa_cons (pe_tup (pa_cons pe_str pa_nil)) (pa_cons (pe_tup (pa_cons pe_str pa_nil)) pa_nil)))))) (pv 8) (fun _ _ => rfl)))
      (pss_cons (ps_if (PW.pt (pw_or (pt_cmpR (op_neD hr.units) (pe_call (ok_law_act T) (hr.mono (by decide)) (by rfl) T.g_law_act T.k_law_act.kp T.b_law_act .nil pass0 (pa_cons (pv 4) (pa_cons (pv 10) pa_nil))) (pe_call (ok_law_expect T) (hr.mono (by decide)) (by rfl) T.g_law_expect T.k_law_expect.kp T.b_law_expect .nil pass0 (pa_cons (pv 5) (pa_cons (pv 10) pa_nil))) (nomark _)) (pw_or1 (pt_cmpR op_ne (pe_meth0 (pv 4) T.cl_Journal T.me_Journal_is_open (ok_Journal_is_open T) (hr.mono (by decide)) T.b_Journal_is_open .nil pass0) (pe_dget (hu_of hr) (pv 5) pe_str (fun _ _ => rfl)) (nomark _))))) (pss_one (ps_ret pe_bl)) pss_nil)
      (pss_one (ps_if (pt_cmpR (op_neD hr.units) (pe_lc (own := [("_law_place", 11)]) (g := gName 11) (tt := tYes) rfl sc_law.nd (pi_range1 (by rfl) T.m_range (pa_cons (pv 2) pa_nil)) (blkOk_by (own := [("_law_place", 11)]) (N := ["_law_script", "_law_count", "_law_total", "_law_cells", "_law_journal", "_law_state", "_law_draws_here", "_law_draw", "_law_kind", "_law_rest", "_law_deed", "_law_place", "_law_k"]) (sc := defScope s_law) (by decide +kernel)) (fun _ _ _ _ _ => pg_name (i := 11) sc_law.nd rfl (Or.inl rfl)) (fun _ _ _ _ _ => pts_nil) (fun _ _ _ _ _ => (pe_meth (pv 3) T.cl_Cells T.me_Cells_read (ok_Cells_read T) (hr.mono (by decide)) T.b_Cells_read .nil passL (pa_cons (pv 11) pa_nil)))) (pe_dget (hu_of hr) (pv 5) pe_str (fun _ _ => rfl)) (nomark _)) (pss_one (ps_ret pe_bl)) pss_nil)))))))
      (pss_one (ps_ret (pe_cmpR op_eq (pe_glob (v := .int _) rfl T.g_JOURNAL_CELLS ⟨_, rfl⟩) pe_int (nomark _)))))))))))), ?_⟩
    walk_at "rd"
    refine rdSeq ?_
    walk_at "rd"
    refine i_lenL hS ?_
    rw [List.length_map]
    obtain ⟨n, en, hn⟩ : ∃ n : Nat, 1 + (ns'.length : Int) % 12 = (n : Int) ∧ 1 ≤ n ∧ n ≤ 12 := ⟨(1 + (ns'.length : Int) % 12).toNat, by omega, by omega, by omega⟩
    walk_at "rd"
    rw [en]
    refine rdSeq ?_
    walk_at "rd"
    obtain ⟨N, eN, hN⟩ : ∃ N : Nat, 81 + (n : Int) = (N : Int) ∧ N = 81 + n := ⟨81 + n, by omega, rfl⟩
    rw [eN]
    refine rdSeq ?_
    walk_at "rd"
    intro c dx hc hdx ndx
    have s0 : Same H (upd (upd H dx (.own c)) c (.ins T.c_Cells dx [])) := (same_new hdx).trans (same_new (by rw [upd_ne (Ne.symm ndx)]; exact hc))
    refine ⟨c, dx, N, rfl, upd_same, by omega, fun H1 l hC hl kp1 => ⟨rfl, rdSeq ?_⟩⟩
    have s1 : Same H H1 := kp1.same s0 (by simp [hc])
    walk_at "rd"
    intro j dj hj hdj ndj
    have sA : Same H1 (upd (upd H1 dj (.own j)) j (.ins T.c_Journal dj [])) := (same_new hdj).trans (same_new (by rw [upd_ne (Ne.symm ndj)]; exact hj))
    refine ⟨j, dj, c, 0, rfl, upd_same, fun H2 hJ kp2 => ⟨rfl, rdSeq ?_⟩⟩
    have s2 : Same H1 H2 := kp2.same sA (by simp [hj])
    have hC2 := hC.keep (Kp.of s2 (X := [])) (by simp) (by simp)
    walk_at "rd"
    intro s hs p hp
    have nsp : s ≠ p := ne_of_none upd_same hp
    refine i_rep upd_same (by omega) (by omega) (by show 1 * _ ≤ _; rw [sizeLine_eq]; omega) fun w hw => ?_
    have nsw : s ≠ w := ne_of_none (same_new hp _ _ upd_same) hw
    refine ⟨same_new hw _ _ (same_new hp _ _ upd_same), sdJ w false, rfl, by show 2 ≤ 15; decide, rdSeq ?_⟩
    have s3 : Same H2 (upd (upd (upd (upd H2 s (.dK [])) p (.lst [V.int 0])) w (.lst (List.replicate ((N : Int)).toNat [V.int 0]).flatten)) s (.dK (mergeK [] (sdJ w false)))) := by
      intro b o e
      rw [upd_ne (ne_of_none e hs)]
      exact same_new hw _ _ (same_new hp _ _ (same_new hs _ _ e))
    have hS3 : JSt (upd (upd (upd (upd H2 s (.dK [])) p (.lst [V.int 0])) w (.lst (List.replicate ((N : Int)).toNat [V.int 0]).flatten)) s (.dK (mergeK [] (sdJ w false)))) s w (List.replicate N 0) false :=
      ⟨upd_same, by rw [upd_ne (Ne.symm nsw), upd_same, rep1, List.map_replicate]; rfl⟩
    have hwn : H2 w = none := (same_new hs).free ((same_new hp).free hw)
    generalize upd (upd (upd (upd H2 s (.dK [])) p (.lst [V.int 0])) w (.lst (List.replicate ((N : Int)).toNat [V.int 0]).flatten)) s (.dK (mergeK [] (sdJ w false))) = H3 at s3 hS3
    have hC3 := hC2.keep (Kp.of s3 (X := [])) (by simp) (by simp)
    have hJ3 := hJ.keep (Kp.of s3 (X := [])) (by simp)
    have nlw : l ≠ w := ne_of_none hC2.ws hwn
    walk_at "rd"
    refine ⟨a, ns', 60, rfl, (s1.trans (s2.trans s3)).seq hS, hl', fun pd H4 ms nw hm => rdCut (MidR H3 (fun pd y z => [some (.ref a), some (.int (n : Int)), some (.int (N : Int)), some (.ref c), some (.ref j), some (.ref s), some (.ref pd), none, none, none, none, y, z])) ?_ ?_⟩
    · walk_at "rd"
      refine i_lenL nw.sq ?_
      walk_at "rd"
      refine ite2 (fun hpos => ?_) (fun _ => ⟨pd, ms, _, _, nw.free, nw.same, nw.at_, rfl⟩)
      obtain ⟨x0, hx0⟩ : ∃ x0, atI (ms.map V.int) 0 = some (.int x0) := ⟨_, at_words (i := 0) (by simpa using hpos)⟩
      refine i_ixL nw.sq hx0 ?_
      walk_at "rd"
      refine ite2 (fun _ => ?_) (fun _ => ⟨pd, ms, _, _, nw.free, nw.same, nw.at_, rfl⟩)
      refine ⟨by decide, by decide, i_lcL (walk_rangeL (lo := 0) (n := 1)) (fun i => .int (8 * (0 + (i : Int)) + 1)) (by rw [List.length_range]; exact line5' (by decide)) (fun _ _ _ => trivial) (fun i hi H1 Q' sm q' => ?_) fun d1 hd1 => ?_⟩
      · walk_at "rd"
        exact ⟨cm_l (by decide), q'⟩
      refine ⟨by decide, by decide, i_lcL (walk_rangeL (lo := 0) (n := 43)) (fun i => .int (8 * ((0 + (i : Int)) * (0 + (i : Int)) + 7))) (by rw [List.length_range]; exact line5' (by decide)) (fun _ _ _ => trivial) (fun i hi H1 Q' sm q' => ?_) fun d2 hd2 => ?_⟩
      · walk_at "rd"
        have hi := List.mem_range.mp hi
        exact ⟨.inl ⟨by omega, by omega⟩, cm_l (by decide), q'⟩
      have n12 : d1 ≠ d2 := ne_of_none upd_same hd2
      refine i_cat (by rw [upd_ne n12, upd_same]) upd_same (by rw [List.length_map, List.length_map, List.length_range, List.length_range]; exact line5 (by decide)) fun d3 hd3 => ?_
      have sm : Same H4 (upd (upd (upd H4 d1 (.lst ((List.range 1).map fun i : Nat => V.int (8 * (0 + (i : Int)) + 1)))) d2 (.lst ((List.range 43).map fun i : Nat => V.int (8 * ((0 + (i : Int)) * (0 + (i : Int)) + 7))))) d3 (.lst (((List.range 1).map fun i : Nat => V.int (8 * (0 + (i : Int)) + 1)) ++ (List.range 43).map fun i : Nat => V.int (8 * ((0 + (i : Int)) * (0 + (i : Int)) + 7))))) := (same_new hd1).trans ((same_new hd2).trans (same_new hd3))
      refine i_cat upd_same (sm _ _ nw.at_) (by simp only [List.length_append, List.length_map, List.length_range]; exact line5 (by omega)) fun d4 hd4 => ?_
      refine ⟨d4, ((List.range 1).map fun i : Nat => 8 * (0 + (i : Int)) + 1) ++ ((List.range 43).map fun i : Nat => 8 * ((0 + (i : Int)) * (0 + (i : Int)) + 7)) ++ ms, _, _, nw.same.free (sm.free hd4), nw.same.trans (sm.trans (same_new hd4)), ?_, rfl⟩
      rw [upd_same, List.map_append, List.map_append, List.map_map, List.map_map]
      rfl
    rintro σ H5 ⟨pd, ms, y, z, fpd, s5, hpd, rfl⟩
    have nlp : l ≠ pd := ne_of_none hC3.ws fpd
    have nwp : w ≠ pd := ne_of_none hS3.ws fpd
    have hC5 := hC3.keep (Kp.of s5 (X := [])) (by simp) (by simp)
    have hJ5 := hJ3.keep (Kp.of s5 (X := [])) (by simp)
    have hS5 := hS3.keep (Kp.of s5 (X := [])) (by simp) (by simp)
    refine rdSeq ?_
    walk_at "rd"
    refine ⟨⟨_, sqL_of hpd⟩, ?_⟩
    refine i_for (walk_listL (l := ms) (r := V.int)) (fun _ => MidL T.c_Journal T.c_Cells j c l s w pd N ms (fun y7 y8 y9 y10 y11 y12 => [some (.ref a), some (.int (n : Int)), some (.int (N : Int)), some (.ref c), some (.ref j), some (.ref s), some (.ref pd), y7, y8, y9, y10, y11, y12]))
      ⟨List.replicate N 0, false, _, _, _, _, _, _, hJ5, hC5, hS5, ?_, List.length_replicate, hpd, rfl⟩ (fun i σ H' _ h => by obtain ⟨_, _, _, _, _, _, _, _, _, _, _, _, _, h, _⟩ := h; exact sqL_of h) ?_ ?_
    · have e0 : (List.replicate N (0 : Int)).getD 0 0 = 0 := by rw [List.getD_eq_getElem?_getD]; cases N <;> rfl
      exact logok_up (by rw [List.length_replicate]; omega) (by rw [e0]; omega) (by rw [e0]; omega) fun k hk => by rw [e0] at hk; omega
    · rintro i _ σ _ H6 hi ⟨ws, b, y7, y8, y9, y10, y11, y12, hj6, hc6, hs6, hL6, hlen, hp6, rfl⟩ ⟨rfl, x, hx, rfl⟩
      refine rdSeq ?_
      walk_at "rd"
      intro r hr
      obtain ⟨kd, hkd, hmem⟩ := at_int (ns := [0, 1, 0, 0, 2, 3, 4, 0]) (i := x % 8) (by omega) (by show x % 8 < 8; omega)
      refine i_ixL (sqL_of upd_same) hkd (rdSeq ?_)
      have hkd2 : 0 ≤ kd ∧ kd < 5 := by simp at hmem; omega
      walk_at "rd"
      refine ⟨⟨by decide, by decide⟩, ?_⟩
      refine rdSeq ?_
      walk_at "rd"
      obtain ⟨jj, ej, hj1, hj2⟩ : ∃ jj : Nat, 81 + x / 8 % (n : Int) = (jj : Int) ∧ 80 < jj ∧ jj < N := ⟨(81 + x / 8 % (n : Int)).toNat, by have := Int.emod_nonneg (x / 8) (show (n : Int) ≠ 0 by omega); omega, by have := Int.emod_nonneg (x / 8) (show (n : Int) ≠ 0 by omega); omega, by have := Int.emod_nonneg (x / 8) (show (n : Int) ≠ 0 by omega); have := Int.emod_lt_of_pos (x / 8) (show (0 : Int) < n by omega); omega⟩
      rw [ej]
      generalize x / 8 / 13 % 65536 - 32768 = wv
      refine ⟨by omega, ⟨by decide, by decide⟩, fun t1 h1 t2 h2 t3 h3 t4 h4 t5 h5 r2 hr2 => ?_⟩
      have sm := (same_new (o := .lst [V.int 0, V.int 1, V.int 0, V.int 0, V.int 2, V.int 3, V.int 4, V.int 0]) hr).trans ((same_new (o := .tup (JD.change jj wv).vs) h1).trans ((same_new (o := .tup JD.begin.vs) h2).trans ((same_new (o := .tup JD.commit.vs) h3).trans ((same_new (o := .tup JD.abort.vs) h4).trans ((same_new (o := .tup JD.back.vs) h5).trans (same_new (o := .lst [V.ref t1, V.ref t2, V.ref t3, V.ref t4, V.ref t5]) hr2))))))
      have f1 := same_new (o := .lst [V.ref t1, V.ref t2, V.ref t3, V.ref t4, V.ref t5]) hr2 _ _ (same_new h5 _ _ (same_new h4 _ _ (same_new h3 _ _ (same_new h2 _ _ upd_same))))
      have f2 := same_new (o := .lst [V.ref t1, V.ref t2, V.ref t3, V.ref t4, V.ref t5]) hr2 _ _ (same_new h5 _ _ (same_new h4 _ _ (same_new h3 _ _ upd_same)))
      have f3 := same_new (o := .lst [V.ref t1, V.ref t2, V.ref t3, V.ref t4, V.ref t5]) hr2 _ _ (same_new h5 _ _ (same_new h4 _ _ upd_same))
      have f4 := same_new (o := .lst [V.ref t1, V.ref t2, V.ref t3, V.ref t4, V.ref t5]) hr2 _ _ (same_new h5 _ _ upd_same)
      have f5 := same_new (o := .lst [V.ref t1, V.ref t2, V.ref t3, V.ref t4, V.ref t5]) hr2 _ _ upd_same
      have hli := upd_same (H := (upd (upd (upd (upd (upd (upd H6 r (.lst [V.int 0, V.int 1, V.int 0, V.int 0, V.int 2, V.int 3, V.int 4, V.int 0])) t1 (.tup [V.str "change", V.int jj, V.int wv])) t2 (.tup [V.str "begin"])) t3 (.tup [V.str "commit"])) t4 (.tup [V.str "abort"])) t5 (.tup [V.str "back"]))) (a := r2) (o := .lst [V.ref t1, V.ref t2, V.ref t3, V.ref t4, V.ref t5])
      generalize hH7 : upd (upd (upd (upd (upd (upd (upd H6 r (.lst [V.int 0, V.int 1, V.int 0, V.int 0, V.int 2, V.int 3, V.int 4, V.int 0])) t1 (.tup [V.str "change", V.int jj, V.int wv])) t2 (.tup [V.str "begin"])) t3 (.tup [V.str "commit"])) t4 (.tup [V.str "abort"])) t5 (.tup [V.str "back"])) r2 (.lst [V.ref t1, V.ref t2, V.ref t3, V.ref t4, V.ref t5]) = H7 at f1 f2 f3 f4 f5 hli
      have sm : Same H6 H7 := by rw [← hH7]; exact sm
      obtain ⟨td, d, etd, hat, hdok⟩ : ∃ (td : Addr) (d : JD), atI [V.ref t1, V.ref t2, V.ref t3, V.ref t4, V.ref t5] kd = some (.ref td) ∧ H7 td = some (.tup d.vs) ∧ d.ok N := by
        have : kd = 0 ∨ kd = 1 ∨ kd = 2 ∨ kd = 3 ∨ kd = 4 := by omega
        rcases this with rfl | rfl | rfl | rfl | rfl
        · exact ⟨t1, .change jj wv, rfl, f1, hj1, hj2⟩
        · exact ⟨t2, .begin, rfl, f2, trivial⟩
        · exact ⟨t3, .commit, rfl, f3, trivial⟩
        · exact ⟨t4, .abort, rfl, f4, trivial⟩
        · exact ⟨t5, .back, rfl, f5, trivial⟩
      refine i_ixL (sqL_of hli) etd (rdSeq ?_)
      have hj7 := hj6.keep (Kp.of sm (X := [])) (by simp)
      have hc7 := hc6.keep (Kp.of sm (X := [])) (by simp) (by simp)
      have hs7 := hs6.keep (Kp.of sm (X := [])) (by simp) (by simp)
      have hp7 := sm _ _ hp6
      rw [← hlen] at hdok
      walk_at "rd"
      refine ⟨j, c, l, td, b, ws, d, rfl, hj7, hc7, hat, hL6, hdok, fun H8 r8 hj8 hc8 kp8 an8 => ?_⟩
      obtain ⟨dj7, hjo7⟩ := hj7
      obtain ⟨dc7, hco7⟩ := hc7.ob
      have njs : j ≠ s := ne_of hjo7 hs7.ob (by intro z; cases z)
      have njw : j ≠ w := ne_of hjo7 hs7.ws (by intro z; cases z)
      have ncs : c ≠ s := ne_of hco7 hs7.ob (by intro z; cases z)
      have ncw : c ≠ w := ne_of hco7 hs7.ws (by intro z; cases z)
      have nls : l ≠ s := ne_of hc7.ws hs7.ob (by intro z; cases z)
      have npj : pd ≠ j := ne_of hp7 hjo7 (by intro z; cases z)
      have npc : pd ≠ c := ne_of hp7 hco7 (by intro z; cases z)
      have nps : pd ≠ s := ne_of hp7 hs7.ob (by intro z; cases z)
      have ntj : td ≠ j := ne_of hat hjo7 (by intro z; cases z)
      have ntc : td ≠ c := ne_of hat hco7 (by intro z; cases z)
      have ntl : td ≠ l := ne_of hat hc7.ws (by intro z; cases z)
      have hs8 := hs7.keep kp8 (by simp [Ne.symm ncs, Ne.symm nls, Ne.symm njs]) (by simp [Ne.symm ncw, Ne.symm nlw, Ne.symm njw])
      have hat8 := kp8 _ _ (by simp [ntj, ntc, ntl]) hat
      have hp8 := kp8 _ _ (by simp [npj, npc, Ne.symm nlp]) hp7
      refine ⟨s, w, td, b, ws, d, rfl, hs8, hat8, hL6, hdok, fun H9 r9 hs9 kp9 an9 => ?_⟩
      have hj9 := hj8.keep kp9 (by simp [njs, njw])
      have hc9 := hc8.keep kp9 (by simp [ncs, ncw]) (by simp [nls, nlw])
      have hp9 := kp9 _ _ (by simp [nps, Ne.symm nwp]) hp8
      have hL9 := wstep_ok (b := b) hL6 hdok
      have hlen9 : (wstep ws b d).1.length = N := by rw [wstep_len, hlen]
      have hD : ∃ dv, Dp K H9 r8 dv ∧ Dp K H9 r9 dv ∧ SeqAt.shaped dv = true := by
        generalize (wstep ws b d).2.2 = f at an8 an9
        cases an8 with
        | non =>
          cases an9 with
          | non => exact ⟨.none, .non, .non, by decide +kernel⟩
        | flt p8 e8 g8 =>
          cases an9 with
          | flt p9 e9 g9 =>
            have n8s : p8 ≠ s := fun e => by subst e; rw [hs7.ob] at e8; cases e8
            have n8w : p8 ≠ w := fun e => by subst e; rw [hs7.ws] at e8; cases e8
            have g8' := kp9 _ _ (by simp [n8s, n8w]) g8
            exact ⟨.tuple [.str "fault", .int (-8)], .tup (sqT_of g8') (.cons (.str _) (.cons (.int _) .nil)), .tup (sqT_of g9) (.cons (.str _) (.cons (.int _) .nil)), by decide +kernel⟩
      obtain ⟨dv, hd8, hd9, hsh⟩ := hD
      refine i_neD hd8 hd9 hsh ?_
      walk_at "rd"
      obtain ⟨dj9, hjo9⟩ := id hj9
      refine i_meth hjo9 rfl ⟨j, c, 0, _, rfl, hj9, i_dget hs9.ob rfl ?_⟩
      walk_at "rd"
      obtain ⟨dc9, hco9⟩ := hc9.ob
      refine ⟨by omega, by omega, i_lcL (walk_rangeL (lo := 0) (n := N)) (fun i => .int ((wstep ws b d).1.getD i 0)) (by rw [List.length_range]; exact line5' (by omega)) (fun _ _ _ => trivial) (fun i hi H1 Q' sm q' => ?_) fun D hD => ?_⟩
      · walk_at "rd"
        have hi : i < N := List.mem_range.mp hi
        rw [Int.zero_add]
        exact i_meth (sm _ _ hco9) rfl ⟨c, l, up (wstep ws b d).1, i, rfl, hc9.keep (Kp.of sm (X := [])) (by simp) (by simp), by show i < (wstep ws b d).1.length; omega, fun _ => q', fun e2 => nomatch e2⟩
      · rw [range_words hlen9]
        refine i_dget (same_new hD _ _ hs9.ob) rfl ?_
        refine i_neD (.lst (sqL_of upd_same) (dpInts _)) (.lst (sqL_of (same_new hD _ _ hs9.ws)) (dpInts _)) (PySem.W.ke_shaped_ints _) ?_
        walk_at "rd"
        exact ⟨_, _, _, _, _, _, _, _, hj9.keep (Kp.new hD (X := [])) (by simp), hc9.keep (Kp.new hD (X := [])) (by simp) (by simp), hs9.keep (Kp.new hD (X := [])) (by simp) (by simp), hL9, hlen9, same_new hD _ _ hp9, rfl⟩
    · rintro σ H6 ⟨ws, b, y7, y8, y9, y10, y11, y12, hj6, hc6, hs6, hL6, hlen, hp6, rfl⟩
      dsimp only
      walk_at "rd"
      exact q _

theorem all_mk {l : PySem.W.OpenLaw} {w : World} {K : PySem.W.Frag} {h : Heap} {mg : Str → Option Value} {fa : Addr} (X : K.In h) (G : h.Ns mainGlobals mg) (hfa : mg "law" = some (.ref fa))
    {f0 : Addr} {od0 an0 : Option Addr} {sl0 : Array (Option Value)} {oc0 kV0 dc0 pm0 cd0 ct0 : Value}
    {f1 : Addr} {od1 an1 : Option Addr} {sl1 : Array (Option Value)} {oc1 kV1 dc1 pm1 cd1 ct1 : Value}
    {f2 : Addr} {od2 an2 : Option Addr} {sl2 : Array (Option Value)} {oc2 kV2 dc2 pm2 cd2 ct2 : Value}
    {f3 : Addr} {od3 an3 : Option Addr} {sl3 : Array (Option Value)} {oc3 kV3 dc3 pm3 cd3 ct3 : Value}
    {f4 : Addr} {od4 an4 : Option Addr} {sl4 : Array (Option Value)} {oc4 kV4 dc4 pm4 cd4 ct4 : Value}
    {f5 : Addr} {od5 an5 : Option Addr} {sl5 : Array (Option Value)} {oc5 kV5 dc5 pm5 cd5 ct5 : Value}
    {f6 : Addr} {od6 an6 : Option Addr} {sl6 : Array (Option Value)} {oc6 kV6 dc6 pm6 cd6 ct6 : Value}
    {f7 : Addr} {od7 an7 : Option Addr} {sl7 : Array (Option Value)} {oc7 kV7 dc7 pm7 cd7 ct7 : Value}
    {f8 : Addr} {od8 an8 : Option Addr} {sl8 : Array (Option Value)} {oc8 kV8 dc8 pm8 cd8 ct8 : Value}
    {f9 : Addr} {od9 an9 : Option Addr} {sl9 : Array (Option Value)} {oc9 kV9 dc9 pm9 cd9 ct9 : Value}
    {f10 : Addr} {od10 an10 : Option Addr} {sl10 : Array (Option Value)} {oc10 kV10 dc10 pm10 cd10 ct10 : Value}
    {f11 : Addr} {od11 an11 : Option Addr} {sl11 : Array (Option Value)} {oc11 kV11 dc11 pm11 cd11 ct11 : Value}
    {f12 : Addr} {od12 an12 : Option Addr} {sl12 : Array (Option Value)} {oc12 kV12 dc12 pm12 cd12 ct12 : Value}
    {f13 : Addr} {od13 an13 : Option Addr} {sl13 : Array (Option Value)} {oc13 kV13 dc13 pm13 cd13 ct13 : Value}
    {f14 : Addr} {od14 an14 : Option Addr} {sl14 : Array (Option Value)} {oc14 kV14 dc14 pm14 cd14 ct14 : Value}
    {f15 : Addr} {od15 an15 : Option Addr} {sl15 : Array (Option Value)} {oc15 kV15 dc15 pm15 cd15 ct15 : Value}
    {f16 : Addr} {od16 an16 : Option Addr} {sl16 : Array (Option Value)} {oc16 kV16 dc16 pm16 cd16 ct16 : Value}
    {c_CardError : Addr}
    {c_Fault : Addr}
    {em0_Fault em1_Fault : Str} {em2_Fault : Addr} {em3_Fault em4_Fault : List Value} {em5_Fault : List Str} {em6_Fault : List Value} {em7_Fault : Bool} {em8_Fault : Option Bool} {em9_Fault : Option Addr} {em10_Fault em11_Fault em12_Fault em13_Fault em14_Fault : Option Value}
    {c_PowerCut : Addr}
    {c_Journal : Addr}
    {c_Cells : Addr}
    {tk0 : Tok}
    {tk1 : Tok}
    {tk2 : Tok}
    (l0 : K.lookup f0 = some ⟨oc0, od0, .func (PySem.W.fnOf "__init__" "Fault.__init__" (defArgs s_Fault_init) (defBody s_Fault_init) (defScope s_Fault_init) .none kV0 dc0 pm0 an0 cd0 ct0), sl0⟩) (c0 : PySem.W.codeIn K cd0 "Fault.__init__" = true) (k0 : PySem.W.keepIn K (.ref f0) = true)
    (l1 : K.lookup f1 = some ⟨oc1, od1, .func (PySem.W.fnOf "__init__" "Journal.__init__" (defArgs s_Journal_init) (defBody s_Journal_init) (defScope s_Journal_init) .none kV1 dc1 pm1 an1 cd1 ct1), sl1⟩) (c1 : PySem.W.codeIn K cd1 "Journal.__init__" = true) (k1 : PySem.W.keepIn K (.ref f1) = true)
    (l2 : K.lookup f2 = some ⟨oc2, od2, .func (PySem.W.fnOf "is_open" "Journal.is_open" (defArgs s_Journal_is_open) (defBody s_Journal_is_open) (defScope s_Journal_is_open) .none kV2 dc2 pm2 an2 cd2 ct2), sl2⟩) (c2 : PySem.W.codeIn K cd2 "Journal.is_open" = true) (k2 : PySem.W.keepIn K (.ref f2) = true)
    (l3 : K.lookup f3 = some ⟨oc3, od3, .func (PySem.W.fnOf "change" "Journal.change" (defArgs s_Journal_change) (defBody s_Journal_change) (defScope s_Journal_change) .none kV3 dc3 pm3 an3 cd3 ct3), sl3⟩) (c3 : PySem.W.codeIn K cd3 "Journal.change" = true) (k3 : PySem.W.keepIn K (.ref f3) = true)
    (l4 : K.lookup f4 = some ⟨oc4, od4, .func (PySem.W.fnOf "begin" "Journal.begin" (defArgs s_Journal_begin) (defBody s_Journal_begin) (defScope s_Journal_begin) .none kV4 dc4 pm4 an4 cd4 ct4), sl4⟩) (c4 : PySem.W.codeIn K cd4 "Journal.begin" = true) (k4 : PySem.W.keepIn K (.ref f4) = true)
    (l5 : K.lookup f5 = some ⟨oc5, od5, .func (PySem.W.fnOf "commit" "Journal.commit" (defArgs s_Journal_commit) (defBody s_Journal_commit) (defScope s_Journal_commit) .none kV5 dc5 pm5 an5 cd5 ct5), sl5⟩) (c5 : PySem.W.codeIn K cd5 "Journal.commit" = true) (k5 : PySem.W.keepIn K (.ref f5) = true)
    (l6 : K.lookup f6 = some ⟨oc6, od6, .func (PySem.W.fnOf "abort" "Journal.abort" (defArgs s_Journal_abort) (defBody s_Journal_abort) (defScope s_Journal_abort) .none kV6 dc6 pm6 an6 cd6 ct6), sl6⟩) (c6 : PySem.W.codeIn K cd6 "Journal.abort" = true) (k6 : PySem.W.keepIn K (.ref f6) = true)
    (l7 : K.lookup f7 = some ⟨oc7, od7, .func (PySem.W.fnOf "put_back" "Journal.put_back" (defArgs s_Journal_put_back) (defBody s_Journal_put_back) (defScope s_Journal_put_back) .none kV7 dc7 pm7 an7 cd7 ct7), sl7⟩) (c7 : PySem.W.codeIn K cd7 "Journal.put_back" = true) (k7 : PySem.W.keepIn K (.ref f7) = true)
    (l8 : K.lookup f8 = some ⟨oc8, od8, .func (PySem.W.fnOf "_forget" "Journal._forget" (defArgs s_Journal__forget) (defBody s_Journal__forget) (defScope s_Journal__forget) .none kV8 dc8 pm8 an8 cd8 ct8), sl8⟩) (c8 : PySem.W.codeIn K cd8 "Journal._forget" = true) (k8 : PySem.W.keepIn K (.ref f8) = true)
    (l9 : K.lookup f9 = some ⟨oc9, od9, .func (PySem.W.fnOf "__init__" "Cells.__init__" (defArgs s_Cells_init) (defBody s_Cells_init) (defScope s_Cells_init) .none kV9 dc9 pm9 an9 cd9 ct9), sl9⟩) (c9 : PySem.W.codeIn K cd9 "Cells.__init__" = true) (k9 : PySem.W.keepIn K (.ref f9) = true)
    (l10 : K.lookup f10 = some ⟨oc10, od10, .func (PySem.W.fnOf "read" "Cells.read" (defArgs s_Cells_read) (defBody s_Cells_read) (defScope s_Cells_read) .none kV10 dc10 pm10 an10 cd10 ct10), sl10⟩) (c10 : PySem.W.codeIn K cd10 "Cells.read" = true) (k10 : PySem.W.keepIn K (.ref f10) = true)
    (l11 : K.lookup f11 = some ⟨oc11, od11, .func (PySem.W.fnOf "write" "Cells.write" (defArgs s_Cells_write) (defBody s_Cells_write) (defScope s_Cells_write) .none kV11 dc11 pm11 an11 cd11 ct11), sl11⟩) (c11 : PySem.W.codeIn K cd11 "Cells.write" = true) (k11 : PySem.W.keepIn K (.ref f11) = true)
    (a12 : PySem.W.nsIn K mainGlobals "_law_draws" = some (some (.ref f12)))
    (l12 : K.lookup f12 = some ⟨oc12, od12, .func (PySem.W.fnOf "_law_draws" "_law_draws" (defArgs s_law_draws) (defBody s_law_draws) (defScope s_law_draws) .none kV12 dc12 pm12 an12 cd12 ct12), sl12⟩) (c12 : PySem.W.codeIn K cd12 "_law_draws" = true) (k12 : PySem.W.keepIn K (.ref f12) = true)
    (a13 : PySem.W.nsIn K mainGlobals "_law_act" = some (some (.ref f13)))
    (l13 : K.lookup f13 = some ⟨oc13, od13, .func (PySem.W.fnOf "_law_act" "_law_act" (defArgs s_law_act) (defBody s_law_act) (defScope s_law_act) .none kV13 dc13 pm13 an13 cd13 ct13), sl13⟩) (c13 : PySem.W.codeIn K cd13 "_law_act" = true) (k13 : PySem.W.keepIn K (.ref f13) = true)
    (a14 : PySem.W.nsIn K mainGlobals "_law_change" = some (some (.ref f14)))
    (l14 : K.lookup f14 = some ⟨oc14, od14, .func (PySem.W.fnOf "_law_change" "_law_change" (defArgs s_law_change) (defBody s_law_change) (defScope s_law_change) .none kV14 dc14 pm14 an14 cd14 ct14), sl14⟩) (c14 : PySem.W.codeIn K cd14 "_law_change" = true) (k14 : PySem.W.keepIn K (.ref f14) = true)
    (a15 : PySem.W.nsIn K mainGlobals "_law_expect" = some (some (.ref f15)))
    (l15 : K.lookup f15 = some ⟨oc15, od15, .func (PySem.W.fnOf "_law_expect" "_law_expect" (defArgs s_law_expect) (defBody s_law_expect) (defScope s_law_expect) .none kV15 dc15 pm15 an15 cd15 ct15), sl15⟩) (c15 : PySem.W.codeIn K cd15 "_law_expect" = true) (k15 : PySem.W.keepIn K (.ref f15) = true)
    (a16 : PySem.W.nsIn K mainGlobals "law" = some (some (.ref f16)))
    (l16 : K.lookup f16 = some ⟨oc16, od16, .func (PySem.W.fnOf "law" "law" (defArgs s_law) (defBody s_law) (defScope s_law) .none kV16 dc16 pm16 an16 cd16 ct16), sl16⟩) (c16 : PySem.W.codeIn K cd16 "law" = true) (k16 : PySem.W.keepIn K (.ref f16) = true)
    (aC_CardError : PySem.W.nsIn K mainGlobals "CardError" = some (some (.ref c_CardError)))
    (aC_Fault : PySem.W.nsIn K mainGlobals "Fault" = some (some (.ref c_Fault)))
    (aC_PowerCut : PySem.W.nsIn K mainGlobals "PowerCut" = some (some (.ref c_PowerCut)))
    (aC_Journal : PySem.W.nsIn K mainGlobals "Journal" = some (some (.ref c_Journal)))
    (aC_Cells : PySem.W.nsIn K mainGlobals "Cells" = some (some (.ref c_Cells)))
    (w1oe : K.lookup c_Fault = some (excClassObj em0_Fault em1_Fault c_Fault em2_Fault em3_Fault em4_Fault true em5_Fault em6_Fault em7_Fault em8_Fault em9_Fault em10_Fault em11_Fault em12_Fault em13_Fault em14_Fault "ValueError.__new__"))
    (w2rv : PySem.HandSPX.refsVE em4_Fault = true)
    (w3os : PySem.W.findIn K (.ref c_Fault) "__setattr__" = some (some (.builtin "object.__setattr__")))
    (w4ob : PySem.W.subIn K (.ref c_Fault) (.type "BaseException") = some true)
    (w5ot : PySem.W.typeIn K (.ref c_Fault) = some (.type "type"))
    (w6ok : PySem.W.keepIn K (.ref c_Fault) = true)
    (w7in : PySem.W.findIn K (.ref c_Fault) "__init__" = some (some (.ref f0)))
    (w8ti : PySem.W.typeIn K (.ref f0) = some (.type "function"))
    (w9on : PySem.W.findIn K (.ref c_Fault) "code" = some none)
    (w10xg : PySem.W.findIn K (.ref c_Fault) "__getattribute__" = some (some (.builtin "BaseException.__getattribute__")))
    (w11xh : PySem.W.findIn K (.ref c_Fault) "__getattr__" = some none)
    (w12xe : PySem.W.subIn K (.ref c_Fault) (.type "BaseException") = some true)
    (w13xd : PySem.W.hasDictIn K c_Fault = true)
    (w14eb : PySem.W.subIn K (.ref c_Fault) (.type "BaseException") = some true)
    (w15ei : PySem.W.isClsIn K c_Fault = true)
    (w16et : PySem.W.typeIn K (.ref c_Fault) = some (.type "type"))
    (w17es : PySem.W.subIn K (.ref c_Fault) (.ref c_Fault) = some true)
    (w18eb : PySem.W.subIn K (.ref c_Fault) (.type "BaseException") = some true)
    (w19ei : PySem.W.isClsIn K c_Fault = true)
    (w20et : PySem.W.typeIn K (.ref c_Fault) = some (.type "type"))
    (w21es : PySem.W.subIn K (.ref c_PowerCut) (.ref c_Fault) = some false)
    (w22x : PySem.W.excIn K c_PowerCut [.type "ValueError", .type "Exception", .type "BaseException", .type "object"] "ValueError.__new__" = true)
    (w23kx : PySem.W.keepIn K (.ref c_PowerCut) = true)
    (w24be : PySem.W.subIn K (.ref c_PowerCut) (.type "BaseException") = some true)
    (w25ty : PySem.W.typeIn K (.ref c_PowerCut) = some (.type "type"))
    (w26pg : PySem.W.plainGet K c_Journal Str.empty = true)
    (w27hd : PySem.W.hasDictIn K c_Journal = true)
    (w28po : PySem.W.plainOver K c_Journal = true)
    (w29sa : PySem.W.findIn K (.ref c_Journal) "__setattr__" = some (some (.builtin "object.__setattr__")))
    (w30mk : PySem.W.makesIn K c_Journal = true)
    (w31in : PySem.W.findIn K (.ref c_Journal) "__init__" = some (some (.ref f1)))
    (w32fi : PySem.W.isFn K (.ref f1) = true)
    (w33kc : PySem.W.keepIn K (.ref c_Journal) = true)
    (w34at : PySem.W.findIn K (.ref c_Journal) "is_open" = some (some (.ref f2)))
    (w35fn : PySem.W.isFn K (.ref f2) = true)
    (w36km : PySem.W.keepIn K (.ref f2) = true)
    (w37at : PySem.W.findIn K (.ref c_Journal) "change" = some (some (.ref f3)))
    (w38fn : PySem.W.isFn K (.ref f3) = true)
    (w39km : PySem.W.keepIn K (.ref f3) = true)
    (w40at : PySem.W.findIn K (.ref c_Journal) "begin" = some (some (.ref f4)))
    (w41fn : PySem.W.isFn K (.ref f4) = true)
    (w42km : PySem.W.keepIn K (.ref f4) = true)
    (w43at : PySem.W.findIn K (.ref c_Journal) "commit" = some (some (.ref f5)))
    (w44fn : PySem.W.isFn K (.ref f5) = true)
    (w45km : PySem.W.keepIn K (.ref f5) = true)
    (w46at : PySem.W.findIn K (.ref c_Journal) "abort" = some (some (.ref f6)))
    (w47fn : PySem.W.isFn K (.ref f6) = true)
    (w48km : PySem.W.keepIn K (.ref f6) = true)
    (w49at : PySem.W.findIn K (.ref c_Journal) "put_back" = some (some (.ref f7)))
    (w50fn : PySem.W.isFn K (.ref f7) = true)
    (w51km : PySem.W.keepIn K (.ref f7) = true)
    (w52at : PySem.W.findIn K (.ref c_Journal) "_forget" = some (some (.ref f8)))
    (w53fn : PySem.W.isFn K (.ref f8) = true)
    (w54km : PySem.W.keepIn K (.ref f8) = true)
    (w55na : PySem.W.findIn K (.ref c_Journal) "_cells" = some none)
    (w56na : PySem.W.findIn K (.ref c_Journal) "_start" = some none)
    (w57na : PySem.W.findIn K (.ref c_Journal) "_open" = some none)
    (w58pg : PySem.W.plainGet K c_Cells Str.empty = true)
    (w59hd : PySem.W.hasDictIn K c_Cells = true)
    (w60po : PySem.W.plainOver K c_Cells = true)
    (w61sa : PySem.W.findIn K (.ref c_Cells) "__setattr__" = some (some (.builtin "object.__setattr__")))
    (w62mk : PySem.W.makesIn K c_Cells = true)
    (w63in : PySem.W.findIn K (.ref c_Cells) "__init__" = some (some (.ref f9)))
    (w64fi : PySem.W.isFn K (.ref f9) = true)
    (w65kc : PySem.W.keepIn K (.ref c_Cells) = true)
    (w66at : PySem.W.findIn K (.ref c_Cells) "read" = some (some (.ref f10)))
    (w67fn : PySem.W.isFn K (.ref f10) = true)
    (w68km : PySem.W.keepIn K (.ref f10) = true)
    (w69at : PySem.W.findIn K (.ref c_Cells) "write" = some (some (.ref f11)))
    (w70fn : PySem.W.isFn K (.ref f11) = true)
    (w71km : PySem.W.keepIn K (.ref f11) = true)
    (w72na : PySem.W.findIn K (.ref c_Cells) "_words" = some none)
    (w73na : PySem.W.findIn K (.ref c_Cells) "_left" = some none)
    (w74na : PySem.W.findIn K (.ref c_Cells) "_on" = some none)
    (z0 : PySem.W.nsIn K mainGlobals "abs" = some none)
    (z1 : PySem.W.nsIn K mainGlobals "int" = some none)
    (z2 : PySem.W.nsIn K mainGlobals "len" = some none)
    (z3 : PySem.W.nsIn K mainGlobals "list" = some none)
    (z4 : PySem.W.nsIn K mainGlobals "range" = some none)
    (z5 : PySem.W.nsIn K mainGlobals "reversed" = some none)
    (y0 : PySem.W.nsIn K mainGlobals "MOST_LOG" = some (some (.int (40) tk0)))
    (y1 : PySem.W.nsIn K mainGlobals "TRANSACTION" = some (some (.int (-8) tk1)))
    (y2 : PySem.W.nsIn K mainGlobals "JOURNAL_CELLS" = some (some (.int (81) tk2))) :
    ∃ fd : FuncData, (∀ (s : Shared) (v : Value), BindsTo s fd ⟨[v], []⟩ [("_law_script", v)]) ∧ ∀ base : Heap, K.In base → base.Ns mainGlobals mg → FnOk l.prog w K mg base CX0 6 fa fd ["_law_script"] (sp_law K) := by
  have e := hfa.symm.trans (PySem.W.mg_of X G a16)
  cases e
  let T : Txt K mg := {
    f_Fault_init := f0,
    d_Fault_init := _,
    k_Fault_init := (fun_mk (st := s_Fault_init) l0 c0 k0),
    b_Fault_init := (Fun.binds (ps := ["self", "code"]) (fun_mk (st := s_Fault_init) l0 c0 k0) fun _ _ _ _ _ _ us hl => match us, hl with | [_, _], _ => rfl),
    f_Journal_init := f1,
    d_Journal_init := _,
    k_Journal_init := (fun_mk (st := s_Journal_init) l1 c1 k1),
    b_Journal_init := (Fun.binds (ps := ["self", "cells", "start"]) (fun_mk (st := s_Journal_init) l1 c1 k1) fun _ _ _ _ _ _ us hl => match us, hl with | [_, _, _], _ => rfl),
    f_Journal_is_open := f2,
    d_Journal_is_open := _,
    k_Journal_is_open := (fun_mk (st := s_Journal_is_open) l2 c2 k2),
    b_Journal_is_open := (Fun.binds (ps := ["self"]) (fun_mk (st := s_Journal_is_open) l2 c2 k2) fun _ _ _ _ _ _ us hl => match us, hl with | [_], _ => rfl),
    f_Journal_change := f3,
    d_Journal_change := _,
    k_Journal_change := (fun_mk (st := s_Journal_change) l3 c3 k3),
    b_Journal_change := (Fun.binds (ps := ["self", "place", "word"]) (fun_mk (st := s_Journal_change) l3 c3 k3) fun _ _ _ _ _ _ us hl => match us, hl with | [_, _, _], _ => rfl),
    f_Journal_begin := f4,
    d_Journal_begin := _,
    k_Journal_begin := (fun_mk (st := s_Journal_begin) l4 c4 k4),
    b_Journal_begin := (Fun.binds (ps := ["self"]) (fun_mk (st := s_Journal_begin) l4 c4 k4) fun _ _ _ _ _ _ us hl => match us, hl with | [_], _ => rfl),
    f_Journal_commit := f5,
    d_Journal_commit := _,
    k_Journal_commit := (fun_mk (st := s_Journal_commit) l5 c5 k5),
    b_Journal_commit := (Fun.binds (ps := ["self"]) (fun_mk (st := s_Journal_commit) l5 c5 k5) fun _ _ _ _ _ _ us hl => match us, hl with | [_], _ => rfl),
    f_Journal_abort := f6,
    d_Journal_abort := _,
    k_Journal_abort := (fun_mk (st := s_Journal_abort) l6 c6 k6),
    b_Journal_abort := (Fun.binds (ps := ["self"]) (fun_mk (st := s_Journal_abort) l6 c6 k6) fun _ _ _ _ _ _ us hl => match us, hl with | [_], _ => rfl),
    f_Journal_put_back := f7,
    d_Journal_put_back := _,
    k_Journal_put_back := (fun_mk (st := s_Journal_put_back) l7 c7 k7),
    b_Journal_put_back := (Fun.binds (ps := ["self"]) (fun_mk (st := s_Journal_put_back) l7 c7 k7) fun _ _ _ _ _ _ us hl => match us, hl with | [_], _ => rfl),
    f_Journal__forget := f8,
    d_Journal__forget := _,
    k_Journal__forget := (fun_mk (st := s_Journal__forget) l8 c8 k8),
    b_Journal__forget := (Fun.binds (ps := ["self"]) (fun_mk (st := s_Journal__forget) l8 c8 k8) fun _ _ _ _ _ _ us hl => match us, hl with | [_], _ => rfl),
    f_Cells_init := f9,
    d_Cells_init := _,
    k_Cells_init := (fun_mk (st := s_Cells_init) l9 c9 k9),
    b_Cells_init := (Fun.binds (ps := ["self", "count"]) (fun_mk (st := s_Cells_init) l9 c9 k9) fun _ _ _ _ _ _ us hl => match us, hl with | [_, _], _ => rfl),
    f_Cells_read := f10,
    d_Cells_read := _,
    k_Cells_read := (fun_mk (st := s_Cells_read) l10 c10 k10),
    b_Cells_read := (Fun.binds (ps := ["self", "place"]) (fun_mk (st := s_Cells_read) l10 c10 k10) fun _ _ _ _ _ _ us hl => match us, hl with | [_, _], _ => rfl),
    f_Cells_write := f11,
    d_Cells_write := _,
    k_Cells_write := (fun_mk (st := s_Cells_write) l11 c11 k11),
    b_Cells_write := (Fun.binds (ps := ["self", "place", "word"]) (fun_mk (st := s_Cells_write) l11 c11 k11) fun _ _ _ _ _ _ us hl => match us, hl with | [_, _, _], _ => rfl),
    f_law_draws := f12,
    d_law_draws := _,
    k_law_draws := (fun_mk (st := s_law_draws) l12 c12 k12),
    b_law_draws := (Fun.binds (ps := ["_law_script", "_law_start", "_law_most"]) (fun_mk (st := s_law_draws) l12 c12 k12) fun _ _ _ _ _ _ us hl => match us, hl with | [_, _, _], _ => rfl),
    g_law_draws := PySem.W.mg_of X G a12,
    f_law_act := f13,
    d_law_act := _,
    k_law_act := (fun_mk (st := s_law_act) l13 c13 k13),
    b_law_act := (Fun.binds (ps := ["_law_journal", "_law_deed"]) (fun_mk (st := s_law_act) l13 c13 k13) fun _ _ _ _ _ _ us hl => match us, hl with | [_, _], _ => rfl),
    g_law_act := PySem.W.mg_of X G a13,
    f_law_change := f14,
    d_law_change := _,
    k_law_change := (fun_mk (st := s_law_change) l14 c14 k14),
    b_law_change := (Fun.binds (ps := ["_law_state", "_law_place", "_law_word"]) (fun_mk (st := s_law_change) l14 c14 k14) fun _ _ _ _ _ _ us hl => match us, hl with | [_, _, _], _ => rfl),
    g_law_change := PySem.W.mg_of X G a14,
    f_law_expect := f15,
    d_law_expect := _,
    k_law_expect := (fun_mk (st := s_law_expect) l15 c15 k15),
    b_law_expect := (Fun.binds (ps := ["_law_state", "_law_deed"]) (fun_mk (st := s_law_expect) l15 c15 k15) fun _ _ _ _ _ _ us hl => match us, hl with | [_, _], _ => rfl),
    g_law_expect := PySem.W.mg_of X G a15,
    f_law := fa,
    d_law := _,
    k_law := (fun_mk (st := s_law) l16 c16 k16),
    b_law := (Fun.binds (ps := ["_law_script"]) (fun_mk (st := s_law) l16 c16 k16) fun _ _ _ _ _ _ us hl => match us, hl with | [_], _ => rfl),
    g_law := PySem.W.mg_of X G a16,
    c_CardError := c_CardError,
    g_CardError := PySem.W.mg_of X G aC_CardError,
    c_Fault := c_Fault,
    g_Fault := PySem.W.mg_of X G aC_Fault,
    c_PowerCut := c_PowerCut,
    g_PowerCut := PySem.W.mg_of X G aC_PowerCut,
    c_Journal := c_Journal,
    g_Journal := PySem.W.mg_of X G aC_Journal,
    c_Cells := c_Cells,
    g_Cells := PySem.W.mg_of X G aC_Cells,
    ox_Fault := ⟨⟨_, _, _, _, _, _, _, _, _, _, _, _, _, _, _, w1oe, w2rv⟩, w3os, w4ob, w5ot, w6ok⟩,
    in_Fault := w7in,
    ti_Fault := w8ti,
    on_Fault_code := w9on,
    xf_Fault := ⟨w10xg, w11xh, w12xe, w13xd⟩,
    ex_Fault_Fault := exm_two w14eb w15ei w16et w17es,
    ex_PowerCut_Fault := exm_two w18eb w19ei w20et w21es,
    x_PowerCut := ⟨w22x, w23kx, w24be, w25ty⟩,
    cl_Journal := ⟨w26pg, w27hd, w28po, w29sa⟩,
    mk_Journal := ⟨w30mk, w31in, w32fi, w33kc⟩,
    me_Journal_is_open := ⟨w34at, w35fn, w36km⟩,
    me_Journal_change := ⟨w37at, w38fn, w39km⟩,
    me_Journal_begin := ⟨w40at, w41fn, w42km⟩,
    me_Journal_commit := ⟨w43at, w44fn, w45km⟩,
    me_Journal_abort := ⟨w46at, w47fn, w48km⟩,
    me_Journal_put_back := ⟨w49at, w50fn, w51km⟩,
    me_Journal__forget := ⟨w52at, w53fn, w54km⟩,
    nf_Journal_cells := w55na,
    nf_Journal_start := w56na,
    nf_Journal_open := w57na,
    cl_Cells := ⟨w58pg, w59hd, w60po, w61sa⟩,
    mk_Cells := ⟨w62mk, w63in, w64fi, w65kc⟩,
    me_Cells_read := ⟨w66at, w67fn, w68km⟩,
    me_Cells_write := ⟨w69at, w70fn, w71km⟩,
    nf_Cells_words := w72na,
    nf_Cells_left := w73na,
    nf_Cells_on := w74na,
    m_abs := PySem.W.mg_none_of X G z0,
    m_int := PySem.W.mg_none_of X G z1,
    m_len := PySem.W.mg_none_of X G z2,
    m_list := PySem.W.mg_none_of X G z3,
    m_range := PySem.W.mg_none_of X G z4,
    m_reversed := PySem.W.mg_none_of X G z5,
    t_MOST_LOG := tk0,
    g_MOST_LOG := PySem.W.mg_of X G y0,
    t_TRANSACTION := tk1,
    g_TRANSACTION := PySem.W.mg_of X G y1,
    t_JOURNAL_CELLS := tk2,
    g_JOURNAL_CELLS := PySem.W.mg_of X G y2 }
  exact ⟨T.d_law, fun s v => .of_eq rfl, fun base _ _ => ok_law T⟩
end
end My
open PySem PySem.W PyProof.Rows
set_option maxHeartbeats 0 in
theorem PySem.Challenge.cw_warycard_k70_journal_holds : PySem.Challenge.rw_warycard_k70_journal.Holds := by
  w_on; o_law; k_head; (case hw => w_witness2)
  k_fill
  refine L2.walk_of (l := PySem.Challenge.rw_warycard_k70_journal) (n := 63) (k := 6) (x := "_law_script") (CX := fun _ => L2.CX0) (sp := fun w => My.sp_law _) rfl (by decide) rfl ⟨rfl, by decide, by decide⟩ (fun w h Y => PySem.W.kIn_of Y) ?F (fun _ _ a ns hl _ hS => ⟨a, ns, rfl, hS, hl, fun _ => rfl⟩) (fun _ _ _ _ _ h => h)
  case F =>
    intro w mg fa h KX G hmg
    refine' My.all_mk KX G hmg ?l0 ?c0 ?k0 ?l1 ?c1 ?k1 ?l2 ?c2 ?k2 ?l3 ?c3 ?k3 ?l4 ?c4 ?k4 ?l5 ?c5 ?k5 ?l6 ?c6 ?k6 ?l7 ?c7 ?k7 ?l8 ?c8 ?k8 ?l9 ?c9 ?k9 ?l10 ?c10 ?k10 ?l11 ?c11 ?k11 ?a12 ?l12 ?c12 ?k12 ?a13 ?l13 ?c13 ?k13 ?a14 ?l14 ?c14 ?k14 ?a15 ?l15 ?c15 ?k15 ?a16 ?l16 ?c16 ?k16 ?aC_CardError ?aC_Fault ?aC_PowerCut ?aC_Journal ?aC_Cells ?w1oe ?w2rv ?w3os ?w4ob ?w5ot ?w6ok ?w7in ?w8ti ?w9on ?w10xg ?w11xh ?w12xe ?w13xd ?w14eb ?w15ei ?w16et ?w17es ?w18eb ?w19ei ?w20et ?w21es ?w22x ?w23kx ?w24be ?w25ty ?w26pg ?w27hd ?w28po ?w29sa ?w30mk ?w31in ?w32fi ?w33kc ?w34at ?w35fn ?w36km ?w37at ?w38fn ?w39km ?w40at ?w41fn ?w42km ?w43at ?w44fn ?w45km ?w46at ?w47fn ?w48km ?w49at ?w50fn ?w51km ?w52at ?w53fn ?w54km ?w55na ?w56na ?w57na ?w58pg ?w59hd ?w60po ?w61sa ?w62mk ?w63in ?w64fi ?w65kc ?w66at ?w67fn ?w68km ?w69at ?w70fn ?w71km ?w72na ?w73na ?w74na ?z0 ?z1 ?z2 ?z3 ?z4 ?z5 ?y0 ?y1 ?y2
    (case a12 => k_is); (case a13 => k_is); (case a14 => k_is); (case a15 => k_is); (case a16 => k_is); (case aC_CardError => k_is); (case aC_Fault => k_is); (case aC_PowerCut => k_is); (case aC_Journal => k_is); (case aC_Cells => k_is); (case z0 => k_is); (case z1 => k_is); (case z2 => k_is); (case z3 => k_is); (case z4 => k_is); (case z5 => k_is); (case y0 => k_is); (case y1 => k_is); (case y2 => k_is); (case w7in => k_is); (case w31in => k_is); (case w34at => k_is); (case w37at => k_is); (case w40at => k_is); (case w43at => k_is); (case w46at => k_is); (case w49at => k_is); (case w52at => k_is); (case w63in => k_is); (case w66at => k_is); (case w69at => k_is); (case l0 => k_is); (case l1 => k_is); (case l2 => k_is); (case l3 => k_is); (case l4 => k_is); (case l5 => k_is); (case l6 => k_is); (case l7 => k_is); (case l8 => k_is); (case l9 => k_is); (case l10 => k_is); (case l11 => k_is); (case l12 => k_is); (case l13 => k_is); (case l14 => k_is); (case l15 => k_is); (case l16 => k_is); (case w1oe => k_is); (case c0 => k_is); (case k0 => k_is); (case c1 => k_is); (case k1 => k_is); (case c2 => k_is); (case k2 => k_is); (case c3 => k_is); (case k3 => k_is); (case c4 => k_is); (case k4 => k_is); (case c5 => k_is); (case k5 => k_is); (case c6 => k_is); (case k6 => k_is); (case c7 => k_is); (case k7 => k_is); (case c8 => k_is); (case k8 => k_is); (case c9 => k_is); (case k9 => k_is); (case c10 => k_is); (case k10 => k_is); (case c11 => k_is); (case k11 => k_is); (case c12 => k_is); (case k12 => k_is); (case c13 => k_is); (case k13 => k_is); (case c14 => k_is); (case k14 => k_is); (case c15 => k_is); (case k15 => k_is); (case c16 => k_is); (case k16 => k_is); (case w2rv => rfl); (case w3os => k_is); (case w4ob => k_is); (case w5ot => k_is); (case w6ok => k_is); (case w8ti => k_is); (case w9on => k_is); (case w10xg => k_is); (case w11xh => k_is); (case w12xe => k_is); (case w13xd => k_is); (case w14eb => k_is); (case w15ei => k_is); (case w16et => k_is); (case w17es => first | rfl | k_is); (case w18eb => k_is); (case w19ei => k_is); (case w20et => k_is); (case w21es => first | rfl | k_is); (case w22x => k_exc); (case w23kx => k_is); (case w24be => k_is); (case w25ty => k_is); (case w26pg => k_is); (case w27hd => k_is); (case w28po => k_is); (case w29sa => k_is); (case w30mk => k_is); (case w32fi => k_is); (case w33kc => k_is); (case w35fn => k_is); (case w36km => k_is); (case w38fn => k_is); (case w39km => k_is); (case w41fn => k_is); (case w42km => k_is); (case w44fn => k_is); (case w45km => k_is); (case w47fn => k_is); (case w48km => k_is); (case w50fn => k_is); (case w51km => k_is); (case w53fn => k_is); (case w54km => k_is); (case w55na => k_is); (case w56na => k_is); (case w57na => k_is); (case w58pg => k_is); (case w59hd => k_is); (case w60po => k_is); (case w61sa => k_is); (case w62mk => k_is); (case w64fi => k_is); (case w65kc => k_is); (case w67fn => k_is); (case w68km => k_is); (case w70fn => k_is); (case w71km => k_is); (case w72na => k_is); (case w73na => k_is); (case w74na => k_is)
#print axioms PySem.Challenge.cw_warycard_k70_journal_holds
