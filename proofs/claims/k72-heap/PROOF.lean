import PyProof.Rows.All
import Wide.All
import OpenK.AllK
import Wide.FinOn
import HandS.ForMost
import HandS.Wide
import HandS.IsInst
import HandS.Walk
import HandS.Codes
import HandS.ForExc
import HandS.Style
import HandS.ExcInit
import HandS.ExcField
import HandS.RevRange
import HandS.Conv
import HandS.Text
import HandS.Replace
import HandS.More
import HandS.Iter
import HandS.CallLocal
import HandS.SortInts
import HandS.WordsDict
import PySem.Challenge.RW_warycard_k72_heap
set_option Elab.async false
set_option maxRecDepth 100000
set_option maxHeartbeats 4000000
namespace My
open PySem PySem.Spec PyProof.Rows L2
/-! ### readings -/
theorem OpR.imp' {X : Cx} {f : Value → Value → Sem Value} {r r' : R2} (h : OpR X f r) (i : ∀ x y H Q, r' x y H Q → r x y H Q) : OpR X f r' := fun pins s σ H x y u v Q I rx ry q => h pins s σ H x y u v Q I rx ry (i _ _ _ _ q)
theorem op_modP {X : Cx} : OpR X (binaryOp .Mod) (rI (fun _ j => 0 < j) fun i j => .int (i % j)) := OpR.imp' op_modN fun x y H Q ⟨i, j, e1, e2, hj, q⟩ => ⟨i, j, e1, e2, by have hj : 0 < j := hj; show j ≠ 0; omega, by
  have hj : 0 < j := hj
  have e : i.fmod j = i % j := Int.fmod_eq_emod_of_nonneg i (by omega)
  show Q (V.int (i.fmod j)) H
  rw [e]; exact q⟩
theorem rdSeq {t u : TS} {D : Ends} {σ : L2.St} {H : Hp} (h : t { D with nx := u D } σ H) : tSeq t u D σ H := h
/-- all that was tracked is kept but the list at a, which holds three ints -/
def Bag (H : Hp) (a : Addr) : Prop := ∃ x y z : Int, H a = some (.lst [.int x, .int y, .int z])
structure Mv (a : Addr) (H H' : Hp) : Prop where
  bag : Bag H' a
  old : ∀ b o, b ≠ a → H b = some o → H' b = some o
theorem Mv.refl {a : Addr} {H : Hp} (h : Bag H a) : Mv a H H := ⟨h, fun _ _ _ e => e⟩
theorem Mv.trans {a : Addr} {H H1 H2 : Hp} (h : Mv a H H1) (k : Mv a H1 H2) : Mv a H H2 := ⟨k.bag, fun b o n e => k.old b o n (h.old b o n e)⟩
theorem Mv.new {a p : Addr} {o : HO} {H H1 : Hp} (h : Mv a H H1) (n : H1 p = none) : Mv a H (upd H1 p o) := by
  obtain ⟨x, y, z, e⟩ := h.bag
  have ne : a ≠ p := fun q => by subst q; rw [n] at e; cases e
  exact ⟨⟨x, y, z, by rw [upd_ne ne]; exact e⟩, fun b u hb hu => by
    have := h.old b u hb hu
    rw [upd_ne (ne_of_none this n)]; exact this⟩
theorem Mv.ne {a p : Addr} {H H1 : Hp} (h : Mv a H H1) (n : H1 p = none) : p ≠ a := fun q => by
  obtain ⟨x, y, z, e⟩ := h.bag
  subst q; rw [n] at e; cases e
theorem Mv.free {a p : Addr} {H H1 : Hp} (h : Mv a H H1) (n : H1 p = none) : H p = none := by
  cases e : H p with
  | none => rfl
  | some o => rw [h.old p o (h.ne n) e] at n; cases n
theorem bag_ne {a p : Addr} {H : Hp} (h : Bag H a) (n : H p = none) : p ≠ a := fun q => by
  obtain ⟨x, y, z, e⟩ := h
  subst q; rw [n] at e; cases e
theorem sqL_of {K : PySem.W.Frag} {H : Hp} {a : Addr} {xs : List V} (h : H a = some (.lst xs)) : SqL K H a xs := .inl (.inl h)
theorem sqT_of {K : PySem.W.Frag} {H : Hp} {a : Addr} {xs : List V} (h : H a = some (.tup xs)) : SqT K H a xs := .inl (.inl h)
def rIntA : List V → Hp → VK → Prop := fun xs H Q => ∃ x, xs = [x] ∧ match x with
  | .int i => Q (.int i) H
  | .bl k => Q (.int (if k = true then 1 else 0)) H
  | _ => False
theorem call_intI {X : Cx} : CallR X (.type "int") rIntA := fun pins s σ H xs us Q I r ⟨x, e, q⟩ => by
  cases x with
  | int i => exact call_int1 pins s σ H xs us Q I r (.inl ⟨i, e, q⟩)
  | bl k => exact call_int1 pins s σ H xs us Q I r (.inr ⟨k, e, q⟩)
  | _ => exact False.elim q
/-- len of a list, of a tuple -/
def rLenL (K : PySem.W.Frag) : List V → Hp → VK → Prop := fun xs H Q => ∃ p ys, xs = [.ref p] ∧ SqL K H p ys ∧ Q (.int ys.length) H
def rLenT (K : PySem.W.Frag) : List V → Hp → VK → Prop := fun xs H Q => ∃ p ys, xs = [.ref p] ∧ SqT K H p ys ∧ Q (.int ys.length) H
theorem call_lenL {X : Cx} : CallR X (.builtin "len") (rLenL X.K) := fun pins s σ H xs us Q I r ⟨p, ys, e, h, q⟩ => call_len_seq pins s σ H xs us Q I r ⟨p, ys, e, .inl h, q⟩
theorem call_lenT {X : Cx} : CallR X (.builtin "len") (rLenT X.K) := fun pins s σ H xs us Q I r ⟨p, ys, e, h, q⟩ => call_len_seq pins s σ H xs us Q I r ⟨p, ys, e, .inr h, q⟩
theorem i_lenL {K : PySem.W.Frag} {H : Hp} {Q : VK} {p : Addr} {ys : List V} (h : SqL K H p ys) (q : Q (.int ys.length) H) : rLenL K [.ref p] H Q := ⟨p, ys, rfl, h, q⟩
theorem i_lenT {K : PySem.W.Frag} {H : Hp} {Q : VK} {p : Addr} {ys : List V} (h : SqT K H p ys) (q : Q (.int ys.length) H) : rLenT K [.ref p] H Q := ⟨p, ys, rfl, h, q⟩
theorem i_ixL {K : PySem.W.Frag} {H : Hp} {Q : VK} {p : Addr} {xs : List V} {i : Int} {v : V} (h : SqL K H p xs) (e : atI xs i = some v) (q : Q v H) : rIxL K (.ref p) (.int i) H Q := ⟨p, xs, i, v, rfl, rfl, h, e, q⟩
theorem i_ixT {K : PySem.W.Frag} {H : Hp} {Q : VK} {p : Addr} {xs : List V} {i : Int} {v : V} (h : SqT K H p xs) (e : atI xs i = some v) (q : Q v H) : rIxT K (.ref p) (.int i) H Q := ⟨p, xs, i, v, rfl, rfl, h, e, q⟩
theorem i_setL {H : Hp} {p : Addr} {xs : List V} {i : Int} {j : Nat} {v : V} {Q : Hp → Prop} (h : H p = some (.lst xs)) (e : ixN xs.length i = some j) (q : Q (upd H p (.lst (xs.set j v)))) : rSetL (.ref p) (.int i) v H Q := ⟨p, xs, i, j, rfl, rfl, h, e, q⟩
theorem i_lst {H : Hp} {xs : List V} {Q : VK} (hl : xs.length ≤ sizeLine) (q : ∀ p, H p = none → Q (.ref p) (upd H p (.lst xs))) : xs.length ≤ sizeLine ∧ ∀ p, H p = none → Q (.ref p) (upd H p (.lst xs)) := ⟨hl, q⟩
/-- an item at a drawn place of a written list -/
theorem at_of {α : Type} {xs : List α} {i : Int} (h0 : 0 ≤ i) (h1 : i < xs.length) : ∃ v, atI xs i = some v ∧ v ∈ xs := by
  obtain ⟨j, rfl⟩ := Int.eq_ofNat_of_zero_le h0
  have hi : j < xs.length := by omega
  exact ⟨xs[j], atI_nat (List.getElem?_eq_getElem hi), List.getElem_mem hi⟩
theorem pow18 : CPow 10 18 := ⟨by decide, by decide, by decide⟩
theorem cm_r {i j : Int} (h : decide (-(2 ^ 64) < j) && decide (j < 2 ^ 64) = true) : CMul i j := by
  simp only [Bool.and_eq_true, decide_eq_true_eq] at h
  exact .inr h
theorem cm_l {i j : Int} (h : decide (-(2 ^ 64) < i) && decide (i < 2 ^ 64) = true) : CMul i j := by
  simp only [Bool.and_eq_true, decide_eq_true_eq] at h
  exact .inl h
theorem i_isi {K : PySem.W.Frag} {H : Hp} {Q : VK} {x : V} {t c : String} {b : Bool} (ty : TyX K H x (.type t)) (hk : kitB t c = some b) (q : Q (.bl b) H) : rIsi K [x, .ty c] H Q := ⟨x, .ty c, .type t, .type c, b, rfl, .ty c, ty, kit_ty hk, q⟩
theorem ty_int {K : PySem.W.Frag} {H : Hp} {i : Int} : TyX K H (.int i) (.type "int") := .base (.int _)
theorem ty_bl {K : PySem.W.Frag} {H : Hp} {i : Bool} : TyX K H (.bl i) (.type "bool") := .base (.bl _)
theorem ty_str {K : PySem.W.Frag} {H : Hp} {i : Str} : TyX K H (.str i) (.type "str") := .base (.str _)
theorem ty_non {K : PySem.W.Frag} {H : Hp} : TyX K H .non (.type "NoneType") := .base .non
theorem kb_ii : kitB "int" "int" = some true := by decide +kernel
theorem kb_bi : kitB "bool" "int" = some true := by decide +kernel
theorem kb_ib : kitB "int" "bool" = some false := by decide +kernel
theorem kb_bb : kitB "bool" "bool" = some true := by decide +kernel
theorem pow17 : CPow 10 17 := ⟨by decide, by decide, by decide⟩
/-- for over range(n) -/
def rForR (lo : Int) (n : Nat) (g : TG) (tb : TS) : TS := fun D σ H => ∃ W : Nat → Nat → L2.St → Hp → Prop, (∃ m, W 0 m σ H) ∧ ∀ i m σ H, W i m σ H →
  ((Itr lo n).stop i H ∧ D.nx σ H) ∨ ((Itr lo n).go i H ∧ ∃ Nx : L2.St → Hp → Prop, (∀ σ' H', Nx σ' H' → ∃ m', m' < m ∧ W (i + 1) m' σ' H') ∧ ∀ x H', (Itr lo n).yld i H x H' → g x σ H' fun σ2 H2 => tb { D with nx := Nx, ct := Nx, bk := D.nx } σ2 H2)
theorem i_forR1 {ta : TA} {g : TG} {tb : TS} {D : Ends} {σ : L2.St} {H : Hp} (h : ta σ H fun vs H1 => ∃ j : Int, vs = [.int j] ∧ -(2 ^ 62) ≤ j ∧ j < 2 ^ 62 ∧ rForR 0 j.toNat g tb D σ H1) : tFor (iRng1 ta) g tb D σ H := h
theorem i_forR2 {ta : TA} {g : TG} {tb : TS} {D : Ends} {σ : L2.St} {H : Hp} (h : ta σ H fun vs H1 => ∃ i j : Int, vs = [.int i, .int j] ∧ (-(2 ^ 62) ≤ i ∧ i < 2 ^ 62 ∧ -(2 ^ 62) ≤ j ∧ j < 2 ^ 62) ∧ rForR i (j - i).toNat g tb D σ H1) : tFor (iRng2 ta) g tb D σ H := h
theorem i_loopR {lo : Int} {n : Nat} {j : Nat} {tb : TS} {D : Ends} {σ : L2.St} {H : Hp} (Pv : Nat → L2.St → Hp → Prop) (h0 : Pv 0 σ H)
    (hs : ∀ (i : Nat) σ H, i < n → Pv i σ H → tb { D with nx := Pv (i + 1), ct := Pv (i + 1), bk := D.nx } (σ.set j (some (.int (lo + i)))) H) (hd : ∀ σ H, Pv n σ H → D.nx σ H) : rForR lo n (gName j) tb D σ H := for_range Pv h0 hs hd
theorem i_else {c A B : Prop} [Decidable c] (h : ¬ c) (b : B) : if c then A else B := by rw [if_neg h]; exact b
theorem i_then {c A B : Prop} [Decidable c] (h : c) (a : A) : if c then A else B := by rw [if_pos h]; exact a
/-- two ways that meet -/
theorem i_both {c A B T : Prop} [Decidable c] (t : T) (h1 : c → T → A) (h2 : ¬ c → T → B) : if c then A else B := ite2 (fun h => h1 h t) (fun h => h2 h t)
theorem ty_tup {K : PySem.W.Frag} {H : Hp} {p : Addr} {xs : List V} (h : H p = some (.tup xs)) : TyX K H (.ref p) (.type "tuple") := .base (.tup h)
theorem ty_lst {K : PySem.W.Frag} {H : Hp} {p : Addr} {xs : List V} (h : H p = some (.lst xs)) : TyX K H (.ref p) (.type "list") := .base (.lst h)
theorem kb_ni : kitB "NoneType" "int" = some false := by decide +kernel
theorem kb_si : kitB "str" "int" = some false := by decide +kernel
theorem kb_li : kitB "list" "int" = some false := by decide +kernel
theorem kb_ti : kitB "tuple" "int" = some false := by decide +kernel
theorem kb_di : kitB "dict" "int" = some false := by decide +kernel
/-! ### loops by what is walked -/
def rForJ (J : It) (g : TG) (tb : TS) : TS := fun D σ H => ∃ W : Nat → Nat → L2.St → Hp → Prop, (∃ m, W 0 m σ H) ∧ ∀ i m σ H, W i m σ H →
  (J.stop i H ∧ D.nx σ H) ∨ (J.go i H ∧ ∃ Nx : L2.St → Hp → Prop, (∀ σ' H', Nx σ' H' → ∃ m', m' < m ∧ W (i + 1) m' σ' H') ∧ ∀ x H', J.yld i H x H' → g x σ H' fun σ2 H2 => tb { D with nx := Nx, ct := Nx, bk := D.nx } σ2 H2)
theorem tFor_J {wi : TI} {g : TG} {tb : TS} {D : Ends} {σ : L2.St} {H : Hp} : tFor wi g tb D σ H = wi σ H fun J H1 => rForJ J g tb D σ H1 := rfl
def rLcJ (J : It) (g : TG) (tt : TT) (te : TE) (vs : List Nat) : TE := fun σ H1 Q => ∀ D, H1 D = none → ∃ W : Nat → Nat → Hp → Prop, (∃ m, W 0 m (upd H1 D (.lst []))) ∧ ∀ i m H, W i m H →
  (J.stop i H ∧ Q (.ref D) H) ∨ (J.go i H ∧ ∃ Nx : Hp → Prop, (∀ H', Nx H' → ∃ m', m' < m ∧ W (i + 1) m' H') ∧ ∀ x H', J.yld i H x H' → g x (wipe σ vs) H' fun σ2 H2 => wipe σ2 vs = wipe σ vs ∧ tt σ2 H2 fun b H3 =>
    if b = true then te σ2 H3 fun y H4 => ∃ acc, H4 D = some (.lst acc) ∧ acc.length < sizeLine ∧ Nx (upd H4 D (.lst (acc ++ [y]))) else Nx H3)
theorem tLc_J {wi : TI} {g : TG} {tt : TT} {te : TE} {vs : List Nat} {σ : L2.St} {H : Hp} {Q : VK} : tLc wi g tt te vs σ H Q = wi σ H fun J H1 => rLcJ J g tt te vs σ H1 Q := rfl
theorem i_for {J : It} {n : Nat} {G : Hp → Prop} {Y : Nat → Hp → V → Hp → Prop} (w : Walk J n G Y) {j : Nat} {tb : TS} {D : Ends} {σ : L2.St} {H : Hp} (Pv : Nat → L2.St → Hp → Prop) (h0 : Pv 0 σ H) (hG : ∀ i σ H, i ≤ n → Pv i σ H → G H)
    (hs : ∀ i x σ H H', i < n → Pv i σ H → Y i H x H' → tb { D with nx := Pv (i + 1), ct := Pv (i + 1), bk := D.nx } (σ.set j (some x)) H') (hd : ∀ σ H, Pv n σ H → D.nx σ H) : rForJ J (gName j) tb D σ H := for_it w Pv h0 hG hs hd
theorem wipe_one {σ : L2.St} {j : Nat} {x : V} : wipe ((wipe σ [j]).set j (some x)) [j] = wipe σ [j] := by
  show ((σ.set j none).set j (some x)).set j none = σ.set j none
  rw [List.set_set, List.set_set]
def YL {α : Type} (l : List α) (r : α → V) : Nat → Hp → V → Hp → Prop := fun i H v H' => H' = H ∧ ∃ c, l[i]? = some c ∧ v = r c
/-- [e for x in ..], e without an effect -/
theorem i_lcL {α : Type} {J : It} {l : List α} {r : α → V} {G : Hp → Prop} (w : Walk J l.length G (YL l r)) {j : Nat} {te : TE} {σ : L2.St} {H : Hp} {Q : VK} (g : α → V) (hn : l.length < sizeLine) (hG : ∀ D ys, H D = none → G (upd H D (.lst ys)))
    (hs : ∀ c ∈ l, ∀ H1 (Q' : VK), Same H H1 → Q' (g c) H1 → te ((wipe σ [j]).set j (some (r c))) H1 Q') (q : ∀ D, H D = none → Q (.ref D) (upd H D (.lst (l.map g)))) : rLcJ J (gName j) tYes te [j] σ H Q := by
  intro D hD
  refine lc_it w (fun i H' => H' = upd H D (.lst ((l.take i).map g))) rfl (fun i H' _ e => by subst e; exact hG D _ hD) (fun i x H1 H2 hi e y => ?_) (fun H' e => by subst e; rw [List.take_length]; exact q D hD)
  obtain ⟨e2, c, hc, rfl⟩ := y
  subst e2
  refine ⟨wipe_one, hs c (List.mem_of_getElem? hc) H2 (fun y H4 => ∃ acc, H4 D = some (.lst acc) ∧ acc.length < sizeLine ∧ upd H4 D (.lst (acc ++ [y])) = upd H D (.lst ((l.take (i + 1)).map g))) (by subst e; intro b o h; rw [upd_ne (ne_of_none h hD)]; exact h) ?_⟩
  subst e
  refine ⟨_, upd_same, by rw [List.length_map, List.length_take]; omega, ?_⟩
  rw [upd_upd, List.take_add_one, hc, List.map_append]; rfl
/-- for x in ..: if not p: return False -/
theorem i_forall {α : Type} {J : It} {l : List α} {r : α → V} {G : Hp → Prop} (w : Walk J l.length G (YL l r)) {j : Nat} {tb : TS} {D : Ends} {σ : L2.St} {H : Hp} (p : α → Bool) (v : V) (hG : G H)
    (hs : ∀ c ∈ l, ∀ D' : Ends, (p c = true → D'.nx (σ.set j (some (r c))) H) → (p c = false → D'.rt v H) → tb D' (σ.set j (some (r c))) H) (h1 : l.all p = true → D.nx σ H ∧ ∀ u, D.nx (σ.set j u) H) (h2 : l.all p = false → D.rt v H) : rForJ J (gName j) tb D σ H := by
  refine i_for w (fun i σ' H' => H' = H ∧ (σ' = σ ∨ ∃ u, σ' = σ.set j u) ∧ ∀ c ∈ l.take i, p c = true) ⟨rfl, .inl rfl, by simp⟩ (fun i σ' H' _ h => by rw [h.1]; exact hG) ?_ ?_
  · rintro i x σ' H' H2 hi ⟨rfl, hσ, hp⟩ ⟨rfl, c, hc, rfl⟩
    have hm := List.mem_of_getElem? hc
    have es : σ'.set j (some (r c)) = σ.set j (some (r c)) := by
      rcases hσ with rfl | ⟨u, rfl⟩
      · rfl
      · rw [List.set_set]
    rw [es]
    refine hs c hm _ (fun hpc => ⟨rfl, .inr ⟨_, rfl⟩, fun d hd => ?_⟩) (fun hpc => h2 ?_)
    · rw [List.take_add_one, hc] at hd
      rcases List.mem_append.mp hd with h | h
      · exact hp d h
      · rw [List.mem_singleton.mp h]; exact hpc
    · rw [List.all_eq_false]
      exact ⟨c, hm, by rw [hpc]; simp⟩
  · rintro σ' H' ⟨rfl, hσ, hp⟩
    rw [List.take_length] at hp
    have h := h1 (List.all_eq_true.mpr hp)
    rcases hσ with rfl | ⟨u, rfl⟩
    · exact h.1
    · exact h.2 u
/-- [e for x in ..], e draws from the bag at a -/
theorem i_lcD {J : It} {n : Nat} {G : Hp → Prop} {Y : Nat → Hp → V → Hp → Prop} (w : Walk J n G Y) {a : Addr} {j : Nat} {te : TE} {σ : L2.St} {H : Hp} {Q : VK} (hB : Bag H a) (P : V → Prop) (hn : n < sizeLine) (hG : ∀ H', Mv a H H' → G H') (hY : ∀ i H x H', Y i H x H' → H' = H)
    (hs : ∀ i x H1 (Q' : VK), i < n → Y i H1 x H1 → Mv a H H1 → (∀ y H2, P y → Mv a H1 H2 → Q' y H2) → te ((wipe σ [j]).set j (some x)) H1 Q') (q : ∀ D H' ys, H D = none → Mv a H H' → H' D = some (.lst ys) → ys.length = n → (∀ y ∈ ys, P y) → Q (.ref D) H') : rLcJ J (gName j) tYes te [j] σ H Q := by
  intro D hD
  have nD := bag_ne hB hD
  refine lc_it w (fun i H' => Mv a H H' ∧ ∃ ys, H' D = some (.lst ys) ∧ ys.length = i ∧ ∀ y ∈ ys, P y) ⟨(Mv.refl hB).new hD, [], upd_same, rfl, fun _ h => nomatch h⟩ (fun i H' _ e => hG H' e.1) (fun i x H1 H2 hi e y => ?_) (fun H' e => ?_)
  · have e2 := hY i H1 x H2 y
    subst e2
    obtain ⟨mv, ys, e1, e2, e3⟩ := e
    refine ⟨wipe_one, hs i x H2 (fun y H4 => ∃ acc, H4 D = some (.lst acc) ∧ acc.length < sizeLine ∧ (Mv a H (upd H4 D (.lst (acc ++ [y]))) ∧ ∃ ys, upd H4 D (.lst (acc ++ [y])) D = some (.lst ys) ∧ ys.length = i + 1 ∧ ∀ y ∈ ys, P y)) hi y mv fun v H3 hv mv3 => ?_⟩
    refine ⟨ys, mv3.old D _ nD e1, by omega, ?_⟩
    have m3 := mv.trans mv3
    refine ⟨⟨?_, fun b o hb e => ?_⟩, ys ++ [v], upd_same, by simp [e2], fun y hy => ?_⟩
    · obtain ⟨x1, x2, x3, hx⟩ := m3.bag
      exact ⟨x1, x2, x3, by rw [upd_ne nD.symm]; exact hx⟩
    · rw [upd_ne (ne_of_none e hD)]; exact m3.old b o hb e
    · rcases List.mem_append.mp hy with h | h
      · exact e3 y h
      · rw [List.mem_singleton.mp h]; exact hv
  · obtain ⟨mv, ys, e1, e2, e3⟩ := e
    exact q D H' ys hD mv e1 e2 e3
theorem rdCut {t u : TS} {D : Ends} {σ : L2.St} {H : Hp} (Mid : L2.St → Hp → Prop) (h : t { D with nx := Mid } σ H) (k : ∀ σ' H', Mid σ' H' → u D σ' H') : C8.tCut t u D σ H := ⟨Mid, h, k⟩
theorem pow9 : CPow 10 9 := ⟨by decide, by decide, by decide⟩
theorem pow8 : CPow 10 8 := ⟨by decide, by decide, by decide⟩
theorem pow12 : CPow 10 12 := ⟨by decide, by decide, by decide⟩
theorem walk_rangeL {lo : Int} {n : Nat} : Walk (Itr lo n) (List.range n).length (fun _ => True) (YL (List.range n) fun i => .int (lo + i)) := by
  rw [List.length_range]
  exact walk_range.mono (fun _ h => h) fun i H x H' hi _ y => ⟨y.1, i, by rw [List.getElem?_range hi], y.2⟩
theorem i_app {H : Hp} {l : Addr} {xs : List V} {v : V} {Q : VK} (h : H l = some (.lst xs)) (hz : xs.length < sizeLine) (q : Q .non (upd H l (.lst (xs ++ [v])))) : rAppend (.ref l) [v] H Q := ⟨l, xs, v, rfl, rfl, h, hz, q⟩
theorem ty_app {K : PySem.W.Frag} {H : Hp} {l : Addr} {xs : List V} (h : SqL K H l xs) : tyV K "list" (.ref l) H := .inl ⟨rfl, xs, h⟩
theorem i_slL {K : PySem.W.Frag} {H : Hp} {a : Addr} {xs : List V} {lo hi : Option Int} {Q : VK} (h : SqL K H a xs) (q : ∀ p, H p = none → Q (.ref p) (upd H p (.lst (cutV xs lo hi)))) : rSlL K (.ref a) lo hi H Q := ⟨a, xs, rfl, h, q⟩
theorem i_cat {H : Hp} {l b : Addr} {xs zs : List V} {Q : VK} (h1 : H l = some (.lst xs)) (h2 : H b = some (.lst zs)) (hz : xs.length + zs.length ≤ sizeLine) (q : ∀ p, H p = none → Q (.ref p) (upd H p (.lst (xs ++ zs)))) : rCat (.ref l) (.ref b) H Q := ⟨l, b, xs, zs, rfl, rfl, h1, h2, hz, q⟩
theorem i_inL {K : PySem.W.Frag} {neg : Bool} {x : V} {H : Hp} {p : Addr} {xs : List V} {Q : VK} (h : SqL K H p xs ∨ SqT K H p xs) (h1 : flatV x = true) (h2 : xs.all flatV = true) (q : Q (.bl (if neg then !inV x xs else inV x xs)) H) : rIn K neg x (.ref p) H Q := ⟨p, xs, rfl, h, h1, h2, q⟩
theorem cut_take {xs : List V} {n : Nat} : cutV xs none (some (n : Int)) = xs.take n := by
  unfold cutV
  rw [HT.sIx_none, HT.sIx_nat]
  simp only [List.drop_zero, Nat.sub_zero]
  rw [Nat.min_comm, ← List.take_take, List.take_of_length_le (by rw [List.length_take]; omega)]
theorem cut_drop {xs : List V} {n : Nat} : cutV xs (some (n : Int)) none = xs.drop n := by
  unfold cutV
  rw [HT.sIx_none, HT.sIx_nat]
  by_cases h : n ≤ xs.length
  · rw [Nat.min_eq_left h, List.take_of_length_le (by rw [List.length_drop]; omega)]
  · rw [Nat.min_eq_right (by omega), List.drop_of_length_le (by omega), List.drop_of_length_le (by omega)]; simp
theorem line5 {n : Nat} (h : n ≤ 100000) : n ≤ sizeLine := Nat.le_trans h (by decide)
theorem line5' {n : Nat} (h : n ≤ 100000) : n < sizeLine := Nat.lt_of_le_of_lt h (by decide)
/-! ### the same rules with the written part named (for a comprehension's block) -/
theorem ix_listK (K : PySem.W.Frag) {X : Cx} (h : X.K = K := by rfl) : IxR X (rIxL K) := h ▸ ix_list
theorem ix_tupK (K : PySem.W.Frag) {X : Cx} (h : X.K = K := by rfl) : IxR X (rIxT K) := h ▸ ix_tup
theorem sl_listK (K : PySem.W.Frag) {X : Cx} (h : X.K = K := by rfl) : SlR X (rSlL K) := h ▸ sl_list
theorem sl_tupK (K : PySem.W.Frag) {X : Cx} (h : X.K = K := by rfl) : SlR X (rSlT K) := h ▸ sl_tup
theorem lenLK (K : PySem.W.Frag) {X : Cx} (h : X.K = K := by rfl) : CallR X (.builtin "len") (rLenL K) := h ▸ call_lenL
theorem lenTK (K : PySem.W.Frag) {X : Cx} (h : X.K = K := by rfl) : CallR X (.builtin "len") (rLenT K) := h ▸ call_lenT
theorem isiK (K : PySem.W.Frag) {X : Cx} (h : X.K = K := by rfl) : CallR X (.builtin "isinstance") (rIsi K) := h ▸ call_isi
theorem isiTK (K : PySem.W.Frag) {X : Cx} (h : X.K = K := by rfl) : CallR X (.builtin "isinstance") (rIsiT K) := h ▸ call_isiT
theorem in_seqK (K : PySem.W.Frag) {X : Cx} (h : X.K = K := by rfl) : OpR X (compareOp .In) (rIn K false) := h ▸ op_in_seq
theorem notIn_seqK (K : PySem.W.Frag) {X : Cx} (h : X.K = K := by rfl) : OpR X (compareOp .NotIn) (rIn K true) := h ▸ op_notIn_seq
theorem i_indexS {K : PySem.W.Frag} {H : Hp} {Q : VK} {p : Addr} {l : List Str} {s : Str} {j : Nat} (h : SqL K H p (l.map V.str)) (hj : l[j]? = some s) (hn : s ∉ l.take j) (q : Q (.int (j : Nat)) H) : rIndex K (.ref p) [.str s] H Q := by
  refine ⟨p, _, .str s, j, .str s, rfl, rfl, h, rfl, ?_, by rw [List.getElem?_map, hj]; rfl, by simp [eqV], ?_, q⟩
  · rw [List.all_map, List.all_eq_true]; intro x _; rfl
  · intro m z hm hz
    rw [List.getElem?_map] at hz
    cases e : l[m]? with
    | none => rw [e] at hz; cases hz
    | some t =>
      rw [e] at hz
      have hz : V.str t = z := Option.some.inj hz
      subst hz
      show (t == s) = false
      rw [beq_eq_false_iff_ne]
      intro et; subst et
      exact hn (List.mem_of_getElem? (by rw [List.getElem?_take_of_lt hm]; exact e))
theorem walk_listL {K : PySem.W.Frag} {a : Addr} {α : Type} {l : List α} {r : α → V} : Walk (Itl K a) l.length (fun H => SqL K H a (l.map r)) (YL l r) := by
  have w := walk_list (K := K) (a := a) (xs := l.map r)
  rw [List.length_map] at w
  exact w.mono (fun _ h => h) fun i H x H' hi _ y => ⟨y.1, l[i], List.getElem?_eq_getElem hi, by
    have := y.2
    rw [List.getElem?_map, List.getElem?_eq_getElem hi] at this
    exact (Option.some.inj this).symm⟩
theorem walk_tupL {K : PySem.W.Frag} {a : Addr} {α : Type} {l : List α} {r : α → V} : Walk (Itt K a) l.length (fun H => SqT K H a (l.map r)) (YL l r) := by
  have w := walk_tup (K := K) (a := a) (xs := l.map r)
  rw [List.length_map] at w
  exact w.mono (fun _ h => h) fun i H x H' hi _ y => ⟨y.1, l[i], List.getElem?_eq_getElem hi, by
    have := y.2
    rw [List.getElem?_map, List.getElem?_eq_getElem hi] at this
    exact (Option.some.inj this).symm⟩
theorem dpStrs {K : PySem.W.Frag} {H : Hp} : ∀ l : List Str, DpAll K H (l.map V.str) (l.map PyData.str)
  | [] => .nil
  | x :: l => .cons (.str x) (dpStrs l)
theorem dpInts {K : PySem.W.Frag} {H : Hp} : ∀ l : List Int, DpAll K H (l.map V.int) (l.map PyData.int)
  | [] => .nil
  | x :: l => .cons (.int x) (dpInts l)
theorem kb_tt : kitB "tuple" "tuple" = some true := by decide +kernel
theorem pow15 : CPow 10 15 := ⟨by decide, by decide, by decide⟩
theorem sc_ii {a b : Int} : scal (.int a) (.int b) = true := rfl
theorem sc_ss {a b : Str} : scal (.str a) (.str b) = true := rfl
theorem sc_bb {a b : Bool} : scal (.bl a) (.bl b) = true := rfl
theorem sc_in {a : Int} : scal (.int a) .non = true := rfl
theorem sc_ni {a : Int} : scal .non (.int a) = true := rfl
theorem sc_nn : scal .non .non = true := rfl
theorem sc_is {a : Int} {b : Str} : scal (.int a) (.str b) = true := rfl
theorem sc_si {a : Int} {b : Str} : scal (.str b) (.int a) = true := rfl
theorem sc_ns {b : Str} : scal .non (.str b) = true := rfl
theorem sc_sn {b : Str} : scal (.str b) .non = true := rfl
theorem sc_bn {b : Bool} : scal (.bl b) .non = true := rfl
theorem sc_nb {b : Bool} : scal .non (.bl b) = true := rfl
theorem sc_sb {b : Bool} {a : Str} : scal (.str a) (.bl b) = true := rfl
theorem sc_bs {b : Bool} {a : Str} : scal (.bl b) (.str a) = true := rfl
/-- a new list at p, all else kept -/
structure NewL (H H' : Hp) (p : Addr) (xs : List V) : Prop where
  free : H p = none
  same : Same H H'
  at_ : H' p = some (.lst xs)
theorem NewL.sq {K : PySem.W.Frag} {H H' : Hp} {p : Addr} {xs : List V} (n : NewL H H' p xs) : SqL K H' p xs := sqL_of n.at_
theorem NewL.set {H H' : Hp} {p : Addr} {xs ys : List V} (n : NewL H H' p xs) : NewL H (upd H' p (.lst ys)) p ys := ⟨n.free, fun b o e => by rw [upd_ne (ne_of_none e n.free)]; exact n.same b o e, upd_same⟩
theorem NewL.more {H H' H2 : Hp} {p : Addr} {xs : List V} (n : NewL H H' p xs) (s : Same H' H2) : NewL H H2 p xs := ⟨n.free, n.same.trans s, s _ _ n.at_⟩
theorem same_new {H : Hp} {p : Addr} {o : HO} (n : H p = none) : Same H (upd H p o) := fun b u e => by rw [upd_ne (ne_of_none e n)]; exact e
theorem cut_all {xs : List V} : cutV xs (some 0) none = xs := cut_drop (n := 0)
theorem pow14 : CPow 10 14 := ⟨by decide, by decide, by decide⟩
theorem ixN_of {n j : Nat} (h : j < n) : ixN n (j : Int) = some j := by
  unfold ixN
  rw [if_pos (by omega), if_pos (by omega)]; simp

/-! ### fields, methods and exceptions, the written part named -/
section
variable {X : Cx} {K : PySem.W.Frag}
theorem pe_fldK (K : PySem.W.Frag) {e : Expr} {ta : TE} {f : Str} {pos : Pos} (he : PE X e ta) (hb : attributeBase e f X.env (eval e X.env) = eval e X.env) (hK : X.K = K := by rfl) : PE X (.Attribute e f pos) (tFld K ta f) := by
  have h := pe_fld (pos := pos) he hb
  rw [hK] at h
  exact h
theorem ps_fldK (K : PySem.W.Frag) {o value : Expr} {ta tv : TE} {f : Str} {pos pos' : Pos} (ha : PE X o ta) (hv : PE X value tv) (hs : swapsWith value (some (.Attribute o f pos')) pos.line X.env = pure false) (hK : X.K = K := by rfl) : PS X (.Assign [.Attribute o f pos'] value pos) (sFld K ta tv f) := by
  have h := ps_fld (pos := pos) ha hv hs
  rw [hK] at h
  exact h
theorem ps_fldaugK (K : PySem.W.Frag) {o value : Expr} {ta tv : TE} {f : Str} {pos tpos : Pos} {op : Operator} {rd : V → V → Hp → VK → Prop} (ha : PE X o ta) (hv : PE X value tv) (hop : InOp X op rd) (hK : X.K = K := by rfl) : PS X (.AugAssign (.Attribute o f tpos) op value pos) (sFldAug K ta tv rd f) := by
  have h := ps_fldaug (f := f) (pos := pos) (tpos := tpos) ha hv hop
  rw [hK] at h
  exact h
theorem pe_bmK (K : PySem.W.Frag) {T id : String} {name : Str} {r : V → List V → Hp → VK → Prop} {o e : Expr} {es : List Expr} {to : TE} {t : TA} {apos cpos : Pos} (pa : PlainAttrs T) (slot : Slot T name id) (hty : typeOf (.builtin id) = pure (.type "method_descriptor")) (hm : MtR X id r) (ho : PE X o to) (ha : PA X (e :: es) t)
    (hbase : attributeBase o name X.env (eval o X.env) = eval o X.env := by rfl)
    (hfew : ((backTo cpos (starEach (e :: es) X.env)).all (fun x => !x.1) && (backToKw cpos (keywordEach [] X.env)).all (fun x => x.1.isSome)
      && decide ((e :: es).length + ([] : List Keyword).length + (if ([] : List Keyword).isEmpty then 0 else 1) < 30)) = true := by rfl)
    (hline : (apos.endLine == cpos.line) = true := by rfl) (hs : starEach (e :: es) X.env = (false, eval e X.env) :: starEach es X.env := by rfl) (hplain : (backTo cpos (starEach es X.env)).any (·.1) = false := by rfl) (hK : X.K = K := by rfl) :
    PE X (.Call (.Attribute o name apos) (e :: es) [] cpos) (tBM K T r to t) := by
  have h := pe_bm pa slot hty hm ho ha hbase hfew hline hs hplain
  rw [hK] at h
  exact h
theorem pe_bm0K (K : PySem.W.Frag) {T id : String} {name : Str} {r : V → List V → Hp → VK → Prop} {o : Expr} {to : TE} {apos cpos : Pos} (pa : PlainAttrs T) (slot : Slot T name id) (hty : typeOf (.builtin id) = pure (.type "method_descriptor")) (hm : MtR X id r) (ho : PE X o to)
    (hbase : attributeBase o name X.env (eval o X.env) = eval o X.env := by rfl) (hline : (apos.endLine == cpos.line) = true := by rfl) (hK : X.K = K := by rfl) : PE X (.Call (.Attribute o name apos) [] [] cpos) (tBM0 K T r to) := by
  have h := pe_bm0 pa slot hty hm ho hbase hline
  rw [hK] at h
  exact h
/-- o.m(..) that may raise, what is raised wished for at the caller's slots -/
def tMethS (C : Addr) (m : Str) (sp : Sp) (E : L2.St → XK) (ta : TE) (t : TA) : TE := fun σ H Q => ta σ H fun x H1 => ∃ a dx fs, x = .ref a ∧ H1 a = some (.ins C dx fs) ∧ fs.lookup m = none ∧ t σ H1 fun vs H2 => sp (x :: vs) H2 Q (E σ)
variable {CX : CXT} {k : Nat} {f C : Addr} {fd : FuncData} {ps : List Str} {sp : Sp} {E : L2.St → XK} {m : Str} {pos apos : Pos} {e o : Expr} {es : List Expr} {ta : TE} {t : TA}
theorem pe_methS {pl : Sem Bool} (he : PE X o ta) (c : Cls X.K C) (hm : Meth X.K C m f) (F : FnOk X.prog X.w X.K X.mg X.base CX k f fd ps sp) (hr : Room k X.A) (hb : Binds X.K fd ps []) (hx : ∀ σ, PassesAt CX X σ (E σ)) (ha : PA X (e :: es) t)
    (hst : starEach (e :: es) X.env = (false, eval e X.env) :: starEach es X.env := by rfl) (hpl : (backTo pos (starEach es X.env)).any (·.1) = false := by rfl)
    (ht : eval (.Call (.Attribute o m apos) (e :: es) [] pos) X.env = (do
      let ov ← eval o X.env
      standAt apos.atName
      let (f, first) ← holding [ov] (getMethod ov m pl)
      callWith pos f first (backTo pos (starEach (e :: es) X.env)) (backToKw pos (keywordEach [] X.env))) := by rfl) :
    PE X (.Call (.Attribute o m apos) (e :: es) [] pos) (tMethS C m sp E ta t) := by
  refine ⟨fun pins s σ H Q I h => ?_⟩
  refine PySem.W.methodCall_KW (pl := pl) (thn (he.run pins s σ H _ I h) fun u s1 ⟨x, H1, I1, rx, a, dx, fs, ex, ea, l, q⟩ => ?_) ht
  subst ex
  obtain rfl : u = Value.ref a := rx
  refine getmeth_ok I1 ea c hm l ?_
  refine PySem.W.callWith_K (first := [.ref a]) (h₀ := X.base) I.ok.mod.kin hm.kp (thn (ha.run pos pins s1 σ H1 _ I1 q) fun us s2 ⟨vs, H2, I2, r, q2⟩ => ⟨I2.kIn, ?_⟩) hst hpl
  exact run_fnS (us := .ref a :: us) (vs := .ref a :: vs) F hr hb (hx σ) I2 (.cons rfl r) q2
theorem pe_meth0S {pl : Sem Bool} (he : PE X o ta) (c : Cls X.K C) (hm : Meth X.K C m f) (F : FnOk X.prog X.w X.K X.mg X.base CX k f fd ps sp) (hr : Room k X.A) (hb : Binds X.K fd ps []) (hx : ∀ σ, PassesAt CX X σ (E σ))
    (ht : eval (.Call (.Attribute o m apos) [] [] pos) X.env = (do
      let ov ← eval o X.env
      standAt apos.atName
      let (f, first) ← holding [ov] (getMethod ov m pl)
      callWith pos f first (backTo pos (starEach [] X.env)) (backToKw pos (keywordEach [] X.env))) := by rfl) :
    PE X (.Call (.Attribute o m apos) [] [] pos) (tMethS C m sp E ta tNil) := by
  refine ⟨fun pins s σ H Q I h => ?_⟩
  refine PySem.W.methodCall_KW (pl := pl) (thn (he.run pins s σ H _ I h) fun u s1 ⟨x, H1, I1, rx, a, dx, fs, ex, ea, l, q⟩ => ?_) ht
  subst ex
  obtain rfl : u = Value.ref a := rx
  refine getmeth_ok I1 ea c hm l ?_
  exact PySem.W.callWith_K0 (first := [.ref a]) I1.kIn hm.kp (run_fnS (us := [.ref a]) (vs := [.ref a]) F hr hb (hx σ) I1 (.cons rfl .nil) q)
theorem pe_call0S {x : Str} {p : Pos} (F : FnOk X.prog X.w X.K X.mg X.base CX k f fd ps sp) (hr : Room k X.A) (hg : Gl X x) (hm : X.mg x = some (.ref f)) (hk : PySem.W.keepIn X.K (.ref f) = true) (hb : Binds X.K fd ps []) (hx : ∀ σ, PassesAt CX X σ (E σ))
    (hdb : (x == ("__debug__" : Str)) = false := by decide) : PE X (.Call (.Name x p) [] [] pos) (tCallS sp E tNil) := by
  refine ⟨fun pins s σ H Q I h => ?_⟩
  refine wpAny_Call_Name_kw (ld_glob I hg hm ?_ hdb)
  exact PySem.W.callWith_K0 I.kIn hk (run_fnS (us := []) F hr hb (hx σ) I .nil h)
/-- X(), X an own exception class without own __init__ -/
theorem pmk_own0 {C : Addr} {bmB : List Value} {B newId initId : String} {x : Str} {p pos : Pos} (F : ExcBaseFacts B newId initId bmB) (q : PySem.W.excIn X.K C bmB newId = true) (gC : X.mg x = some (.ref C))
    (kC : PySem.W.keepIn X.K (.ref C) = true) (r : Raises X (.ref C)) (hg : Gl X x) (hdb : (x == ("__debug__" : Str)) = false := by decide) :
    PMk X (.Call (.Name x p) [] [] pos) (fun _ H Q => Q (.ref C) none H) := by
  intro pins s σ H Q I h
  refine wpAny_Call_Name_kw (ld_glob I hg gC ?_ hdb)
  refine PySem.W.callWith_K0 I.kIn kC ?_
  show wpAny _ _ (call (.ref C) []) _ _ _
  obtain ⟨bm, N, nm, qn, bs, hdct, sn, sub, ab, col, dd, k0, k1, k2, k3, k5, mN, hC, hN, hni, T⟩ := exc_obj I.kIn q
  refine wpAny_call_exc_subT F T hC hN hni (fun h' e hm => ?_) (Nat.zero_le _)
  exact mk_of I hm r h (I.hok.gone hm.new)
end
/-- an error of the class at B met by «except A» -/
theorem exm_two {K : PySem.W.Frag} {B A : Addr} {b : Bool} (h1 : PySem.W.subIn K (.ref A) (.type "BaseException") = some true) (h2 : PySem.W.isClsIn K A = true) (h3 : PySem.W.typeIn K (.ref A) = some (.type "type")) (h4 : PySem.W.subIn K (.ref B) (.ref A) = some b) :
    PySem.W.exmOne K (.ref B) (.ref A) = some b := by
  have e1 : (PySem.W.subIn K (.ref A) (.type "BaseException") == some true) = true := by rw [h1] <;> rfl
  have e2 : ((PySem.W.clsIn K A).isSome && PySem.W.typeIn K (.ref A) == some (.type "type")) = true := by
    have h2' : (PySem.W.clsIn K A).isSome = true := h2
    rw [h2', h3] <;> rfl
  show (if (PySem.W.subIn K (.ref A) (.type "BaseException") == some true) = true then (if ((PySem.W.clsIn K A).isSome && PySem.W.typeIn K (.ref A) == some (.type "type")) = true then PySem.W.subIn K (.ref B) (.ref A) else none) else none) = some b
  rw [if_pos e1, if_pos e2]
  exact h4
/-- a class of exceptions without own __init__, raised -/
structure Exc (K : PySem.W.Frag) (C : Addr) : Prop where
  x : PySem.W.excIn K C [.type "ValueError", .type "Exception", .type "BaseException", .type "object"] "ValueError.__new__" = true
  kp : PySem.W.keepIn K (.ref C) = true
  be : PySem.W.subIn K (.ref C) (.type "BaseException") = some true
  ty : PySem.W.typeIn K (.ref C) = some (.type "type")
/-! ### dicts with written keys -/
def rDGet : R2 := fun x y H Q => ∃ a v, x = .ref a ∧ DGet H a y (some v) ∧ Q v H
theorem tDGet_eq {td ty : TE} {σ : L2.St} {H : Hp} {Q : VK} : tDGet td ty σ H Q = td σ H fun x H1 => ty σ H1 fun y H2 => rDGet x y H2 Q := rfl
def rDPut : V → V → V → Hp → (Hp → Prop) → Prop := fun x y v H Q => ∃ a H4, x = .ref a ∧ DPut H a y v H4 ∧ Q H4
theorem sDPut_eq {td ty tv : TE} {D : Ends} {σ : L2.St} {H : Hp} : sDPut td ty tv D σ H = tv σ H fun v H1 => td σ H1 fun x H2 => ty σ H2 fun y H3 => rDPut x y v H3 fun H4 => D.nx σ H4 := rfl
theorem i_dget {H : Hp} {a : Addr} {kvs : List (Key × V)} {k : Str} {v : V} {Q : VK} (h : H a = some (.dK kvs)) (e : valV kvs (.inr k) = some v) (q : Q v H) : rDGet (.ref a) (.str k) H Q := ⟨a, v, rfl, by rw [← e]; exact DGet.k (k := .inr k) h, q⟩
theorem i_dput {H : Hp} {a : Addr} {kvs : List (Key × V)} {k : Str} {v : V} {Q : Hp → Prop} (h : H a = some (.dK kvs)) (hl : kvs.length < sizeLine) (q : Q (upd H a (.dK (putK kvs (.inr k) v)))) : rDPut (.ref a) (.str k) v H Q := ⟨a, _, rfl, DPut.k (k := .inr k) h hl, q⟩
/-! ### what is kept but for some objects -/
def Kp (X : List Addr) (H H' : Hp) : Prop := ∀ b o, b ∉ X → H b = some o → H' b = some o
theorem Kp.refl (X : List Addr) (H : Hp) : Kp X H H := fun _ _ _ e => e
theorem Kp.trans {X : List Addr} {H H1 H2 : Hp} (a : Kp X H H1) (b : Kp X H1 H2) : Kp X H H2 := fun c o n e => b c o n (a c o n e)
theorem Kp.mono {X Y : List Addr} {H H1 : Hp} (a : Kp X H H1) (h : ∀ b ∈ X, b ∈ Y) : Kp Y H H1 := fun c o n e => a c o (fun k => n (h c k)) e
theorem Kp.set {X : List Addr} {H : Hp} {a : Addr} {o : HO} (h : a ∈ X) : Kp X H (upd H a o) := fun b u n e => by
  rw [upd_ne (fun k => n (by rw [k]; exact h))]; exact e
theorem Kp.new {X : List Addr} {H : Hp} {a : Addr} {o : HO} (h : H a = none) : Kp X H (upd H a o) := fun b u n e => by
  rw [upd_ne (ne_of_none e h)]; exact e
theorem Kp.of {X : List Addr} {H H' : Hp} (s : Same H H') : Kp X H H' := fun b u _ e => s b u e
theorem Kp.same {X : List Addr} {H H' H0 : Hp} (k : Kp X H H') (s : Same H0 H) (n : ∀ a ∈ X, H0 a = none) : Same H0 H' := fun b o e => k b o (fun h => by rw [n b h] at e; cases e) (s b o e)
/-! ### fields -/
def rFld (K : PySem.W.Frag) (f : Str) : V → Hp → VK → Prop := fun x H1 Q => ∃ a C dx fs v, x = .ref a ∧ H1 a = some (.ins C dx fs) ∧ Cls K C ∧ NoAttr K C f ∧ fs.lookup f = some v ∧ Q v H1
theorem tFld_eq {K : PySem.W.Frag} {ta : TE} {f : Str} {σ : L2.St} {H : Hp} {Q : VK} : tFld K ta f σ H Q = ta σ H fun x H1 => rFld K f x H1 Q := rfl
def rFldS (K : PySem.W.Frag) (f : Str) : V → V → Hp → (Hp → Prop) → Prop := fun x y H2 Q => ∃ a C dx fs, x = .ref a ∧ H2 a = some (.ins C dx fs) ∧ Cls K C ∧ NoAttr K C f ∧ fs.length < 1000 ∧ Q (upd H2 a (.ins C dx (putF f y fs)))
theorem sFld_eq {K : PySem.W.Frag} {ta tv : TE} {f : Str} {D : Ends} {σ : L2.St} {H : Hp} : sFld K ta tv f D σ H = tv σ H fun y H1 => ta σ H1 fun x H2 => rFldS K f x y H2 fun H3 => D.nx σ H3 := rfl
theorem i_fld {K : PySem.W.Frag} {a C dx : Addr} {fs : List (Str × V)} {f : Str} {v : V} {H : Hp} {Q : VK} (c : Cls K C) (n : NoAttr K C f) (h : H a = some (.ins C dx fs)) (l : fs.lookup f = some v) (q : Q v H) : rFld K f (.ref a) H Q := ⟨a, C, dx, fs, v, rfl, h, c, n, l, q⟩
theorem i_fldS {K : PySem.W.Frag} {a C dx : Addr} {fs : List (Str × V)} {f : Str} {y : V} {H : Hp} {Q : Hp → Prop} (c : Cls K C) (n : NoAttr K C f) (h : H a = some (.ins C dx fs)) (l : fs.length < 1000) (q : Q (upd H a (.ins C dx (putF f y fs)))) : rFldS K f (.ref a) y H Q := ⟨a, C, dx, fs, rfl, h, c, n, l, q⟩
theorem i_rep {H : Hp} {l : Addr} {k : Int} {xs : List V} {Q : VK} (h : H l = some (.lst xs)) (h1 : -(2 ^ 63) ≤ k) (h2 : k < 2 ^ 63) (hz : xs.length * k.toNat ≤ sizeLine) (q : ∀ p, H p = none → Q (.ref p) (upd H p (.lst (List.replicate k.toNat xs).flatten))) : rRep (.ref l) (.int k) H Q := ⟨l, k, xs, rfl, rfl, h, h1, h2, hz, q⟩
theorem rep1 {n : Nat} {v : V} : (List.replicate n [v]).flatten = List.replicate n v := by
  induction n with
  | zero => rfl
  | succ n ih => rw [List.replicate_succ, List.flatten_cons, ih, List.replicate_succ]; rfl
/-- a call of a method -/
def rMeth (C : Addr) (m : Str) (sp : Sp) (E : XK) (t : (List V → Hp → Prop) → Hp → Prop) : V → Hp → VK → Prop := fun x H1 Q => ∃ a dx fs, x = .ref a ∧ H1 a = some (.ins C dx fs) ∧ fs.lookup m = none ∧ t (fun vs H2 => sp (x :: vs) H2 Q E) H1
theorem tMeth_eq {C : Addr} {m : Str} {sp : Sp} {dvs : List V} {E : XK} {ta : TE} {t : TA} {σ : L2.St} {H : Hp} {Q : VK} : tMeth C m sp dvs E ta t σ H Q = ta σ H fun x H1 => rMeth C m sp E (fun k H => t σ H fun vs H2 => k (vs ++ dvs) H2) x H1 Q := rfl
theorem tMethS_eq {C : Addr} {m : Str} {sp : Sp} {E : L2.St → XK} {ta : TE} {t : TA} {σ : L2.St} {H : Hp} {Q : VK} : tMethS C m sp E ta t σ H Q = ta σ H fun x H1 => rMeth C m sp (E σ) (fun k H => t σ H k) x H1 Q := rfl
theorem i_meth {C : Addr} {m : Str} {sp : Sp} {E : XK} {t : (List V → Hp → Prop) → Hp → Prop} {a dx : Addr} {fs : List (Str × V)} {H : Hp} {Q : VK} (h : H a = some (.ins C dx fs)) (l : fs.lookup m = none) (q : t (fun vs H2 => sp (.ref a :: vs) H2 Q E) H) : rMeth C m sp E t (.ref a) H Q := ⟨a, dx, fs, rfl, h, l, q⟩
def rFldA (K : PySem.W.Frag) (f : Str) (tv : (V → Hp → Prop) → Hp → Prop) (rd : V → V → Hp → VK → Prop) : V → Hp → (Hp → Prop) → Prop := fun x H1 Q => ∃ a C dx fs v, x = .ref a ∧ H1 a = some (.ins C dx fs) ∧ Cls K C ∧ NoAttr K C f ∧ fs.lookup f = some v ∧
  tv (fun y H2 => rd v y H2 fun z H3 => ∃ dx' fs', H3 a = some (.ins C dx' fs') ∧ fs'.length < 1000 ∧ Q (upd H3 a (.ins C dx' (putF f z fs')))) H1
theorem sFldAug_eq {K : PySem.W.Frag} {ta tv : TE} {rd : V → V → Hp → VK → Prop} {f : Str} {D : Ends} {σ : L2.St} {H : Hp} : sFldAug K ta tv rd f D σ H = ta σ H fun x H1 => rFldA K f (fun k H => tv σ H k) rd x H1 fun H3 => D.nx σ H3 := rfl
theorem i_fldA {K : PySem.W.Frag} {f : Str} {tv : (V → Hp → Prop) → Hp → Prop} {rd : V → V → Hp → VK → Prop} {a C dx : Addr} {fs : List (Str × V)} {v : V} {H : Hp} {Q : Hp → Prop} (c : Cls K C) (n : NoAttr K C f) (h : H a = some (.ins C dx fs)) (l : fs.lookup f = some v)
    (q : tv (fun y H2 => rd v y H2 fun z H3 => ∃ dx' fs', H3 a = some (.ins C dx' fs') ∧ fs'.length < 1000 ∧ Q (upd H3 a (.ins C dx' (putF f z fs')))) H) : rFldA K f tv rd (.ref a) H Q := ⟨a, C, dx, fs, v, rfl, h, c, n, l, q⟩
/-! ### == and != of data that is the same -/
theorem shaped_lay {d : PyData} (h : SeqAt.shaped d = true) : d.canLay0 = true := by
  unfold SeqAt.shaped at h
  simp only [Bool.and_eq_true] at h
  exact h.1
theorem i_neD {K : PySem.W.Frag} {x y : V} {d : PyData} {H : Hp} {Q : VK} (h1 : Dp K H x d) (h2 : Dp K H y d) (hs : SeqAt.shaped d = true) (q : Q (.bl false) H) : rNeD K x y H Q :=
  ⟨d, d, h1, h2, hs, hs, by rw [SeqAt.eqv_refl d (shaped_lay hs)]; exact q⟩
theorem i_eqD {K : PySem.W.Frag} {x y : V} {d : PyData} {H : Hp} {Q : VK} (h1 : Dp K H x d) (h2 : Dp K H y d) (hs : SeqAt.shaped d = true) (q : Q (.bl true) H) : rEqD K x y H Q :=
  ⟨d, d, h1, h2, hs, hs, by rw [SeqAt.eqv_refl d (shaped_lay hs)]; exact q⟩

/-! ### own exceptions with an __init__ that keeps its arguments -/
def rMkO (C : Addr) (sp : Sp) (dvs : List V) : List V → Hp → XK → Prop := fun vs H1 Q => vs.length ≤ 1000 ∧ ∀ a, H1 a = none → sp (.ref a :: (vs ++ dvs)) (upd H1 a (exo a C none))
  (fun v H2 => v = .non ∧ ∃ (d : Addr) (fs : List (Str × V)), H2 a = some (exo a C (some d)) ∧ H2 d = some (exd d fs) ∧ H1 d = none ∧ Q (.ref C) (some d) (upd (del H2 a) d (.xd fs))) (fun _ _ _ => False)
theorem tMkO_eq {C : Addr} {sp : Sp} {dvs : List V} {ta : TA} {σ : L2.St} {H : Hp} {Q : XK} : tMkO C sp dvs ta σ H Q = ta σ H fun vs H1 => rMkO C sp dvs vs H1 Q := rfl
def spX1 (C : Addr) (f : Str) : Sp := fun vs H Q _ => ∃ (a : Addr) (v : V), vs = [.ref a, v] ∧ H a = some (exo a C none) ∧ ∀ dx, H dx = none → dx ≠ a → Q .non (upd (upd H dx (exd dx [(f, v)])) a (exo a C (some dx)))
theorem i_mkO1 {C : Addr} {f : Str} {v : V} {H : Hp} {Q : XK} (q : ∀ dx, H dx = none → Q (.ref C) (some dx) (upd H dx (.xd [(f, v)]))) : rMkO C (spX1 C f) [] [v] H Q := by
  refine ⟨by show 1 ≤ 1000; decide, fun a ha => ⟨a, v, rfl, upd_same, fun dx hd hne => ⟨rfl, dx, [(f, v)], upd_same, by rw [upd_ne hne, upd_same], by rw [upd_ne hne] at hd; exact hd, ?_⟩⟩⟩
  have hd : H dx = none := by rw [upd_ne hne] at hd; exact hd
  have e : upd (del (upd (upd (upd H a (exo a C none)) dx (exd dx [(f, v)])) a (exo a C (some dx))) a) dx (.xd [(f, v)]) = upd H dx (.xd [(f, v)]) := by
    funext b
    by_cases hb : b = dx
    · subst hb; rw [upd_same, upd_same]
    · rw [upd_ne hb, upd_ne hb]
      by_cases hb2 : b = a
      · subst hb2; rw [del_same, ha]
      · rw [del_ne hb2, upd_ne hb2, upd_ne hb, upd_ne hb2]
  rw [e]
  exact q dx hd
def rOst (K : PySem.W.Frag) (f : Str) : V → V → Hp → (Hp → Prop) → Prop := fun x y H2 Q => ∃ a C : Addr, x = .ref a ∧ OexC K C ∧ PySem.W.findIn K (.ref C) f = some none ∧
  ((H2 a = some (exo a C none) ∧ ∀ dx, H2 dx = none → dx ≠ a → Q (upd (upd H2 dx (exd dx [(f, y)])) a (exo a C (some dx)))) ∨
    ∃ (dx : Addr) (fs : List (Str × V)), H2 a = some (exo a C (some dx)) ∧ H2 dx = some (exd dx fs) ∧ fs.length ≤ 900 ∧ Q (upd H2 dx (exd dx ((f, y) :: fs))))
theorem tOst_eq {K : PySem.W.Frag} {f : Str} {to te : TE} {D : Ends} {σ : L2.St} {H : Hp} : tOst K f to te D σ H = te σ H fun y H1 => to σ H1 fun x H2 => rOst K f x y H2 fun H3 => D.nx σ H3 := rfl
theorem i_ost {K : PySem.W.Frag} {C a : Addr} {f : Str} {y : V} {H : Hp} {Q : Hp → Prop} (T : OexC K C) (n : PySem.W.findIn K (.ref C) f = some none) (h : H a = some (exo a C none)) (q : ∀ dx, H dx = none → dx ≠ a → Q (upd (upd H dx (exd dx [(f, y)])) a (exo a C (some dx)))) : rOst K f (.ref a) y H Q := ⟨a, C, rfl, T, n, .inl ⟨h, q⟩⟩
theorem i_catchAs {K : PySem.W.Frag} {c cls : Value} {i : Nat} {ts : Addr → Value → Option Addr → TS} {Wout : WX} {D : Ends} {d : Option Addr} {σ : L2.St} {H : Hp} (h : PySem.W.exmOne K cls c = some true)
    (q : ∀ a, H a = none → ts a cls d { nx := fun σ' H' => D.nx (σ'.set i none) H', rt := D.rt, bk := fun σ' H' => D.bk (σ'.set i none) H', ct := fun σ' H' => D.ct (σ'.set i none) H' } (σ.set i (some (.ref a))) H) : wAs K c i ts Wout D cls d σ H := ⟨true, h, fun _ a n => q a n, fun z => nomatch z⟩
theorem i_catch {K : PySem.W.Frag} {c cls : Value} {ts : Addr → Value → Option Addr → TS} {Wout : WX} {D : Ends} {d : Option Addr} {σ : L2.St} {H : Hp} (h : PySem.W.exmOne K cls c = some true) (q : ∀ a, H a = none → ts a cls d D σ H) : wOnly K c ts Wout D cls d σ H := ⟨true, h, fun _ a n => q a n, fun z => nomatch z⟩
theorem i_ost2 {K : PySem.W.Frag} {C a dx : Addr} {f : Str} {y : V} {fs : List (Str × V)} {H : Hp} {Q : Hp → Prop} (T : OexC K C) (n : PySem.W.findIn K (.ref C) f = some none) (h : H a = some (exo a C (some dx))) (hd : H dx = some (exd dx fs)) (hl : fs.length ≤ 900) (q : Q (upd H dx (exd dx ((f, y) :: fs)))) : rOst K f (.ref a) y H Q := ⟨a, C, rfl, T, n, .inr ⟨dx, fs, h, hd, hl, q⟩⟩
/-- told.f -/
def rXf (a : Addr) (cls : Value) (d : Option Addr) (C : Addr) (f : Str) : V → Hp → VK → Prop := fun x H1 Q => x = .ref a ∧ cls = .ref C ∧ ∃ (dd : Addr) (fs : List (Str × V)) (v : V), d = some dd ∧ H1 dd = some (.xd fs) ∧ fs.lookup f = some v ∧ Q v H1
theorem tXf_eq {a : Addr} {cls : Value} {d : Option Addr} {C : Addr} {f : Str} {te : TE} {σ : L2.St} {H : Hp} {Q : VK} : tXf a cls d C f te σ H Q = te σ H fun x H1 => rXf a cls d C f x H1 Q := rfl
theorem i_xf {a dd C : Addr} {f : Str} {fs : List (Str × V)} {v : V} {H : Hp} {Q : VK} (h : H dd = some (.xd fs)) (l : fs.lookup f = some v) (q : Q v H) : rXf a (.ref C) (some dd) C f (.ref a) H Q := ⟨rfl, rfl, dd, fs, v, rfl, h, l, q⟩
theorem iRevR_eq {tr : L2.St → Hp → (Int → Int → Hp → Prop) → Prop} {σ : L2.St} {H : Hp} {R : It → Hp → Prop} : iRevR tr σ H R = tr σ H fun a b H1 => -(2 ^ 62) ≤ a ∧ a < 2 ^ 62 ∧ -(2 ^ 62) ≤ b ∧ b < 2 ^ 62 ∧ R (Itc (a + (((b - a).toNat : Nat) : Int) - 1) (-1) (b - a).toNat) H1 := rfl
theorem tRg1_eq {ta : TE} {σ : L2.St} {H : Hp} {Q : Int → Int → Hp → Prop} : tRg1 ta σ H Q = ta σ H fun x H1 => ∃ n, x = .int n ∧ Q 0 n H1 := rfl
theorem tRg2_eq {ta tb : TE} {σ : L2.St} {H : Hp} {Q : Int → Int → Hp → Prop} : tRg2 ta tb σ H Q = ta σ H fun x H1 => tb σ H1 fun y H2 => ∃ i j, x = .int i ∧ y = .int j ∧ Q i j H2 := rfl
theorem tLstRg_eq {te : L2.St → Hp → (Int → Int → Hp → Prop) → Prop} {σ : L2.St} {H : Hp} {Q : VK} : tLstRg te σ H Q = te σ H fun a b H1 => RgOk a b ∧ ∀ q, H1 q = none → Q (.ref q) (upd H1 q (.lst (rgV a b))) := rfl
def rRevL (K : PySem.W.Frag) : V → Hp → VK → Prop := fun x H1 Q => ∃ a xs, x = .ref a ∧ SqL K H1 a xs ∧ ∀ p, H1 p = none → Q (.ref p) (upd H1 p (.lst xs.reverse))
theorem tRevL_eq {K : PySem.W.Frag} {te : TE} {σ : L2.St} {H : Hp} {Q : VK} : tRevL K te σ H Q = te σ H fun x H1 => rRevL K x H1 Q := rfl
theorem i_revL {K : PySem.W.Frag} {H : Hp} {Q : VK} {a : Addr} {xs : List V} (h : SqL K H a xs) (q : ∀ p, H p = none → Q (.ref p) (upd H p (.lst xs.reverse))) : rRevL K (.ref a) H Q := ⟨a, xs, rfl, h, q⟩
theorem room65 {k : Nat} {A : Around} (r : Room k A) : A.units + 65 < cLine := by have := r.un; omega
theorem i_forPost {J : It} {g : TG} {tb : TS} {D : Ends} {σ : L2.St} {H : Hp} (Post : L2.St → Hp → Prop) (h1 : (∀ σ' H', Post σ' H' → D.nx σ' H') → rForJ J g tb D σ H) (h2 : ∀ σ' H', Post σ' H' → D.nx σ' H') : rForJ J g tb D σ H := h1 h2

/-! ### dicts with int keys, text.index, sorted(d) -/
def rSidx : V → List V → Hp → VK → Prop := fun x xs H Q => ∃ a b i rest, x = .str a ∧ xs = [.str b] ∧ Builtin.Str.occurrences a b 0 a.length 1 = i :: rest ∧ Q (.int (i : Nat)) H
theorem mt_sidx {X : Cx} : MtR X "str.index" rSidx := mt_sindex
def rSortedDI : List V → Hp → VK → Prop := fun xs H Q => ∃ (a : Addr) (kvs : List (Key × V)) (ks : List Int), xs = [.ref a] ∧ Rd H a (.dK kvs) ∧ kvs.map (·.1) = ks.map Sum.inl ∧ ks.length < 64 ∧
    ∀ (ys : List Int) (p : Addr), ys.Perm ks → ys.Pairwise (· ≤ ·) → H p = none → Q (.ref p) (upd H p (.lst (ys.map V.int)))
theorem cr_sortedDI {X : Cx} (h : X.calm = true) : CallR X (.builtin "sorted") rSortedDI := call_sortedDI h
def rDIn : R2 := fun y x H2 Q => ∃ a o, x = .ref a ∧ DGet H2 a y o ∧ Q (.bl o.isSome) H2
theorem tDIn_eq {td ty : TE} {σ : L2.St} {H : Hp} {Q : VK} : tDIn ty td σ H Q = ty σ H fun y H1 => td σ H1 fun x H2 => rDIn y x H2 Q := rfl
theorem i_din {H : Hp} {a : Addr} {kvs : List (Key × V)} {k : Key} {Q : VK} (h : H a = some (.dK kvs)) (q : Q (.bl (valV kvs k).isSome) H) : rDIn (kV k) (.ref a) H Q := ⟨a, _, rfl, DGet.k h, q⟩
def rDPop2 : V → V → V → Hp → VK → Prop := fun x y z H3 Q => ∃ a kvs k, x = .ref a ∧ H3 a = some (.dK kvs) ∧ y = kV k ∧ (∀ v, valV kvs k = some v → Q v (upd H3 a (.dK (dropK kvs k)))) ∧ (valV kvs k = none → Q z H3)
theorem iEnum_eq {K : PySem.W.Frag} {ta : TA} {σ : L2.St} {H : Hp} {R : It → Hp → Prop} : iEnum K ta σ H R = ta σ H fun vs H1 => ∃ a xs, vs = [.ref a] ∧ SqL K H1 a xs ∧ R (Ite K a) H1 := rfl
theorem i_gTup2 {K : PySem.W.Frag} {n i j : Nat} {a : Addr} {x y : V} {σ : L2.St} {H : Hp} {Q : L2.St → Hp → Prop} (hn : n = 2) (h : SqT K H a [x, y]) (q : Q ((σ.set i (some x)).set j (some y)) H) : gTup K n (gCons (gName i) (gCons (gName j) gNil)) (.ref a) σ H Q :=
  ⟨a, [x, y], rfl, h, hn.symm, x, [y], rfl, y, [], rfl, rfl, q⟩
theorem i_forG {J : It} {n : Nat} {G : Hp → Prop} {Y : Nat → Hp → V → Hp → Prop} (w : Walk J n G Y) {g : TG} {tb : TS} {D : Ends} {σ : L2.St} {H : Hp} (Pv : Nat → L2.St → Hp → Prop) (h0 : Pv 0 σ H) (hG : ∀ i σ H, i ≤ n → Pv i σ H → G H)
    (hs : ∀ i x σ H H', i < n → Pv i σ H → Y i H x H' → g x σ H' fun σ2 H2 => tb { D with nx := Pv (i + 1), ct := Pv (i + 1), bk := D.nx } σ2 H2) (hd : ∀ σ H, Pv n σ H → D.nx σ H) : rForJ J g tb D σ H := for_it w Pv h0 hG hs hd
theorem log_small {j : Int} (h : j.natAbs < 2 ^ 200) : j.natAbs.log2 < 9000 := by
  by_cases h0 : j.natAbs = 0
  · rw [h0]; decide
  · have := (Nat.log2_lt h0).mpr h
    omega

/-! ### while -/
def rWhT (Pv : Nat → L2.St → Hp → Prop) (m : Nat) (tb : TS) (D : Ends) (σ : L2.St) (H : Hp) : Prop := ∃ N : L2.St → Hp → Prop, (∀ σ' H', N σ' H' → ∃ m', m' < m ∧ Pv m' σ' H') ∧ tb { D with nx := N, ct := N, bk := D.nx } σ H
theorem i_while {c : TT} {tb : TS} {D : Ends} {σ : L2.St} {H : Hp} (Pv : Nat → L2.St → Hp → Prop) (m0 : Nat) (h0 : Pv m0 σ H) (hs : ∀ m σ H, Pv m σ H → c σ H fun b H1 => if b = true then rWhT Pv m tb D σ H1 else D.nx σ H1) : tWhile c tb D σ H := ⟨Pv, ⟨m0, h0⟩, hs⟩
theorem i_whT {Pv : Nat → L2.St → Hp → Prop} {m : Nat} {tb : TS} {D : Ends} {σ : L2.St} {H : Hp} (h : tb { D with nx := fun σ' H' => ∃ m', m' < m ∧ Pv m' σ' H', ct := fun σ' H' => ∃ m', m' < m ∧ Pv m' σ' H', bk := D.nx } σ H) : rWhT Pv m tb D σ H := ⟨_, fun _ _ h => h, h⟩

local macro_rules | `(tactic| walk_at "rd") => `(tactic| try simp only [L2.start, cxOf, tVar, tC, tOp, tUn, rI0, rI, rU, tCB, tCons, tNil, tAsg, tAug, ipI, gName, gSub, tDrop, tSub, tAdd, tMul, tCmp, t2I, tIsN, tNotN, tRet, tDGet_eq, sDPut_eq, tMeth_eq, tMethS_eq, tMkO_eq, tOst_eq, tXf_eq, iRevR_eq, tRg1_eq, tRg2_eq, tLstRg_eq, tRevL_eq, tMake, tFld_eq, sFld_eq, sFldAug_eq, rSub, rAdd, tCallS, tDisp, tPairs, rIntA, tDNewK, wipe, tFor_J, tLc_J, iRng1, iRng2, iList, iTup, iStr, tM1, tM0, tBM, tBM0, tSl, tPart, tNoPart, tLst, tTup, sizeLine_eq, Nat.reduceLeDiff, true_and, tIfS, tTest, tB, tAnd, tOr, tNot, tAndV, tOrV, tNotV, tChain, rEq, rNe, rNotB, rIsB, sc_ii, sc_ss, sc_bb, sc_in, sc_ni, sc_nn, sc_is, sc_si, sc_ns, sc_sn, sc_bn, sc_nb, sc_sb, sc_bs, tCall, iEnum_eq, tDPop1, tDPop2, tCallL, tLock, tLockE, tDNotIn, tDIn, iKeys, tNext,  List.map, List.length, List.replicate, List.cons_append, List.nil_append, List.append_nil, List.getElem?_cons_zero, List.getElem?_cons_succ, List.set_cons_zero, List.set_cons_succ, Option.some.injEq, exists_eq_left', exists_eq_left, exists_eq', V.int.injEq, V.str.injEq, V.ref.injEq, V.bl.injEq, List.cons.injEq, and_true, true_and, and_assoc, exists_and_left, Int.reduceLT, Int.reduceNeg, Int.reduceLE, ↓reduceIte, Bool.false_eq_true, Bool.not_true, Bool.not_false, reduceCtorEq, false_and, and_false, exists_false, or_false, false_or, Nat.reduceAdd, Nat.reduceSub, decide_eq_true_eq, decide_true, decide_false])

def topS (i : Nat) : Stmt := PySem.Challenge.pw_warycard_k72_heap.main.body.getD i (.Pass ⟨0, 0, 0, 0⟩)
abbrev s_wall : Stmt := topS 0
theorem sc_wall : FnScope ["k"] ["k"] (defScope s_wall) := ⟨rfl, rfl, rfl, by decide +kernel, rfl, by decide +kernel, by decide +kernel⟩
abbrev s_Fault_init : Stmt := inClass (topS 3) 0
theorem sc_Fault_init : FnScope ["self", "code"] ["self", "code"] (defScope s_Fault_init) := ⟨rfl, rfl, rfl, by decide +kernel, rfl, by decide +kernel, by decide +kernel⟩
abbrev s_Heap_init : Stmt := inClass (topS 18) 0
theorem sc_Heap_init : FnScope ["self", "cells", "journal", "start"] ["self", "cells", "journal", "start"] (defScope s_Heap_init) := ⟨rfl, rfl, rfl, by decide +kernel, rfl, by decide +kernel, by decide +kernel⟩
abbrev s_Heap_numbers : Stmt := inClass (topS 18) 1
theorem sc_Heap_numbers : FnScope ["self", "table", "number"] ["self"] (defScope s_Heap_numbers) := ⟨rfl, rfl, rfl, by decide +kernel, rfl, by decide +kernel, by decide +kernel⟩
abbrev s_Heap_used : Stmt := inClass (topS 18) 2
theorem sc_Heap_used : FnScope ["self", "numbers", "number"] ["self"] (defScope s_Heap_used) := ⟨rfl, rfl, rfl, by decide +kernel, rfl, by decide +kernel, by decide +kernel⟩
abbrev s_Heap_kind : Stmt := inClass (topS 18) 3
theorem sc_Heap_kind : FnScope ["self", "number"] ["self", "number"] (defScope s_Heap_kind) := ⟨rfl, rfl, rfl, by decide +kernel, rfl, by decide +kernel, by decide +kernel⟩
abbrev s_Heap_owner : Stmt := inClass (topS 18) 4
theorem sc_Heap_owner : FnScope ["self", "number"] ["self", "number"] (defScope s_Heap_owner) := ⟨rfl, rfl, rfl, by decide +kernel, rfl, by decide +kernel, by decide +kernel⟩
abbrev s_Heap_size : Stmt := inClass (topS 18) 5
theorem sc_Heap_size : FnScope ["self", "number"] ["self", "number"] (defScope s_Heap_size) := ⟨rfl, rfl, rfl, by decide +kernel, rfl, by decide +kernel, by decide +kernel⟩
abbrev s_Heap_read : Stmt := inClass (topS 18) 6
theorem sc_Heap_read : FnScope ["self", "number", "place"] ["self", "number", "place"] (defScope s_Heap_read) := ⟨rfl, rfl, rfl, by decide +kernel, rfl, by decide +kernel, by decide +kernel⟩
abbrev s_Heap_write : Stmt := inClass (topS 18) 7
theorem sc_Heap_write : FnScope ["self", "number", "place", "word"] ["self", "number", "place", "word"] (defScope s_Heap_write) := ⟨rfl, rfl, rfl, by decide +kernel, rfl, by decide +kernel, by decide +kernel⟩
abbrev s_Heap_fill : Stmt := inClass (topS 18) 8
theorem sc_Heap_fill : FnScope ["self", "data"] ["self", "data"] (defScope s_Heap_fill) := ⟨rfl, rfl, rfl, by decide +kernel, rfl, by decide +kernel, by decide +kernel⟩
abbrev s_Heap_make : Stmt := inClass (topS 18) 9
theorem sc_Heap_make : FnScope ["self", "kind", "owner", "size", "used", "objects", "half", "words", "index", "word", "taken", "number"] ["self", "kind", "owner", "size"] (defScope s_Heap_make) := ⟨rfl, rfl, rfl, by decide +kernel, rfl, by decide +kernel, by decide +kernel⟩
abbrev s_Heap_reached : Stmt := inClass (topS 18) 10
theorem sc_Heap_reached : FnScope ["self", "roots", "places", "found", "number", "index"] ["self", "roots", "places"] (defScope s_Heap_reached) := ⟨rfl, rfl, rfl, by decide +kernel, rfl, by decide +kernel, by decide +kernel⟩
abbrev s_Heap_collect : Stmt := inClass (topS 18) 11
theorem sc_Heap_collect : FnScope ["self", "roots", "places", "half", "kept", "table", "used", "number", "words", "index", "word"] ["self", "roots", "places"] (defScope s_Heap_collect) := ⟨rfl, rfl, rfl, by decide +kernel, rfl, by decide +kernel, by decide +kernel⟩
abbrev s_Heap__half : Stmt := inClass (topS 18) 12
theorem sc_Heap__half : FnScope ["self"] ["self"] (defScope s_Heap__half) := ⟨rfl, rfl, rfl, by decide +kernel, rfl, by decide +kernel, by decide +kernel⟩
abbrev s_Heap__table : Stmt := inClass (topS 18) 13
theorem sc_Heap__table : FnScope ["self", "half"] ["self", "half"] (defScope s_Heap__table) := ⟨rfl, rfl, rfl, by decide +kernel, rfl, by decide +kernel, by decide +kernel⟩
abbrev s_Heap__room : Stmt := inClass (topS 18) 14
theorem sc_Heap__room : FnScope ["self", "half"] ["self", "half"] (defScope s_Heap__room) := ⟨rfl, rfl, rfl, by decide +kernel, rfl, by decide +kernel, by decide +kernel⟩
abbrev s_Heap__place : Stmt := inClass (topS 18) 15
theorem sc_Heap__place : FnScope ["self", "number", "half"] ["self", "number"] (defScope s_Heap__place) := ⟨rfl, rfl, rfl, by decide +kernel, rfl, by decide +kernel, by decide +kernel⟩
abbrev s_Heap__temp : Stmt := inClass (topS 18) 16
theorem sc_Heap__temp : FnScope ["self", "number"] ["self", "number"] (defScope s_Heap__temp) := ⟨rfl, rfl, rfl, by decide +kernel, rfl, by decide +kernel, by decide +kernel⟩
abbrev s_Heap__references : Stmt := inClass (topS 18) 17
theorem sc_Heap__references : FnScope ["self", "number", "places", "kind", "place"] ["self", "number", "places"] (defScope s_Heap__references) := ⟨rfl, rfl, rfl, by decide +kernel, rfl, by decide +kernel, by decide +kernel⟩
abbrev s_Heap__words : Stmt := inClass (topS 18) 18
theorem sc_Heap__words : FnScope ["self", "number", "place", "count", "index"] ["self", "number"] (defScope s_Heap__words) := ⟨rfl, rfl, rfl, by decide +kernel, rfl, by decide +kernel, by decide +kernel⟩
abbrev s_Cells_init : Stmt := inClass (topS 20) 0
theorem sc_Cells_init : FnScope ["self", "count"] ["self", "count"] (defScope s_Cells_init) := ⟨rfl, rfl, rfl, by decide +kernel, rfl, by decide +kernel, by decide +kernel⟩
abbrev s_Cells_read : Stmt := inClass (topS 20) 4
theorem sc_Cells_read : FnScope ["self", "place"] ["self", "place"] (defScope s_Cells_read) := ⟨rfl, rfl, rfl, by decide +kernel, rfl, by decide +kernel, by decide +kernel⟩
abbrev s_Cells_write : Stmt := inClass (topS 20) 5
theorem sc_Cells_write : FnScope ["self", "place", "word"] ["self", "place", "word"] (defScope s_Cells_write) := ⟨rfl, rfl, rfl, by decide +kernel, rfl, by decide +kernel, by decide +kernel⟩
abbrev s_Journal_init : Stmt := inClass (topS 22) 0
theorem sc_Journal_init : FnScope ["self", "cells", "start"] ["self", "cells", "start"] (defScope s_Journal_init) := ⟨rfl, rfl, rfl, by decide +kernel, rfl, by decide +kernel, by decide +kernel⟩
abbrev s_Journal_change : Stmt := inClass (topS 22) 2
theorem sc_Journal_change : FnScope ["self", "place", "word", "count", "entry"] ["self", "place", "word"] (defScope s_Journal_change) := ⟨rfl, rfl, rfl, by decide +kernel, rfl, by decide +kernel, by decide +kernel⟩
abbrev s_law_draws : Stmt := topS 24
theorem sc_law_draws : FnScope ["_law_script", "_law_start", "_law_most", "_law_draws_here", "_law_cell", "_law_number", "_law_mixed", "_law_k"] ["_law_script", "_law_start", "_law_most"] (defScope s_law_draws) := ⟨rfl, rfl, rfl, by decide +kernel, rfl, by decide +kernel, by decide +kernel⟩
abbrev s_law_places : Stmt := topS 25
theorem sc_law_places : FnScope ["_law_kind"] ["_law_kind"] (defScope s_law_places) := ⟨rfl, rfl, rfl, by decide +kernel, rfl, by decide +kernel, by decide +kernel⟩
abbrev s_law_used : Stmt := topS 26
theorem sc_law_used : FnScope ["_law_model", "_law_number"] ["_law_model"] (defScope s_law_used) := ⟨rfl, rfl, rfl, by decide +kernel, rfl, by decide +kernel, by decide +kernel⟩
abbrev s_law_make : Stmt := topS 27
theorem sc_law_make : FnScope ["_law_heap", "_law_model", "_law_kind", "_law_owner", "_law_size", "_law_used_here", "_law_objects", "_law_number", "told", "_law_due", "_law_k"] ["_law_heap", "_law_model", "_law_kind", "_law_owner", "_law_size"] (defScope s_law_make) := ⟨rfl, rfl, rfl, by decide +kernel, rfl, by decide +kernel, by decide +kernel⟩
abbrev s_law_reached : Stmt := topS 28
theorem sc_law_reached : FnScope ["_law_model", "_law_roots", "_law_found", "_law_number", "_law_turn", "_law_kind", "_law_owner", "_law_held", "_law_place"] ["_law_model", "_law_roots"] (defScope s_law_reached) := ⟨rfl, rfl, rfl, by decide +kernel, rfl, by decide +kernel, by decide +kernel⟩
abbrev s_law_same : Stmt := topS 29
theorem sc_law_same : FnScope ["_law_heap", "_law_model", "_law_number", "_law_numbers", "_law_kind", "_law_owner", "_law_held", "_law_place"] ["_law_heap", "_law_model"] (defScope s_law_same) := ⟨rfl, rfl, rfl, by decide +kernel, rfl, by decide +kernel, by decide +kernel⟩
abbrev s_law_change : Stmt := topS 30
theorem sc_law_change : FnScope ["_law_heap", "_law_model", "_law_rest", "_law_numbers", "_law_number", "_law_kind", "_law_owner", "_law_held", "_law_place", "_law_word", "_law_targets", "_law_one"] ["_law_heap", "_law_model", "_law_rest"] (defScope s_law_change) := ⟨rfl, rfl, rfl, by decide +kernel, rfl, by decide +kernel, by decide +kernel⟩
abbrev s_law_collect : Stmt := topS 31
theorem sc_law_collect : FnScope ["_law_heap", "_law_model", "_law_rest", "_law_number", "_law_numbers", "_law_roots", "_law_kept"] ["_law_heap", "_law_model", "_law_rest"] (defScope s_law_collect) := ⟨rfl, rfl, rfl, by decide +kernel, rfl, by decide +kernel, by decide +kernel⟩
abbrev s_law : Stmt := topS 32
theorem sc_law : FnScope ["_law_script", "_law_cells", "_law_heap", "_law_model", "_law_draws_here", "_law_many", "_law_size", "_law_k", "_law_draw", "_law_kind", "_law_rest", "_law_one", "_law_data", "_law_number"] ["_law_script"] (defScope s_law) := ⟨rfl, rfl, rfl, by decide +kernel, rfl, by decide +kernel, by decide +kernel⟩
/-- what the top has left -/
structure Txt (K : PySem.W.Frag) (mg : Str → Option Value) where
  f_wall : Addr
  d_wall : FuncData
  k_wall : Fun K "_wall" "_wall" s_wall f_wall d_wall
  b_wall : Binds K d_wall ["k"] []
  g_wall : mg "_wall" = some (.ref f_wall)
  f_Fault_init : Addr
  d_Fault_init : FuncData
  k_Fault_init : Fun K "__init__" "Fault.__init__" s_Fault_init f_Fault_init d_Fault_init
  b_Fault_init : Binds K d_Fault_init ["self", "code"] []
  f_Heap_init : Addr
  d_Heap_init : FuncData
  k_Heap_init : Fun K "__init__" "Heap.__init__" s_Heap_init f_Heap_init d_Heap_init
  b_Heap_init : Binds K d_Heap_init ["self", "cells", "journal", "start"] []
  f_Heap_numbers : Addr
  d_Heap_numbers : FuncData
  k_Heap_numbers : Fun K "numbers" "Heap.numbers" s_Heap_numbers f_Heap_numbers d_Heap_numbers
  b_Heap_numbers : Binds K d_Heap_numbers ["self"] []
  f_Heap_used : Addr
  d_Heap_used : FuncData
  k_Heap_used : Fun K "used" "Heap.used" s_Heap_used f_Heap_used d_Heap_used
  b_Heap_used : Binds K d_Heap_used ["self"] []
  f_Heap_kind : Addr
  d_Heap_kind : FuncData
  k_Heap_kind : Fun K "kind" "Heap.kind" s_Heap_kind f_Heap_kind d_Heap_kind
  b_Heap_kind : Binds K d_Heap_kind ["self", "number"] []
  f_Heap_owner : Addr
  d_Heap_owner : FuncData
  k_Heap_owner : Fun K "owner" "Heap.owner" s_Heap_owner f_Heap_owner d_Heap_owner
  b_Heap_owner : Binds K d_Heap_owner ["self", "number"] []
  f_Heap_size : Addr
  d_Heap_size : FuncData
  k_Heap_size : Fun K "size" "Heap.size" s_Heap_size f_Heap_size d_Heap_size
  b_Heap_size : Binds K d_Heap_size ["self", "number"] []
  f_Heap_read : Addr
  d_Heap_read : FuncData
  k_Heap_read : Fun K "read" "Heap.read" s_Heap_read f_Heap_read d_Heap_read
  b_Heap_read : Binds K d_Heap_read ["self", "number", "place"] []
  f_Heap_write : Addr
  d_Heap_write : FuncData
  k_Heap_write : Fun K "write" "Heap.write" s_Heap_write f_Heap_write d_Heap_write
  b_Heap_write : Binds K d_Heap_write ["self", "number", "place", "word"] []
  f_Heap_fill : Addr
  d_Heap_fill : FuncData
  k_Heap_fill : Fun K "fill" "Heap.fill" s_Heap_fill f_Heap_fill d_Heap_fill
  b_Heap_fill : Binds K d_Heap_fill ["self", "data"] []
  f_Heap_make : Addr
  d_Heap_make : FuncData
  k_Heap_make : Fun K "make" "Heap.make" s_Heap_make f_Heap_make d_Heap_make
  b_Heap_make : Binds K d_Heap_make ["self", "kind", "owner", "size"] []
  f_Heap_reached : Addr
  d_Heap_reached : FuncData
  k_Heap_reached : Fun K "reached" "Heap.reached" s_Heap_reached f_Heap_reached d_Heap_reached
  b_Heap_reached : Binds K d_Heap_reached ["self", "roots", "places"] []
  f_Heap_collect : Addr
  d_Heap_collect : FuncData
  k_Heap_collect : Fun K "collect" "Heap.collect" s_Heap_collect f_Heap_collect d_Heap_collect
  b_Heap_collect : Binds K d_Heap_collect ["self", "roots", "places"] []
  f_Heap__half : Addr
  d_Heap__half : FuncData
  k_Heap__half : Fun K "_half" "Heap._half" s_Heap__half f_Heap__half d_Heap__half
  b_Heap__half : Binds K d_Heap__half ["self"] []
  f_Heap__table : Addr
  d_Heap__table : FuncData
  k_Heap__table : Fun K "_table" "Heap._table" s_Heap__table f_Heap__table d_Heap__table
  b_Heap__table : Binds K d_Heap__table ["self", "half"] []
  f_Heap__room : Addr
  d_Heap__room : FuncData
  k_Heap__room : Fun K "_room" "Heap._room" s_Heap__room f_Heap__room d_Heap__room
  b_Heap__room : Binds K d_Heap__room ["self", "half"] []
  f_Heap__place : Addr
  d_Heap__place : FuncData
  k_Heap__place : Fun K "_place" "Heap._place" s_Heap__place f_Heap__place d_Heap__place
  b_Heap__place : Binds K d_Heap__place ["self", "number"] []
  f_Heap__temp : Addr
  d_Heap__temp : FuncData
  k_Heap__temp : Fun K "_temp" "Heap._temp" s_Heap__temp f_Heap__temp d_Heap__temp
  b_Heap__temp : Binds K d_Heap__temp ["self", "number"] []
  f_Heap__references : Addr
  d_Heap__references : FuncData
  k_Heap__references : Fun K "_references" "Heap._references" s_Heap__references f_Heap__references d_Heap__references
  b_Heap__references : Binds K d_Heap__references ["self", "number", "places"] []
  f_Heap__words : Addr
  d_Heap__words : FuncData
  k_Heap__words : Fun K "_words" "Heap._words" s_Heap__words f_Heap__words d_Heap__words
  b_Heap__words : Binds K d_Heap__words ["self", "number"] []
  f_Cells_init : Addr
  d_Cells_init : FuncData
  k_Cells_init : Fun K "__init__" "Cells.__init__" s_Cells_init f_Cells_init d_Cells_init
  b_Cells_init : Binds K d_Cells_init ["self", "count"] []
  f_Cells_read : Addr
  d_Cells_read : FuncData
  k_Cells_read : Fun K "read" "Cells.read" s_Cells_read f_Cells_read d_Cells_read
  b_Cells_read : Binds K d_Cells_read ["self", "place"] []
  f_Cells_write : Addr
  d_Cells_write : FuncData
  k_Cells_write : Fun K "write" "Cells.write" s_Cells_write f_Cells_write d_Cells_write
  b_Cells_write : Binds K d_Cells_write ["self", "place", "word"] []
  f_Journal_init : Addr
  d_Journal_init : FuncData
  k_Journal_init : Fun K "__init__" "Journal.__init__" s_Journal_init f_Journal_init d_Journal_init
  b_Journal_init : Binds K d_Journal_init ["self", "cells", "start"] []
  f_Journal_change : Addr
  d_Journal_change : FuncData
  k_Journal_change : Fun K "change" "Journal.change" s_Journal_change f_Journal_change d_Journal_change
  b_Journal_change : Binds K d_Journal_change ["self", "place", "word"] []
  f_law_draws : Addr
  d_law_draws : FuncData
  k_law_draws : Fun K "_law_draws" "_law_draws" s_law_draws f_law_draws d_law_draws
  b_law_draws : Binds K d_law_draws ["_law_script", "_law_start", "_law_most"] []
  g_law_draws : mg "_law_draws" = some (.ref f_law_draws)
  f_law_places : Addr
  d_law_places : FuncData
  k_law_places : Fun K "_law_places" "_law_places" s_law_places f_law_places d_law_places
  b_law_places : Binds K d_law_places ["_law_kind"] []
  g_law_places : mg "_law_places" = some (.ref f_law_places)
  f_law_used : Addr
  d_law_used : FuncData
  k_law_used : Fun K "_law_used" "_law_used" s_law_used f_law_used d_law_used
  b_law_used : Binds K d_law_used ["_law_model"] []
  g_law_used : mg "_law_used" = some (.ref f_law_used)
  f_law_make : Addr
  d_law_make : FuncData
  k_law_make : Fun K "_law_make" "_law_make" s_law_make f_law_make d_law_make
  b_law_make : Binds K d_law_make ["_law_heap", "_law_model", "_law_kind", "_law_owner", "_law_size"] []
  g_law_make : mg "_law_make" = some (.ref f_law_make)
  f_law_reached : Addr
  d_law_reached : FuncData
  k_law_reached : Fun K "_law_reached" "_law_reached" s_law_reached f_law_reached d_law_reached
  b_law_reached : Binds K d_law_reached ["_law_model", "_law_roots"] []
  g_law_reached : mg "_law_reached" = some (.ref f_law_reached)
  f_law_same : Addr
  d_law_same : FuncData
  k_law_same : Fun K "_law_same" "_law_same" s_law_same f_law_same d_law_same
  b_law_same : Binds K d_law_same ["_law_heap", "_law_model"] []
  g_law_same : mg "_law_same" = some (.ref f_law_same)
  f_law_change : Addr
  d_law_change : FuncData
  k_law_change : Fun K "_law_change" "_law_change" s_law_change f_law_change d_law_change
  b_law_change : Binds K d_law_change ["_law_heap", "_law_model", "_law_rest"] []
  g_law_change : mg "_law_change" = some (.ref f_law_change)
  f_law_collect : Addr
  d_law_collect : FuncData
  k_law_collect : Fun K "_law_collect" "_law_collect" s_law_collect f_law_collect d_law_collect
  b_law_collect : Binds K d_law_collect ["_law_heap", "_law_model", "_law_rest"] []
  g_law_collect : mg "_law_collect" = some (.ref f_law_collect)
  f_law : Addr
  d_law : FuncData
  k_law : Fun K "law" "law" s_law f_law d_law
  b_law : Binds K d_law ["_law_script"] []
  g_law : mg "law" = some (.ref f_law)
  c_CardError : Addr
  g_CardError : mg "CardError" = some (.ref c_CardError)
  c_Fault : Addr
  g_Fault : mg "Fault" = some (.ref c_Fault)
  c_PowerCut : Addr
  g_PowerCut : mg "PowerCut" = some (.ref c_PowerCut)
  c_Heap : Addr
  g_Heap : mg "Heap" = some (.ref c_Heap)
  c_Cells : Addr
  g_Cells : mg "Cells" = some (.ref c_Cells)
  c_Journal : Addr
  g_Journal : mg "Journal" = some (.ref c_Journal)
  ox_Fault : OexC K c_Fault
  in_Fault : PySem.W.findIn K (.ref c_Fault) "__init__" = some (some (.ref f_Fault_init))
  ti_Fault : PySem.W.typeIn K (.ref f_Fault_init) = some (.type "function")
  on_Fault_code : PySem.W.findIn K (.ref c_Fault) "code" = some none
  xf_Fault : XfC K c_Fault
  ex_Fault_Fault : PySem.W.exmOne K (.ref c_Fault) (.ref c_Fault) = some true
  ex_PowerCut_Fault : PySem.W.exmOne K (.ref c_PowerCut) (.ref c_Fault) = some false
  x_PowerCut : Exc K c_PowerCut
  cl_Heap : Cls K c_Heap
  mk_Heap : Mk K c_Heap f_Heap_init
  me_Heap_numbers : Meth K c_Heap "numbers" f_Heap_numbers
  me_Heap_used : Meth K c_Heap "used" f_Heap_used
  me_Heap_kind : Meth K c_Heap "kind" f_Heap_kind
  me_Heap_owner : Meth K c_Heap "owner" f_Heap_owner
  me_Heap_size : Meth K c_Heap "size" f_Heap_size
  me_Heap_read : Meth K c_Heap "read" f_Heap_read
  me_Heap_write : Meth K c_Heap "write" f_Heap_write
  me_Heap_fill : Meth K c_Heap "fill" f_Heap_fill
  me_Heap_make : Meth K c_Heap "make" f_Heap_make
  me_Heap_reached : Meth K c_Heap "reached" f_Heap_reached
  me_Heap_collect : Meth K c_Heap "collect" f_Heap_collect
  me_Heap__half : Meth K c_Heap "_half" f_Heap__half
  me_Heap__table : Meth K c_Heap "_table" f_Heap__table
  me_Heap__room : Meth K c_Heap "_room" f_Heap__room
  me_Heap__place : Meth K c_Heap "_place" f_Heap__place
  me_Heap__temp : Meth K c_Heap "_temp" f_Heap__temp
  me_Heap__references : Meth K c_Heap "_references" f_Heap__references
  me_Heap__words : Meth K c_Heap "_words" f_Heap__words
  nf_Heap_cells : NoAttr K c_Heap "_cells"
  nf_Heap_journal : NoAttr K c_Heap "_journal"
  nf_Heap_start : NoAttr K c_Heap "_start"
  nf_Heap_temps : NoAttr K c_Heap "_temps"
  cl_Cells : Cls K c_Cells
  mk_Cells : Mk K c_Cells f_Cells_init
  me_Cells_read : Meth K c_Cells "read" f_Cells_read
  me_Cells_write : Meth K c_Cells "write" f_Cells_write
  nf_Cells_words : NoAttr K c_Cells "_words"
  nf_Cells_left : NoAttr K c_Cells "_left"
  nf_Cells_on : NoAttr K c_Cells "_on"
  cl_Journal : Cls K c_Journal
  mk_Journal : Mk K c_Journal f_Journal_init
  me_Journal_change : Meth K c_Journal "change" f_Journal_change
  nf_Journal_cells : NoAttr K c_Journal "_cells"
  nf_Journal_start : NoAttr K c_Journal "_start"
  nf_Journal_open : NoAttr K c_Journal "_open"
  m_abs : mg "abs" = none
  m_enumerate : mg "enumerate" = none
  m_int : mg "int" = none
  m_len : mg "len" = none
  m_list : mg "list" = none
  m_min : mg "min" = none
  m_range : mg "range" = none
  m_sorted : mg "sorted" = none
  m_sum : mg "sum" = none
  m_tuple : mg "tuple" = none
  t_MOST_BUFFER : Tok
  g_MOST_BUFFER : mg "MOST_BUFFER" = some (.int (64) t_MOST_BUFFER)
  t_MOST_CELLS : Tok
  g_MOST_CELLS : mg "MOST_CELLS" = some (.int (400) t_MOST_CELLS)
  t_MOST_OBJECTS : Tok
  g_MOST_OBJECTS : mg "MOST_OBJECTS" = some (.int (60) t_MOST_OBJECTS)
  t_MOST_LOG : Tok
  g_MOST_LOG : mg "MOST_LOG" = some (.int (40) t_MOST_LOG)
  t_ROOM : Tok
  g_ROOM : mg "ROOM" = some (.int (-6) t_ROOM)
  t_TRANSACTION : Tok
  g_TRANSACTION : mg "TRANSACTION" = some (.int (-8) t_TRANSACTION)
  t_BYTES : Tok
  g_BYTES : mg "BYTES" = some (.int (-1) t_BYTES)
  t_TEMP : Tok
  g_TEMP : mg "TEMP" = some (.int (-2) t_TEMP)
  t_BUFFER : Tok
  g_BUFFER : mg "BUFFER" = some (.int (61) t_BUFFER)
  t_HEAD_CELLS : Tok
  g_HEAD_CELLS : mg "HEAD_CELLS" = some (.int (3) t_HEAD_CELLS)
  t_HALF_CELLS : Tok
  g_HALF_CELLS : mg "HALF_CELLS" = some (.int (460) t_HALF_CELLS)
  t_HEAP_CELLS : Tok
  g_HEAP_CELLS : mg "HEAP_CELLS" = some (.int (921) t_HEAP_CELLS)
section
variable {P : Program} {w : World} {K : PySem.W.Frag} {mg : Str → Option Value} {base : Heap}

/-! ### cells.py -/
def cf (l : Addr) (lv : V) (b : Bool) : List (Str × V) := [("_words", .ref l), ("_left", lv), ("_on", .bl b)]
structure CS where
  words : List Int
  left : Option Int
  on : Bool
def lfV : Option Int → V
  | none => .non
  | some i => .int i
/-- a Cells object stands at a, its words at l -/
structure CellsAt (C : Addr) (H : Hp) (a l : Addr) (S : CS) : Prop where
  ob : ∃ dx, H a = some (.ins C dx (cf l (lfV S.left) S.on))
  ws : H l = some (.lst (S.words.map V.int))
  sz : S.words.length ≤ 2000
theorem CellsAt.ne {C : Addr} {H : Hp} {a l : Addr} {S : CS} (c : CellsAt C H a l S) : a ≠ l := by
  obtain ⟨dx, h⟩ := c.ob
  exact ne_of h c.ws (by intro z; cases z)
theorem CellsAt.keep {C : Addr} {H H' : Hp} {a l : Addr} {S : CS} {X : List Addr} (c : CellsAt C H a l S) (k : Kp X H H') (h1 : a ∉ X) (h2 : l ∉ X) : CellsAt C H' a l S := by
  obtain ⟨dx, h⟩ := c.ob
  exact ⟨⟨dx, k a _ h1 h⟩, k l _ h2 c.ws, c.sz⟩
def sp_Cells_init {K : PySem.W.Frag} {mg : Str → Option Value} (T : Txt K mg) : Sp := fun vs H Q _ => ∃ (x dx : Addr) (n : Nat), vs = [.ref x, .int n] ∧ H x = some (.ins T.c_Cells dx []) ∧ n ≤ 2000 ∧
  ∀ H' l, CellsAt T.c_Cells H' x l ⟨List.replicate n 0, none, true⟩ → H l = none → Kp [x] H H' → Q .non H'
theorem ok_Cells_init (T : Txt K mg) : FnOk P w K mg base CX0 1 T.f_Cells_init T.d_Cells_init ["self", "count"] (sp_Cells_init T) := by
  refine T.k_Cells_init.ok sc_Cells_init (fun vs H Q E h => ?_) (fun cdv A outer s H vs Q E hr h => ?_)
  · obtain ⟨x, dx, n, rfl, _⟩ := h
    rfl
  · obtain ⟨x, dx, n, rfl, hx, hn, q⟩ := h
    refine ⟨_, (pss_cons (ps_fldK K (pv 0) (pe_op op_rep (pe_lst (pa_cons pe_int pa_nil)) (pv 1)) rfl)
      (pss_cons (ps_fldK K (pv 0) pe_non rfl)
      (pss_one (ps_fldK K (pv 0) pe_bl rfl)))), ?_⟩
    walk_at "rd"
    refine rdSeq ?_
    walk_at "rd"
    intro p hp
    have xp : x ≠ p := ne_of_none hx hp
    refine i_rep upd_same (by omega) (by omega) (by show 1 * _ ≤ _; rw [sizeLine_eq]; omega) fun l hl => ?_
    have xl : x ≠ l := ne_of_none (same_new hp _ _ hx) hl
    have hx2 : upd (upd H p (.lst [.int 0])) l (.lst (List.replicate ((n : Int)).toNat [V.int 0]).flatten) x = some (.ins T.c_Cells dx []) := same_new hl _ _ (same_new hp _ _ hx)
    refine i_fldS T.cl_Cells T.nf_Cells_words hx2 (by decide) (rdSeq ?_)
    walk_at "rd"
    refine i_fldS T.cl_Cells T.nf_Cells_left upd_same (by show 1 < 1000; decide) ?_
    refine i_fldS T.cl_Cells T.nf_Cells_on upd_same (by show 2 < 1000; decide) ?_
    rw [upd_upd, upd_upd]
    refine q _ l ⟨⟨dx, by rw [upd_same]; rfl⟩, ?_, by show (List.replicate n (0 : Int)).length ≤ 2000; rw [List.length_replicate]; exact hn⟩ ?_ ?_
    · rw [upd_ne (Ne.symm xl), upd_same, rep1, List.map_replicate]; rfl
    · exact (same_new hp).free hl
    · intro b o hb e
      rw [upd_ne (by simpa using hb)]
      exact same_new hl _ _ (same_new hp _ _ e)
def sp_Cells_read {K : PySem.W.Frag} {mg : Str → Option Value} (T : Txt K mg) : Sp := fun vs H Q E => ∃ (a l : Addr) (S : CS) (i : Nat), vs = [.ref a, .int i] ∧ CellsAt T.c_Cells H a l S ∧ i < S.words.length ∧
  (S.on = true → Q (.int (S.words.getD i 0)) H) ∧ (S.on = false → E (.ref T.c_PowerCut) none H)
theorem ok_Cells_read (T : Txt K mg) : FnOk P w K mg base (L2.CX P w) 1 T.f_Cells_read T.d_Cells_read ["self", "place"] (sp_Cells_read T) := by
  refine T.k_Cells_read.okX sc_Cells_read (fun vs H Q E h => ?_) (fun cdv A outer s H vs Q E hr h => ?_)
  · obtain ⟨a, l, S, i, rfl, _⟩ := h
    rfl
  · obtain ⟨a, l, S, i, rfl, c, hi, q1, q2⟩ := h
    refine ⟨_, (pss_cons (ps_if (pt_not (pt_val (pe_fldK K (pv 0) rfl))) (pss_one (ps_raise rfl (takes_of rfl rfl rfl rfl) (pmk_own0 PySem.F.excBase_ValueError T.x_PowerCut.x T.g_PowerCut T.x_PowerCut.kp (raises_own T.x_PowerCut.be T.x_PowerCut.ty) (by exact rfl)))) pss_nil)
      (pss_one (ps_ret (pe_ix (ix_listK K) (pe_fldK K (pv 0) rfl) (pv 1) (fun _ _ => rfl))))), ?_⟩
    walk_at "rd"
    refine rdSeq ?_
    walk_at "rd"
    obtain ⟨dx, h⟩ := c.ob
    refine i_fld T.cl_Cells T.nf_Cells_on h rfl ?_
    walk_at "rd"
    cases e : S.on with
    | false => exact q2 e
    | true =>
      refine i_else (by simp) (i_fld T.cl_Cells T.nf_Cells_words h rfl ?_)
      refine i_ixL (sqL_of c.ws) (atI_nat (j := i) (v := .int (S.words.getD i 0)) ?_) (q1 e)
      rw [List.getElem?_map, List.getElem?_eq_getElem hi, List.getD_eq_getElem?_getD, List.getElem?_eq_getElem hi]; rfl
def writeS (S : CS) (i : Nat) (w : Int) : CS × Bool :=
  if S.on = false then (S, false) else if S.left = some 0 then (⟨S.words, S.left, false⟩, false) else (⟨S.words.set i w, S.left.map (· - 1), true⟩, true)
def sp_Cells_write {K : PySem.W.Frag} {mg : Str → Option Value} (T : Txt K mg) : Sp := fun vs H Q E => ∃ (a l : Addr) (S : CS) (i : Nat) (w : Int), vs = [.ref a, .int i, .int w] ∧ CellsAt T.c_Cells H a l S ∧ i < S.words.length ∧
  ∀ H', CellsAt T.c_Cells H' a l (writeS S i w).1 → Kp [a, l] H H' → ((writeS S i w).2 = true → Q .non H') ∧ ((writeS S i w).2 = false → E (.ref T.c_PowerCut) none H')
theorem ok_Cells_write (T : Txt K mg) : FnOk P w K mg base (L2.CX P w) 1 T.f_Cells_write T.d_Cells_write ["self", "place", "word"] (sp_Cells_write T) := by
  refine T.k_Cells_write.okX sc_Cells_write (fun vs H Q E h => ?_) (fun cdv A outer s H vs Q E hr h => ?_)
  · obtain ⟨a, l, S, i, w, rfl, _⟩ := h
    rfl
  · obtain ⟨a, l, S, i, w, rfl, c, hi, q⟩ := h
    refine ⟨_, (pss_cons (ps_if (pt_not (pt_val (pe_fldK K (pv 0) rfl))) (pss_one (ps_raise rfl (takes_of rfl rfl rfl rfl) (pmk_own0 PySem.F.excBase_ValueError T.x_PowerCut.x T.g_PowerCut T.x_PowerCut.kp (raises_own T.x_PowerCut.be T.x_PowerCut.ty) (by exact rfl)))) pss_nil)
      (pss_cons (ps_if (pt_cmpR op_eq (pe_fldK K (pv 0) rfl) pe_int (nomark _)) (pss_cons (ps_fldK K (pv 0) pe_bl rfl)
      (pss_one (ps_raise rfl (takes_of rfl rfl rfl rfl) (pmk_own0 PySem.F.excBase_ValueError T.x_PowerCut.x T.g_PowerCut T.x_PowerCut.kp (raises_own T.x_PowerCut.be T.x_PowerCut.ty) (by exact rfl))))) pss_nil)
      (C8.pss_cut (ps_if (pt_cmpR op_notN (pe_fldK K (pv 0) rfl) pe_non (nomark _)) (pss_one (ps_fldaugK K (pv 0) pe_int in_sub)) pss_nil)
      (pss_one (ps_asg (pv 2) (pg_sub (pe_fldK K (pv 0) rfl) (pv 1) set_list)))))), ?_⟩
    walk_at "rd"
    refine rdSeq ?_
    walk_at "rd"
    obtain ⟨dx, h⟩ := c.ob
    refine i_fld T.cl_Cells T.nf_Cells_on h rfl ?_
    walk_at "rd"
    have hne := c.ne
    cases e : S.on with
    | false =>
      have ew : writeS S i w = (S, false) := by unfold writeS; rw [if_pos e]
      rw [ew] at q
      exact (q H c (Kp.refl _ _)).2 rfl
    | true =>
      refine i_else (by simp) (rdSeq ?_)
      walk_at "rd"
      refine i_fld T.cl_Cells T.nf_Cells_left h rfl ?_
      have fin : ∀ (dx : Addr) (lv : Option Int) (H1 : Hp), S.left ≠ some 0 → lv = S.left.map (· - 1) → Kp [a, l] H H1 → H1 a = some (.ins T.c_Cells dx (cf l (lfV lv) true)) → H1 l = some (.lst (S.words.map V.int)) →
          tAsg (tVar 2) (gSub (tFld K (tVar 0) (Str.ofString "_words")) (tVar 1) rSetL) { nx := fun x H' => Q V.non H', rt := Q } [some (V.ref a), some (V.int (i : Int)), some (V.int w)] H1 := fun dx lv H1 n0 el kp ha hl => by
        walk_at "rd"
        refine i_fld T.cl_Cells T.nf_Cells_words ha rfl ?_
        refine i_setL hl (j := i) (by rw [List.length_map]; unfold ixN; rw [if_pos (by omega), if_pos (by omega)]; simp) ?_
        have ew : writeS S i w = (⟨S.words.set i w, S.left.map (· - 1), true⟩, true) := by unfold writeS; rw [if_neg (by rw [e]; simp), if_neg n0]
        rw [ew] at q
        refine (q _ ⟨⟨dx, ?_⟩, ?_, by show (S.words.set i w).length ≤ 2000; rw [List.length_set]; exact c.sz⟩ (kp.trans (Kp.set (by simp)))).1 rfl
        · rw [upd_ne hne, ha, el]
        · rw [upd_same, List.map_set]
      cases el : S.left with
      | none =>
        rw [el] at h
        simp only [lfV]
        walk_at "rd"
        refine rdCut (fun σ H1 => H1 = H ∧ σ = [some (V.ref a), some (V.int (i : Int)), some (V.int w)]) ?_ ?_
        · walk_at "rd"
          refine i_fld T.cl_Cells T.nf_Cells_left h rfl ?_
          simp only [lfV]
          walk_at "rd"
        · rintro σ H1 ⟨rfl, rfl⟩
          exact fin dx none _ (by rw [el]; simp) (by rw [el]; rfl) (Kp.refl _ _) (by rw [e] at h; exact h) c.ws
      | some z =>
        rw [el] at h
        simp only [lfV]
        walk_at "rd"
        by_cases hz : z = 0
        · subst hz
          refine i_then rfl (rdSeq ?_)
          walk_at "rd"
          refine i_fldS T.cl_Cells T.nf_Cells_on h (by show 3 < 1000; decide) ?_
          have ew : writeS S i w = (⟨S.words, S.left, false⟩, false) := by unfold writeS; rw [if_neg (by rw [e]; simp), if_pos el]
          rw [ew] at q
          exact (q _ ⟨⟨dx, by rw [upd_same, el]; rfl⟩, by rw [upd_ne (Ne.symm hne)]; exact c.ws, c.sz⟩ (Kp.set (by simp))).2 rfl
        · refine i_else hz (rdCut (fun σ H1 => (∃ dx, H1 a = some (.ins T.c_Cells dx (cf l (lfV (some (z - 1))) true))) ∧ H1 l = some (.lst (S.words.map V.int)) ∧ Kp [a, l] H H1 ∧ σ = [some (V.ref a), some (V.int (i : Int)), some (V.int w)]) ?_ ?_)
          · walk_at "rd"
            refine i_fld T.cl_Cells T.nf_Cells_left h rfl ?_
            simp only [lfV]
            walk_at "rd"
            rw [e] at h
            refine i_fldA T.cl_Cells T.nf_Cells_left h rfl ⟨z, 1, rfl, rfl, dx, _, h, by show 3 < 1000; decide, ⟨dx, by rw [upd_same]; rfl⟩, by rw [upd_ne (Ne.symm hne)]; exact c.ws, Kp.set (by simp)⟩
          · rintro σ H1 ⟨⟨dx', h1⟩, h2, h3, rfl⟩
            exact fin dx' (some (z - 1)) _ (by rw [el]; simpa using hz) (by rw [el]; rfl) h3 h1 h2

/-! ### journal.py -/
inductive Out where
  | ok
  | cut
  | fault
def seqS (r : CS × Out) (k : CS → CS × Out) : CS × Out := match r.2 with
  | .ok => k r.1
  | _ => r
def wS (S : CS) (i : Nat) (w : Int) : CS × Out := ((writeS S i w).1, if (writeS S i w).2 = true then .ok else .cut)
def rdS (S : CS) (i : Nat) (k : Int → CS × Out) : CS × Out := if S.on = true then k (S.words.getD i 0) else (S, .cut)
theorem writeS_len {S : CS} {i : Nat} {w : Int} : (writeS S i w).1.words.length = S.words.length := by
  unfold writeS
  split
  · rfl
  · split
    · rfl
    · exact List.length_set
theorem writeS_on {S : CS} {i : Nat} {w : Int} (h : (writeS S i w).2 = true) : (writeS S i w).1.words = S.words.set i w ∧ (writeS S i w).1.on = true ∧ S.on = true := by
  unfold writeS at h ⊢
  split
  · rename_i e; rw [if_pos e] at h; cases h
  · rename_i e
    rw [if_neg e] at h
    split
    · rename_i e2; rw [if_pos e2] at h; cases h
    · exact ⟨rfl, rfl, by simpa using e⟩
/-- a Journal stands at j, over the cells at c -/
def jf (c : Addr) (st : Nat) (b : Bool) : List (Str × V) := [("_cells", .ref c), ("_start", .int st), ("_open", .bl b)]
def JrnAt (C : Addr) (H : Hp) (j c : Addr) (st : Nat) (b : Bool) : Prop := ∃ dx, H j = some (.ins C dx (jf c st b))
theorem jrn_ne_cells {H : Hp} {C D j c dj dx c' l : Addr} {st : Nat} {b o : Bool} {lv : V} (h1 : H j = some (.ins C dj (jf c' st b))) (h2 : H c = some (.ins D dx (cf l lv o))) : j ≠ c := fun e => by
  subst e
  rw [h2] at h1
  injection h1 with h1
  injection h1 with _ _ h1
  exact absurd (congrArg (List.map Prod.fst) h1) (by show ¬ (([("_words" : Str), "_left", "_on"] : List Str) = [("_cells" : Str), "_start", "_open"]); decide)
theorem JrnAt.keep {C : Addr} {H H' : Hp} {j c : Addr} {st : Nat} {b : Bool} {X : List Addr} (h : JrnAt C H j c st b) (k : Kp X H H') (n : j ∉ X) : JrnAt C H' j c st b := by
  obtain ⟨dx, h⟩ := h
  exact ⟨dx, k _ _ n h⟩
theorem seq_ok {S : CS} {i : Nat} {w : Int} {k : CS → CS × Out} (e : (writeS S i w).2 = true) : seqS (wS S i w) k = k (writeS S i w).1 := by
  unfold seqS wS
  rw [if_pos e]
theorem seq_cut {S : CS} {i : Nat} {w : Int} {k : CS → CS × Out} (e : (writeS S i w).2 = false) : seqS (wS S i w) k = ((writeS S i w).1, .cut) := by
  unfold seqS wS
  rw [if_neg (by rw [e]; exact Bool.false_ne_true)]
theorem wS_ok {S : CS} {i : Nat} {w : Int} (e : (writeS S i w).2 = true) : wS S i w = ((writeS S i w).1, .ok) := by
  unfold wS
  rw [if_pos e]
theorem wS_cut {S : CS} {i : Nat} {w : Int} (e : (writeS S i w).2 = false) : wS S i w = ((writeS S i w).1, .cut) := by
  unfold wS
  rw [if_neg (by rw [e]; exact Bool.false_ne_true)]
theorem rdS_on {S : CS} {i : Nat} {k : Int → CS × Out} (e : S.on = true) : rdS S i k = k (S.words.getD i 0) := if_pos e
theorem rdS_off {S : CS} {i : Nat} {k : Int → CS × Out} (e : S.on = false) : rdS S i k = (S, .cut) := if_neg (by rw [e]; exact Bool.false_ne_true)
def sp_Fault_init {K : PySem.W.Frag} {mg : Str → Option Value} (T : Txt K mg) : Sp := spX1 T.c_Fault "code"
theorem ok_Fault_init (T : Txt K mg) : FnOk P w K mg base CX0 1 T.f_Fault_init T.d_Fault_init ["self", "code"] (sp_Fault_init T) := by
  refine T.k_Fault_init.ok sc_Fault_init (fun vs H Q E h => ?_) (fun cdv A outer s H vs Q E hr h => ?_)
  · obtain ⟨a, v, rfl, _⟩ := h
    rfl
  · obtain ⟨a, v, rfl, ha, q⟩ := h
    refine ⟨_, (pss_one (ps_ost (pv 0) (pv 1) rfl)), ?_⟩
    walk_at "rd"
    exact i_ost T.ox_Fault T.on_Fault_code ha q
def sp_Journal_init {K : PySem.W.Frag} {mg : Str → Option Value} (T : Txt K mg) : Sp := fun vs H Q _ => ∃ (x dx c : Addr) (st : Nat), vs = [.ref x, .ref c, .int st] ∧ H x = some (.ins T.c_Journal dx []) ∧ ∀ H', JrnAt T.c_Journal H' x c st false → Kp [x] H H' → Q .non H'
theorem ok_Journal_init (T : Txt K mg) : FnOk P w K mg base CX0 1 T.f_Journal_init T.d_Journal_init ["self", "cells", "start"] (sp_Journal_init T) := by
  refine T.k_Journal_init.ok sc_Journal_init (fun vs H Q E h => ?_) (fun cdv A outer s H vs Q E hr h => ?_)
  · obtain ⟨x, dx, c, st, rfl, _⟩ := h
    rfl
  · obtain ⟨x, dx, c, st, rfl, hx, q⟩ := h
    refine ⟨_, (pss_cons (ps_fldK K (pv 0) (pv 1) rfl)
      (pss_cons (ps_fldK K (pv 0) (pv 2) rfl)
      (pss_one (ps_fldK K (pv 0) pe_bl rfl)))), ?_⟩
    walk_at "rd"
    refine rdSeq ?_
    walk_at "rd"
    refine i_fldS T.cl_Journal T.nf_Journal_cells hx (by decide) (rdSeq ?_)
    walk_at "rd"
    refine i_fldS T.cl_Journal T.nf_Journal_start upd_same (by show 1 < 1000; decide) ?_
    refine i_fldS T.cl_Journal T.nf_Journal_open upd_same (by show 2 < 1000; decide) ?_
    rw [upd_upd, upd_upd]
    exact q _ ⟨dx, by rw [upd_same]; rfl⟩ (Kp.set (by simp))
def jchange (st : Nat) (b : Bool) (S : CS) (p : Nat) (w : Int) : CS × Out :=
  if b = true then rdS S st fun n => if n = 40 then (S, .fault) else seqS (wS S (st + 1 + 2 * n.toNat) p) fun S1 => seqS (wS S1 (st + 2 + 2 * n.toNat) (S1.words.getD p 0)) fun S2 => seqS (wS S2 st (n + 1)) fun S3 => wS S3 p w
  else wS S p w
def CntOk (st : Nat) (S : CS) : Prop := st + 80 < S.words.length ∧ 0 ≤ S.words.getD st 0 ∧ S.words.getD st 0 ≤ 40
def tellE {K : PySem.W.Frag} {mg : Str → Option Value} (T : Txt K mg) (Q : VK) (E : XK) (o : Out) (H' : Hp) : Prop := match o with
  | .ok => Q .non H'
  | .cut => E (.ref T.c_PowerCut) none H'
  | .fault => ∀ dx, H' dx = none → E (.ref T.c_Fault) (some dx) (upd H' dx (.xd [("code", .int (-8))]))
def sp_Journal_change {K : PySem.W.Frag} {mg : Str → Option Value} (T : Txt K mg) : Sp := fun vs H Q E => ∃ (j c l : Addr) (st : Nat) (b : Bool) (S : CS) (p : Nat) (w : Int), vs = [.ref j, .int p, .int w] ∧ JrnAt T.c_Journal H j c st b ∧ CellsAt T.c_Cells H c l S ∧ p < S.words.length ∧ (b = true → CntOk st S) ∧
  ∀ H', CellsAt T.c_Cells H' c l (jchange st b S p w).1 → Kp [c, l] H H' → tellE T Q E (jchange st b S p w).2 H'
theorem ok_Journal_change (T : Txt K mg) : FnOk P w K mg base (L2.CX P w) 3 T.f_Journal_change T.d_Journal_change ["self", "place", "word"] (sp_Journal_change T) := by
  refine T.k_Journal_change.okX sc_Journal_change (fun vs H Q E h => ?_) (fun cdv A outer s H vs Q E hr h => ?_)
  · obtain ⟨j, c, l, st, b, S, p, w, rfl, _⟩ := h
    rfl
  · obtain ⟨j, c, l, st, b, S, p, w, rfl, hj, hc, hp, hcn, q⟩ := h
    refine ⟨_, (C8.pss_cut (ps_if (pt_val (pe_fldK K (pv 0) rfl)) (pss_cons (ps_set (i := 3) sc_Journal_change.nd rfl (.inl rfl) (pe_methS (pe_fldK K (pv 0) rfl) T.cl_Cells T.me_Cells_read (ok_Cells_read T) (hr.mono (by decide)) T.b_Cells_read (fun σ => passAt (takes_of rfl rfl rfl rfl) σ) (pa_cons (pe_fldK K (pv 0) rfl) pa_nil)))
      (pss_cons (ps_if (pt_cmpR op_eq (pv 3) (pe_glob (v := .int _) rfl T.g_MOST_LOG ⟨_, rfl⟩) (nomark _)) (pss_one (ps_raise rfl (takes_of rfl rfl rfl rfl) (pmk_oex T.ox_Fault T.in_Fault T.ti_Fault (ok_Fault_init T) (hr.mono (by decide)) T.b_Fault_init .nil pass0 rfl T.g_Fault (pa_cons (pe_glob (v := .int _) rfl T.g_TRANSACTION ⟨_, rfl⟩) pa_nil)))) pss_nil)
      (pss_cons (ps_set (i := 4) sc_Journal_change.nd rfl (.inl rfl) (pe_op op_add (pe_op op_add (pe_fldK K (pv 0) rfl) pe_int) (pe_op op_mul pe_int (pv 3))))
      (pss_cons (ps_expr (pe_methS (pe_fldK K (pv 0) rfl) T.cl_Cells T.me_Cells_write (ok_Cells_write T) (hr.mono (by decide)) T.b_Cells_write (fun σ => passAt (takes_of rfl rfl rfl rfl) σ) (pa_cons (pv 4) (pa_cons (pv 1) pa_nil))))
      (pss_cons (ps_expr (pe_methS (pe_fldK K (pv 0) rfl) T.cl_Cells T.me_Cells_write (ok_Cells_write T) (hr.mono (by decide)) T.b_Cells_write (fun σ => passAt (takes_of rfl rfl rfl rfl) σ) (pa_cons (pe_op op_add (pv 4) pe_int) (pa_cons (pe_methS (pe_fldK K (pv 0) rfl) T.cl_Cells T.me_Cells_read (ok_Cells_read T) (hr.mono (by decide)) T.b_Cells_read (fun σ => passAt (takes_of rfl rfl rfl rfl) σ) (pa_cons (pv 1) pa_nil)) pa_nil))))
      (pss_one (ps_expr (pe_methS (pe_fldK K (pv 0) rfl) T.cl_Cells T.me_Cells_write (ok_Cells_write T) (hr.mono (by decide)) T.b_Cells_write (fun σ => passAt (takes_of rfl rfl rfl rfl) σ) (pa_cons (pe_fldK K (pv 0) rfl) (pa_cons (pe_op op_add (pv 3) pe_int) pa_nil)))))))))) pss_nil)
      (pss_one (ps_expr (pe_methS (pe_fldK K (pv 0) rfl) T.cl_Cells T.me_Cells_write (ok_Cells_write T) (hr.mono (by decide)) T.b_Cells_write (fun σ => passAt (takes_of rfl rfl rfl rfl) σ) (pa_cons (pv 1) (pa_cons (pv 2) pa_nil)))))), ?_⟩
    walk_at "rd"
    obtain ⟨dj, hjo⟩ := hj
    obtain ⟨dx, ho⟩ := hc.ob
    have njc : j ≠ c := jrn_ne_cells hjo ho
    have njl : j ≠ l := ne_of hjo hc.ws (by intro z; cases z)
    have nk : j ∉ [c, l] := by simp [njc, njl]
    have last : ∀ (x3 x4 : Option V) (S1 : CS) (H1 : Hp), JrnAt T.c_Journal H1 j c st b → CellsAt T.c_Cells H1 c l S1 → p < S1.words.length → (∀ H', CellsAt T.c_Cells H' c l (wS S1 p w).1 → Kp [c, l] H1 H' → tellE T Q E (wS S1 p w).2 H') →
        tDrop (tMethS T.c_Cells (Str.ofString "write") (sp_Cells_write T) (fun σ => WE (fun cls d x H => E cls d H) σ) (tFld K (tVar 0) (Str.ofString "_cells")) (tCons (tVar 1) (tCons (tVar 2) tNil)))
          { nx := fun x H' => Q V.non H', rt := Q } [some (V.ref j), some (V.int (p : Int)), some (V.int w), x3, x4] H1 := fun x3 x4 S1 H1 hj1 hc1 hp1 q1 => by
      obtain ⟨dj, hjo⟩ := hj1
      obtain ⟨dx, ho⟩ := hc1.ob
      walk_at "rd"
      refine i_fld T.cl_Journal T.nf_Journal_cells hjo rfl (i_meth ho rfl ?_)
      refine ⟨c, l, S1, p, w, rfl, hc1, hp1, fun H' hc' kp => ⟨fun e => ?_, fun e => ?_⟩⟩
      · have := q1 H'
        rw [wS_ok e] at this
        exact this hc' kp
      · have := q1 H'
        rw [wS_cut e] at this
        exact this hc' kp
    cases b with
    | false =>
      refine rdCut (fun σ H1 => H1 = H ∧ σ = [some (V.ref j), some (V.int (p : Int)), some (V.int w), none, none]) ?_ ?_
      · walk_at "rd"
        refine i_fld T.cl_Journal T.nf_Journal_open hjo rfl ?_
        walk_at "rd"
      · rintro σ H1 ⟨rfl, rfl⟩
        exact last _ _ S H1 ⟨dj, hjo⟩ hc hp q
    | true =>
      obtain ⟨hz, h0, h40⟩ := hcn rfl
      obtain ⟨m, hm⟩ : ∃ m : Nat, S.words.getD st 0 = (m : Int) := ⟨(S.words.getD st 0).toNat, by omega⟩
      have q' : ∀ H', CellsAt T.c_Cells H' c l (rdS S st fun n => if n = 40 then (S, .fault) else seqS (wS S (st + 1 + 2 * n.toNat) p) fun S1 => seqS (wS S1 (st + 2 + 2 * n.toNat) (S1.words.getD p 0)) fun S2 => seqS (wS S2 st (n + 1)) fun S3 => wS S3 p w).1 → Kp [c, l] H H' →
          tellE T Q E (rdS S st fun n => if n = 40 then (S, .fault) else seqS (wS S (st + 1 + 2 * n.toNat) p) fun S1 => seqS (wS S1 (st + 2 + 2 * n.toNat) (S1.words.getD p 0)) fun S2 => seqS (wS S2 st (n + 1)) fun S3 => wS S3 p w).2 H' := q
      cases eo : S.on with
      | false =>
        rw [rdS_off eo] at q'
        refine rdCut (fun σ H1 => False) ?_ (fun _ _ h => h.elim)
        walk_at "rd"
        refine i_fld T.cl_Journal T.nf_Journal_open hjo rfl ?_
        walk_at "rd"
        refine rdSeq ?_
        walk_at "rd"
        refine i_fld T.cl_Journal T.nf_Journal_cells hjo rfl (i_meth ho rfl (i_fld T.cl_Journal T.nf_Journal_start hjo rfl ?_))
        exact ⟨c, l, S, st, rfl, hc, by omega, (fun e => by rw [eo] at e; cases e), fun _ => q' H hc (Kp.refl _ _)⟩
      | true =>
        rw [rdS_on eo, hm] at q'
        simp only [Int.toNat_natCast] at q'
        refine rdCut (fun σ H1 => ∃ S3 x3 x4, CellsAt T.c_Cells H1 c l S3 ∧ Kp [c, l] H H1 ∧ p < S3.words.length ∧ (∀ H', CellsAt T.c_Cells H' c l (wS S3 p w).1 → Kp [c, l] H1 H' → tellE T Q E (wS S3 p w).2 H') ∧ σ = [some (V.ref j), some (V.int (p : Int)), some (V.int w), x3, x4]) ?_ ?_
        · walk_at "rd"
          refine i_fld T.cl_Journal T.nf_Journal_open hjo rfl ?_
          walk_at "rd"
          refine rdSeq ?_
          walk_at "rd"
          refine i_fld T.cl_Journal T.nf_Journal_cells hjo rfl (i_meth ho rfl (i_fld T.cl_Journal T.nf_Journal_start hjo rfl ?_))
          refine ⟨c, l, S, st, rfl, hc, by omega, fun _ => ?_, fun e => by rw [eo] at e; cases e⟩
          rw [hm]
          refine rdSeq ?_
          walk_at "rd"
          refine ite2 (fun e40 => ?_) (fun e40 => rdSeq ?_)
          · rw [if_pos e40] at q'
            exact i_mkO1 (q' H hc (Kp.refl _ _))
          · rw [if_neg e40] at q'
            walk_at "rd"
            refine i_fld T.cl_Journal T.nf_Journal_start hjo rfl ?_
            walk_at "rd"
            refine ⟨cm_l (by decide), rdSeq ?_⟩
            walk_at "rd"
            refine i_fld T.cl_Journal T.nf_Journal_cells hjo rfl (i_meth ho rfl ?_)
            refine ⟨c, l, S, st + 1 + 2 * m, p, rfl, hc, by omega, fun H1 hc1 kp1 => ⟨fun e1 => ?_, fun e1 => ?_⟩⟩
            rotate_left
            · rw [seq_cut e1] at q'
              exact q' H1 hc1 kp1
            rw [seq_ok e1] at q'
            have hjo1 := kp1 _ _ nk hjo
            obtain ⟨dx1, ho1⟩ := hc1.ob
            have len1 := writeS_len (S := S) (i := st + 1 + 2 * m) (w := p)
            have on1 := (writeS_on e1).2.1
            generalize (writeS S (st + 1 + 2 * m) p).1 = S1 at q' hc1 len1 on1 ho1
            refine rdSeq ?_
            walk_at "rd"
            refine i_fld T.cl_Journal T.nf_Journal_cells hjo1 rfl (i_meth ho1 rfl (i_fld T.cl_Journal T.nf_Journal_cells hjo1 rfl (i_meth ho1 rfl ?_)))
            refine ⟨c, l, S1, p, rfl, hc1, by omega, fun _ => ?_, fun e => by rw [on1] at e; cases e⟩
            refine ⟨c, l, S1, st + 2 + 2 * m, S1.words.getD p 0, ?_, hc1, by omega, fun H2 hc2 kp2 => ⟨fun e2 => ?_, fun e2 => ?_⟩⟩
            · rw [show ((st + 2 + 2 * m : Nat) : Int) = (st : Int) + 1 + 2 * m + 1 by omega]
            rotate_left
            · rw [seq_cut e2] at q'
              exact q' H2 hc2 (kp1.trans kp2)
            rw [seq_ok e2] at q'
            have hjo2 := kp2 _ _ nk hjo1
            obtain ⟨dx2, ho2⟩ := hc2.ob
            have len2 := writeS_len (S := S1) (i := st + 2 + 2 * m) (w := S1.words.getD p 0)
            generalize (writeS S1 (st + 2 + 2 * m) (S1.words.getD p 0)).1 = S2 at q' hc2 len2 ho2
            walk_at "rd"
            refine i_fld T.cl_Journal T.nf_Journal_cells hjo2 rfl (i_meth ho2 rfl (i_fld T.cl_Journal T.nf_Journal_start hjo2 rfl ?_))
            refine ⟨c, l, S2, st, m + 1, rfl, hc2, by omega, fun H3 hc3 kp3 => ⟨fun e3 => ?_, fun e3 => ?_⟩⟩
            rotate_left
            · rw [seq_cut e3] at q'
              exact q' H3 hc3 (kp1.trans (kp2.trans kp3))
            rw [seq_ok e3] at q'
            have len3 := writeS_len (S := S2) (i := st) (w := m + 1)
            generalize (writeS S2 st (m + 1)).1 = S3 at q' hc3 len3
            exact ⟨S3, hc3, kp1.trans (kp2.trans kp3), by omega, fun H' h' k' => q' H' h' (kp1.trans (kp2.trans (kp3.trans k')))⟩
        · rintro σ H1 ⟨S3, x3, x4, hc3, kp3, hp3, q3, rfl⟩
          exact last _ _ S3 H1 (JrnAt.keep ⟨dj, hjo⟩ kp3 nk) hc3 hp3 q3


/-! ### the draws of a script -/
def sp_law_draws {K : PySem.W.Frag} {mg : Str → Option Value} (_ : Txt K mg) : Sp := fun vs H Q _ => ∃ (a : Addr) (ns : List Int) (m : Nat), vs = [.ref a, .int 0, .int m] ∧ SqL K H a (ns.map V.int) ∧ ns.length ≤ 63 ∧
  ∀ (p : Addr) (H' : Hp) (ms : List Int), NewL H H' p (ms.map V.int) → ms.length ≤ m → Q (.ref p) H'
theorem ok_law_draws (T : Txt K mg) : FnOk P w K mg base CX0 1 T.f_law_draws T.d_law_draws ["_law_script", "_law_start", "_law_most"] (sp_law_draws T) := by
  refine T.k_law_draws.ok sc_law_draws (fun vs H Q E h => ?_) (fun cdv A outer s H vs Q E hr h => ?_)
  · obtain ⟨a, ns, m, rfl, _⟩ := h
    rfl
  · obtain ⟨a, ns, m, rfl, hS, hl, q⟩ := h
    refine ⟨_, (pss_cons (ps_set (i := 3) sc_law_draws.nd rfl (.inl rfl) (pe_lst pa_nil))
      (pss_cons (ps_for PassesOwn.never rfl (pi_list (pe_slice (sl_listK K) (pv 0) (po_some (pv 1)) po_none)) (pg_name (i := 4) sc_law_draws.nd rfl (Or.inl rfl)) (pss_cons (ps_set (i := 5) sc_law_draws.nd rfl (.inl rfl) (pe_callB call_abs (by rfl) T.m_abs (by decide +kernel) (pa_cons (pe_callTy call_intI (by rfl) T.m_int (by decide +kernel) (pa_cons (pv 4) pa_nil)) pa_nil)))
      (pss_one (ps_if (pt_cmpR op_lt (pv 5) (pe_op op_pow pe_int pe_int) (nomark _)) (pss_cons (ps_set (i := 6) sc_law_draws.nd rfl (.inl rfl) (pe_op op_modP (pe_callTy call_intI (by rfl) T.m_int (by decide +kernel) (pa_cons (pe_op op_add (pe_op op_mul (pv 5) pe_int) pe_int) pa_nil)) pe_int))
      (pss_cons (ps_expr (pe_bmK K PySem.F.plainAttrs_list PySem.F.slot_list_append PySem.F.type_list_append mt_append (pv 3) (pa_cons (pe_op op_add (pe_op op_mul (pv 6) pe_int) (pe_op op_modP (pe_callTy call_intI (by rfl) T.m_int (by decide +kernel) (pa_cons (pe_op op_add (pe_op op_mul (pv 6) pe_int) (pv 5)) pa_nil)) pe_int)) pa_nil)))
      (pss_one (ps_expr (pe_bmK K PySem.F.plainAttrs_list PySem.F.slot_list_append PySem.F.type_list_append mt_append (pv 3) (pa_cons (pe_op op_add (pe_op op_mul (pe_op op_modP (pe_callTy call_intI (by rfl) T.m_int (by decide +kernel) (pa_cons (pe_op op_add (pe_op op_add (pe_op op_mul (pv 6) pe_int) (pe_op op_fdivW (pv 5) pe_int)) pe_int) pa_nil)) pe_int) pe_int) (pe_op op_modP (pv 5) pe_int)) pa_nil)))))) (pss_one (ps_for PassesOwn.never rfl (pi_range1 (by rfl) T.m_range (pa_cons pe_int pa_nil)) (pg_name (i := 7) sc_law_draws.nd rfl (Or.inl rfl)) (C8.pss_cut (ps_if (pt_cmpR op_gt (pv 5) pe_int (nomark _)) (pss_one (ps_expr (pe_bmK K PySem.F.plainAttrs_list PySem.F.slot_list_append PySem.F.type_list_append mt_append (pv 3) (pa_cons (pe_op op_modP (pe_callTy call_intI (by rfl) T.m_int (by decide +kernel) (pa_cons (pv 5) pa_nil)) (pe_op op_pow pe_int pe_int)) pa_nil)))) pss_nil)
      (pss_one (ps_set (i := 5) sc_law_draws.nd rfl (.inl rfl) (pe_op op_fdivW (pv 5) (pe_op op_pow pe_int pe_int)))))))))))
      (pss_one (ps_ret (pe_slice (sl_listK K) (pv 3) po_none (po_some (pv 2))))))), ?_⟩
    walk_at "rd"
    refine rdSeq ?_
    walk_at "rd"
    intro p hp
    refine rdSeq ?_
    walk_at "rd"
    refine i_slL ((same_new hp).seq hS) fun c hc => ?_
    rw [cut_all]
    have npc : p ≠ c := ne_of_none upd_same hc
    walk_at "rd"
    refine ⟨⟨_, sqL_of upd_same⟩, ?_⟩
    refine i_for (walk_listL (l := ns) (r := V.int)) (fun i σ H' => (∃ ms : List Int, NewL H H' p (ms.map V.int) ∧ ms.length ≤ 12 * i) ∧ H' c = some (.lst (ns.map V.int)) ∧ ∃ y1 y2 y3 y4, σ = [some (.ref a), some (.int 0), some (.int (m : Int)), some (.ref p), y1, y2, y3, y4])
      ⟨⟨[], ⟨hp, (same_new hp).trans (same_new hc), by rw [upd_ne npc]; exact upd_same⟩, Nat.zero_le _⟩, upd_same, _, _, _, _, rfl⟩ (fun i σ H' _ h => sqL_of h.2.1) ?_ ?_
    · rintro i _ σ H1 _ hi ⟨⟨ms, n, hm⟩, hC, y1, y2, y3, y4, rfl⟩ ⟨rfl, x, hx, rfl⟩
      refine rdSeq ?_
      walk_at "rd"
      generalize (if x < 0 then -x else x) = y
      refine ⟨pow18, ite2 (fun _ => rdSeq ?_) (fun _ => ?_)⟩
      · walk_at "rd"
        refine ⟨cm_r (by decide), ?_⟩
        generalize (y * 48611 + 43) % 2147483647 = z
        refine rdSeq ?_
        walk_at "rd"
        refine ⟨ty_app n.sq, cm_r (by decide), cm_r (by decide), i_app n.at_ (by rw [List.length_map]; exact line5' (by omega)) ?_⟩
        have n2 := n.set (ys := List.map V.int ms ++ [V.int (z * 2147483629 + (z * 16807 + y) % 2147483629)])
        refine ⟨ty_app n2.sq, cm_r (by decide), ⟨by decide, by decide⟩, cm_r (by decide), i_app n2.at_ (by rw [List.length_append, List.length_map]; exact line5' (by show _ + 1 ≤ _; omega)) ?_⟩
        have n3 := n2.set (ys := List.map V.int ms ++ [V.int (z * 2147483629 + (z * 16807 + y) % 2147483629)] ++ [V.int ((z * 69621 + y / 9 + 3) % 2147483399 * 7919 + y % 7919)])
        refine ⟨⟨ms ++ [z * 2147483629 + (z * 16807 + y) % 2147483629] ++ [(z * 69621 + y / 9 + 3) % 2147483399 * 7919 + y % 7919], by rw [List.map_append, List.map_append]; exact n3, by simp; omega⟩, ?_⟩
        rw [upd_ne (Ne.symm npc), upd_ne (Ne.symm npc)]; exact hC
      · walk_at "rd"
        refine ⟨by decide, by decide, i_for walk_range (fun j σ H' => (∃ ms : List Int, NewL H H' p (ms.map V.int) ∧ ms.length ≤ 12 * i + j) ∧ H' c = some (.lst (ns.map V.int)) ∧ ∃ (u : Int) (y3 y4 : Option V), σ = [some (.ref a), some (.int 0), some (.int (m : Int)), some (.ref p), some (.int x), some (.int u), y3, y4])
          ⟨⟨ms, n, by omega⟩, hC, y, _, _, rfl⟩ (fun _ _ _ _ _ => trivial) ?_ ?_⟩
        · rintro j _ σ H2 _ hj ⟨⟨ms, n, hm⟩, hC, u, y3, y4, rfl⟩ ⟨rfl, rfl⟩
          have hj : j < 12 := hj
          have hi : i < ns.length := hi
          refine rdCut (fun σ H' => (∃ ms : List Int, NewL H H' p (ms.map V.int) ∧ ms.length ≤ 12 * i + (j + 1)) ∧ H' c = some (.lst (ns.map V.int)) ∧ ∃ (y3 y4 : Option V), σ = [some (.ref a), some (.int 0), some (.int (m : Int)), some (.ref p), some (.int x), some (.int u), y3, y4]) ?_ ?_
          · walk_at "rd"
            refine ite2 (fun _ => ⟨ty_app n.sq, pow14, by decide, i_app n.at_ (by rw [List.length_map]; exact line5' (by omega)) ?_⟩) (fun _ => ⟨⟨ms, n, by omega⟩, hC⟩)
            refine ⟨⟨ms ++ [u % 10 ^ Int.toNat 14], by rw [List.map_append]; exact n.set, by simp; omega⟩, ?_⟩
            rw [upd_ne (Ne.symm npc)]; exact hC
          · rintro σ H3 ⟨⟨ms, n, hm⟩, hC, y3, y4, rfl⟩
            walk_at "rd"
            exact ⟨pow14, ⟨by decide, by decide⟩, ⟨ms, n, hm⟩, hC⟩
        · rintro σ H2 ⟨⟨ms, n, hm⟩, hC, u, y3, y4, rfl⟩
          exact ⟨⟨ms, n, by have : Int.toNat 12 = 12 := rfl; omega⟩, hC, _, _, _, _, rfl⟩
    · rintro σ H1 ⟨⟨ms, n, hm⟩, hC, y1, y2, y3, y4, rfl⟩
      walk_at "rd"
      refine i_slL n.sq fun d hd => ?_
      rw [cut_take, ← List.map_take]
      refine q _ _ _ ⟨n.same.free hd, n.same.trans (same_new hd), upd_same⟩ (List.length_take_le _ _)

/-! ### heap.py: what stands where -/
theorem i_gTup3 {K : PySem.W.Frag} {n i j k : Nat} {a : Addr} {x y z : V} {σ : L2.St} {H : Hp} {Q : L2.St → Hp → Prop} (hn : n = 3) (h : SqT K H a [x, y, z]) (q : Q (((σ.set i (some x)).set j (some y)).set k (some z)) H) : gTup K n (gCons (gName i) (gCons (gName j) (gCons (gName k) gNil))) (.ref a) σ H Q :=
  ⟨a, [x, y, z], rfl, h, hn.symm, x, [y, z], rfl, y, [z], rfl, z, [], rfl, rfl, q⟩
theorem i_lcF {α : Type} {J : It} {l : List α} {r : α → V} {G : Hp → Prop} (w : Walk J l.length G (YL l r)) {j : Nat} {tt : TT} {te : TE} {σ : L2.St} {H : Hp} {Q : VK} (p : α → Bool) (g : α → V) (hn : l.length < sizeLine) (hG : ∀ D ys, H D = none → G (upd H D (.lst ys)))
    (ht : ∀ c ∈ l, ∀ H1 (Q' : Bool → Hp → Prop), Same H H1 → Q' (p c) H1 → tt ((wipe σ [j]).set j (some (r c))) H1 Q')
    (hs : ∀ c ∈ l, p c = true → ∀ H1 (Q' : VK), Same H H1 → Q' (g c) H1 → te ((wipe σ [j]).set j (some (r c))) H1 Q') (q : ∀ D, H D = none → Q (.ref D) (upd H D (.lst ((l.filter p).map g)))) : rLcJ J (gName j) tt te [j] σ H Q := by
  intro D hD
  refine lc_it w (fun i H' => H' = upd H D (.lst (((l.take i).filter p).map g))) rfl (fun i H' _ e => by subst e; exact hG D _ hD) (fun i x H1 H2 hi e y => ?_) (fun H' e => by subst e; rw [List.take_length]; exact q D hD)
  obtain ⟨e2, c, hc, rfl⟩ := y
  subst e2
  have hm := List.mem_of_getElem? hc
  have sm : Same H H2 := by subst e; intro b o h; rw [upd_ne (ne_of_none h hD)]; exact h
  refine ⟨wipe_one, ht c hm H2 _ sm ?_⟩
  cases hp : p c with
  | true =>
    refine i_then rfl (hs c hm hp H2 (fun y H4 => ∃ acc, H4 D = some (.lst acc) ∧ acc.length < sizeLine ∧ upd H4 D (.lst (acc ++ [y])) = upd H D (.lst (((l.take (i + 1)).filter p).map g))) sm ?_)
    subst e
    refine ⟨_, upd_same, by rw [List.length_map]; exact Nat.lt_of_le_of_lt (Nat.le_trans (List.length_filter_le _ _) (by rw [List.length_take]; omega)) hn, ?_⟩
    rw [upd_upd, List.take_add_one, hc, List.filter_append, List.map_append]
    show _ = upd H D (.lst (_ ++ List.map g (List.filter p [c])))
    rw [List.filter_cons_of_pos hp]; rfl
  | false =>
    refine i_else (by simp) ?_
    show H2 = upd H D (.lst (((l.take (i + 1)).filter p).map g))
    subst e
    rw [List.take_add_one, hc, List.filter_append, List.map_append]
    show _ = upd H D (.lst (_ ++ List.map g (List.filter p [c])))
    rw [List.filter_cons_of_neg (by rw [hp]; simp), List.filter_nil, List.map_nil, List.append_nil]
structure Ob where
  kind : Int
  owner : Int
  vals : List Int
structure HA where
  h : Addr
  c : Addr
  l : Addr
  j : Addr
  dt : Addr
def hfs (A : HA) : List (Str × V) := [("_cells", .ref A.c), ("_journal", .ref A.j), ("_start", .int 81), ("_temps", .ref A.dt)]
abbrev Tm := List (Nat × Addr × List Int)
def tmK (tm : Tm) : List (Key × V) := tm.map fun e => (.inl (e.1 : Int), .ref e.2.1)
structure TmOk (H : Hp) (l : Addr) (tm : Tm) : Prop where
  tl : ∀ e ∈ tm, H e.2.1 = some (.lst (e.2.2.map V.int))
  nl : ∀ e ∈ tm, e.2.1 ≠ l
  nd : (tm.map (·.2.1)).Nodup
  nk : (tm.map (·.1)).Nodup
  kr : ∀ e ∈ tm, e.1 ≤ 61
  bf : ∃ a vs, (61, a, vs) ∈ tm ∧ vs.length = 64
structure HeapAt (T : Txt K mg) (H : Hp) (A : HA) (S : CS) (b : Bool) (tm : Tm) : Prop where
  ob : ∃ dx, H A.h = some (.ins T.c_Heap dx (hfs A))
  cs : CellsAt T.c_Cells H A.c A.l S
  jr : JrnAt T.c_Journal H A.j A.c 0 b
  sz : S.words.length = 1002
  td : H A.dt = some (.dK (tmK tm))
  tk : TmOk H A.l tm
def own (A : HA) (tm : Tm) : List Addr := A.c :: A.l :: A.dt :: tm.map (·.2.1)
/-- all is kept but what is owned; what is newly owned was free -/
structure Mvs (H : Hp) (X : List Addr) (H' : Hp) (X' : List Addr) : Prop where
  kp : Kp X H H'
  nw : ∀ x ∈ X', x ∈ X ∨ H x = none
theorem Mvs.refl {H : Hp} {X : List Addr} : Mvs H X H X := ⟨Kp.refl _ _, fun _ h => .inl h⟩
theorem Mvs.trans {H H1 H2 : Hp} {X X1 X2 : List Addr} (a : Mvs H X H1 X1) (b : Mvs H1 X1 H2 X2) : Mvs H X H2 X2 := by
  refine ⟨fun x o n e => ?_, fun x hx => ?_⟩
  · refine b.kp x o (fun h => ?_) (a.kp x o n e)
    rcases a.nw x h with h | h
    · exact n h
    · rw [h] at e; cases e
  · rcases b.nw x hx with h | h
    · exact a.nw x h
    · by_cases hX : x ∈ X
      · exact .inl hX
      · cases e : H x with
        | none => exact .inr rfl
        | some o =>
          have := a.kp x o hX e
          rw [h] at this; cases this
theorem Mvs.same {H H1 : Hp} {X : List Addr} (s : Same H H1) : Mvs H X H1 X := ⟨Kp.of s, fun _ h => .inl h⟩
theorem Mvs.at_ {H H1 : Hp} {X X1 : List Addr} {a : Addr} {o : HO} (m : Mvs H X H1 X1) (h : H a = some o) (n : a ∉ X) : H1 a = some o ∧ a ∉ X1 :=
  ⟨m.kp a o n h, fun k => by
    rcases m.nw a k with q | q
    · exact n q
    · rw [h] at q; cases q⟩
def tb (f : Nat) : Nat := 82 + f * 460
def rm (f : Nat) : Nat := 142 + f * 460
/-- an object stands at p of the room -/
structure RepO (W : List Int) (f p n : Nat) (o : Ob) : Prop where
  tab : W.getD (tb f + n - 1) 0 = p + 1
  kd : W.getD (rm f + p) 0 = o.kind
  ow : W.getD (rm f + p + 1) 0 = o.owner
  sz : W.getD (rm f + p + 2) 0 = o.vals.length
  vs : o.kind ≠ -2 → ∀ i, i < o.vals.length → W.getD (rm f + p + 3 + i) 0 = o.vals.getD i 0
def tval (tm : Tm) (n : Nat) : Option (List Int) := (tm.find? fun e => decide (e.1 = n)).map (·.2.2)
def usd (M : List (Nat × Ob)) : Nat := ((M.filter fun e => decide (e.1 < 61)).map fun e => 3 + e.2.vals.length).sum
def cnt (M : List (Nat × Ob)) : Nat := (M.filter fun e => decide (e.1 < 61)).length
structure Rep (W : List Int) (f : Nat) (pos : Nat → Nat) (M : List (Nat × Ob)) (tm : Tm) : Prop where
  f2 : f < 2
  half : W.getD 81 0 = f
  nk : (M.map (·.1)).Nodup
  rng : ∀ n o, (n, o) ∈ M → 1 ≤ n ∧ n ≤ 61
  buf : ∃ vs, (61, ⟨-2, 0, vs⟩) ∈ M ∧ vs.length = 64
  non : ∀ n, 1 ≤ n → n ≤ 60 → (∀ o, (n, o) ∉ M) → W.getD (tb f + n - 1) 0 = 0
  ob : ∀ n o, (n, o) ∈ M → n ≤ 60 → RepO W f (pos n) n o
  tmp : ∀ n o, (n, o) ∈ M → o.kind = -2 → (tval tm n).getD (List.replicate o.vals.length 0) = o.vals
  us : ∀ n o, (n, o) ∈ M → n ≤ 60 → pos n + 3 + o.vals.length ≤ usd M
  dj : ∀ n o m u, (n, o) ∈ M → (m, u) ∈ M → n ≤ 60 → m ≤ 60 → n ≠ m → pos n + 3 + o.vals.length ≤ pos m ∨ pos m + 3 + u.vals.length ≤ pos n
  le : usd M ≤ 400
theorem mem_uniq {M : List (Nat × Ob)} (nk : (M.map (·.1)).Nodup) : ∀ {n : Nat} {o u : Ob}, (n, o) ∈ M → (n, u) ∈ M → o = u := by
  induction M with
  | nil => intro n o u h; exact nomatch h
  | cons e t ih =>
    intro n o u h1 h2
    rw [List.map_cons, List.nodup_cons] at nk
    have nin : ∀ v, e.1 = n → (n, v) ∉ t := fun v e1 hv => nk.1 (by rw [e1]; exact List.mem_map_of_mem (f := (·.1)) hv)
    rcases List.mem_cons.mp h1 with a | a <;> rcases List.mem_cons.mp h2 with b | b
    · rw [← a] at b; exact (Prod.mk.inj b).2.symm
    · exact absurd b (nin u (by rw [← a]))
    · exact absurd a (nin o (by rw [← b]))
    · exact ih nk.2 a b
theorem Rep.buf_o {W : List Int} {f : Nat} {pos : Nat → Nat} {M : List (Nat × Ob)} {tm : Tm} (R : Rep W f pos M tm) {o : Ob} (h : (61, o) ∈ M) : o.kind = -2 ∧ o.owner = 0 ∧ o.vals.length = 64 := by
  obtain ⟨vs, hv, hl⟩ := R.buf
  obtain rfl := mem_uniq R.nk h hv
  exact ⟨rfl, rfl, hl⟩
theorem Rep.p_le {W : List Int} {f : Nat} {pos : Nat → Nat} {M : List (Nat × Ob)} {tm : Tm} (R : Rep W f pos M tm) {n : Nat} {o : Ob} (h : (n, o) ∈ M) (hn : n ≤ 60) : pos n + 3 + o.vals.length ≤ 400 := Nat.le_trans (R.us n o h hn) R.le
theorem HeapAt.rd {T : Txt K mg} {H : Hp} {A : HA} {S : CS} {b : Bool} {tm : Tm} {Q : VK} {E : XK} (h : HeapAt T H A S b tm) (on : S.on = true) {i : Nat} {v : V} (ev : v = .int (i : Nat)) (hi : i < 1002) (q : Q (.int (S.words.getD i 0)) H) : sp_Cells_read T [.ref A.c, v] H Q E :=
  ⟨A.c, A.l, S, i, by rw [ev], h.cs, by rw [h.sz]; exact hi, fun _ => q, fun e => by rw [on] at e; cases e⟩
theorem HeapAt.same {T : Txt K mg} {H H' : Hp} {A : HA} {S : CS} {b : Bool} {tm : Tm} (h : HeapAt T H A S b tm) (s : Same H H') : HeapAt T H' A S b tm := by
  obtain ⟨dx, ho⟩ := h.ob
  exact ⟨⟨dx, s _ _ ho⟩, h.cs.keep (Kp.of s (X := [])) (by simp) (by simp), h.jr.keep (Kp.of s (X := [])) (by simp), h.sz, s _ _ h.td, ⟨fun e he => s _ _ (h.tk.tl e he), h.tk.nl, h.tk.nd, h.tk.nk, h.tk.kr, h.tk.bf⟩⟩
def sp_Heap__half {K : PySem.W.Frag} {mg : Str → Option Value} (T : Txt K mg) : Sp := fun vs H Q _ => ∃ (A : HA) (S : CS) (b : Bool) (tm : Tm), vs = [.ref A.h] ∧ HeapAt T H A S b tm ∧ S.on = true ∧ Q (.int (S.words.getD 81 0)) H
theorem ok_Heap__half (T : Txt K mg) : FnOk P w K mg base CX0 2 T.f_Heap__half T.d_Heap__half ["self"] (sp_Heap__half T) := by
  refine T.k_Heap__half.ok sc_Heap__half (fun vs H Q E h => ?_) (fun cdv A outer s H vs Q E hr h => ?_)
  · obtain ⟨A, S, b, tm, rfl, _⟩ := h
    rfl
  · obtain ⟨A, S, b, tm, rfl, h, on, q⟩ := h
    refine ⟨_, (pss_one (ps_ret (pe_meth (pe_fldK K (pv 0) rfl) T.cl_Cells T.me_Cells_read (ok_Cells_read T) (hr.mono (by decide)) T.b_Cells_read .nil passL (pa_cons (pe_fldK K (pv 0) rfl) pa_nil)))), ?_⟩
    obtain ⟨dx, ho⟩ := h.ob
    obtain ⟨dc, hc⟩ := h.cs.ob
    walk_at "rd"
    exact i_fld T.cl_Heap T.nf_Heap_cells ho rfl (i_meth hc rfl (i_fld T.cl_Heap T.nf_Heap_start ho rfl (h.rd on rfl (by decide) q)))
def sp_Heap__table {K : PySem.W.Frag} {mg : Str → Option Value} (T : Txt K mg) : Sp := fun vs H Q _ => ∃ (A : HA) (S : CS) (b : Bool) (tm : Tm) (f : Nat), vs = [.ref A.h, .int f] ∧ HeapAt T H A S b tm ∧ Q (.int (tb f : Nat)) H
theorem ok_Heap__table (T : Txt K mg) : FnOk P w K mg base CX0 1 T.f_Heap__table T.d_Heap__table ["self", "half"] (sp_Heap__table T) := by
  refine T.k_Heap__table.ok sc_Heap__table (fun vs H Q E h => ?_) (fun cdv A outer s H vs Q E hr h => ?_)
  · obtain ⟨A, S, b, tm, f, rfl, _⟩ := h
    rfl
  · obtain ⟨A, S, b, tm, f, rfl, h, q⟩ := h
    refine ⟨_, (pss_one (ps_ret (pe_op op_add (pe_op op_add (pe_fldK K (pv 0) rfl) pe_int) (pe_op op_mul (pv 1) (pe_glob (v := .int _) rfl T.g_HALF_CELLS ⟨_, rfl⟩))))), ?_⟩
    obtain ⟨dx, ho⟩ := h.ob
    walk_at "rd"
    refine i_fld T.cl_Heap T.nf_Heap_start ho rfl ?_
    walk_at "rd"
    refine ⟨cm_r (by decide), ?_⟩
    rw [show (81 : Int) + 1 + (f : Int) * 460 = ((tb f : Nat) : Int) by unfold tb; omega]
    exact q
def sp_Heap__room {K : PySem.W.Frag} {mg : Str → Option Value} (T : Txt K mg) : Sp := fun vs H Q _ => ∃ (A : HA) (S : CS) (b : Bool) (tm : Tm) (f : Nat), vs = [.ref A.h, .int f] ∧ HeapAt T H A S b tm ∧ Q (.int (rm f : Nat)) H
theorem ok_Heap__room (T : Txt K mg) : FnOk P w K mg base CX0 2 T.f_Heap__room T.d_Heap__room ["self", "half"] (sp_Heap__room T) := by
  refine T.k_Heap__room.ok sc_Heap__room (fun vs H Q E h => ?_) (fun cdv A outer s H vs Q E hr h => ?_)
  · obtain ⟨A, S, b, tm, f, rfl, _⟩ := h
    rfl
  · obtain ⟨A, S, b, tm, f, rfl, h, q⟩ := h
    refine ⟨_, (pss_one (ps_ret (pe_op op_add (pe_meth (pv 0) T.cl_Heap T.me_Heap__table (ok_Heap__table T) (hr.mono (by decide)) T.b_Heap__table .nil pass0 (pa_cons (pv 1) pa_nil)) (pe_glob (v := .int _) rfl T.g_MOST_OBJECTS ⟨_, rfl⟩)))), ?_⟩
    obtain ⟨dx, ho⟩ := h.ob
    walk_at "rd"
    refine i_meth ho rfl ⟨A, S, b, tm, f, rfl, h, ?_⟩
    walk_at "rd"
    rw [show ((tb f : Nat) : Int) + 60 = ((rm f : Nat) : Int) by unfold tb rm; omega]
    exact q
/-- the heap object with what it stands for -/
structure Hold (T : Txt K mg) (H : Hp) (A : HA) (S : CS) (b : Bool) (tm : Tm) (f : Nat) (pos : Nat → Nat) (M : List (Nat × Ob)) : Prop where
  at_ : HeapAt T H A S b tm
  rep : Rep S.words f pos M tm
  on : S.on = true
theorem Hold.same {T : Txt K mg} {H H' : Hp} {A : HA} {S : CS} {b : Bool} {tm : Tm} {f : Nat} {pos : Nat → Nat} {M : List (Nat × Ob)} (h : Hold T H A S b tm f pos M) (s : Same H H') : Hold T H' A S b tm f pos M := ⟨h.at_.same s, h.rep, h.on⟩
theorem Hold.half {T : Txt K mg} {H : Hp} {A : HA} {S : CS} {b : Bool} {tm : Tm} {f : Nat} {pos : Nat → Nat} {M : List (Nat × Ob)} {Q : VK} {E : XK} (h : Hold T H A S b tm f pos M) (q : Q (.int (f : Nat)) H) : sp_Heap__half T [.ref A.h] H Q E :=
  ⟨A, S, b, tm, rfl, h.at_, h.on, by rw [h.rep.half]; exact q⟩
def sp_Heap__place {K : PySem.W.Frag} {mg : Str → Option Value} (T : Txt K mg) : Sp := fun vs H Q _ => ∃ (A : HA) (S : CS) (b : Bool) (tm : Tm) (f : Nat) (pos : Nat → Nat) (M : List (Nat × Ob)) (n : Nat) (o : Ob), vs = [.ref A.h, .int n] ∧ Hold T H A S b tm f pos M ∧ (n, o) ∈ M ∧ n ≤ 60 ∧ Q (.int (rm f + pos n : Nat)) H
theorem ok_Heap__place (T : Txt K mg) : FnOk P w K mg base CX0 3 T.f_Heap__place T.d_Heap__place ["self", "number"] (sp_Heap__place T) := by
  refine T.k_Heap__place.ok sc_Heap__place (fun vs H Q E h => ?_) (fun cdv A outer s H vs Q E hr h => ?_)
  · obtain ⟨A, S, b, tm, f, pos, M, n, o, rfl, _⟩ := h
    rfl
  · obtain ⟨A, S, b, tm, f, pos, M, n, o, rfl, h, hm, hn, q⟩ := h
    refine ⟨_, (pss_cons (ps_set (i := 2) sc_Heap__place.nd rfl (.inl rfl) (pe_meth0 (pv 0) T.cl_Heap T.me_Heap__half (ok_Heap__half T) (hr.mono (by decide)) T.b_Heap__half .nil pass0))
      (pss_one (ps_ret (pe_op op_sub (pe_op op_add (pe_meth (pv 0) T.cl_Heap T.me_Heap__room (ok_Heap__room T) (hr.mono (by decide)) T.b_Heap__room .nil pass0 (pa_cons (pv 2) pa_nil)) (pe_meth (pe_fldK K (pv 0) rfl) T.cl_Cells T.me_Cells_read (ok_Cells_read T) (hr.mono (by decide)) T.b_Cells_read .nil passL (pa_cons (pe_op op_sub (pe_op op_add (pe_meth (pv 0) T.cl_Heap T.me_Heap__table (ok_Heap__table T) (hr.mono (by decide)) T.b_Heap__table .nil pass0 (pa_cons (pv 2) pa_nil)) (pv 1)) pe_int) pa_nil))) pe_int)))), ?_⟩
    obtain ⟨dx, ho⟩ := h.at_.ob
    obtain ⟨dc, hc⟩ := h.at_.cs.ob
    walk_at "rd"
    refine rdSeq ?_
    walk_at "rd"
    refine i_meth ho rfl (h.half ?_)
    refine i_meth ho rfl ⟨A, S, b, tm, f, rfl, h.at_, i_fld T.cl_Heap T.nf_Heap_cells ho rfl (i_meth hc rfl (i_meth ho rfl ⟨A, S, b, tm, f, rfl, h.at_, ?_⟩))⟩
    walk_at "rd"
    have h1 := (h.rep.rng n o hm).1
    have hf := h.rep.f2
    refine h.at_.rd h.on (i := tb f + n - 1) (by rw [show ((tb f + n - 1 : Nat) : Int) = ((tb f : Nat) : Int) + n - 1 by unfold tb; omega]) (by unfold tb; omega) ?_
    rw [(h.rep.ob n o hm hn).tab]
    refine ⟨_, rfl, ?_⟩
    rw [show ((rm f : Nat) : Int) + ((pos n : Nat) + 1) - 1 = ((rm f + pos n : Nat) : Int) by omega]
    exact q
def HoldX (T : Txt K mg) (H : Hp) (A : HA) (M : List (Nat × Ob)) : Prop := ∃ S b tm f pos, Hold T H A S b tm f pos M
def sp_Heap_kind {K : PySem.W.Frag} {mg : Str → Option Value} (T : Txt K mg) : Sp := fun vs H Q _ => ∃ (A : HA) (M : List (Nat × Ob)) (n : Nat) (o : Ob), vs = [.ref A.h, .int n] ∧ HoldX T H A M ∧ (n, o) ∈ M ∧ Q (.int o.kind) H
theorem ok_Heap_kind (T : Txt K mg) : FnOk P w K mg base CX0 4 T.f_Heap_kind T.d_Heap_kind ["self", "number"] (sp_Heap_kind T) := by
  refine T.k_Heap_kind.ok sc_Heap_kind (fun vs H Q E h => ?_) (fun cdv A outer s H vs Q E hr h => ?_)
  · obtain ⟨A, M, n, o, rfl, _⟩ := h
    rfl
  · obtain ⟨A, M, n, o, rfl, ⟨S, b, tm, f, pos, h⟩, hm, q⟩ := h
    refine ⟨_, (pss_cons (ps_if (pt_cmpR op_eq (pv 1) (pe_glob (v := .int _) rfl T.g_BUFFER ⟨_, rfl⟩) (nomark _)) (pss_one (ps_ret (pe_glob (v := .int _) rfl T.g_TEMP ⟨_, rfl⟩))) pss_nil)
      (pss_one (ps_ret (pe_meth (pe_fldK K (pv 0) rfl) T.cl_Cells T.me_Cells_read (ok_Cells_read T) (hr.mono (by decide)) T.b_Cells_read .nil passL (pa_cons (pe_meth (pv 0) T.cl_Heap T.me_Heap__place (ok_Heap__place T) (hr.mono (by decide)) T.b_Heap__place .nil pass0 (pa_cons (pv 1) pa_nil)) pa_nil))))), ?_⟩
    obtain ⟨dx, ho⟩ := h.at_.ob
    obtain ⟨dc, hc⟩ := h.at_.cs.ob
    walk_at "rd"
    refine rdSeq ?_
    walk_at "rd"
    refine ite2 (fun e => ?_) (fun e => ?_)
    · obtain rfl : n = 61 := by omega
      walk_at "rd"
      rw [(h.rep.buf_o hm).1] at q
      exact q
    · have hr := h.rep.rng n o hm
      have hn : n ≤ 60 := by omega
      walk_at "rd"
      refine i_fld T.cl_Heap T.nf_Heap_cells ho rfl (i_meth hc rfl (i_meth ho rfl ⟨A, S, b, tm, f, pos, M, n, o, rfl, h, hm, hn, ?_⟩))
      have hp := h.rep.p_le hm hn
      have hf := h.rep.f2
      refine h.at_.rd h.on rfl (by unfold rm; omega) ?_
      rw [(h.rep.ob n o hm hn).kd]
      exact q
def sp_Heap_owner {K : PySem.W.Frag} {mg : Str → Option Value} (T : Txt K mg) : Sp := fun vs H Q _ => ∃ (A : HA) (M : List (Nat × Ob)) (n : Nat) (o : Ob), vs = [.ref A.h, .int n] ∧ HoldX T H A M ∧ (n, o) ∈ M ∧ Q (.int o.owner) H
theorem ok_Heap_owner (T : Txt K mg) : FnOk P w K mg base CX0 4 T.f_Heap_owner T.d_Heap_owner ["self", "number"] (sp_Heap_owner T) := by
  refine T.k_Heap_owner.ok sc_Heap_owner (fun vs H Q E h => ?_) (fun cdv A outer s H vs Q E hr h => ?_)
  · obtain ⟨A, M, n, o, rfl, _⟩ := h
    rfl
  · obtain ⟨A, M, n, o, rfl, ⟨S, b, tm, f, pos, h⟩, hm, q⟩ := h
    refine ⟨_, (pss_cons (ps_if (pt_cmpR op_eq (pv 1) (pe_glob (v := .int _) rfl T.g_BUFFER ⟨_, rfl⟩) (nomark _)) (pss_one (ps_ret pe_int)) pss_nil)
      (pss_one (ps_ret (pe_meth (pe_fldK K (pv 0) rfl) T.cl_Cells T.me_Cells_read (ok_Cells_read T) (hr.mono (by decide)) T.b_Cells_read .nil passL (pa_cons (pe_op op_add (pe_meth (pv 0) T.cl_Heap T.me_Heap__place (ok_Heap__place T) (hr.mono (by decide)) T.b_Heap__place .nil pass0 (pa_cons (pv 1) pa_nil)) pe_int) pa_nil))))), ?_⟩
    obtain ⟨dx, ho⟩ := h.at_.ob
    obtain ⟨dc, hc⟩ := h.at_.cs.ob
    walk_at "rd"
    refine rdSeq ?_
    walk_at "rd"
    refine ite2 (fun e => ?_) (fun e => ?_)
    · obtain rfl : n = 61 := by omega
      walk_at "rd"
      rw [(h.rep.buf_o hm).2.1] at q
      exact q
    · have hr := h.rep.rng n o hm
      have hn : n ≤ 60 := by omega
      walk_at "rd"
      refine i_fld T.cl_Heap T.nf_Heap_cells ho rfl (i_meth hc rfl (i_meth ho rfl ⟨A, S, b, tm, f, pos, M, n, o, rfl, h, hm, hn, ?_⟩))
      have hp := h.rep.p_le hm hn
      have hf := h.rep.f2
      walk_at "rd"
      refine h.at_.rd h.on (i := rm f + pos n + 1) (by rw [show ((rm f + pos n + 1 : Nat) : Int) = ((rm f + pos n : Nat) : Int) + 1 by omega]) (by unfold rm; omega) ?_
      rw [(h.rep.ob n o hm hn).ow]
      exact q
def sp_Heap_size {K : PySem.W.Frag} {mg : Str → Option Value} (T : Txt K mg) : Sp := fun vs H Q _ => ∃ (A : HA) (M : List (Nat × Ob)) (n : Nat) (o : Ob), vs = [.ref A.h, .int n] ∧ HoldX T H A M ∧ (n, o) ∈ M ∧ Q (.int o.vals.length) H
theorem ok_Heap_size (T : Txt K mg) : FnOk P w K mg base CX0 4 T.f_Heap_size T.d_Heap_size ["self", "number"] (sp_Heap_size T) := by
  refine T.k_Heap_size.ok sc_Heap_size (fun vs H Q E h => ?_) (fun cdv A outer s H vs Q E hr h => ?_)
  · obtain ⟨A, M, n, o, rfl, _⟩ := h
    rfl
  · obtain ⟨A, M, n, o, rfl, ⟨S, b, tm, f, pos, h⟩, hm, q⟩ := h
    refine ⟨_, (pss_cons (ps_if (pt_cmpR op_eq (pv 1) (pe_glob (v := .int _) rfl T.g_BUFFER ⟨_, rfl⟩) (nomark _)) (pss_one (ps_ret (pe_glob (v := .int _) rfl T.g_MOST_BUFFER ⟨_, rfl⟩))) pss_nil)
      (pss_one (ps_ret (pe_meth (pe_fldK K (pv 0) rfl) T.cl_Cells T.me_Cells_read (ok_Cells_read T) (hr.mono (by decide)) T.b_Cells_read .nil passL (pa_cons (pe_op op_add (pe_meth (pv 0) T.cl_Heap T.me_Heap__place (ok_Heap__place T) (hr.mono (by decide)) T.b_Heap__place .nil pass0 (pa_cons (pv 1) pa_nil)) pe_int) pa_nil))))), ?_⟩
    obtain ⟨dx, ho⟩ := h.at_.ob
    obtain ⟨dc, hc⟩ := h.at_.cs.ob
    walk_at "rd"
    refine rdSeq ?_
    walk_at "rd"
    refine ite2 (fun e => ?_) (fun e => ?_)
    · obtain rfl : n = 61 := by omega
      walk_at "rd"
      rw [(h.rep.buf_o hm).2.2] at q
      exact q
    · have hr := h.rep.rng n o hm
      have hn : n ≤ 60 := by omega
      walk_at "rd"
      refine i_fld T.cl_Heap T.nf_Heap_cells ho rfl (i_meth hc rfl (i_meth ho rfl ⟨A, S, b, tm, f, pos, M, n, o, rfl, h, hm, hn, ?_⟩))
      have hp := h.rep.p_le hm hn
      have hf := h.rep.f2
      walk_at "rd"
      refine h.at_.rd h.on (i := rm f + pos n + 2) (by rw [show ((rm f + pos n + 2 : Nat) : Int) = ((rm f + pos n : Nat) : Int) + 2 by omega]) (by unfold rm; omega) ?_
      rw [(h.rep.ob n o hm hn).sz]
      exact q
/-- the numbers, ascending -/
def numL (M : List (Nat × Ob)) : List Nat := ((List.range 60).map (· + 1)).filter fun n => M.any fun e => decide (e.1 = n)
theorem mem_any {M : List (Nat × Ob)} {n : Nat} : (M.any fun e => decide (e.1 = n)) = true ↔ ∃ o, (n, o) ∈ M := by
  rw [List.any_eq_true]
  constructor
  · rintro ⟨⟨m, o⟩, hm, e⟩
    have e : m = n := of_decide_eq_true e
    exact ⟨o, by rw [← e]; exact hm⟩
  · rintro ⟨o, ho⟩
    exact ⟨_, ho, decide_eq_true rfl⟩
def sp_Heap_numbers {K : PySem.W.Frag} {mg : Str → Option Value} (T : Txt K mg) : Sp := fun vs H Q _ => ∃ (A : HA) (M : List (Nat × Ob)), vs = [.ref A.h] ∧ HoldX T H A M ∧ ∀ p, H p = none → Q (.ref p) (upd H p (.lst ((numL M).map fun n => V.int (n : Nat))))
theorem ok_Heap_numbers (T : Txt K mg) : FnOk P w K mg base CX0 3 T.f_Heap_numbers T.d_Heap_numbers ["self"] (sp_Heap_numbers T) := by
  refine T.k_Heap_numbers.ok sc_Heap_numbers (fun vs H Q E h => ?_) (fun cdv A outer s H vs Q E hr h => ?_)
  · obtain ⟨A, M, rfl, _⟩ := h
    rfl
  · obtain ⟨A, M, rfl, ⟨S, b, tm, f, pos, h⟩, q⟩ := h
    refine ⟨_, (pss_cons (ps_set (i := 1) sc_Heap_numbers.nd rfl (.inr rfl) (pe_meth (pv 0) T.cl_Heap T.me_Heap__table (ok_Heap__table T) (hr.mono (by decide)) T.b_Heap__table .nil pass0 (pa_cons (pe_meth0 (pv 0) T.cl_Heap T.me_Heap__half (ok_Heap__half T) (hr.mono (by decide)) T.b_Heap__half .nil pass0) pa_nil)))
      (pss_one (ps_ret (pe_lc (own := [("number", 2)]) (g := gName 2) rfl sc_Heap_numbers.nd (pi_range2 (by rfl) T.m_range (pa_cons pe_int (pa_cons (pe_op op_add (pe_glob (v := .int _) rfl T.g_MOST_OBJECTS ⟨_, rfl⟩) pe_int) pa_nil))) (blkOk_by (own := [("number", 2)]) (N := ["self", "table", "number"]) (sc := defScope s_Heap_numbers) (by decide +kernel)) (fun _ _ _ _ _ => pg_name (i := 2) sc_Heap_numbers.nd rfl (Or.inl rfl)) (fun _ _ _ _ _ => pts_one (pt_cmpR op_ne (pe_meth (pe_fldK K (pv 0) rfl) T.cl_Cells T.me_Cells_read (ok_Cells_read T) (hr.mono (by decide)) T.b_Cells_read .nil passL (pa_cons (pe_op op_sub (pe_op op_add (pv 1) (pv 2)) pe_int) pa_nil)) pe_int (nomark _))) (fun _ _ _ _ _ => (pv 2)))))), ?_⟩
    obtain ⟨dx, ho⟩ := h.at_.ob
    obtain ⟨dc, hc⟩ := h.at_.cs.ob
    walk_at "rd"
    refine rdSeq ?_
    walk_at "rd"
    refine i_meth ho rfl (i_meth ho rfl (h.half ⟨A, S, b, tm, f, rfl, h.at_, ?_⟩))
    refine ⟨by decide, by decide, by decide, by decide, ?_⟩
    have hf := h.rep.f2
    refine i_lcF (walk_rangeL (lo := 1) (n := 60)) (fun i => M.any fun e => decide (e.1 = i + 1)) (fun i => .int ((i + 1 : Nat) : Int)) (by rw [List.length_range]; decide) (fun _ _ _ => trivial) (fun i hi H1 Q' sm q' => ?_) (fun i hi _ H1 Q' sm q' => ?_) (fun D hD => ?_)
    · have hi : i < 60 := List.mem_range.mp hi
      walk_at "rd"
      refine i_fld T.cl_Heap T.nf_Heap_cells (sm _ _ ho) rfl (i_meth (sm _ _ hc) rfl ?_)
      refine (h.at_.same sm).rd h.on (i := tb f + (i + 1) - 1) (by rw [show ((tb f + (i + 1) - 1 : Nat) : Int) = ((tb f : Nat) : Int) + (1 + (i : Int)) - 1 by omega]) (by unfold tb; omega) ?_
      cases e : M.any fun e => decide (e.1 = i + 1) with
      | true =>
        obtain ⟨o, hm⟩ := mem_any.mp e
        rw [(h.rep.ob _ o hm (by omega)).tab]
        rw [e] at q'
        walk_at "rd"
        rw [decide_eq_false (show ¬ ((pos (i + 1) : Nat) : Int) + 1 = 0 by omega)]
        exact q'
      | false =>
        rw [h.rep.non (i + 1) (by omega) (by omega) (fun o hm => by rw [mem_any.mpr ⟨o, hm⟩] at e; cases e)]
        rw [e] at q'
        walk_at "rd"
        exact q'
    · walk_at "rd"
      rw [show ((i + 1 : Nat) : Int) = 1 + (i : Int) by omega] at q'
      exact q'
    · have q2 := q D hD
      unfold numL at q2
      rw [List.filter_map, List.map_map] at q2
      exact q2

theorem nodup_perm : ∀ {l1 l2 : List Nat}, l1.Nodup → l2.Nodup → (∀ a, a ∈ l1 ↔ a ∈ l2) → l1.Perm l2
  | [], l2, _, _, h => by
    cases l2 with
    | nil => exact List.Perm.refl _
    | cons b t => exact nomatch (h b).mpr List.mem_cons_self
  | a :: t, l2, h1, h2, h => by
    rw [List.nodup_cons] at h1
    have ha : a ∈ l2 := (h a).mp List.mem_cons_self
    refine List.Perm.trans (List.Perm.cons a (nodup_perm h1.2 (h2.erase a) fun b => ?_)) (List.perm_cons_erase ha).symm
    rw [h2.mem_erase_iff]
    constructor
    · intro hb
      exact ⟨fun e => h1.1 (by rw [← e]; exact hb), (h b).mp (List.mem_cons_of_mem _ hb)⟩
    · rintro ⟨n, hb⟩
      rcases List.mem_cons.mp ((h b).mpr hb) with e | e
      · exact absurd e n
      · exact e
def keys60 (M : List (Nat × Ob)) : List Nat := (M.filter fun e => decide (e.1 < 61)).map (·.1)
theorem range_nodup60 : (((List.range 60).map (· + 1))).Nodup := by decide +kernel
theorem mem_numL {M : List (Nat × Ob)} {n : Nat} : n ∈ numL M ↔ (1 ≤ n ∧ n ≤ 60) ∧ ∃ o, (n, o) ∈ M := by
  unfold numL
  rw [List.mem_filter, mem_any, List.mem_map]
  constructor
  · rintro ⟨⟨i, hi, rfl⟩, h⟩
    have := List.mem_range.mp hi
    exact ⟨⟨by omega, by omega⟩, h⟩
  · rintro ⟨⟨h1, h2⟩, h⟩
    exact ⟨⟨n - 1, List.mem_range.mpr (by omega), by omega⟩, h⟩
theorem numL_perm {M : List (Nat × Ob)} (nk : (M.map (·.1)).Nodup) (rng : ∀ n o, (n, o) ∈ M → 1 ≤ n ∧ n ≤ 61) : (numL M).Perm (keys60 M) := by
  refine nodup_perm (range_nodup60.filter _) (List.Sublist.nodup (List.Sublist.map _ List.filter_sublist) nk) fun n => ?_
  rw [mem_numL]
  unfold keys60
  rw [List.mem_map]
  constructor
  · rintro ⟨⟨h1, h2⟩, o, ho⟩
    exact ⟨_, List.mem_filter.mpr ⟨ho, decide_eq_true (show n < 61 by omega)⟩, rfl⟩
  · rintro ⟨⟨m, o⟩, hm, rfl⟩
    have hm := List.mem_filter.mp hm
    have h61 : m < 61 := of_decide_eq_true hm.2
    have := rng m o hm.1
    exact ⟨⟨this.1, by show m ≤ 60; omega⟩, o, hm.1⟩
def lenOf (M : List (Nat × Ob)) (n : Nat) : Nat := ((M.find? fun e => decide (e.1 = n)).map (·.2.vals.length)).getD 0
theorem find_uniq {M : List (Nat × Ob)} (nk : (M.map (·.1)).Nodup) {n : Nat} {o : Ob} (h : (n, o) ∈ M) : M.find? (fun e => decide (e.1 = n)) = some (n, o) := by
  cases e : M.find? fun e => decide (e.1 = n) with
  | none =>
    have := List.find?_eq_none.mp e _ h
    exact absurd (decide_eq_true rfl) this
  | some p =>
    obtain ⟨m, u⟩ := p
    have h1 := List.mem_of_find?_eq_some e
    have h2 : m = n := of_decide_eq_true (List.find?_some (p := fun e : Nat × Ob => decide (e.1 = n)) e)
    subst h2
    rw [mem_uniq nk h1 h]
theorem lenOf_eq {M : List (Nat × Ob)} (nk : (M.map (·.1)).Nodup) {n : Nat} {o : Ob} (h : (n, o) ∈ M) : lenOf M n = o.vals.length := by
  unfold lenOf
  rw [find_uniq nk h]; rfl
theorem numL_sum {M : List (Nat × Ob)} (nk : (M.map (·.1)).Nodup) (rng : ∀ n o, (n, o) ∈ M → 1 ≤ n ∧ n ≤ 61) : ((numL M).map fun n => ((3 + lenOf M n : Nat) : Int)).sum = (usd M : Nat) := by
  have p := ((numL_perm nk rng).map fun n => 3 + lenOf M n).sum_nat
  have e : (keys60 M).map (fun n => 3 + lenOf M n) = (M.filter fun e => decide (e.1 < 61)).map fun e => 3 + e.2.vals.length := by
    unfold keys60
    rw [List.map_map]
    refine List.map_congr_left fun e he => ?_
    show 3 + lenOf M e.1 = _
    rw [lenOf_eq nk (o := e.2) (List.mem_filter.mp he).1]
  rw [e] at p
  have cast : ∀ l : List Nat, (l.map fun n : Nat => (n : Int)).sum = (l.sum : Nat) := by
    intro l
    induction l with
    | nil => rfl
    | cons a t ih => rw [List.map_cons, List.sum_cons, List.sum_cons, ih]; omega
  have := cast ((numL M).map fun n => 3 + lenOf M n)
  rw [List.map_map, p] at this
  exact this
theorem numL_cnt {M : List (Nat × Ob)} (nk : (M.map (·.1)).Nodup) (rng : ∀ n o, (n, o) ∈ M → 1 ≤ n ∧ n ≤ 61) : (numL M).length = cnt M := by
  rw [(numL_perm nk rng).length_eq]
  unfold keys60 cnt
  rw [List.length_map]
theorem numL_le {M : List (Nat × Ob)} : (numL M).length ≤ 60 := by
  unfold numL
  exact Nat.le_trans (List.length_filter_le _ _) (by rw [List.length_map, List.length_range]; exact Nat.le_refl _)
def sp_Heap_used {K : PySem.W.Frag} {mg : Str → Option Value} (T : Txt K mg) : Sp := fun vs H Q _ => ∃ (A : HA) (M : List (Nat × Ob)), vs = [.ref A.h] ∧ HoldX T H A M ∧ ∀ H' p, H p = none → Same H H' → H' p = some (.tup [.int (usd M : Nat), .int (cnt M : Nat)]) → Q (.ref p) H'
theorem ok_Heap_used (T : Txt K mg) : FnOk P w K mg base CX0 5 T.f_Heap_used T.d_Heap_used ["self"] (sp_Heap_used T) := by
  refine T.k_Heap_used.ok sc_Heap_used (fun vs H Q E h => ?_) (fun cdv A outer s H vs Q E hr h => ?_)
  · obtain ⟨A, M, rfl, _⟩ := h
    rfl
  · obtain ⟨A, M, rfl, hx, q⟩ := h
    refine ⟨_, (pss_cons (ps_set (i := 1) sc_Heap_used.nd rfl (.inl rfl) (pe_meth0 (pv 0) T.cl_Heap T.me_Heap_numbers (ok_Heap_numbers T) (hr.mono (by decide)) T.b_Heap_numbers .nil pass0))
      (pss_one (ps_ret (pe_tup (pa_cons (pe_callB (cr_sum rfl) (by rfl) T.m_sum (by decide +kernel) (pa_cons (pe_lc (own := [("number", 2)]) (g := gName 2) (tt := tYes) rfl sc_Heap_used.nd (pi_list (pv 1)) (blkOk_by (own := [("number", 2)]) (N := ["self", "numbers", "number"]) (sc := defScope s_Heap_used) (by decide +kernel)) (fun _ _ _ _ _ => pg_name (i := 2) sc_Heap_used.nd rfl (Or.inl rfl)) (fun _ _ _ _ _ => pts_nil) (fun _ _ _ _ _ => (pe_op op_add (pe_glob (v := .int _) rfl T.g_HEAD_CELLS ⟨_, rfl⟩) (pe_meth (pv 0) T.cl_Heap T.me_Heap_size (ok_Heap_size T) (hr.mono (by decide)) T.b_Heap_size .nil pass0 (pa_cons (pv 2) pa_nil))))) pa_nil)) (pa_cons (pe_callB (lenLK K) (by rfl) T.m_len (by decide +kernel) (pa_cons (pv 1) pa_nil)) pa_nil)))))), ?_⟩
    obtain ⟨S, b, tm, f, pos, h⟩ := id hx
    obtain ⟨dx, ho⟩ := h.at_.ob
    walk_at "rd"
    refine rdSeq ?_
    walk_at "rd"
    refine i_meth ho rfl ⟨A, M, rfl, hx, fun p hp => ?_⟩
    walk_at "rd"
    have s1 : Same H (upd H p (.lst ((numL M).map fun n => V.int (n : Nat)))) := same_new hp
    have hpat : upd H p (.lst ((numL M).map fun n => V.int (n : Nat))) p = some (.lst ((numL M).map fun n => V.int (n : Nat))) := upd_same
    generalize upd H p (.lst ((numL M).map fun n => V.int (n : Nat))) = H1 at s1 hpat
    refine ⟨⟨_, sqL_of hpat⟩, i_lcL (walk_listL (l := numL M) (r := fun n => V.int (n : Nat))) (fun n => .int ((3 + lenOf M n : Nat) : Int)) (line5' (Nat.le_trans numL_le (by decide))) (fun D ys hD => sqL_of (same_new hD _ _ hpat)) (fun n hn H2 Q' sm q' => ?_) (fun D hD => ?_)⟩
    · walk_at "rd"
      obtain ⟨_, o, hm⟩ := mem_numL.mp hn
      refine i_meth (sm _ _ (s1 _ _ ho)) rfl ⟨A, M, n, o, rfl, ⟨S, b, tm, f, pos, h.same (s1.trans sm)⟩, hm, ?_⟩
      rw [lenOf_eq h.rep.nk hm] at q'
      walk_at "rd"
      rw [show (3 : Int) + (o.vals.length : Nat) = ((3 + o.vals.length : Nat) : Int) by omega]
      exact q'
    · refine ⟨D, (numL M).map fun n => ((3 + lenOf M n : Nat) : Int), rfl, sqL_of (by rw [upd_same, List.map_map]; rfl), ?_⟩
      rw [numL_sum h.rep.nk h.rep.rng]
      refine i_lenL (sqL_of (same_new hD _ _ hpat)) ?_
      intro t ht
      rw [List.length_map, numL_cnt h.rep.nk h.rep.rng]
      exact q _ t (by have := (s1.trans (same_new hD)).free ht; exact this) ((s1.trans (same_new hD)).trans (same_new ht)) upd_same
theorem i_dgetI {H : Hp} {a : Addr} {kvs : List (Key × V)} {k : Int} {v : V} {Q : VK} (h : Rd H a (.dK kvs)) (e : valV kvs (.inl k) = some v) (q : Q v H) : rDGet (.ref a) (.int k) H Q := ⟨a, v, rfl, .inl ⟨kvs, .inl k, h, rfl, e.symm⟩, q⟩
theorem i_dputI {H : Hp} {a : Addr} {kvs : List (Key × V)} {k : Int} {v : V} {Q : Hp → Prop} (h : H a = some (.dK kvs)) (hl : kvs.length < sizeLine) (q : Q (upd H a (.dK (putK kvs (.inl k) v)))) : rDPut (.ref a) (.int k) v H Q := ⟨a, _, rfl, DPut.k (k := .inl k) h hl, q⟩
theorem tmK_get {n : Nat} : ∀ tm : Tm, valV (tmK tm) (.inl (n : Int)) = (tm.find? fun e => decide (e.1 = n)).map fun e => .ref e.2.1
  | [] => rfl
  | e :: t => by
    have ih := tmK_get (n := n) t
    unfold tmK at ih ⊢
    rw [List.map_cons]
    by_cases h : e.1 = n
    · rw [valV_pos (by show (Sum.inl (e.1 : Int) : Key) = _; rw [h]), List.find?_cons_of_pos (by simpa using h)]; rfl
    · rw [valV_neg (by show ¬ (Sum.inl (e.1 : Int) : Key) = _; intro z; injection z with z; exact h (by omega)), ih, List.find?_cons_of_neg (by simpa using h)]
theorem tmK_put {n : Nat} {a : Addr} {vs : List Int} {tm : Tm} (h : tm.find? (fun e => decide (e.1 = n)) = none) : putK (tmK tm) (.inl (n : Int)) (.ref a) = tmK (tm ++ [(n, a, vs)]) := by
  unfold putK
  rw [if_neg]
  · unfold tmK
    rw [List.map_append]; rfl
  · rw [valV_any, tmK_get, h]; simp
theorem nodup_bound : ∀ (n : Nat) {l : List Nat}, l.Nodup → (∀ x ∈ l, x < n) → l.length ≤ n
  | 0, l, _, h => by
    cases l with
    | nil => exact Nat.le_refl _
    | cons a t => exact absurd (h a List.mem_cons_self) (by omega)
  | n + 1, l, nd, h => by
    have h1 := nodup_bound n (l := l.erase n) (nd.erase n) fun x hx => by
      have h2 := (nd.mem_erase_iff).mp hx
      have := h x h2.2
      have := h2.1
      omega
    by_cases hn : n ∈ l
    · rw [List.length_erase_of_mem hn] at h1
      omega
    · rw [List.erase_of_not_mem hn] at h1
      omega
theorem TmOk.len {H : Hp} {l : Addr} {tm : Tm} (h : TmOk H l tm) : tm.length ≤ 62 := by
  have := nodup_bound 62 h.nk fun x hx => by
    obtain ⟨e, he, rfl⟩ := List.mem_map.mp hx
    have := h.kr e he
    omega
  rw [List.length_map] at this
  exact this
theorem HeapAt.nes {T : Txt K mg} {H : Hp} {A : HA} {S : CS} {b : Bool} {tm : Tm} (h : HeapAt T H A S b tm) : A.h ≠ A.dt ∧ A.c ≠ A.dt ∧ A.l ≠ A.dt ∧ A.j ≠ A.dt ∧ A.h ≠ A.c ∧ A.h ≠ A.l ∧ A.j ≠ A.c ∧ A.j ≠ A.l := by
  obtain ⟨dx, ho⟩ := h.ob
  obtain ⟨dc, hc⟩ := h.cs.ob
  obtain ⟨dj, hj⟩ := h.jr
  refine ⟨ne_of ho h.td (by intro z; cases z), ne_of hc h.td (by intro z; cases z), ne_of h.cs.ws h.td (by intro z; cases z), ne_of hj h.td (by intro z; cases z), fun e => ?_, ne_of ho h.cs.ws (by intro z; cases z), jrn_ne_cells hj hc, ne_of hj h.cs.ws (by intro z; cases z)⟩
  rw [e, hc] at ho
  injection ho with ho
  injection ho with _ _ ho
  exact absurd (congrArg List.length ho) (by show ¬ (3 = 4); decide)
/-- the temps' dict is put anew -/
theorem HeapAt.dict {T : Txt K mg} {H : Hp} {A : HA} {S : CS} {b : Bool} {tm tm' : Tm} (h : HeapAt T H A S b tm) (k : TmOk H A.l tm') : HeapAt T (upd H A.dt (.dK (tmK tm'))) A S b tm' := by
  obtain ⟨n1, n2, n3, n4, _⟩ := h.nes
  obtain ⟨dx, ho⟩ := h.ob
  exact ⟨⟨dx, by rw [upd_ne n1]; exact ho⟩, h.cs.keep (Kp.set (X := [A.dt]) (by simp)) (by simpa using n2) (by simpa using n3), h.jr.keep (Kp.set (X := [A.dt]) (by simp)) (by simpa using n4), h.sz, upd_same, ⟨fun e he => by
    rw [upd_ne (ne_of (k.tl e he) h.td (by intro z; cases z))]; exact k.tl e he, k.nl, k.nd, k.nk, k.kr, k.bf⟩⟩
theorem find_none_mem {tm : Tm} {n : Nat} (h : tm.find? (fun e => decide (e.1 = n)) = none) : n ∉ tm.map (·.1) := fun hm => by
  obtain ⟨e, he, rfl⟩ := List.mem_map.mp hm
  exact absurd (decide_eq_true rfl) (List.find?_eq_none.mp h e he)
theorem find_some_mem {tm : Tm} {n : Nat} {e : Nat × Addr × List Int} (h : tm.find? (fun e => decide (e.1 = n)) = some e) : e ∈ tm ∧ e.1 = n := ⟨List.mem_of_find?_eq_some h, of_decide_eq_true (List.find?_some (p := fun e : Nat × Addr × List Int => decide (e.1 = n)) h)⟩
theorem find_in {tm : Tm} (nk : (tm.map (·.1)).Nodup) : ∀ {e : Nat × Addr × List Int}, e ∈ tm → tm.find? (fun x => decide (x.1 = e.1)) = some e := by
  induction tm with
  | nil => intro e h; exact nomatch h
  | cons x t ih =>
    intro e h
    rw [List.map_cons, List.nodup_cons] at nk
    rcases List.mem_cons.mp h with rfl | h
    · rw [List.find?_cons_of_pos (by simp)]
    · rw [List.find?_cons_of_neg (by
        simp only [decide_eq_true_eq]
        intro z
        exact nk.1 (by rw [z]; exact List.mem_map_of_mem (f := (·.1)) h)), ih nk.2 h]
theorem TmOk.add {H : Hp} {l : Addr} {tm : Tm} (k : TmOk H l tm) {n : Nat} {a : Addr} {vs : List Int} (hn : n ≤ 61) (h : tm.find? (fun e => decide (e.1 = n)) = none) (ha : H a = some (.lst (vs.map V.int))) (al : a ≠ l) (an : ∀ e ∈ tm, e.2.1 ≠ a) : TmOk H l (tm ++ [(n, a, vs)]) := by
  refine ⟨fun e he => ?_, fun e he => ?_, ?_, ?_, fun e he => ?_, ?_⟩
  · rcases List.mem_append.mp he with he | he
    · exact k.tl e he
    · rw [List.mem_singleton.mp he]; exact ha
  · rcases List.mem_append.mp he with he | he
    · exact k.nl e he
    · rw [List.mem_singleton.mp he]; exact al
  · rw [List.map_append]
    refine List.nodup_append.mpr ⟨k.nd, by simp, fun x hx y hy e => ?_⟩
    obtain ⟨z, hz, rfl⟩ := List.mem_map.mp hx
    have : y = a := by simpa using hy
    exact an z hz (e.trans this)
  · rw [List.map_append]
    refine List.nodup_append.mpr ⟨k.nk, by simp, fun x hx y hy e => ?_⟩
    have : y = n := by simpa using hy
    exact find_none_mem h (by rw [← this, ← e]; exact hx)
  · rcases List.mem_append.mp he with he | he
    · exact k.kr e he
    · rw [List.mem_singleton.mp he]; exact hn
  · obtain ⟨x, vs, h1, h2⟩ := k.bf
    exact ⟨x, vs, List.mem_append_left _ h1, h2⟩
theorem tval_add {tm : Tm} {n m : Nat} {a : Addr} {vs : List Int} : tval (tm ++ [(n, a, vs)]) m = match tval tm m with
    | some x => some x
    | none => if n = m then some vs else none := by
  unfold tval
  rw [List.find?_append]
  cases e : tm.find? fun e => decide (e.1 = m) with
  | some x => rfl
  | none =>
    by_cases h : n = m
    · rw [if_pos h]
      rw [Option.none_or, List.find?_cons_of_pos (by simpa using h)]; rfl
    · rw [if_neg h]
      rw [Option.none_or, List.find?_cons_of_neg (by simpa using h)]; rfl
/-- a value of the kind TEMP that was not looked at is 0 -/
theorem Rep.add {W : List Int} {f : Nat} {pos : Nat → Nat} {M : List (Nat × Ob)} {tm : Tm} (R : Rep W f pos M tm) {n : Nat} {o : Ob} {a : Addr} (hm : (n, o) ∈ M) (h : tm.find? (fun e => decide (e.1 = n)) = none) : Rep W f pos M (tm ++ [(n, a, List.replicate o.vals.length 0)]) := by
  refine ⟨R.f2, R.half, R.nk, R.rng, R.buf, R.non, R.ob, fun m u hu ku => ?_, R.us, R.dj, R.le⟩
  have h0 := R.tmp m u hu ku
  rw [tval_add]
  cases e : tval tm m with
  | some x => rw [e] at h0; exact h0
  | none =>
    rw [e] at h0
    by_cases hn : n = m
    · subst hn
      obtain rfl := mem_uniq R.nk hm hu
      rw [if_pos rfl]
      exact h0
    · rw [if_neg hn]; exact h0
theorem own_add {A : HA} {tm : Tm} {n : Nat} {a : Addr} {vs : List Int} {x : Addr} (h : x ∈ own A (tm ++ [(n, a, vs)])) : x ∈ own A tm ∨ x = a := by
  unfold own at h ⊢
  rw [List.map_append] at h
  simp only [List.mem_cons, List.mem_append, List.map_cons, List.map_nil, List.not_mem_nil, or_false] at h ⊢
  rcases h with h | h | h | h | h <;> simp [h]
theorem own_mem {A : HA} {tm : Tm} {e : Nat × Addr × List Int} (h : e ∈ tm) : e.2.1 ∈ own A tm := by
  unfold own
  exact List.mem_cons_of_mem _ (List.mem_cons_of_mem _ (List.mem_cons_of_mem _ (List.mem_map_of_mem (f := (·.2.1)) h)))
def sp_Heap__temp {K : PySem.W.Frag} {mg : Str → Option Value} (T : Txt K mg) : Sp := fun vs H Q _ => ∃ (A : HA) (S : CS) (b : Bool) (tm : Tm) (f : Nat) (pos : Nat → Nat) (M : List (Nat × Ob)) (n : Nat) (o : Ob), vs = [.ref A.h, .int n] ∧ Hold T H A S b tm f pos M ∧ (n, o) ∈ M ∧ o.kind = -2 ∧
  ∀ H' tm' a, Hold T H' A S b tm' f pos M → Mvs H (own A tm) H' (own A tm') → (n, a, o.vals) ∈ tm' → Q (.ref a) H'
inductive MidT (T : Txt K mg) (H : Hp) (A : HA) (S : CS) (b : Bool) (tm : Tm) (f : Nat) (pos : Nat → Nat) (M : List (Nat × Ob)) (n : Nat) (o : Ob) (σ0 : L2.St) : L2.St → Hp → Prop where
  | mk (tm' : Tm) (a : Addr) (H1 : Hp) (h : Hold T H1 A S b tm' f pos M) (mv : Mvs H (own A tm) H1 (own A tm')) (hin : (n, a, o.vals) ∈ tm') : MidT T H A S b tm f pos M n o σ0 σ0 H1
theorem ok_Heap__temp (T : Txt K mg) : FnOk P w K mg base CX0 5 T.f_Heap__temp T.d_Heap__temp ["self", "number"] (sp_Heap__temp T) := by
  refine T.k_Heap__temp.ok sc_Heap__temp (fun vs H Q E h => ?_) (fun cdv A outer s H vs Q E hr h => ?_)
  · obtain ⟨A, S, b, tm, f, pos, M, n, o, rfl, _⟩ := h
    rfl
  · obtain ⟨A, S, b, tm, f, pos, M, n, o, rfl, h, hm, ht, q⟩ := h
    refine ⟨_, (C8.pss_cut (ps_if (pt_cmp (pc_dnotin (hu_of hr) (pv 1) (pe_fldK K (pv 0) rfl)) rfl) (pss_one (ps_dput (hu_of hr) (pe_fldK K (pv 0) rfl) (pv 1) (pe_op op_rep (pe_lst (pa_cons pe_int pa_nil)) (pe_meth (pv 0) T.cl_Heap T.me_Heap_size (ok_Heap_size T) (hr.mono (by decide)) T.b_Heap_size .nil pass0 (pa_cons (pv 1) pa_nil))) rfl)) pss_nil)
      (pss_one (ps_ret (pe_dget (hu_of hr) (pe_fldK K (pv 0) rfl) (pv 1) (fun _ _ => rfl))))), ?_⟩
    obtain ⟨dx, ho⟩ := h.at_.ob
    have hr := h.rep.rng n o hm
    refine rdCut (MidT T H A S b tm f pos M n o [some (V.ref A.h), some (V.int (n : Int))]) ?_ ?_
    · walk_at "rd"
      refine i_fld T.cl_Heap T.nf_Heap_temps ho rfl ⟨A.dt, rfl, _, DGet.k (k := .inl (n : Int)) h.at_.td, ?_⟩
      rw [tmK_get]
      have htmp := h.rep.tmp n o hm ht
      cases e : tm.find? fun e => decide (e.1 = n) with
      | some x =>
        obtain ⟨m, a, vs⟩ := x
        obtain ⟨hx, rfl⟩ := find_some_mem e
        have hv : tval tm m = some vs := by unfold tval; rw [e]; rfl
        rw [hv] at htmp
        have htmp : vs = o.vals := htmp
        subst htmp
        walk_at "rd"
        exact .mk tm a _ h Mvs.refl hx
      | none =>
        walk_at "rd"
        intro p hp
        have s1 : Same H (upd H p (.lst [.int 0])) := same_new hp
        have hp1 : upd H p (.lst [.int 0]) p = some (.lst [.int 0]) := upd_same
        generalize upd H p (.lst [.int 0]) = H1 at s1 hp1
        refine i_meth (s1 _ _ ho) rfl ⟨A, M, n, o, rfl, ⟨S, b, tm, f, pos, h.same s1⟩, hm, ?_⟩
        have hle : o.vals.length ≤ 400 := by
          by_cases h61 : n = 61
          · subst h61; rw [(h.rep.buf_o hm).2.2]; decide
          · have := h.rep.p_le hm (by omega); omega
        refine i_rep hp1 (by omega) (by omega) (line5 (by show 1 * _ ≤ _; omega)) fun a ha => ?_
        rw [rep1]
        have s2 : Same H (upd H1 a (.lst (List.replicate ((o.vals.length : Nat) : Int).toNat (V.int 0)))) := s1.trans (same_new ha)
        have ha2 : upd H1 a (.lst (List.replicate ((o.vals.length : Nat) : Int).toNat (V.int 0))) a = some (.lst ((List.replicate o.vals.length (0 : Int)).map V.int)) := by rw [upd_same, List.map_replicate]; rfl
        have haf : H a = none := s1.free ha
        generalize upd H1 a (.lst (List.replicate ((o.vals.length : Nat) : Int).toNat (V.int 0))) = H2 at s2 ha2
        have h2 := h.same s2
        refine i_fld T.cl_Heap T.nf_Heap_temps (s2 _ _ ho) rfl ?_
        refine i_dputI h2.at_.td (line5' (by unfold tmK; rw [List.length_map]; have := h2.at_.tk.len; omega)) ?_
        rw [tmK_put (vs := List.replicate o.vals.length 0) e]
        have k2 := h2.at_.tk.add hr.2 e ha2 (fun z => by rw [z] at haf; have := h.at_.cs.ws; rw [haf] at this; cases this) (fun x hx z => by have := h.at_.tk.tl x hx; rw [z, haf] at this; cases this)
        have htmp2 : List.replicate o.vals.length 0 = o.vals := by
          have hv : tval tm n = none := by unfold tval; rw [e]; rfl
          rw [hv] at htmp; exact htmp
        refine .mk _ a _ ⟨h2.at_.dict k2, h.rep.add hm e, h.on⟩ ⟨fun x u hx hu => ?_, fun x hx => ?_⟩ (by rw [htmp2]; simp)
        · rw [upd_ne (fun z => hx (by rw [z]; unfold own; simp))]
          exact s2 _ _ hu
        · rcases own_add hx with hx | rfl
          · exact .inl hx
          · exact .inr haf
    · rintro σ H1 ⟨tm', a, _, h1, mv, hin⟩
      obtain ⟨dx1, ho1⟩ := h1.at_.ob
      walk_at "rd"
      refine i_fld T.cl_Heap T.nf_Heap_temps ho1 rfl (i_dgetI (.inl h1.at_.td) (v := .ref a) ?_ (q H1 tm' a h1 mv hin))
      rw [tmK_get, find_in h1.at_.tk.nk hin]; rfl
def sp_Heap_read {K : PySem.W.Frag} {mg : Str → Option Value} (T : Txt K mg) : Sp := fun vs H Q _ => ∃ (A : HA) (S : CS) (b : Bool) (tm : Tm) (f : Nat) (pos : Nat → Nat) (M : List (Nat × Ob)) (n : Nat) (o : Ob) (i : Nat), vs = [.ref A.h, .int n, .int i] ∧ Hold T H A S b tm f pos M ∧ (n, o) ∈ M ∧ i < o.vals.length ∧
  (o.kind ≠ -2 → Q (.int (o.vals.getD i 0)) H) ∧ (o.kind = -2 → ∀ H' tm', Hold T H' A S b tm' f pos M → Mvs H (own A tm) H' (own A tm') → Q (.int (o.vals.getD i 0)) H')
theorem at_ints {vs : List Int} {i : Nat} (h : i < vs.length) : atI (vs.map V.int) (i : Int) = some (.int (vs.getD i 0)) := atI_nat (by rw [List.getElem?_map, List.getElem?_eq_getElem h, List.getD_eq_getElem?_getD, List.getElem?_eq_getElem h]; rfl)
theorem ok_Heap_read (T : Txt K mg) : FnOk P w K mg base CX0 6 T.f_Heap_read T.d_Heap_read ["self", "number", "place"] (sp_Heap_read T) := by
  refine T.k_Heap_read.ok sc_Heap_read (fun vs H Q E h => ?_) (fun cdv A outer s H vs Q E hr h => ?_)
  · obtain ⟨A, S, b, tm, f, pos, M, n, o, i, rfl, _⟩ := h
    rfl
  · obtain ⟨A, S, b, tm, f, pos, M, n, o, i, rfl, h, hm, hi, q1, q2⟩ := h
    refine ⟨_, (pss_cons (ps_if (pt_cmpR op_eq (pe_meth (pv 0) T.cl_Heap T.me_Heap_kind (ok_Heap_kind T) (hr.mono (by decide)) T.b_Heap_kind .nil pass0 (pa_cons (pv 1) pa_nil)) (pe_glob (v := .int _) rfl T.g_TEMP ⟨_, rfl⟩) (nomark _)) (pss_one (ps_ret (pe_ix (ix_listK K) (pe_meth (pv 0) T.cl_Heap T.me_Heap__temp (ok_Heap__temp T) (hr.mono (by decide)) T.b_Heap__temp .nil pass0 (pa_cons (pv 1) pa_nil)) (pv 2) (fun _ _ => rfl)))) pss_nil)
      (pss_one (ps_ret (pe_meth (pe_fldK K (pv 0) rfl) T.cl_Cells T.me_Cells_read (ok_Cells_read T) (hr.mono (by decide)) T.b_Cells_read .nil passL (pa_cons (pe_op op_add (pe_op op_add (pe_meth (pv 0) T.cl_Heap T.me_Heap__place (ok_Heap__place T) (hr.mono (by decide)) T.b_Heap__place .nil pass0 (pa_cons (pv 1) pa_nil)) (pe_glob (v := .int _) rfl T.g_HEAD_CELLS ⟨_, rfl⟩)) (pv 2)) pa_nil))))), ?_⟩
    obtain ⟨dx, ho⟩ := h.at_.ob
    obtain ⟨dc, hc⟩ := h.at_.cs.ob
    walk_at "rd"
    refine rdSeq ?_
    walk_at "rd"
    refine i_meth ho rfl ⟨A, M, n, o, rfl, ⟨S, b, tm, f, pos, h⟩, hm, ?_⟩
    walk_at "rd"
    refine ite2 (fun e => ?_) (fun e => ?_)
    · walk_at "rd"
      refine i_meth ho rfl ⟨A, S, b, tm, f, pos, M, n, o, rfl, h, hm, e, fun H' tm' a h' mv hin => ?_⟩
      exact i_ixL (sqL_of (h'.at_.tk.tl _ hin)) (at_ints hi) (q2 e H' tm' h' mv)
    · have hr := h.rep.rng n o hm
      have hn : n ≤ 60 := by
        by_cases h61 : n = 61
        · subst h61; exact absurd (h.rep.buf_o hm).1 e
        · omega
      walk_at "rd"
      refine i_fld T.cl_Heap T.nf_Heap_cells ho rfl (i_meth hc rfl (i_meth ho rfl ⟨A, S, b, tm, f, pos, M, n, o, rfl, h, hm, hn, ?_⟩))
      have hp := h.rep.p_le hm hn
      have hf := h.rep.f2
      walk_at "rd"
      refine h.at_.rd h.on (i := rm f + pos n + 3 + i) (by rw [show ((rm f + pos n + 3 + i : Nat) : Int) = ((rm f + pos n : Nat) : Int) + 3 + i by omega]) (by unfold rm; omega) ?_
      rw [(h.rep.ob n o hm hn).vs e i hi]
      exact q1 e
/-! ### heap.py: what is written -/
theorem getD_setE {ws : List Int} {i : Nat} {w : Int} (h : i < ws.length) : (ws.set i w).getD i 0 = w := by rw [List.getD_eq_getElem?_getD, List.getElem?_set_self h]; rfl
theorem getD_setN {ws : List Int} {i j : Nat} {w : Int} (h : i ≠ j) : (ws.set i w).getD j 0 = ws.getD j 0 := by rw [List.getD_eq_getElem?_getD, List.getElem?_set_ne h, ← List.getD_eq_getElem?_getD]
def mapM (g : Nat → Ob → Ob) (M : List (Nat × Ob)) : List (Nat × Ob) := M.map fun e => (e.1, g e.1 e.2)
theorem mem_mapM {g : Nat → Ob → Ob} {M : List (Nat × Ob)} {n : Nat} {u : Ob} : (n, u) ∈ mapM g M ↔ ∃ o, (n, o) ∈ M ∧ u = g n o := by
  unfold mapM
  rw [List.mem_map]
  constructor
  · rintro ⟨⟨m, o⟩, h, e⟩
    injection e with e1 e2
    subst e1
    exact ⟨o, h, e2.symm⟩
  · rintro ⟨o, h, rfl⟩
    exact ⟨_, h, rfl⟩
def SameLen (g : Nat → Ob → Ob) (M : List (Nat × Ob)) : Prop := ∀ n o, (n, o) ∈ M → (g n o).kind = o.kind ∧ (g n o).owner = o.owner ∧ (g n o).vals.length = o.vals.length
theorem mapM_keys {g : Nat → Ob → Ob} {M : List (Nat × Ob)} : (mapM g M).map (·.1) = M.map (·.1) := by
  unfold mapM
  rw [List.map_map]; rfl
theorem usd_map {g : Nat → Ob → Ob} : ∀ {M : List (Nat × Ob)}, SameLen g M → usd (mapM g M) = usd M
  | [], _ => rfl
  | e :: t, h => by
    have ih := usd_map (g := g) (M := t) fun n o ho => h n o (List.mem_cons_of_mem _ ho)
    have he := (h e.1 e.2 List.mem_cons_self).2.2
    unfold usd mapM at ih ⊢
    rw [List.map_cons, List.filter_cons, List.filter_cons]
    by_cases hn : e.1 < 61
    · rw [if_pos (decide_eq_true hn), if_pos (decide_eq_true hn), List.map_cons, List.map_cons, List.sum_cons, List.sum_cons, ih]
      show 3 + (g e.1 e.2).vals.length + _ = _
      rw [he]
    · rw [if_neg (by simpa using hn), if_neg (by simpa using hn), ih]
theorem cnt_map {g : Nat → Ob → Ob} : ∀ {M : List (Nat × Ob)}, cnt (mapM g M) = cnt M
  | [] => rfl
  | e :: t => by
    have ih := cnt_map (g := g) (M := t)
    unfold cnt mapM at ih ⊢
    rw [List.map_cons, List.filter_cons, List.filter_cons]
    by_cases hn : e.1 < 61
    · rw [if_pos (decide_eq_true hn), if_pos (decide_eq_true hn), List.length_cons, List.length_cons, ih]
    · rw [if_neg (by simpa using hn), if_neg (by simpa using hn), ih]
theorem Rep.map {W W' : List Int} {f : Nat} {pos : Nat → Nat} {M : List (Nat × Ob)} {tm tm' : Tm} (R : Rep W f pos M tm) {g : Nat → Ob → Ob} (hk : SameLen g M) (h81 : W'.getD 81 0 = W.getD 81 0) (htab : ∀ n, 1 ≤ n → n ≤ 60 → W'.getD (tb f + n - 1) 0 = W.getD (tb f + n - 1) 0)
    (hob : ∀ n o, (n, o) ∈ M → n ≤ 60 → RepO W' f (pos n) n (g n o)) (htmp : ∀ n o, (n, o) ∈ M → o.kind = -2 → (tval tm' n).getD (List.replicate o.vals.length 0) = (g n o).vals) : Rep W' f pos (mapM g M) tm' := by
  refine ⟨R.f2, by rw [h81]; exact R.half, by rw [mapM_keys]; exact R.nk, fun n u hu => ?_, ?_, fun n h1 h2 h => ?_, fun n u hu hn => ?_, fun n u hu ku => ?_, fun n u hu hn => ?_, fun n u m v hu hv hn hm ne => ?_, by rw [usd_map hk]; exact R.le⟩
  · obtain ⟨o, ho, rfl⟩ := mem_mapM.mp hu
    exact R.rng n o ho
  · obtain ⟨vs, hv, hl⟩ := R.buf
    obtain ⟨e1, e2, e3⟩ := hk _ _ hv
    refine ⟨(g 61 ⟨-2, 0, vs⟩).vals, mem_mapM.mpr ⟨_, hv, ?_⟩, by rw [e3]; exact hl⟩
    generalize g 61 ⟨-2, 0, vs⟩ = u at e1 e2
    obtain ⟨k, w, x⟩ := u
    cases e1; cases e2; rfl
  · rw [htab n h1 h2]
    exact R.non n h1 h2 fun o ho => h _ (mem_mapM.mpr ⟨o, ho, rfl⟩)
  · obtain ⟨o, ho, rfl⟩ := mem_mapM.mp hu
    exact hob n o ho hn
  · obtain ⟨o, ho, rfl⟩ := mem_mapM.mp hu
    obtain ⟨e1, e2, e3⟩ := hk _ _ ho
    rw [e3]
    exact htmp n o ho (by rw [← e1]; exact ku)
  · obtain ⟨o, ho, rfl⟩ := mem_mapM.mp hu
    obtain ⟨e1, e2, e3⟩ := hk _ _ ho
    rw [e3, usd_map hk]
    exact R.us n o ho hn
  · obtain ⟨o, ho, rfl⟩ := mem_mapM.mp hu
    obtain ⟨o', ho', rfl⟩ := mem_mapM.mp hv
    rw [(hk _ _ ho).2.2, (hk _ _ ho').2.2]
    exact R.dj n o m o' ho ho' hn hm ne
/-- the value at i of the object n is w now -/
def gSet (n i : Nat) (w : Int) : Nat → Ob → Ob := fun m o => if m = n then ⟨o.kind, o.owner, o.vals.set i w⟩ else o
theorem gSet_len {n i : Nat} {w : Int} {M : List (Nat × Ob)} : SameLen (gSet n i w) M := fun m o _ => by
  unfold gSet
  split
  · exact ⟨rfl, rfl, List.length_set⟩
  · exact ⟨rfl, rfl, rfl⟩
theorem Rep.cell {W : List Int} {f : Nat} {pos : Nat → Nat} {M : List (Nat × Ob)} {tm : Tm} (R : Rep W f pos M tm) (hW : W.length = 1002) {n i : Nat} {o : Ob} {w : Int} (hm : (n, o) ∈ M) (hi : i < o.vals.length) (hk : o.kind ≠ -2) : Rep (W.set (rm f + pos n + 3 + i) w) f pos (mapM (gSet n i w) M) tm := by
  have hn : n ≤ 60 := by
    have := R.rng n o hm
    by_cases h61 : n = 61
    · subst h61; exact absurd (R.buf_o hm).1 hk
    · omega
  have hf := R.f2
  have hp := R.p_le hm hn
  have tabN : ∀ m, 1 ≤ m → m ≤ 60 → (W.set (rm f + pos n + 3 + i) w).getD (tb f + m - 1) 0 = W.getD (tb f + m - 1) 0 := fun m h1 h2 => getD_setN (by unfold rm tb; omega)
  refine R.map gSet_len (getD_setN (by unfold rm; omega)) tabN (fun m u hu hm60 => ?_) (fun m u hu ku => ?_)
  · have B := R.ob m u hu hm60
    have r1 := R.rng m u hu
    by_cases hmn : m = n
    · subst hmn
      obtain rfl := mem_uniq R.nk hm hu
      unfold gSet
      rw [if_pos rfl]
      refine ⟨by rw [tabN m r1.1 hm60]; exact B.tab, by rw [getD_setN (by omega)]; exact B.kd, by rw [getD_setN (by omega)]; exact B.ow, by rw [getD_setN (by omega), B.sz, List.length_set], fun _ j hj => ?_⟩
      have hj : j < o.vals.length := by rw [← List.length_set (i := i) (a := w)]; exact hj
      show _ = (o.vals.set i w).getD j 0
      by_cases hij : i = j
      · subst hij
        rw [getD_setE (by rw [hW]; unfold rm; omega), getD_setE hi]
      · rw [getD_setN (by omega), getD_setN hij]
        exact B.vs hk j hj
    · unfold gSet
      rw [if_neg hmn]
      have d := R.dj n o m u hm hu hn hm60 (Ne.symm hmn)
      refine ⟨by rw [tabN m r1.1 hm60]; exact B.tab, by rw [getD_setN (by omega)]; exact B.kd, by rw [getD_setN (by omega)]; exact B.ow, by rw [getD_setN (by omega)]; exact B.sz, fun kk j hj => ?_⟩
      rw [getD_setN (by omega)]
      exact B.vs kk j hj
  · unfold gSet
    rw [if_neg]
    · exact R.tmp m u hu ku
    · intro z
      subst z
      obtain rfl := mem_uniq R.nk hm hu
      exact hk ku
/-- the list of n is at a now, with vs -/
def repT (tm : Tm) (n : Nat) (a : Addr) (vs : List Int) : Tm := tm.map fun e => if e.1 = n then (e.1, a, vs) else e
theorem repT_keys {tm : Tm} {n : Nat} {a : Addr} {vs : List Int} : (repT tm n a vs).map (·.1) = tm.map (·.1) := by
  unfold repT
  rw [List.map_map]
  refine List.map_congr_left fun e _ => ?_
  show (if e.1 = n then (e.1, a, vs) else e).1 = e.1
  split <;> rfl
theorem mem_repT {tm : Tm} {n : Nat} {a : Addr} {vs : List Int} {e : Nat × Addr × List Int} (h : e ∈ repT tm n a vs) : (e = (n, a, vs) ∧ n ∈ tm.map (·.1)) ∨ (e ∈ tm ∧ e.1 ≠ n) := by
  unfold repT at h
  obtain ⟨x, hx, rfl⟩ := List.mem_map.mp h
  by_cases he : x.1 = n
  · rw [if_pos he, he]
    exact .inl ⟨rfl, by rw [← he]; exact List.mem_map_of_mem (f := (·.1)) hx⟩
  · rw [if_neg he]
    exact .inr ⟨hx, he⟩
theorem tval_rep {n : Nat} {a : Addr} {vs : List Int} {m : Nat} : ∀ {tm : Tm}, tval (repT tm n a vs) m = if m = n then (tval tm m).map (fun _ => vs) else tval tm m
  | [] => by
    unfold tval repT
    split <;> rfl
  | e :: t => by
    have ih := tval_rep (n := n) (a := a) (vs := vs) (m := m) (tm := t)
    unfold tval repT at ih ⊢
    rw [List.map_cons]
    by_cases he : e.1 = n
    · rw [if_pos he]
      by_cases hm : e.1 = m
      · have : m = n := by omega
        rw [List.find?_cons_of_pos (by simpa using hm), List.find?_cons_of_pos (by simpa using hm), if_pos this]; rfl
      · rw [List.find?_cons_of_neg (by simpa using hm), List.find?_cons_of_neg (by simpa using hm), ih]
    · rw [if_neg he]
      by_cases hm : e.1 = m
      · have : ¬ m = n := by omega
        rw [List.find?_cons_of_pos (by simpa using hm), List.find?_cons_of_pos (by simpa using hm), if_neg this]
      · rw [List.find?_cons_of_neg (by simpa using hm), List.find?_cons_of_neg (by simpa using hm), ih]
theorem tmK_rep {n : Nat} {a : Addr} {vs : List Int} {tm : Tm} (h : n ∈ tm.map (·.1)) : putK (tmK tm) (.inl (n : Int)) (.ref a) = tmK (repT tm n a vs) := by
  unfold putK
  rw [if_pos]
  · unfold tmK repT
    rw [List.map_map, List.map_map]
    refine List.map_congr_left fun e _ => ?_
    show (if (Sum.inl (e.1 : Int) : Key) = Sum.inl (n : Int) then ((Sum.inl (e.1 : Int) : Key), V.ref a) else (Sum.inl (e.1 : Int), V.ref e.2.1)) = _
    show _ = ((Sum.inl ((if e.1 = n then (e.1, a, vs) else e).1 : Int) : Key), V.ref (if e.1 = n then (e.1, a, vs) else e).2.1)
    by_cases he : e.1 = n
    · rw [if_pos (by rw [he]), if_pos he]
    · rw [if_neg (by intro z; injection z with z; exact he (by omega)), if_neg he]
  · obtain ⟨e, he, hn⟩ := List.mem_map.mp h
    unfold tmK
    rw [List.any_map, List.any_eq_true]
    exact ⟨e, he, by
      show decide ((Sum.inl (e.1 : Int) : Key) = Sum.inl (n : Int)) = true
      rw [hn]; simp⟩
theorem tmK_rep0 {n : Nat} {a : Addr} {vs : List Int} {tm : Tm} (h : ∀ e ∈ tm, e.1 = n → e.2.1 = a) : tmK (repT tm n a vs) = tmK tm := by
  unfold tmK repT
  rw [List.map_map]
  refine List.map_congr_left fun e he => ?_
  show ((Sum.inl ((if e.1 = n then (e.1, a, vs) else e).1 : Int) : Key), V.ref (if e.1 = n then (e.1, a, vs) else e).2.1) = _
  by_cases hn : e.1 = n
  · rw [if_pos hn, h e he hn]
  · rw [if_neg hn]
theorem TmOk.rep {H H' : Hp} {l : Addr} {tm : Tm} (k : TmOk H l tm) {n : Nat} {a : Addr} {vs : List Int} (hn : n ∈ tm.map (·.1)) (ha : H' a = some (.lst (vs.map V.int))) (al : a ≠ l) (an : ∀ e ∈ tm, e.1 ≠ n → e.2.1 ≠ a) (hk : ∀ e ∈ tm, e.1 ≠ n → H' e.2.1 = some (.lst (e.2.2.map V.int))) (h64 : n = 61 → vs.length = 64) : TmOk H' l (repT tm n a vs) := by
  refine ⟨fun e he => ?_, fun e he => ?_, ?_, by rw [repT_keys]; exact k.nk, fun e he => ?_, ?_⟩
  · rcases mem_repT he with ⟨rfl, _⟩ | ⟨he, hne⟩
    · exact ha
    · exact hk e he hne
  · rcases mem_repT he with ⟨rfl, _⟩ | ⟨he, hne⟩
    · exact al
    · exact k.nl e he
  · have nk := k.nk
    have nd := k.nd
    clear hn hk h64 k
    induction tm with
    | nil => exact List.nodup_nil
    | cons e t ih =>
      rw [List.map_cons, List.nodup_cons] at nk nd
      have ih := ih (fun x hx => an x (List.mem_cons_of_mem _ hx)) nk.2 nd.2
      show (List.map (·.2.1) ((if e.1 = n then (e.1, a, vs) else e) :: repT t n a vs)).Nodup
      rw [List.map_cons, List.nodup_cons]
      refine ⟨fun h => ?_, ih⟩
      obtain ⟨x, hx, ex⟩ := List.mem_map.mp h
      by_cases he : e.1 = n
      · rw [if_pos he] at ex
        rcases mem_repT hx with ⟨_, h⟩ | ⟨hx, hne⟩
        · exact nk.1 (by rw [he]; exact h)
        · exact an x (List.mem_cons_of_mem _ hx) hne ex
      · rw [if_neg he] at ex
        rcases mem_repT hx with ⟨rfl, _⟩ | ⟨hx, hne⟩
        · exact an e List.mem_cons_self he ex.symm
        · exact nd.1 (by rw [← ex]; exact List.mem_map_of_mem (f := (·.2.1)) hx)
  · rcases mem_repT he with ⟨rfl, h⟩ | ⟨he, _⟩
    · obtain ⟨x, hx, ex⟩ := List.mem_map.mp h
      have := k.kr x hx
      show n ≤ 61
      omega
    · exact k.kr e he
  · obtain ⟨x, us, h1, h2⟩ := k.bf
    by_cases h : n = 61
    · refine ⟨a, vs, ?_, h64 h⟩
      unfold repT
      refine List.mem_map.mpr ⟨_, h1, ?_⟩
      rw [if_pos h.symm]
    · refine ⟨x, us, ?_, h2⟩
      unfold repT
      refine List.mem_map.mpr ⟨_, h1, ?_⟩
      rw [if_neg (Ne.symm h)]
theorem own_rep {A : HA} {tm : Tm} {n : Nat} {a : Addr} {vs : List Int} {x : Addr} (h : x ∈ own A (repT tm n a vs)) : x ∈ own A tm ∨ x = a := by
  unfold own at h ⊢
  rcases List.mem_cons.mp h with h | h
  · exact .inl (by simp [h])
  rcases List.mem_cons.mp h with h | h
  · exact .inl (by simp [h])
  rcases List.mem_cons.mp h with h | h
  · exact .inl (by simp [h])
  obtain ⟨e, he, rfl⟩ := List.mem_map.mp h
  rcases mem_repT he with ⟨rfl, _⟩ | ⟨he, _⟩
  · exact .inr rfl
  · exact .inl (own_mem he)
theorem tval_some {tm : Tm} (nk : (tm.map (·.1)).Nodup) {n : Nat} {a : Addr} {vs : List Int} (h : (n, a, vs) ∈ tm) : tval tm n = some vs := by
  unfold tval
  rw [find_in nk h]; rfl
theorem Rep.temp {W : List Int} {f : Nat} {pos : Nat → Nat} {M : List (Nat × Ob)} {tm : Tm} (R : Rep W f pos M tm) {n : Nat} {a : Addr} {vs : List Int} {g : Nat → Ob → Ob} (hk : SameLen g M) (hg : ∀ m o, (m, o) ∈ M → m ≠ n → g m o = o) (hgn : ∀ o, (n, o) ∈ M → o.kind = -2 ∧ (g n o).vals = vs) (hin : (tval tm n).isSome) : Rep W f pos (mapM g M) (repT tm n a vs) := by
  refine R.map hk rfl (fun _ _ _ => rfl) (fun m u hu hm60 => ?_) (fun m u hu ku => ?_)
  · have B := R.ob m u hu hm60
    by_cases hmn : m = n
    · subst hmn
      obtain ⟨e1, e2, e3⟩ := hk _ _ hu
      exact ⟨B.tab, by rw [e1]; exact B.kd, by rw [e2]; exact B.ow, by rw [e3]; exact B.sz, fun kk => absurd ((hgn u hu).1) (by rw [← e1]; exact kk)⟩
    · rw [hg m u hu hmn]; exact B
  · rw [tval_rep]
    by_cases hmn : m = n
    · subst hmn
      rw [if_pos rfl, (hgn u hu).2]
      obtain ⟨x, hx⟩ := Option.isSome_iff_exists.mp hin
      rw [hx]; rfl
    · rw [if_neg hmn, hg m u hu hmn]
      exact R.tmp m u hu ku
theorem addr_uniq {tm : Tm} (nd : (tm.map (·.2.1)).Nodup) : ∀ {x y : Nat × Addr × List Int}, x ∈ tm → y ∈ tm → x.2.1 = y.2.1 → x = y := by
  induction tm with
  | nil => intro x y h; exact nomatch h
  | cons e t ih =>
    intro x y hx hy z
    rw [List.map_cons, List.nodup_cons] at nd
    rcases List.mem_cons.mp hx with a | a <;> rcases List.mem_cons.mp hy with b | b
    · rw [a, b]
    · subst a; exact absurd (List.mem_map.mpr ⟨y, b, z.symm⟩) nd.1
    · subst b; exact absurd (List.mem_map.mpr ⟨x, a, z⟩) nd.1
    · exact ih nd.2 a b z
theorem HeapAt.cell {T : Txt K mg} {H H' : Hp} {A : HA} {S S' : CS} {b : Bool} {tm : Tm} (h : HeapAt T H A S b tm) (c : CellsAt T.c_Cells H' A.c A.l S') (hz : S'.words.length = 1002) (k : Kp [A.c, A.l] H H') : HeapAt T H' A S' b tm := by
  obtain ⟨n1, n2, n3, n4, n5, n6, n7, n8⟩ := h.nes
  obtain ⟨dx, ho⟩ := h.ob
  obtain ⟨dc, hc⟩ := h.cs.ob
  refine ⟨⟨dx, k _ _ (by simp [n5, n6]) ho⟩, c, h.jr.keep k (by simp [n7, n8]), hz, k _ _ (by simp [Ne.symm n2, Ne.symm n3]) h.td, ⟨fun e he => k _ _ ?_ (h.tk.tl e he), h.tk.nl, h.tk.nd, h.tk.nk, h.tk.kr, h.tk.bf⟩⟩
  have := ne_of (h.tk.tl e he) hc (by intro z; cases z)
  simp [h.tk.nl e he, this]
theorem own_kp {H H' : Hp} {A : HA} {tm : Tm} (k : Kp [A.c, A.l] H H') : Mvs H (own A tm) H' (own A tm) := ⟨k.mono (by unfold own; simp +contextual), fun _ h => .inl h⟩
theorem jchange_len {st : Nat} {b : Bool} {S : CS} {p : Nat} {w : Int} : (jchange st b S p w).1.words.length = S.words.length := by
  unfold jchange rdS
  have seqlen : ∀ (r : CS × Out) (k : CS → CS × Out), (∀ S', (k S').1.words.length = S'.words.length) → (seqS r k).1.words.length = r.1.words.length := fun r k hk => by
    unfold seqS
    split
    · exact hk _
    · rfl
  have wlen : ∀ (S : CS) i w, (wS S i w).1.words.length = S.words.length := fun S i w => writeS_len
  split
  · split
    · dsimp only
      split
      · rfl
      · rw [seqlen _ _ fun S' => by
          rw [seqlen _ _ fun S' => by
            rw [seqlen _ _ fun S' => wlen _ _ _]
            exact wlen _ _ _]
          exact wlen _ _ _]
        exact wlen _ _ _
    · rfl
  · exact wlen _ _ _
def sp_Heap_write {K : PySem.W.Frag} {mg : Str → Option Value} (T : Txt K mg) : Sp := fun vs H Q E => ∃ (A : HA) (S : CS) (b : Bool) (tm : Tm) (f : Nat) (pos : Nat → Nat) (M : List (Nat × Ob)) (n : Nat) (o : Ob) (i : Nat) (w : Int), vs = [.ref A.h, .int n, .int i, .int w] ∧ Hold T H A S b tm f pos M ∧ (n, o) ∈ M ∧ i < o.vals.length ∧ (b = true → CntOk 0 S) ∧
  (o.kind = -2 → ∀ H' tm', Hold T H' A S b tm' f pos (mapM (gSet n i w) M) → Mvs H (own A tm) H' (own A tm') → Q .non H') ∧
  (o.kind ≠ -2 → ∀ H', HeapAt T H' A (jchange 0 b S (rm f + pos n + 3 + i) w).1 b tm → Mvs H (own A tm) H' (own A tm) → tellE T Q E (jchange 0 b S (rm f + pos n + 3 + i) w).2 H')
theorem ok_Heap_write (T : Txt K mg) : FnOk P w K mg base (L2.CX P w) 6 T.f_Heap_write T.d_Heap_write ["self", "number", "place", "word"] (sp_Heap_write T) := by
  refine T.k_Heap_write.okX sc_Heap_write (fun vs H Q E h => ?_) (fun cdv A outer s H vs Q E hr h => ?_)
  · obtain ⟨A, S, b, tm, f, pos, M, n, o, i, w, rfl, _⟩ := h
    rfl
  · obtain ⟨A, S, b, tm, f, pos, M, n, o, i, w, rfl, h, hm, hi, hcn, q1, q2⟩ := h
    refine ⟨_, (pss_one (ps_if (pt_cmpR op_eq (pe_meth (pv 0) T.cl_Heap T.me_Heap_kind (ok_Heap_kind T) (hr.mono (by decide)) T.b_Heap_kind .nil pass0 (pa_cons (pv 1) pa_nil)) (pe_glob (v := .int _) rfl T.g_TEMP ⟨_, rfl⟩) (nomark _)) (pss_one (ps_asg (pv 3) (pg_sub (pe_meth (pv 0) T.cl_Heap T.me_Heap__temp (ok_Heap__temp T) (hr.mono (by decide)) T.b_Heap__temp .nil pass0 (pa_cons (pv 1) pa_nil)) (pv 2) set_list))) (pss_one (ps_expr (pe_methS (pe_fldK K (pv 0) rfl) T.cl_Journal T.me_Journal_change (ok_Journal_change T) (hr.mono (by decide)) T.b_Journal_change (fun σ => passAt (takes_of rfl rfl rfl rfl) σ) (pa_cons (pe_op op_add (pe_op op_add (pe_meth (pv 0) T.cl_Heap T.me_Heap__place (ok_Heap__place T) (hr.mono (by decide)) T.b_Heap__place .nil pass0 (pa_cons (pv 1) pa_nil)) (pe_glob (v := .int _) rfl T.g_HEAD_CELLS ⟨_, rfl⟩)) (pv 2)) (pa_cons (pv 3) pa_nil))))))), ?_⟩
    obtain ⟨dx, ho⟩ := h.at_.ob
    obtain ⟨dj, hj⟩ := h.at_.jr
    walk_at "rd"
    refine i_meth ho rfl ⟨A, M, n, o, rfl, ⟨S, b, tm, f, pos, h⟩, hm, ?_⟩
    walk_at "rd"
    refine ite2 (fun e => ?_) (fun e => ?_)
    · walk_at "rd"
      refine i_meth ho rfl ⟨A, S, b, tm, f, pos, M, n, o, rfl, h, hm, e, fun H' tm' a h' mv hin => ?_⟩
      walk_at "rd"
      have hat := h'.at_.tk.tl _ hin
      refine i_setL hat (j := i) (by rw [List.length_map]; exact ixN_of hi) ?_
      have e1 : (o.vals.map V.int).set i (V.int w) = (o.vals.set i w).map V.int := by rw [List.map_set]
      rw [e1]
      have hkey : n ∈ tm'.map (·.1) := List.mem_map.mpr ⟨_, hin, rfl⟩
      have only : ∀ x ∈ tm', x.1 ≠ n → x.2.1 ≠ a := fun x hx hne z => hne (by rw [addr_uniq h'.at_.tk.nd hx hin z])
      have k2 := h'.at_.tk.rep (H' := upd H' a (.lst ((o.vals.set i w).map V.int))) (n := n) (a := a) (vs := o.vals.set i w) hkey upd_same (h'.at_.tk.nl _ hin) only (fun x hx hne => by rw [upd_ne (only x hx hne)]; exact h'.at_.tk.tl x hx) (fun h61 => by
        subst h61; rw [List.length_set]; exact (h.rep.buf_o hm).2.2)
      obtain ⟨dx', ho'⟩ := h'.at_.ob
      obtain ⟨dc', hc'⟩ := h'.at_.cs.ob
      obtain ⟨dj', hj'⟩ := h'.at_.jr
      have na : a ∉ [A.h, A.c, A.l, A.j, A.dt] := by
        have t1 := ne_of hat ho' (by intro z; cases z)
        have t2 := ne_of hat hc' (by intro z; cases z)
        have t3 := h'.at_.tk.nl _ hin
        have t4 := ne_of hat hj' (by intro z; cases z)
        have t5 := ne_of hat h'.at_.td (by intro z; cases z)
        simp only [List.mem_cons, List.not_mem_nil, or_false, not_or]
        exact ⟨t1, t2, t3, t4, t5⟩
      simp only [List.mem_cons, List.not_mem_nil, or_false, not_or] at na
      obtain ⟨t1, t2, t3, t4, t5⟩ := na
      have hz : HeapAt T (upd H' a (.lst ((o.vals.set i w).map V.int))) A S b (repT tm' n a (o.vals.set i w)) :=
        ⟨⟨dx', by rw [upd_ne (Ne.symm t1)]; exact ho'⟩, h'.at_.cs.keep (Kp.set (X := [a]) (by simp)) (by simpa using Ne.symm t2) (by simpa using Ne.symm t3), h'.at_.jr.keep (Kp.set (X := [a]) (by simp)) (by simpa using Ne.symm t4), h'.at_.sz, by
          rw [upd_ne (Ne.symm t5), tmK_rep0]
          · exact h'.at_.td
          · intro x hx hxn
            have h3 : x = (n, a, o.vals) := by
              have h1 := find_in h'.at_.tk.nk hx
              have h2 := find_in h'.at_.tk.nk hin
              rw [hxn] at h1
              rw [h1] at h2
              exact Option.some.inj h2
            rw [h3], k2⟩
      refine q1 e _ _ ⟨hz, ?_, h.on⟩ (mv.trans ⟨Kp.set (own_mem hin), fun x hx => ?_⟩)
      · refine h'.rep.temp (n := n) gSet_len (fun m u _ hne => by unfold gSet; rw [if_neg hne]) (fun u hu => ?_) (by rw [tval_some h'.at_.tk.nk hin]; rfl)
        obtain rfl := mem_uniq h.rep.nk hm hu
        refine ⟨e, ?_⟩
        unfold gSet
        rw [if_pos rfl]
      · rcases own_rep hx with hx | rfl
        · exact .inl hx
        · exact .inl (own_mem hin)
    · have hr := h.rep.rng n o hm
      have hn : n ≤ 60 := by
        by_cases h61 : n = 61
        · subst h61; exact absurd (h.rep.buf_o hm).1 e
        · omega
      walk_at "rd"
      refine i_fld T.cl_Heap T.nf_Heap_journal ho rfl (i_meth hj rfl (i_meth ho rfl ⟨A, S, b, tm, f, pos, M, n, o, rfl, h, hm, hn, ?_⟩))
      walk_at "rd"
      have hp := h.rep.p_le hm hn
      have hf := h.rep.f2
      have hsz := h.at_.sz
      refine ⟨A.j, A.c, A.l, 0, b, S, rm f + pos n + 3 + i, w, ?_, h.at_.jr, h.at_.cs, by rw [hsz]; unfold rm; omega, hcn, fun H' hc' kp' => ?_⟩
      · rw [show ((rm f + pos n + 3 + i : Nat) : Int) = ((rm f + pos n : Nat) : Int) + 3 + i by omega]
      · exact q2 e H' (h.at_.cell hc' (by rw [jchange_len]; exact hsz) kp') (own_kp kp')
/-- the buffer is filled -/
def gBuf (vs : List Int) : Nat → Ob → Ob := fun m o => if m = 61 then ⟨-2, 0, vs⟩ else o
def bufV (ds : List Int) : List Int := ds ++ List.replicate (64 - ds.length) 0
theorem bufV_len {ds : List Int} (h : ds.length ≤ 64) : (bufV ds).length = 64 := by unfold bufV; rw [List.length_append, List.length_replicate]; omega
def sp_Heap_fill {K : PySem.W.Frag} {mg : Str → Option Value} (T : Txt K mg) : Sp := fun vs H Q _ => ∃ (A : HA) (S : CS) (b : Bool) (tm : Tm) (f : Nat) (pos : Nat → Nat) (M : List (Nat × Ob)) (t : Addr) (ds : List Int), vs = [.ref A.h, .ref t] ∧ Hold T H A S b tm f pos M ∧ H t = some (.tup (ds.map V.int)) ∧ ds.length ≤ 64 ∧
  ∀ H' tm', Hold T H' A S b tm' f pos (mapM (gBuf (bufV ds)) M) → Mvs H (own A tm) H' (own A tm') → Q .non H'
theorem ok_Heap_fill (T : Txt K mg) : FnOk P w K mg base CX0 1 T.f_Heap_fill T.d_Heap_fill ["self", "data"] (sp_Heap_fill T) := by
  refine T.k_Heap_fill.ok sc_Heap_fill (fun vs H Q E h => ?_) (fun cdv A outer s H vs Q E hr h => ?_)
  · obtain ⟨A, S, b, tm, f, pos, M, t, ds, rfl, _⟩ := h
    rfl
  · obtain ⟨A, S, b, tm, f, pos, M, t, ds, rfl, h, ht, hl, q⟩ := h
    refine ⟨_, (pss_one (ps_dput (hu_of hr) (pe_fldK K (pv 0) rfl) (pe_glob (v := .int _) rfl T.g_BUFFER ⟨_, rfl⟩) (pe_op op_cat (pe_callTy call_list_of (by rfl) T.m_list (by decide +kernel) (pa_cons (pv 1) pa_nil)) (pe_op op_rep (pe_lst (pa_cons pe_int pa_nil)) (pe_op op_sub (pe_glob (v := .int _) rfl T.g_MOST_BUFFER ⟨_, rfl⟩) (pe_callB (lenTK K) (by rfl) T.m_len (by decide +kernel) (pa_cons (pv 1) pa_nil))))) rfl)), ?_⟩
    obtain ⟨dx, ho⟩ := h.at_.ob
    walk_at "rd"
    refine ⟨_, .inr (sqT_of ht), fun p1 hp1 p2 hp2 => ?_⟩
    have s1 : Same H (upd (upd H p1 (.lst (ds.map V.int))) p2 (.lst [.int 0])) := (same_new hp1).trans (same_new hp2)
    have e1 : upd (upd H p1 (.lst (ds.map V.int))) p2 (.lst [.int 0]) p1 = some (.lst (ds.map V.int)) := same_new hp2 _ _ upd_same
    have e2 : upd (upd H p1 (.lst (ds.map V.int))) p2 (.lst [.int 0]) p2 = some (.lst [.int 0]) := upd_same
    generalize upd (upd H p1 (.lst (ds.map V.int))) p2 (.lst [.int 0]) = H1 at s1 e1 e2
    refine i_lenT (sqT_of (s1 _ _ ht)) ?_
    walk_at "rd"
    rw [List.length_map]
    refine i_rep e2 (by omega) (by omega) (line5 (by show 1 * _ ≤ _; omega)) fun p3 hp3 => ?_
    rw [rep1, show ((64 : Int) - (ds.length : Nat)).toNat = 64 - ds.length by omega]
    refine i_cat (same_new hp3 _ _ e1) upd_same (line5 (by rw [List.length_map, List.length_replicate]; omega)) fun a ha => ?_
    have e3 : ds.map V.int ++ List.replicate (64 - ds.length) (V.int 0) = (bufV ds).map V.int := by unfold bufV; rw [List.map_append, List.map_replicate]
    rw [e3]
    have s2 := (s1.trans (same_new (o := .lst (List.replicate (64 - ds.length) (V.int 0))) hp3)).trans (same_new (o := .lst ((bufV ds).map V.int)) ha)
    have haf : H a = none := (s1.trans (same_new (o := .lst (List.replicate (64 - ds.length) (V.int 0))) hp3)).free ha
    have ha2 : upd (upd H1 p3 (.lst (List.replicate (64 - ds.length) (V.int 0)))) a (.lst ((bufV ds).map V.int)) a = some (.lst ((bufV ds).map V.int)) := upd_same
    generalize upd (upd H1 p3 (.lst (List.replicate (64 - ds.length) (V.int 0)))) a (.lst ((bufV ds).map V.int)) = H2 at s2 ha2
    have h2 := h.same s2
    refine i_fld T.cl_Heap T.nf_Heap_temps (s2 _ _ ho) rfl ?_
    refine i_dputI h2.at_.td (line5' (by unfold tmK; rw [List.length_map]; have := h2.at_.tk.len; omega)) ?_
    have hkey : 61 ∈ tm.map (·.1) := by
      obtain ⟨x, us, h1, _⟩ := h.at_.tk.bf
      exact List.mem_map.mpr ⟨_, h1, rfl⟩
    rw [show (61 : Int) = ((61 : Nat) : Int) from rfl, tmK_rep (vs := bufV ds) hkey]
    have k2 := h2.at_.tk.rep (H' := H2) (n := 61) (a := a) (vs := bufV ds) hkey ha2 (fun z => by rw [z] at haf; have := h.at_.cs.ws; rw [haf] at this; cases this) (fun x hx _ z => by have := h.at_.tk.tl x hx; rw [z, haf] at this; cases this) (fun x hx _ => h2.at_.tk.tl x hx) (fun _ => bufV_len hl)
    refine q _ _ ⟨h2.at_.dict k2, h.rep.temp (n := 61) (fun m u hu => ?_) (fun m u _ hne => by unfold gBuf; rw [if_neg hne]) (fun u hu => ⟨(h.rep.buf_o hu).1, by unfold gBuf; rw [if_pos rfl]⟩) ?_, h.on⟩ ⟨fun x u hx hu => ?_, fun x hx => ?_⟩
    · unfold gBuf
      by_cases h61 : m = 61
      · subst h61
        rw [if_pos rfl]
        obtain ⟨b1, b2, b3⟩ := h.rep.buf_o hu
        exact ⟨b1.symm, b2.symm, by rw [b3]; exact bufV_len hl⟩
      · rw [if_neg h61]; exact ⟨rfl, rfl, rfl⟩
    · obtain ⟨x, us, h1, _⟩ := h.at_.tk.bf
      rw [tval_some h.at_.tk.nk h1]; rfl
    · rw [upd_ne (fun z => hx (by rw [z]; unfold own; simp))]
      exact s2 _ _ hu
    · rcases own_rep hx with hx | rfl
      · exact .inl hx
      · exact .inr haf

/-! ### rows of writes -/
def wlog : CS → List (Nat × Int) → CS × Bool
  | S, [] => (S, true)
  | S, p :: t => if (writeS S p.1 p.2).2 = true then wlog (writeS S p.1 p.2).1 t else ((writeS S p.1 p.2).1, false)
theorem wlog_app : ∀ (a : List (Nat × Int)) (S : CS) (t : List (Nat × Int)), wlog S (a ++ t) = if (wlog S a).2 = true then wlog (wlog S a).1 t else ((wlog S a).1, false)
  | [], S, t => by
    show wlog S t = _
    rw [if_pos (show (wlog S []).2 = true from rfl)]; rfl
  | p :: a, S, t => by
    show wlog S (p :: (a ++ t)) = _
    by_cases e : (writeS S p.1 p.2).2 = true
    · have h1 : wlog S (p :: (a ++ t)) = wlog (writeS S p.1 p.2).1 (a ++ t) := if_pos e
      have h2 : wlog S (p :: a) = wlog (writeS S p.1 p.2).1 a := if_pos e
      rw [h1, h2, wlog_app a]
    · have h1 : wlog S (p :: (a ++ t)) = ((writeS S p.1 p.2).1, false) := if_neg e
      have h2 : wlog S (p :: a) = ((writeS S p.1 p.2).1, false) := if_neg e
      rw [h1, h2, if_neg (by simp)]
theorem wlog_len : ∀ (a : List (Nat × Int)) (S : CS), (wlog S a).1.words.length = S.words.length
  | [], _ => rfl
  | p :: a, S => by
    by_cases e : (writeS S p.1 p.2).2 = true
    · have h2 : wlog S (p :: a) = wlog (writeS S p.1 p.2).1 a := if_pos e
      rw [h2, wlog_len a, writeS_len]
    · have h2 : wlog S (p :: a) = ((writeS S p.1 p.2).1, false) := if_neg e
      rw [h2]; exact writeS_len
def applyL (W : List Int) (l : List (Nat × Int)) : List Int := l.foldl (fun W p => W.set p.1 p.2) W
theorem applyL_len : ∀ (l : List (Nat × Int)) (W : List Int), (applyL W l).length = W.length
  | [], _ => rfl
  | p :: t, W => by
    show (applyL (W.set p.1 p.2) t).length = _
    rw [applyL_len t, List.length_set]
theorem applyL_out {i : Nat} : ∀ (l : List (Nat × Int)) (W : List Int), (∀ p ∈ l, p.1 ≠ i) → (applyL W l).getD i 0 = W.getD i 0
  | [], _, _ => rfl
  | p :: t, W, h => by
    show (applyL (W.set p.1 p.2) t).getD i 0 = _
    rw [applyL_out t _ fun q hq => h q (List.mem_cons_of_mem _ hq), getD_setN (h p List.mem_cons_self)]
theorem applyL_app {l t : List (Nat × Int)} {W : List Int} : applyL W (l ++ t) = applyL (applyL W l) t := List.foldl_append
theorem wlog_ok : ∀ {l : List (Nat × Int)} {S : CS}, (wlog S l).2 = true → (wlog S l).1.words = applyL S.words l ∧ (S.on = true → (wlog S l).1.on = true)
  | [], _, _ => ⟨rfl, id⟩
  | p :: t, S, h => by
    by_cases e : (writeS S p.1 p.2).2 = true
    · have h2 : wlog S (p :: t) = wlog (writeS S p.1 p.2).1 t := if_pos e
      rw [h2] at h ⊢
      obtain ⟨a, b⟩ := wlog_ok (l := t) h
      obtain ⟨c, d, _⟩ := writeS_on e
      exact ⟨by rw [a, c]; rfl, fun _ => b d⟩
    · have h2 : wlog S (p :: t) = ((writeS S p.1 p.2).1, false) := if_neg e
      rw [h2] at h; cases h
theorem wlog_up : ∀ {l : List (Nat × Int)} {W : List Int}, wlog ⟨W, none, true⟩ l = (⟨applyL W l, none, true⟩, true)
  | [], _ => rfl
  | p :: t, W => by
    show wlog ⟨W.set p.1 p.2, none, true⟩ t = _
    rw [wlog_up]; rfl
def wordsAt : Nat → List Int → List (Nat × Int)
  | _, [] => []
  | b, w :: t => (b, w) :: wordsAt (b + 1) t
theorem wordsAt_app : ∀ (a : List Int) (b : Nat) (t : List Int), wordsAt b (a ++ t) = wordsAt b a ++ wordsAt (b + a.length) t
  | [], _, _ => rfl
  | w :: a, b, t => by
    show (b, w) :: wordsAt (b + 1) (a ++ t) = (b, w) :: wordsAt (b + 1) a ++ _
    rw [wordsAt_app a, List.length_cons, show b + 1 + a.length = b + (a.length + 1) by omega]; rfl
theorem wordsAt_mem : ∀ {l : List Int} {b : Nat} {p : Nat × Int}, p ∈ wordsAt b l → b ≤ p.1 ∧ p.1 < b + l.length
  | w :: t, b, p, h => by
    rcases List.mem_cons.mp h with rfl | h
    · exact ⟨Nat.le_refl _, by rw [List.length_cons]; show b < _; omega⟩
    · have := wordsAt_mem (l := t) h
      rw [List.length_cons]
      omega
theorem applyL_in : ∀ {l : List Int} {b k : Nat} {W : List Int}, k < l.length → b + l.length ≤ W.length → (applyL W (wordsAt b l)).getD (b + k) 0 = l.getD k 0
  | w :: t, b, 0, W, _, hz => by
    show (applyL (W.set b w) (wordsAt (b + 1) t)).getD b 0 = w
    rw [applyL_out _ _ fun p hp => by have := wordsAt_mem hp; omega]
    rw [List.length_cons] at hz
    exact getD_setE (by omega)
  | w :: t, b, k + 1, W, hk, hz => by
    show (applyL (W.set b w) (wordsAt (b + 1) t)).getD (b + (k + 1)) 0 = t.getD k 0
    rw [List.length_cons] at hk hz
    rw [show b + (k + 1) = b + 1 + k by omega]
    exact applyL_in (l := t) (by omega) (by rw [List.length_set]; omega)
theorem Rep.agree {W W' : List Int} {f : Nat} {pos : Nat → Nat} {M : List (Nat × Ob)} {tm : Tm} (R : Rep W f pos M tm) (h : ∀ i, i = 81 ∨ (tb f ≤ i ∧ i < rm f + usd M) → W'.getD i 0 = W.getD i 0) : Rep W' f pos M tm := by
  have hrt : rm f = tb f + 60 := by unfold rm tb; omega
  refine ⟨R.f2, by rw [h _ (.inl rfl)]; exact R.half, R.nk, R.rng, R.buf, fun n h1 h2 h3 => by rw [h _ (.inr ⟨by omega, by omega⟩)]; exact R.non n h1 h2 h3, fun n o ho hn => ?_, R.tmp, R.us, R.dj, R.le⟩
  have B := R.ob n o ho hn
  have u := R.us n o ho hn
  have r := R.rng n o ho
  exact ⟨by rw [h _ (.inr ⟨by omega, by omega⟩)]; exact B.tab, by rw [h _ (.inr ⟨by omega, by omega⟩)]; exact B.kd, by rw [h _ (.inr ⟨by omega, by omega⟩)]; exact B.ow, by rw [h _ (.inr ⟨by omega, by omega⟩)]; exact B.sz, fun k j hj => by rw [h _ (.inr ⟨by omega, by omega⟩)]; exact B.vs k j hj⟩
def headW (o : Ob) : List Int := o.kind :: o.owner :: (o.vals.length : Int) :: (if o.kind = -2 then [] else o.vals)
theorem headW_len {o : Ob} : (headW o).length ≤ 3 + o.vals.length := by
  unfold headW
  rw [List.length_cons, List.length_cons, List.length_cons]
  split
  · show 0 + 1 + 1 + 1 ≤ _; omega
  · omega
def newOb (kind owner : Int) (size : Nat) : Ob := ⟨kind, owner, List.replicate size 0⟩
def makeL (f u n : Nat) (o : Ob) : List (Nat × Int) := wordsAt (rm f + u) (headW o) ++ [(tb f + n - 1, ((u + 1 : Nat) : Int))]
structure Least (M : List (Nat × Ob)) (n : Nat) : Prop where
  lo : 1 ≤ n
  hi : n ≤ 60
  out : ∀ o, (n, o) ∉ M
  le : ∀ m, 1 ≤ m → m < n → ∃ o, (m, o) ∈ M
def tmDrop (tm : Tm) (n : Nat) : Tm := tm.filter fun e => decide (e.1 ≠ n)
theorem tmK_drop {tm : Tm} {n : Nat} : dropK (tmK tm) (.inl (n : Int)) = tmK (tmDrop tm n) := by
  unfold dropK tmK tmDrop
  rw [List.filter_map]
  congr 1
  refine List.filter_congr fun e _ => ?_
  show decide ((Sum.inl (e.1 : Int) : Key) ≠ Sum.inl (n : Int)) = decide (e.1 ≠ n)
  by_cases he : e.1 = n
  · rw [he]; simp
  · rw [decide_eq_true he, decide_eq_true]
    intro z; injection z with z; exact he (by omega)
theorem TmOk.drop {H : Hp} {l : Addr} {tm : Tm} (k : TmOk H l tm) {n : Nat} (hn : n ≠ 61) : TmOk H l (tmDrop tm n) := by
  unfold tmDrop
  refine ⟨fun e he => k.tl e (List.mem_filter.mp he).1, fun e he => k.nl e (List.mem_filter.mp he).1, List.Sublist.nodup (List.Sublist.map _ List.filter_sublist) k.nd, List.Sublist.nodup (List.Sublist.map _ List.filter_sublist) k.nk, fun e he => k.kr e (List.mem_filter.mp he).1, ?_⟩
  obtain ⟨a, vs, h1, h2⟩ := k.bf
  exact ⟨a, vs, List.mem_filter.mpr ⟨h1, decide_eq_true (Ne.symm hn)⟩, h2⟩
theorem tmDrop_none {tm : Tm} {n : Nat} (h : tm.find? (fun e => decide (e.1 = n)) = none) : tmDrop tm n = tm := by
  unfold tmDrop
  rw [List.filter_eq_self]
  intro e he
  have := List.find?_eq_none.mp h e he
  simpa using this
theorem own_drop {A : HA} {tm : Tm} {n : Nat} {x : Addr} (h : x ∈ own A (tmDrop tm n)) : x ∈ own A tm := by
  unfold own tmDrop at h
  rcases List.mem_cons.mp h with h | h
  · unfold own; simp [h]
  rcases List.mem_cons.mp h with h | h
  · unfold own; simp [h]
  rcases List.mem_cons.mp h with h | h
  · unfold own; simp [h]
  obtain ⟨e, he, rfl⟩ := List.mem_map.mp h
  exact own_mem (List.mem_filter.mp he).1
theorem inV_ints {a : Int} {l : List Int} : inV (.int a) (l.map V.int) = decide (a ∈ l) := by
  unfold inV
  rw [List.any_map, Bool.eq_iff_iff, List.any_eq_true, decide_eq_true_eq]
  constructor
  · rintro ⟨x, hx, e⟩
    have e : (x == a) = true := e
    rw [beq_iff_eq] at e
    rw [← e]; exact hx
  · intro h
    exact ⟨a, h, by show (a == a) = true; simp⟩
theorem flat_ints {l : List Int} : (l.map V.int).all flatV = true := by
  rw [List.all_map, List.all_eq_true]; intro x _; rfl
def sp_Heap_make {K : PySem.W.Frag} {mg : Str → Option Value} (T : Txt K mg) : Sp := fun vs H Q E => ∃ (A : HA) (S : CS) (b : Bool) (tm : Tm) (f : Nat) (pos : Nat → Nat) (M : List (Nat × Ob)) (kind owner : Int) (size : Nat), vs = [.ref A.h, .int kind, .int owner, .int size] ∧ Hold T H A S b tm f pos M ∧
  ((cnt M = 60 ∨ 400 < usd M + 3 + size) → ∀ H' dx, Same H H' → H' dx = none → E (.ref T.c_Fault) (some dx) (upd H' dx (.xd [("code", .int (-6))]))) ∧
  (¬ (cnt M = 60 ∨ 400 < usd M + 3 + size) → ∀ H' tm' n, Least M n → HeapAt T H' A (wlog S (makeL f (usd M) n (newOb kind owner size))).1 b tm' → Mvs H (own A tm) H' (own A tm') → ((wlog S (makeL f (usd M) n (newOb kind owner size))).2 = true → tm' = tmDrop tm n → Q (.int n) H') ∧ ((wlog S (makeL f (usd M) n (newOb kind owner size))).2 = false → E (.ref T.c_PowerCut) none H'))
theorem least_ex {M : List (Nat × Ob)} (nk : (M.map (·.1)).Nodup) (rng : ∀ n o, (n, o) ∈ M → 1 ≤ n ∧ n ≤ 61) (h : cnt M ≠ 60) : ∃ n, Least M n := by
  have hex : ∃ n, 1 ≤ n ∧ n ≤ 60 ∧ (M.any fun e => decide (e.1 = n)) = false := by
    refine Classical.byContradiction fun hn => h ?_
    have all : ∀ n, 1 ≤ n → n ≤ 60 → (M.any fun e => decide (e.1 = n)) = true := fun n h1 h2 => by
      cases e : M.any fun e => decide (e.1 = n) with
      | true => rfl
      | false => exact absurd ⟨n, h1, h2, e⟩ hn
    rw [← numL_cnt nk rng]
    unfold numL
    rw [List.filter_eq_self.mpr, List.length_map, List.length_range]
    intro n hn
    obtain ⟨i, hi, rfl⟩ := List.mem_map.mp hn
    have := List.mem_range.mp hi
    exact all _ (by omega) (by omega)
  have key : ∀ k n, n = k → 1 ≤ n → n ≤ 60 → (M.any fun e => decide (e.1 = n)) = false → ∃ m, Least M m := by
    intro k
    induction k using Nat.strongRecOn with
    | _ k ih =>
      rintro n rfl h1 h2 h3
      by_cases hl : ∃ m, 1 ≤ m ∧ m < n ∧ (M.any fun e => decide (e.1 = m)) = false
      · obtain ⟨m, m1, m2, m3⟩ := hl
        exact ih m m2 m rfl m1 (by omega) m3
      · refine ⟨n, h1, h2, (fun o ho => by rw [mem_any.mpr ⟨o, ho⟩] at h3; cases h3), fun m m1 m2 => ?_⟩
        cases e : M.any fun e => decide (e.1 = m) with
        | true => exact mem_any.mp e
        | false => exact absurd ⟨m, m1, m2, e⟩ hl
  obtain ⟨n, h1, h2, h3⟩ := hex
  exact key n n rfl h1 h2 h3
inductive MidW (H : Hp) (vs : List V) (lw : Addr) (ws : List Int) : L2.St → Hp → Prop where
  | mk (H2 : Hp) (fr : H lw = none) (s : Same H H2) (at_ : H2 lw = some (.lst (ws.map V.int))) : MidW H vs lw ws (vs.map some ++ [none, none, none, none]) H2
/-- i words are written -/
inductive MidL (T : Txt K mg) (H : Hp) (A : HA) (S : CS) (b : Bool) (tm : Tm) (f : Nat) (pos : Nat → Nat) (M : List (Nat × Ob)) (bs : Nat) (ws : List Int) (lw : Addr) (vs : List V) (i : Nat) : L2.St → Hp → Prop where
  | mk (H2 : Hp) (S' : CS) (y z : Option V) (h : Hold T H2 A S' b tm f pos M) (es : wlog S (wordsAt bs (ws.take i)) = (S', true)) (at_ : H2 lw = some (.lst (ws.map V.int))) (mv : Mvs H (own A tm) H2 (own A tm)) : MidL T H A S b tm f pos M bs ws lw vs i (vs.map some ++ [y, z, none, none]) H2
theorem ok_Heap_make (T : Txt K mg) : FnOk P w K mg base (L2.CX P w) 6 T.f_Heap_make T.d_Heap_make ["self", "kind", "owner", "size"] (sp_Heap_make T) := by
  refine T.k_Heap_make.okX sc_Heap_make (fun vs H Q E h => ?_) (fun cdv A outer s H vs Q E hr h => ?_)
  · obtain ⟨A, S, b, tm, f, pos, M, kind, owner, size, rfl, _⟩ := h
    rfl
  · obtain ⟨A, S, b, tm, f, pos, M, kind, owner, size, rfl, h, q1, q2⟩ := h
    refine ⟨_, (pss_cons (ps_asg (pe_meth0 (pv 0) T.cl_Heap T.me_Heap_used (ok_Heap_used T) (hr.mono (by decide)) T.b_Heap_used .nil pass0) (pg_tup rfl (pgs_cons (pg_name (i := 4) sc_Heap_make.nd rfl (Or.inl rfl)) (pgs_cons (pg_name (i := 5) sc_Heap_make.nd rfl (Or.inl rfl)) pgs_nil))))
      (pss_cons (ps_if (PW.pt (pw_or (pt_cmpR op_eq (pv 5) (pe_glob (v := .int _) rfl T.g_MOST_OBJECTS ⟨_, rfl⟩) (nomark _)) (pw_or1 (pt_cmpR op_gt (pe_op op_add (pe_op op_add (pv 4) (pe_glob (v := .int _) rfl T.g_HEAD_CELLS ⟨_, rfl⟩)) (pv 3)) (pe_glob (v := .int _) rfl T.g_MOST_CELLS ⟨_, rfl⟩) (nomark _))))) (pss_one (ps_raise rfl (takes_of rfl rfl rfl rfl) (pmk_oex T.ox_Fault T.in_Fault T.ti_Fault (ok_Fault_init T) (hr.mono (by decide)) T.b_Fault_init .nil pass0 rfl T.g_Fault (pa_cons (pe_glob (v := .int _) rfl T.g_ROOM ⟨_, rfl⟩) pa_nil)))) pss_nil)
      (pss_cons (ps_set (i := 6) sc_Heap_make.nd rfl (.inl rfl) (pe_meth0 (pv 0) T.cl_Heap T.me_Heap__half (ok_Heap__half T) (hr.mono (by decide)) T.b_Heap__half .nil pass0))
      (pss_cons (ps_set (i := 7) sc_Heap_make.nd rfl (.inl rfl) (pe_lst (pa_cons (pv 1) (pa_cons (pv 2) (pa_cons (pv 3) pa_nil)))))
      (C8.pss_cut (ps_if (pt_cmpR op_ne (pv 1) (pe_glob (v := .int _) rfl T.g_TEMP ⟨_, rfl⟩) (nomark _)) (pss_one (ps_expr (pe_bmK K PySem.F.plainAttrs_list PySem.F.slot_list_extend PySem.F.type_list_extend mt_extend (pv 7) (pa_cons (pe_op op_rep (pe_lst (pa_cons pe_int pa_nil)) (pv 3)) pa_nil)))) pss_nil)
      (pss_cons (ps_for (passes_of rfl) rfl (pi_enum (by rfl) T.m_enumerate (pa_cons (pv 7) pa_nil)) (pg_tup rfl (pgs_cons (pg_name (i := 8) sc_Heap_make.nd rfl (Or.inl rfl)) (pgs_cons (pg_name (i := 9) sc_Heap_make.nd rfl (Or.inl rfl)) pgs_nil))) (pss_one (ps_expr (pe_methS (pe_fldK K (pv 0) rfl) T.cl_Cells T.me_Cells_write (ok_Cells_write T) (hr.mono (by decide)) T.b_Cells_write (fun σ => passAt (takes_of rfl rfl rfl rfl) σ) (pa_cons (pe_op op_add (pe_op op_add (pe_meth (pv 0) T.cl_Heap T.me_Heap__room (ok_Heap__room T) (hr.mono (by decide)) T.b_Heap__room .nil pass0 (pa_cons (pv 6) pa_nil)) (pv 4)) (pv 8)) (pa_cons (pv 9) pa_nil))))))
      (pss_cons (ps_set (i := 10) sc_Heap_make.nd rfl (.inr rfl) (pe_meth0 (pv 0) T.cl_Heap T.me_Heap_numbers (ok_Heap_numbers T) (hr.mono (by decide)) T.b_Heap_numbers .nil pass0))
      (pss_cons (ps_set (i := 11) sc_Heap_make.nd rfl (.inl rfl) (pe_callB (cr_min rfl) (by rfl) T.m_min (by decide +kernel) (pa_cons (pe_lc (own := [("number", 11)]) (g := gName 11) rfl sc_Heap_make.nd (pi_range2 (by rfl) T.m_range (pa_cons pe_int (pa_cons (pe_op op_add (pe_glob (v := .int _) rfl T.g_MOST_OBJECTS ⟨_, rfl⟩) pe_int) pa_nil))) (blkOk_by (own := [("number", 11)]) (N := ["self", "kind", "owner", "size", "used", "objects", "half", "words", "index", "word", "taken", "number"]) (sc := defScope s_Heap_make) (by decide +kernel)) (fun _ _ _ _ _ => pg_name (i := 11) sc_Heap_make.nd rfl (Or.inl rfl)) (fun _ _ _ _ _ => pts_one (pt_cmpR (notIn_seqK K) (pv 11) (pv 10) rfl)) (fun _ _ _ _ _ => (pv 11))) pa_nil)))
      (pss_cons (ps_expr (pe_dpop2 (pe_fldK K (pv 0) rfl) (pv 11) pe_non ⟨rfl, rfl, rfl, rfl⟩))
      (pss_cons (ps_expr (pe_methS (pe_fldK K (pv 0) rfl) T.cl_Cells T.me_Cells_write (ok_Cells_write T) (hr.mono (by decide)) T.b_Cells_write (fun σ => passAt (takes_of rfl rfl rfl rfl) σ) (pa_cons (pe_op op_sub (pe_op op_add (pe_meth (pv 0) T.cl_Heap T.me_Heap__table (ok_Heap__table T) (hr.mono (by decide)) T.b_Heap__table .nil pass0 (pa_cons (pv 6) pa_nil)) (pv 11)) pe_int) (pa_cons (pe_op op_add (pv 4) pe_int) pa_nil))))
      (pss_one (ps_ret (pv 11))))))))))))), ?_⟩
    obtain ⟨dx, ho⟩ := h.at_.ob
    have hx : HoldX T H A M := ⟨S, b, tm, f, pos, h⟩
    walk_at "rd"
    refine rdSeq ?_
    walk_at "rd"
    refine i_meth ho rfl ⟨A, M, rfl, hx, fun H1 p hp s1 hpt => ?_⟩
    refine i_gTup2 rfl (sqT_of hpt) ?_
    have h1 := h.same s1
    clear hpt
    refine rdSeq ?_
    walk_at "rd"
    have boom : (cnt M = 60 ∨ 400 < usd M + 3 + size) → rMkO T.c_Fault (sp_Fault_init T) [] [V.int (-6)] H1 fun cls d H' => E cls d H' := fun g => i_mkO1 fun d hd => q1 g H1 d s1 hd
    refine ite2 (fun e => boom (.inl (by omega))) (fun e => ite2 (fun e2 => boom (.inr (by omega))) (fun e2 => ?_))
    clear boom q1
    have q3 := q2 (by omega)
    clear q2
    have hle : usd M + 3 + size ≤ 400 := by omega
    obtain ⟨_, ho1⟩ := h1.at_.ob
    refine rdSeq ?_
    walk_at "rd"
    refine i_meth ho1 rfl (h1.half (rdSeq ?_))
    walk_at "rd"
    intro lw hlw
    have hO : (newOb kind owner size).vals = List.replicate size 0 := rfl
    refine rdCut (MidW H1 [V.ref A.h, V.int kind, V.int owner, V.int size, V.int (usd M : Nat), V.int (cnt M : Nat), V.int f, V.ref lw] lw (headW (newOb kind owner size))) ?_ ?_
    · walk_at "rd"
      by_cases hk : kind = -2
      · rw [hk]
        walk_at "rd"
        refine .mk _ hlw (same_new hlw) (by rw [upd_same]; unfold headW newOb; rw [if_pos rfl, List.length_replicate]; rfl)
      · rw [decide_eq_false hk]
        walk_at "rd"
        refine ⟨ty_app (sqL_of upd_same), fun p2 hp2 => i_rep upd_same (by omega) (by omega) (line5 (by show 1 * _ ≤ _; omega)) fun p3 hp3 => ?_⟩
        have n2 : lw ≠ p2 := ne_of_none upd_same hp2
        have n3 : lw ≠ p3 := ne_of_none (by rw [upd_ne n2]; exact upd_same) hp3
        refine ⟨lw, p3, _, _, rfl, rfl, by rw [upd_ne n3, upd_ne n2]; exact upd_same, upd_same, line5 (by rw [rep1, List.length_replicate]; show 3 + _ ≤ _; omega), ?_⟩
        refine .mk _ hlw (fun x u hu => ?_) ?_
        · have nx : x ≠ lw := ne_of_none hu hlw
          rw [upd_ne nx]
          exact same_new hp3 _ _ (same_new hp2 _ _ (same_new hlw _ _ hu))
        · rw [upd_same, rep1]
          unfold headW
          rw [if_neg (show ¬ (newOb kind owner size).kind = -2 from hk), hO, List.length_replicate, List.map_cons, List.map_cons, List.map_cons, List.map_replicate]
          rfl
    · rintro σ H2 ⟨_, _, s2, hws⟩
      have h2 := h1.same s2
      have hlw1 : H1 lw = none := hlw
      clear hlw
      generalize hgw : headW (newOb kind owner size) = ws at hws
      have lws : ws.length ≤ 3 + size := by rw [← hgw]; have := headW_len (o := newOb kind owner size); rw [hO, List.length_replicate] at this; exact this
      have hf := h.rep.f2
      refine rdSeq ?_
      walk_at "rd"
      have mv2 : Mvs H (own A tm) H2 (own A tm) := Mvs.same (s1.trans s2)
      have nlw : lw ∉ [A.c, A.l] := by
        obtain ⟨_, hc1⟩ := h1.at_.cs.ob
        have t1 := ne_of_none hc1 hlw1
        have t2 := ne_of_none h1.at_.cs.ws hlw1
        simp [Ne.symm t1, Ne.symm t2]
      have hsplit : ∀ i (hi : i < ws.length), ws.take (i + 1) = ws.take i ++ [ws[i]] := fun i hi => by rw [List.take_add_one, List.getElem?_eq_getElem hi]; rfl
      have len1002 := h.at_.sz
      have okS : ∀ (i : Nat) (S' : CS), i ≤ ws.length → wlog S (wordsAt (rm f + usd M) (ws.take i)) = (S', true) → S'.words.length = 1002 ∧ S'.on = true ∧ Rep S'.words f pos M tm := fun i S' hi e => by
        have l1 := wlog_len (wordsAt (rm f + usd M) (ws.take i)) S
        have l2 := wlog_ok (l := wordsAt (rm f + usd M) (ws.take i)) (S := S) (by rw [e])
        rw [e] at l1 l2
        refine ⟨by rw [l1]; exact len1002, l2.2 h.on, ?_⟩
        have : S'.words = applyL S.words (wordsAt (rm f + usd M) (ws.take i)) := l2.1
        rw [this]
        refine h.rep.agree fun j hj => applyL_out _ _ fun p hp => ?_
        have := wordsAt_mem hp
        have h60 : rm f = 142 + f * 460 := rfl
        rcases hj with rfl | ⟨_, hj⟩ <;> omega
      have base : tb f + 60 = rm f := by unfold tb rm; omega
      have cutE : ∀ (a t : List (Nat × Int)) (S' : CS), wlog S a = (S', false) → wlog S (a ++ t) = (S', false) := fun a t S' e => by rw [wlog_app, e, if_neg (by simp)]
      have goS : ∀ (i : Nat) (hi : i < ws.length) (S' : CS), wlog S (wordsAt (rm f + usd M) (ws.take i)) = (S', true) → wlog S (wordsAt (rm f + usd M) (ws.take (i + 1))) = (writeS S' (rm f + usd M + i) ws[i]) := fun i hi S' e => by
        rw [hsplit i hi, wordsAt_app, wlog_app, e, if_pos rfl, List.length_take, Nat.min_eq_left (by omega)]
        show (if (writeS S' (rm f + usd M + i) ws[i]).2 = true then _ else _) = _
        by_cases e3 : (writeS S' (rm f + usd M + i) ws[i]).2 = true
        · rw [if_pos e3]
          show ((writeS S' (rm f + usd M + i) ws[i]).1, true) = _
          rw [← e3]
        · rw [if_neg e3]
          have e3 : (writeS S' (rm f + usd M + i) ws[i]).2 = false := by simpa using e3
          rw [← e3]
      obtain ⟨n0, hl0⟩ := least_ex h.rep.nk h.rep.rng (show cnt M ≠ 60 by omega)
      refine ⟨_, sqL_of hws, i_forG (walk_enum (xs := ws.map V.int)) (fun i σ H' => MidL T H A S b tm f pos M (rm f + usd M) ws lw [V.ref A.h, V.int kind, V.int owner, V.int size, V.int (usd M : Nat), V.int (cnt M : Nat), V.int f, V.ref lw] i σ H') ?_ ?_ ?_ ?_⟩
      · exact .mk H2 S none none (h.same (s1.trans s2)) rfl hws mv2
      · rintro i σ H' _ ⟨_, S', y, z, h', es, at', mv'⟩
        exact sqL_of at'
      · rintro i x σ H' H3 hi ⟨_, S', y, z, h', es, at', mv'⟩ hy
        obtain ⟨tp, x1, y1, rfl, htp, rfl, hx1, hy1⟩ := hy
        have hi : i < ws.length := by rw [List.length_map] at hi; exact hi
        cases hx1
        have hy1 : (ws.map V.int)[i]? = some y1 := hy1
        rw [List.getElem?_map, List.getElem?_eq_getElem hi] at hy1
        cases hy1
        refine i_gTup2 rfl (sqT_of upd_same) ?_
        have s3 : Same H' (upd H' tp (.tup [V.int (i : Int), V.int ws[i]])) := same_new htp
        generalize upd H' tp (.tup [V.int (i : Int), V.int ws[i]]) = H3 at s3
        have h3 := h'.same s3
        obtain ⟨_, ho3⟩ := h3.at_.ob
        obtain ⟨_, hc3⟩ := h3.at_.cs.ob
        walk_at "rd"
        refine i_fld T.cl_Heap T.nf_Heap_cells ho3 rfl (i_meth hc3 rfl (i_meth ho3 rfl ⟨A, S', b, tm, f, rfl, h3.at_, ?_⟩))
        walk_at "rd"
        refine ⟨A.c, A.l, S', rm f + usd M + i, ws[i], by rw [show ((rm f + usd M + i : Nat) : Int) = ((rm f : Nat) : Int) + (usd M : Nat) + i by omega], h3.at_.cs, by rw [h3.at_.sz]; unfold rm; omega, fun H5 hc5 kp5 => ⟨fun e5 => ?_, fun e5 => ?_⟩⟩
        · have es2 := goS i hi S' es
          have es3 : wlog S (wordsAt (rm f + usd M) (ws.take (i + 1))) = ((writeS S' (rm f + usd M + i) ws[i]).1, true) := by rw [es2, ← e5]
          obtain ⟨l1, l2, l3⟩ := okS (i + 1) _ (by omega) es3
          exact .mk H5 _ _ _ ⟨h3.at_.cell hc5 l1 kp5, l3, l2⟩ es3 (kp5 _ _ nlw (s3 _ _ at')) ((mv'.trans (Mvs.same s3)).trans (own_kp kp5))
        · have es2 := goS i hi S' es
          have es3 : wlog S (wordsAt (rm f + usd M) (ws.take (i + 1))) = ((writeS S' (rm f + usd M + i) ws[i]).1, false) := by rw [es2, ← e5]
          have es4 : wlog S (makeL f (usd M) n0 (newOb kind owner size)) = ((writeS S' (rm f + usd M + i) ws[i]).1, false) := by
            unfold makeL
            rw [hgw]
            have e6 : wordsAt (rm f + usd M) ws = wordsAt (rm f + usd M) (ws.take (i + 1)) ++ wordsAt (rm f + usd M + (ws.take (i + 1)).length) (ws.drop (i + 1)) := by rw [← wordsAt_app, List.take_append_drop]
            rw [e6, List.append_assoc]
            exact cutE _ _ _ es3
          have q4 := q3 H5 tm n0 hl0
          rw [es4] at q4
          exact (q4 (h3.at_.cell hc5 (by rw [writeS_len]; exact h3.at_.sz) kp5) ((mv'.trans (Mvs.same s3)).trans (own_kp kp5))).2 rfl
      · rintro σ H' ⟨_, S', y, z, h', es, at', mv'⟩
        rw [List.length_map, List.take_length] at es
        obtain ⟨_, ho'⟩ := h'.at_.ob
        dsimp only
        refine rdSeq ?_
        walk_at "rd"
        refine i_meth ho' rfl ⟨A, M, rfl, ⟨S', b, tm, f, pos, h'⟩, fun pn hpn => rdSeq ?_⟩
        walk_at "rd"
        have s4 : Same H' (upd H' pn (.lst ((numL M).map fun n => V.int (n : Nat)))) := same_new hpn
        have hpat : upd H' pn (.lst ((numL M).map fun n => V.int (n : Nat))) pn = some (.lst ((numL M).map fun n => V.int (n : Nat))) := upd_same
        generalize upd H' pn (.lst ((numL M).map fun n => V.int (n : Nat))) = H4 at s4 hpat
        have eL : (numL M).map (fun n => V.int (n : Nat)) = ((numL M).map fun n : Nat => (n : Int)).map V.int := by rw [List.map_map]; rfl
        rw [eL] at hpat
        refine ⟨by decide, by decide, by decide, by decide, ?_⟩
        refine i_lcF (walk_rangeL (lo := 1) (n := 60)) (fun i => !decide (i + 1 ∈ numL M)) (fun i => .int ((i + 1 : Nat) : Int)) (by rw [List.length_range]; decide) (fun _ _ _ => trivial) (fun i hi H5 Q' sm q' => ?_) (fun i hi _ H5 Q' sm q' => ?_) (fun D hD => ?_)
        · walk_at "rd"
          refine i_inL (.inl (sqL_of (sm _ _ hpat))) rfl flat_ints ?_
          rw [inV_ints]
          have e7 : decide (1 + (i : Int) ∈ (numL M).map fun n : Nat => (n : Int)) = decide (i + 1 ∈ numL M) := by
            rw [decide_eq_decide, List.mem_map]
            constructor
            · rintro ⟨x, hx, e⟩
              have : x = i + 1 := by omega
              rw [← this]; exact hx
            · intro h
              exact ⟨_, h, by omega⟩
          rw [e7]
          walk_at "rd"
          exact q'
        · walk_at "rd"
          rw [show ((i + 1 : Nat) : Int) = 1 + (i : Int) by omega] at q'
          exact q'
        · have eF : ((List.range 60).filter fun i => !decide (i + 1 ∈ numL M)).map (fun i => V.int ((i + 1 : Nat) : Int)) = (((List.range 60).filter fun i => !decide (i + 1 ∈ numL M)).map fun i => ((i + 1 : Nat) : Int)).map V.int := by rw [List.map_map]; rfl
          rw [eF]
          have fr : ∀ m : Nat, 1 ≤ m → m ≤ 60 → ((m : Int) ∈ ((List.range 60).filter fun i => !decide (i + 1 ∈ numL M)).map (fun i => ((i + 1 : Nat) : Int)) ↔ ∀ o, (m, o) ∉ M) := fun m m1 m2 => by
            rw [List.mem_map]
            constructor
            · rintro ⟨i, hi, e⟩ o ho
              have hi := (List.mem_filter.mp hi).2
              have : m = i + 1 := by omega
              subst this
              rw [decide_eq_true (mem_numL.mpr ⟨⟨m1, m2⟩, o, ho⟩)] at hi
              cases hi
            · intro h
              refine ⟨m - 1, List.mem_filter.mpr ⟨List.mem_range.mpr (by omega), ?_⟩, by omega⟩
              rw [show m - 1 + 1 = m by omega, decide_eq_false]
              · rfl
              · intro hm
                obtain ⟨_, o, ho⟩ := mem_numL.mp hm
                exact h o ho
          have mn0 := (fr n0 hl0.lo hl0.hi).mpr hl0.out
          refine ⟨D, _, rfl, sqL_of upd_same, List.length_pos_of_mem mn0, fun m hm hall => ?_⟩
          obtain ⟨n, rfl, hL⟩ : ∃ n : Nat, m = (n : Int) ∧ Least M n := by
            obtain ⟨i, hi, rfl⟩ := List.mem_map.mp hm
            have hi60 := List.mem_range.mp (List.mem_filter.mp hi).1
            refine ⟨i + 1, rfl, by omega, by omega, (fr (i + 1) (by omega) (by omega)).mp hm, fun k k1 k2 => ?_⟩
            refine Classical.byContradiction fun hn => ?_
            have := hall _ ((fr k k1 (by omega)).mpr fun o ho => hn ⟨o, ho⟩)
            omega
          clear hall hm mn0 fr eF hl0 n0
          have s5 : Same H' (upd H4 D (.lst ((((List.range 60).filter fun i => !decide (i + 1 ∈ numL M)).map fun i => ((i + 1 : Nat) : Int)).map V.int))) := s4.trans (same_new hD)
          generalize upd H4 D (.lst ((((List.range 60).filter fun i => !decide (i + 1 ∈ numL M)).map fun i => ((i + 1 : Nat) : Int)).map V.int)) = H5 at s5
          have h5 := h'.same s5
          obtain ⟨_, ho5⟩ := h5.at_.ob
          have mv5 := mv'.trans (Mvs.same s5)
          have hn := hL.hi
          have last : ∀ (H6 : Hp), HeapAt T H6 A S' b (tmDrop tm n) → Mvs H (own A tm) H6 (own A (tmDrop tm n)) → tSeq (tDrop (tMethS T.c_Cells (Str.ofString "write") (sp_Cells_write T) (fun σ => WE (fun cls d x H => E cls d H) σ) (tFld K (tVar 0) (Str.ofString "_cells"))
                (tCons (tOp (rI0 fun i j => V.int (i - j)) (tOp (rI0 fun i j => V.int (i + j)) (tMeth T.c_Heap (Str.ofString "_table") (sp_Heap__table T) [] E0 (tVar 0) (tCons (tVar 6) tNil)) (tVar 11)) (tC (V.int 1))) (tCons (tOp (rI0 fun i j => V.int (i + j)) (tVar 4) (tC (V.int 1))) tNil))))
              (tRet (tVar 11)) { nx := fun x H' => Q V.non H', rt := Q } [some (V.ref A.h), some (V.int kind), some (V.int owner), some (V.int (size : Nat)), some (V.int (usd M : Nat)), some (V.int (cnt M : Nat)), some (V.int (f : Nat)), some (V.ref lw), y, z, some (V.ref pn), some (V.int (n : Nat))] H6 := fun H6 h6 mv6 => by
            obtain ⟨_, ho6⟩ := h6.ob
            obtain ⟨_, hc6⟩ := h6.cs.ob
            refine rdSeq ?_
            walk_at "rd"
            refine i_fld T.cl_Heap T.nf_Heap_cells ho6 rfl (i_meth hc6 rfl (i_meth ho6 rfl ⟨A, S', b, _, f, rfl, h6, ?_⟩))
            walk_at "rd"
            have hlo := hL.lo
            have all : wlog S (makeL f (usd M) n (newOb kind owner size)) = writeS S' (tb f + n - 1) ((usd M + 1 : Nat) : Int) := by
              unfold makeL
              rw [hgw, wlog_app, es, if_pos rfl]
              show (if (writeS S' (tb f + n - 1) ((usd M + 1 : Nat) : Int)).2 = true then _ else _) = _
              by_cases e3 : (writeS S' (tb f + n - 1) ((usd M + 1 : Nat) : Int)).2 = true
              · rw [if_pos e3]
                show ((writeS S' (tb f + n - 1) ((usd M + 1 : Nat) : Int)).1, true) = _
                rw [← e3]
              · rw [if_neg e3]
                have e3 : (writeS S' (tb f + n - 1) ((usd M + 1 : Nat) : Int)).2 = false := by simpa using e3
                rw [← e3]
            refine ⟨A.c, A.l, S', tb f + n - 1, ((usd M + 1 : Nat) : Int), by rw [show ((tb f + n - 1 : Nat) : Int) = ((tb f : Nat) : Int) + n - 1 by omega, show ((usd M + 1 : Nat) : Int) = (usd M : Nat) + 1 by omega], h6.cs, by rw [h6.sz]; unfold tb; omega, fun H7 hc7 kp7 => ?_⟩
            have q4 := q3 H7 (tmDrop tm n) n hL
            rw [all] at q4
            have q5 := q4 (h6.cell hc7 (by rw [writeS_len]; exact h6.sz) kp7) (mv6.trans (own_kp kp7))
            exact ⟨fun e => q5.1 e rfl, q5.2⟩
          refine rdSeq ?_
          walk_at "rd"
          refine i_fld T.cl_Heap T.nf_Heap_temps ho5 rfl ⟨A.dt, rfl, .inl ⟨_, .inl h5.at_.td⟩, _, h5.at_.td, .inl (n : Int), rfl, fun v hv => ?_, fun hv => ?_⟩
          · rw [tmK_drop]
            refine last _ (h5.at_.dict (h5.at_.tk.drop (by omega))) (mv5.trans ⟨Kp.set (by unfold own; simp), fun x hx => .inl (own_drop hx)⟩)
          · have hnone : tm.find? (fun e => decide (e.1 = n)) = none := by
              rw [tmK_get] at hv
              cases e : tm.find? fun e => decide (e.1 = n) with
              | none => rfl
              | some x => rw [e] at hv; cases hv
            have ed := tmDrop_none hnone
            exact last _ (by rw [ed]; exact h5.at_) (by rw [ed]; exact mv5)
theorem range_wordsN {ws : List Int} {n : Nat} (e : ws.length = n) : (List.range n).map (fun i => V.int (ws.getD i 0)) = ws.map V.int := by
  subst e
  apply List.ext_getElem?
  intro i
  rw [List.getElem?_map, List.getElem?_map]
  by_cases h : i < ws.length
  · rw [List.getElem?_range h, List.getElem?_eq_getElem h, Option.map_some, Option.map_some, List.getD_eq_getElem?_getD, List.getElem?_eq_getElem h]; rfl
  · rw [List.getElem?_eq_none (by rw [List.length_range]; omega), List.getElem?_eq_none (by omega)]; rfl
/-! ### heap.py: what is reached -/
def plc (k : Int) : List Nat := if k % 4 = 0 then [] else if k % 4 = 1 then [0] else if k % 4 = 2 then [0, 2] else [1]
def sp_law_places {K : PySem.W.Frag} {mg : Str → Option Value} (_ : Txt K mg) : Sp := fun vs H Q _ => ∃ (k : Int), vs = [.int k] ∧ ∀ H' p, H p = none → Same H H' → H' p = some (.lst ((plc k).map fun i => V.int (i : Nat))) → Q (.ref p) H'
theorem ok_law_places (T : Txt K mg) : FnOk P w K mg base CX0 1 T.f_law_places T.d_law_places ["_law_kind"] (sp_law_places T) := by
  refine T.k_law_places.ok sc_law_places (fun vs H Q E h => ?_) (fun cdv A outer s H vs Q E hr h => ?_)
  · obtain ⟨k, rfl, _⟩ := h
    rfl
  · obtain ⟨k, rfl, q⟩ := h
    refine ⟨_, (pss_one (ps_ret (pe_ix (ix_listK K) (pe_lst (pa_cons (pe_lst pa_nil) (pa_cons (pe_lst (pa_cons pe_int pa_nil)) (pa_cons (pe_lst (pa_cons pe_int (pa_cons pe_int pa_nil))) (pa_cons (pe_lst (pa_cons pe_int pa_nil)) pa_nil))))) (pe_op op_modP (pv 0) pe_int) (fun _ _ => rfl)))), ?_⟩
    walk_at "rd"
    intro p1 h1 p2 h2 p3 h3 p4 h4 p5 h5
    have s1 : Same H (upd H p1 (.lst [])) := same_new h1
    have a1 : upd H p1 (.lst []) p1 = some (.lst []) := upd_same
    generalize upd H p1 (.lst []) = H1 at s1 a1 h2 h3 h4 h5 ⊢
    have s2 : Same H1 (upd H1 p2 (.lst [.int 0])) := same_new h2
    have a2 : upd H1 p2 (.lst [.int 0]) p2 = some (.lst [.int 0]) := upd_same
    generalize upd H1 p2 (.lst [.int 0]) = H2 at s2 a2 h3 h4 h5 ⊢
    have s3 : Same H2 (upd H2 p3 (.lst [.int 0, .int 2])) := same_new h3
    have a3 : upd H2 p3 (.lst [.int 0, .int 2]) p3 = some (.lst [.int 0, .int 2]) := upd_same
    generalize upd H2 p3 (.lst [.int 0, .int 2]) = H3 at s3 a3 h4 h5 ⊢
    have s4 : Same H3 (upd H3 p4 (.lst [.int 1])) := same_new h4
    have a4 : upd H3 p4 (.lst [.int 1]) p4 = some (.lst [.int 1]) := upd_same
    generalize upd H3 p4 (.lst [.int 1]) = H4 at s4 a4 h5 ⊢
    have s5 : Same H4 (upd H4 p5 (.lst [.ref p1, .ref p2, .ref p3, .ref p4])) := same_new h5
    have a5 : upd H4 p5 (.lst [.ref p1, .ref p2, .ref p3, .ref p4]) p5 = some (.lst [.ref p1, .ref p2, .ref p3, .ref p4]) := upd_same
    generalize upd H4 p5 (.lst [.ref p1, .ref p2, .ref p3, .ref p4]) = H5 at s5 a5 ⊢
    have hm0 : 0 ≤ k % 4 := Int.emod_nonneg _ (by decide)
    have hm1 : k % 4 < 4 := Int.emod_lt_of_pos _ (by decide)
    have all : Same H H5 := (((s1.trans s2).trans s3).trans s4).trans s5
    by_cases e0 : k % 4 = 0
    · rw [e0]
      exact i_ixL (sqL_of a5) rfl (q _ _ h1 all (by unfold plc; rw [if_pos e0]; exact s5 _ _ (s4 _ _ (s3 _ _ (s2 _ _ a1)))))
    by_cases e1 : k % 4 = 1
    · rw [e1]
      exact i_ixL (sqL_of a5) rfl (q _ _ (s1.free h2) all (by unfold plc; rw [if_neg e0, if_pos e1]; exact s5 _ _ (s4 _ _ (s3 _ _ a2))))
    by_cases e2 : k % 4 = 2
    · rw [e2]
      exact i_ixL (sqL_of a5) rfl (q _ _ ((s1.trans s2).free h3) all (by unfold plc; rw [if_neg e0, if_neg e1, if_pos e2]; exact s5 _ _ (s4 _ _ a3)))
    · have e3 : k % 4 = 3 := by omega
      rw [e3]
      exact i_ixL (sqL_of a5) rfl (q _ _ (((s1.trans s2).trans s3).free h4) all (by unfold plc; rw [if_neg e0, if_neg e1, if_neg e2]; exact s5 _ _ a4))
/-- the references of an object -/
def refsL (o : Ob) : List Int := if o.kind < 0 then [] else (plc o.kind).map fun i => o.vals.getD i 0
def obOf (M : List (Nat × Ob)) (n : Nat) : Ob := ((M.find? fun e => decide (e.1 = n)).map (·.2)).getD ⟨-1, 0, []⟩
theorem obOf_eq {M : List (Nat × Ob)} (nk : (M.map (·.1)).Nodup) {n : Nat} {o : Ob} (h : (n, o) ∈ M) : obOf M n = o := by
  unfold obOf
  rw [find_uniq nk h]; rfl
/-- what is referred to is there -/
structure RefsOk (M : List (Nat × Ob)) : Prop where
  len : ∀ n o, (n, o) ∈ M → 0 ≤ o.kind → o.vals.length = 3
  ref : ∀ n o, (n, o) ∈ M → ∀ x ∈ refsL o, x = 0 ∨ ∃ m u, x = ((m : Nat) : Int) ∧ m ≤ 60 ∧ (m, u) ∈ M
theorem plc_len {k : Int} : (plc k).length ≤ 2 := by
  unfold plc
  split
  · decide
  · split
    · decide
    · split <;> decide
theorem plc_lt {k : Int} {i : Nat} (h : i ∈ plc k) : i < 3 := by
  unfold plc at h
  split at h
  · exact nomatch h
  · split at h
    · rw [List.mem_singleton.mp h]; omega
    · split at h
      · rcases List.mem_cons.mp h with rfl | h
        · omega
        · rw [List.mem_singleton.mp h]; omega
      · rw [List.mem_singleton.mp h]; omega
def sp_Heap__references {K : PySem.W.Frag} {mg : Str → Option Value} (T : Txt K mg) : Sp := fun vs H Q _ => ∃ (A : HA) (S : CS) (b : Bool) (tm : Tm) (f : Nat) (pos : Nat → Nat) (M : List (Nat × Ob)) (n : Nat) (o : Ob), vs = [.ref A.h, .int n, .ref T.f_law_places] ∧ Hold T H A S b tm f pos M ∧ (n, o) ∈ M ∧ RefsOk M ∧
  ∀ H' p, H p = none → Same H H' → H' p = some (.lst ((refsL o).map V.int)) → Q (.ref p) H'
theorem ok_Heap__references (T : Txt K mg) : FnOk P w K mg base CX0 7 T.f_Heap__references T.d_Heap__references ["self", "number", "places"] (sp_Heap__references T) := by
  refine T.k_Heap__references.ok sc_Heap__references (fun vs H Q E h => ?_) (fun cdv A outer s H vs Q E hr h => ?_)
  · obtain ⟨A, S, b, tm, f, pos, M, n, o, rfl, _⟩ := h
    rfl
  · obtain ⟨A, S, b, tm, f, pos, M, n, o, rfl, h, hm, hR, q⟩ := h
    refine ⟨_, (pss_cons (ps_set (i := 3) sc_Heap__references.nd rfl (.inl rfl) (pe_meth (pv 0) T.cl_Heap T.me_Heap_kind (ok_Heap_kind T) (hr.mono (by decide)) T.b_Heap_kind .nil pass0 (pa_cons (pv 1) pa_nil)))
      (pss_cons (ps_if (pt_cmpR op_lt (pv 3) pe_int (nomark _)) (pss_one (ps_ret (pe_lst pa_nil))) pss_nil)
      (pss_one (ps_ret (pe_lc (own := [("place", 4)]) (g := gName 4) (tt := tYes) rfl sc_Heap__references.nd (pi_list (pe_callL (i := 2) (ok_law_places T) (hr.mono (by decide)) rfl (.inl rfl) T.k_law_places.kp T.b_law_places .nil pass0 (pa_cons (pv 3) pa_nil))) (blkOk_by (own := [("place", 4)]) (N := ["self", "number", "places", "kind", "place"]) (sc := defScope s_Heap__references) (by decide +kernel)) (fun _ _ _ _ _ => pg_name (i := 4) sc_Heap__references.nd rfl (Or.inl rfl)) (fun _ _ _ _ _ => pts_nil) (fun _ _ _ _ _ => (pe_meth (pv 0) T.cl_Heap T.me_Heap_read (ok_Heap_read T) (hr.mono (by decide)) T.b_Heap_read .nil pass0 (pa_cons (pv 1) (pa_cons (pv 4) pa_nil))))))))), ?_⟩
    obtain ⟨dx, ho⟩ := h.at_.ob
    walk_at "rd"
    refine rdSeq ?_
    walk_at "rd"
    refine i_meth ho rfl ⟨A, M, n, o, rfl, ⟨S, b, tm, f, pos, h⟩, hm, rdSeq ?_⟩
    walk_at "rd"
    refine ite2 (fun e => ?_) (fun e => ?_)
    · intro p hp
      refine q _ p hp (same_new hp) ?_
      unfold refsL
      rw [if_pos e, upd_same]; rfl
    · refine ⟨o.kind, rfl, fun H1 p hp s1 hpat => ?_⟩
      have len := hR.len n o hm (by omega)
      have h1 := h.same s1
      obtain ⟨_, ho1⟩ := h1.at_.ob
      walk_at "rd"
      refine ⟨⟨_, sqL_of hpat⟩, i_lcL (walk_listL (l := plc o.kind) (r := fun i : Nat => V.int (i : Nat))) (fun i => .int (o.vals.getD i 0)) (line5' (Nat.le_trans plc_len (by decide))) (fun D ys hD => sqL_of (same_new hD _ _ hpat)) (fun i hi H2 Q' sm q' => ?_) (fun D hD => ?_)⟩
      · walk_at "rd"
        have h2 := h1.same sm
        refine i_meth (sm _ _ ho1) rfl ⟨A, S, b, tm, f, pos, M, n, o, i, rfl, h2, hm, by rw [len]; exact plc_lt hi, fun _ => q', fun e => by omega⟩
      · refine q _ D (s1.free hD) (s1.trans (same_new hD)) ?_
        unfold refsL
        rw [if_neg e, upd_same, List.map_map]; rfl
def sp_Heap__words {K : PySem.W.Frag} {mg : Str → Option Value} (T : Txt K mg) : Sp := fun vs H Q _ => ∃ (A : HA) (S : CS) (b : Bool) (tm : Tm) (f : Nat) (pos : Nat → Nat) (M : List (Nat × Ob)) (n : Nat) (o : Ob), vs = [.ref A.h, .int n] ∧ Hold T H A S b tm f pos M ∧ (n, o) ∈ M ∧ n ≤ 60 ∧
  ∀ p, H p = none → Q (.ref p) (upd H p (.lst ((headW o).map V.int)))
theorem ok_Heap__words (T : Txt K mg) : FnOk P w K mg base CX0 5 T.f_Heap__words T.d_Heap__words ["self", "number"] (sp_Heap__words T) := by
  refine T.k_Heap__words.ok sc_Heap__words (fun vs H Q E h => ?_) (fun cdv A outer s H vs Q E hr h => ?_)
  · obtain ⟨A, S, b, tm, f, pos, M, n, o, rfl, _⟩ := h
    rfl
  · obtain ⟨A, S, b, tm, f, pos, M, n, o, rfl, h, hm, hn, q⟩ := h
    refine ⟨_, (pss_cons (ps_set (i := 2) sc_Heap__words.nd rfl (.inr rfl) (pe_meth (pv 0) T.cl_Heap T.me_Heap__place (ok_Heap__place T) (hr.mono (by decide)) T.b_Heap__place .nil pass0 (pa_cons (pv 1) pa_nil)))
      (pss_cons (ps_set (i := 3) sc_Heap__words.nd rfl (.inl rfl) (pe_glob (v := .int _) rfl T.g_HEAD_CELLS ⟨_, rfl⟩))
      (C8.pss_cut (ps_if (pt_cmpR op_ne (pe_meth (pv 0) T.cl_Heap T.me_Heap_kind (ok_Heap_kind T) (hr.mono (by decide)) T.b_Heap_kind .nil pass0 (pa_cons (pv 1) pa_nil)) (pe_glob (v := .int _) rfl T.g_TEMP ⟨_, rfl⟩) (nomark _)) (pss_one (ps_aug (i := 3) sc_Heap__words.nd rfl (.inl rfl) (pe_meth (pv 0) T.cl_Heap T.me_Heap_size (ok_Heap_size T) (hr.mono (by decide)) T.b_Heap_size .nil pass0 (pa_cons (pv 1) pa_nil)) ip_add)) pss_nil)
      (pss_one (ps_ret (pe_lc (own := [("index", 4)]) (g := gName 4) (tt := tYes) rfl sc_Heap__words.nd (pi_range1 (by rfl) T.m_range (pa_cons (pv 3) pa_nil)) (blkOk_by (own := [("index", 4)]) (N := ["self", "number", "place", "count", "index"]) (sc := defScope s_Heap__words) (by decide +kernel)) (fun _ _ _ _ _ => pg_name (i := 4) sc_Heap__words.nd rfl (Or.inl rfl)) (fun _ _ _ _ _ => pts_nil) (fun _ _ _ _ _ => (pe_meth (pe_fldK K (pv 0) rfl) T.cl_Cells T.me_Cells_read (ok_Cells_read T) (hr.mono (by decide)) T.b_Cells_read .nil passL (pa_cons (pe_op op_add (pv 2) (pv 4)) pa_nil))))))))), ?_⟩
    obtain ⟨dx, ho⟩ := h.at_.ob
    obtain ⟨dc, hc⟩ := h.at_.cs.ob
    walk_at "rd"
    refine rdSeq ?_
    walk_at "rd"
    refine i_meth ho rfl ⟨A, S, b, tm, f, pos, M, n, o, rfl, h, hm, hn, rdSeq ?_⟩
    walk_at "rd"
    have hlen : (headW o).length = if o.kind = -2 then 3 else 3 + o.vals.length := by
      unfold headW
      rw [List.length_cons, List.length_cons, List.length_cons]
      split
      · rfl
      · omega
    refine rdCut (fun σ H1 => H1 = H ∧ σ = [some (V.ref A.h), some (V.int (n : Int)), some (V.int ((rm f + pos n : Nat) : Int)), some (V.int ((headW o).length : Nat)), none]) ?_ ?_
    · walk_at "rd"
      refine i_meth ho rfl ⟨A, M, n, o, rfl, ⟨S, b, tm, f, pos, h⟩, hm, ?_⟩
      walk_at "rd"
      rw [hlen]
      refine ite2 (fun e => ?_) (fun e => ?_)
      · rw [if_neg (by simpa using e)]
        walk_at "rd"
        refine i_meth ho rfl ⟨A, M, n, o, rfl, ⟨S, b, tm, f, pos, h⟩, hm, ?_⟩
        walk_at "rd"
        omega
      · rw [if_pos (by simpa using e)]
        walk_at "rd"
        rfl
    · rintro σ H1 ⟨rfl, rfl⟩
      have hp := h.rep.p_le hm hn
      have hf := h.rep.f2
      have hle : (headW o).length ≤ 3 + o.vals.length := headW_len
      walk_at "rd"
      refine ⟨by omega, by omega, i_lcL (walk_rangeL (lo := 0) (n := (headW o).length)) (fun i => .int ((headW o).getD i 0)) (by rw [List.length_range]; exact line5' (by omega)) (fun _ _ _ => trivial) (fun i hi H2 Q' sm q' => ?_) (fun D hD => ?_)⟩
      · walk_at "rd"
        have hi : i < (headW o).length := List.mem_range.mp hi
        refine i_fld T.cl_Heap T.nf_Heap_cells (sm _ _ ho) rfl (i_meth (sm _ _ hc) rfl ?_)
        refine (h.at_.same sm).rd h.on (i := rm f + pos n + i) (by rw [show ((rm f + pos n + i : Nat) : Int) = ((rm f + pos n : Nat) : Int) + (0 + (i : Int)) by omega]) (by unfold rm; omega) ?_
        have B := h.rep.ob n o hm hn
        have ew : S.words.getD (rm f + pos n + i) 0 = (headW o).getD i 0 := by
          match i, hi with
          | 0, _ => exact B.kd
          | 1, _ => exact B.ow
          | 2, _ => exact B.sz
          | i + 3, hi =>
            rw [hlen] at hi
            by_cases hk : o.kind = -2
            · rw [if_pos hk] at hi; omega
            · rw [if_neg hk] at hi
              rw [show rm f + pos n + (i + 3) = rm f + pos n + 3 + i by omega, B.vs hk i (by omega)]
              unfold headW
              rw [if_neg hk]; rfl
        rw [ew]
        exact q'
      · have q2 := q D hD
        rw [← range_wordsN (ws := headW o) rfl] at q2
        exact q2

/-! ### what is reached, plainly -/
def add1 (fd : List Nat) (x : Int) : List Nat := if x = 0 ∨ x = 61 ∨ x.toNat ∈ fd then fd else fd ++ [x.toNat]
def addR (fd : List Nat) (rs : List Int) : List Nat := rs.foldl add1 fd
def bR (M : List (Nat × Ob)) (n : Nat) : List Int := refsL (obOf M n)
def pr (M : List (Nat × Ob)) (F0 : List Nat) : Nat → List Nat
  | 0 => F0
  | j + 1 => match (pr M F0 j)[j]? with
    | some n => addR (pr M F0 j) (bR M n)
    | none => pr M F0 j
def reachL (M : List (Nat × Ob)) (F0 : List Nat) : List Nat := pr M F0 62
def GoodL (M : List (Nat × Ob)) (l : List Nat) : Prop := l.Nodup ∧ ∀ x ∈ l, x ≤ 60 ∧ ∃ o, (x, o) ∈ M
theorem GoodL.len {M : List (Nat × Ob)} {l : List Nat} (h : GoodL M l) : l.length ≤ 61 := nodup_bound 61 h.1 fun x hx => by have := (h.2 x hx).1; omega
theorem add1_good {M : List (Nat × Ob)} {fd : List Nat} {x : Int} (g : GoodL M fd) (hx : x = 0 ∨ ∃ m u, x = ((m : Nat) : Int) ∧ m ≤ 60 ∧ (m, u) ∈ M) : GoodL M (add1 fd x) := by
  unfold add1
  split
  · exact g
  · rename_i h
    rcases hx with rfl | ⟨m, u, rfl, hm, hu⟩
    · exact absurd (Or.inl rfl) h
    · have hn : m ∉ fd := fun k => h (.inr (.inr k))
      refine ⟨List.nodup_append.mpr ⟨g.1, by simp, fun a ha b hb => ?_⟩, fun y hy => ?_⟩
      · have : b = m := List.mem_singleton.mp hb
        subst this
        intro e; subst e; exact hn ha
      · rcases List.mem_append.mp hy with hy | hy
        · exact g.2 y hy
        · have : y = m := List.mem_singleton.mp hy
          subst this
          exact ⟨hm, u, hu⟩
theorem addR_good {M : List (Nat × Ob)} : ∀ {rs : List Int} {fd : List Nat}, GoodL M fd → (∀ x ∈ rs, x = 0 ∨ ∃ m u, x = ((m : Nat) : Int) ∧ m ≤ 60 ∧ (m, u) ∈ M) → GoodL M (addR fd rs)
  | [], _, g, _ => g
  | x :: rs, fd, g, h => addR_good (rs := rs) (add1_good g (h x List.mem_cons_self)) fun y hy => h y (List.mem_cons_of_mem _ hy)
theorem add1_pre (fd : List Nat) (x : Int) : fd <+: add1 fd x := by
  unfold add1
  split
  · exact List.prefix_refl _
  · exact List.prefix_append _ _
theorem addR_pre : ∀ (rs : List Int) (fd : List Nat), fd <+: addR fd rs
  | [], fd => List.prefix_refl _
  | x :: rs, fd => (add1_pre fd x).trans (addR_pre rs _)
theorem addR_in : ∀ (rs : List Int) (fd : List Nat), ∀ x ∈ rs, x = 0 ∨ x = 61 ∨ x.toNat ∈ addR fd rs
  | y :: rs, fd, x, hx => by
    rcases List.mem_cons.mp hx with rfl | hx
    · by_cases h : x = 0 ∨ x = 61
      · rcases h with h | h
        · exact .inl h
        · exact .inr (.inl h)
      · refine .inr (.inr ((addR_pre rs (add1 fd x)).subset ?_))
        unfold add1
        split
        · rename_i k
          rcases k with k | k | k
          · exact absurd (.inl k) h
          · exact absurd (.inr k) h
          · exact k
        · simp
    · exact addR_in rs (add1 fd y) x hx
theorem addR_same : ∀ {rs : List Int} {fd : List Nat}, (∀ x ∈ rs, x = 0 ∨ x = 61 ∨ x.toNat ∈ fd) → addR fd rs = fd
  | [], _, _ => rfl
  | x :: rs, fd, h => by
    have e : add1 fd x = fd := by unfold add1; rw [if_pos (h x List.mem_cons_self)]
    show addR (add1 fd x) rs = fd
    rw [e]
    exact addR_same fun y hy => h y (List.mem_cons_of_mem _ hy)
section
variable {M : List (Nat × Ob)} {F0 : List Nat}
theorem bR_ok (nk : (M.map (·.1)).Nodup) (R : RefsOk M) {l : List Nat} (g : GoodL M l) {n : Nat} (hn : n ∈ l) : ∀ x ∈ bR M n, x = 0 ∨ ∃ m u, x = ((m : Nat) : Int) ∧ m ≤ 60 ∧ (m, u) ∈ M := by
  obtain ⟨_, o, ho⟩ := g.2 n hn
  unfold bR
  rw [obOf_eq nk ho]
  exact R.ref n o ho
theorem pr_good (nk : (M.map (·.1)).Nodup) (R : RefsOk M) (g : GoodL M F0) : ∀ j, GoodL M (pr M F0 j)
  | 0 => g
  | j + 1 => by
    have ih := pr_good nk R g j
    unfold pr
    split
    · rename_i n e
      exact addR_good ih (bR_ok nk R ih (List.mem_of_getElem? e))
    · exact ih
theorem pr_pre1 (j : Nat) : pr M F0 j <+: pr M F0 (j + 1) := by
  conv => rhs; unfold pr
  split
  · exact addR_pre _ _
  · exact List.prefix_refl _
theorem pr_pre {i j : Nat} (h : i ≤ j) : pr M F0 i <+: pr M F0 j := by
  induction h with
  | refl => exact List.prefix_refl _
  | step _ ih => exact ih.trans (pr_pre1 _)
theorem pr_stop1 {j : Nat} (h : (pr M F0 j).length ≤ j) : pr M F0 (j + 1) = pr M F0 j := by
  conv => lhs; unfold pr
  rw [List.getElem?_eq_none h]
theorem pr_stop {i j : Nat} (h : i ≤ j) (hl : (pr M F0 i).length ≤ i) : pr M F0 j = pr M F0 i := by
  induction h with
  | refl => rfl
  | @step m hm ih => rw [← ih]; exact pr_stop1 (by rw [ih]; exact Nat.le_trans hl hm)
theorem pre_get {l l' : List Nat} (h : l <+: l') {k : Nat} (hk : k < l.length) : l'[k]? = l[k]? := by
  obtain ⟨t, rfl⟩ := h
  rw [List.getElem?_append_left hk]
theorem pr_next {j : Nat} {n : Nat} (h : (pr M F0 j)[j]? = some n) : pr M F0 (j + 1) = addR (pr M F0 j) (bR M n) := by
  conv => lhs; unfold pr
  rw [h]
/-- what is behind i holds the references of the first i -/
theorem pr_closed {i k : Nat} (hk : k < i) {n : Nat} (h : (pr M F0 i)[k]? = some n) (hl : i ≤ (pr M F0 i).length) : ∀ x ∈ bR M n, x = 0 ∨ x = 61 ∨ x.toNat ∈ pr M F0 i := by
  intro x hx
  have hkk : k < (pr M F0 k).length := by
    refine Classical.byContradiction fun z => ?_
    have := pr_stop (M := M) (F0 := F0) (Nat.le_of_lt hk) (by omega)
    rw [this] at hl; omega
  have e : (pr M F0 k)[k]? = some n := by rw [← pre_get (pr_pre (Nat.le_of_lt hk)) hkk]; exact h
  have := addR_in (bR M n) (pr M F0 k) x hx
  rw [← pr_next e] at this
  rcases this with a | a | a
  · exact .inl a
  · exact .inr (.inl a)
  · exact .inr (.inr ((pr_pre (show k + 1 ≤ i by omega)).subset a))
theorem pr_pass {i : Nat} (hl : i ≤ (pr M F0 i).length) : ∀ k, k ≤ (pr M F0 i).length → ((pr M F0 i).take k).foldl (fun acc n => addR acc (bR M n)) (pr M F0 i) = pr M F0 (max i k)
  | 0, _ => by simp
  | k + 1, hk => by
    have ih := pr_pass hl k (by omega)
    obtain ⟨n, hn⟩ : ∃ n, (pr M F0 i)[k]? = some n := ⟨_, List.getElem?_eq_getElem (by omega)⟩
    rw [List.take_add_one, hn, List.foldl_append, ih]
    show addR (pr M F0 (max i k)) (bR M n) = _
    by_cases h : k < i
    · rw [Nat.max_eq_left (by omega), Nat.max_eq_left (by omega)]
      exact addR_same (pr_closed h hn hl)
    · rw [Nat.max_eq_right (by omega), Nat.max_eq_right (by omega)]
      exact (pr_next (by rw [pre_get (pr_pre (show i ≤ k by omega)) (by omega)]; exact hn)).symm
def passQ (M : List (Nat × Ob)) (L : List Nat) : List Nat := L.foldl (fun acc n => addR acc (bR M n)) L
def iterP (M : List (Nat × Ob)) (F0 : List Nat) : Nat → List Nat
  | 0 => F0
  | t + 1 => passQ M (iterP M F0 t)
theorem iterP_pr (nk : (M.map (·.1)).Nodup) (R : RefsOk M) (g : GoodL M F0) : ∀ t, ∃ i, iterP M F0 t = pr M F0 i ∧ i ≤ (pr M F0 i).length ∧ (t ≤ i ∨ (pr M F0 i).length ≤ i)
  | 0 => ⟨0, rfl, Nat.zero_le _, .inl (Nat.le_refl _)⟩
  | t + 1 => by
    obtain ⟨i, e, hl, h⟩ := iterP_pr nk R g t
    have e2 : iterP M F0 (t + 1) = pr M F0 (pr M F0 i).length := by
      show passQ M (iterP M F0 t) = _
      rw [e]
      unfold passQ
      have := pr_pass hl (pr M F0 i).length (Nat.le_refl _)
      rw [List.take_length, Nat.max_eq_right hl] at this
      exact this
    refine ⟨_, e2, (pr_pre hl).length_le, ?_⟩
    by_cases hi : (pr M F0 i).length ≤ i
    · have : (pr M F0 i).length = i := by omega
      exact .inr (by rw [this]; exact hi)
    · rcases h with h | h
      · exact .inl (by omega)
      · exact absurd h hi
theorem iterP_reach (nk : (M.map (·.1)).Nodup) (R : RefsOk M) (g : GoodL M F0) : iterP M F0 70 = reachL M F0 := by
  obtain ⟨i, e, hl, h⟩ := iterP_pr nk R g 70
  have := (pr_good nk R g i).len
  rw [e]
  exact (pr_stop (show i ≤ 62 by omega) (by rcases h with h | h <;> omega)).symm
theorem reach_good (nk : (M.map (·.1)).Nodup) (R : RefsOk M) (g : GoodL M F0) : GoodL M (reachL M F0) := pr_good nk R g 62
theorem reach_stop (nk : (M.map (·.1)).Nodup) (R : RefsOk M) (g : GoodL M F0) {i : Nat} (h : (pr M F0 i).length ≤ i) (hi : i ≤ 62) : pr M F0 i = reachL M F0 := (pr_stop hi h).symm
/-- what is reached refers to what is reached -/
theorem reach_closed (nk : (M.map (·.1)).Nodup) (R : RefsOk M) (g : GoodL M F0) : ∀ n ∈ reachL M F0, ∀ x ∈ bR M n, x = 0 ∨ x = 61 ∨ x.toNat ∈ reachL M F0 := by
  intro n hn x hx
  have hn : n ∈ pr M F0 62 := hn
  show x = 0 ∨ x = 61 ∨ x.toNat ∈ pr M F0 62
  have hlen := (pr_good nk R g 62).len
  obtain ⟨k, hk, e⟩ := List.mem_iff_getElem.mp hn
  have hn2 : (pr M F0 62)[k]? = some n := by rw [List.getElem?_eq_getElem hk]; exact congrArg some e
  have hst : ∃ i, (pr M F0 i).length = i ∧ i ≤ 62 := by
    refine Classical.byContradiction fun hno => ?_
    have all : ∀ i, i ≤ 62 → i < (pr M F0 i).length := fun i => by
      induction i with
      | zero => intro _; exact Nat.pos_of_ne_zero fun z => hno ⟨0, z, by omega⟩
      | succ i ih =>
        intro hi
        have h1 := ih (by omega)
        have h2 := (pr_pre1 (M := M) (F0 := F0) i).length_le
        have h3 : (pr M F0 (i + 1)).length ≠ i + 1 := fun z => hno ⟨_, z, hi⟩
        omega
    have := all 62 (by omega)
    omega
  obtain ⟨i, hi, hi62⟩ := hst
  have e62 : pr M F0 62 = pr M F0 i := pr_stop hi62 (by omega)
  rw [e62] at hn2 hk ⊢
  exact pr_closed (by omega) hn2 (by omega) x hx
end

abbrev nV (l : List Nat) : List V := l.map fun n : Nat => V.int (n : Nat)
theorem nV_ints {l : List Nat} : nV l = (l.map fun n : Nat => (n : Int)).map V.int := by
  show l.map _ = _
  rw [List.map_map]; rfl
theorem inV_nV {x : Int} {l : List Nat} : inV (.int x) (nV l) = decide (0 ≤ x ∧ x.toNat ∈ l) := by
  rw [nV_ints, inV_ints, decide_eq_decide, List.mem_map]
  constructor
  · rintro ⟨a, ha, rfl⟩
    exact ⟨by omega, by simpa using ha⟩
  · rintro ⟨h0, h⟩
    exact ⟨_, h, by omega⟩
theorem flat_nV {l : List Nat} : (nV l).all flatV = true := by rw [nV_ints]; exact flat_ints
def sp_Heap_reached {K : PySem.W.Frag} {mg : Str → Option Value} (T : Txt K mg) : Sp := fun vs H Q _ => ∃ (A : HA) (S : CS) (b : Bool) (tm : Tm) (f : Nat) (pos : Nat → Nat) (M : List (Nat × Ob)) (ra : Addr) (roots : List Nat), vs = [.ref A.h, .ref ra, .ref T.f_law_places] ∧ Hold T H A S b tm f pos M ∧ RefsOk M ∧
  H ra = some (.lst (nV roots)) ∧ GoodL M roots ∧ ∀ H' p, H p = none → Same H H' → H' p = some (.lst (nV (reachL M roots))) → Q (.ref p) H'
inductive MidR (H : Hp) (fp : Addr) (vs : List V) (l : List Nat) : L2.St → Hp → Prop where
  | mk (H' : Hp) (y z : Option V) (n : NewL H H' fp (nV l)) : MidR H fp vs l (vs.map some ++ [some (.ref fp), y, z]) H'
theorem ok_Heap_reached (T : Txt K mg) : FnOk P w K mg base CX0 8 T.f_Heap_reached T.d_Heap_reached ["self", "roots", "places"] (sp_Heap_reached T) := by
  refine T.k_Heap_reached.ok sc_Heap_reached (fun vs H Q E h => ?_) (fun cdv A outer s H vs Q E hr h => ?_)
  · obtain ⟨A, S, b, tm, f, pos, M, ra, roots, rfl, _⟩ := h
    rfl
  · obtain ⟨A, S, b, tm, f, pos, M, ra, roots, rfl, h, hR, hra, hg, q⟩ := h
    -- 0:self 1:roots 2:places 3:found 4:number 5:index
    refine ⟨_, (pss_cons (ps_set (i := 3) sc_Heap_reached.nd rfl (.inl rfl) (pe_lst pa_nil))
      (pss_cons (ps_for PassesOwn.never rfl (pi_list (pv 1)) (pg_name (i := 4) sc_Heap_reached.nd rfl (Or.inl rfl)) (pss_one (ps_if (PW.pt (pw_and (pt_cmpR (notIn_seqK K) (pv 4) (pe_tup (pa_cons pe_int (pa_cons (pe_glob (v := .int _) rfl T.g_BUFFER ⟨_, rfl⟩) pa_nil))) rfl) (pw_and1 (pt_cmpR (notIn_seqK K) (pv 4) (pv 3) rfl)))) (pss_one (ps_expr (pe_bmK K PySem.F.plainAttrs_list PySem.F.slot_list_append PySem.F.type_list_append mt_append (pv 3) (pa_cons (pv 4) pa_nil)))) pss_nil)))
      (pss_cons (ps_set (i := 5) sc_Heap_reached.nd rfl (.inl rfl) pe_int)
      (pss_cons (ps_while PassesOwn.never (pt_cmpR op_lt (pv 5) (pe_callB (lenLK K) (by rfl) T.m_len (by decide +kernel) (pa_cons (pv 3) pa_nil)) (nomark _)) (pss_cons (ps_for PassesOwn.never rfl (pi_list (pe_meth (pv 0) T.cl_Heap T.me_Heap__references (ok_Heap__references T) (hr.mono (by decide)) T.b_Heap__references .nil pass0 (pa_cons (pe_ix (ix_listK K) (pv 3) (pv 5) (fun _ _ => rfl)) (pa_cons (pv 2) pa_nil)))) (pg_name (i := 4) sc_Heap_reached.nd rfl (Or.inl rfl)) (pss_one (ps_if (PW.pt (pw_and (pt_cmpR (notIn_seqK K) (pv 4) (pe_tup (pa_cons pe_int (pa_cons (pe_glob (v := .int _) rfl T.g_BUFFER ⟨_, rfl⟩) pa_nil))) rfl) (pw_and1 (pt_cmpR (notIn_seqK K) (pv 4) (pv 3) rfl)))) (pss_one (ps_expr (pe_bmK K PySem.F.plainAttrs_list PySem.F.slot_list_append PySem.F.type_list_append mt_append (pv 3) (pa_cons (pv 4) pa_nil)))) pss_nil)))
      (pss_one (ps_aug (i := 5) sc_Heap_reached.nd rfl (.inl rfl) pe_int ip_add))))
      (pss_one (ps_ret (pv 3))))))), ?_⟩
    refine rdSeq ?_
    walk_at "rd"
    intro fp hfp
    have n0 : NewL H (upd H fp (.lst [])) fp (nV []) := ⟨hfp, same_new hfp, upd_same⟩
    generalize upd H fp (.lst []) = H0 at n0
    refine rdSeq ?_
    walk_at "rd"
    refine ⟨⟨_, sqL_of (n0.same _ _ hra)⟩, i_for (walk_listL (l := roots) (r := fun n : Nat => V.int (n : Nat))) (fun i σ H' => NewL H H' fp (nV (roots.take i)) ∧ ∃ y, σ = [some (.ref A.h), some (.ref ra), some (.ref T.f_law_places), some (.ref fp), y, none]) ⟨n0, _, rfl⟩ (fun i σ H' _ k => sqL_of (k.1.same _ _ hra)) ?_ ?_⟩
    · rintro i x σ H1 H2 hi ⟨n1, y, rfl⟩ ⟨rfl, n, hn, rfl⟩
      have hmem := List.mem_of_getElem? hn
      obtain ⟨h60, o, ho⟩ := hg.2 n hmem
      have hr1 := h.rep.rng n o ho
      walk_at "rd"
      intro tp htp
      have n2 := n1.more (same_new (o := .tup [V.int 0, V.int 61]) htp)
      refine i_inL (.inr (sqT_of upd_same)) rfl rfl ?_
      have e0 : inV (V.int (n : Nat)) [V.int 0, V.int 61] = false := by
        show inV (V.int (n : Nat)) ([0, 61].map V.int) = false
        rw [inV_ints, decide_eq_false]
        intro z
        rcases List.mem_cons.mp z with z | z
        · omega
        · have := List.mem_singleton.mp z; omega
      rw [e0]
      walk_at "rd"
      refine i_inL (.inl n2.sq) rfl flat_nV ?_
      have e1 : inV (V.int (n : Nat)) (nV (roots.take i)) = false := by
        rw [inV_nV, decide_eq_false]
        rintro ⟨_, z⟩
        rw [Int.toNat_natCast] at z
        obtain ⟨k, hk, e⟩ := List.mem_iff_getElem.mp z
        rw [List.length_take] at hk
        rw [List.getElem_take] at e
        have hi2 : i < roots.length := hi
        have e3 : roots[i] = n := by rw [List.getElem?_eq_getElem hi2] at hn; exact Option.some.inj hn
        have := (List.getElem_inj hg.1).mp (e.trans e3.symm)
        omega
      rw [e1]
      walk_at "rd"
      refine ⟨ty_app n2.sq, i_app n2.at_ (by rw [List.length_map, List.length_take]; exact line5' (by have := hg.len; omega)) ?_⟩
      have e4 : nV (roots.take (i + 1)) = nV (roots.take i) ++ [V.int (n : Nat)] := by
        show List.map _ _ = _
        rw [List.take_add_one, hn, List.map_append]; rfl
      rw [e4]
      exact n2.set
    · rintro σ H1 ⟨n1, y, rfl⟩
      rw [List.take_length] at n1
      dsimp only
      refine rdSeq ?_
      walk_at "rd"
      refine rdSeq ?_
      refine i_while (fun m σ H' => ∃ i, m = 62 - i ∧ i ≤ (pr M roots i).length ∧ ∃ y, σ = [some (.ref A.h), some (.ref ra), some (.ref T.f_law_places), some (.ref fp), y, some (.int (i : Nat))] ∧ NewL H H' fp (nV (pr M roots i))) 62 ⟨0, rfl, Nat.zero_le _, _, rfl, n1⟩ ?_
      rintro _ σ H2 ⟨i, rfl, hi, y, rfl, n2⟩
      have gl := pr_good h.rep.nk hR hg i
      have hlen := gl.len
      walk_at "rd"
      refine i_lenL n2.sq ?_
      rw [List.length_map]
      refine ⟨_, rfl, ite2 (fun hlt => i_whT ?_) (fun hge => ?_)⟩
      · have hlt : i < (pr M roots i).length := by simpa using hlt
        obtain ⟨n, hn⟩ : ∃ n, (pr M roots i)[i]? = some n := ⟨_, List.getElem?_eq_getElem hlt⟩
        obtain ⟨h60, o, ho⟩ := gl.2 n (List.mem_of_getElem? hn)
        have h2 := h.same n2.same
        obtain ⟨_, ho2⟩ := h2.at_.ob
        refine rdSeq ?_
        walk_at "rd"
        refine i_meth ho2 rfl (i_ixL n2.sq (atI_nat (by rw [List.getElem?_map, hn]; rfl)) ⟨A, S, b, tm, f, pos, M, n, o, rfl, h2, ho, hR, fun H3 p3 hp3 s3 hpat => ?_⟩)
        have hb : bR M n = refsL o := by unfold bR; rw [obOf_eq h.rep.nk ho]
        have n3 := n2.more s3
        have np3 : p3 ≠ fp := (ne_of_none n2.at_ hp3).symm
        refine ⟨_, rfl, ⟨_, sqL_of hpat⟩, i_for (walk_listL (l := refsL o) (r := V.int)) (fun j σ H' => NewL H H' fp (nV (addR (pr M roots i) ((refsL o).take j))) ∧ H' p3 = some (.lst ((refsL o).map V.int)) ∧ ∃ y, σ = [some (.ref A.h), some (.ref ra), some (.ref T.f_law_places), some (.ref fp), y, some (.int (i : Nat))]) ⟨n3, hpat, _, rfl⟩ (fun i σ H' _ k => sqL_of k.2.1) ?_ ?_⟩
        · rintro j x σ H4 H5 hj ⟨n4, hp4, y, rfl⟩ ⟨rfl, c, hc, rfl⟩
          have hcm := List.mem_of_getElem? hc
          have hcr := hR.ref n o ho c hcm
          have gl4 : GoodL M (addR (pr M roots i) ((refsL o).take j)) := addR_good gl fun x hx => hR.ref n o ho x (List.mem_of_mem_take hx)
          have hlen4 := gl4.len
          have e4 : addR (pr M roots i) ((refsL o).take (j + 1)) = add1 (addR (pr M roots i) ((refsL o).take j)) c := by
            rw [List.take_add_one, hc]
            unfold addR
            rw [List.foldl_append]; rfl
          rw [e4]
          generalize addR (pr M roots i) ((refsL o).take j) = L at n4 gl4 hlen4
          walk_at "rd"
          intro tp htp
          have n5 := n4.more (same_new (o := .tup [V.int 0, V.int 61]) htp)
          have hp5 := same_new (o := .tup [V.int 0, V.int 61]) htp _ _ hp4
          refine i_inL (.inr (sqT_of upd_same)) rfl rfl ?_
          have e0 : inV (V.int c) [V.int 0, V.int 61] = decide (c = 0 ∨ c = 61) := by
            show inV (V.int c) ([0, 61].map V.int) = _
            rw [inV_ints, decide_eq_decide]; simp
          rw [e0]
          generalize upd H5 tp (.tup [V.int 0, V.int 61]) = H6 at n5 hp5
          by_cases hc0 : c = 0 ∨ c = 61
          · rw [decide_eq_true hc0]
            walk_at "rd"
            refine ⟨?_, hp5⟩
            unfold add1
            rw [if_pos (by rcases hc0 with k | k; exact .inl k; exact .inr (.inl k))]
            exact n5
          · rw [decide_eq_false hc0]
            walk_at "rd"
            refine i_inL (.inl n5.sq) rfl flat_nV ?_
            rw [inV_nV]
            have hc1 : 0 ≤ c := by rcases hcr with rfl | ⟨m, _, rfl, _⟩ <;> omega
            by_cases hm : c.toNat ∈ L
            · rw [decide_eq_true ⟨hc1, hm⟩]
              walk_at "rd"
              refine ⟨?_, hp5⟩
              unfold add1
              rw [if_pos (.inr (.inr hm))]
              exact n5
            · rw [decide_eq_false fun k => hm k.2]
              walk_at "rd"
              refine ⟨ty_app n5.sq, i_app n5.at_ (by rw [List.length_map]; exact line5' (by omega)) ⟨?_, ?_⟩⟩
              · unfold add1
                rw [if_neg (by rintro (k | k | k); exact hc0 (.inl k); exact hc0 (.inr k); exact hm k)]
                have e5 : nV (L ++ [c.toNat]) = nV L ++ [V.int c] := by
                  show List.map _ _ = _
                  rw [List.map_append]
                  show nV L ++ [V.int ((c.toNat : Nat) : Int)] = _
                  rw [Int.toNat_of_nonneg hc1]
                rw [e5]
                exact n5.set
              · rw [upd_ne np3]; exact hp5
        · rintro σ H4 ⟨n4, hp4, y, rfl⟩
          have e4 : addR (pr M roots i) ((refsL o).take (refsL o).length) = pr M roots (i + 1) := by rw [List.take_length, pr_next hn, hb]
          rw [e4] at n4
          have l4 := (pr_pre1 (M := M) (F0 := roots) i).length_le
          dsimp only
          walk_at "rd"
          exact ⟨62 - (i + 1), by omega, i + 1, rfl, by omega, by omega, n4⟩
      · have hge : (pr M roots i).length ≤ i := by simpa using hge
        rw [reach_stop h.rep.nk hR hg hge (by omega)] at n2
        walk_at "rd"
        exact q _ _ n2.free n2.same n2.at_
/-! ### heap.py: what is kept -/
def keptL (M : List (Nat × Ob)) (roots : List Nat) : List Nat := ((List.range 60).map (· + 1)).filter fun n => decide (n ∈ reachL M roots)
theorem mem_kept {M : List (Nat × Ob)} {roots : List Nat} {n : Nat} : n ∈ keptL M roots ↔ (1 ≤ n ∧ n ≤ 60) ∧ n ∈ reachL M roots := by
  unfold keptL
  rw [List.mem_filter, List.mem_map]
  constructor
  · rintro ⟨⟨i, hi, rfl⟩, h⟩
    have := List.mem_range.mp hi
    exact ⟨by omega, of_decide_eq_true h⟩
  · rintro ⟨h, hm⟩
    exact ⟨⟨n - 1, List.mem_range.mpr (by omega), by omega⟩, decide_eq_true hm⟩
theorem kept_nodup {M : List (Nat × Ob)} {roots : List Nat} : (keptL M roots).Nodup := range_nodup60.filter _
theorem kept_perm {M : List (Nat × Ob)} {roots : List Nat} (g : GoodL M (reachL M roots)) (rng : ∀ n o, (n, o) ∈ M → 1 ≤ n ∧ n ≤ 61) : (keptL M roots).Perm (reachL M roots) :=
  nodup_perm kept_nodup g.1 fun n => by
    rw [mem_kept]
    constructor
    · exact fun h => h.2
    · intro h
      obtain ⟨h60, o, ho⟩ := g.2 n h
      exact ⟨⟨(rng n o ho).1, h60⟩, h⟩
theorem range_sorted60 : ((List.range 60).map (· + 1)).Pairwise (· ≤ ·) := by decide +kernel
theorem kept_sorted {M : List (Nat × Ob)} {roots : List Nat} : ((keptL M roots).map fun n : Nat => (n : Int)).Pairwise (· ≤ ·) := by
  rw [List.pairwise_map]
  exact (range_sorted60.filter _).imp fun h => by omega
def clog (M : List (Nat × Ob)) (h : Nat) : Nat → List Nat → List (Nat × Int)
  | _, [] => []
  | u, n :: t => wordsAt (rm h + u) (headW (obOf M n)) ++ clog M h (u + (3 + lenOf M n)) t
def ctab (M : List (Nat × Ob)) : Nat → List Nat → List Int → List Int
  | _, [], W => W
  | u, n :: t, W => ctab M (u + (3 + lenOf M n)) t (W.set (n - 1) ((u + 1 : Nat) : Int))
def cuse (M : List (Nat × Ob)) : Nat → List Nat → Nat
  | u, [] => u
  | u, n :: t => cuse M (u + (3 + lenOf M n)) t
def cpos (M : List (Nat × Ob)) : Nat → List Nat → Nat → Nat
  | u, [], _ => u
  | u, m :: t, n => if m = n then u else cpos M (u + (3 + lenOf M m)) t n
def tab0 (M : List (Nat × Ob)) (ks : List Nat) : List Int := ctab M 0 ks (List.replicate 60 0)
def collL (M : List (Nat × Ob)) (h : Nat) (ks : List Nat) : List (Nat × Int) := clog M h 0 ks ++ (wordsAt (tb h) (tab0 M ks) ++ [(81, ((h : Nat) : Int))])
section
variable {M : List (Nat × Ob)} {h : Nat}
theorem clog_snoc {n : Nat} : ∀ {a : List Nat} {u : Nat}, clog M h u (a ++ [n]) = clog M h u a ++ wordsAt (rm h + cuse M u a) (headW (obOf M n))
  | [], u => by
    show wordsAt (rm h + u) _ ++ [] = [] ++ _
    rw [List.append_nil]; rfl
  | m :: a, u => by
    show wordsAt _ _ ++ clog M h _ (a ++ [n]) = wordsAt _ _ ++ clog M h _ a ++ _
    rw [clog_snoc (a := a), List.append_assoc]; rfl
theorem ctab_snoc {n : Nat} : ∀ {a : List Nat} {u : Nat} {W : List Int}, ctab M u (a ++ [n]) W = (ctab M u a W).set (n - 1) ((cuse M u a + 1 : Nat) : Int)
  | [], _, _ => rfl
  | m :: a, u, W => by
    show ctab M _ (a ++ [n]) _ = (ctab M _ a _).set _ _
    rw [ctab_snoc (a := a)]; rfl
theorem cuse_snoc {n : Nat} : ∀ {a : List Nat} {u : Nat}, cuse M u (a ++ [n]) = cuse M u a + (3 + lenOf M n)
  | [], _ => rfl
  | m :: a, u => by
    show cuse M _ (a ++ [n]) = cuse M _ a + _
    rw [cuse_snoc (a := a)]
theorem ctab_len : ∀ {a : List Nat} {u : Nat} {W : List Int}, (ctab M u a W).length = W.length
  | [], _, _ => rfl
  | m :: a, u, W => by
    show (ctab M _ a _).length = _
    rw [ctab_len (a := a), List.length_set]
theorem cuse_le : ∀ {a : List Nat} {u : Nat}, u ≤ cuse M u a
  | [], _ => Nat.le_refl _
  | m :: a, u => Nat.le_trans (by omega) (cuse_le (a := a) (u := u + (3 + lenOf M m)))
theorem cuse_sum : ∀ {a : List Nat} {u : Nat}, ((cuse M u a : Nat) : Int) = u + (a.map fun n => ((3 + lenOf M n : Nat) : Int)).sum
  | [], u => by simp [cuse]
  | m :: a, u => by
    show ((cuse M (u + (3 + lenOf M m)) a : Nat) : Int) = _
    rw [cuse_sum (a := a), List.map_cons, List.sum_cons]; omega
theorem ctab_out {i : Nat} : ∀ {a : List Nat} {u : Nat} {W : List Int}, (∀ n ∈ a, n - 1 ≠ i) → (ctab M u a W).getD i 0 = W.getD i 0
  | [], _, _, _ => rfl
  | m :: a, u, W, hn => by
    show (ctab M _ a _).getD i 0 = _
    rw [ctab_out (a := a) fun n hn' => hn n (List.mem_cons_of_mem _ hn'), getD_setN (hn m List.mem_cons_self)]
theorem ctab_in {n : Nat} : ∀ {a : List Nat} {u : Nat} {W : List Int}, n ∈ a → a.Nodup → (∀ m ∈ a, 1 ≤ m) → n - 1 < W.length → (ctab M u a W).getD (n - 1) 0 = ((cpos M u a n + 1 : Nat) : Int)
  | m :: a, u, W, hm, nd, h1, hl => by
    rw [List.nodup_cons] at nd
    show (ctab M _ a _).getD (n - 1) 0 = _
    by_cases e : m = n
    · subst e
      rw [ctab_out fun k hk z => ?_, getD_setE hl]
      · unfold cpos; rw [if_pos rfl]
      · have h2 := h1 m List.mem_cons_self
        have h3 := h1 k (List.mem_cons_of_mem _ hk)
        have : k = m := by omega
        exact nd.1 (by rw [← this]; exact hk)
    · have hm2 : n ∈ a := by
        rcases List.mem_cons.mp hm with z | z
        · exact absurd z.symm e
        · exact z
      rw [ctab_in (a := a) hm2 nd.2 (fun k hk => h1 k (List.mem_cons_of_mem _ hk)) (by rw [List.length_set]; exact hl)]
      conv => rhs; unfold cpos
      rw [if_neg e]
theorem cpos_in {n : Nat} : ∀ {a : List Nat} {u : Nat}, n ∈ a → u ≤ cpos M u a n ∧ cpos M u a n + (3 + lenOf M n) ≤ cuse M u a
  | m :: a, u, hm => by
    by_cases e : m = n
    · subst e
      unfold cpos
      rw [if_pos rfl]
      exact ⟨Nat.le_refl _, cuse_le (a := a)⟩
    · have hm2 : n ∈ a := by
        rcases List.mem_cons.mp hm with z | z
        · exact absurd z.symm e
        · exact z
      have ih := cpos_in (a := a) (u := u + (3 + lenOf M m)) hm2
      unfold cpos
      rw [if_neg e]
      exact ⟨by omega, ih.2⟩
theorem cpos_dj {n m : Nat} (hne : n ≠ m) : ∀ {a : List Nat} {u : Nat}, n ∈ a → m ∈ a → cpos M u a n + (3 + lenOf M n) ≤ cpos M u a m ∨ cpos M u a m + (3 + lenOf M m) ≤ cpos M u a n
  | k :: a, u, hn, hm => by
    by_cases e1 : k = n
    · subst e1
      have hm2 : m ∈ a := by
        rcases List.mem_cons.mp hm with z | z
        · exact absurd z.symm hne
        · exact z
      have := cpos_in (M := M) (a := a) (u := u + (3 + lenOf M k)) hm2
      left
      unfold cpos
      rw [if_pos rfl, if_neg hne]
      exact this.1
    · have hn2 : n ∈ a := by
        rcases List.mem_cons.mp hn with z | z
        · exact absurd z.symm e1
        · exact z
      by_cases e2 : k = m
      · subst e2
        have := cpos_in (M := M) (a := a) (u := u + (3 + lenOf M k)) hn2
        right
        unfold cpos
        rw [if_pos rfl, if_neg (Ne.symm hne)]
        exact this.1
      · have hm2 : m ∈ a := by
          rcases List.mem_cons.mp hm with z | z
          · exact absurd z.symm e2
          · exact z
        unfold cpos
        rw [if_neg e1, if_neg e2]
        exact cpos_dj hne (a := a) hn2 hm2
theorem clog_mem : ∀ {a : List Nat} {u : Nat} {p : Nat × Int}, (∀ n ∈ a, (headW (obOf M n)).length ≤ 3 + lenOf M n) → p ∈ clog M h u a → rm h + u ≤ p.1 ∧ p.1 < rm h + cuse M u a
  | m :: a, u, p, hl, hp => by
    have c := cuse_le (M := M) (a := a) (u := u + (3 + lenOf M m))
    rcases List.mem_append.mp hp with hp | hp
    · have := wordsAt_mem hp
      have := hl m List.mem_cons_self
      show _ ∧ _ < rm h + cuse M (u + (3 + lenOf M m)) a
      omega
    · have := clog_mem (a := a) (fun n hn => hl n (List.mem_cons_of_mem _ hn)) hp
      show _ ∧ _ < rm h + cuse M (u + (3 + lenOf M m)) a
      omega
theorem clog_in {n j : Nat} : ∀ {a : List Nat} {u : Nat} {W : List Int}, (∀ n ∈ a, (headW (obOf M n)).length ≤ 3 + lenOf M n) → n ∈ a → j < (headW (obOf M n)).length → rm h + cuse M u a ≤ W.length → (applyL W (clog M h u a)).getD (rm h + cpos M u a n + j) 0 = (headW (obOf M n)).getD j 0
  | m :: a, u, W, hl, hn, hj, hz => by
    have c := cuse_le (M := M) (a := a) (u := u + (3 + lenOf M m))
    have hz : rm h + cuse M (u + (3 + lenOf M m)) a ≤ W.length := hz
    have hlm := hl m List.mem_cons_self
    show (applyL W (wordsAt _ _ ++ clog M h _ a)).getD _ 0 = _
    rw [applyL_app]
    by_cases e : m = n
    · subst e
      unfold cpos
      rw [if_pos rfl, applyL_out _ _ fun p hp => ?_]
      · exact applyL_in hj (by omega)
      · have := clog_mem (a := a) (fun n hn => hl n (List.mem_cons_of_mem _ hn)) hp
        omega
    · have hm2 : n ∈ a := by
        rcases List.mem_cons.mp hn with z | z
        · exact absurd z.symm e
        · exact z
      unfold cpos
      rw [if_neg e]
      exact clog_in (a := a) (fun n hn => hl n (List.mem_cons_of_mem _ hn)) hm2 hj (by rw [applyL_len]; exact hz)
end
theorem clog_pre {M : List (Nat × Ob)} {h : Nat} : ∀ {a b : List Nat} {u : Nat}, a <+: b → clog M h u a <+: clog M h u b := by
  rintro a b u ⟨t, rfl⟩
  have : ∀ (a : List Nat) (u : Nat), clog M h u (a ++ t) = clog M h u a ++ clog M h (cuse M u a) t := fun a => by
    induction a with
    | nil => intro u; rfl
    | cons m a ih =>
      intro u
      show wordsAt _ _ ++ clog M h _ (a ++ t) = wordsAt _ _ ++ clog M h _ a ++ _
      rw [ih, List.append_assoc]; rfl
  rw [this]
  exact List.prefix_append _ _
theorem wlog_snoc {S S' : CS} {a : List (Nat × Int)} {p : Nat × Int} (e : wlog S a = (S', true)) : wlog S (a ++ [p]) = writeS S' p.1 p.2 := by
  rw [wlog_app, e, if_pos rfl]
  show (if (writeS S' p.1 p.2).2 = true then _ else _) = _
  by_cases e3 : (writeS S' p.1 p.2).2 = true
  · rw [if_pos e3]
    show ((writeS S' p.1 p.2).1, true) = _
    rw [← e3]
  · rw [if_neg e3]
    have e3 : (writeS S' p.1 p.2).2 = false := by simpa using e3
    rw [← e3]
theorem wlog_pre {S S' : CS} {a L : List (Nat × Int)} (h : a <+: L) (e : wlog S a = (S', false)) : wlog S L = (S', false) := by
  obtain ⟨t, rfl⟩ := h
  rw [wlog_app, e, if_neg (by simp)]
theorem wordsAt_take {b j : Nat} {ws : List Int} (h : j < ws.length) : wordsAt b (ws.take (j + 1)) = wordsAt b (ws.take j) ++ [(b + j, ws[j])] := by
  rw [List.take_add_one, List.getElem?_eq_getElem h, Option.toList_some, wordsAt_app, List.length_take, Nat.min_eq_left (by omega)]; rfl
theorem wordsAt_pre {b j : Nat} {ws : List Int} : wordsAt b (ws.take j) <+: wordsAt b ws := by
  conv => rhs; rw [← List.take_append_drop j ws, wordsAt_app]
  exact List.prefix_append _ _
/-- writes beside what is in use -/
theorem hold_log {T : Txt K mg} {H : Hp} {A : HA} {S S' : CS} {b : Bool} {tm : Tm} {f : Nat} {pos : Nat → Nat} {M : List (Nat × Ob)} (h : Hold T H A S b tm f pos M) {a : List (Nat × Int)} (ha : ∀ p ∈ a, p.1 ≠ 81 ∧ (p.1 < tb f ∨ rm f + usd M ≤ p.1)) (e : wlog S a = (S', true)) : S'.words.length = 1002 ∧ S'.on = true ∧ Rep S'.words f pos M tm := by
  have l1 := wlog_len a S
  have l2 := wlog_ok (l := a) (S := S) (by rw [e])
  rw [e] at l1 l2
  refine ⟨by rw [l1]; exact h.at_.sz, l2.2 h.on, ?_⟩
  have : S'.words = applyL S.words a := l2.1
  rw [this]
  refine h.rep.agree fun j hj => applyL_out _ _ fun p hp => ?_
  have := ha p hp
  rcases hj with rfl | hj
  · exact this.1
  · omega
/-- only what is kept, and the buffer -/
def keepM (ks : List Nat) (M : List (Nat × Ob)) : List (Nat × Ob) := M.filter fun e => decide (e.1 ∈ ks ∨ e.1 = 61)
theorem mem_keepM {ks : List Nat} {M : List (Nat × Ob)} {n : Nat} {o : Ob} : (n, o) ∈ keepM ks M ↔ (n, o) ∈ M ∧ (n ∈ ks ∨ n = 61) := by
  unfold keepM
  rw [List.mem_filter, decide_eq_true_iff]
theorem usd_keep {ks : List Nat} : ∀ {M : List (Nat × Ob)}, usd (keepM ks M) ≤ usd M
  | [] => Nat.le_refl _
  | e :: t => by
    have ih := usd_keep (ks := ks) (M := t)
    unfold usd keepM at ih ⊢
    rw [List.filter_cons]
    split
    · rw [List.filter_cons, List.filter_cons]
      split
      · simp only [List.map_cons, List.sum_cons]; omega
      · exact ih
    · rw [List.filter_cons (p := fun e : Nat × Ob => decide (e.1 < 61))]
      split
      · simp only [List.map_cons, List.sum_cons]; omega
      · exact ih
theorem Rep.coll {W : List Int} {f : Nat} {pos : Nat → Nat} {M : List (Nat × Ob)} {tm : Tm} (R : Rep W f pos M tm) (hW : W.length = 1002) {ks : List Nat} (nd : ks.Nodup) (hks : ∀ n ∈ ks, 1 ≤ n ∧ n ≤ 60 ∧ ∃ o, (n, o) ∈ M) (srt : numL (keepM ks M) = ks) :
    Rep (applyL W (collL M (1 - f) ks)) (1 - f) (cpos M 0 ks) (keepM ks M) tm := by
  have nk' : ((keepM ks M).map (·.1)).Nodup := List.Sublist.nodup (List.Sublist.map _ List.filter_sublist) R.nk
  have rng' : ∀ n o, (n, o) ∈ keepM ks M → 1 ≤ n ∧ n ≤ 61 := fun n o ho => R.rng n o (mem_keepM.mp ho).1
  have hlen : ∀ n ∈ ks, (headW (obOf M n)).length ≤ 3 + lenOf M n := fun n hn => by
    obtain ⟨_, _, o, ho⟩ := hks n hn
    rw [obOf_eq R.nk ho, lenOf_eq R.nk ho]; exact headW_len
  have hu : cuse M 0 ks = usd (keepM ks M) := by
    have h1 := cuse_sum (M := M) (a := ks) (u := 0)
    have h2 := numL_sum nk' rng'
    rw [srt] at h2
    have h3 : (ks.map fun n => ((3 + lenOf (keepM ks M) n : Nat) : Int)) = ks.map fun n => ((3 + lenOf M n : Nat) : Int) := List.map_congr_left fun n hn => by
      obtain ⟨_, _, o, ho⟩ := hks n hn
      rw [lenOf_eq R.nk ho, lenOf_eq nk' (mem_keepM.mpr ⟨ho, .inl hn⟩)]
    rw [h3] at h2
    omega
  have hle := R.le
  have hk := usd_keep (ks := ks) (M := M)
  have hf := R.f2
  have htl : (tab0 M ks).length = 60 := by unfold tab0; rw [ctab_len, List.length_replicate]
  have r1 : rm (1 - f) = tb (1 - f) + 60 := by unfold rm tb; omega
  have r2 : rm (1 - f) + 400 ≤ 1002 := by unfold rm; omega
  have r3 : 81 < tb (1 - f) := by unfold tb; omega
  have cm : ∀ p ∈ clog M (1 - f) 0 ks, rm (1 - f) ≤ p.1 := fun p hp => (clog_mem hlen hp).1
  have get : ∀ i, tb (1 - f) + 60 ≤ i → (applyL W (collL M (1 - f) ks)).getD i 0 = (applyL W (clog M (1 - f) 0 ks)).getD i 0 := fun i hi => by
    unfold collL
    rw [applyL_app]
    refine applyL_out _ _ fun p hp => ?_
    rcases List.mem_append.mp hp with hp | hp
    · have := wordsAt_mem hp
      omega
    · rw [List.mem_singleton.mp hp]; show 81 ≠ i; omega
  have tab : ∀ k, k < 60 → (applyL W (collL M (1 - f) ks)).getD (tb (1 - f) + k) 0 = (tab0 M ks).getD k 0 := fun k hk => by
    unfold collL
    rw [applyL_app, applyL_app, applyL_out [(81, ((1 - f : Nat) : Int))] _ fun p hp => ?_]
    · exact applyL_in (by omega) (by rw [applyL_len]; omega)
    · rw [List.mem_singleton.mp hp]; show 81 ≠ _; omega
  have tab1 : ∀ n, 1 ≤ n → n ≤ 60 → (applyL W (collL M (1 - f) ks)).getD (tb (1 - f) + n - 1) 0 = (tab0 M ks).getD (n - 1) 0 := fun n h1 h2 => by
    rw [← tab (n - 1) (by omega)]; congr 1; omega
  have word : ∀ n o, (n, o) ∈ M → n ∈ ks → ∀ j, j < (headW o).length → (applyL W (collL M (1 - f) ks)).getD (rm (1 - f) + cpos M 0 ks n + j) 0 = (headW o).getD j 0 := fun n o ho hn j hj => by
    rw [get _ (by omega)]
    have := clog_in (M := M) (h := 1 - f) (j := j) (u := 0) (W := W) hlen hn (by rw [obOf_eq R.nk ho]; exact hj) (by rw [hu]; omega)
    rw [obOf_eq R.nk ho] at this
    exact this
  refine ⟨by omega, ?_, nk', rng', ?_, fun n h1 h2 h3 => ?_, fun n o ho hn => ?_, fun n o ho hk => R.tmp n o (mem_keepM.mp ho).1 hk, fun n o ho hn => ?_, fun n o m u ho hu' hn hm hne => ?_, by omega⟩
  · unfold collL
    rw [applyL_app, applyL_app]
    show ((applyL _ _).set 81 _).getD 81 0 = _
    exact getD_setE (by rw [applyL_len, applyL_len]; omega)
  · obtain ⟨vs, hv, hl⟩ := R.buf
    exact ⟨vs, mem_keepM.mpr ⟨hv, .inr rfl⟩, hl⟩
  · rw [tab1 n h1 h2]
    unfold tab0
    rw [ctab_out fun m hm e => ?_]
    · rw [List.getD_eq_getElem?_getD, List.getElem?_replicate]; split <;> rfl
    · have hm1 := hks m hm
      have : m = n := by omega
      subst this
      obtain ⟨_, _, o, ho⟩ := hm1
      exact h3 o (mem_keepM.mpr ⟨ho, .inl hm⟩)
  · obtain ⟨ho, hn'⟩ := mem_keepM.mp ho
    have hn' : n ∈ ks := by rcases hn' with h | h; exact h; omega
    have hk1 := hks n hn'
    have w := word n o ho hn'
    refine ⟨?_, w 0 (by unfold headW; simp), w 1 (by unfold headW; simp), w 2 (by unfold headW; simp), fun kk i hi => ?_⟩
    · rw [tab1 n hk1.1 hk1.2.1]
      unfold tab0
      rw [ctab_in hn' nd (fun m hm => (hks m hm).1) (by rw [List.length_replicate]; omega)]
      omega
    · have := w (3 + i) (by unfold headW; rw [if_neg kk]; simp; omega)
      rw [show rm (1 - f) + cpos M 0 ks n + 3 + i = rm (1 - f) + cpos M 0 ks n + (3 + i) by omega, this]
      unfold headW
      rw [if_neg kk, show 3 + i = i + 1 + 1 + 1 by omega]
      rfl
  · obtain ⟨ho, hn'⟩ := mem_keepM.mp ho
    have hn' : n ∈ ks := by rcases hn' with h | h; exact h; omega
    have := (cpos_in (M := M) (u := 0) hn').2
    rw [lenOf_eq R.nk ho] at this
    omega
  · obtain ⟨ho, hn'⟩ := mem_keepM.mp ho
    have hn' : n ∈ ks := by rcases hn' with h | h; exact h; omega
    obtain ⟨hu', hm'⟩ := mem_keepM.mp hu'
    have hm' : m ∈ ks := by rcases hm' with h | h; exact h; omega
    have := cpos_dj (M := M) hne (u := 0) hn' hm'
    rw [lenOf_eq R.nk ho, lenOf_eq R.nk hu'] at this
    omega
theorem numL_kept {M : List (Nat × Ob)} {roots : List Nat} (g : GoodL M (reachL M roots)) : numL (keepM (keptL M roots) M) = keptL M roots := by
  show List.filter _ _ = List.filter _ _
  refine List.filter_congr fun n hn => ?_
  obtain ⟨i, hi, rfl⟩ := List.mem_map.mp hn
  have hi := List.mem_range.mp hi
  rw [Bool.eq_iff_iff, mem_any, decide_eq_true_iff]
  constructor
  · rintro ⟨o, ho⟩
    rcases (mem_keepM.mp ho).2 with h | h
    · exact (mem_kept.mp h).2
    · omega
  · intro h
    obtain ⟨_, o, ho⟩ := g.2 _ h
    exact ⟨o, mem_keepM.mpr ⟨ho, .inl (mem_kept.mpr ⟨⟨by omega, by omega⟩, h⟩)⟩⟩
def sp_Heap_collect {K : PySem.W.Frag} {mg : Str → Option Value} (T : Txt K mg) : Sp := fun vs H Q E => ∃ (A : HA) (S : CS) (b : Bool) (tm : Tm) (f : Nat) (pos : Nat → Nat) (M : List (Nat × Ob)) (ra : Addr) (roots : List Nat), vs = [.ref A.h, .ref ra, .ref T.f_law_places] ∧ Hold T H A S b tm f pos M ∧ RefsOk M ∧
  H ra = some (.lst (nV roots)) ∧ GoodL M roots ∧ ∀ H', HeapAt T H' A (wlog S (collL M (1 - f) (keptL M roots))).1 b tm → Mvs H (own A tm) H' (own A tm) → ((wlog S (collL M (1 - f) (keptL M roots))).2 = true → Q .non H') ∧ ((wlog S (collL M (1 - f) (keptL M roots))).2 = false → E (.ref T.c_PowerCut) none H')
theorem HeapAt.fresh {T : Txt K mg} {H : Hp} {A : HA} {S : CS} {b : Bool} {tm : Tm} (h : HeapAt T H A S b tm) {p : Addr} (n : H p = none) : p ≠ A.h ∧ p ≠ A.c ∧ p ≠ A.l ∧ p ≠ A.j ∧ p ≠ A.dt ∧ ∀ e ∈ tm, p ≠ e.2.1 := by
  obtain ⟨_, ho⟩ := h.ob
  obtain ⟨_, hc⟩ := h.cs.ob
  obtain ⟨_, hj⟩ := h.jr
  exact ⟨(ne_of_none ho n).symm, (ne_of_none hc n).symm, (ne_of_none h.cs.ws n).symm, (ne_of_none hj n).symm, (ne_of_none h.td n).symm, fun e he => (ne_of_none (h.tk.tl e he) n).symm⟩
theorem HeapAt.kpx {T : Txt K mg} {H H' : Hp} {A : HA} {S : CS} {b : Bool} {tm : Tm} (h : HeapAt T H A S b tm) {p : Addr} (k : Kp [p] H H') (n : p ≠ A.h ∧ p ≠ A.c ∧ p ≠ A.l ∧ p ≠ A.j ∧ p ≠ A.dt ∧ ∀ e ∈ tm, p ≠ e.2.1) : HeapAt T H' A S b tm := by
  obtain ⟨n1, n2, n3, n4, n5, n6⟩ := n
  obtain ⟨dx, ho⟩ := h.ob
  exact ⟨⟨dx, k _ _ (by simp [Ne.symm n1]) ho⟩, h.cs.keep k (by simp [Ne.symm n2]) (by simp [Ne.symm n3]), h.jr.keep k (by simp [Ne.symm n4]), h.sz, k _ _ (by simp [Ne.symm n5]) h.td, ⟨fun e he => k _ _ (by simp [Ne.symm (n6 e he)]) (h.tk.tl e he), h.tk.nl, h.tk.nd, h.tk.nk, h.tk.kr, h.tk.bf⟩⟩
/-- i of the kept are written; the writes of the next are done as far as `more` -/
structure CollI (T : Txt K mg) (H : Hp) (A : HA) (S : CS) (b : Bool) (tm : Tm) (f : Nat) (pos : Nat → Nat) (M : List (Nat × Ob)) (ks : List Nat) (pk pt : Addr) (tbl : List Int) (done : List (Nat × Int)) (H2 : Hp) (S' : CS) : Prop where
  h : Hold T H2 A S' b tm f pos M
  es : wlog S done = (S', true)
  hk : H2 pk = some (.lst (nV ks))
  ht : H2 pt = some (.lst (tbl.map V.int))
  mv : Mvs H (own A tm) H2 (own A tm)
  frk : H pk = none
  frt : H pt = none
  npk : pk ≠ pt
theorem CollI.same {T : Txt K mg} {H : Hp} {A : HA} {S : CS} {b : Bool} {tm : Tm} {f : Nat} {pos : Nat → Nat} {M : List (Nat × Ob)} {ks : List Nat} {pk pt : Addr} {tbl : List Int} {done : List (Nat × Int)} {H2 H3 : Hp} {S' : CS} (c : CollI T H A S b tm f pos M ks pk pt tbl done H2 S') (s : Same H2 H3) : CollI T H A S b tm f pos M ks pk pt tbl done H3 S' :=
  ⟨c.h.same s, c.es, s _ _ c.hk, s _ _ c.ht, c.mv.trans (Mvs.same s), c.frk, c.frt, c.npk⟩
theorem CollI.fr {T : Txt K mg} {H : Hp} {A : HA} {S : CS} {b : Bool} {tm : Tm} {f : Nat} {pos : Nat → Nat} {M : List (Nat × Ob)} {ks : List Nat} {pk pt : Addr} {tbl : List Int} {done : List (Nat × Int)} {H2 : Hp} {S' : CS} (c : CollI T H A S b tm f pos M ks pk pt tbl done H2 S') (h0 : HeapAt T H A S b tm) : pk ∉ [A.c, A.l] ∧ pt ∉ [A.c, A.l] := by
  obtain ⟨_, hc⟩ := h0.cs.ob
  have t1 := ne_of_none hc c.frk
  have t2 := ne_of_none h0.cs.ws c.frk
  have t3 := ne_of_none hc c.frt
  have t4 := ne_of_none h0.cs.ws c.frt
  exact ⟨by simp [Ne.symm t1, Ne.symm t2], by simp [Ne.symm t3, Ne.symm t4]⟩
/-- one more word is written -/
theorem CollI.step {T : Txt K mg} {H : Hp} {A : HA} {S : CS} {b : Bool} {tm : Tm} {f : Nat} {pos : Nat → Nat} {M : List (Nat × Ob)} {ks : List Nat} {pk pt : Addr} {tbl : List Int} {done : List (Nat × Int)} {H2 H3 : Hp} {S' : CS} (h0 : Hold T H A S b tm f pos M) (c : CollI T H A S b tm f pos M ks pk pt tbl done H2 S') {i : Nat} {w : Int} (hdone : ∀ p ∈ done ++ [(i, w)], p.1 ≠ 81 ∧ (p.1 < tb f ∨ rm f + usd M ≤ p.1))
    (c3 : CellsAt T.c_Cells H3 A.c A.l (writeS S' i w).1) (k : Kp [A.c, A.l] H2 H3) (e : (writeS S' i w).2 = true) : CollI T H A S b tm f pos M ks pk pt tbl (done ++ [(i, w)]) H3 (writeS S' i w).1 := by
  have es : wlog S (done ++ [(i, w)]) = ((writeS S' i w).1, true) := by rw [wlog_snoc c.es, ← e]
  obtain ⟨l1, l2, l3⟩ := hold_log h0 hdone es
  obtain ⟨n1, n2⟩ := c.fr h0.at_
  exact ⟨⟨c.h.at_.cell c3 l1 k, l3, l2⟩, es, k _ _ n1 c.hk, k _ _ n2 c.ht, c.mv.trans (own_kp k), c.frk, c.frt, c.npk⟩
theorem CollI.cut {T : Txt K mg} {H : Hp} {A : HA} {S : CS} {b : Bool} {tm : Tm} {f : Nat} {pos : Nat → Nat} {M : List (Nat × Ob)} {ks : List Nat} {pk pt : Addr} {tbl : List Int} {done L : List (Nat × Int)} {H2 H3 : Hp} {S' : CS} (c : CollI T H A S b tm f pos M ks pk pt tbl done H2 S') {i : Nat} {w : Int} (hp : done ++ [(i, w)] <+: L)
    (c3 : CellsAt T.c_Cells H3 A.c A.l (writeS S' i w).1) (k : Kp [A.c, A.l] H2 H3) (e : (writeS S' i w).2 = false) : wlog S L = ((writeS S' i w).1, false) ∧ HeapAt T H3 A (writeS S' i w).1 b tm ∧ Mvs H (own A tm) H3 (own A tm) := by
  have es : wlog S (done ++ [(i, w)]) = ((writeS S' i w).1, false) := by rw [wlog_snoc c.es, ← e]
  exact ⟨wlog_pre hp es, c.h.at_.cell c3 (by rw [writeS_len]; exact c.h.at_.sz) k, c.mv.trans (own_kp k)⟩
inductive MidC (T : Txt K mg) (H : Hp) (A : HA) (S : CS) (b : Bool) (tm : Tm) (f : Nat) (pos : Nat → Nat) (M : List (Nat × Ob)) (ks : List Nat) (pk pt : Addr) (vs : List V) (i : Nat) : L2.St → Hp → Prop where
  | mk (H2 : Hp) (S' : CS) (y1 y2 y3 y4 : Option V) (c : CollI T H A S b tm f pos M ks pk pt (ctab M 0 (ks.take i) (List.replicate 60 0)) (clog M (1 - f) 0 (ks.take i)) H2 S') : MidC T H A S b tm f pos M ks pk pt vs i (vs.map some ++ [some (.int (cuse M 0 (ks.take i) : Nat)), y1, y2, y3, y4]) H2
inductive MidC2 (T : Txt K mg) (H : Hp) (A : HA) (S : CS) (b : Bool) (tm : Tm) (f : Nat) (pos : Nat → Nat) (M : List (Nat × Ob)) (ks : List Nat) (pk pt : Addr) (tbl : List Int) (done : List (Nat × Int)) (bs : Nat) (ws : List Int) (lw : Addr) (vs : List V) (j : Nat) : L2.St → Hp → Prop where
  | mk (H2 : Hp) (S' : CS) (y3 y4 : Option V) (c : CollI T H A S b tm f pos M ks pk pt tbl (done ++ wordsAt bs (ws.take j)) H2 S') (hl : H2 lw = some (.lst (ws.map V.int))) (nl : lw ∉ [A.c, A.l]) : MidC2 T H A S b tm f pos M ks pk pt tbl done bs ws lw vs j (vs.map some ++ [y3, y4]) H2
inductive MidC3 (T : Txt K mg) (H : Hp) (A : HA) (S : CS) (b : Bool) (tm : Tm) (f : Nat) (pos : Nat → Nat) (M : List (Nat × Ob)) (ks : List Nat) (pk pt : Addr) (tbl : List Int) (done : List (Nat × Int)) (bs : Nat) (vs : List (Option V)) (j : Nat) : L2.St → Hp → Prop where
  | mk (H2 : Hp) (S' : CS) (y3 y4 : Option V) (c : CollI T H A S b tm f pos M ks pk pt tbl (done ++ wordsAt bs (tbl.take j)) H2 S') : MidC3 T H A S b tm f pos M ks pk pt tbl done bs vs j (vs ++ [y3, y4]) H2
theorem ok_Heap_collect (T : Txt K mg) : FnOk P w K mg base (L2.CX P w) 9 T.f_Heap_collect T.d_Heap_collect ["self", "roots", "places"] (sp_Heap_collect T) := by
  refine T.k_Heap_collect.okX sc_Heap_collect (fun vs H Q E h => ?_) (fun cdv A outer s H vs Q E hr h => ?_)
  · obtain ⟨A, S, b, tm, f, pos, M, ra, roots, rfl, _⟩ := h
    rfl
  · obtain ⟨A, S, b, tm, f, pos, M, ra, roots, rfl, h, hR, hra, hg, q⟩ := h
    -- 0:self 1:roots 2:places 3:half 4:kept 5:table 6:used 7:number 8:words 9:index 10:word
    refine ⟨_, (pss_cons (ps_set (i := 3) sc_Heap_collect.nd rfl (.inl rfl) (pe_op op_sub pe_int (pe_meth0 (pv 0) T.cl_Heap T.me_Heap__half (ok_Heap__half T) (hr.mono (by decide)) T.b_Heap__half .nil pass0)))
      (pss_cons (ps_set (i := 4) sc_Heap_collect.nd rfl (.inl rfl) (pe_callB cr_sortedI (by rfl) T.m_sorted (by decide +kernel) (pa_cons (pe_meth (pv 0) T.cl_Heap T.me_Heap_reached (ok_Heap_reached T) (hr.mono (by decide)) T.b_Heap_reached .nil pass0 (pa_cons (pv 1) (pa_cons (pv 2) pa_nil))) pa_nil)))
      (pss_cons (ps_set (i := 5) sc_Heap_collect.nd rfl (.inl rfl) (pe_op op_rep (pe_lst (pa_cons pe_int pa_nil)) (pe_glob (v := .int _) rfl T.g_MOST_OBJECTS ⟨_, rfl⟩)))
      (pss_cons (ps_set (i := 6) sc_Heap_collect.nd rfl (.inl rfl) pe_int)
      (pss_cons (ps_for (passes_of rfl) rfl (pi_list (pv 4)) (pg_name (i := 7) sc_Heap_collect.nd rfl (Or.inl rfl)) (pss_cons (ps_set (i := 8) sc_Heap_collect.nd rfl (.inl rfl) (pe_meth (pv 0) T.cl_Heap T.me_Heap__words (ok_Heap__words T) (hr.mono (by decide)) T.b_Heap__words .nil pass0 (pa_cons (pv 7) pa_nil)))
      (pss_cons (ps_for (passes_of rfl) rfl (pi_enum (by rfl) T.m_enumerate (pa_cons (pv 8) pa_nil)) (pg_tup rfl (pgs_cons (pg_name (i := 9) sc_Heap_collect.nd rfl (Or.inl rfl)) (pgs_cons (pg_name (i := 10) sc_Heap_collect.nd rfl (Or.inl rfl)) pgs_nil))) (pss_one (ps_expr (pe_methS (pe_fldK K (pv 0) rfl) T.cl_Cells T.me_Cells_write (ok_Cells_write T) (hr.mono (by decide)) T.b_Cells_write (fun σ => passAt (takes_of rfl rfl rfl rfl) σ) (pa_cons (pe_op op_add (pe_op op_add (pe_meth (pv 0) T.cl_Heap T.me_Heap__room (ok_Heap__room T) (hr.mono (by decide)) T.b_Heap__room .nil pass0 (pa_cons (pv 3) pa_nil)) (pv 6)) (pv 9)) (pa_cons (pv 10) pa_nil))))))
      (pss_cons (ps_asg (pe_op op_add (pv 6) pe_int) (pg_sub (pv 5) (pe_op op_sub (pv 7) pe_int) set_list))
      (pss_one (ps_aug (i := 6) sc_Heap_collect.nd rfl (.inl rfl) (pe_op op_add (pe_glob (v := .int _) rfl T.g_HEAD_CELLS ⟨_, rfl⟩) (pe_meth (pv 0) T.cl_Heap T.me_Heap_size (ok_Heap_size T) (hr.mono (by decide)) T.b_Heap_size .nil pass0 (pa_cons (pv 7) pa_nil))) ip_add))))))
      (pss_cons (ps_for (passes_of rfl) rfl (pi_enum (by rfl) T.m_enumerate (pa_cons (pv 5) pa_nil)) (pg_tup rfl (pgs_cons (pg_name (i := 9) sc_Heap_collect.nd rfl (Or.inl rfl)) (pgs_cons (pg_name (i := 10) sc_Heap_collect.nd rfl (Or.inl rfl)) pgs_nil))) (pss_one (ps_expr (pe_methS (pe_fldK K (pv 0) rfl) T.cl_Cells T.me_Cells_write (ok_Cells_write T) (hr.mono (by decide)) T.b_Cells_write (fun σ => passAt (takes_of rfl rfl rfl rfl) σ) (pa_cons (pe_op op_add (pe_meth (pv 0) T.cl_Heap T.me_Heap__table (ok_Heap__table T) (hr.mono (by decide)) T.b_Heap__table .nil pass0 (pa_cons (pv 3) pa_nil)) (pv 9)) (pa_cons (pv 10) pa_nil))))))
      (pss_one (ps_expr (pe_methS (pe_fldK K (pv 0) rfl) T.cl_Cells T.me_Cells_write (ok_Cells_write T) (hr.mono (by decide)) T.b_Cells_write (fun σ => passAt (takes_of rfl rfl rfl rfl) σ) (pa_cons (pe_fldK K (pv 0) rfl) (pa_cons (pv 3) pa_nil))))))))))), ?_⟩
    obtain ⟨dx, ho⟩ := h.at_.ob
    have gr := reach_good h.rep.nk hR hg
    have hf := h.rep.f2
    refine rdSeq ?_
    walk_at "rd"
    refine i_meth ho rfl (h.half ⟨_, rfl, ?_⟩)
    rw [show (1 : Int) - (f : Int) = ((1 - f : Nat) : Int) by omega]
    refine rdSeq ?_
    walk_at "rd"
    refine i_meth ho rfl ⟨A, S, b, tm, f, pos, M, ra, roots, rfl, h, hR, hra, hg, fun H1 p1 hp1 s1 hpat => ?_⟩
    refine ⟨p1, (reachL M roots).map fun n : Nat => (n : Int), rfl, sqL_of (by rw [hpat, nV_ints]), fun ys pk hys hst hpk => ?_⟩
    have eys : ys = (keptL M roots).map fun n : Nat => (n : Int) := PySem.W.ksm_same (hys.trans ((kept_perm gr h.rep.rng).map fun n : Nat => (n : Int)).symm) hst kept_sorted
    have hks : ∀ n ∈ keptL M roots, 1 ≤ n ∧ n ≤ 60 ∧ ∃ o, (n, o) ∈ M := fun n hn => by
      have := mem_kept.mp hn
      exact ⟨this.1.1, this.1.2, (gr.2 n this.2).2⟩
    have srt := numL_kept gr
    have nd : (keptL M roots).Nodup := kept_nodup
    generalize keptL M roots = ks at q hks srt nd eys
    subst eys
    rw [← nV_ints]
    have hlen : ∀ n ∈ ks, (headW (obOf M n)).length ≤ 3 + lenOf M n := fun n hn => by
      obtain ⟨_, _, o, ho⟩ := hks n hn
      rw [obOf_eq h.rep.nk ho, lenOf_eq h.rep.nk ho]; exact headW_len
    have hcu : cuse M 0 ks ≤ 400 := by
      have R := h.rep.coll h.at_.sz nd hks srt
      have h1 := cuse_sum (M := M) (a := ks) (u := 0)
      have h2 := numL_sum R.nk R.rng
      rw [srt] at h2
      have h3 : (ks.map fun n => ((3 + lenOf (keepM ks M) n : Nat) : Int)) = ks.map fun n => ((3 + lenOf M n : Nat) : Int) := List.map_congr_left fun n hn => by
        obtain ⟨_, _, o, ho⟩ := hks n hn
        rw [lenOf_eq h.rep.nk ho, lenOf_eq R.nk (mem_keepM.mpr ⟨ho, .inl hn⟩)]
      rw [h3] at h2
      have := R.le
      omega
    have cuI : ∀ i, cuse M 0 (ks.take i) ≤ 400 := fun i => by
      refine Nat.le_trans ?_ hcu
      have e := cuse_sum (M := M) (a := ks.take i) (u := 0)
      have e2 := cuse_sum (M := M) (a := ks.drop i) (u := cuse M 0 (ks.take i))
      have e3 : cuse M (cuse M 0 (ks.take i)) (ks.drop i) = cuse M 0 ks := by
        have e4 := cuse_sum (M := M) (a := ks) (u := 0)
        have e5 := congrArg (fun l => (l.map fun n => ((3 + lenOf M n : Nat) : Int)).sum) (List.take_append_drop i ks)
        simp only [List.map_append, List.sum_append] at e5
        omega
      rw [← e3]; exact cuse_le
    have s2 : Same H1 (upd H1 pk (.lst (nV ks))) := same_new hpk
    have apk : upd H1 pk (.lst (nV ks)) pk = some (.lst (nV ks)) := upd_same
    generalize upd H1 pk (.lst (nV ks)) = H2 at s2 apk
    refine rdSeq ?_
    walk_at "rd"
    intro p0 hp0
    have s3 : Same H2 (upd H2 p0 (.lst [V.int 0])) := same_new hp0
    have ap0 : upd H2 p0 (.lst [V.int 0]) p0 = some (.lst [V.int 0]) := upd_same
    generalize upd H2 p0 (.lst [V.int 0]) = H3 at s3 ap0
    refine i_rep ap0 (by decide) (by decide) (line5 (by show 1 * 60 ≤ _; decide)) fun pt hpt => ?_
    rw [rep1]
    have s4 : Same H3 (upd H3 pt (.lst (List.replicate (60 : Int).toNat (V.int 0)))) := same_new hpt
    have apt : upd H3 pt (.lst (List.replicate (60 : Int).toNat (V.int 0))) pt = some (.lst ((List.replicate 60 (0 : Int)).map V.int)) := by rw [upd_same, List.map_replicate]; rfl
    generalize upd H3 pt (.lst (List.replicate (60 : Int).toNat (V.int 0))) = H4 at s4 apt
    have sAll := ((s1.trans s2).trans s3).trans s4
    have c0 : CollI T H A S b tm f pos M ks pk pt (List.replicate 60 0) [] H4 S := ⟨h.same sAll, rfl, s4 _ _ (s3 _ _ apk), apt, Mvs.same sAll, s1.free hpk, ((s1.trans s2).trans s3).free hpt, ne_of_none (s3 _ _ apk) hpt⟩
    have r1 : rm (1 - f) = tb (1 - f) + 60 := by unfold rm tb; omega
    have r2 : rm (1 - f) + 400 ≤ 1002 := by unfold rm; omega
    have r3 : 81 < tb (1 - f) := by unfold tb; omega
    have r4 : rm (1 - f) + 400 ≤ tb f ∨ rm f + 400 ≤ tb (1 - f) := by
      have : f = 0 ∨ f = 1 := by omega
      rcases this with rfl | rfl
      · right; decide
      · left; decide
    have hle := h.rep.le
    have cmem : ∀ i p, p ∈ clog M (1 - f) 0 (ks.take i) → rm (1 - f) ≤ p.1 ∧ p.1 < rm (1 - f) + 400 := fun i p hp => by
      have := clog_mem (fun n hn => hlen n (List.mem_of_mem_take hn)) hp
      have := cuI i
      omega
    refine rdSeq ?_
    walk_at "rd"
    refine rdSeq ?_
    walk_at "rd"
    refine ⟨⟨_, sqL_of c0.hk⟩, i_for (walk_listL (l := ks) (r := fun n : Nat => V.int (n : Nat))) (fun i σ H' => MidC T H A S b tm f pos M ks pk pt [V.ref A.h, V.ref ra, V.ref T.f_law_places, V.int (1 - f : Nat), V.ref pk, V.ref pt] i σ H') ?_ ?_ ?_ ?_⟩
    · exact .mk H4 S none none none none c0
    · rintro i σ H' _ ⟨_, S', y1, y2, y3, y4, c⟩
      exact sqL_of c.hk
    · rintro i x σ H' H5 hi ⟨_, S', y1, y2, y3, y4, c⟩ ⟨rfl, n, hn, rfl⟩
      have hi : i < ks.length := hi
      have hmem := List.mem_of_getElem? hn
      obtain ⟨n1, n60, o, hno⟩ := hks n hmem
      have eob := obOf_eq h.rep.nk hno
      have elen := lenOf_eq h.rep.nk hno
      have etake : ks.take (i + 1) = ks.take i ++ [n] := by rw [List.take_add_one, hn]; rfl
      obtain ⟨_, ho5⟩ := c.h.at_.ob
      have cu1 := cuI i
      have cu2 := cuI (i + 1)
      rw [etake, cuse_snoc, elen] at cu2
      refine rdSeq ?_
      walk_at "rd"
      refine i_meth ho5 rfl ⟨A, S', b, tm, f, pos, M, n, o, rfl, c.h, hno, n60, fun lw hlw => ?_⟩
      have c1 := c.same (same_new (o := .lst ((headW o).map V.int)) hlw)
      have alw : upd H5 lw (.lst ((headW o).map V.int)) lw = some (.lst ((headW o).map V.int)) := upd_same
      generalize upd H5 lw (.lst ((headW o).map V.int)) = H6 at c1 alw
      have nlw : lw ∉ [A.c, A.l] := by
        obtain ⟨_, hc⟩ := c.h.at_.cs.ob
        have t1 := ne_of_none hc hlw
        have t2 := ne_of_none c.h.at_.cs.ws hlw
        simp [Ne.symm t1, Ne.symm t2]
      have hwl := headW_len (o := o)
      refine rdSeq ?_
      walk_at "rd"
      refine ⟨_, sqL_of alw, i_forG (walk_enum (xs := (headW o).map V.int)) (fun j σ H' => MidC2 T H A S b tm f pos M ks pk pt (ctab M 0 (ks.take i) (List.replicate 60 0)) (clog M (1 - f) 0 (ks.take i)) (rm (1 - f) + cuse M 0 (ks.take i)) (headW o) lw [V.ref A.h, V.ref ra, V.ref T.f_law_places, V.int (1 - f : Nat), V.ref pk, V.ref pt, V.int (cuse M 0 (ks.take i) : Nat), V.int (n : Nat), V.ref lw] j σ H') ?_ ?_ ?_ ?_⟩
      · exact .mk H6 S' y3 y4 (by show CollI T H A S b tm f pos M ks pk pt _ (_ ++ []) H6 S'; rw [List.append_nil]; exact c1) alw nlw
      · rintro j σ H' _ ⟨_, S2, y3, y4, c2, hl2, _⟩
        exact sqL_of hl2
      · rintro j x σ H' H7 hj ⟨_, S2, y3, y4, c2, hl2, _⟩ hy
        obtain ⟨tp, x1, w1, rfl, htp, rfl, hx1, hw1⟩ := hy
        have hj : j < (headW o).length := by rw [List.length_map] at hj; exact hj
        cases hx1
        have hw1 : ((headW o).map V.int)[j]? = some w1 := hw1
        rw [List.getElem?_map, List.getElem?_eq_getElem hj] at hw1
        cases hw1
        refine i_gTup2 rfl (sqT_of upd_same) ?_
        have s7 : Same H' (upd H' tp (.tup [V.int (j : Int), V.int (headW o)[j]])) := same_new htp
        generalize upd H' tp (.tup [V.int (j : Int), V.int (headW o)[j]]) = H7 at s7
        have c3 := c2.same s7
        obtain ⟨_, ho7⟩ := c3.h.at_.ob
        obtain ⟨_, hc7⟩ := c3.h.at_.cs.ob
        walk_at "rd"
        refine i_fld T.cl_Heap T.nf_Heap_cells ho7 rfl (i_meth hc7 rfl (i_meth ho7 rfl ⟨A, S2, b, tm, 1 - f, rfl, c3.h.at_, ?_⟩))
        walk_at "rd"
        refine ⟨A.c, A.l, S2, rm (1 - f) + cuse M 0 (ks.take i) + j, (headW o)[j], by rw [show ((rm (1 - f) + cuse M 0 (ks.take i) + j : Nat) : Int) = ((rm (1 - f) : Nat) : Int) + (cuse M 0 (ks.take i) : Nat) + j by omega], c3.h.at_.cs, by rw [c3.h.at_.sz]; omega, fun H8 hc8 kp8 => ⟨fun e8 => ?_, fun e8 => ?_⟩⟩
        · have c4 := c3.step h (i := rm (1 - f) + cuse M 0 (ks.take i) + j) (w := (headW o)[j]) (fun p hp => ?_) hc8 kp8 e8
          · rw [List.append_assoc, ← wordsAt_take hj] at c4
            exact .mk H8 _ _ _ c4 (kp8 _ _ nlw (s7 _ _ hl2)) nlw
          · rw [List.append_assoc, ← wordsAt_take hj] at hp
            rcases List.mem_append.mp hp with hp | hp
            · have := cmem i p hp
              omega
            · have := wordsAt_mem hp
              rw [List.length_take] at this
              omega
        · have pre : (clog M (1 - f) 0 (ks.take i) ++ wordsAt (rm (1 - f) + cuse M 0 (ks.take i)) ((headW o).take j)) ++ [(rm (1 - f) + cuse M 0 (ks.take i) + j, (headW o)[j])] <+: collL M (1 - f) ks := by
            rw [List.append_assoc, ← wordsAt_take hj]
            have p1 : clog M (1 - f) 0 (ks.take i) ++ wordsAt (rm (1 - f) + cuse M 0 (ks.take i)) ((headW o).take (j + 1)) <+: clog M (1 - f) 0 (ks.take (i + 1)) := by
              rw [etake, clog_snoc, eob]
              exact (List.prefix_append_right_inj _).mpr wordsAt_pre
            refine p1.trans (List.IsPrefix.trans ?_ (List.prefix_append _ _))
            exact clog_pre (List.take_prefix _ _)
          obtain ⟨q1, q2, q3⟩ := c3.cut pre hc8 kp8 e8
          have q4 := q H8
          rw [q1] at q4
          exact (q4 q2 q3).2 rfl
      · rintro σ H' ⟨_, S2, y3, y4, c2, hl2, _⟩
        rw [List.length_map, List.take_length] at c2
        have e2 : clog M (1 - f) 0 (ks.take i) ++ wordsAt (rm (1 - f) + cuse M 0 (ks.take i)) (headW o) = clog M (1 - f) 0 (ks.take (i + 1)) := by rw [etake, clog_snoc, eob]
        rw [e2] at c2
        dsimp only
        refine rdSeq ?_
        walk_at "rd"
        have e3 : ixN ((ctab M 0 (ks.take i) (List.replicate 60 0)).map V.int).length ((n : Int) - 1) = some (n - 1) := by
          rw [List.length_map, ctab_len, List.length_replicate, show (n : Int) - 1 = ((n - 1 : Nat) : Int) by omega]
          exact ixN_of (by omega)
        refine i_setL c2.ht e3 ?_
        have e4 : ((ctab M 0 (ks.take i) (List.replicate 60 0)).map V.int).set (n - 1) (V.int ((cuse M 0 (ks.take i) : Nat) + 1)) = (ctab M 0 (ks.take (i + 1)) (List.replicate 60 0)).map V.int := by
          rw [etake, ctab_snoc, List.map_set]; rfl
        rw [e4]
        have npt : ∀ x o', H x = some o' → x ≠ pt := fun x o' hx => ne_of_none hx c2.frt
        have c3 : CollI T H A S b tm f pos M ks pk pt (ctab M 0 (ks.take (i + 1)) (List.replicate 60 0)) (clog M (1 - f) 0 (ks.take (i + 1))) (upd H' pt (.lst ((ctab M 0 (ks.take (i + 1)) (List.replicate 60 0)).map V.int))) S2 := by
          exact ⟨⟨c2.h.at_.kpx (Kp.set (by simp)) (h.at_.fresh c2.frt), c2.h.rep, c2.h.on⟩, c2.es, by rw [upd_ne c2.npk]; exact c2.hk, upd_same, ⟨fun x o' hx hox => by rw [upd_ne (npt x o' hox)]; exact c2.mv.kp x o' hx hox, c2.mv.nw⟩, c2.frk, c2.frt, c2.npk⟩
        obtain ⟨_, ho9⟩ := c3.h.at_.ob
        walk_at "rd"
        refine i_meth ho9 rfl ⟨A, M, n, o, rfl, ⟨S2, b, tm, f, pos, c3.h⟩, hno, ?_⟩
        walk_at "rd"
        have e5 : ((cuse M 0 (ks.take i) : Nat) : Int) + (3 + (o.vals.length : Nat)) = (cuse M 0 (ks.take (i + 1)) : Nat) := by
          rw [etake, cuse_snoc, elen]; omega
        rw [e5]
        exact .mk _ S2 _ _ _ _ c3
    · rintro σ H' ⟨_, S', y1, y2, y3, y4, c⟩
      rw [List.take_length] at c
      have ltab : (tab0 M ks).length = 60 := by unfold tab0; rw [ctab_len, List.length_replicate]
      have etab : ctab M 0 ks (List.replicate 60 0) = tab0 M ks := rfl
      rw [etab] at c
      have cmem0 : ∀ p ∈ clog M (1 - f) 0 ks, rm (1 - f) ≤ p.1 ∧ p.1 < rm (1 - f) + 400 := fun p hp => cmem ks.length p (by rw [List.take_length]; exact hp)
      dsimp only
      refine rdSeq ?_
      walk_at "rd"
      refine ⟨_, sqL_of c.ht, i_forG (walk_enum (xs := (tab0 M ks).map V.int)) (fun j σ H' => MidC3 T H A S b tm f pos M ks pk pt (tab0 M ks) (clog M (1 - f) 0 ks) (tb (1 - f)) [some (V.ref A.h), some (V.ref ra), some (V.ref T.f_law_places), some (V.int (1 - f : Nat)), some (V.ref pk), some (V.ref pt), some (V.int (cuse M 0 (ks.take ks.length) : Nat)), y1, y2] j σ H') ?_ ?_ ?_ ?_⟩
      · exact .mk H' S' y3 y4 (by show CollI T H A S b tm f pos M ks pk pt _ (_ ++ []) H' S'; rw [List.append_nil]; exact c)
      · rintro j σ H' _ ⟨_, S2, y3, y4, c2⟩
        exact sqL_of c2.ht
      · rintro j x σ H' H7 hj ⟨_, S2, y3, y4, c2⟩ hy
        obtain ⟨tp, x1, w1, rfl, htp, rfl, hx1, hw1⟩ := hy
        have hj : j < (tab0 M ks).length := by rw [List.length_map] at hj; exact hj
        cases hx1
        have hw1 : ((tab0 M ks).map V.int)[j]? = some w1 := hw1
        rw [List.getElem?_map, List.getElem?_eq_getElem hj] at hw1
        cases hw1
        refine i_gTup2 rfl (sqT_of upd_same) ?_
        have s7 : Same H' (upd H' tp (.tup [V.int (j : Int), V.int (tab0 M ks)[j]])) := same_new htp
        generalize upd H' tp (.tup [V.int (j : Int), V.int (tab0 M ks)[j]]) = H7 at s7
        have c3 := c2.same s7
        obtain ⟨_, ho7⟩ := c3.h.at_.ob
        obtain ⟨_, hc7⟩ := c3.h.at_.cs.ob
        walk_at "rd"
        refine i_fld T.cl_Heap T.nf_Heap_cells ho7 rfl (i_meth hc7 rfl (i_meth ho7 rfl ⟨A, S2, b, tm, 1 - f, rfl, c3.h.at_, ?_⟩))
        walk_at "rd"
        have pre : (clog M (1 - f) 0 ks ++ wordsAt (tb (1 - f)) ((tab0 M ks).take j)) ++ [(tb (1 - f) + j, (tab0 M ks)[j])] <+: collL M (1 - f) ks := by
          rw [List.append_assoc, ← wordsAt_take hj]
          exact (List.prefix_append_right_inj _).mpr (wordsAt_pre.trans (List.prefix_append _ _))
        refine ⟨A.c, A.l, S2, tb (1 - f) + j, (tab0 M ks)[j], by rw [show ((tb (1 - f) + j : Nat) : Int) = ((tb (1 - f) : Nat) : Int) + j by omega], c3.h.at_.cs, by rw [c3.h.at_.sz]; omega, fun H8 hc8 kp8 => ⟨fun e8 => ?_, fun e8 => ?_⟩⟩
        · have c4 := c3.step h (i := tb (1 - f) + j) (w := (tab0 M ks)[j]) (fun p hp => ?_) hc8 kp8 e8
          · rw [List.append_assoc, ← wordsAt_take hj] at c4
            exact .mk H8 _ _ _ c4
          · rw [List.append_assoc, ← wordsAt_take hj] at hp
            rcases List.mem_append.mp hp with hp | hp
            · have := cmem0 p hp
              omega
            · have := wordsAt_mem hp
              rw [List.length_take] at this
              omega
        · obtain ⟨q1, q2, q3⟩ := c3.cut pre hc8 kp8 e8
          have q4 := q H8
          rw [q1] at q4
          exact (q4 q2 q3).2 rfl
      · rintro σ H' ⟨_, S2, y3, y4, c2⟩
        rw [List.length_map, List.take_length] at c2
        obtain ⟨_, ho9⟩ := c2.h.at_.ob
        obtain ⟨_, hc9⟩ := c2.h.at_.cs.ob
        dsimp only
        walk_at "rd"
        refine i_fld T.cl_Heap T.nf_Heap_cells ho9 rfl (i_meth hc9 rfl (i_fld T.cl_Heap T.nf_Heap_start ho9 rfl ?_))
        have eall : wlog S (collL M (1 - f) ks) = writeS S2 81 ((1 - f : Nat) : Int) := by
          unfold collL
          rw [← List.append_assoc]
          exact wlog_snoc c2.es
        refine ⟨A.c, A.l, S2, 81, ((1 - f : Nat) : Int), rfl, c2.h.at_.cs, by rw [c2.h.at_.sz]; decide, fun H8 hc8 kp8 => ?_⟩
        have q4 := q H8
        rw [eall] at q4
        exact q4 (c2.h.at_.cell hc8 (by rw [writeS_len]; exact c2.h.at_.sz) kp8) (c2.mv.trans (own_kp kp8))
def sp_Heap_init {K : PySem.W.Frag} {mg : Str → Option Value} (T : Txt K mg) : Sp := fun vs H Q _ => ∃ (x c l j dx : Addr) (S : CS) (b : Bool), vs = [.ref x, .ref c, .ref j, .int 81] ∧ H x = some (.ins T.c_Heap dx []) ∧ CellsAt T.c_Cells H c l S ∧ JrnAt T.c_Journal H j c 0 b ∧ S.words.length = 1002 ∧
  ∀ H' dt bf, HeapAt T H' ⟨x, c, l, j, dt⟩ S b [(61, bf, List.replicate 64 0)] → H dt = none → H bf = none → Kp [x] H H' → Q .non H'
theorem ok_Heap_init (T : Txt K mg) : FnOk P w K mg base CX0 1 T.f_Heap_init T.d_Heap_init ["self", "cells", "journal", "start"] (sp_Heap_init T) := by
  refine T.k_Heap_init.ok sc_Heap_init (fun vs H Q E h => ?_) (fun cdv A outer s H vs Q E hr h => ?_)
  · obtain ⟨x, c, l, j, dx, S, b, rfl, _⟩ := h
    rfl
  · obtain ⟨x, c, l, j, dx, S, b, rfl, hx, hc, hj, hz, q⟩ := h
    refine ⟨_, (pss_cons (ps_fldK K (pv 0) (pv 1) rfl)
      (pss_cons (ps_fldK K (pv 0) (pv 2) rfl)
      (pss_cons (ps_fldK K (pv 0) (pv 3) rfl)
      (pss_one (ps_fldK K (pv 0) (pe_disp (pps_cons (pe_glob (v := .int _) rfl T.g_BUFFER ⟨_, rfl⟩) (pe_op op_rep (pe_lst (pa_cons pe_int pa_nil)) (pe_glob (v := .int _) rfl T.g_MOST_BUFFER ⟨_, rfl⟩)) pps_nil) (by rfl) (by rfl) (fun z => by cases z) (by decide)) rfl))))), ?_⟩
    walk_at "rd"
    refine rdSeq ?_
    walk_at "rd"
    obtain ⟨dc, hc0⟩ := hc.ob
    obtain ⟨dj, hj0⟩ := hj
    have nxc : c ≠ x := ne_of hc0 hx (by intro z; injection z with _ _ z; cases z)
    have nxl : l ≠ x := ne_of hc.ws hx (by intro z; cases z)
    have nxj : j ≠ x := ne_of hj0 hx (by intro z; injection z with _ _ z; cases z)
    refine i_fldS T.cl_Heap T.nf_Heap_cells hx (by decide) (rdSeq ?_)
    walk_at "rd"
    refine i_fldS T.cl_Heap T.nf_Heap_journal upd_same (by show 1 < 1000; decide) (rdSeq ?_)
    walk_at "rd"
    refine i_fldS T.cl_Heap T.nf_Heap_start upd_same (by show 2 < 1000; decide) ?_
    walk_at "rd"
    rw [upd_upd, upd_upd]
    have k0 : Kp [x] H (upd H x (.ins T.c_Heap dx (putF (Str.ofString "_start") (V.int 81) (putF (Str.ofString "_journal") (V.ref j) (putF (Str.ofString "_cells") (V.ref c) []))))) := Kp.set (by simp)
    have a0 : upd H x (.ins T.c_Heap dx (putF (Str.ofString "_start") (V.int 81) (putF (Str.ofString "_journal") (V.ref j) (putF (Str.ofString "_cells") (V.ref c) [])))) x = some (.ins T.c_Heap dx [("_cells", .ref c), ("_journal", .ref j), ("_start", .int 81)]) := upd_same
    have fr0 : ∀ p, upd H x (.ins T.c_Heap dx (putF (Str.ofString "_start") (V.int 81) (putF (Str.ofString "_journal") (V.ref j) (putF (Str.ofString "_cells") (V.ref c) [])))) p = none → H p = none := fun p hp => by
      by_cases e : p = x
      · rw [e, upd_same] at hp; cases hp
      · rw [upd_ne e] at hp; exact hp
    generalize upd H x (.ins T.c_Heap dx (putF (Str.ofString "_start") (V.int 81) (putF (Str.ofString "_journal") (V.ref j) (putF (Str.ofString "_cells") (V.ref c) [])))) = H1 at k0 a0 fr0
    intro d hd p hp
    have s2 : Same H1 (upd H1 d (.dK [])) := same_new hd
    have s3 : Same (upd H1 d (.dK [])) (upd (upd H1 d (.dK [])) p (.lst [V.int 0])) := same_new hp
    refine i_rep upd_same (by decide) (by decide) (line5 (by show 1 * 64 ≤ _; decide)) fun bf hbf => ?_
    rw [rep1]
    have s4 := same_new (o := .lst (List.replicate (64 : Int).toNat (V.int 0))) hbf
    have sAll := (s2.trans s3).trans s4
    have hdd := (s3.trans s4) _ _ (upd_same (H := H1) (a := d) (o := .dK []))
    have hbb : upd (upd (upd H1 d (.dK [])) p (.lst [V.int 0])) bf (.lst (List.replicate (64 : Int).toNat (V.int 0))) bf = some (.lst (List.replicate (64 : Int).toNat (V.int 0))) := upd_same
    have nbd : bf ≠ d := (ne_of_none (s3 _ _ (upd_same (H := H1) (a := d) (o := .dK []))) hbf).symm
    have fbf : H1 bf = none := (s2.trans s3).free hbf
    generalize upd (upd (upd H1 d (.dK [])) p (.lst [V.int 0])) bf (.lst (List.replicate (64 : Int).toNat (V.int 0))) = H2 at sAll hdd hbb
    refine ⟨hdd, [(.inl 61, .ref bf)], rfl, by show 1 ≤ 15; decide, ?_⟩
    have a2 : H2 x = some (.ins T.c_Heap dx [("_cells", .ref c), ("_journal", .ref j), ("_start", .int 81)]) := sAll _ _ a0
    have nxd : d ≠ x := ne_of hdd a2 (by intro z; cases z)
    have k2 : Kp [x] H (upd (upd H2 d (.dK (mergeK [] [(.inl 61, .ref bf)]))) x (.ins T.c_Heap dx (putF (Str.ofString "_temps") (V.ref d) [("_cells", .ref c), ("_journal", .ref j), ("_start", .int 81)]))) := fun b o hb e => by
      have hb : b ≠ x := by simpa using hb
      have e1 := k0 b o (by simpa using hb) e
      rw [upd_ne hb, upd_ne (ne_of_none e1 hd)]
      exact sAll _ _ e1
    refine i_fldS T.cl_Heap T.nf_Heap_temps (by rw [upd_ne (Ne.symm nxd)]; exact a2) (by show 3 < 1000; decide) ?_
    have fd : H d = none := fr0 _ hd
    have fb : H bf = none := fr0 _ fbf
    refine q _ d bf ⟨⟨dx, upd_same⟩, hc.keep k2 (by simpa using nxc) (by simpa using nxl), JrnAt.keep ⟨dj, hj0⟩ k2 (by simpa using nxj), hz, by rw [upd_ne nxd, upd_same]; rfl, ⟨fun e he => ?_, fun e he => ?_, by simp, by simp, fun e he => ?_, bf, _, List.mem_singleton.mpr rfl, by decide⟩⟩ fd fb k2
    · rw [List.mem_singleton.mp he]
      have nbx : bf ≠ x := ne_of hbb a2 (by intro z; cases z)
      rw [upd_ne nbx, upd_ne nbd, hbb, List.map_replicate]; rfl
    · rw [List.mem_singleton.mp he]
      exact (ne_of_none hc.ws fb).symm
    · rw [List.mem_singleton.mp he]; show 61 ≤ 61; decide
theorem tval_drop {tm : Tm} {n m : Nat} : tval (tmDrop tm n) m = if m = n then none else tval tm m := by
  unfold tval tmDrop
  rw [List.find?_filter]
  by_cases h : m = n
  · subst h
    rw [if_pos rfl, List.find?_eq_none.mpr]
    · rfl
    · intro e _; simp
  · rw [if_neg h]
    congr 1
    congr 1
    funext e
    by_cases he : e.1 = m
    · simp [he, h]
    · simp [he]
theorem usd_snoc {M : List (Nat × Ob)} {n : Nat} {o : Ob} (hn : n ≤ 60) : usd (M ++ [(n, o)]) = usd M + (3 + o.vals.length) := by
  unfold usd
  rw [List.filter_append, List.map_append, List.sum_append]
  show _ + ((List.filter _ [(n, o)]).map _).sum = _
  rw [List.filter_cons, if_pos (decide_eq_true (by show n < 61; omega))]
  simp
theorem Rep.make {W : List Int} {f : Nat} {pos : Nat → Nat} {M : List (Nat × Ob)} {tm : Tm} (R : Rep W f pos M tm) (hW : W.length = 1002) {n : Nat} (L : Least M n) {kind owner : Int} {size : Nat} (hs : usd M + 3 + size ≤ 400) :
    Rep (applyL W (makeL f (usd M) n (newOb kind owner size))) f (fun m => if m = n then usd M else pos m) (M ++ [(n, newOb kind owner size)]) (tmDrop tm n) := by
  have hf := R.f2
  have r1 : rm f = tb f + 60 := by unfold rm tb; omega
  have r2 : rm f + 400 ≤ 1002 := by unfold rm; omega
  have r3 : 81 < tb f := by unfold tb; omega
  have lo := L.lo
  have hi := L.hi
  have hv : (newOb kind owner size).vals.length = size := by unfold newOb; rw [List.length_replicate]
  have hl := headW_len (o := newOb kind owner size)
  rw [hv] at hl
  have hlog : ∀ p ∈ makeL f (usd M) n (newOb kind owner size), p.1 = tb f + n - 1 ∨ rm f + usd M ≤ p.1 := fun p hp => by
    unfold makeL at hp
    rcases List.mem_append.mp hp with hp | hp
    · have := wordsAt_mem hp; omega
    · rw [List.mem_singleton.mp hp]; exact .inl rfl
  have old : ∀ i, i ≠ tb f + n - 1 → i < rm f + usd M → (applyL W (makeL f (usd M) n (newOb kind owner size))).getD i 0 = W.getD i 0 := fun i h1 h2 => applyL_out _ _ fun p hp => by
    have := hlog p hp; omega
  have new : ∀ j, j < (headW (newOb kind owner size)).length → (applyL W (makeL f (usd M) n (newOb kind owner size))).getD (rm f + usd M + j) 0 = (headW (newOb kind owner size)).getD j 0 := fun j hj => by
    unfold makeL
    rw [applyL_app, applyL_out [(tb f + n - 1, _)] _ fun p hp => by rw [List.mem_singleton.mp hp]; show tb f + n - 1 ≠ _; omega]
    exact applyL_in hj (by omega)
  have split : ∀ m u, (m, u) ∈ M ++ [(n, newOb kind owner size)] → ((m, u) ∈ M ∧ m ≠ n) ∨ (m = n ∧ u = newOb kind owner size) := fun m u h => by
    rcases List.mem_append.mp h with hq | h
    · exact .inl ⟨hq, fun e => L.out u (e ▸ hq)⟩
    · have := List.mem_singleton.mp h
      exact .inr ⟨(Prod.mk.inj this).1, (Prod.mk.inj this).2⟩
  refine ⟨hf, by rw [old 81 (by omega) (by omega)]; exact R.half, ?_, fun m u h => ?_, ?_, fun m h1 h2 h3 => ?_, fun m u h hm => ?_, fun m u h hk => ?_, fun m u h hm => ?_, fun m u k v h h' hm hk hne => ?_, ?_⟩
  · rw [List.map_append]
    refine List.nodup_append.mpr ⟨R.nk, by simp, fun a ha b hb => ?_⟩
    have : b = n := List.mem_singleton.mp hb
    subst this
    rintro rfl
    obtain ⟨⟨m, u⟩, hx, e⟩ := List.mem_map.mp ha
    have e : m = a := e
    subst e
    exact L.out u hx
  · rcases split m u h with ⟨h, _⟩ | ⟨rfl, _⟩
    · exact R.rng m u h
    · omega
  · obtain ⟨vs, hv, hl⟩ := R.buf
    exact ⟨vs, List.mem_append_left _ hv, hl⟩
  · have hmn : m ≠ n := fun e => by subst e; exact h3 _ (List.mem_append_right _ List.mem_cons_self)
    rw [old _ (by omega) (by omega)]
    exact R.non m h1 h2 fun o ho => h3 o (List.mem_append_left _ ho)
  · rcases split m u h with ⟨h, hne⟩ | ⟨rfl, rfl⟩
    · have B := R.ob m u h hm
      have us := R.us m u h hm
      have rg := R.rng m u h
      show RepO _ f (if m = n then usd M else pos m) m u
      rw [if_neg hne]
      exact ⟨by rw [old _ (by omega) (by omega)]; exact B.tab, by rw [old _ (by omega) (by omega)]; exact B.kd, by rw [old _ (by omega) (by omega)]; exact B.ow, by rw [old _ (by omega) (by omega)]; exact B.sz, fun kk j hj => by rw [old _ (by omega) (by omega)]; exact B.vs kk j hj⟩
    · show RepO _ f (if m = m then usd M else pos m) m _
      rw [if_pos rfl]
      refine ⟨?_, new 0 (by unfold headW; simp), new 1 (by unfold headW; simp), new 2 (by unfold headW; simp), fun kk i hi => ?_⟩
      · unfold makeL
        rw [applyL_app]
        show ((applyL _ _).set (tb f + m - 1) _).getD (tb f + m - 1) 0 = _
        rw [getD_setE (by rw [applyL_len]; omega)]; omega
      · have := new (3 + i) (by unfold headW; rw [if_neg kk]; simp; omega)
        rw [show rm f + usd M + 3 + i = rm f + usd M + (3 + i) by omega, this]
        unfold headW
        rw [if_neg kk, show 3 + i = i + 1 + 1 + 1 by omega]; rfl
  · rcases split m u h with ⟨h, hne⟩ | ⟨rfl, rfl⟩
    · rw [tval_drop, if_neg hne]
      exact R.tmp m u h hk
    · rw [tval_drop, if_pos rfl, hv]; rfl
  · rw [usd_snoc hi, hv]
    rcases split m u h with ⟨h, hne⟩ | ⟨rfl, rfl⟩
    · have := R.us m u h hm
      show (if m = n then usd M else pos m) + _ + _ ≤ _
      rw [if_neg hne]; omega
    · show (if m = m then usd M else pos m) + _ + _ ≤ _
      rw [if_pos rfl, hv]; omega
  · show (if m = n then usd M else pos m) + _ + _ ≤ (if k = n then usd M else pos k) ∨ (if k = n then usd M else pos k) + _ + _ ≤ (if m = n then usd M else pos m)
    rcases split m u h with ⟨g, h1⟩ | ⟨rfl, rfl⟩ <;> rcases split k v h' with ⟨g', h2⟩ | ⟨rfl, rfl⟩
    · rw [if_neg h1, if_neg h2]; exact R.dj m u k v g g' hm hk hne
    · rw [if_neg h1, if_pos rfl]; exact .inl (R.us m u g hm)
    · rw [if_pos rfl, if_neg h2]; exact .inr (R.us k v g' hk)
    · exact absurd rfl hne
  · rw [usd_snoc hi, hv]; omega

/-! ### the law's own model -/
def rLenD : List V → Hp → VK → Prop := fun xs H Q => ∃ a kvs, xs = [V.ref a] ∧ H a = some (.dK kvs) ∧ Q (.int kvs.length) H
theorem lenD {X : Cx} : CallR X (.builtin "len") rLenD := call_lenD
abbrev Me := Nat × Addr × Addr × Ob
def modM (es : List Me) : List (Nat × Ob) := es.map fun e => (e.1, e.2.2.2)
def toTm (es : List Me) : Tm := es.map fun e => (e.1, e.2.1, [])
def tupO (o : Ob) (l : Addr) : HO := .tup [.int o.kind, .int o.owner, .ref l]
structure ModAt (H : Hp) (d : Addr) (es : List Me) : Prop where
  dd : H d = some (.dK (tmK (toTm es)))
  tt : ∀ e ∈ es, H e.2.1 = some (tupO e.2.2.2 e.2.2.1)
  ll : ∀ e ∈ es, H e.2.2.1 = some (.lst (e.2.2.2.vals.map V.int))
  nl : (es.map (·.2.2.1)).Nodup
theorem ModAt.same {H H' : Hp} {d : Addr} {es : List Me} (m : ModAt H d es) (s : Same H H') : ModAt H' d es := ⟨s _ _ m.dd, fun e he => s _ _ (m.tt e he), fun e he => s _ _ (m.ll e he), m.nl⟩
theorem modM_keys {es : List Me} : (modM es).map (·.1) = es.map (·.1) := by unfold modM; rw [List.map_map]; rfl
theorem toTm_keys {es : List Me} : (toTm es).map (·.1) = es.map (·.1) := by unfold toTm; rw [List.map_map]; rfl
theorem mem_modM {es : List Me} {n : Nat} {o : Ob} : (n, o) ∈ modM es ↔ ∃ t l, (n, t, l, o) ∈ es := by
  unfold modM
  rw [List.mem_map]
  constructor
  · rintro ⟨⟨m, t, l, u⟩, h, e⟩
    cases e
    exact ⟨t, l, h⟩
  · rintro ⟨t, l, h⟩
    exact ⟨_, h, rfl⟩
theorem modE {es : List Me} {e : Me} (h : e ∈ es) : (e.1, e.2.2.2) ∈ modM es := List.mem_map_of_mem (f := fun e : Me => (e.1, e.2.2.2)) h
theorem dict_get {es : List Me} (nk : (es.map (·.1)).Nodup) {e : Me} (he : e ∈ es) : valV (tmK (toTm es)) (.inl (e.1 : Int)) = some (.ref e.2.1) := by
  rw [tmK_get, find_in (tm := toTm es) (by rw [toTm_keys]; exact nk) (e := (e.1, e.2.1, [])) (List.mem_map_of_mem (f := fun e : Me => (e.1, e.2.1, ([] : List Int))) he)]; rfl
theorem walk_keysE {d : Addr} {o : Obj} {es : List Me} : Walk (Itk d o (tmK (toTm es))) es.length (fun H => H d = some (.frz o (.dK (tmK (toTm es))))) (YL es fun e => .int (e.1 : Nat)) := by
  have w := walk_keys (d := d) (o := o) (kvs := tmK (toTm es))
  have hl : (tmK (toTm es)).length = es.length := by unfold tmK toTm; rw [List.length_map, List.length_map]
  rw [hl] at w
  refine w.mono (fun _ h => h) fun i H x H' hi _ y => ⟨y.1, es[i], List.getElem?_eq_getElem hi, ?_⟩
  obtain ⟨_, k, v, e1, e2⟩ := y
  unfold tmK toTm at e1
  rw [List.map_map, List.getElem?_map, List.getElem?_eq_getElem hi] at e1
  have e1 := Option.some.inj e1
  rw [e2, ← (Prod.mk.inj e1).1]; rfl
theorem es_len {es : List Me} (nk : (es.map (·.1)).Nodup) (rng : ∀ n o, (n, o) ∈ modM es → 1 ≤ n ∧ n ≤ 61) : es.length ≤ 62 := by
  have := nodup_bound 62 nk fun x hx => by
    obtain ⟨e, he, rfl⟩ := List.mem_map.mp hx
    have := rng _ _ (modE he)
    omega
  rw [List.length_map] at this
  exact this
theorem cnt_one : ∀ {M : List (Nat × Ob)}, (M.map (·.1)).Nodup → (∀ n o, (n, o) ∈ M → n ≤ 61) → (61 ∈ M.map (·.1)) → cnt M + 1 = M.length
  | [], _, _, h => nomatch h
  | e :: t, nk, rng, h => by
    rw [List.map_cons, List.nodup_cons] at nk
    have r := rng e.1 e.2 List.mem_cons_self
    have rt : ∀ n o, (n, o) ∈ t → n ≤ 61 := fun n o ho => rng n o (List.mem_cons_of_mem _ ho)
    unfold cnt
    rw [List.filter_cons, List.length_cons]
    by_cases h61 : e.1 = 61
    · rw [if_neg (by simp [h61])]
      have : t.filter (fun e => decide (e.1 < 61)) = t := List.filter_eq_self.mpr fun x hx => by
        have h1 := rt x.1 x.2 hx
        have h2 : x.1 ≠ 61 := fun z => nk.1 (by rw [h61, ← z]; exact List.mem_map_of_mem (f := (·.1)) hx)
        exact decide_eq_true (by omega)
      rw [this]
    · rw [if_pos (decide_eq_true (by omega)), List.length_cons]
      have ih := cnt_one nk.2 rt (by
        rcases List.mem_cons.mp h with z | z
        · exact absurd z.symm h61
        · exact z)
      unfold cnt at ih
      omega
/-- a dict is walked -/
theorem i_lockE {t : TE} {σ : L2.St} {H : Hp} {Q : VK} {d : Addr} {kvs : List (Key × V)} (h : H d = some (.dK kvs)) (q : ∀ od, t σ (upd H d (.frz od (.dK kvs))) fun v H' => H' d = some (.frz od (.dK kvs)) ∧ Q v (upd H' d (.dK kvs))) : tLockE t σ H Q := ⟨d, _, h, trivial, q⟩
theorem i_lock {t : TS} {D : Ends} {σ : L2.St} {H : Hp} {d : Addr} {kvs : List (Key × V)} (h : H d = some (.dK kvs)) (q : ∀ od, t ⟨fun σ' H' => H' d = some (.frz od (.dK kvs)) ∧ D.nx σ' (upd H' d (.dK kvs)), fun v H' => H' d = some (.frz od (.dK kvs)) ∧ D.rt v (upd H' d (.dK kvs)), fun σ' H' => H' d = some (.frz od (.dK kvs)) ∧ D.bk σ' (upd H' d (.dK kvs)), fun σ' H' => H' d = some (.frz od (.dK kvs)) ∧ D.ct σ' (upd H' d (.dK kvs))⟩ σ (upd H d (.frz od (.dK kvs)))) : tLock t D σ H := ⟨d, _, h, trivial, q⟩
/-- the model as it stands while its dict is walked -/
structure ModF (H : Hp) (d : Addr) (es : List Me) (od : Obj) : Prop where
  dd : H d = some (.frz od (.dK (tmK (toTm es))))
  tt : ∀ e ∈ es, H e.2.1 = some (tupO e.2.2.2 e.2.2.1)
  ll : ∀ e ∈ es, H e.2.2.1 = some (.lst (e.2.2.2.vals.map V.int))
theorem ModF.same {H H' : Hp} {d : Addr} {es : List Me} {od : Obj} (m : ModF H d es od) (s : Same H H') : ModF H' d es od := ⟨s _ _ m.dd, fun e he => s _ _ (m.tt e he), fun e he => s _ _ (m.ll e he)⟩
theorem ModAt.lock {H : Hp} {d : Addr} {es : List Me} (m : ModAt H d es) (od : Obj) : ModF (upd H d (.frz od (.dK (tmK (toTm es))))) d es od :=
  ⟨upd_same, fun e he => by rw [upd_ne (ne_of (m.tt e he) m.dd (by intro z; cases z))]; exact m.tt e he, fun e he => by rw [upd_ne (ne_of (m.ll e he) m.dd (by intro z; cases z))]; exact m.ll e he⟩
theorem lock_back {H H' : Hp} {d : Addr} {u : HO} {od : Obj} (h : H d = some u) (s : Same (upd H d (.frz od u)) H') : Same H (upd H' d u) := fun b o e => by
  by_cases hb : b = d
  · subst hb; rw [upd_same]; rw [h] at e; exact e
  · rw [upd_ne hb]; exact s b o (by rw [upd_ne hb]; exact e)
theorem lock_free {H : Hp} {d p : Addr} {u x : HO} (h : H d = some u) (n : upd H d x p = none) : H p = none := by
  by_cases hb : p = d
  · subst hb; rw [upd_same] at n; cases n
  · rw [upd_ne hb] at n; exact n
structure Keys (es : List Me) : Prop where
  nk : (es.map (·.1)).Nodup
  rng : ∀ n o, (n, o) ∈ modM es → 1 ≤ n ∧ n ≤ 61
  buf : 61 ∈ es.map (·.1)
def sp_law_used {K : PySem.W.Frag} {mg : Str → Option Value} (_ : Txt K mg) : Sp := fun vs H Q _ => ∃ (d : Addr) (es : List Me), vs = [.ref d] ∧ ModAt H d es ∧ Keys es ∧
  ∀ H' p, H p = none → Same H H' → H' p = some (.tup [.int (usd (modM es) : Nat), .int (cnt (modM es) : Nat)]) → Q (.ref p) H'
theorem ok_law_used (T : Txt K mg) : FnOk P w K mg base CX0 1 T.f_law_used T.d_law_used ["_law_model"] (sp_law_used T) := by
  refine T.k_law_used.ok sc_law_used (fun vs H Q E h => ?_) (fun cdv A outer s H vs Q E hr h => ?_)
  · obtain ⟨d, es, rfl, _⟩ := h
    rfl
  · obtain ⟨d, es, rfl, m, k, q⟩ := h
    -- 0:_law_model 1:_law_number
    refine ⟨_, (pss_one (ps_ret (pe_tup (pa_cons (pe_callB (cr_sum rfl) (by rfl) T.m_sum (by decide +kernel) (pa_cons (pe_lock (pe_lc (own := [("_law_number", 1)]) (g := gName 1) rfl sc_law_used.nd (pi_keys (pv 0)) (blkOk_by (own := [("_law_number", 1)]) (N := ["_law_model", "_law_number"]) (sc := defScope s_law_used) (by decide +kernel)) (fun _ _ _ _ _ => pg_name (i := 1) sc_law_used.nd rfl (Or.inl rfl)) (fun _ _ _ _ _ => pts_one (pt_cmpR op_lt (pv 1) pe_int (nomark _))) (fun _ _ _ _ _ => (pe_op op_add pe_int (pe_callB (lenLK K) (by rfl) T.m_len (by decide +kernel) (pa_cons (pe_ix (ix_tupK K) (pe_dget (hu_of hr) (pv 0) (pv 1) (fun _ _ => rfl)) pe_int (fun _ _ => rfl)) pa_nil)))))) pa_nil)) (pa_cons (pe_op op_sub (pe_callB lenD (by rfl) T.m_len (by decide +kernel) (pa_cons (pv 0) pa_nil)) pe_int) pa_nil))))), ?_⟩
    walk_at "rd"
    refine ⟨d, _, m.dd, trivial, fun od => ?_⟩
    have mf := m.lock od
    refine ⟨od, .inl ⟨_, mf.dd, ?_⟩⟩
    have hl62 := es_len k.nk k.rng
    refine i_lcF walk_keysE (fun e => decide (e.1 < 61)) (fun e => .int ((3 + e.2.2.2.vals.length : Nat) : Int)) (line5' (by omega)) (fun D ys hD => same_new hD _ _ mf.dd) (fun e he H1 Q' sm q' => ?_) (fun e he _ H1 Q' sm q' => ?_) (fun D hD => ?_)
    · walk_at "rd"
      rw [show decide ((e.1 : Int) < 61) = decide (e.1 < 61) by rw [decide_eq_decide]; omega]
      exact q'
    · walk_at "rd"
      have m1 := mf.same sm
      refine i_dgetI (.inr ⟨_, m1.dd⟩) (dict_get k.nk he) ?_
      refine i_ixT (sqT_of (m1.tt e he)) rfl ?_
      refine i_lenL (sqL_of (m1.ll e he)) ?_
      rw [List.length_map]
      walk_at "rd"
      rw [show ((3 + e.2.2.2.vals.length : Nat) : Int) = 3 + (e.2.2.2.vals.length : Nat) by omega] at q'
      exact q'
    · have s1 : Same (upd H d (.frz od (.dK (tmK (toTm es))))) (upd (upd H d (.frz od (.dK (tmK (toTm es))))) D (.lst ((es.filter fun e => decide (e.1 < 61)).map fun e => .int ((3 + e.2.2.2.vals.length : Nat) : Int)))) := same_new hD
      refine ⟨s1 _ _ mf.dd, ?_⟩
      have sb := lock_back m.dd s1
      have nd : D ≠ d := (ne_of_none mf.dd hD).symm
      refine ⟨D, (es.filter fun e => decide (e.1 < 61)).map fun e => ((3 + e.2.2.2.vals.length : Nat) : Int), rfl, sqL_of (by rw [upd_ne nd, upd_same, List.map_map]; rfl), ?_⟩
      have nk : ((modM es).map (·.1)).Nodup := by rw [modM_keys]; exact k.nk
      have e1 : (((es.filter fun e => decide (e.1 < 61)).map fun e => ((3 + e.2.2.2.vals.length : Nat) : Int)).sum) = (usd (modM es) : Nat) := by
        unfold usd modM
        rw [List.filter_map, List.map_map]
        show _ = (((List.map _ (es.filter fun e => decide (e.1 < 61))).sum : Nat) : Int)
        induction es.filter fun e => decide (e.1 < 61) with
        | nil => rfl
        | cons e t ih => simp only [List.map_cons, List.sum_cons, ih]; show _ = (((_ + _ : Nat)) : Int); rw [Int.natCast_add]; rfl
      have e2 : (((tmK (toTm es)).length : Nat) : Int) - 1 = (cnt (modM es) : Nat) := by
        have h1 := cnt_one nk (fun n o ho => (k.rng n o ho).2) (by rw [modM_keys]; exact k.buf)
        unfold modM at h1
        rw [List.length_map] at h1
        unfold tmK toTm
        rw [List.length_map, List.length_map]
        unfold modM
        omega
      rw [e1]
      refine ⟨d, _, rfl, upd_same, ?_⟩
      walk_at "rd"
      rw [e2]
      intro t ht
      refine q _ t (sb.free ht) (sb.trans (same_new ht)) upd_same
structure WS (T : Txt K mg) (H : Hp) (A : HA) (W : List Int) (tm : Tm) (f : Nat) (pos : Nat → Nat) (M : List (Nat × Ob)) (d : Addr) (es : List Me) : Prop where
  h : Hold T H A ⟨W, none, true⟩ false tm f pos M
  m : ModAt H d es
  sd : d ∉ own A tm
  st : ∀ e ∈ es, e.2.1 ∉ own A tm
  sl : ∀ e ∈ es, e.2.2.1 ∉ own A tm
def ownW (A : HA) (tm : Tm) (d : Addr) (es : List Me) : List Addr := d :: (es.map (·.2.2.1) ++ own A tm)
theorem WS.same {T : Txt K mg} {H H' : Hp} {A : HA} {W : List Int} {tm : Tm} {f : Nat} {pos : Nat → Nat} {M : List (Nat × Ob)} {d : Addr} {es : List Me} (w : WS T H A W tm f pos M d es) (s : Same H H') : WS T H' A W tm f pos M d es := ⟨w.h.same s, w.m.same s, w.sd, w.st, w.sl⟩
theorem WS.keys {T : Txt K mg} {H : Hp} {A : HA} {W : List Int} {tm : Tm} {f : Nat} {pos : Nat → Nat} {d : Addr} {es : List Me} (w : WS T H A W tm f pos (modM es) d es) : Keys es := by
  refine ⟨by rw [← modM_keys]; exact w.h.rep.nk, w.h.rep.rng, ?_⟩
  obtain ⟨vs, hv, _⟩ := w.h.rep.buf
  rw [← modM_keys]
  exact List.mem_map_of_mem (f := (·.1)) hv
/-- the heap did something -/
theorem WS.heap {T : Txt K mg} {H H' : Hp} {A : HA} {W W' : List Int} {tm tm' : Tm} {f f' : Nat} {pos pos' : Nat → Nat} {M M' : List (Nat × Ob)} {d : Addr} {es : List Me} (w : WS T H A W tm f pos M d es) (h : Hold T H' A ⟨W', none, true⟩ false tm' f' pos' M') (mv : Mvs H (own A tm) H' (own A tm')) : WS T H' A W' tm' f' pos' M' d es :=
  ⟨h, ⟨(mv.at_ w.m.dd w.sd).1, fun e he => (mv.at_ (w.m.tt e he) (w.st e he)).1, fun e he => (mv.at_ (w.m.ll e he) (w.sl e he)).1, w.m.nl⟩, (mv.at_ w.m.dd w.sd).2, fun e he => (mv.at_ (w.m.tt e he) (w.st e he)).2, fun e he => (mv.at_ (w.m.ll e he) (w.sl e he)).2⟩
theorem mvW {H H' : Hp} {A : HA} {tm tm' : Tm} {d : Addr} {es : List Me} (mv : Mvs H (own A tm) H' (own A tm')) : Mvs H (ownW A tm d es) H' (ownW A tm' d es) := by
  refine ⟨fun x o hx e => mv.kp x o (fun h => hx ?_) e, fun x hx => ?_⟩
  · unfold ownW; exact List.mem_cons_of_mem _ (List.mem_append_right _ h)
  · unfold ownW at hx ⊢
    rcases List.mem_cons.mp hx with rfl | hx
    · exact .inl List.mem_cons_self
    · rcases List.mem_append.mp hx with hx | hx
      · exact .inl (List.mem_cons_of_mem _ (List.mem_append_left _ hx))
      · rcases mv.nw x hx with h | h
        · exact .inl (List.mem_cons_of_mem _ (List.mem_append_right _ h))
        · exact .inr h
theorem not_own {A : HA} {tm : Tm} {x : Addr} (h : x ∉ own A tm) : x ≠ A.c ∧ x ≠ A.l ∧ x ≠ A.dt ∧ ∀ e ∈ tm, x ≠ e.2.1 := by
  unfold own at h
  simp only [List.mem_cons, List.mem_map, not_or, not_exists, not_and] at h
  exact ⟨h.1, h.2.1, h.2.2.1, fun e he z => h.2.2.2 e he z.symm⟩
/-- what is no part of the heap is changed -/
theorem Hold.away {T : Txt K mg} {H H' : Hp} {A : HA} {S : CS} {b : Bool} {tm : Tm} {f : Nat} {pos : Nat → Nat} {M : List (Nat × Ob)} (h : Hold T H A S b tm f pos M) {x : Addr} {o : HO} (hx : H x = some o) (no : ∀ C dx fs, o ≠ .ins C dx fs) (n : x ∉ own A tm) (k : Kp [x] H H') : Hold T H' A S b tm f pos M := by
  obtain ⟨n1, n2, n3, n4⟩ := not_own n
  obtain ⟨_, ho⟩ := h.at_.ob
  obtain ⟨_, hj⟩ := h.at_.jr
  exact ⟨h.at_.kpx k ⟨ne_of hx ho (no _ _ _), n1, n2, ne_of hx hj (no _ _ _), n3, n4⟩, h.rep, h.on⟩
theorem HeapAt.fresh_own {T : Txt K mg} {H : Hp} {A : HA} {S : CS} {b : Bool} {tm : Tm} (h : HeapAt T H A S b tm) {p : Addr} (n : H p = none) : p ∉ own A tm := by
  obtain ⟨a1, a2, a3, a4, a5, a6⟩ := h.fresh n
  unfold own
  simp only [List.mem_cons, List.mem_map, not_or, not_exists, not_and]
  exact ⟨a2, a3, a5, fun e he z => a6 e he z.symm⟩
/-- a new object in the model -/
theorem WS.add {T : Txt K mg} {H H1 H2 H' : Hp} {A : HA} {W : List Int} {tm : Tm} {f : Nat} {pos : Nat → Nat} {M : List (Nat × Ob)} {d t l : Addr} {es : List Me} (w : WS T H A W tm f pos M d es) {n : Nat} {o : Ob} (nk : n ∉ es.map (·.1)) (hl : H l = none) (s1 : Same H H1) (l1 : H1 l = some (.lst (o.vals.map V.int))) (ht : H1 t = none) (e2 : H2 = upd H1 t (tupO o l)) (e3 : H' = upd H2 d (.dK (tmK (toTm (es ++ [(n, t, l, o)]))))) :
    WS T H' A W tm f pos M d (es ++ [(n, t, l, o)]) ∧ Mvs H (ownW A tm d es) H' (ownW A tm d (es ++ [(n, t, l, o)])) := by
  have s2 : Same H1 H2 := by rw [e2]; exact same_new ht
  have s := s1.trans s2
  have w2 := w.same s
  have k : Kp [d] H2 H' := by rw [e3]; exact Kp.set (by simp)
  have hld : l ≠ d := (ne_of_none w.m.dd hl).symm
  have htd : t ≠ d := (ne_of_none (s1 _ _ w.m.dd) ht).symm
  have ne_d : ∀ x o', H2 x = some o' → (∀ kvs, o' ≠ .dK kvs) → x ≠ d := fun x o' h z => ne_of h w2.m.dd (z _)
  have tl : H2 t = some (tupO o l) := by rw [e2]; exact upd_same
  have ll : H2 l = some (.lst (o.vals.map V.int)) := s2 _ _ l1
  refine ⟨⟨w2.h.away w2.m.dd (fun _ _ _ z => by cases z) w2.sd k, ⟨by rw [e3]; exact upd_same, fun e he => ?_, fun e he => ?_, ?_⟩, w.sd, fun e he => ?_, fun e he => ?_⟩, ?_, fun x hx => ?_⟩
  · rcases List.mem_append.mp he with he | he
    · exact k _ _ (by simpa using ne_d _ _ (w2.m.tt e he) (fun _ z => by cases z)) (w2.m.tt e he)
    · rw [List.mem_singleton.mp he]; exact k _ _ (by simpa using htd) tl
  · rcases List.mem_append.mp he with he | he
    · exact k _ _ (by simpa using ne_d _ _ (w2.m.ll e he) (fun _ z => by cases z)) (w2.m.ll e he)
    · rw [List.mem_singleton.mp he]; exact k _ _ (by simpa using hld) ll
  · rw [List.map_append]
    refine List.nodup_append.mpr ⟨w.m.nl, by simp, fun a ha b hb => ?_⟩
    have : b = l := List.mem_singleton.mp hb
    subst this
    obtain ⟨e, he, rfl⟩ := List.mem_map.mp ha
    exact ne_of_none (w.m.ll e he) hl
  · rcases List.mem_append.mp he with he | he
    · exact w.st e he
    · rw [List.mem_singleton.mp he]
      obtain ⟨a1, a2, a3, a4, a5, a6⟩ := (w.same s1).h.at_.fresh ht
      unfold own
      simp only [List.mem_cons, List.mem_map, not_or, not_exists, not_and]
      exact ⟨a2, a3, a5, fun e he z => a6 e he z.symm⟩
  · rcases List.mem_append.mp he with he | he
    · exact w.sl e he
    · rw [List.mem_singleton.mp he]
      obtain ⟨a1, a2, a3, a4, a5, a6⟩ := w.h.at_.fresh hl
      unfold own
      simp only [List.mem_cons, List.mem_map, not_or, not_exists, not_and]
      exact ⟨a2, a3, a5, fun e he z => a6 e he z.symm⟩
  · intro x o' hx e
    exact k _ _ (by simp; intro z; subst z; exact hx List.mem_cons_self) (s _ _ e)
  · unfold ownW at hx ⊢
    rw [List.map_append] at hx
    rcases List.mem_cons.mp hx with rfl | hx
    · exact .inl List.mem_cons_self
    · rcases List.mem_append.mp hx with hx | hx
      · rcases List.mem_append.mp hx with hx | hx
        · exact .inl (List.mem_cons_of_mem _ (List.mem_append_left _ hx))
        · have : x = l := List.mem_singleton.mp hx
          subst this
          exact .inr hl
      · exact .inl (List.mem_cons_of_mem _ (List.mem_append_right _ hx))
theorem WS.nes {T : Txt K mg} {H : Hp} {A : HA} {W : List Int} {tm : Tm} {f : Nat} {pos : Nat → Nat} {M : List (Nat × Ob)} {d : Addr} {es : List Me} (w : WS T H A W tm f pos M d es) : True := trivial
theorem refs_new {M : List (Nat × Ob)} (R : RefsOk M) {n : Nat} {kind owner : Int} {size : Nat} (hk : 0 ≤ kind → size = 3) : RefsOk (M ++ [(n, newOb kind owner size)]) := by
  refine ⟨fun m u h h0 => ?_, fun m u h x hx => ?_⟩
  · rcases List.mem_append.mp h with h | h
    · exact R.len m u h h0
    · have := List.mem_singleton.mp h
      rw [(Prod.mk.inj this).2] at h0 ⊢
      show (List.replicate size (0 : Int)).length = 3
      rw [List.length_replicate]; exact hk h0
  · rcases List.mem_append.mp h with h | h
    · rcases R.ref m u h x hx with e | ⟨k, v, e1, e2, e3⟩
      · exact .inl e
      · exact .inr ⟨k, v, e1, e2, List.mem_append_left _ e3⟩
    · have := List.mem_singleton.mp h
      rw [(Prod.mk.inj this).2] at hx
      left
      unfold refsL at hx
      split at hx
      · exact nomatch hx
      · obtain ⟨i, hi, rfl⟩ := List.mem_map.mp hx
        show (List.replicate size (0 : Int)).getD i 0 = 0
        rw [List.getD_eq_getElem?_getD, List.getElem?_replicate]; split <;> rfl
def sp_law_make {K : PySem.W.Frag} {mg : Str → Option Value} (T : Txt K mg) : Sp := fun vs H Q _ => ∃ (A : HA) (W : List Int) (tm : Tm) (f : Nat) (pos : Nat → Nat) (d : Addr) (es : List Me) (kind owner : Int) (size : Nat), vs = [.ref A.h, .ref d, .int kind, .int owner, .int size] ∧ WS T H A W tm f pos (modM es) d es ∧ RefsOk (modM es) ∧ (0 ≤ kind → size = 3) ∧ size ≤ 64 ∧
  ∀ H' W' tm' pos' es', WS T H' A W' tm' f pos' (modM es') d es' → RefsOk (modM es') → Mvs H (ownW A tm d es) H' (ownW A tm' d es') → Q (.bl true) H'
theorem ok_law_make (T : Txt K mg) : FnOk P w K mg base CX0 7 T.f_law_make T.d_law_make ["_law_heap", "_law_model", "_law_kind", "_law_owner", "_law_size"] (sp_law_make T) := by
  refine T.k_law_make.ok sc_law_make (fun vs H Q E h => ?_) (fun cdv A outer s H vs Q E hr h => ?_)
  · obtain ⟨A, W, tm, f, pos, d, es, kind, owner, size, rfl, _⟩ := h
    rfl
  · obtain ⟨A, W, tm, f, pos, d, es, kind, owner, size, rfl, w, R, hk, hs, q⟩ := h
    -- 0:_law_heap 1:_law_model 2:_law_kind 3:_law_owner 4:_law_size 5:_law_used_here 6:_law_objects 7:_law_number 8:told 9:_law_due 10:_law_k
    refine ⟨_, (pss_cons (ps_asg (pe_call (ok_law_used T) (hr.mono (by decide)) (by rfl) T.g_law_used T.k_law_used.kp T.b_law_used .nil pass0 (pa_cons (pv 1) pa_nil)) (pg_tup rfl (pgs_cons (pg_name (i := 5) sc_law_make.nd rfl (Or.inl rfl)) (pgs_cons (pg_name (i := 6) sc_law_make.nd rfl (Or.inl rfl)) pgs_nil))))
      (pss_cons (ps_try_as (i := 8) rfl rfl sc_law_make.nd rfl rfl ⟨rfl, by decide, .inl T.g_Fault⟩ takes0 (fun W pn xe tk po => (pss_one (ps_set (i := 7) sc_law_make.nd rfl (.inl rfl) (pe_methS (pv 0) T.cl_Heap T.me_Heap_make (ok_Heap_make T) (hr.mono (by decide)) T.b_Heap_make (fun σ => passAt tk σ) (pa_cons (pv 2) (pa_cons (pv 3) (pa_cons (pv 4) pa_nil))))))) (fun a oe cls d pn hz hf => (pss_one (ps_ret (pe_and (pe_cmpR op_eq (pe_xf T.xf_Fault T.on_Fault_code hz hf (pv 8) rfl) (pe_un un_neg pe_int) (nomark _)) (pe_one (pe_or (pe_cmpR op_eq (pv 6) pe_int (nomark _)) (pe_one (pe_cmpR op_gt (pe_op op_add (pe_op op_add (pv 5) pe_int) (pv 4)) pe_int (nomark _))))))))))
      (pss_cons (ps_set (i := 9) sc_law_make.nd rfl (.inl rfl) (pe_callB (cr_min rfl) (by rfl) T.m_min (by decide +kernel) (pa_cons (pe_lc (own := [("_law_k", 10)]) (g := gName 10) rfl sc_law_make.nd (pi_range2 (by rfl) T.m_range (pa_cons pe_int (pa_cons pe_int pa_nil))) (blkOk_by (own := [("_law_k", 10)]) (N := ["_law_heap", "_law_model", "_law_kind", "_law_owner", "_law_size", "_law_used_here", "_law_objects", "_law_number", "told", "_law_due", "_law_k"]) (sc := defScope s_law_make) (by decide +kernel)) (fun _ _ _ _ _ => pg_name (i := 10) sc_law_make.nd rfl (Or.inl rfl)) (fun _ _ _ _ _ => pts_one (pt_cmp (pc_dnotin (hu_of hr) (pv 10) (pv 1)) rfl)) (fun _ _ _ _ _ => (pv 10))) pa_nil)))
      (pss_cons (ps_if (PW.pt (pw_or (pt_cmpR op_eq (pv 6) pe_int (nomark _)) (pw_or (pt_cmpR op_gt (pe_op op_add (pe_op op_add (pv 5) pe_int) (pv 4)) pe_int (nomark _)) (pw_or1 (pt_cmpR op_ne (pv 7) (pv 9) (nomark _)))))) (pss_one (ps_ret pe_bl)) pss_nil)
      (pss_cons (ps_dput (hu_of hr) (pv 1) (pv 7) (pe_tup (pa_cons (pv 2) (pa_cons (pv 3) (pa_cons (pe_op op_rep (pe_lst (pa_cons pe_int pa_nil)) (pv 4)) pa_nil)))) rfl)
      (pss_one (ps_ret pe_bl))))))), ?_⟩
    refine rdSeq ?_
    walk_at "rd"
    refine ⟨d, es, rfl, w.m, w.keys, fun H1 p hp s1 hpt => ?_⟩
    refine i_gTup2 rfl (sqT_of hpt) ?_
    have w1 := w.same s1
    refine rdSeq ?_
    walk_at "rd"
    have h1 := w1.h
    obtain ⟨_, ho⟩ := h1.at_.ob
    have keys := w1.keys
    have nk : ((modM es).map (·.1)).Nodup := by rw [modM_keys]; exact keys.nk
    have hl62 := es_len keys.nk keys.rng
    refine i_meth ho rfl ⟨A, ⟨W, none, true⟩, false, tm, f, pos, modM es, kind, owner, size, rfl, h1, fun hfull H2 dx2 s2 hdx2 => ?_, fun hfull H2 tm' n L hAt mv => ⟨fun _ etm => ?_, fun e => by rw [wlog_up] at e; cases e⟩⟩
    · have kd : Same H2 (upd H2 dx2 (.xd [("code", V.int (-6))])) := same_new hdx2
      refine i_catchAs T.ex_Fault_Fault fun a ha => ?_
      walk_at "rd"
      refine i_xf upd_same rfl ?_
      walk_at "rd"
      have fin : Q (.bl true) (upd H2 dx2 (.xd [("code", V.int (-6))])) := q _ W tm pos es (w1.same (s2.trans kd)) R (Mvs.same (s1.trans (s2.trans kd)))
      refine ite2 (fun _ => fin) (fun hne => ?_)
      rw [decide_eq_true (show (400 : Int) < (usd (modM es) : Nat) + 3 + (size : Nat) by omega)]
      exact fin
    · subst etm
      have hno : ¬ cnt (modM es) = 60 := fun z => hfull (.inl z)
      have hle : usd (modM es) + 3 + size ≤ 400 := by omega
      rw [wlog_up] at hAt
      have hH : Hold T H2 A ⟨applyL W (makeL f (usd (modM es)) n (newOb kind owner size)), none, true⟩ false (tmDrop tm n) f (fun m => if m = n then usd (modM es) else pos m) (modM es ++ [(n, newOb kind owner size)]) := ⟨hAt, h1.rep.make h1.at_.sz L hle, rfl⟩
      have w2 := w1.heap hH mv
      have mv2 := (Mvs.same (X := ownW A tm d es) s1).trans (mvW mv)
      have nout : n ∉ es.map (·.1) := fun hn => by
        obtain ⟨e, he, e1⟩ := List.mem_map.mp hn
        exact L.out e.2.2.2 (by rw [← e1]; exact modE he)
      refine rdSeq ?_
      walk_at "rd"
      refine ⟨by decide, by decide, by decide, by decide, ?_⟩
      have mem : ∀ k : Nat, (valV (tmK (toTm es)) (.inl (k : Int))).isSome = decide (k ∈ es.map (·.1)) := fun k => by
        rw [tmK_get]
        by_cases hk2 : k ∈ es.map (·.1)
        · rw [decide_eq_true hk2]
          obtain ⟨e, he, rfl⟩ := List.mem_map.mp hk2
          rw [find_in (tm := toTm es) (by rw [toTm_keys]; exact keys.nk) (e := (e.1, e.2.1, [])) (List.mem_map_of_mem (f := fun e : Me => (e.1, e.2.1, ([] : List Int))) he)]; rfl
        · rw [decide_eq_false hk2]
          have : (toTm es).find? (fun e => decide (e.1 = k)) = none := List.find?_eq_none.mpr fun e he => by
            rw [← toTm_keys] at hk2
            have h3 : e.1 ≠ k := fun z => hk2 (by rw [← z]; exact List.mem_map_of_mem (f := (·.1)) he)
            simpa using h3
          rw [this]; rfl
      refine i_lcF (walk_rangeL (lo := 1) (n := 61)) (fun i => !decide (i + 1 ∈ es.map (·.1))) (fun i => .int ((i + 1 : Nat) : Int)) (by rw [List.length_range]; decide) (fun _ _ _ => trivial) (fun i hi H5 Q' sm q' => ?_) (fun i hi _ H5 Q' sm q' => ?_) (fun D hD => ?_)
      · walk_at "rd"
        refine ⟨_, DGet.k (k := .inl (1 + (i : Int))) (sm _ _ w2.m.dd), ?_⟩
        rw [show (1 : Int) + (i : Int) = ((i + 1 : Nat) : Int) by omega, mem]
        exact q'
      · walk_at "rd"
        rw [show ((i + 1 : Nat) : Int) = 1 + (i : Int) by omega] at q'
        exact q'
      · have eF : ((List.range 61).filter fun i => !decide (i + 1 ∈ es.map (·.1))).map (fun i => V.int ((i + 1 : Nat) : Int)) = (((List.range 61).filter fun i => !decide (i + 1 ∈ es.map (·.1))).map fun i => ((i + 1 : Nat) : Int)).map V.int := by rw [List.map_map]; rfl
        rw [eF]
        have fr : ∀ m : Nat, 1 ≤ m → m ≤ 61 → ((m : Int) ∈ ((List.range 61).filter fun i => !decide (i + 1 ∈ es.map (·.1))).map (fun i => ((i + 1 : Nat) : Int)) ↔ m ∉ es.map (·.1)) := fun m m1 m2 => by
          rw [List.mem_map]
          constructor
          · rintro ⟨i, hi, e⟩ hm
            have hi := (List.mem_filter.mp hi).2
            have : m = i + 1 := by omega
            subst this
            rw [decide_eq_true hm] at hi
            cases hi
          · intro h
            refine ⟨m - 1, List.mem_filter.mpr ⟨List.mem_range.mpr (by omega), ?_⟩, by omega⟩
            rw [show m - 1 + 1 = m by omega, decide_eq_false h]; rfl
        have L1 := L.lo
        have L2 := L.hi
        have mn0 := (fr n L1 (by omega)).mpr nout
        refine ⟨D, _, rfl, sqL_of upd_same, List.length_pos_of_mem mn0, fun m hm hall => ?_⟩
        obtain rfl : m = (n : Int) := by
          obtain ⟨i, hi, rfl⟩ := List.mem_map.mp hm
          have hi60 := List.mem_range.mp (List.mem_filter.mp hi).1
          have hmo := (fr (i + 1) (by omega) (by omega)).mp hm
          have h3 := hall _ mn0
          refine Classical.byContradiction fun hne => ?_
          obtain ⟨o, ho⟩ := L.le (i + 1) (by omega) (by omega)
          refine hmo ?_
          rw [← modM_keys]
          exact List.mem_map_of_mem (f := (·.1)) ho
        clear hall hm mn0 fr eF
        have s3 : Same H2 (upd H2 D (.lst ((((List.range 61).filter fun i => !decide (i + 1 ∈ es.map (·.1))).map fun i => ((i + 1 : Nat) : Int)).map V.int))) := same_new hD
        generalize upd H2 D (.lst ((((List.range 61).filter fun i => !decide (i + 1 ∈ es.map (·.1))).map fun i => ((i + 1 : Nat) : Int)).map V.int)) = H3 at s3
        have w3 := w2.same s3
        refine rdSeq ?_
        walk_at "rd"
        rw [if_neg (show ¬ ((cnt (modM es) : Nat) : Int) = 60 by omega), if_neg (show ¬ (400 : Int) < (usd (modM es) : Nat) + 3 + (size : Nat) by omega)]
        refine rdSeq ?_
        walk_at "rd"
        intro p4 hp4
        have s4 : Same H3 (upd H3 p4 (.lst [V.int 0])) := same_new hp4
        refine i_rep upd_same (by omega) (by omega) (line5 (by show 1 * _ ≤ _; omega)) fun l hl => ?_
        rw [rep1]
        have s5 := same_new (o := .lst (List.replicate ((size : Int)).toNat (V.int 0))) hl
        refine fun t ht => ?_
        have all := (s3.trans s4)
        have fl : H2 l = none := all.free hl
        obtain ⟨w6, mv6⟩ := w2.add (n := n) (o := newOb kind owner size) (t := t) (l := l) nout fl (all.trans s5) (by rw [upd_same]; unfold newOb; rw [List.map_replicate]; rfl) ht rfl rfl
        have hput : (tmK (toTm es)).length < sizeLine := line5' (by unfold tmK toTm; rw [List.length_map, List.length_map]; omega)
        refine i_dputI ((((all.trans s5).trans (same_new ht)) _ _ w2.m.dd)) hput ?_
        have e9 : putK (tmK (toTm es)) (.inl (n : Int)) (V.ref t) = tmK (toTm (es ++ [(n, t, l, newOb kind owner size)])) := by
          have : toTm (es ++ [(n, t, l, newOb kind owner size)]) = toTm es ++ [(n, t, [])] := by unfold toTm; rw [List.map_append]; rfl
          rw [this]
          refine tmK_put (List.find?_eq_none.mpr fun e he => ?_)
          rw [← toTm_keys] at nout
          have h3 : e.1 ≠ n := fun z => nout (by rw [← z]; exact List.mem_map_of_mem (f := (·.1)) he)
          simpa using h3
        rw [e9]
        have eM : modM (es ++ [(n, t, l, newOb kind owner size)]) = modM es ++ [(n, newOb kind owner size)] := by unfold modM; rw [List.map_append]; rfl
        rw [← eM] at w6
        refine q _ _ _ _ _ w6 (by rw [eM]; exact refs_new R hk) (mv2.trans mv6)
theorem tIf_via {c : TT} {a b : TE} {σ : L2.St} {H : Hp} {Q : VK} (I : V → Hp → Prop) (q : ∀ x H1, I x H1 → Q x H1) (h : ∀ Q' : VK, (∀ x H1, I x H1 → Q' x H1) → tIf c a b σ H Q') : tIf c a b σ H Q := h Q q
def sp_law_reached {K : PySem.W.Frag} {mg : Str → Option Value} (_ : Txt K mg) : Sp := fun vs H Q _ => ∃ (d : Addr) (es : List Me) (ra : Addr) (roots : List Nat), vs = [.ref d, .ref ra] ∧ ModAt H d es ∧ Keys es ∧ RefsOk (modM es) ∧
  H ra = some (.lst (nV roots)) ∧ GoodL (modM es) roots ∧ ∀ H' p, H p = none → Same H H' → H' p = some (.lst (nV (reachL (modM es) roots))) → Q (.ref p) H'
theorem ok_law_reached (T : Txt K mg) : FnOk P w K mg base CX0 2 T.f_law_reached T.d_law_reached ["_law_model", "_law_roots"] (sp_law_reached T) := by
  refine T.k_law_reached.ok sc_law_reached (fun vs H Q E h => ?_) (fun cdv A outer s H vs Q E hr h => ?_)
  · obtain ⟨d, es, ra, roots, rfl, _⟩ := h
    rfl
  · obtain ⟨d, es, ra, roots, rfl, m, k, R, hra, hg, q⟩ := h
    -- 0:_law_model 1:_law_roots 2:_law_found 3:_law_number 4:_law_turn 5:_law_kind 6:_law_owner 7:_law_held 8:_law_place
    refine ⟨_, (pss_cons (ps_set (i := 2) sc_law_reached.nd rfl (.inl rfl) (pe_lst pa_nil))
      (pss_cons (ps_for PassesOwn.never rfl (pi_list (pv 1)) (pg_name (i := 3) sc_law_reached.nd rfl (Or.inl rfl)) (pss_one (ps_if (pt_cmpR (notIn_seqK K) (pv 3) (pv 2) rfl) (pss_one (ps_expr (pe_bmK K PySem.F.plainAttrs_list PySem.F.slot_list_append PySem.F.type_list_append mt_append (pv 2) (pa_cons (pv 3) pa_nil)))) pss_nil)))
      (pss_cons (ps_for PassesOwn.never rfl (pi_range1 (by rfl) T.m_range (pa_cons pe_int pa_nil)) (pg_name (i := 4) sc_law_reached.nd rfl (Or.inl rfl)) (pss_one (ps_for PassesOwn.never rfl (pi_list (pe_callTy call_list_of (by rfl) T.m_list (by decide +kernel) (pa_cons (pv 2) pa_nil))) (pg_name (i := 3) sc_law_reached.nd rfl (Or.inl rfl)) (pss_cons (ps_asg (pe_dget (hu_of hr) (pv 0) (pv 3) (fun _ _ => rfl)) (pg_tup rfl (pgs_cons (pg_name (i := 5) sc_law_reached.nd rfl (Or.inl rfl)) (pgs_cons (pg_name (i := 6) sc_law_reached.nd rfl (Or.inl rfl)) (pgs_cons (pg_name (i := 7) sc_law_reached.nd rfl (Or.inl rfl)) pgs_nil)))))
      (pss_one (ps_for PassesOwn.never rfl (pi_list (pe_ifExp (pt_cmpR op_ge (pv 5) pe_int (nomark _)) (pe_call (ok_law_places T) (hr.mono (by decide)) (by rfl) T.g_law_places T.k_law_places.kp T.b_law_places .nil pass0 (pa_cons (pv 5) pa_nil)) (pe_lst pa_nil))) (pg_name (i := 8) sc_law_reached.nd rfl (Or.inl rfl)) (pss_one (ps_if (PW.pt (pw_and (pt_cmpR op_lt (pv 8) (pe_callB (lenLK K) (by rfl) T.m_len (by decide +kernel) (pa_cons (pv 7) pa_nil)) (nomark _)) (pw_and (pt_cmpR op_ne (pe_ix (ix_listK K) (pv 7) (pv 8) (fun _ _ => rfl)) pe_int (nomark _)) (pw_and1 (pt_cmpR (notIn_seqK K) (pe_ix (ix_listK K) (pv 7) (pv 8) (fun _ _ => rfl)) (pv 2) rfl))))) (pss_one (ps_expr (pe_bmK K PySem.F.plainAttrs_list PySem.F.slot_list_append PySem.F.type_list_append mt_append (pv 2) (pa_cons (pe_ix (ix_listK K) (pv 7) (pv 8) (fun _ _ => rfl)) pa_nil)))) pss_nil))))))))
      (pss_one (ps_ret (pv 2)))))), ?_⟩
    have nk : ((modM es).map (·.1)).Nodup := by rw [modM_keys]; exact k.nk
    refine rdSeq ?_
    walk_at "rd"
    intro fp hfp
    have n0 : NewL H (upd H fp (.lst [])) fp (nV []) := ⟨hfp, same_new hfp, upd_same⟩
    generalize upd H fp (.lst []) = H0 at n0
    refine rdSeq ?_
    walk_at "rd"
    refine ⟨⟨_, sqL_of (n0.same _ _ hra)⟩, i_for (walk_listL (l := roots) (r := fun n : Nat => V.int (n : Nat))) (fun i σ H' => NewL H H' fp (nV (roots.take i)) ∧ ∃ y, σ = [some (.ref d), some (.ref ra), some (.ref fp), y, none, none, none, none, none]) ⟨n0, _, rfl⟩ (fun i σ H' _ k => sqL_of (k.1.same _ _ hra)) ?_ ?_⟩
    · rintro i x σ H1 H2 hi ⟨n1, y, rfl⟩ ⟨rfl, n, hn, rfl⟩
      walk_at "rd"
      refine i_inL (.inl n1.sq) rfl flat_nV ?_
      have e1 : inV (V.int (n : Nat)) (nV (roots.take i)) = false := by
        rw [inV_nV, decide_eq_false]
        rintro ⟨_, z⟩
        rw [Int.toNat_natCast] at z
        obtain ⟨k, hk, e⟩ := List.mem_iff_getElem.mp z
        rw [List.length_take] at hk
        rw [List.getElem_take] at e
        have hi2 : i < roots.length := hi
        have e3 : roots[i] = n := by rw [List.getElem?_eq_getElem hi2] at hn; exact Option.some.inj hn
        have := (List.getElem_inj hg.1).mp (e.trans e3.symm)
        omega
      rw [e1]
      walk_at "rd"
      refine ⟨ty_app n1.sq, i_app n1.at_ (by rw [List.length_map, List.length_take]; exact line5' (by have := hg.len; omega)) ?_⟩
      have e4 : nV (roots.take (i + 1)) = nV (roots.take i) ++ [V.int (n : Nat)] := by
        show List.map _ _ = _
        rw [List.take_add_one, hn, List.map_append]; rfl
      rw [e4]
      exact n1.set
    · rintro σ H1 ⟨n1, y, rfl⟩
      rw [List.take_length] at n1
      dsimp only
      refine rdSeq ?_
      walk_at "rd"
      refine ⟨by decide, by decide, i_for walk_range (fun t σ H' => NewL H H' fp (nV (iterP (modM es) roots t)) ∧ ∃ y3 y4 y5 y6 y7 y8, σ = [some (.ref d), some (.ref ra), some (.ref fp), y3, y4, y5, y6, y7, y8]) ⟨n1, _, _, _, _, _, _, rfl⟩ (fun _ _ _ _ _ => trivial) ?_ ?_⟩
      · rintro t _ σ _ H2 ht ⟨n2, y3, y4, y5, y6, y7, y8, rfl⟩ ⟨rfl, rfl⟩
        obtain ⟨i0, e0, _, _⟩ := iterP_pr nk R hg t
        have gL : GoodL (modM es) (iterP (modM es) roots t) := by rw [e0]; exact pr_good nk R hg i0
        have lL := gL.len
        have eP : iterP (modM es) roots (t + 1) = (iterP (modM es) roots t).foldl (fun acc n => addR acc (bR (modM es) n)) (iterP (modM es) roots t) := rfl
        rw [eP]
        generalize iterP (modM es) roots t = L at n2 gL lL
        walk_at "rd"
        refine ⟨_, .inl n2.sq, fun cp hcp => ?_⟩
        have n3 := n2.more (same_new (o := .lst (nV L)) hcp)
        have acp : upd H2 cp (.lst (nV L)) cp = some (.lst (nV L)) := upd_same
        have ncp : cp ≠ fp := (ne_of_none n2.at_ hcp).symm
        generalize upd H2 cp (.lst (nV L)) = H3 at n3 acp
        have part : ∀ j, j ≤ L.length → GoodL (modM es) ((L.take j).foldl (fun acc n => addR acc (bR (modM es) n)) L) := fun j => by
          induction j with
          | zero => intro _; exact gL
          | succ j ih =>
            intro hj
            have := ih (by omega)
            rw [List.take_add_one, List.getElem?_eq_getElem (by omega), Option.toList_some, List.foldl_append]
            exact addR_good this (bR_ok nk R gL (List.getElem_mem _))
        refine ⟨⟨_, sqL_of acp⟩, i_for (walk_listL (l := L) (r := fun n : Nat => V.int (n : Nat))) (fun j σ H' => (NewL H H' fp (nV ((L.take j).foldl (fun acc n => addR acc (bR (modM es) n)) L)) ∧ H' cp = some (.lst (nV L))) ∧ ∃ y3 y4 y5 y6 y7 y8, σ = [some (.ref d), some (.ref ra), some (.ref fp), y3, y4, y5, y6, y7, y8]) ⟨⟨n3, acp⟩, _, _, _, _, _, _, rfl⟩ (fun i σ H' _ k => sqL_of k.1.2) ?_ ?_⟩
        · rintro j x σ H4 H5 hj ⟨⟨n4, hcp4⟩, y3, y4, y5, y6, y7, y8, rfl⟩ ⟨rfl, n, hn, rfl⟩
          have gj := part j (Nat.le_of_lt hj)
          have e4 : (L.take (j + 1)).foldl (fun acc n => addR acc (bR (modM es) n)) L = addR ((L.take j).foldl (fun acc n => addR acc (bR (modM es) n)) L) (bR (modM es) n) := by
            rw [List.take_add_one, hn, Option.toList_some, List.foldl_append]; rfl
          rw [e4]
          generalize (L.take j).foldl (fun acc n => addR acc (bR (modM es) n)) L = L4 at n4 gj
          obtain ⟨_, o, ho⟩ := gL.2 n (List.mem_of_getElem? hn)
          obtain ⟨tt, tl, he⟩ := mem_modM.mp ho
          have hb : bR (modM es) n = refsL o := by unfold bR; rw [obOf_eq nk ho]
          rw [hb]
          have m5 := m.same n4.same
          refine rdSeq ?_
          walk_at "rd"
          refine i_dgetI (.inl m5.dd) (dict_get k.nk he) ?_
          refine i_gTup3 rfl (sqT_of (m5.tt _ he)) ?_
          walk_at "rd"
          refine tIf_via (fun x H6 => ∃ (p6 : Addr) (ps : List Nat), x = .ref p6 ∧ H5 p6 = none ∧ Same H5 H6 ∧ H6 p6 = some (.lst (ps.map fun i => V.int (i : Nat))) ∧ refsL o = ps.map (fun i => o.vals.getD i 0) ∧ (∀ i ∈ ps, i < o.vals.length) ∧ ps.length ≤ 2) ?_ ?_
          · rintro x H6 ⟨p6, ps, rfl, hp6, s6, hpat, hps, hin, hpl⟩
            have n6 := n4.more s6
            have np6 : p6 ≠ fp := (ne_of_none n4.at_ hp6).symm
            rw [hps]
            refine ⟨_, rfl, ⟨_, sqL_of hpat⟩, i_for (walk_listL (l := ps) (r := fun i : Nat => V.int (i : Nat))) (fun a σ H' => (NewL H H' fp (nV (addR L4 ((ps.map fun i => o.vals.getD i 0).take a))) ∧ H' cp = some (.lst (nV L)) ∧ H' p6 = some (.lst (ps.map fun i => V.int (i : Nat)))) ∧ ∃ y8, σ = [some (.ref d), some (.ref ra), some (.ref fp), some (.int (n : Nat)), y4, some (.int o.kind), some (.int o.owner), some (.ref tl), y8]) ⟨⟨n6, s6 _ _ hcp4, hpat⟩, _, rfl⟩ (fun i σ H' _ k => sqL_of k.1.2.2) ?_ ?_⟩
            · rintro a x σ H7 H8 ha ⟨⟨n7, hc7, hp7⟩, y8, rfl⟩ ⟨rfl, i, hi, rfl⟩
              have hiv := hin i (List.mem_of_getElem? hi)
              have ga : GoodL (modM es) (addR L4 ((ps.map fun i => o.vals.getD i 0).take a)) := addR_good gj fun x hx => R.ref n o ho x (by rw [hps]; exact List.mem_of_mem_take hx)
              have la := ga.len
              have ea : addR L4 ((ps.map fun i => o.vals.getD i 0).take (a + 1)) = add1 (addR L4 ((ps.map fun i => o.vals.getD i 0).take a)) (o.vals.getD i 0) := by
                rw [List.take_add_one, List.getElem?_map, hi]
                unfold addR
                rw [List.foldl_append]; rfl
              rw [ea]
              have hcr := R.ref n o ho (o.vals.getD i 0) (by rw [hps]; exact List.mem_map_of_mem (f := fun i => o.vals.getD i 0) (List.mem_of_getElem? hi))
              have hh := m.ll _ he
              have hh8 := n7.same _ _ hh
              have ntl : tl ≠ fp := ne_of_none hh hfp
              generalize addR L4 ((ps.map fun i => o.vals.getD i 0).take a) = L5 at n7 ga la
              walk_at "rd"
              refine i_lenL (sqL_of hh8) ?_
              rw [List.length_map]
              walk_at "rd"
              rw [if_pos (by omega)]
              refine i_ixL (sqL_of hh8) (at_ints hiv) ?_
              walk_at "rd"
              by_cases h0 : o.vals.getD i 0 = 0
              · rw [h0]
                walk_at "rd"
                refine ⟨?_, hc7, hp7⟩
                unfold add1
                rw [if_pos (.inl rfl)]; exact n7
              · rw [decide_eq_false h0]
                walk_at "rd"
                refine i_ixL (sqL_of hh8) (at_ints hiv) (i_inL (.inl n7.sq) rfl flat_nV ?_)
                rw [inV_nV]
                obtain ⟨mm, uu, e1, e2, e3⟩ : ∃ m u, o.vals.getD i 0 = ((m : Nat) : Int) ∧ m ≤ 60 ∧ (m, u) ∈ modM es := by rcases hcr with h | h; exact absurd h h0; exact h
                rw [e1]
                by_cases hm : mm ∈ L5
                · rw [decide_eq_true ⟨by omega, by simpa using hm⟩]
                  walk_at "rd"
                  refine ⟨?_, hc7, hp7⟩
                  unfold add1
                  rw [if_pos (.inr (.inr (by simpa using hm)))]; exact n7
                · rw [decide_eq_false fun k => hm (by simpa using k.2)]
                  walk_at "rd"
                  refine ⟨ty_app n7.sq, i_ixL (sqL_of hh8) (at_ints hiv) (i_app n7.at_ (by rw [List.length_map]; exact line5' (by omega)) ⟨?_, ?_, ?_⟩)⟩
                  · unfold add1
                    rw [if_neg (by rintro (k | k | k); exact h0 (e1.trans k); omega; exact hm (by simpa using k)), e1]
                    have e5 : nV (L5 ++ [(mm : Int).toNat]) = nV L5 ++ [V.int (mm : Nat)] := by
                      show List.map _ _ = _
                      rw [List.map_append]; rfl
                    rw [e5]
                    exact n7.set
                  · rw [upd_ne ncp]; exact hc7
                  · rw [upd_ne np6]; exact hp7
            · rintro σ H7 ⟨⟨n7, hc7, hp7⟩, y8, rfl⟩
              rw [show ps.length = (ps.map fun i => o.vals.getD i 0).length from (List.length_map _).symm, List.take_length] at n7
              exact ⟨n7, hc7, _, _, _, _, _, _, rfl⟩
          · intro Q' hQ'
            unfold tIf
            walk_at "rd"
            refine ite2 (fun hk => ?_) (fun hk => ?_)
            · refine ⟨o.kind, rfl, fun H6 p6 hp6 s6 hpat => hQ' _ _ ⟨p6, plc o.kind, rfl, hp6, s6, hpat, by unfold refsL; rw [if_neg (by omega)], fun i hi => by rw [R.len n o ho hk]; exact plc_lt hi, plc_len⟩⟩
            · intro p6 hp6
              exact hQ' _ _ ⟨p6, [], rfl, hp6, same_new hp6, upd_same, by unfold refsL; rw [if_pos (by omega)]; rfl, (fun i hi => nomatch hi), by decide⟩
        · rintro σ H4 ⟨⟨n4, hcp4⟩, y3, y4, y5, y6, y7, y8, rfl⟩
          rw [List.take_length] at n4
          exact ⟨n4, _, _, _, _, _, _, rfl⟩
      · rintro σ H2 ⟨n2, y3, y4, y5, y6, y7, y8, rfl⟩
        have e70 : iterP (modM es) roots (70 : Int).toNat = reachL (modM es) roots := iterP_reach nk R hg
        rw [e70] at n2
        dsimp only
        walk_at "rd"
        exact q _ _ n2.free n2.same n2.at_
structure WF (T : Txt K mg) (H : Hp) (A : HA) (W : List Int) (tm : Tm) (f : Nat) (pos : Nat → Nat) (M : List (Nat × Ob)) (d : Addr) (es : List Me) (od : Obj) : Prop where
  h : Hold T H A ⟨W, none, true⟩ false tm f pos M
  m : ModF H d es od
  sd : d ∉ own A tm
  st : ∀ e ∈ es, e.2.1 ∉ own A tm
  sl : ∀ e ∈ es, e.2.2.1 ∉ own A tm
theorem WF.same {T : Txt K mg} {H H' : Hp} {A : HA} {W : List Int} {tm : Tm} {f : Nat} {pos : Nat → Nat} {M : List (Nat × Ob)} {d : Addr} {es : List Me} {od : Obj} (w : WF T H A W tm f pos M d es od) (s : Same H H') : WF T H' A W tm f pos M d es od := ⟨w.h.same s, w.m.same s, w.sd, w.st, w.sl⟩
theorem WF.heap {T : Txt K mg} {H H' : Hp} {A : HA} {W W' : List Int} {tm tm' : Tm} {f f' : Nat} {pos pos' : Nat → Nat} {M M' : List (Nat × Ob)} {d : Addr} {es : List Me} {od : Obj} (w : WF T H A W tm f pos M d es od) (h : Hold T H' A ⟨W', none, true⟩ false tm' f' pos' M') (mv : Mvs H (own A tm) H' (own A tm')) : WF T H' A W' tm' f' pos' M' d es od :=
  ⟨h, ⟨(mv.at_ w.m.dd w.sd).1, fun e he => (mv.at_ (w.m.tt e he) (w.st e he)).1, fun e he => (mv.at_ (w.m.ll e he) (w.sl e he)).1⟩, (mv.at_ w.m.dd w.sd).2, fun e he => (mv.at_ (w.m.tt e he) (w.st e he)).2, fun e he => (mv.at_ (w.m.ll e he) (w.sl e he)).2⟩
theorem WS.lock {T : Txt K mg} {H : Hp} {A : HA} {W : List Int} {tm : Tm} {f : Nat} {pos : Nat → Nat} {M : List (Nat × Ob)} {d : Addr} {es : List Me} (w : WS T H A W tm f pos M d es) (od : Obj) : WF T (upd H d (.frz od (.dK (tmK (toTm es))))) A W tm f pos M d es od ∧ Mvs H (ownW A tm d es) (upd H d (.frz od (.dK (tmK (toTm es))))) (ownW A tm d es) :=
  ⟨⟨w.h.away w.m.dd (fun _ _ _ z => by cases z) w.sd (Kp.set (by simp)), w.m.lock od, w.sd, w.st, w.sl⟩, ⟨Kp.set (by unfold ownW; simp), fun _ h => .inl h⟩⟩
theorem WF.unlock {T : Txt K mg} {H : Hp} {A : HA} {W : List Int} {tm : Tm} {f : Nat} {pos : Nat → Nat} {M : List (Nat × Ob)} {d : Addr} {es : List Me} {od : Obj} (w : WF T H A W tm f pos M d es od) (nl : (es.map (·.2.2.1)).Nodup) : WS T (upd H d (.dK (tmK (toTm es)))) A W tm f pos M d es ∧ Mvs H (ownW A tm d es) (upd H d (.dK (tmK (toTm es)))) (ownW A tm d es) :=
  ⟨⟨w.h.away w.m.dd (fun _ _ _ z => by cases z) w.sd (Kp.set (by simp)), ⟨upd_same, fun e he => by rw [upd_ne (ne_of (w.m.tt e he) w.m.dd (by intro z; cases z))]; exact w.m.tt e he, fun e he => by rw [upd_ne (ne_of (w.m.ll e he) w.m.dd (by intro z; cases z))]; exact w.m.ll e he, nl⟩, w.sd, w.st, w.sl⟩, ⟨Kp.set (by unfold ownW; simp), fun _ h => .inl h⟩⟩
theorem WF.away {T : Txt K mg} {H H' : Hp} {A : HA} {W : List Int} {tm : Tm} {f : Nat} {pos : Nat → Nat} {M : List (Nat × Ob)} {d : Addr} {es : List Me} {od : Obj} (w : WF T H A W tm f pos M d es od) {x : Addr} {xs : List V} (hx : H x = some (.lst xs)) (n : x ∉ ownW A tm d es) (k : Kp [x] H H') : WF T H' A W tm f pos M d es od := by
  unfold ownW at n
  simp only [List.mem_cons, List.mem_append, List.mem_map, not_or, not_exists, not_and] at n
  obtain ⟨n1, n2, n3⟩ := n
  exact ⟨w.h.away hx (fun _ _ _ z => by cases z) n3 k, ⟨k _ _ (by simpa using Ne.symm n1) w.m.dd, fun e he => k _ _ (by simpa using ne_of (w.m.tt e he) hx (by intro z; cases z)) (w.m.tt e he), fun e he => k _ _ (by simpa using n2 e he) (w.m.ll e he)⟩, w.sd, w.st, w.sl⟩
theorem WF.fresh {T : Txt K mg} {H : Hp} {A : HA} {W : List Int} {tm : Tm} {f : Nat} {pos : Nat → Nat} {M : List (Nat × Ob)} {d : Addr} {es : List Me} {od : Obj} (w : WF T H A W tm f pos M d es od) {p : Addr} (n : H p = none) : p ∉ ownW A tm d es := by
  obtain ⟨a1, a2, a3, a4, a5, a6⟩ := w.h.at_.fresh n
  unfold ownW own
  simp only [List.mem_cons, List.mem_append, List.mem_map, not_or, not_exists, not_and]
  exact ⟨(ne_of_none w.m.dd n).symm, fun e he z => (ne_of_none (w.m.ll e he) n) z, a2, a3, a5, fun e he z => a6 e he z.symm⟩
theorem numL_sorted {M : List (Nat × Ob)} : ((numL M).map fun n : Nat => (n : Int)).Pairwise (· ≤ ·) := by
  rw [List.pairwise_map]
  exact (range_sorted60.filter _).imp fun h => by omega
theorem keys60_es {es : List Me} : (es.filter fun e => decide (e.1 < 61)).map (·.1) = keys60 (modM es) := by
  unfold keys60 modM
  rw [List.filter_map, List.map_map]; rfl
theorem modF_read {T : Txt K mg} {H : Hp} {A : HA} {W : List Int} {tm : Tm} {f : Nat} {pos : Nat → Nat} {M : List (Nat × Ob)} {d : Addr} {es : List Me} {od : Obj} (w : WF T H A W tm f pos M d es od) : Rd H d (.dK (tmK (toTm es))) := .inr ⟨_, w.m.dd⟩
theorem i_yes {σ : L2.St} {H : Hp} {Q : Bool → Hp → Prop} (q : Q true H) : tYes σ H Q := q
def sp_law_same {K : PySem.W.Frag} {mg : Str → Option Value} (T : Txt K mg) : Sp := fun vs H Q _ => ∃ (A : HA) (W : List Int) (tm : Tm) (f : Nat) (pos : Nat → Nat) (d : Addr) (es : List Me), vs = [.ref A.h, .ref d] ∧ WS T H A W tm f pos (modM es) d es ∧
  ∀ H' tm', WS T H' A W tm' f pos (modM es) d es → Mvs H (ownW A tm d es) H' (ownW A tm' d es) → Q (.bl true) H'
theorem ok_law_same (T : Txt K mg) : FnOk P w K mg base CX0 7 T.f_law_same T.d_law_same ["_law_heap", "_law_model"] (sp_law_same T) := by
  refine T.k_law_same.ok sc_law_same (fun vs H Q E h => ?_) (fun cdv A outer s H vs Q E hr h => ?_)
  · obtain ⟨A, W, tm, f, pos, d, es, rfl, _⟩ := h
    rfl
  · obtain ⟨A, W, tm, f, pos, d, es, rfl, w, q⟩ := h
    -- 0:_law_heap 1:_law_model 2:_law_number 3:_law_numbers 4:_law_kind 5:_law_owner 6:_law_held 7:_law_place
    refine ⟨_, (pss_cons (ps_set (i := 3) sc_law_same.nd rfl (.inl rfl) (pe_callB cr_sortedI (by rfl) T.m_sorted (by decide +kernel) (pa_cons (pe_lock (pe_lc (own := [("_law_number", 2)]) (g := gName 2) rfl sc_law_same.nd (pi_keys (pv 1)) (blkOk_by (own := [("_law_number", 2)]) (N := ["_law_heap", "_law_model", "_law_number", "_law_numbers", "_law_kind", "_law_owner", "_law_held", "_law_place"]) (sc := defScope s_law_same) (by decide +kernel)) (fun _ _ _ _ _ => pg_name (i := 2) sc_law_same.nd rfl (Or.inl rfl)) (fun _ _ _ _ _ => pts_one (pt_cmpR op_lt (pv 2) pe_int (nomark _))) (fun _ _ _ _ _ => (pv 2)))) pa_nil)))
      (pss_cons (ps_if (PW.pt (pw_or (pt_cmpR (op_neD hr.units) (pe_meth0 (pv 0) T.cl_Heap T.me_Heap_numbers (ok_Heap_numbers T) (hr.mono (by decide)) T.b_Heap_numbers .nil pass0) (pv 3) (nomark _)) (pw_or1 (pt_cmpR (op_neD hr.units) (pe_meth0 (pv 0) T.cl_Heap T.me_Heap_used (ok_Heap_used T) (hr.mono (by decide)) T.b_Heap_used .nil pass0) (pe_call (ok_law_used T) (hr.mono (by decide)) (by rfl) T.g_law_used T.k_law_used.kp T.b_law_used .nil pass0 (pa_cons (pv 1) pa_nil)) (nomark _))))) (pss_one (ps_ret pe_bl)) pss_nil)
      (pss_cons (ps_lock (ps_for PassesOwn.never rfl (pi_keys (pv 1)) (pg_name (i := 2) sc_law_same.nd rfl (Or.inr rfl)) (pss_cons (ps_asg (pe_dget (hu_of hr) (pv 1) (pv 2) (fun _ _ => rfl)) (pg_tup rfl (pgs_cons (pg_name (i := 4) sc_law_same.nd rfl (Or.inl rfl)) (pgs_cons (pg_name (i := 5) sc_law_same.nd rfl (Or.inl rfl)) (pgs_cons (pg_name (i := 6) sc_law_same.nd rfl (Or.inl rfl)) pgs_nil)))))
      (pss_cons (ps_if (pt_cmpR (op_neD hr.units) (pe_tup (pa_cons (pe_meth (pv 0) T.cl_Heap T.me_Heap_kind (ok_Heap_kind T) (hr.mono (by decide)) T.b_Heap_kind .nil pass0 (pa_cons (pv 2) pa_nil)) (pa_cons (pe_meth (pv 0) T.cl_Heap T.me_Heap_owner (ok_Heap_owner T) (hr.mono (by decide)) T.b_Heap_owner .nil pass0 (pa_cons (pv 2) pa_nil)) (pa_cons (pe_meth (pv 0) T.cl_Heap T.me_Heap_size (ok_Heap_size T) (hr.mono (by decide)) T.b_Heap_size .nil pass0 (pa_cons (pv 2) pa_nil)) pa_nil)))) (pe_tup (pa_cons (pv 4) (pa_cons (pv 5) (pa_cons (pe_callB (lenLK K) (by rfl) T.m_len (by decide +kernel) (pa_cons (pv 6) pa_nil)) pa_nil)))) (nomark _)) (pss_one (ps_ret pe_bl)) pss_nil)
      (pss_one (ps_if (pt_cmpR (op_neD hr.units) (pe_lc (own := [("_law_place", 7)]) (g := gName 7) (tt := tYes) rfl sc_law_same.nd (pi_range1 (by rfl) T.m_range (pa_cons (pe_callB (lenLK K) (by rfl) T.m_len (by decide +kernel) (pa_cons (pv 6) pa_nil)) pa_nil)) (blkOk_by (own := [("_law_place", 7)]) (N := ["_law_heap", "_law_model", "_law_number", "_law_numbers", "_law_kind", "_law_owner", "_law_held", "_law_place"]) (sc := defScope s_law_same) (by decide +kernel)) (fun _ _ _ _ _ => pg_name (i := 7) sc_law_same.nd rfl (Or.inl rfl)) (fun _ _ _ _ _ => pts_nil) (fun _ _ _ _ _ => (pe_meth (pv 0) T.cl_Heap T.me_Heap_read (ok_Heap_read T) (hr.mono (by decide)) T.b_Heap_read .nil pass0 (pa_cons (pv 2) (pa_cons (pv 7) pa_nil))))) (pv 6) (nomark _)) (pss_one (ps_ret pe_bl)) pss_nil))))))
      (pss_one (ps_ret pe_bl))))), ?_⟩
    have keys := w.keys
    have nk : ((modM es).map (·.1)).Nodup := by rw [modM_keys]; exact keys.nk
    have hl62 := es_len keys.nk keys.rng
    refine rdSeq ?_
    walk_at "rd"
    refine ⟨d, _, w.m.dd, trivial, fun od => ?_⟩
    have mf := w.m.lock od
    refine ⟨od, .inl ⟨_, mf.dd, ?_⟩⟩
    refine i_lcF walk_keysE (fun e => decide (e.1 < 61)) (fun e => .int (e.1 : Nat)) (line5' (by omega)) (fun D ys hD => same_new hD _ _ mf.dd) (fun e he H1 Q' sm q' => ?_) (fun e he _ H1 Q' sm q' => ?_) (fun D hD => ?_)
    · walk_at "rd"
      rw [show decide ((e.1 : Int) < 61) = decide (e.1 < 61) by rw [decide_eq_decide]; omega]
      exact q'
    · walk_at "rd"
      exact q'
    have s1 : Same (upd H d (.frz od (.dK (tmK (toTm es))))) (upd (upd H d (.frz od (.dK (tmK (toTm es))))) D (.lst ((es.filter fun e => decide (e.1 < 61)).map fun e => .int (e.1 : Nat)))) := same_new hD
    refine ⟨s1 _ _ mf.dd, ?_⟩
    have sb := lock_back w.m.dd s1
    have nd : D ≠ d := (ne_of_none mf.dd hD).symm
    have aD : upd (upd (upd H d (.frz od (.dK (tmK (toTm es))))) D (.lst ((es.filter fun e => decide (e.1 < 61)).map fun e => .int (e.1 : Nat)))) d (.dK (tmK (toTm es))) D = some (.lst (((keys60 (modM es)).map fun n : Nat => (n : Int)).map V.int)) := by
      rw [upd_ne nd, upd_same, ← keys60_es, List.map_map, List.map_map]; rfl
    generalize upd (upd (upd H d (.frz od (.dK (tmK (toTm es))))) D (.lst ((es.filter fun e => decide (e.1 < 61)).map fun e => .int (e.1 : Nat)))) d (.dK (tmK (toTm es))) = H1 at sb aD
    refine ⟨D, (keys60 (modM es)).map fun n : Nat => (n : Int), rfl, sqL_of aD, fun ys pk hys hst hpk => ?_⟩
    have eys : ys = (numL (modM es)).map fun n : Nat => (n : Int) := PySem.W.ksm_same (hys.trans ((numL_perm nk keys.rng).map fun n : Nat => (n : Int)).symm) hst numL_sorted
    generalize enl : numL (modM es) = nl at eys
    subst eys
    have s2 : Same H1 (upd H1 pk (.lst ((nl.map fun n : Nat => (n : Int)).map V.int))) := same_new hpk
    have apk : upd H1 pk (.lst ((nl.map fun n : Nat => (n : Int)).map V.int)) pk = some (.lst ((nl.map fun n : Nat => (n : Int)).map V.int)) := upd_same
    generalize upd H1 pk (.lst ((nl.map fun n : Nat => (n : Int)).map V.int)) = H2 at s2 apk
    have s12 := sb.trans s2
    have w2 := w.same s12
    obtain ⟨_, ho2⟩ := w2.h.at_.ob
    refine rdSeq ?_
    walk_at "rd"
    refine i_meth ho2 rfl ⟨A, modM es, rfl, ⟨_, _, _, _, _, w2.h⟩, fun p3 hp3 => ?_⟩
    rw [enl]
    have s3 : Same H2 (upd H2 p3 (.lst (nl.map fun n => V.int (n : Nat)))) := same_new hp3
    have ap3 : upd H2 p3 (.lst (nl.map fun n => V.int (n : Nat))) p3 = some (.lst ((nl.map fun n : Nat => (n : Int)).map V.int)) := by rw [upd_same, List.map_map]; rfl
    generalize upd H2 p3 (.lst (nl.map fun n => V.int (n : Nat))) = H3 at s3 ap3
    refine i_neD (Dp.lst (sqL_of ap3) (dpInts _)) (Dp.lst (sqL_of (s3 _ _ apk)) (dpInts _)) (PySem.W.ke_shaped_ints _) ⟨_, rfl, ?_⟩
    walk_at "rd"
    have w3 := w2.same s3
    obtain ⟨_, ho3⟩ := w3.h.at_.ob
    refine i_meth ho3 rfl ⟨A, modM es, rfl, ⟨_, _, _, _, _, w3.h⟩, fun H4 p4 hp4 s4 ap4 => ?_⟩
    have w4 := w3.same s4
    refine ⟨d, es, rfl, w4.m, keys, fun H5 p5 hp5 s5 ap5 => ?_⟩
    refine i_neD (Dp.tup (sqT_of (s5 _ _ ap4)) (dpInts [_, _])) (Dp.tup (sqT_of ap5) (dpInts [_, _])) (by rfl) ⟨_, rfl, ?_⟩
    walk_at "rd"
    have w5 := w4.same s5
    have mv5 : Mvs H (ownW A tm d es) H5 (ownW A tm d es) := Mvs.same (s12.trans (s3.trans (s4.trans s5)))
    refine rdSeq ?_
    walk_at "rd"
    refine ⟨d, _, w5.m.dd, trivial, fun od2 => ?_⟩
    obtain ⟨w6, mv6⟩ := w5.lock od2
    refine ⟨od2, .inl ⟨_, w6.m.dd, ?_⟩⟩
    refine i_for walk_keysE (fun i σ H' => ∃ tm', WF T H' A W tm' f pos (modM es) d es od2 ∧ Mvs H (ownW A tm d es) H' (ownW A tm' d es) ∧ ∃ y2 y3 y4 y5 y6 y7, σ = [some (.ref A.h), some (.ref d), y2, y3, y4, y5, y6, y7]) ⟨tm, w6, mv5.trans mv6, _, _, _, _, _, _, rfl⟩ (fun i σ H' _ k => by obtain ⟨_, k, _⟩ := k; exact k.m.dd) ?_ ?_
    · rintro i x σ H7 H8 hi ⟨tm7, w7, mv7, y2, y3, y4, y5, y6, y7, rfl⟩ ⟨rfl, e, he, rfl⟩
      have he := List.mem_of_getElem? he
      have hmo := modE he
      refine rdSeq ?_
      walk_at "rd"
      refine i_dgetI (modF_read w7) (dict_get keys.nk he) ?_
      refine i_gTup3 rfl (sqT_of (w7.m.tt e he)) ?_
      obtain ⟨_, ho7⟩ := w7.h.at_.ob
      refine rdSeq ?_
      walk_at "rd"
      refine i_meth ho7 rfl ⟨A, _, e.1, e.2.2.2, rfl, ⟨_, _, _, _, _, w7.h⟩, hmo, ?_⟩
      walk_at "rd"
      refine i_meth ho7 rfl ⟨A, _, e.1, e.2.2.2, rfl, ⟨_, _, _, _, _, w7.h⟩, hmo, ?_⟩
      refine i_meth ho7 rfl ⟨A, _, e.1, e.2.2.2, rfl, ⟨_, _, _, _, _, w7.h⟩, hmo, fun t1 ht1 => ?_⟩
      have s8 := same_new (o := .tup [V.int e.2.2.2.kind, V.int e.2.2.2.owner, V.int e.2.2.2.vals.length]) ht1
      refine i_lenL (sqL_of (s8 _ _ (w7.m.ll e he))) fun t2 ht2 => ?_
      rw [List.length_map]
      have s9 := same_new (o := .tup [V.int e.2.2.2.kind, V.int e.2.2.2.owner, V.int e.2.2.2.vals.length]) ht2
      refine i_neD (Dp.tup (sqT_of (s9 _ _ upd_same)) (dpInts [_, _, _])) (Dp.tup (sqT_of upd_same) (dpInts [_, _, _])) (by rfl) ⟨_, rfl, ?_⟩
      have w9 := w7.same (s8.trans s9)
      have mv9 := mv7.trans (Mvs.same (X := ownW A tm7 d es) (s8.trans s9))
      generalize upd (upd H8 t1 (.tup [V.int e.2.2.2.kind, V.int e.2.2.2.owner, V.int e.2.2.2.vals.length])) t2 (.tup [V.int e.2.2.2.kind, V.int e.2.2.2.owner, V.int e.2.2.2.vals.length]) = H9 at w9 mv9
      walk_at "rd"
      refine i_lenL (sqL_of (w9.m.ll e he)) ?_
      rw [List.length_map]
      have hlen : e.2.2.2.vals.length ≤ 400 := by
        by_cases h61 : e.1 = 61
        · have := (w9.h.rep.buf_o (by rw [h61] at hmo; exact hmo)).2.2
          omega
        · have := w9.h.rep.p_le hmo (by have := (w9.h.rep.rng _ _ hmo).2; omega)
          omega
      refine ⟨_, rfl, by omega, by omega, fun D2 hD2 => ?_⟩
      have frD := w9.fresh hD2
      refine lc_it (walk_rangeL (lo := 0) (n := e.2.2.2.vals.length)) (fun j H' => (∃ tm', WF T H' A W tm' f pos (modM es) d es od2 ∧ Mvs H9 (ownW A tm7 d es) H' (ownW A tm' d es) ∧ D2 ∉ ownW A tm' d es) ∧ H' D2 = some (.lst ((e.2.2.2.vals.take j).map V.int))) ?_ (fun _ _ _ _ => trivial) ?_ ?_
      · exact ⟨⟨tm7, w9.same (same_new hD2), Mvs.same (same_new hD2), frD⟩, upd_same⟩
      · rintro j x H1' H2' hj ⟨⟨tmj, wj, mvj, frj⟩, hDj⟩ ⟨rfl, c, hc, rfl⟩
        have hj : j < e.2.2.2.vals.length := by rw [List.length_range] at hj; exact hj
        obtain rfl : c = j := by
          rw [List.getElem?_range hj] at hc; exact (Option.some.inj hc).symm
        refine ⟨wipe_one, i_yes (i_then rfl ?_)⟩
        obtain ⟨_, hoj⟩ := wj.h.at_.ob
        have etk : e.2.2.2.vals.take (c + 1) = e.2.2.2.vals.take c ++ [e.2.2.2.vals.getD c 0] := by
          rw [List.take_add_one, List.getD_eq_getElem?_getD, List.getElem?_eq_getElem hj]; rfl
        have fin : ∀ H3 tm3, Hold T H3 A ⟨W, none, true⟩ false tm3 f pos (modM es) → Mvs H2' (own A tmj) H3 (own A tm3) → ∃ acc, H3 D2 = some (.lst acc) ∧ acc.length < sizeLine ∧ ((∃ tm', WF T (upd H3 D2 (.lst (acc ++ [V.int (e.2.2.2.vals.getD c 0)]))) A W tm' f pos (modM es) d es od2 ∧ Mvs H9 (ownW A tm7 d es) (upd H3 D2 (.lst (acc ++ [V.int (e.2.2.2.vals.getD c 0)]))) (ownW A tm' d es) ∧ D2 ∉ ownW A tm' d es) ∧ upd H3 D2 (.lst (acc ++ [V.int (e.2.2.2.vals.getD c 0)])) D2 = some (.lst ((e.2.2.2.vals.take (c + 1)).map V.int))) := fun H3 tm3 h3 mv3 => by
          have w3 := wj.heap h3 mv3
          have mw := mvW (d := d) (es := es) mv3
          obtain ⟨hD3, fr3⟩ := mw.at_ hDj frj
          refine ⟨_, hD3, by rw [List.length_map, List.length_take]; exact line5' (by omega), ⟨tm3, w3.away hD3 fr3 (Kp.set (by simp)), ⟨fun x o hx ho => by rw [upd_ne (ne_of_none ho hD2)]; exact (mvj.trans mw).kp x o hx ho, (mvj.trans mw).nw⟩, fr3⟩, by rw [upd_same, etk, List.map_append]; rfl⟩
        walk_at "rd"
        refine i_meth hoj rfl ⟨A, _, false, tmj, f, pos, modM es, e.1, e.2.2.2, c, by rw [Int.zero_add], wj.h, hmo, hj, fun hk => ?_, fun hk H3 tm3 h3 mv3 => ?_⟩
        · exact fin _ _ wj.h Mvs.refl
        · exact fin _ _ h3 mv3
      · rintro H3 ⟨⟨tm3, w3, mv3, fr3⟩, hD3⟩
        rw [List.length_range, List.take_length] at hD3
        refine i_neD (Dp.lst (sqL_of hD3) (dpInts _)) (Dp.lst (sqL_of (w3.m.ll e he)) (dpInts _)) (PySem.W.ke_shaped_ints _) ⟨_, rfl, ?_⟩
        walk_at "rd"
        exact ⟨_, w3, mv9.trans mv3⟩
    · rintro σ H7 ⟨tm7, w7, mv7, y2, y3, y4, y5, y6, y7, rfl⟩
      obtain ⟨w8, mv8⟩ := w7.unlock w.m.nl
      dsimp only
      refine ⟨w7.m.dd, ?_⟩
      walk_at "rd"
      exact q _ _ w8 (mv7.trans mv8)
def setV (n : Nat) (vs : List Int) (es : List Me) : List Me := es.map fun e => if e.1 = n then (e.1, e.2.1, e.2.2.1, ⟨e.2.2.2.kind, e.2.2.2.owner, vs⟩) else e
theorem setV_addr {n : Nat} {vs : List Int} {es : List Me} : (setV n vs es).map (·.2.2.1) = es.map (·.2.2.1) := by
  unfold setV
  rw [List.map_map]
  refine List.map_congr_left fun e _ => ?_
  show (if e.1 = n then _ else e).2.2.1 = _
  split <;> rfl
theorem setV_toTm {n : Nat} {vs : List Int} {es : List Me} : toTm (setV n vs es) = toTm es := by
  unfold toTm setV
  rw [List.map_map]
  refine List.map_congr_left fun e _ => ?_
  show ((if e.1 = n then _ else e : Me).1, (if e.1 = n then _ else e : Me).2.1, ([] : List Int)) = _
  split <;> rfl
theorem setV_modM {n i : Nat} {w : Int} {t l : Addr} {o : Ob} {es : List Me} (nk : (es.map (·.1)).Nodup) (h : (n, t, l, o) ∈ es) : modM (setV n (o.vals.set i w) es) = mapM (gSet n i w) (modM es) := by
  unfold modM setV mapM
  rw [List.map_map, List.map_map]
  refine List.map_congr_left fun e he => ?_
  show ((if e.1 = n then _ else e : Me).1, (if e.1 = n then _ else e : Me).2.2.2) = (e.1, gSet n i w e.1 e.2.2.2)
  unfold gSet
  split
  · rename_i hn
    have h1 := modE he
    have h2 := modE h
    rw [hn] at h1
    have := mem_uniq (by rw [modM_keys]; exact nk) h1 h2
    rw [this]
  · rfl
theorem mem_setV {n : Nat} {vs : List Int} {es : List Me} {e : Me} (h : e ∈ setV n vs es) : (∃ e0 ∈ es, e0.1 = n ∧ e = (n, e0.2.1, e0.2.2.1, ⟨e0.2.2.2.kind, e0.2.2.2.owner, vs⟩)) ∨ (e ∈ es ∧ e.1 ≠ n) := by
  unfold setV at h
  obtain ⟨e0, he, rfl⟩ := List.mem_map.mp h
  by_cases hn : e0.1 = n
  · rw [if_pos hn]
    exact .inl ⟨e0, he, hn, by rw [hn]⟩
  · rw [if_neg hn]
    exact .inr ⟨he, hn⟩
theorem list_uniq {es : List Me} (nl : (es.map (·.2.2.1)).Nodup) : ∀ {x y : Me}, x ∈ es → y ∈ es → x.2.2.1 = y.2.2.1 → x = y := by
  induction es with
  | nil => intro x y h; exact nomatch h
  | cons e t ih =>
    intro x y hx hy z
    rw [List.map_cons, List.nodup_cons] at nl
    rcases List.mem_cons.mp hx with a | a <;> rcases List.mem_cons.mp hy with b | b
    · rw [a, b]
    · subst a; exact absurd (List.mem_map.mpr ⟨y, b, z.symm⟩) nl.1
    · subst b; exact absurd (List.mem_map.mpr ⟨x, a, z⟩) nl.1
    · exact ih nl.2 a b z
theorem key_uniq {es : List Me} (nk : (es.map (·.1)).Nodup) : ∀ {x y : Me}, x ∈ es → y ∈ es → x.1 = y.1 → x = y := by
  induction es with
  | nil => intro x y h; exact nomatch h
  | cons e t ih =>
    intro x y hx hy z
    rw [List.map_cons, List.nodup_cons] at nk
    rcases List.mem_cons.mp hx with a | a <;> rcases List.mem_cons.mp hy with b | b
    · rw [a, b]
    · subst a; exact absurd (List.mem_map.mpr ⟨y, b, z.symm⟩) nk.1
    · subst b; exact absurd (List.mem_map.mpr ⟨x, a, z⟩) nk.1
    · exact ih nk.2 a b z
/-- a value in the model is changed -/
theorem WS.setv {T : Txt K mg} {H : Hp} {A : HA} {W : List Int} {tm : Tm} {f : Nat} {pos : Nat → Nat} {M : List (Nat × Ob)} {d t l : Addr} {es : List Me} (w : WS T H A W tm f pos M d es) (nk : (es.map (·.1)).Nodup) {n : Nat} {o : Ob} (he : (n, t, l, o) ∈ es) {vs : List Int} :
    WS T (upd H l (.lst (vs.map V.int))) A W tm f pos M d (setV n vs es) ∧ Mvs H (ownW A tm d es) (upd H l (.lst (vs.map V.int))) (ownW A tm d (setV n vs es)) := by
  have hl := w.m.ll _ he
  have k : Kp [l] H (upd H l (.lst (vs.map V.int))) := Kp.set (by simp)
  have ndl : d ≠ l := ne_of w.m.dd hl (by intro z; cases z)
  refine ⟨⟨w.h.away hl (fun _ _ _ z => by cases z) (w.sl _ he) k, ⟨by rw [setV_toTm]; exact k _ _ (by simpa using ndl) w.m.dd, fun e h => ?_, fun e h => ?_, by rw [setV_addr]; exact w.m.nl⟩, w.sd, fun e h => ?_, fun e h => ?_⟩, ⟨fun x o' hx ho => ?_, fun x hx => .inl ?_⟩⟩
  · rcases mem_setV h with ⟨e0, h0, hn, rfl⟩ | ⟨h, hn⟩
    · have := w.m.tt e0 h0
      exact k _ _ (by simpa using ne_of this hl (by intro z; cases z)) this
    · have := w.m.tt e h
      exact k _ _ (by simpa using ne_of this hl (by intro z; cases z)) this
  · rcases mem_setV h with ⟨e0, h0, hn, rfl⟩ | ⟨h, hn⟩
    · have := key_uniq nk h0 he hn
      rw [this]
      exact upd_same
    · have hne : e.2.2.1 ≠ l := fun z => hn (by have := list_uniq w.m.nl h he z; rw [this])
      exact k _ _ (by simpa using hne) (w.m.ll e h)
  · rcases mem_setV h with ⟨e0, h0, hn, rfl⟩ | ⟨h, hn⟩
    · exact w.st e0 h0
    · exact w.st e h
  · rcases mem_setV h with ⟨e0, h0, hn, rfl⟩ | ⟨h, hn⟩
    · exact w.sl e0 h0
    · exact w.sl e h
  · refine k _ _ ?_ ho
    simp only [List.mem_singleton]
    rintro rfl
    exact hx (List.mem_cons_of_mem _ (List.mem_append_left _ (List.mem_map_of_mem (f := fun e : Me => e.2.2.1) he)))
  · unfold ownW at hx ⊢
    rw [setV_addr] at hx
    exact hx
theorem refs_set {M : List (Nat × Ob)} (nk : (M.map (·.1)).Nodup) (R : RefsOk M) {n i : Nat} {w : Int} {o : Ob} (hm : (n, o) ∈ M) (hw : 0 ≤ o.kind → i ∈ plc o.kind → w = 0 ∨ ∃ m u, w = ((m : Nat) : Int) ∧ m ≤ 60 ∧ (m, u) ∈ M) : RefsOk (mapM (gSet n i w) M) := by
  refine ⟨fun m u h h0 => ?_, fun m u h x hx => ?_⟩
  · obtain ⟨v, hv, rfl⟩ := mem_mapM.mp h
    unfold gSet at h0 ⊢
    split
    · rename_i e
      rw [if_pos e] at h0
      show (v.vals.set i w).length = 3
      rw [List.length_set]
      exact R.len m v hv h0
    · rename_i e
      rw [if_neg e] at h0
      exact R.len m v hv h0
  · obtain ⟨v, hv, rfl⟩ := mem_mapM.mp h
    have good : ∀ x, (x = 0 ∨ ∃ k u, x = ((k : Nat) : Int) ∧ k ≤ 60 ∧ (k, u) ∈ M) → x = 0 ∨ ∃ k u, x = ((k : Nat) : Int) ∧ k ≤ 60 ∧ (k, u) ∈ mapM (gSet n i w) M := fun x h => by
      rcases h with h | ⟨k, u, h1, h2, h3⟩
      · exact .inl h
      · exact .inr ⟨k, _, h1, h2, mem_mapM.mpr ⟨u, h3, rfl⟩⟩
    refine good x ?_
    unfold gSet at hx
    split at hx
    · rename_i e
      subst e
      obtain rfl := mem_uniq nk hm hv
      unfold refsL at hx
      have hx : x ∈ (if o.kind < 0 then [] else (plc o.kind).map fun j => (o.vals.set i w).getD j 0) := hx
      split at hx
      · exact nomatch hx
      · rename_i hk
        obtain ⟨j, hj, rfl⟩ := List.mem_map.mp hx
        by_cases hij : i = j
        · subst hij
          have h3 := R.len m o hv (by omega)
          have := plc_lt hj
          rw [getD_setE (by omega)]
          exact hw (by omega) hj
        · rw [getD_setN hij]
          refine R.ref m o hv _ ?_
          unfold refsL
          rw [if_neg hk]
          exact List.mem_map_of_mem (f := fun i => o.vals.getD i 0) hj
    · exact R.ref m v hv x hx
def sp_law_change {K : PySem.W.Frag} {mg : Str → Option Value} (T : Txt K mg) : Sp := fun vs H Q _ => ∃ (A : HA) (W : List Int) (tm : Tm) (f : Nat) (pos : Nat → Nat) (d : Addr) (es : List Me) (r : Int), vs = [.ref A.h, .ref d, .int r] ∧ WS T H A W tm f pos (modM es) d es ∧ RefsOk (modM es) ∧
  ∀ H' W' tm' es', WS T H' A W' tm' f pos (modM es') d es' → RefsOk (modM es') → Mvs H (ownW A tm d es) H' (ownW A tm' d es') → Q .non H'
inductive MidG (H : Hp) (M : List (Nat × Ob)) (o : Ob) (i : Nat) (vs : List (Option V)) : L2.St → Hp → Prop where
  | mk (H' : Hp) (s : Same H H') (w : Int) (y z : Option V) (hw : 0 ≤ o.kind → i ∈ plc o.kind → w = 0 ∨ ∃ m u, w = ((m : Nat) : Int) ∧ m ≤ 60 ∧ (m, u) ∈ M) : MidG H M o i vs (vs ++ [some (.int w), y, z]) H'
theorem ok_law_change (T : Txt K mg) : FnOk P w K mg base CX0 7 T.f_law_change T.d_law_change ["_law_heap", "_law_model", "_law_rest"] (sp_law_change T) := by
  refine T.k_law_change.ok sc_law_change (fun vs H Q E h => ?_) (fun cdv A outer s H vs Q E hr h => ?_)
  · obtain ⟨A, W, tm, f, pos, d, es, r, rfl, _⟩ := h
    rfl
  · obtain ⟨A, W, tm, f, pos, d, es, r, rfl, w, R, q⟩ := h
    -- 0:_law_heap 1:_law_model 2:_law_rest 3:_law_numbers 4:_law_number 5:_law_kind 6:_law_owner 7:_law_held 8:_law_place 9:_law_word 10:_law_targets 11:_law_one
    refine ⟨_, (pss_cons (ps_set (i := 3) sc_law_change.nd rfl (.inl rfl) (pe_callB (cr_sortedDI rfl) (by rfl) T.m_sorted (by decide +kernel) (pa_cons (pv 1) pa_nil)))
      (pss_cons (ps_set (i := 4) sc_law_change.nd rfl (.inl rfl) (pe_ix (ix_listK K) (pv 3) (pe_op op_modP (pv 2) (pe_callB (lenLK K) (by rfl) T.m_len (by decide +kernel) (pa_cons (pv 3) pa_nil))) (fun _ _ => rfl)))
      (pss_cons (ps_asg (pe_dget (hu_of hr) (pv 1) (pv 4) (fun _ _ => rfl)) (pg_tup rfl (pgs_cons (pg_name (i := 5) sc_law_change.nd rfl (Or.inl rfl)) (pgs_cons (pg_name (i := 6) sc_law_change.nd rfl (Or.inl rfl)) (pgs_cons (pg_name (i := 7) sc_law_change.nd rfl (Or.inl rfl)) pgs_nil)))))
      (pss_cons (ps_if (pt_cmpR op_eq (pe_callB (lenLK K) (by rfl) T.m_len (by decide +kernel) (pa_cons (pv 7) pa_nil)) pe_int (nomark _)) (pss_one (ps_retN)) pss_nil)
      (pss_cons (ps_set (i := 8) sc_law_change.nd rfl (.inl rfl) (pe_op op_modP (pe_op op_fdivW (pv 2) pe_int) (pe_callB (lenLK K) (by rfl) T.m_len (by decide +kernel) (pa_cons (pv 7) pa_nil))))
      (pss_cons (ps_set (i := 9) sc_law_change.nd rfl (.inl rfl) (pe_op op_sub (pe_op op_modP (pe_op op_fdivW (pv 2) pe_int) pe_int) pe_int))
      (C8.pss_cut (ps_if (PW.pt (pw_and (pt_cmpR op_ge (pv 5) pe_int (nomark _)) (pw_and1 (pt_cmpR (in_seqK K) (pv 8) (pe_call (ok_law_places T) (hr.mono (by decide)) (by rfl) T.g_law_places T.k_law_places.kp T.b_law_places .nil pass0 (pa_cons (pv 5) pa_nil)) rfl)))) (pss_cons (ps_set (i := 10) sc_law_change.nd rfl (.inl rfl) (pe_op op_cat (pe_lst (pa_cons pe_int pa_nil)) (pe_lc (own := [("_law_one", 11)]) (g := gName 11) rfl sc_law_change.nd (pi_list (pv 3)) (blkOk_by (own := [("_law_one", 11)]) (N := ["_law_heap", "_law_model", "_law_rest", "_law_numbers", "_law_number", "_law_kind", "_law_owner", "_law_held", "_law_place", "_law_word", "_law_targets", "_law_one"]) (sc := defScope s_law_change) (by decide +kernel)) (fun _ _ _ _ _ => pg_name (i := 11) sc_law_change.nd rfl (Or.inl rfl)) (fun _ _ _ _ _ => pts_one (pt_cmpR op_lt (pv 11) pe_int (nomark _))) (fun _ _ _ _ _ => (pv 11)))))
      (pss_one (ps_set (i := 9) sc_law_change.nd rfl (.inl rfl) (pe_ix (ix_listK K) (pv 10) (pe_op op_modP (pe_op op_fdivW (pv 2) pe_int) (pe_callB (lenLK K) (by rfl) T.m_len (by decide +kernel) (pa_cons (pv 10) pa_nil))) (fun _ _ => rfl))))) pss_nil)
      (pss_cons (ps_expr (pe_meth (pv 0) T.cl_Heap T.me_Heap_write (ok_Heap_write T) (hr.mono (by decide)) T.b_Heap_write .nil passL (pa_cons (pv 4) (pa_cons (pv 8) (pa_cons (pv 9) pa_nil)))))
      (pss_one (ps_asg (pv 9) (pg_sub (pv 7) (pv 8) set_list))))))))))), ?_⟩
    have keys := w.keys
    have nk : ((modM es).map (·.1)).Nodup := by rw [modM_keys]; exact keys.nk
    have hl62 := es_len keys.nk keys.rng
    refine rdSeq ?_
    walk_at "rd"
    refine ⟨d, _, es.map fun e => (e.1 : Int), rfl, .inl w.m.dd, by unfold tmK toTm; rw [List.map_map, List.map_map, List.map_map]; rfl, by rw [List.length_map]; omega, fun ys p hys hst hp => ?_⟩
    have s1 : Same H (upd H p (.lst (ys.map V.int))) := same_new hp
    have ap : upd H p (.lst (ys.map V.int)) p = some (.lst (ys.map V.int)) := upd_same
    generalize upd H p (.lst (ys.map V.int)) = H1 at s1 ap
    have w1 := w.same s1
    have hpos : 0 < ys.length := by
      rw [hys.length_eq, List.length_map, ← List.length_map (f := (·.1)) (as := es)]
      exact List.length_pos_of_mem keys.buf
    refine rdSeq ?_
    walk_at "rd"
    refine i_lenL (sqL_of ap) ?_
    rw [List.length_map]
    refine ⟨_, rfl, by omega, ?_⟩
    obtain ⟨v, ev, hv⟩ := at_of (xs := ys.map V.int) (i := r % (ys.length : Int)) (Int.emod_nonneg _ (by omega)) (by rw [List.length_map]; exact Int.emod_lt_of_pos _ (by omega))
    obtain ⟨y, hy, rfl⟩ := List.mem_map.mp hv
    obtain ⟨⟨n, tt, tl, o⟩, he, rfl⟩ := List.mem_map.mp (hys.subset hy)
    have hmo : (n, o) ∈ modM es := modE he
    refine i_ixL (sqL_of ap) ev ?_
    clear ev hv hy
    refine rdSeq ?_
    walk_at "rd"
    refine i_dgetI (.inl w1.m.dd) (dict_get keys.nk he) ?_
    refine i_gTup3 rfl (sqT_of (w1.m.tt _ he)) ?_
    refine rdSeq ?_
    walk_at "rd"
    have hll : H1 tl = some (.lst (o.vals.map V.int)) := w1.m.ll _ he
    refine i_lenL (sqL_of hll) ?_
    rw [List.length_map]
    walk_at "rd"
    have hlen : o.vals.length ≤ 400 := by
      by_cases h61 : n = 61
      · subst h61
        have := (w1.h.rep.buf_o hmo).2.2
        omega
      · have := w1.h.rep.p_le hmo (by have := (w1.h.rep.rng _ _ hmo).2; omega)
        omega
    refine ite2 (fun hz => q _ _ _ _ w1 R (Mvs.same s1)) (fun hz => ?_)
    have hz : 0 < o.vals.length := by omega
    refine rdSeq ?_
    walk_at "rd"
    refine ⟨⟨by decide, by decide⟩, i_lenL (sqL_of hll) ?_⟩
    rw [List.length_map]
    walk_at "rd"
    refine ⟨by omega, ?_⟩
    obtain ⟨i, ei⟩ := Int.eq_ofNat_of_zero_le (Int.emod_nonneg (r / 61) (show ((o.vals.length : Nat) : Int) ≠ 0 by omega))
    have hi : i < o.vals.length := by
      have := Int.emod_lt_of_pos (r / 61) (show (0 : Int) < (o.vals.length : Nat) by omega)
      omega
    rw [ei]
    refine rdSeq ?_
    walk_at "rd"
    refine ⟨⟨by decide, by decide⟩, ?_⟩
    generalize r / 4000 % 200 - 100 = w0
    refine rdCut (MidG H1 (modM es) o i [some (V.ref A.h), some (V.ref d), some (V.int r), some (V.ref p), some (V.int (n : Nat)), some (V.int o.kind), some (V.int o.owner), some (V.ref tl), some (V.int (i : Nat))]) ?_ ?_
    · walk_at "rd"
      refine ite2 (fun hk => ?_) (fun hk => MidG.mk H1 (Same.refl _) w0 none none (fun h => absurd h hk))
      refine ⟨o.kind, rfl, fun H2 p2 hp2 s2 ap2 => ?_⟩
      refine i_inL (.inl (sqL_of ap2)) rfl flat_nV ?_
      refine ⟨_, rfl, ?_⟩
      show (if inV (V.int (i : Nat)) (nV (plc o.kind)) = true then _ else _)
      rw [inV_nV]
      by_cases hin : i ∈ plc o.kind
      · rw [decide_eq_true ⟨by omega, by simpa using hin⟩]
        refine i_then rfl (rdSeq ?_)
        walk_at "rd"
        intro p3 hp3
        have s3 : Same H2 (upd H2 p3 (.lst [V.int 0])) := same_new hp3
        have ap3 : upd H2 p3 (.lst [V.int 0]) p3 = some (.lst [V.int 0]) := upd_same
        generalize upd H2 p3 (.lst [V.int 0]) = H3 at s3 ap3
        have s13 := s2.trans s3
        refine ⟨⟨_, sqL_of (s13 _ _ ap)⟩, ?_⟩
        refine i_lcF (walk_listL (l := ys) (r := V.int)) (fun y => decide (y < 61)) V.int (by rw [hys.length_eq, List.length_map]; exact line5' (by omega)) (fun D zs hD => sqL_of (same_new hD _ _ (s13 _ _ ap))) (fun y hy H4 Q' sm q' => ?_) (fun y hy _ H4 Q' sm q' => ?_) (fun D hD => ?_)
        · walk_at "rd"
          exact q'
        · walk_at "rd"
          exact q'
        refine i_cat (same_new hD _ _ ap3) upd_same (by rw [List.length_map]; refine Nat.le_trans (Nat.add_le_add_left (List.length_filter_le _ _) _) ?_; rw [hys.length_eq, List.length_map]; exact line5 (by show 1 + _ ≤ _; omega)) fun p5 hp5 => ?_
        have s5 := s13.trans ((same_new (o := .lst ((ys.filter fun y => decide (y < 61)).map V.int)) hD).trans (same_new (o := .lst ([V.int 0] ++ (ys.filter fun y => decide (y < 61)).map V.int)) hp5))
        have ap5 : upd (upd H3 D (.lst ((ys.filter fun y => decide (y < 61)).map V.int))) p5 (.lst ([V.int 0] ++ (ys.filter fun y => decide (y < 61)).map V.int)) p5 = some (.lst ((0 :: ys.filter fun y => decide (y < 61)).map V.int)) := upd_same
        generalize upd (upd H3 D (.lst ((ys.filter fun y => decide (y < 61)).map V.int))) p5 (.lst ([V.int 0] ++ (ys.filter fun y => decide (y < 61)).map V.int)) = H5 at s5 ap5
        refine ⟨⟨by decide, by decide⟩, i_lenL (sqL_of ap5) ?_⟩
        rw [List.length_map, List.length_cons]
        walk_at "rd"
        refine ⟨by omega, ?_⟩
        obtain ⟨v, ev, hv⟩ := at_of (xs := (0 :: ys.filter fun y => decide (y < 61)).map V.int) (i := r / 4000 % (((ys.filter fun y => decide (y < 61)).length + 1 : Nat) : Int)) (Int.emod_nonneg _ (by omega)) (by rw [List.length_map]; exact Int.emod_lt_of_pos _ (by omega))
        obtain ⟨y, hy, rfl⟩ := List.mem_map.mp hv
        refine i_ixL (sqL_of ap5) ev (.mk _ s5 y _ _ fun _ _ => ?_)
        rcases List.mem_cons.mp hy with rfl | hy
        · exact .inl rfl
        · obtain ⟨hy1, hy2⟩ := List.mem_filter.mp hy
          obtain ⟨⟨k, t', l', u⟩, hk', rfl⟩ := List.mem_map.mp (hys.subset hy1)
          have hy2 : decide ((k : Int) < 61) = true := hy2
          have := of_decide_eq_true hy2
          exact .inr ⟨k, u, rfl, by omega, modE hk'⟩
      · rw [decide_eq_false fun z => hin (by simpa using z.2)]
        exact i_else (by simp) (.mk _ s2 _ _ _ fun _ h => absurd h hin)
    · rintro σ H2 ⟨_, s2, wv, y1, y2, hw⟩
      have w2 := w1.same s2
      obtain ⟨_, ho2⟩ := w2.h.at_.ob
      have mv2 : Mvs H (ownW A tm d es) H2 (ownW A tm d es) := Mvs.same (s1.trans s2)
      have R2 : RefsOk (modM (setV n (o.vals.set i wv) es)) := by
        rw [setV_modM keys.nk he]
        exact refs_set nk R hmo hw
      have fin : ∀ H3 W3 tm3, WS T H3 A W3 tm3 f pos (mapM (gSet n i wv) (modM es)) d es → Mvs H2 (own A tm) H3 (own A tm3) → rSetL (V.ref tl) (V.int (i : Nat)) (V.int wv) H3 (fun H4 => Q V.non H4) := fun H3 W3 tm3 w3 mv3 => by
        refine i_setL (w3.m.ll _ he) (j := i) (by rw [List.length_map]; exact ixN_of hi) ?_
        obtain ⟨w4, mv4⟩ := w3.setv keys.nk he (vs := o.vals.set i wv)
        have e1 : (o.vals.map V.int).set i (V.int wv) = (o.vals.set i wv).map V.int := by rw [List.map_set]
        rw [e1]
        exact q _ _ _ _ (by rw [setV_modM keys.nk he]; exact w4) R2 ((mv2.trans (mvW mv3)).trans mv4)
      refine rdSeq ?_
      walk_at "rd"
      refine i_meth ho2 rfl ⟨A, _, false, tm, f, pos, modM es, n, o, i, wv, rfl, w2.h, hmo, hi, (fun z => by cases z), fun hk H3 tm3 h3 mv3 => fin _ _ _ (w2.heap h3 mv3) mv3, fun hk H3 h3 mv3 => ?_⟩
      have ej : jchange 0 false ⟨W, none, true⟩ (rm f + pos n + 3 + i) wv = (⟨W.set (rm f + pos n + 3 + i) wv, none, true⟩, .ok) := rfl
      rw [ej] at h3 ⊢
      have h4 : Hold T H3 A ⟨W.set (rm f + pos n + 3 + i) wv, none, true⟩ false tm f pos (mapM (gSet n i wv) (modM es)) := ⟨h3, w2.h.rep.cell w2.h.at_.sz hmo hi hk, rfl⟩
      exact fin _ _ _ (w2.heap h4 mv3) mv3

/-! ### the law's collection -/
def fes (p : Nat → Bool) (es : List Me) : List Me := es.filter fun e => p e.1
theorem fes_modM {p : Nat → Bool} {es : List Me} : modM (fes p es) = (modM es).filter fun e => p e.1 := by
  unfold modM fes
  rw [List.filter_map]; rfl
theorem fes_drop {p : Nat → Bool} {es : List Me} {n : Nat} : dropK (tmK (toTm (fes p es))) (.inl (n : Int)) = tmK (toTm (fes (fun m => p m && decide (m ≠ n)) es)) := by
  rw [tmK_drop]
  congr 1
  unfold tmDrop toTm fes
  rw [List.filter_map, List.filter_filter]
  congr 1
  refine List.filter_congr fun e _ => ?_
  show (decide (e.1 ≠ n) && p e.1) = _
  rw [Bool.and_comm]
theorem WS.fes {T : Txt K mg} {H : Hp} {A : HA} {W : List Int} {tm : Tm} {f : Nat} {pos : Nat → Nat} {M : List (Nat × Ob)} {d : Addr} {es es' : List Me} (w : WS T H A W tm f pos M d es) (sub : es'.Sublist es) : WS T (upd H d (.dK (tmK (toTm es')))) A W tm f pos M d es' ∧ Mvs H (ownW A tm d es) (upd H d (.dK (tmK (toTm es')))) (ownW A tm d es') := by
  have k : Kp [d] H (upd H d (.dK (tmK (toTm es')))) := Kp.set (by simp)
  refine ⟨⟨w.h.away w.m.dd (fun _ _ _ z => by cases z) w.sd k, ⟨upd_same, fun e he => ?_, fun e he => ?_, List.Sublist.nodup (sub.map _) w.m.nl⟩, w.sd, fun e he => w.st e (sub.subset he), fun e he => w.sl e (sub.subset he)⟩, ⟨k.mono (by unfold ownW; simp), fun x hx => .inl ?_⟩⟩
  · have := w.m.tt e (sub.subset he)
    exact k _ _ (by simpa using ne_of this w.m.dd (by intro z; cases z)) this
  · have := w.m.ll e (sub.subset he)
    exact k _ _ (by simpa using ne_of this w.m.dd (by intro z; cases z)) this
  · unfold ownW at hx ⊢
    rcases List.mem_cons.mp hx with h | h
    · rw [h]; exact List.mem_cons_self
    · rcases List.mem_append.mp h with h | h
      · exact List.mem_cons_of_mem _ (List.mem_append_left _ ((sub.map _).subset h))
      · exact List.mem_cons_of_mem _ (List.mem_append_right _ h)
theorem refs_keep {M : List (Nat × Ob)} {roots : List Nat} (nk : (M.map (·.1)).Nodup) (rng : ∀ n o, (n, o) ∈ M → 1 ≤ n ∧ n ≤ 61) (bk : ∀ o, (61, o) ∈ M → o.kind = -2) (R : RefsOk M) (g : GoodL M roots) : RefsOk (keepM (keptL M roots) M) := by
  refine ⟨fun n o h h0 => R.len n o (mem_keepM.mp h).1 h0, fun n o h x hx => ?_⟩
  obtain ⟨hm, hn⟩ := mem_keepM.mp h
  rcases R.ref n o hm x hx with e | ⟨m, u, e1, e2, e3⟩
  · exact .inl e
  · rcases hn with hn | hn
    · have hb : bR M n = refsL o := by unfold bR; rw [obOf_eq nk hm]
      have := reach_closed nk R g n (mem_kept.mp hn).2 x (by rw [hb]; exact hx)
      have r := rng m u e3
      rcases this with a | a | a
      · exact .inl a
      · omega
      · rw [e1, Int.toNat_natCast] at a
        exact .inr ⟨m, u, e1, e2, mem_keepM.mpr ⟨e3, .inl (mem_kept.mpr ⟨⟨r.1, e2⟩, a⟩)⟩⟩
    · subst hn
      have := bk o hm
      unfold refsL at hx
      rw [if_pos (by omega)] at hx
      exact nomatch hx
theorem fes_sub {p g : Nat → Bool} : ∀ {es : List Me}, (fes (fun m => p m && g m) es).Sublist (fes p es)
  | [] => List.Sublist.slnil
  | e :: es => by
    have ih := fes_sub (p := p) (g := g) (es := es)
    unfold fes at ih ⊢
    rw [List.filter_cons, List.filter_cons]
    cases hp : p e.1 with
    | true =>
      cases hg : g e.1 with
      | true => simpa [hp, hg] using ih
      | false => simpa [hp, hg] using ih.cons e
    | false => simpa [hp] using ih
def sp_law_collect {K : PySem.W.Frag} {mg : Str → Option Value} (T : Txt K mg) : Sp := fun vs H Q _ => ∃ (A : HA) (W : List Int) (tm : Tm) (f : Nat) (pos : Nat → Nat) (d : Addr) (es : List Me) (r : Int), vs = [.ref A.h, .ref d, .int r] ∧ WS T H A W tm f pos (modM es) d es ∧ RefsOk (modM es) ∧
  ∀ H' W' f' pos' es', WS T H' A W' tm f' pos' (modM es') d es' → RefsOk (modM es') → Mvs H (ownW A tm d es) H' (ownW A tm d es') → Q (.bl true) H'
theorem ok_law_collect (T : Txt K mg) : FnOk P w K mg base CX0 10 T.f_law_collect T.d_law_collect ["_law_heap", "_law_model", "_law_rest"] (sp_law_collect T) := by
  refine T.k_law_collect.ok sc_law_collect (fun vs H Q E h => ?_) (fun cdv A outer s H vs Q E hr h => ?_)
  · obtain ⟨A, W, tm, f, pos, d, es, r, rfl, _⟩ := h
    rfl
  · obtain ⟨A, W, tm, f, pos, d, es, r, rfl, w, R, q⟩ := h
    -- 0:_law_heap 1:_law_model 2:_law_rest 3:_law_number 4:_law_numbers 5:_law_roots 6:_law_kept
    refine ⟨_, (pss_cons (ps_set (i := 4) sc_law_collect.nd rfl (.inl rfl) (pe_callB cr_sortedI (by rfl) T.m_sorted (by decide +kernel) (pa_cons (pe_lock (pe_lc (own := [("_law_number", 3)]) (g := gName 3) rfl sc_law_collect.nd (pi_keys (pv 1)) (blkOk_by (own := [("_law_number", 3)]) (N := ["_law_heap", "_law_model", "_law_rest", "_law_number", "_law_numbers", "_law_roots", "_law_kept"]) (sc := defScope s_law_collect) (by decide +kernel)) (fun _ _ _ _ _ => pg_name (i := 3) sc_law_collect.nd rfl (Or.inl rfl)) (fun _ _ _ _ _ => pts_one (pt_cmpR op_lt (pv 3) pe_int (nomark _))) (fun _ _ _ _ _ => (pv 3)))) pa_nil)))
      (pss_cons (ps_setLc (i := 5) (own := [("_law_number", 3)]) (g := gName 3) rfl sc_law_collect.nd rfl rfl (sw_true rfl rfl rfl (by decide +kernel)) (pi_list (pv 4)) (blkOk_by (own := [("_law_number", 3)]) (N := ["_law_heap", "_law_model", "_law_rest", "_law_number", "_law_numbers", "_law_roots", "_law_kept"]) (sc := defScope s_law_collect) (by decide +kernel)) (fun _ _ _ _ _ => pg_name (i := 3) sc_law_collect.nd rfl (Or.inl rfl)) (fun _ _ _ _ _ => pts_one (pt_cmpR op_eq (pe_op op_modP (pe_op op_fdivW (pv 2) (pe_op op_add (pv 3) pe_int)) pe_int) pe_int (nomark _))) (fun _ _ _ _ _ => (pv 3)))
      (pss_cons (ps_set (i := 6) sc_law_collect.nd rfl (.inl rfl) (pe_call (ok_law_reached T) (hr.mono (by decide)) (by rfl) T.g_law_reached T.k_law_reached.kp T.b_law_reached .nil pass0 (pa_cons (pv 1) (pa_cons (pv 5) pa_nil))))
      (pss_cons (ps_if (pt_cmpR (op_neD hr.units) (pe_meth (pv 0) T.cl_Heap T.me_Heap_reached (ok_Heap_reached T) (hr.mono (by decide)) T.b_Heap_reached .nil pass0 (pa_cons (pv 5) (pa_cons (pe_glob (v := .ref T.f_law_places) rfl T.g_law_places rfl) pa_nil))) (pv 6) (nomark _)) (pss_one (ps_ret pe_bl)) pss_nil)
      (pss_cons (ps_if (pt_cmpR op_notN (pe_meth (pv 0) T.cl_Heap T.me_Heap_collect (ok_Heap_collect T) (hr.mono (by decide)) T.b_Heap_collect .nil passL (pa_cons (pv 5) (pa_cons (pe_glob (v := .ref T.f_law_places) rfl T.g_law_places rfl) pa_nil))) pe_non (nomark _)) (pss_one (ps_ret pe_bl)) pss_nil)
      (pss_cons (ps_for PassesOwn.never rfl (pi_list (pv 4)) (pg_name (i := 3) sc_law_collect.nd rfl (Or.inl rfl)) (pss_one (ps_if (pt_cmpR (notIn_seqK K) (pv 3) (pv 6) rfl) (pss_one (ps_expr (pe_dpop1 (pv 1) (pv 3) ⟨rfl, rfl, rfl, rfl⟩))) pss_nil)))
      (pss_one (ps_ret pe_bl)))))))), ?_⟩
    have keys := w.keys
    have nk : ((modM es).map (·.1)).Nodup := by rw [modM_keys]; exact keys.nk
    have hl62 := es_len keys.nk keys.rng
    refine rdSeq ?_
    walk_at "rd"
    refine ⟨d, _, w.m.dd, trivial, fun od => ?_⟩
    have mf := w.m.lock od
    refine ⟨od, .inl ⟨_, mf.dd, ?_⟩⟩
    refine i_lcF walk_keysE (fun e => decide (e.1 < 61)) (fun e => .int (e.1 : Nat)) (line5' (by omega)) (fun D ys hD => same_new hD _ _ mf.dd) (fun e he H1 Q' sm q' => ?_) (fun e he _ H1 Q' sm q' => ?_) (fun D hD => ?_)
    · walk_at "rd"
      rw [show decide ((e.1 : Int) < 61) = decide (e.1 < 61) by rw [decide_eq_decide]; omega]
      exact q'
    · walk_at "rd"
      exact q'
    have s1 : Same (upd H d (.frz od (.dK (tmK (toTm es))))) (upd (upd H d (.frz od (.dK (tmK (toTm es))))) D (.lst ((es.filter fun e => decide (e.1 < 61)).map fun e => .int (e.1 : Nat)))) := same_new hD
    refine ⟨s1 _ _ mf.dd, ?_⟩
    have sb := lock_back w.m.dd s1
    have nd : D ≠ d := (ne_of_none mf.dd hD).symm
    have aD : upd (upd (upd H d (.frz od (.dK (tmK (toTm es))))) D (.lst ((es.filter fun e => decide (e.1 < 61)).map fun e => .int (e.1 : Nat)))) d (.dK (tmK (toTm es))) D = some (.lst (((keys60 (modM es)).map fun n : Nat => (n : Int)).map V.int)) := by
      rw [upd_ne nd, upd_same, ← keys60_es, List.map_map, List.map_map]; rfl
    generalize upd (upd (upd H d (.frz od (.dK (tmK (toTm es))))) D (.lst ((es.filter fun e => decide (e.1 < 61)).map fun e => .int (e.1 : Nat)))) d (.dK (tmK (toTm es))) = H1 at sb aD
    refine ⟨D, (keys60 (modM es)).map fun n : Nat => (n : Int), rfl, sqL_of aD, fun ys pk hys hst hpk => ?_⟩
    have eys : ys = (numL (modM es)).map fun n : Nat => (n : Int) := PySem.W.ksm_same (hys.trans ((numL_perm nk keys.rng).map fun n : Nat => (n : Int)).symm) hst numL_sorted
    have nlm : ∀ n, n ∈ numL (modM es) ↔ (1 ≤ n ∧ n ≤ 60) ∧ ∃ o, (n, o) ∈ modM es := fun n => mem_numL
    have nln : (numL (modM es)).Nodup := range_nodup60.filter _
    have nll : (numL (modM es)).length ≤ 60 := numL_le
    generalize enl : numL (modM es) = nl at eys nlm nln nll
    subst eys
    rw [← nV_ints]
    have s2 : Same H1 (upd H1 pk (.lst (nV nl))) := same_new hpk
    have apk : upd H1 pk (.lst (nV nl)) pk = some (.lst (nV nl)) := upd_same
    generalize upd H1 pk (.lst (nV nl)) = H2 at s2 apk
    have s12 := sb.trans s2
    refine rdSeq ?_
    walk_at "rd"
    refine ⟨⟨_, sqL_of apk⟩, ?_⟩
    refine i_lcF (walk_listL (l := nl) (r := fun n : Nat => V.int (n : Nat))) (fun n => decide (r / ((n : Int) + 2) % 3 = 0)) (fun n => .int (n : Nat)) (line5' (by omega)) (fun D ys hD => sqL_of (same_new hD _ _ apk)) (fun n hn H3 Q' sm q' => ?_) (fun n hn _ H3 Q' sm q' => ?_) (fun D3 hD3 => ?_)
    · walk_at "rd"
      have := (nlm n).mp hn
      refine ⟨⟨by omega, log_small (Nat.lt_of_lt_of_le (show ((n : Int) + 2).natAbs < 64 by omega) (by decide))⟩, ?_⟩
      exact q'
    · walk_at "rd"
      exact q'
    have hg : GoodL (modM es) (nl.filter fun n => decide (r / ((n : Int) + 2) % 3 = 0)) := ⟨nln.filter _, fun x hx => by
      have := (nlm x).mp (List.mem_filter.mp hx).1
      exact ⟨this.1.2, this.2⟩⟩
    have s3 : Same H2 (upd H2 D3 (.lst (nV (nl.filter fun n => decide (r / ((n : Int) + 2) % 3 = 0))))) := same_new hD3
    have aD3 : upd H2 D3 (.lst (nV (nl.filter fun n => decide (r / ((n : Int) + 2) % 3 = 0)))) D3 = some (.lst (nV (nl.filter fun n => decide (r / ((n : Int) + 2) % 3 = 0)))) := upd_same
    generalize nl.filter (fun n : Nat => decide (r / ((n : Int) + 2) % 3 = 0)) = roots at s3 aD3 hg
    generalize upd H2 D3 (.lst (nV roots)) = H3 at s3 aD3
    have w3 := w.same (s12.trans s3)
    refine rdSeq ?_
    walk_at "rd"
    refine ⟨d, es, D3, roots, rfl, w3.m, keys, R, aD3, hg, fun H4 p4 hp4 s4 ap4 => ?_⟩
    have w4 := w3.same s4
    obtain ⟨_, ho4⟩ := w4.h.at_.ob
    refine rdSeq ?_
    walk_at "rd"
    refine i_meth ho4 rfl ⟨A, _, false, tm, f, pos, modM es, D3, roots, rfl, w4.h, R, s4 _ _ aD3, hg, fun H5 p5 hp5 s5 ap5 => ?_⟩
    rw [nV_ints] at ap5
    have ap4' := ap4
    rw [nV_ints] at ap4'
    refine i_neD (Dp.lst (sqL_of ap5) (dpInts _)) (Dp.lst (sqL_of (s5 _ _ ap4')) (dpInts _)) (PySem.W.ke_shaped_ints _) ⟨_, rfl, ?_⟩
    have w5 := w4.same s5
    obtain ⟨_, ho5⟩ := w5.h.at_.ob
    walk_at "rd"
    refine rdSeq ?_
    walk_at "rd"
    refine i_meth ho5 rfl ⟨A, _, false, tm, f, pos, modM es, D3, roots, rfl, w5.h, R, s5 _ _ (s4 _ _ aD3), hg, fun H6 h6 mv6 => ⟨fun _ => ?_, fun e => by rw [wlog_up] at e; cases e⟩⟩
    have gr := reach_good nk R hg
    have hks : ∀ n ∈ keptL (modM es) roots, 1 ≤ n ∧ n ≤ 60 ∧ ∃ o, (n, o) ∈ modM es := fun n hn => by
      have := mem_kept.mp hn
      exact ⟨this.1.1, this.1.2, (gr.2 n this.2).2⟩
    rw [wlog_up] at h6
    dsimp only at h6
    have rep6 := w5.h.rep.coll w5.h.at_.sz kept_nodup hks (numL_kept gr)
    dsimp only at rep6
    generalize applyL W (collL (modM es) (1 - f) (keptL (modM es) roots)) = W6 at h6 rep6
    generalize cpos (modM es) 0 (keptL (modM es) roots) = pos6 at rep6
    have hH6 : Hold T H6 A ⟨W6, none, true⟩ false tm (1 - f) pos6 (keepM (keptL (modM es) roots) (modM es)) := ⟨h6, rep6, rfl⟩
    have w6 := w5.heap hH6 mv6
    have R6 := refs_keep nk keys.rng (fun o ho => (w5.h.rep.buf_o ho).1) R hg
    have mvA : Mvs H (ownW A tm d es) H6 (ownW A tm d es) := (Mvs.same (s12.trans (s3.trans (s4.trans s5)))).trans (mvW mv6)
    have own_pk : pk ∉ own A tm := by
      obtain ⟨a1, a2, a3, a4, a5, a6⟩ := (w.same sb).h.at_.fresh hpk
      unfold own
      simp only [List.mem_cons, List.mem_map, not_or, not_exists, not_and]
      exact ⟨a2, a3, a5, fun e he z => a6 e he z.symm⟩
    have own_p4 : p4 ∉ own A tm := by
      obtain ⟨a1, a2, a3, a4, a5, a6⟩ := w3.h.at_.fresh hp4
      unfold own
      simp only [List.mem_cons, List.mem_map, not_or, not_exists, not_and]
      exact ⟨a2, a3, a5, fun e he z => a6 e he z.symm⟩
    have apk6 := (mv6.at_ (s5 _ _ (s4 _ _ (s3 _ _ apk))) own_pk).1
    have ap46 := (mv6.at_ (s5 _ _ ap4) own_p4).1
    clear hH6 h6
    walk_at "rd"
    refine rdSeq ?_
    walk_at "rd"
    refine ⟨⟨_, sqL_of apk6⟩, ?_⟩
    refine i_for (walk_listL (l := nl) (r := fun n : Nat => V.int (n : Nat))) (fun i σ H' => (WS T H' A W6 tm (1 - f) pos6 (keepM (keptL (modM es) roots) (modM es)) d (fes (fun m => decide (m ∈ reachL (modM es) roots ∨ m ∉ nl.take i)) es) ∧ Mvs H (ownW A tm d es) H' (ownW A tm d (fes (fun m => decide (m ∈ reachL (modM es) roots ∨ m ∉ nl.take i)) es)) ∧ H' pk = some (.lst (nV nl)) ∧ H' p4 = some (.lst (nV (reachL (modM es) roots)))) ∧ ∃ y3, σ = [some (.ref A.h), some (.ref d), some (.int r), y3, some (.ref pk), some (.ref D3), some (.ref p4)]) ?_ (fun i σ H' _ k => sqL_of k.1.2.2.1) ?_ ?_
    · have e0 : fes (fun m => decide (m ∈ reachL (modM es) roots ∨ m ∉ nl.take 0)) es = es := by
        unfold fes
        rw [List.filter_eq_self]
        intro e _
        exact decide_eq_true (.inr (by simp))
      rw [e0]
      exact ⟨⟨w6, mvA, apk6, ap46⟩, _, rfl⟩
    · rintro i x σ H7 H8 hi ⟨⟨w7, mv7, apk7, ap47⟩, y3, rfl⟩ ⟨rfl, n, hn, rfl⟩
      have hi : i < nl.length := hi
      have etk : nl.take (i + 1) = nl.take i ++ [n] := by rw [List.take_add_one, hn]; rfl
      walk_at "rd"
      refine i_inL (.inl (sqL_of ap47)) rfl flat_nV ?_
      rw [inV_nV]
      by_cases hr : n ∈ reachL (modM es) roots
      · rw [decide_eq_true ⟨by omega, by simpa using hr⟩]
        walk_at "rd"
        have e1 : fes (fun m => decide (m ∈ reachL (modM es) roots ∨ m ∉ nl.take (i + 1))) es = fes (fun m => decide (m ∈ reachL (modM es) roots ∨ m ∉ nl.take i)) es := by
          unfold fes
          refine List.filter_congr fun e _ => ?_
          rw [decide_eq_decide, etk, List.mem_append, List.mem_singleton, not_or]
          constructor
          · rintro (h | h)
            · exact .inl h
            · exact .inr h.1
          · rintro (h | h)
            · exact .inl h
            · by_cases hen : e.1 = n
              · exact .inl (by rw [hen]; exact hr)
              · exact .inr ⟨h, hen⟩
        rw [e1]
        exact ⟨w7, mv7, apk7, ap47⟩
      · rw [decide_eq_false fun z => hr (by simpa using z.2)]
        walk_at "rd"
        have hmn := (nlm n).mp (List.mem_of_getElem? hn)
        obtain ⟨_, o, ho⟩ := hmn
        obtain ⟨tt, tl, he⟩ := mem_modM.mp ho
        have hnt : n ∉ nl.take i := fun z => by
          obtain ⟨k, hk, e⟩ := List.mem_iff_getElem.mp z
          rw [List.length_take] at hk
          rw [List.getElem_take] at e
          have e3 : nl[i] = n := by rw [List.getElem?_eq_getElem hi] at hn; exact Option.some.inj hn
          have := (List.getElem_inj nln).mp (e.trans e3.symm)
          omega
        have he7 : (n, tt, tl, o) ∈ fes (fun m => decide (m ∈ reachL (modM es) roots ∨ m ∉ nl.take i)) es := List.mem_filter.mpr ⟨he, decide_eq_true (.inr hnt)⟩
        have nk7 : ((fes (fun m => decide (m ∈ reachL (modM es) roots ∨ m ∉ nl.take i)) es).map (·.1)).Nodup := List.Sublist.nodup (List.filter_sublist.map _) keys.nk
        have e1 : fes (fun m => decide (m ∈ reachL (modM es) roots ∨ m ∉ nl.take (i + 1))) es = fes (fun m => decide (m ∈ reachL (modM es) roots ∨ m ∉ nl.take i) && decide (m ≠ n)) es := by
          unfold fes
          refine List.filter_congr fun e _ => ?_
          rw [Bool.eq_iff_iff, Bool.and_eq_true, decide_eq_true_iff, decide_eq_true_iff, decide_eq_true_iff, etk, List.mem_append, List.mem_singleton, not_or]
          constructor
          · rintro (h | h)
            · exact ⟨.inl h, fun z => hr (by rw [← z]; exact h)⟩
            · exact ⟨.inr h.1, h.2⟩
          · rintro ⟨h | h, h2⟩
            · exact .inl h
            · exact .inr ⟨h, h2⟩
        refine ⟨.inl ⟨_, .inl w7.m.dd⟩, _, w7.m.dd, .inl (n : Int), rfl, _, dict_get nk7 he7, ?_⟩
        rw [fes_drop, ← e1]
        have sub : (fes (fun m => decide (m ∈ reachL (modM es) roots ∨ m ∉ nl.take (i + 1))) es).Sublist (fes (fun m => decide (m ∈ reachL (modM es) roots ∨ m ∉ nl.take i)) es) := by
          rw [e1]
          exact fes_sub
        obtain ⟨w8, mv8⟩ := w7.fes sub
        have npk : pk ≠ d := ne_of apk7 w7.m.dd (by intro z; cases z)
        have np4 : p4 ≠ d := ne_of ap47 w7.m.dd (by intro z; cases z)
        exact ⟨w8, mv7.trans mv8, by rw [upd_ne npk]; exact apk7, by rw [upd_ne np4]; exact ap47⟩
    · rintro σ H7 ⟨⟨w7, mv7, apk7, ap47⟩, y3, rfl⟩
      rw [List.take_length] at w7 mv7
      have eM : modM (fes (fun m => decide (m ∈ reachL (modM es) roots ∨ m ∉ nl)) es) = keepM (keptL (modM es) roots) (modM es) := by
        rw [fes_modM]
        unfold keepM
        refine List.filter_congr fun e he => ?_
        have r1 := keys.rng e.1 e.2 he
        rw [decide_eq_decide, nlm, mem_kept]
        constructor
        · rintro (h | h)
          · have := (gr.2 _ h).1
            exact .inl ⟨⟨r1.1, this⟩, h⟩
          · refine .inr (Classical.byContradiction fun h61 => h ⟨by omega, e.2, he⟩)
        · rintro (h | h)
          · exact .inl h.2
          · exact .inr fun z => by omega
      rw [← eM] at w7 R6
      dsimp only
      walk_at "rd"
      exact q _ _ _ _ _ w7 R6 mv7
def putE (n : Nat) (t l : Addr) (o : Ob) (es : List Me) : List Me := es.map fun e => if e.1 = n then (n, t, l, o) else e
theorem putE_toTm {n : Nat} {t l : Addr} {o : Ob} {es : List Me} : toTm (putE n t l o es) = repT (toTm es) n t [] := by
  unfold toTm putE repT
  rw [List.map_map, List.map_map]
  refine List.map_congr_left fun e _ => ?_
  show ((if e.1 = n then _ else e : Me).1, (if e.1 = n then _ else e : Me).2.1, ([] : List Int)) = if e.1 = n then (e.1, t, []) else (e.1, e.2.1, [])
  by_cases h : e.1 = n
  · rw [if_pos h, if_pos h, h]
  · rw [if_neg h, if_neg h]
theorem putE_modM {n : Nat} {t l : Addr} {o : Ob} {es : List Me} : modM (putE n t l o es) = mapM (fun m u => if m = n then o else u) (modM es) := by
  unfold modM putE mapM
  rw [List.map_map, List.map_map]
  refine List.map_congr_left fun e _ => ?_
  show ((if e.1 = n then _ else e : Me).1, (if e.1 = n then _ else e : Me).2.2.2) = (e.1, if e.1 = n then o else e.2.2.2)
  by_cases h : e.1 = n
  · rw [if_pos h, if_pos h, h]
  · rw [if_neg h, if_neg h]
theorem mem_putE {n : Nat} {t l : Addr} {o : Ob} {es : List Me} {e : Me} (h : e ∈ putE n t l o es) : e = (n, t, l, o) ∨ (e ∈ es ∧ e.1 ≠ n) := by
  unfold putE at h
  obtain ⟨e0, he, rfl⟩ := List.mem_map.mp h
  by_cases hn : e0.1 = n
  · rw [if_pos hn]; exact .inl rfl
  · rw [if_neg hn]; exact .inr ⟨he, hn⟩
theorem putE_keys {n : Nat} {t l : Addr} {o : Ob} {es : List Me} : (putE n t l o es).map (·.1) = es.map (·.1) := by
  unfold putE
  rw [List.map_map]
  refine List.map_congr_left fun e _ => ?_
  show (if e.1 = n then _ else e : Me).1 = _
  split
  · rename_i h; exact h.symm
  · rfl
theorem putE_nl {n : Nat} {t l : Addr} {o : Ob} : ∀ {es : List Me}, (es.map (·.1)).Nodup → (es.map (·.2.2.1)).Nodup → (∀ e ∈ es, e.2.2.1 ≠ l) → ((putE n t l o es).map (·.2.2.1)).Nodup
  | [], _, _, _ => List.nodup_nil
  | e :: es, nk, nl, hl => by
    rw [List.map_cons, List.nodup_cons] at nk nl
    have ih := putE_nl (n := n) (t := t) (l := l) (o := o) nk.2 nl.2 fun x hx => hl x (List.mem_cons_of_mem _ hx)
    show (List.map (·.2.2.1) ((if e.1 = n then _ else e) :: putE n t l o es)).Nodup
    rw [List.map_cons, List.nodup_cons]
    refine ⟨fun h => ?_, ih⟩
    obtain ⟨x, hx, ex⟩ := List.mem_map.mp h
    by_cases he : e.1 = n
    · rw [if_pos he] at ex
      rcases mem_putE hx with rfl | ⟨hx, hne⟩
      · have h2 := List.mem_map_of_mem (f := (·.1)) hx
        rw [putE_keys] at h2
        exact nk.1 (by rw [he]; exact h2)
      · exact hl x (List.mem_cons_of_mem _ hx) ex
    · rw [if_neg he] at ex
      rcases mem_putE hx with rfl | ⟨hx, hne⟩
      · exact hl e List.mem_cons_self ex.symm
      · exact nl.1 (by rw [← ex]; exact List.mem_map_of_mem (f := fun e : Me => e.2.2.1) hx)
/-- an object in the model is replaced -/
theorem WS.put {T : Txt K mg} {H H1 H2 H' : Hp} {A : HA} {W : List Int} {tm : Tm} {f : Nat} {pos : Nat → Nat} {M : List (Nat × Ob)} {d t l : Addr} {es : List Me} (w : WS T H A W tm f pos M d es) (nk : (es.map (·.1)).Nodup) {n : Nat} {o : Ob} (hl : H l = none) (s1 : Same H H1) (l1 : H1 l = some (.lst (o.vals.map V.int))) (ht : H1 t = none) (e2 : H2 = upd H1 t (tupO o l)) (e3 : H' = upd H2 d (.dK (tmK (toTm (putE n t l o es))))) :
    WS T H' A W tm f pos M d (putE n t l o es) ∧ Mvs H (ownW A tm d es) H' (ownW A tm d (putE n t l o es)) := by
  have s2 : Same H1 H2 := by rw [e2]; exact same_new ht
  have s := s1.trans s2
  have w2 := w.same s
  have k : Kp [d] H2 H' := by rw [e3]; exact Kp.set (by simp)
  have hld : l ≠ d := (ne_of_none w.m.dd hl).symm
  have htd : t ≠ d := (ne_of_none (s1 _ _ w.m.dd) ht).symm
  have ne_d : ∀ x o', H2 x = some o' → (∀ kvs, o' ≠ .dK kvs) → x ≠ d := fun x o' h z => ne_of h w2.m.dd (z _)
  have tl : H2 t = some (tupO o l) := by rw [e2]; exact upd_same
  have ll : H2 l = some (.lst (o.vals.map V.int)) := s2 _ _ l1
  refine ⟨⟨w2.h.away w2.m.dd (fun _ _ _ z => by cases z) w2.sd k, ⟨by rw [e3]; exact upd_same, fun e he => ?_, fun e he => ?_, ?_⟩, w.sd, fun e he => ?_, fun e he => ?_⟩, ⟨?_, fun x hx => ?_⟩⟩
  · rcases mem_putE he with rfl | ⟨he, _⟩
    · exact k _ _ (by simpa using htd) tl
    · exact k _ _ (by simpa using ne_d _ _ (w2.m.tt e he) (fun _ z => by cases z)) (w2.m.tt e he)
  · rcases mem_putE he with rfl | ⟨he, _⟩
    · exact k _ _ (by simpa using hld) ll
    · exact k _ _ (by simpa using ne_d _ _ (w2.m.ll e he) (fun _ z => by cases z)) (w2.m.ll e he)
  · exact putE_nl nk w.m.nl fun e he => ne_of_none (w.m.ll e he) hl
  · rcases mem_putE he with rfl | ⟨he, _⟩
    · obtain ⟨a1, a2, a3, a4, a5, a6⟩ := (w.same s1).h.at_.fresh ht
      unfold own
      simp only [List.mem_cons, List.mem_map, not_or, not_exists, not_and]
      exact ⟨a2, a3, a5, fun e he z => a6 e he z.symm⟩
    · exact w.st e he
  · rcases mem_putE he with rfl | ⟨he, _⟩
    · obtain ⟨a1, a2, a3, a4, a5, a6⟩ := w.h.at_.fresh hl
      unfold own
      simp only [List.mem_cons, List.mem_map, not_or, not_exists, not_and]
      exact ⟨a2, a3, a5, fun e he z => a6 e he z.symm⟩
    · exact w.sl e he
  · intro x o' hx e
    exact k _ _ (by simp; intro z; subst z; exact hx List.mem_cons_self) (s _ _ e)
  · unfold ownW at hx ⊢
    rcases List.mem_cons.mp hx with rfl | hx
    · exact .inl List.mem_cons_self
    · rcases List.mem_append.mp hx with hx | hx
      · obtain ⟨e, he, rfl⟩ := List.mem_map.mp hx
        rcases mem_putE he with rfl | ⟨he, _⟩
        · exact .inr hl
        · exact .inl (List.mem_cons_of_mem _ (List.mem_append_left _ (List.mem_map_of_mem (f := fun e : Me => e.2.2.1) he)))
      · exact .inl (List.mem_cons_of_mem _ (List.mem_append_right _ hx))
/-- behind a reset -/
def gRes : Nat → Ob → Ob := fun _ o => if o.kind = -2 then ⟨-2, o.owner, List.replicate o.vals.length 0⟩ else o
theorem gRes_len {M : List (Nat × Ob)} : SameLen gRes M := fun n o _ => by
  unfold gRes
  split
  · rename_i h; exact ⟨h.symm, rfl, List.length_replicate⟩
  · exact ⟨rfl, rfl, rfl⟩
theorem Rep.reset {W : List Int} {f : Nat} {pos : Nat → Nat} {M : List (Nat × Ob)} {tm : Tm} (R : Rep W f pos M tm) {bf : Addr} : Rep W f pos (mapM gRes M) [(61, bf, List.replicate 64 0)] := by
  refine R.map gRes_len rfl (fun _ _ _ => rfl) (fun n o ho hn => ?_) (fun n o ho hk => ?_)
  · have B := R.ob n o ho hn
    obtain ⟨e1, e2, e3⟩ := gRes_len n o ho
    refine ⟨B.tab, by rw [e1]; exact B.kd, by rw [e2]; exact B.ow, by rw [e3]; exact B.sz, fun kk i hi => ?_⟩
    have e4 : gRes n o = o := by
      unfold gRes
      rw [if_neg (by rw [← e1]; exact kk)]
    rw [e4] at kk hi ⊢
    exact B.vs kk i hi
  · have e4 : (gRes n o).vals = List.replicate o.vals.length 0 := by unfold gRes; rw [if_pos hk]
    rw [e4]
    unfold tval
    by_cases h : n = 61
    · subst h
      rw [(R.buf_o ho).2.2]; rfl
    · rw [List.find?_cons_of_neg (by simpa using fun z : 61 = n => h z.symm)]; rfl
theorem refs_map {M : List (Nat × Ob)} (R : RefsOk M) {g : Nat → Ob → Ob} (hg : ∀ n o, (n, o) ∈ M → g n o = o ∨ ((g n o).kind < 0)) : RefsOk (mapM g M) := by
  refine ⟨fun m u h h0 => ?_, fun m u h x hx => ?_⟩
  · obtain ⟨v, hv, rfl⟩ := mem_mapM.mp h
    rcases hg m v hv with e | e
    · rw [e] at h0 ⊢; exact R.len m v hv h0
    · omega
  · obtain ⟨v, hv, rfl⟩ := mem_mapM.mp h
    rcases hg m v hv with e | e
    · rw [e] at hx
      rcases R.ref m v hv x hx with h | ⟨k, u, h1, h2, h3⟩
      · exact .inl h
      · exact .inr ⟨k, _, h1, h2, mem_mapM.mpr ⟨u, h3, rfl⟩⟩
    · unfold refsL at hx
      rw [if_pos e] at hx
      exact nomatch hx
inductive LI (T : Txt K mg) (c l d dp : Addr) (ds : List Int) (A : HA) (H : Hp) : Prop
  | mk (W : List Int) (tm : Tm) (f : Nat) (pos : Nat → Nat) (es : List Me) (w : WS T H A W tm f pos (modM es) d es) (R : RefsOk (modM es)) (hc : A.c = c) (hl : A.l = l) (hd : H dp = some (.lst (ds.map V.int))) (nd : dp ∉ ownW A tm d es) : LI T c l d dp ds A H
theorem LI.of {T : Txt K mg} {c l d dp : Addr} {ds : List Int} {A : HA} {H H' : Hp} {W' : List Int} {tm tm' : Tm} {f' : Nat} {pos' : Nat → Nat} {es es' : List Me} (w : WS T H' A W' tm' f' pos' (modM es') d es') (R : RefsOk (modM es')) (hc : A.c = c) (hl : A.l = l) (hd : H dp = some (.lst (ds.map V.int))) (nd : dp ∉ ownW A tm d es) (mv : Mvs H (ownW A tm d es) H' (ownW A tm' d es')) : LI T c l d dp ds A H' := by
  obtain ⟨h1, h2⟩ := mv.at_ hd nd
  exact .mk W' tm' f' pos' es' w R hc hl h1 h2
theorem Rep.init {bf : Addr} {t l2 : Addr} : Rep (List.replicate 1002 0) 0 (fun _ => 0) (modM [(61, t, l2, ⟨-2, 0, List.replicate 64 0⟩)]) [(61, bf, List.replicate 64 0)] := by
  have z : ∀ i, (List.replicate 1002 (0 : Int)).getD i 0 = 0 := fun i => by rw [List.getD_eq_getElem?_getD, List.getElem?_replicate]; split <;> rfl
  have one : ∀ n o, (n, o) ∈ modM [(61, t, l2, ⟨-2, 0, List.replicate 64 0⟩)] → n = 61 ∧ o = ⟨-2, 0, List.replicate 64 0⟩ := fun n o h => by
    have := List.mem_singleton.mp h
    exact ⟨(Prod.mk.inj this).1, (Prod.mk.inj this).2⟩
  refine ⟨by decide, z _, by simp [modM], fun n o h => by have := (one n o h).1; omega, ⟨_, List.mem_singleton.mpr rfl, List.length_replicate⟩, fun n _ _ _ => z _, fun n o h hn => by have := (one n o h).1; omega, fun n o h _ => ?_, fun n o h hn => by have := (one n o h).1; omega, fun n o m u h _ hn => by have := (one n o h).1; omega, by show 0 ≤ 400; omega⟩
  obtain ⟨rfl, rfl⟩ := one n o h
  rfl
inductive MidJ (T : Txt K mg) (c l d dp : Addr) (ds : List Int) (sa : Addr) : L2.St → Hp → Prop
  | mk (A : HA) (y5 y6 y7 : Option V) (H : Hp) (li : LI T c l d dp ds A H) : MidJ T c l d dp ds sa [some (.ref sa), some (.ref c), some (.ref A.h), some (.ref d), some (.ref dp), y5, y6, y7, none, none, none, none, none, none] H
inductive MidK (T : Txt K mg) (c l d dp : Addr) (ds : List Int) (sa : Addr) : L2.St → Hp → Prop
  | mk (A : HA) (y5 y6 y7 y8 y9 y10 y11 y12 y13 : Option V) (H : Hp) (li : LI T c l d dp ds A H) : MidK T c l d dp ds sa [some (.ref sa), some (.ref c), some (.ref A.h), some (.ref d), some (.ref dp), y5, y6, y7, y8, y9, y10, y11, y12, y13] H
inductive MidS (T : Txt K mg) (c l d dp : Addr) (ds : List Int) (sa : Addr) (A : HA) (one : Int) : L2.St → Hp → Prop
  | mk (H : Hp) (li : LI T c l d dp ds A H) (sz : Nat) (hs : 0 ≤ one → sz = 3) (hz : sz ≤ 64) (y5 y7 y8 y9 y12 y13 : Option V) (x : Int) : MidS T c l d dp ds sa A one [some (.ref sa), some (.ref c), some (.ref A.h), some (.ref d), some (.ref dp), y5, some (.int (sz : Nat)), y7, y8, y9, some (.int x), some (.int one), y12, y13] H
theorem LI.same {T : Txt K mg} {c l d dp : Addr} {ds : List Int} {A : HA} {H H' : Hp} (li : LI T c l d dp ds A H) (s : Same H H') : LI T c l d dp ds A H' := by
  obtain ⟨W, tm, f, pos, es, w, R, hc, hl, hd, nd⟩ := li
  exact .mk W tm f pos es (w.same s) R hc hl (s _ _ hd) nd
theorem mapM_one {n : Nat} {o o' : Ob} {A B : List (Nat × Ob)} (h1 : n ∉ A.map (·.1)) (h2 : n ∉ B.map (·.1)) : mapM (fun m u => if m = n then o' else u) (A ++ (n, o) :: B) = A ++ (n, o') :: B := by
  have e1 : ∀ L : List (Nat × Ob), n ∉ L.map (·.1) → mapM (fun m u => if m = n then o' else u) L = L := fun L hL => by
    unfold mapM
    conv => rhs; rw [← List.map_id L]
    refine List.map_congr_left fun e he => ?_
    have : e.1 ≠ n := fun z => hL (by rw [← z]; exact List.mem_map_of_mem (f := (·.1)) he)
    show (e.1, if e.1 = n then o' else e.2) = e
    rw [if_neg this]
  have e2 : mapM (fun m u => if m = n then o' else u) (A ++ (n, o) :: B) = mapM (fun m u => if m = n then o' else u) A ++ (n, if n = n then o' else o) :: mapM (fun m u => if m = n then o' else u) B := by
    unfold mapM
    rw [List.map_append, List.map_cons]
  rw [e2, e1 A h1, e1 B h2, if_pos rfl]
theorem mk_heap {T : Txt K mg} {H : Hp} {c l : Addr} {S : CS} {σ : L2.St} {Q : VK} (cells : CellsAt T.c_Cells H c l S) (hz : S.words.length = 1002) (hσ : σ[1]? = some (some (.ref c)))
    (q : ∀ H' (A : HA) bf, HeapAt T H' A S false [(61, bf, List.replicate 64 0)] → A.c = c → A.l = l → Same H H' → H A.dt = none → H bf = none → Q (.ref A.h) H') :
    tMake T.c_Heap (sp_Heap_init T) [] E0 (tCons (tVar 1) (tCons (tMake T.c_Journal (sp_Journal_init T) [] E0 (tCons (tVar 1) (tCons (tC (V.int 0)) tNil))) (tCons (tC (V.int 81)) tNil))) σ H Q := by
  walk_at "rd"
  refine ⟨_, hσ, ?_⟩
  refine ⟨_, hσ, fun j dj hj hdj ndj => ?_⟩
  have sj : Same H (upd (upd H dj (.own j)) j (.ins T.c_Journal dj [])) := (same_new hdj).trans (same_new (by rw [upd_ne (Ne.symm ndj)]; exact hj))
  refine ⟨j, dj, c, 0, rfl, upd_same, fun H2 hjr kp2 => ⟨rfl, fun h dh hh hdh ndh => ?_⟩⟩
  have s2 : Same H H2 := kp2.same sj (by simpa using hj)
  have c2 := cells.keep (Kp.of s2 (X := [])) (by simp) (by simp)
  have sh : Same H2 (upd (upd H2 dh (.own h)) h (.ins T.c_Heap dh [])) := (same_new hdh).trans (same_new (by rw [upd_ne (Ne.symm ndh)]; exact hh))
  have c3 := c2.keep (Kp.of sh (X := [])) (by simp) (by simp)
  obtain ⟨jx, hjo⟩ := hjr
  refine ⟨h, c, l, j, dh, S, false, rfl, upd_same, c3, ⟨jx, sh _ _ hjo⟩, hz, fun H3 dt bf hA fd fb kp3 => ⟨rfl, ?_⟩⟩
  have s3 : Same H2 H3 := kp3.same sh (by simpa using hh)
  refine q _ _ bf hA rfl rfl (s2.trans s3) ?_ ?_
  · exact (s2.trans sh).free fd
  · exact (s2.trans sh).free fb
def sp_law (K : PySem.W.Frag) : Sp := fun vs H Q _ => ∃ (a : Addr) (ns : List Int), vs = [.ref a] ∧ SqL K H a (ns.map V.int) ∧ ns.length ≤ 63 ∧ ∀ H', Q (.bl true) H'
theorem ok_law (T : Txt K mg) : FnOk P w K mg base CX0 11 T.f_law T.d_law ["_law_script"] (sp_law K) := by
  refine T.k_law.ok sc_law (fun vs H Q E h => ?_) (fun cdv A outer s H vs Q E hr h => ?_)
  · obtain ⟨a, ns, rfl, _⟩ := h
    rfl
  · obtain ⟨sa, ns, rfl, hS, hns, q⟩ := h
    -- 0:_law_script 1:_law_cells 2:_law_heap 3:_law_model 4:_law_draws_here 5:_law_many 6:_law_size 7:_law_k 8:_law_draw 9:_law_kind 10:_law_rest 11:_law_one 12:_law_data 13:_law_number
    refine ⟨_, (pss_cons (ps_set (i := 1) sc_law.nd rfl (.inl rfl) (pe_make T.mk_Cells (ok_Cells_init T) (hr.mono (by decide)) (by rfl) T.g_Cells T.b_Cells_init .nil pass0 (pa_cons (pe_op op_add (pe_glob (v := .int _) rfl T.g_HEAP_CELLS ⟨_, rfl⟩) pe_int) pa_nil)))
      (pss_cons (ps_set (i := 2) sc_law.nd rfl (.inl rfl) (pe_make T.mk_Heap (ok_Heap_init T) (hr.mono (by decide)) (by rfl) T.g_Heap T.b_Heap_init .nil pass0 (pa_cons (pv 1) (pa_cons (pe_make T.mk_Journal (ok_Journal_init T) (hr.mono (by decide)) (by rfl) T.g_Journal T.b_Journal_init .nil pass0 (pa_cons (pv 1) (pa_cons pe_int pa_nil))) (pa_cons pe_int pa_nil)))))
      (pss_cons (ps_set (i := 3) sc_law.nd rfl (.inl rfl) (pe_disp (pps_cons pe_int (pe_tup (pa_cons (pe_un un_neg pe_int) (pa_cons pe_int (pa_cons (pe_op op_rep (pe_lst (pa_cons pe_int pa_nil)) pe_int) pa_nil)))) pps_nil) (by rfl) (by rfl) (fun z => by cases z) (by decide)))
      (pss_cons (ps_set (i := 4) sc_law.nd rfl (.inl rfl) (pe_call (ok_law_draws T) (hr.mono (by decide)) (by rfl) T.g_law_draws T.k_law_draws.kp T.b_law_draws .nil pass0 (pa_cons (pv 0) (pa_cons pe_int (pa_cons pe_int pa_nil)))))
      (C8.pss_cut (ps_if (PW.pt (pw_and (pt_cmpR op_gt (pe_callB (lenLK K) (by rfl) T.m_len (by decide +kernel) (pa_cons (pv 4) pa_nil)) pe_int (nomark _)) (pw_and1 (pt_cmpR op_eq (pe_op op_modP (pe_ix (ix_listK K) (pv 4) pe_int (fun _ _ => rfl)) pe_int) pe_int (nomark _))))) (pss_cons (ps_asg (pe_ix (ix_listK K) (pe_lst (pa_cons (pe_tup (pa_cons pe_int (pa_cons pe_int pa_nil))) (pa_cons (pe_tup (pa_cons pe_int (pa_cons pe_int pa_nil))) (pa_cons (pe_tup (pa_cons pe_int (pa_cons pe_int pa_nil))) pa_nil)))) (pe_op op_modP (pe_op op_fdivW (pe_ix (ix_listK K) (pv 4) pe_int (fun _ _ => rfl)) pe_int) pe_int) (fun _ _ => rfl)) (pg_tup rfl (pgs_cons (pg_name (i := 5) sc_law.nd rfl (Or.inl rfl)) (pgs_cons (pg_name (i := 6) sc_law.nd rfl (Or.inl rfl)) pgs_nil))))
      (pss_one (ps_for PassesOwn.never rfl (pi_range1 (by rfl) T.m_range (pa_cons (pv 5) pa_nil)) (pg_name (i := 7) sc_law.nd rfl (Or.inl rfl)) (pss_one (ps_if (pt_not (pt_val (pe_call (ok_law_make T) (hr.mono (by decide)) (by rfl) T.g_law_make T.k_law_make.kp T.b_law_make .nil pass0 (pa_cons (pv 2) (pa_cons (pv 3) (pa_cons (pe_ix (ix_listK K) (pe_lst (pa_cons (pe_glob (v := .int _) rfl T.g_BYTES ⟨_, rfl⟩) (pa_cons (pe_glob (v := .int _) rfl T.g_TEMP ⟨_, rfl⟩) pa_nil))) (pe_op op_modP (pv 7) pe_int) (fun _ _ => rfl)) (pa_cons (pe_op op_add pe_int (pe_op op_modP (pv 7) pe_int)) (pa_cons (pv 6) pa_nil)))))))) (pss_one (ps_ret pe_bl)) pss_nil))))) pss_nil)
      (pss_cons (ps_for PassesOwn.never rfl (pi_list (pv 4)) (pg_name (i := 8) sc_law.nd rfl (Or.inl rfl)) (pss_cons (ps_set (i := 9) sc_law.nd rfl (.inl rfl) (pe_op op_modP (pv 8) pe_int))
      (pss_cons (ps_set (i := 10) sc_law.nd rfl (.inr rfl) (pe_op op_fdivW (pv 8) pe_int))
      (C8.pss_cut (ps_if (pt_cmpR op_lt (pv 9) pe_int (nomark _)) (pss_cons (ps_set (i := 6) sc_law.nd rfl (.inl rfl) (pe_ix (ix_listK K) (pe_lst (pa_cons (pe_op op_modP (pe_op op_fdivW (pv 10) pe_int) pe_int) (pa_cons pe_int (pa_cons pe_int (pa_cons (pe_op op_modP (pe_op op_fdivW (pv 10) pe_int) pe_int) (pa_cons pe_int (pa_cons pe_int pa_nil))))))) (pe_op op_modP (pe_op op_fdivW (pv 10) pe_int) pe_int) (fun _ _ => rfl)))
      (pss_cons (ps_set (i := 11) sc_law.nd rfl (.inl rfl) (pe_ix (ix_listK K) (pe_lst (pa_cons (pe_glob (v := .int _) rfl T.g_BYTES ⟨_, rfl⟩) (pa_cons (pe_glob (v := .int _) rfl T.g_TEMP ⟨_, rfl⟩) (pa_cons (pe_op op_modP (pe_op op_fdivW (pv 10) pe_int) pe_int) (pa_cons (pe_op op_modP (pe_op op_fdivW (pv 10) pe_int) pe_int) pa_nil))))) (pe_op op_modP (pv 10) pe_int) (fun _ _ => rfl)))
      (C8.pss_cut (ps_if (pt_cmpR op_ge (pv 11) pe_int (nomark _)) (pss_one (ps_set (i := 6) sc_law.nd rfl (.inl rfl) pe_int)) pss_nil)
      (pss_one (ps_if (pt_not (pt_val (pe_call (ok_law_make T) (hr.mono (by decide)) (by rfl) T.g_law_make T.k_law_make.kp T.b_law_make .nil pass0 (pa_cons (pv 2) (pa_cons (pv 3) (pa_cons (pv 11) (pa_cons (pe_op op_add pe_int (pe_op op_modP (pe_op op_fdivW (pv 10) pe_int) pe_int)) (pa_cons (pv 6) pa_nil)))))))) (pss_one (ps_ret pe_bl)) pss_nil))))) (pss_one (ps_if (pt_cmpR op_lt (pv 9) pe_int (nomark _)) (pss_one (ps_expr (pe_call (ok_law_change T) (hr.mono (by decide)) (by rfl) T.g_law_change T.k_law_change.kp T.b_law_change .nil pass0 (pa_cons (pv 2) (pa_cons (pv 3) (pa_cons (pv 10) pa_nil)))))) (pss_one (ps_if (PW.pt (pw_and (pt_cmpR op_eq (pv 9) pe_int (nomark _)) (pw_and1 (pt_cmpR op_gt (pe_op op_modP (pv 10) pe_int) pe_int (nomark _))))) (pss_cons (ps_set (i := 12) sc_law.nd rfl (.inl rfl) (pe_callTy call_tuple_of (by rfl) T.m_tuple (by decide +kernel) (pa_cons (pe_lc (own := [("_law_k", 7)]) (g := gName 7) (tt := tYes) rfl sc_law.nd (pi_range1 (by rfl) T.m_range (pa_cons (pe_op op_modP (pv 10) pe_int) pa_nil)) (blkOk_by (own := [("_law_k", 7)]) (N := ["_law_script", "_law_cells", "_law_heap", "_law_model", "_law_draws_here", "_law_many", "_law_size", "_law_k", "_law_draw", "_law_kind", "_law_rest", "_law_one", "_law_data", "_law_number"]) (sc := defScope s_law) (by decide +kernel)) (fun _ _ _ _ _ => pg_name (i := 7) sc_law.nd rfl (Or.inl rfl)) (fun _ _ _ _ _ => pts_nil) (fun _ _ _ _ _ => (pe_op op_modP (pe_op op_fdivW (pv 10) (pe_op op_add (pv 7) pe_int)) pe_int))) pa_nil)))
      (pss_cons (ps_if (pt_cmpR op_notN (pe_meth (pv 2) T.cl_Heap T.me_Heap_fill (ok_Heap_fill T) (hr.mono (by decide)) T.b_Heap_fill .nil pass0 (pa_cons (pv 12) pa_nil)) pe_non (nomark _)) (pss_one (ps_ret pe_bl)) pss_nil)
      (pss_one (ps_dput (hu_of hr) (pv 3) pe_int (pe_tup (pa_cons (pe_un un_neg pe_int) (pa_cons pe_int (pa_cons (pe_op op_cat (pe_callTy call_list_of (by rfl) T.m_list (by decide +kernel) (pa_cons (pv 12) pa_nil)) (pe_op op_rep (pe_lst (pa_cons pe_int pa_nil)) (pe_op op_sub pe_int (pe_callB (lenTK K) (by rfl) T.m_len (by decide +kernel) (pa_cons (pv 12) pa_nil))))) pa_nil)))) rfl)))) (pss_one (ps_if (pt_cmpR op_eq (pv 9) pe_int (nomark _)) (pss_cons (ps_set (i := 2) sc_law.nd rfl (.inl rfl) (pe_make T.mk_Heap (ok_Heap_init T) (hr.mono (by decide)) (by rfl) T.g_Heap T.b_Heap_init .nil pass0 (pa_cons (pv 1) (pa_cons (pe_make T.mk_Journal (ok_Journal_init T) (hr.mono (by decide)) (by rfl) T.g_Journal T.b_Journal_init .nil pass0 (pa_cons (pv 1) (pa_cons pe_int pa_nil))) (pa_cons pe_int pa_nil)))))
      (pss_one (ps_for PassesOwn.never rfl (pi_list (pe_callTy (call_list_dK rfl) (by rfl) T.m_list (by decide +kernel) (pa_cons (pv 3) pa_nil))) (pg_name (i := 13) sc_law.nd rfl (Or.inl rfl)) (pss_one (ps_if (pt_cmpR op_eq (pe_ix (ix_tupK K) (pe_dget (hu_of hr) (pv 3) (pv 13) (fun _ _ => rfl)) pe_int (fun _ _ => rfl)) (pe_un un_neg pe_int) (nomark _)) (pss_one (ps_dput (hu_of hr) (pv 3) (pv 13) (pe_tup (pa_cons (pe_un un_neg pe_int) (pa_cons (pe_ix (ix_tupK K) (pe_dget (hu_of hr) (pv 3) (pv 13) (fun _ _ => rfl)) pe_int (fun _ _ => rfl)) (pa_cons (pe_op op_rep (pe_lst (pa_cons pe_int pa_nil)) (pe_callB (lenLK K) (by rfl) T.m_len (by decide +kernel) (pa_cons (pe_ix (ix_tupK K) (pe_dget (hu_of hr) (pv 3) (pv 13) (fun _ _ => rfl)) pe_int (fun _ _ => rfl)) pa_nil))) pa_nil)))) rfl)) pss_nil))))) (pss_one (ps_if (pt_not (pt_val (pe_call (ok_law_collect T) (hr.mono (by decide)) (by rfl) T.g_law_collect T.k_law_collect.kp T.b_law_collect .nil pass0 (pa_cons (pv 2) (pa_cons (pv 3) (pa_cons (pv 10) pa_nil)))))) (pss_one (ps_ret pe_bl)) pss_nil)))))))))
      (pss_one (ps_if (pt_not (pt_val (pe_call (ok_law_same T) (hr.mono (by decide)) (by rfl) T.g_law_same T.k_law_same.kp T.b_law_same .nil pass0 (pa_cons (pv 2) (pa_cons (pv 3) pa_nil))))) (pss_one (ps_ret pe_bl)) pss_nil))))))
      (pss_one (ps_ret (pe_and (pe_cmpR op_eq (pe_glob (v := .int _) rfl T.g_BUFFER ⟨_, rfl⟩) pe_int (nomark _)) (pe_and (pe_cmpR op_eq (pe_glob (v := .int _) rfl T.g_BYTES ⟨_, rfl⟩) (pe_un un_neg pe_int) (nomark _)) (pe_and (pe_cmpR op_eq (pe_glob (v := .int _) rfl T.g_TEMP ⟨_, rfl⟩) (pe_un un_neg pe_int) (nomark _)) (pe_one (pe_cmpR op_eq (pe_glob (v := .int _) rfl T.g_HEAP_CELLS ⟨_, rfl⟩) pe_int (nomark _)))))))))))))), ?_⟩
    refine rdSeq ?_
    walk_at "rd"
    intro c dx hc hdx ndx
    refine ⟨c, dx, 1002, rfl, upd_same, by decide, fun H1 l cells hl kp1 => ⟨rfl, ?_⟩⟩
    have SS : SqL K H1 sa (ns.map V.int) := by
      have s0 : Same H H1 := fun b o e => kp1 _ _ (by simpa using ne_of_none e hc) (by rw [upd_ne (ne_of_none e hc), upd_ne (ne_of_none e hdx)]; exact e)
      exact s0.seq hS
    clear hS kp1 hl hc hdx
    refine rdSeq ?_
    refine mk_heap cells (by show (List.replicate 1002 (0 : Int)).length = 1002; exact List.length_replicate) rfl fun H2 A bf hA ec el s2 f1 f2 => ?_
    have SS := s2.seq SS
    walk_at "rd"
    refine rdSeq ?_
    walk_at "rd"
    intro d hd p1 hp1
    have sd1 : Same H2 (upd H2 d (.dK [])) := same_new hd
    have ad1 : upd H2 d (.dK []) d = some (.dK []) := upd_same
    generalize upd H2 d (.dK []) = H3 at sd1 ad1 hp1
    have sd2 : Same H3 (upd H3 p1 (.lst [V.int 0])) := same_new hp1
    have ap1 : upd H3 p1 (.lst [V.int 0]) p1 = some (.lst [V.int 0]) := upd_same
    generalize upd H3 p1 (.lst [V.int 0]) = H4 at sd2 ap1
    refine i_rep ap1 (by decide) (by decide) (line5 (by show 1 * 64 ≤ _; decide)) fun l2 hl2 => ?_
    rw [rep1]
    have sd3 : Same H4 (upd H4 l2 (.lst (List.replicate (64 : Int).toNat (V.int 0)))) := same_new hl2
    have al2 : upd H4 l2 (.lst (List.replicate (64 : Int).toNat (V.int 0))) l2 = some (.lst ((List.replicate 64 (0 : Int)).map V.int)) := by rw [upd_same, List.map_replicate]; rfl
    have fl2 : H2 l2 = none := (sd1.trans sd2).free hl2
    generalize upd H4 l2 (.lst (List.replicate (64 : Int).toNat (V.int 0))) = H5 at sd3 al2
    intro t ht
    have sd4 : Same H5 (upd H5 t (.tup [V.int (-2), V.int 0, V.ref l2])) := same_new ht
    have at1 : upd H5 t (.tup [V.int (-2), V.int 0, V.ref l2]) t = some (.tup [V.int (-2), V.int 0, V.ref l2]) := upd_same
    have ft : H2 t = none := ((sd1.trans sd2).trans sd3).free ht
    generalize upd H5 t (.tup [V.int (-2), V.int 0, V.ref l2]) = H6 at sd4 at1
    have s36 := (sd2.trans sd3).trans sd4
    have s26 := sd1.trans s36
    refine ⟨s36 _ _ ad1, [(.inl 61, .ref t)], rfl, by show 1 ≤ 15; decide, ?_⟩
    have k7 : Kp [d] H6 (upd H6 d (.dK (mergeK [] [(.inl 61, .ref t)]))) := Kp.set (by simp)
    have s27 : Same H2 (upd H6 d (.dK (mergeK [] [(.inl 61, .ref t)]))) := k7.same s26 (by simpa using hd)
    have ntd : t ≠ d := ne_of at1 (s36 _ _ ad1) (by intro z; cases z)
    have nld : l2 ≠ d := ne_of (sd4 _ _ al2) (s36 _ _ ad1) (by intro z; cases z)
    have frsh : ∀ x, H2 x = none → x ∉ own A [(61, bf, List.replicate 64 0)] := fun x hx => hA.fresh_own hx
    have w7 : WS T (upd H6 d (.dK (mergeK [] [(.inl 61, .ref t)]))) A (List.replicate 1002 0) [(61, bf, List.replicate 64 0)] 0 (fun _ => 0) (modM [(61, t, l2, ⟨-2, 0, List.replicate 64 0⟩)]) d [(61, t, l2, ⟨-2, 0, List.replicate 64 0⟩)] := by
      refine ⟨⟨hA.same s27, Rep.init, rfl⟩, ⟨upd_same, fun e he => ?_, fun e he => ?_, by simp⟩, frsh _ hd, fun e he => ?_, fun e he => ?_⟩
      · rw [List.mem_singleton.mp he]
        exact k7 _ _ (by simpa using ntd) at1
      · rw [List.mem_singleton.mp he]
        exact k7 _ _ (by simpa using nld) (sd4 _ _ al2)
      · rw [List.mem_singleton.mp he]; exact frsh _ ft
      · rw [List.mem_singleton.mp he]; exact frsh _ fl2
    have R7 : RefsOk (modM [(61, t, l2, ⟨-2, 0, List.replicate 64 0⟩)]) := ⟨fun n o h h0 => by
      have := List.mem_singleton.mp h
      rw [(Prod.mk.inj this).2] at h0
      exact absurd h0 (by show ¬ (0 : Int) ≤ -2; decide), fun n o h x hx => by
      have := List.mem_singleton.mp h
      rw [(Prod.mk.inj this).2] at hx
      exact nomatch hx⟩
    have SS := s27.seq SS
    generalize upd H6 d (.dK (mergeK [] [(.inl 61, .ref t)])) = H7 at w7 SS
    refine rdSeq ?_
    walk_at "rd"
    refine ⟨sa, ns, 40, rfl, SS, hns, fun dp H8 ds nd8 hds => ?_⟩
    have w8 := w7.same nd8.same
    have li : LI T c l d dp ds A H8 := by
      refine .mk _ _ _ _ _ w8 R7 ec el nd8.at_ ?_
      unfold ownW
      have f1 := w7.sd
      obtain ⟨a1, a2, a3, a4, a5, a6⟩ := w7.h.at_.fresh nd8.free
      have a7 := ne_of_none w7.m.dd nd8.free
      have a8 := ne_of_none (w7.m.ll _ List.mem_cons_self) nd8.free
      unfold own
      simp only [List.mem_cons, List.mem_append, List.mem_map, List.map_cons, List.map_nil, List.not_mem_nil, or_false, not_or]
      exact ⟨Ne.symm a7, Ne.symm a8, a2, a3, a5, a6 _ List.mem_cons_self⟩
    clear w7 w8 R7 SS frsh
    refine rdCut (MidJ T c l d dp ds sa) ?_ ?_
    · have hd8 : H8 dp = some (.lst (ds.map V.int)) := by cases li with | mk _ _ _ _ _ _ _ _ _ h _ => exact h
      walk_at "rd"
      refine i_lenL (sqL_of hd8) ?_
      rw [List.length_map]
      walk_at "rd"
      refine ite2 (fun hpos => ?_) (fun _ => .mk A _ _ _ H8 li)
      obtain ⟨v, ev, hv⟩ := at_of (xs := ds.map V.int) (i := 0) (by decide) (by rw [List.length_map]; exact hpos)
      obtain ⟨y, _, rfl⟩ := List.mem_map.mp hv
      refine i_ixL (sqL_of hd8) ev ?_
      walk_at "rd"
      refine ite2 (fun _ => ?_) (fun _ => .mk A _ _ _ H8 li)
      refine rdSeq ?_
      walk_at "rd"
      intro t1 h1 t2 h2 t3 h3 p4 h4
      have s1 := (((same_new (o := .tup [V.int 62, V.int 0]) h1).trans (same_new (o := .tup [V.int 8, V.int 64]) h2)).trans (same_new (o := .tup [V.int 62, V.int 4]) h3)).trans (same_new (o := .lst [V.ref t1, V.ref t2, V.ref t3]) h4)
      have a1 := same_new (o := .lst [V.ref t1, V.ref t2, V.ref t3]) h4 _ _ (same_new (o := .tup [V.int 62, V.int 4]) h3 _ _ (same_new (o := .tup [V.int 8, V.int 64]) h2 _ _ (upd_same (H := H8) (a := t1) (o := .tup [V.int 62, V.int 0]))))
      have a2 := same_new (o := .lst [V.ref t1, V.ref t2, V.ref t3]) h4 _ _ (same_new (o := .tup [V.int 62, V.int 4]) h3 _ _ (upd_same (H := upd H8 t1 (.tup [V.int 62, V.int 0])) (a := t2) (o := .tup [V.int 8, V.int 64])))
      have a3 := same_new (o := .lst [V.ref t1, V.ref t2, V.ref t3]) h4 _ _ (upd_same (H := upd (upd H8 t1 (.tup [V.int 62, V.int 0])) t2 (.tup [V.int 8, V.int 64])) (a := t3) (o := .tup [V.int 62, V.int 4]))
      have a4 := upd_same (H := upd (upd (upd H8 t1 (.tup [V.int 62, V.int 0])) t2 (.tup [V.int 8, V.int 64])) t3 (.tup [V.int 62, V.int 4])) (a := p4) (o := .lst [V.ref t1, V.ref t2, V.ref t3])
      generalize upd (upd (upd (upd H8 t1 (.tup [V.int 62, V.int 0])) t2 (.tup [V.int 8, V.int 64])) t3 (.tup [V.int 62, V.int 4])) p4 (.lst [V.ref t1, V.ref t2, V.ref t3]) = H10 at s1 a1 a2 a3 a4
      refine i_ixL (sqL_of (s1 _ _ hd8)) ev ?_
      walk_at "rd"
      refine ⟨⟨by decide, by decide⟩, ?_⟩
      have r0 := Int.emod_nonneg (y / 5) (show (3 : Int) ≠ 0 by decide)
      have r1 := Int.emod_lt_of_pos (y / 5) (show (0 : Int) < 3 by decide)
      obtain ⟨v, ev3, hv⟩ := at_of (xs := [V.ref t1, V.ref t2, V.ref t3]) r0 r1
      obtain ⟨tt, many, size, rfl, htt, hm, hz⟩ : ∃ (tt : Addr) (many size : Nat), v = .ref tt ∧ H10 tt = some (.tup [.int (many : Nat), .int (size : Nat)]) ∧ many ≤ 62 ∧ size ≤ 64 := by
        simp only [List.mem_cons, List.not_mem_nil, or_false] at hv
        rcases hv with rfl | rfl | rfl
        · exact ⟨t1, 62, 0, rfl, a1, by decide, by decide⟩
        · exact ⟨t2, 8, 64, rfl, a2, by decide, by decide⟩
        · exact ⟨t3, 62, 4, rfl, a3, by decide, by decide⟩
      refine i_ixL (sqL_of a4) ev3 (i_gTup2 rfl (sqT_of htt) ?_)
      have li1 : LI T c l d dp ds A H10 := by
        obtain ⟨W, tm, f, pos, es, w, R, hc, hl, hd, nd⟩ := li
        exact LI.of (w.same s1) R hc hl hd nd (Mvs.same s1)
      walk_at "rd"
      refine ⟨by omega, by omega, ?_⟩
      refine i_for walk_range (fun i σ H' => LI T c l d dp ds A H' ∧ ∃ y7, σ = [some (.ref sa), some (.ref c), some (.ref A.h), some (.ref d), some (.ref dp), some (.int (many : Nat)), some (.int (size : Nat)), y7, none, none, none, none, none, none]) ⟨li1, _, rfl⟩ (fun _ _ _ _ _ => trivial) ?_ ?_
      · rintro i _ σ _ H11 hi ⟨li2, y7, rfl⟩ ⟨rfl, rfl⟩
        walk_at "rd"
        intro p5 h5
        obtain ⟨v, ev5, hv⟩ := at_of (xs := [V.int (-1), V.int (-2)]) (i := (0 + (i : Int)) % 2) (Int.emod_nonneg _ (by decide)) (Int.emod_lt_of_pos _ (by decide))
        obtain ⟨kd, rfl, hk⟩ : ∃ k, v = .int k ∧ k < 0 := by
          simp only [List.mem_cons, List.not_mem_nil, or_false] at hv
          rcases hv with rfl | rfl
          · exact ⟨_, rfl, by decide⟩
          · exact ⟨_, rfl, by decide⟩
        refine i_ixL (sqL_of upd_same) ev5 ?_
        obtain ⟨W, tm, f, pos, es, w, R, hc, hl, hd, nd⟩ := li2
        have s5 : Same H11 (upd H11 p5 (.lst [V.int (-1), V.int (-2)])) := same_new h5
        refine ⟨A, W, tm, f, pos, d, es, kd, _, size, rfl, w.same s5, R, fun z => absurd z (by omega), hz, fun H12 W' tm' pos' es' w' R' mv => ⟨_, rfl, ?_⟩⟩
        have mv2 := (Mvs.same (X := ownW A tm d es) s5).trans mv
        exact LI.of w' R' hc hl hd nd mv2
      · rintro σ H11 ⟨li2, y7, rfl⟩
        exact .mk A _ _ _ H11 li2
    · rintro σ H9 ⟨A, y5, y6, y7, _, li⟩
      have hd9 : H9 dp = some (.lst (ds.map V.int)) := by cases li with | mk _ _ _ _ _ _ _ _ _ h _ => exact h
      refine rdSeq ?_
      walk_at "rd"
      refine ⟨⟨_, sqL_of hd9⟩, i_for (walk_listL (l := ds) (r := V.int)) (fun i σ H' => ∃ A, LI T c l d dp ds A H' ∧ ∃ y5 y6 y7 y8 y9 y10 y11 y12 y13, σ = [some (.ref sa), some (.ref c), some (.ref A.h), some (.ref d), some (.ref dp), y5, y6, y7, y8, y9, y10, y11, y12, y13]) ⟨A, li, _, _, _, _, _, _, _, _, _, rfl⟩ (fun i σ H' _ k => by obtain ⟨_, ⟨_, _, _, _, _, _, _, _, _, h, _⟩, _⟩ := k; exact sqL_of h) ?_ ?_⟩
      · rintro i x σ H10 H11 hi ⟨A, li, y5, y6, y7, y8, y9, y10, y11, y12, y13, rfl⟩ ⟨rfl, v, hv, rfl⟩
        refine rdSeq ?_
        walk_at "rd"
        refine rdSeq ?_
        walk_at "rd"
        refine ⟨⟨by decide, by decide⟩, ?_⟩
        generalize v % 9 = kd
        generalize v / 9 = r
        refine rdCut (MidK T c l d dp ds sa) ?_ ?_
        · walk_at "rd"
          refine ite2 (fun _ => ?_) (fun _ => ite2 (fun _ => ?_) (fun _ => ?_))
          · refine rdSeq ?_
            walk_at "rd"
            refine ⟨⟨by decide, by decide⟩, ⟨by decide, by decide⟩, fun p5 h5 => ?_⟩
            refine ⟨⟨by decide, by decide⟩, ?_⟩
            have v12 : 0 ≤ r / 12 % 5 ∧ r / 12 % 5 < 5 := ⟨Int.emod_nonneg _ (by decide), Int.emod_lt_of_pos _ (by decide)⟩
            have v13 : 0 ≤ r / 12 % 65 ∧ r / 12 % 65 < 65 := ⟨Int.emod_nonneg _ (by decide), Int.emod_lt_of_pos _ (by decide)⟩
            obtain ⟨v, ev5, hv⟩ := at_of (xs := [V.int (r / 12 % 5), V.int 3, V.int 64, V.int (r / 12 % 65), V.int 2, V.int 3]) (i := r / 4 % 6) (Int.emod_nonneg _ (by decide)) (Int.emod_lt_of_pos _ (by decide))
            obtain ⟨size, rfl, hz⟩ : ∃ size : Nat, v = .int (size : Nat) ∧ size ≤ 64 := by
              simp only [List.mem_cons, List.not_mem_nil, or_false] at hv
              rcases hv with rfl | rfl | rfl | rfl | rfl | rfl
              · exact ⟨(r / 12 % 5).toNat, by rw [Int.toNat_of_nonneg v12.1], by omega⟩
              · exact ⟨3, rfl, by decide⟩
              · exact ⟨64, rfl, by decide⟩
              · exact ⟨(r / 12 % 65).toNat, by rw [Int.toNat_of_nonneg v13.1], by omega⟩
              · exact ⟨2, rfl, by decide⟩
              · exact ⟨3, rfl, by decide⟩
            refine i_ixL (sqL_of upd_same) ev5 ?_
            have s5 := same_new (o := .lst [V.int (r / 12 % 5), V.int 3, V.int 64, V.int (r / 12 % 65), V.int 2, V.int 3]) h5
            generalize upd H11 p5 (.lst [V.int (r / 12 % 5), V.int 3, V.int 64, V.int (r / 12 % 65), V.int 2, V.int 3]) = H12 at s5
            refine rdSeq ?_
            walk_at "rd"
            refine ⟨⟨by decide, by decide⟩, ⟨by decide, by decide⟩, fun p6 h6 => ?_⟩
            obtain ⟨v, ev6, hv⟩ := at_of (xs := [V.int (-1), V.int (-2), V.int (r / 7 % 9), V.int (r / 7 % 9)]) (i := r % 4) (Int.emod_nonneg _ (by decide)) (Int.emod_lt_of_pos _ (by decide))
            obtain ⟨one, rfl⟩ : ∃ one : Int, v = .int one := by
              simp only [List.mem_cons, List.not_mem_nil, or_false] at hv
              rcases hv with rfl | rfl | rfl | rfl <;> exact ⟨_, rfl⟩
            refine i_ixL (sqL_of upd_same) ev6 ?_
            have s6 := same_new (o := .lst [V.int (-1), V.int (-2), V.int (r / 7 % 9), V.int (r / 7 % 9)]) h6
            generalize upd H12 p6 (.lst [V.int (-1), V.int (-2), V.int (r / 7 % 9), V.int (r / 7 % 9)]) = H13 at s6
            clear ev5 ev6 hv
            have li2 := li.same (s5.trans s6)
            clear li
            refine rdCut (MidS T c l d dp ds sa A one) ?_ ?_
            · walk_at "rd"
              refine ite2 (fun h0 => ?_) (fun h0 => ?_)
              · exact MidS.mk H13 li2 3 (fun _ => rfl) (by decide) _ _ _ _ _ _ _
              · exact MidS.mk H13 li2 size (fun z => absurd z h0) hz _ _ _ _ _ _ _
            · rintro σ H14 ⟨_, li3, sz, hs, hz2, y5, y7, y8, y9, y12, y13, x10⟩
              obtain ⟨W, tm, f, pos, es, w, R, hc, hl, hd, nd⟩ := li3
              walk_at "rd"
              refine ⟨⟨by decide, by decide⟩, ?_⟩
              refine ⟨A, W, tm, f, pos, d, es, one, _, sz, rfl, w, R, hs, hz2, fun H15 W' tm' pos' es' w' R' mv => ⟨_, rfl, ?_⟩⟩
              exact .mk A _ _ _ _ _ _ _ _ _ H15 (LI.of w' R' hc hl hd nd mv)
          · obtain ⟨W, tm, f, pos, es, w, R, hc, hl, hd, nd⟩ := li
            refine ⟨A, W, tm, f, pos, d, es, r, rfl, w, R, fun H12 W' tm' es' w' R' mv => ?_⟩
            exact .mk A _ _ _ _ _ _ _ _ _ H12 (LI.of w' R' hc hl hd nd mv)
          · by_cases h7 : kd = 7
            · subst h7
              walk_at "rd"
              refine ite2 (fun hr0 => ?_) (fun hr0 => ?_)
              · refine rdSeq ?_
                walk_at "rd"
                obtain ⟨n, en⟩ := Int.eq_ofNat_of_zero_le (Int.emod_nonneg r (show (65 : Int) ≠ 0 by decide))
                have hn : n < 65 := by have := Int.emod_lt_of_pos r (show (0 : Int) < 65 by decide); omega
                rw [en]
                refine ⟨by omega, by omega, ?_⟩
                refine i_lcL (walk_rangeL (lo := 0) (n := n)) (fun k => .int (r / ((k : Int) + 1) % 256)) (by rw [List.length_range]; exact line5' (by omega)) (fun _ _ _ => trivial) (fun k hk H1 Q' sm q' => ?_) (fun D hD => ?_)
                · have hk := List.mem_range.mp hk
                  walk_at "rd"
                  rw [show (0 : Int) + (k : Int) + 1 = (k : Int) + 1 by omega]
                  refine ⟨⟨by omega, log_small (Nat.lt_of_lt_of_le (show ((k : Int) + 1).natAbs < 128 by omega) (by decide))⟩, ?_⟩
                  exact q'
                obtain ⟨bs, ebs, lbs⟩ : ∃ bs : List Int, (List.range n).map (fun k : Nat => V.int (r / ((k : Int) + 1) % 256)) = bs.map V.int ∧ bs.length = n := ⟨(List.range n).map fun k : Nat => r / ((k : Int) + 1) % 256, by rw [List.map_map]; rfl, by rw [List.length_map, List.length_range]⟩
                rw [ebs]
                refine ⟨D, rfl, _, .inl ⟨sqL_of upd_same, fun tp htp => ?_⟩⟩
                have s1 : Same H11 (upd (upd H11 D (.lst (bs.map V.int))) tp (.tup (bs.map V.int))) := (same_new hD).trans (same_new htp)
                have atp : upd (upd H11 D (.lst (bs.map V.int))) tp (.tup (bs.map V.int)) tp = some (.tup (bs.map V.int)) := upd_same
                generalize upd (upd H11 D (.lst (bs.map V.int))) tp (.tup (bs.map V.int)) = H12 at s1 atp
                obtain ⟨W, tm, f, pos, es, w, R, hc, hl, hd, nd⟩ := li
                have keys := w.keys
                have w2 := w.same s1
                obtain ⟨_, ho2⟩ := w2.h.at_.ob
                refine rdSeq ?_
                walk_at "rd"
                refine i_meth ho2 rfl ⟨A, _, false, tm, f, pos, modM es, tp, bs, rfl, w2.h, atp, by omega, fun H13 tm' h' mv' => ?_⟩
                have w3 := w2.heap h' mv'
                have mv3 : Mvs H11 (ownW A tm d es) H13 (ownW A tm' d es) := (Mvs.same s1).trans (mvW mv')
                have atp3 : H13 tp = some (.tup (bs.map V.int)) := by
                  refine (mv'.at_ atp fun hx => ?_).1
                  unfold own at hx
                  obtain ⟨_, hc2⟩ := w2.h.at_.cs.ob
                  simp only [List.mem_cons, List.mem_map] at hx
                  rcases hx with rfl | rfl | rfl | ⟨e, he, rfl⟩
                  · rw [hc2] at atp; cases atp
                  · rw [w2.h.at_.cs.ws] at atp; cases atp
                  · rw [w2.h.at_.td] at atp; cases atp
                  · rw [w2.h.at_.tk.tl e he] at atp; cases atp
                walk_at "rd"
                refine ⟨_, .inr (sqT_of atp3), fun p1 hp1 p2 hp2 => ?_⟩
                have sA : Same H13 (upd (upd H13 p1 (.lst (bs.map V.int))) p2 (.lst [V.int 0])) := (same_new hp1).trans (same_new hp2)
                have aA1 : upd (upd H13 p1 (.lst (bs.map V.int))) p2 (.lst [V.int 0]) p1 = some (.lst (bs.map V.int)) := same_new hp2 _ _ upd_same
                have aA2 : upd (upd H13 p1 (.lst (bs.map V.int))) p2 (.lst [V.int 0]) p2 = some (.lst [V.int 0]) := upd_same
                generalize upd (upd H13 p1 (.lst (bs.map V.int))) p2 (.lst [V.int 0]) = H14 at sA aA1 aA2
                refine i_lenT (sqT_of (sA _ _ atp3)) ?_
                rw [List.length_map]
                walk_at "rd"
                refine i_rep aA2 (by omega) (by omega) (line5 (by show 1 * _ ≤ _; omega)) fun p3 hp3 => ?_
                rw [rep1]
                have sB : Same H14 (upd H14 p3 (.lst (List.replicate (64 - (bs.length : Int)).toNat (V.int 0)))) := same_new hp3
                have aB : upd H14 p3 (.lst (List.replicate (64 - (bs.length : Int)).toNat (V.int 0))) p3 = some (.lst (List.replicate (64 - (bs.length : Int)).toNat (V.int 0))) := upd_same
                generalize upd H14 p3 (.lst (List.replicate (64 - (bs.length : Int)).toNat (V.int 0))) = H15 at sB aB
                refine i_cat (sB _ _ aA1) aB (by rw [List.length_map, List.length_replicate]; exact line5 (by omega)) fun p4 hp4 t5 ht5 => ?_
                have eB : bs.map V.int ++ List.replicate (64 - (bs.length : Int)).toNat (V.int 0) = (bufV bs).map V.int := by
                  unfold bufV
                  rw [List.map_append, List.map_replicate, show (64 - (bs.length : Int)).toNat = 64 - bs.length by omega]
                rw [eB] at ht5 ⊢
                have sAB := sA.trans sB
                obtain ⟨w6, mv6⟩ := w3.put (H1 := upd H15 p4 (.lst ((bufV bs).map V.int))) (n := 61) (o := ⟨-2, 0, bufV bs⟩) (t := t5) (l := p4) keys.nk (sAB.free hp4) (sAB.trans (same_new hp4)) upd_same ht5 rfl rfl
                have hput : (tmK (toTm es)).length < sizeLine := line5' (by unfold tmK toTm; rw [List.length_map, List.length_map]; have := es_len keys.nk keys.rng; omega)
                refine i_dputI ((sAB.trans ((same_new hp4).trans (same_new ht5))) _ _ w3.m.dd) hput ?_
                have e9 : putK (tmK (toTm es)) (.inl 61) (V.ref t5) = tmK (toTm (putE 61 t5 p4 ⟨-2, 0, bufV bs⟩ es)) := by
                  rw [putE_toTm]
                  exact tmK_rep (n := 61) (by rw [toTm_keys]; exact keys.buf)
                rw [e9]
                have eM : mapM (gBuf (bufV bs)) (modM es) = modM (putE 61 t5 p4 ⟨-2, 0, bufV bs⟩ es) := by rw [putE_modM]; rfl
                rw [eM] at w6
                have R6 : RefsOk (modM (putE 61 t5 p4 ⟨-2, 0, bufV bs⟩ es)) := by
                  rw [← eM]
                  refine refs_map R fun m o _ => ?_
                  unfold gBuf
                  split
                  · exact .inr (by show (-2 : Int) < 0; decide)
                  · exact .inl rfl
                exact .mk A _ _ _ _ _ _ _ _ _ _ (LI.of w6 R6 hc hl hd nd (mv3.trans mv6))
              · obtain ⟨W, tm, f, pos, es, w, R, hc, hl, hd, nd⟩ := li
                have keys := w.keys
                refine rdSeq ?_
                refine mk_heap (S := ⟨W, none, true⟩) (c := c) (l := l) (by rw [← hc, ← hl]; exact w.h.at_.cs) w.h.at_.sz rfl fun H12 A' bf hA' ec el s2 f1 f2 => ?_
                have present : ∀ x, x ∉ own A tm → (∃ o, H11 x = some o) → x ∉ own A' [(61, bf, List.replicate 64 0)] := fun x hx ⟨o, ho⟩ => by
                  obtain ⟨n1, n2, n3, n4⟩ := not_own hx
                  unfold own
                  simp only [List.mem_cons, List.map_cons, List.map_nil, List.not_mem_nil, or_false, not_or]
                  exact ⟨by rw [ec, ← hc]; exact n1, by rw [el, ← hl]; exact n2, ne_of_none ho f1, ne_of_none ho f2⟩
                have w2 : WS T H12 A' W [(61, bf, List.replicate 64 0)] f pos (mapM gRes (modM es)) d es := ⟨⟨hA', w.h.rep.reset, rfl⟩, w.m.same s2, present d w.sd ⟨_, w.m.dd⟩, fun e he => present _ (w.st e he) ⟨_, w.m.tt e he⟩, fun e he => present _ (w.sl e he) ⟨_, w.m.ll e he⟩⟩
                have mv2 : Mvs H11 (ownW A tm d es) H12 (ownW A' [(61, bf, List.replicate 64 0)] d es) := ⟨Kp.of s2, fun x hx => by
                  unfold ownW own at hx ⊢
                  simp only [List.mem_cons, List.mem_append, List.map_cons, List.map_nil, List.not_mem_nil, or_false] at hx ⊢
                  rcases hx with rfl | hx | rfl | rfl | rfl | rfl
                  · exact .inl (.inl rfl)
                  · exact .inl (.inr (.inl hx))
                  · exact .inl (.inr (.inr (.inl (ec.trans hc.symm))))
                  · exact .inl (.inr (.inr (.inr (.inl (el.trans hl.symm)))))
                  · exact .inr f1
                  · exact .inr f2⟩
                walk_at "rd"
                refine ⟨d, _, rfl, w2.m.dd, fun kp hkp => ⟨_, rfl, ?_⟩⟩
                have s3 : Same H12 (upd H12 kp (.lst ((tmK (toTm es)).map fun kv => kV kv.1))) := same_new hkp
                have akp : upd H12 kp (.lst ((tmK (toTm es)).map fun kv => kV kv.1)) kp = some (.lst (nV (es.map (·.1)))) := by
                  rw [upd_same]
                  unfold tmK toTm
                  rw [List.map_map, List.map_map]
                  show _ = some (HO.lst (List.map _ (List.map _ _)))
                  rw [List.map_map]; rfl
                have okp : kp ∉ ownW A' [(61, bf, List.replicate 64 0)] d es := by
                  have h1 := w2.h.at_.fresh_own hkp
                  unfold ownW
                  simp only [List.mem_cons, List.mem_append, List.mem_map, not_or, not_exists, not_and]
                  exact ⟨(ne_of_none w2.m.dd hkp).symm, fun e he z => ne_of_none (w2.m.ll e he) hkp z, h1⟩
                generalize upd H12 kp (.lst ((tmK (toTm es)).map fun kv => kV kv.1)) = H13 at s3 akp
                have w3 := w2.same s3
                have mv3 := mv2.trans (Mvs.same (X := ownW A' [(61, bf, List.replicate 64 0)] d es) s3)
                have hklen : (es.map (·.1)).length = es.length := List.length_map _
                refine ⟨⟨_, sqL_of akp⟩, i_for (walk_listL (l := es.map (·.1)) (r := fun n : Nat => V.int (n : Nat))) (fun i σ H' => (∃ es', WS T H' A' W [(61, bf, List.replicate 64 0)] f pos (mapM gRes (modM es)) d es' ∧ modM es' = mapM gRes ((modM es).take i) ++ (modM es).drop i ∧ Mvs H13 (ownW A' [(61, bf, List.replicate 64 0)] d es) H' (ownW A' [(61, bf, List.replicate 64 0)] d es')) ∧ ∃ y13, σ = [some (.ref sa), some (.ref c), some (.ref A'.h), some (.ref d), some (.ref dp), y5, y6, y7, some (.int v), some (.int 7), some (.int r), y11, y12, y13]) ⟨⟨es, w3, by simp [mapM], Mvs.refl⟩, _, rfl⟩ (fun i σ H' _ k => by obtain ⟨⟨es', _, _, mv⟩, _⟩ := k; exact sqL_of (mv.at_ akp okp).1) ?_ ?_⟩
                · rintro i x σ H14 H15 hi ⟨⟨es', w4, em, mv4⟩, y13, rfl⟩ ⟨rfl, n, hn, rfl⟩
                  have hi : i < es.length := by rw [hklen] at hi; exact hi
                  obtain ⟨o, hMi⟩ : ∃ o, (modM es)[i]? = some (n, o) := by
                    unfold modM
                    rw [List.getElem?_map, List.getElem?_eq_getElem hi] at hn ⊢
                    exact ⟨es[i].2.2.2, by rw [← Option.some.inj hn]; rfl⟩
                  have hMl : i < (modM es).length := by unfold modM; rw [List.length_map]; exact hi
                  have hdr : (modM es).drop i = (n, o) :: (modM es).drop (i + 1) := by
                    rw [List.drop_eq_getElem_cons hMl]
                    rw [List.getElem?_eq_getElem hMl] at hMi
                    rw [Option.some.inj hMi]
                  have hmo : (n, o) ∈ modM es' := by rw [em, hdr]; simp
                  have keys4 : Keys es' := ⟨by
                    rw [← modM_keys, em, List.map_append, mapM_keys, ← List.map_append, List.take_append_drop, modM_keys]; exact keys.nk, fun m u h => by
                    have h2 : m ∈ (modM es').map (·.1) := List.mem_map_of_mem (f := (·.1)) h
                    rw [em, List.map_append, mapM_keys, ← List.map_append, List.take_append_drop] at h2
                    obtain ⟨x, hx, rfl⟩ := List.mem_map.mp h2
                    exact keys.rng x.1 x.2 hx, by
                    rw [← modM_keys, em, List.map_append, mapM_keys, ← List.map_append, List.take_append_drop, modM_keys]; exact keys.buf⟩
                  obtain ⟨tt, tl, he⟩ := mem_modM.mp hmo
                  have hlen : o.vals.length ≤ 400 := by
                    have hmo0 : (n, o) ∈ modM es := List.mem_of_getElem? hMi
                    by_cases h61 : n = 61
                    · rw [h61] at hmo0
                      have := (w.h.rep.buf_o hmo0).2.2
                      omega
                    · have := w.h.rep.p_le hmo0 (by have := (keys.rng _ _ hmo0).2; omega)
                      omega
                  have fold1 : ∀ o', mapM (fun m u => if m = n then o' else u) (modM es') = mapM gRes ((modM es).take i) ++ ((n, o') :: (modM es).drop (i + 1)) := fun o' => by
                    have nk4 := keys4.nk
                    rw [← modM_keys, em, hdr, List.map_append, List.map_cons] at nk4
                    have nd := List.nodup_append.mp nk4
                    have nd2 := List.nodup_cons.mp nd.2.1
                    rw [em, hdr]
                    exact mapM_one (fun h => nd.2.2 _ h _ List.mem_cons_self rfl) nd2.1
                  have etk : mapM gRes ((modM es).take (i + 1)) ++ (modM es).drop (i + 1) = mapM gRes ((modM es).take i) ++ ((n, gRes n o) :: (modM es).drop (i + 1)) := by
                    rw [List.take_add_one, hMi]
                    unfold mapM
                    rw [List.map_append, List.append_assoc]; rfl
                  walk_at "rd"
                  refine i_dgetI (.inl w4.m.dd) (dict_get keys4.nk he) (i_ixT (sqT_of (w4.m.tt _ he)) rfl ?_)
                  walk_at "rd"
                  refine ite2 (fun hk => ?_) (fun hk => ?_)
                  · refine i_dgetI (.inl w4.m.dd) (dict_get keys4.nk he) (i_ixT (sqT_of (w4.m.tt _ he)) rfl fun p1 hp1 => ?_)
                    have sa1 : Same H15 (upd H15 p1 (.lst [V.int 0])) := same_new hp1
                    have ap1 : upd H15 p1 (.lst [V.int 0]) p1 = some (.lst [V.int 0]) := upd_same
                    generalize upd H15 p1 (.lst [V.int 0]) = H16 at sa1 ap1
                    have w5 := w4.same sa1
                    have hll5 : H16 tl = some (.lst (o.vals.map V.int)) := w5.m.ll _ he
                    refine i_dgetI (.inl w5.m.dd) (dict_get keys4.nk he) (i_ixT (sqT_of (w5.m.tt _ he)) rfl (i_lenL (sqL_of hll5) ?_))
                    rw [List.length_map]
                    walk_at "rd"
                    refine i_rep ap1 (by omega) (by omega) (line5 (by show 1 * _ ≤ _; omega)) fun p3 hp3 t5 ht5 => ?_
                    rw [rep1] at ht5 ⊢
                    have eB : List.replicate ((o.vals.length : Int)).toNat (V.int 0) = (List.replicate o.vals.length (0 : Int)).map V.int := by rw [List.map_replicate]; rfl
                    rw [eB] at ht5 ⊢
                    obtain ⟨w6, mv6⟩ := w4.put (H1 := upd H16 p3 (.lst ((List.replicate o.vals.length (0 : Int)).map V.int))) (n := n) (o := ⟨-2, o.owner, List.replicate o.vals.length 0⟩) (t := t5) (l := p3) keys4.nk (sa1.free hp3) (sa1.trans (same_new hp3)) upd_same ht5 rfl rfl
                    have hput : (tmK (toTm es')).length < sizeLine := line5' (by unfold tmK toTm; rw [List.length_map, List.length_map]; have := es_len keys4.nk keys4.rng; omega)
                    refine i_dputI ((sa1.trans ((same_new hp3).trans (same_new ht5))) _ _ w4.m.dd) hput ?_
                    have e9 : putK (tmK (toTm es')) (.inl (n : Int)) (V.ref t5) = tmK (toTm (putE n t5 p3 ⟨-2, o.owner, List.replicate o.vals.length 0⟩ es')) := by
                      rw [putE_toTm]
                      exact tmK_rep (n := n) (by rw [toTm_keys, ← modM_keys]; exact List.mem_map_of_mem (f := (·.1)) hmo)
                    rw [e9]
                    refine ⟨_, w6, ?_, mv4.trans mv6⟩
                    rw [putE_modM, fold1, etk]
                    have : gRes n o = ⟨-2, o.owner, List.replicate o.vals.length 0⟩ := by unfold gRes; rw [if_pos hk]
                    rw [this]
                  · refine ⟨es', w4, ?_, mv4⟩
                    rw [etk, em, hdr]
                    have : gRes n o = o := by unfold gRes; rw [if_neg hk]
                    rw [this]
                · rintro σ H14 ⟨⟨es', w4, em, mv4⟩, y13, rfl⟩
                  have e1 : (modM es).take (es.map (·.1)).length = modM es := List.take_of_length_le (by unfold modM; rw [List.length_map, List.length_map]; omega)
                  have e2 : (modM es).drop (es.map (·.1)).length = [] := List.drop_of_length_le (by unfold modM; rw [List.length_map, List.length_map]; omega)
                  rw [e1, e2, List.append_nil] at em
                  rw [← em] at w4
                  have R4 : RefsOk (modM es') := by
                    rw [em]
                    refine refs_map R fun m o _ => ?_
                    unfold gRes
                    split
                    · exact .inr (by show (-2 : Int) < 0; decide)
                    · exact .inl rfl
                  obtain ⟨h1, h2⟩ := (mv3.trans mv4).at_ hd nd
                  exact .mk A' _ _ _ _ _ _ _ _ _ _ (LI.mk W _ f pos es' w4 R4 ec el h1 h2)
            · rw [if_neg h7, if_neg h7]
              obtain ⟨W, tm, f, pos, es, w, R, hc, hl, hd, nd⟩ := li
              refine ⟨A, W, tm, f, pos, d, es, r, rfl, w, R, fun H12 W' f' pos' es' w' R' mv => ⟨_, rfl, ?_⟩⟩
              exact .mk A _ _ _ _ _ _ _ _ _ H12 (LI.of w' R' hc hl hd nd mv)
        · rintro σ H12 ⟨A, y5, y6, y7, y8, y9, y10, y11, y12, y13, _, li⟩
          obtain ⟨W, tm, f, pos, es, w, R, hc, hl, hd, nd⟩ := li
          walk_at "rd"
          refine ⟨A, W, tm, f, pos, d, es, rfl, w, fun H13 tm' w' mv => ⟨_, rfl, ?_⟩⟩
          exact ⟨A, LI.of w' R hc hl hd nd mv, rfl⟩
      · rintro σ H10 ⟨A, li, y5, y6, y7, y8, y9, y10, y11, y12, y13, rfl⟩
        dsimp only
        walk_at "rd"
        exact q _

theorem all_mk {l : PySem.W.OpenLaw} {w : World} {K : PySem.W.Frag} {h : Heap} {mg : Str → Option Value} {fa : Addr} (X : K.In h) (G : h.Ns mainGlobals mg) (hfa : mg "law" = some (.ref fa))
    {f0 : Addr} {od0 an0 : Option Addr} {sl0 : Array (Option Value)} {oc0 kV0 dc0 pm0 cd0 ct0 : Value}
    {f1 : Addr} {od1 an1 : Option Addr} {sl1 : Array (Option Value)} {oc1 kV1 dc1 pm1 cd1 ct1 : Value}
    {f2 : Addr} {od2 an2 : Option Addr} {sl2 : Array (Option Value)} {oc2 kV2 dc2 pm2 cd2 ct2 : Value}
    {f3 : Addr} {od3 an3 : Option Addr} {sl3 : Array (Option Value)} {oc3 kV3 dc3 pm3 cd3 ct3 : Value}
    {f4 : Addr} {od4 an4 : Option Addr} {sl4 : Array (Option Value)} {oc4 kV4 dc4 pm4 cd4 ct4 : Value}
    {f5 : Addr} {od5 an5 : Option Addr} {sl5 : Array (Option Value)} {oc5 kV5 dc5 pm5 cd5 ct5 : Value}
    {f6 : Addr} {od6 an6 : Option Addr} {sl6 : Array (Option Value)} {oc6 kV6 dc6 pm6 cd6 ct6 : Value}
    {f7 : Addr} {od7 an7 : Option Addr} {sl7 : Array (Option Value)} {oc7 kV7 dc7 pm7 cd7 ct7 : Value}
    {f8 : Addr} {od8 an8 : Option Addr} {sl8 : Array (Option Value)} {oc8 kV8 dc8 pm8 cd8 ct8 : Value}
    {f9 : Addr} {od9 an9 : Option Addr} {sl9 : Array (Option Value)} {oc9 kV9 dc9 pm9 cd9 ct9 : Value}
    {f10 : Addr} {od10 an10 : Option Addr} {sl10 : Array (Option Value)} {oc10 kV10 dc10 pm10 cd10 ct10 : Value}
    {f11 : Addr} {od11 an11 : Option Addr} {sl11 : Array (Option Value)} {oc11 kV11 dc11 pm11 cd11 ct11 : Value}
    {f12 : Addr} {od12 an12 : Option Addr} {sl12 : Array (Option Value)} {oc12 kV12 dc12 pm12 cd12 ct12 : Value}
    {f13 : Addr} {od13 an13 : Option Addr} {sl13 : Array (Option Value)} {oc13 kV13 dc13 pm13 cd13 ct13 : Value}
    {f14 : Addr} {od14 an14 : Option Addr} {sl14 : Array (Option Value)} {oc14 kV14 dc14 pm14 cd14 ct14 : Value}
    {f15 : Addr} {od15 an15 : Option Addr} {sl15 : Array (Option Value)} {oc15 kV15 dc15 pm15 cd15 ct15 : Value}
    {f16 : Addr} {od16 an16 : Option Addr} {sl16 : Array (Option Value)} {oc16 kV16 dc16 pm16 cd16 ct16 : Value}
    {f17 : Addr} {od17 an17 : Option Addr} {sl17 : Array (Option Value)} {oc17 kV17 dc17 pm17 cd17 ct17 : Value}
    {f18 : Addr} {od18 an18 : Option Addr} {sl18 : Array (Option Value)} {oc18 kV18 dc18 pm18 cd18 ct18 : Value}
    {f19 : Addr} {od19 an19 : Option Addr} {sl19 : Array (Option Value)} {oc19 kV19 dc19 pm19 cd19 ct19 : Value}
    {f20 : Addr} {od20 an20 : Option Addr} {sl20 : Array (Option Value)} {oc20 kV20 dc20 pm20 cd20 ct20 : Value}
    {f21 : Addr} {od21 an21 : Option Addr} {sl21 : Array (Option Value)} {oc21 kV21 dc21 pm21 cd21 ct21 : Value}
    {f22 : Addr} {od22 an22 : Option Addr} {sl22 : Array (Option Value)} {oc22 kV22 dc22 pm22 cd22 ct22 : Value}
    {f23 : Addr} {od23 an23 : Option Addr} {sl23 : Array (Option Value)} {oc23 kV23 dc23 pm23 cd23 ct23 : Value}
    {f24 : Addr} {od24 an24 : Option Addr} {sl24 : Array (Option Value)} {oc24 kV24 dc24 pm24 cd24 ct24 : Value}
    {f25 : Addr} {od25 an25 : Option Addr} {sl25 : Array (Option Value)} {oc25 kV25 dc25 pm25 cd25 ct25 : Value}
    {f26 : Addr} {od26 an26 : Option Addr} {sl26 : Array (Option Value)} {oc26 kV26 dc26 pm26 cd26 ct26 : Value}
    {f27 : Addr} {od27 an27 : Option Addr} {sl27 : Array (Option Value)} {oc27 kV27 dc27 pm27 cd27 ct27 : Value}
    {f28 : Addr} {od28 an28 : Option Addr} {sl28 : Array (Option Value)} {oc28 kV28 dc28 pm28 cd28 ct28 : Value}
    {f29 : Addr} {od29 an29 : Option Addr} {sl29 : Array (Option Value)} {oc29 kV29 dc29 pm29 cd29 ct29 : Value}
    {f30 : Addr} {od30 an30 : Option Addr} {sl30 : Array (Option Value)} {oc30 kV30 dc30 pm30 cd30 ct30 : Value}
    {f31 : Addr} {od31 an31 : Option Addr} {sl31 : Array (Option Value)} {oc31 kV31 dc31 pm31 cd31 ct31 : Value}
    {f32 : Addr} {od32 an32 : Option Addr} {sl32 : Array (Option Value)} {oc32 kV32 dc32 pm32 cd32 ct32 : Value}
    {f33 : Addr} {od33 an33 : Option Addr} {sl33 : Array (Option Value)} {oc33 kV33 dc33 pm33 cd33 ct33 : Value}
    {f34 : Addr} {od34 an34 : Option Addr} {sl34 : Array (Option Value)} {oc34 kV34 dc34 pm34 cd34 ct34 : Value}
    {c_CardError : Addr}
    {c_Fault : Addr}
    {em0_Fault em1_Fault : Str} {em2_Fault : Addr} {em3_Fault em4_Fault : List Value} {em5_Fault : List Str} {em6_Fault : List Value} {em7_Fault : Bool} {em8_Fault : Option Bool} {em9_Fault : Option Addr} {em10_Fault em11_Fault em12_Fault em13_Fault em14_Fault : Option Value}
    {c_PowerCut : Addr}
    {c_Heap : Addr}
    {c_Cells : Addr}
    {c_Journal : Addr}
    {tk0 : Tok}
    {tk1 : Tok}
    {tk2 : Tok}
    {tk3 : Tok}
    {tk4 : Tok}
    {tk5 : Tok}
    {tk6 : Tok}
    {tk7 : Tok}
    {tk8 : Tok}
    {tk9 : Tok}
    {tk10 : Tok}
    {tk11 : Tok}
    (a0 : PySem.W.nsIn K mainGlobals "_wall" = some (some (.ref f0)))
    (l0 : K.lookup f0 = some ⟨oc0, od0, .func (PySem.W.fnOf "_wall" "_wall" (defArgs s_wall) (defBody s_wall) (defScope s_wall) .none kV0 dc0 pm0 an0 cd0 ct0), sl0⟩) (c0 : PySem.W.codeIn K cd0 "_wall" = true) (k0 : PySem.W.keepIn K (.ref f0) = true)
    (l1 : K.lookup f1 = some ⟨oc1, od1, .func (PySem.W.fnOf "__init__" "Fault.__init__" (defArgs s_Fault_init) (defBody s_Fault_init) (defScope s_Fault_init) .none kV1 dc1 pm1 an1 cd1 ct1), sl1⟩) (c1 : PySem.W.codeIn K cd1 "Fault.__init__" = true) (k1 : PySem.W.keepIn K (.ref f1) = true)
    (l2 : K.lookup f2 = some ⟨oc2, od2, .func (PySem.W.fnOf "__init__" "Heap.__init__" (defArgs s_Heap_init) (defBody s_Heap_init) (defScope s_Heap_init) .none kV2 dc2 pm2 an2 cd2 ct2), sl2⟩) (c2 : PySem.W.codeIn K cd2 "Heap.__init__" = true) (k2 : PySem.W.keepIn K (.ref f2) = true)
    (l3 : K.lookup f3 = some ⟨oc3, od3, .func (PySem.W.fnOf "numbers" "Heap.numbers" (defArgs s_Heap_numbers) (defBody s_Heap_numbers) (defScope s_Heap_numbers) .none kV3 dc3 pm3 an3 cd3 ct3), sl3⟩) (c3 : PySem.W.codeIn K cd3 "Heap.numbers" = true) (k3 : PySem.W.keepIn K (.ref f3) = true)
    (l4 : K.lookup f4 = some ⟨oc4, od4, .func (PySem.W.fnOf "used" "Heap.used" (defArgs s_Heap_used) (defBody s_Heap_used) (defScope s_Heap_used) .none kV4 dc4 pm4 an4 cd4 ct4), sl4⟩) (c4 : PySem.W.codeIn K cd4 "Heap.used" = true) (k4 : PySem.W.keepIn K (.ref f4) = true)
    (l5 : K.lookup f5 = some ⟨oc5, od5, .func (PySem.W.fnOf "kind" "Heap.kind" (defArgs s_Heap_kind) (defBody s_Heap_kind) (defScope s_Heap_kind) .none kV5 dc5 pm5 an5 cd5 ct5), sl5⟩) (c5 : PySem.W.codeIn K cd5 "Heap.kind" = true) (k5 : PySem.W.keepIn K (.ref f5) = true)
    (l6 : K.lookup f6 = some ⟨oc6, od6, .func (PySem.W.fnOf "owner" "Heap.owner" (defArgs s_Heap_owner) (defBody s_Heap_owner) (defScope s_Heap_owner) .none kV6 dc6 pm6 an6 cd6 ct6), sl6⟩) (c6 : PySem.W.codeIn K cd6 "Heap.owner" = true) (k6 : PySem.W.keepIn K (.ref f6) = true)
    (l7 : K.lookup f7 = some ⟨oc7, od7, .func (PySem.W.fnOf "size" "Heap.size" (defArgs s_Heap_size) (defBody s_Heap_size) (defScope s_Heap_size) .none kV7 dc7 pm7 an7 cd7 ct7), sl7⟩) (c7 : PySem.W.codeIn K cd7 "Heap.size" = true) (k7 : PySem.W.keepIn K (.ref f7) = true)
    (l8 : K.lookup f8 = some ⟨oc8, od8, .func (PySem.W.fnOf "read" "Heap.read" (defArgs s_Heap_read) (defBody s_Heap_read) (defScope s_Heap_read) .none kV8 dc8 pm8 an8 cd8 ct8), sl8⟩) (c8 : PySem.W.codeIn K cd8 "Heap.read" = true) (k8 : PySem.W.keepIn K (.ref f8) = true)
    (l9 : K.lookup f9 = some ⟨oc9, od9, .func (PySem.W.fnOf "write" "Heap.write" (defArgs s_Heap_write) (defBody s_Heap_write) (defScope s_Heap_write) .none kV9 dc9 pm9 an9 cd9 ct9), sl9⟩) (c9 : PySem.W.codeIn K cd9 "Heap.write" = true) (k9 : PySem.W.keepIn K (.ref f9) = true)
    (l10 : K.lookup f10 = some ⟨oc10, od10, .func (PySem.W.fnOf "fill" "Heap.fill" (defArgs s_Heap_fill) (defBody s_Heap_fill) (defScope s_Heap_fill) .none kV10 dc10 pm10 an10 cd10 ct10), sl10⟩) (c10 : PySem.W.codeIn K cd10 "Heap.fill" = true) (k10 : PySem.W.keepIn K (.ref f10) = true)
    (l11 : K.lookup f11 = some ⟨oc11, od11, .func (PySem.W.fnOf "make" "Heap.make" (defArgs s_Heap_make) (defBody s_Heap_make) (defScope s_Heap_make) .none kV11 dc11 pm11 an11 cd11 ct11), sl11⟩) (c11 : PySem.W.codeIn K cd11 "Heap.make" = true) (k11 : PySem.W.keepIn K (.ref f11) = true)
    (l12 : K.lookup f12 = some ⟨oc12, od12, .func (PySem.W.fnOf "reached" "Heap.reached" (defArgs s_Heap_reached) (defBody s_Heap_reached) (defScope s_Heap_reached) .none kV12 dc12 pm12 an12 cd12 ct12), sl12⟩) (c12 : PySem.W.codeIn K cd12 "Heap.reached" = true) (k12 : PySem.W.keepIn K (.ref f12) = true)
    (l13 : K.lookup f13 = some ⟨oc13, od13, .func (PySem.W.fnOf "collect" "Heap.collect" (defArgs s_Heap_collect) (defBody s_Heap_collect) (defScope s_Heap_collect) .none kV13 dc13 pm13 an13 cd13 ct13), sl13⟩) (c13 : PySem.W.codeIn K cd13 "Heap.collect" = true) (k13 : PySem.W.keepIn K (.ref f13) = true)
    (l14 : K.lookup f14 = some ⟨oc14, od14, .func (PySem.W.fnOf "_half" "Heap._half" (defArgs s_Heap__half) (defBody s_Heap__half) (defScope s_Heap__half) .none kV14 dc14 pm14 an14 cd14 ct14), sl14⟩) (c14 : PySem.W.codeIn K cd14 "Heap._half" = true) (k14 : PySem.W.keepIn K (.ref f14) = true)
    (l15 : K.lookup f15 = some ⟨oc15, od15, .func (PySem.W.fnOf "_table" "Heap._table" (defArgs s_Heap__table) (defBody s_Heap__table) (defScope s_Heap__table) .none kV15 dc15 pm15 an15 cd15 ct15), sl15⟩) (c15 : PySem.W.codeIn K cd15 "Heap._table" = true) (k15 : PySem.W.keepIn K (.ref f15) = true)
    (l16 : K.lookup f16 = some ⟨oc16, od16, .func (PySem.W.fnOf "_room" "Heap._room" (defArgs s_Heap__room) (defBody s_Heap__room) (defScope s_Heap__room) .none kV16 dc16 pm16 an16 cd16 ct16), sl16⟩) (c16 : PySem.W.codeIn K cd16 "Heap._room" = true) (k16 : PySem.W.keepIn K (.ref f16) = true)
    (l17 : K.lookup f17 = some ⟨oc17, od17, .func (PySem.W.fnOf "_place" "Heap._place" (defArgs s_Heap__place) (defBody s_Heap__place) (defScope s_Heap__place) .none kV17 dc17 pm17 an17 cd17 ct17), sl17⟩) (c17 : PySem.W.codeIn K cd17 "Heap._place" = true) (k17 : PySem.W.keepIn K (.ref f17) = true)
    (l18 : K.lookup f18 = some ⟨oc18, od18, .func (PySem.W.fnOf "_temp" "Heap._temp" (defArgs s_Heap__temp) (defBody s_Heap__temp) (defScope s_Heap__temp) .none kV18 dc18 pm18 an18 cd18 ct18), sl18⟩) (c18 : PySem.W.codeIn K cd18 "Heap._temp" = true) (k18 : PySem.W.keepIn K (.ref f18) = true)
    (l19 : K.lookup f19 = some ⟨oc19, od19, .func (PySem.W.fnOf "_references" "Heap._references" (defArgs s_Heap__references) (defBody s_Heap__references) (defScope s_Heap__references) .none kV19 dc19 pm19 an19 cd19 ct19), sl19⟩) (c19 : PySem.W.codeIn K cd19 "Heap._references" = true) (k19 : PySem.W.keepIn K (.ref f19) = true)
    (l20 : K.lookup f20 = some ⟨oc20, od20, .func (PySem.W.fnOf "_words" "Heap._words" (defArgs s_Heap__words) (defBody s_Heap__words) (defScope s_Heap__words) .none kV20 dc20 pm20 an20 cd20 ct20), sl20⟩) (c20 : PySem.W.codeIn K cd20 "Heap._words" = true) (k20 : PySem.W.keepIn K (.ref f20) = true)
    (l21 : K.lookup f21 = some ⟨oc21, od21, .func (PySem.W.fnOf "__init__" "Cells.__init__" (defArgs s_Cells_init) (defBody s_Cells_init) (defScope s_Cells_init) .none kV21 dc21 pm21 an21 cd21 ct21), sl21⟩) (c21 : PySem.W.codeIn K cd21 "Cells.__init__" = true) (k21 : PySem.W.keepIn K (.ref f21) = true)
    (l22 : K.lookup f22 = some ⟨oc22, od22, .func (PySem.W.fnOf "read" "Cells.read" (defArgs s_Cells_read) (defBody s_Cells_read) (defScope s_Cells_read) .none kV22 dc22 pm22 an22 cd22 ct22), sl22⟩) (c22 : PySem.W.codeIn K cd22 "Cells.read" = true) (k22 : PySem.W.keepIn K (.ref f22) = true)
    (l23 : K.lookup f23 = some ⟨oc23, od23, .func (PySem.W.fnOf "write" "Cells.write" (defArgs s_Cells_write) (defBody s_Cells_write) (defScope s_Cells_write) .none kV23 dc23 pm23 an23 cd23 ct23), sl23⟩) (c23 : PySem.W.codeIn K cd23 "Cells.write" = true) (k23 : PySem.W.keepIn K (.ref f23) = true)
    (l24 : K.lookup f24 = some ⟨oc24, od24, .func (PySem.W.fnOf "__init__" "Journal.__init__" (defArgs s_Journal_init) (defBody s_Journal_init) (defScope s_Journal_init) .none kV24 dc24 pm24 an24 cd24 ct24), sl24⟩) (c24 : PySem.W.codeIn K cd24 "Journal.__init__" = true) (k24 : PySem.W.keepIn K (.ref f24) = true)
    (l25 : K.lookup f25 = some ⟨oc25, od25, .func (PySem.W.fnOf "change" "Journal.change" (defArgs s_Journal_change) (defBody s_Journal_change) (defScope s_Journal_change) .none kV25 dc25 pm25 an25 cd25 ct25), sl25⟩) (c25 : PySem.W.codeIn K cd25 "Journal.change" = true) (k25 : PySem.W.keepIn K (.ref f25) = true)
    (a26 : PySem.W.nsIn K mainGlobals "_law_draws" = some (some (.ref f26)))
    (l26 : K.lookup f26 = some ⟨oc26, od26, .func (PySem.W.fnOf "_law_draws" "_law_draws" (defArgs s_law_draws) (defBody s_law_draws) (defScope s_law_draws) .none kV26 dc26 pm26 an26 cd26 ct26), sl26⟩) (c26 : PySem.W.codeIn K cd26 "_law_draws" = true) (k26 : PySem.W.keepIn K (.ref f26) = true)
    (a27 : PySem.W.nsIn K mainGlobals "_law_places" = some (some (.ref f27)))
    (l27 : K.lookup f27 = some ⟨oc27, od27, .func (PySem.W.fnOf "_law_places" "_law_places" (defArgs s_law_places) (defBody s_law_places) (defScope s_law_places) .none kV27 dc27 pm27 an27 cd27 ct27), sl27⟩) (c27 : PySem.W.codeIn K cd27 "_law_places" = true) (k27 : PySem.W.keepIn K (.ref f27) = true)
    (a28 : PySem.W.nsIn K mainGlobals "_law_used" = some (some (.ref f28)))
    (l28 : K.lookup f28 = some ⟨oc28, od28, .func (PySem.W.fnOf "_law_used" "_law_used" (defArgs s_law_used) (defBody s_law_used) (defScope s_law_used) .none kV28 dc28 pm28 an28 cd28 ct28), sl28⟩) (c28 : PySem.W.codeIn K cd28 "_law_used" = true) (k28 : PySem.W.keepIn K (.ref f28) = true)
    (a29 : PySem.W.nsIn K mainGlobals "_law_make" = some (some (.ref f29)))
    (l29 : K.lookup f29 = some ⟨oc29, od29, .func (PySem.W.fnOf "_law_make" "_law_make" (defArgs s_law_make) (defBody s_law_make) (defScope s_law_make) .none kV29 dc29 pm29 an29 cd29 ct29), sl29⟩) (c29 : PySem.W.codeIn K cd29 "_law_make" = true) (k29 : PySem.W.keepIn K (.ref f29) = true)
    (a30 : PySem.W.nsIn K mainGlobals "_law_reached" = some (some (.ref f30)))
    (l30 : K.lookup f30 = some ⟨oc30, od30, .func (PySem.W.fnOf "_law_reached" "_law_reached" (defArgs s_law_reached) (defBody s_law_reached) (defScope s_law_reached) .none kV30 dc30 pm30 an30 cd30 ct30), sl30⟩) (c30 : PySem.W.codeIn K cd30 "_law_reached" = true) (k30 : PySem.W.keepIn K (.ref f30) = true)
    (a31 : PySem.W.nsIn K mainGlobals "_law_same" = some (some (.ref f31)))
    (l31 : K.lookup f31 = some ⟨oc31, od31, .func (PySem.W.fnOf "_law_same" "_law_same" (defArgs s_law_same) (defBody s_law_same) (defScope s_law_same) .none kV31 dc31 pm31 an31 cd31 ct31), sl31⟩) (c31 : PySem.W.codeIn K cd31 "_law_same" = true) (k31 : PySem.W.keepIn K (.ref f31) = true)
    (a32 : PySem.W.nsIn K mainGlobals "_law_change" = some (some (.ref f32)))
    (l32 : K.lookup f32 = some ⟨oc32, od32, .func (PySem.W.fnOf "_law_change" "_law_change" (defArgs s_law_change) (defBody s_law_change) (defScope s_law_change) .none kV32 dc32 pm32 an32 cd32 ct32), sl32⟩) (c32 : PySem.W.codeIn K cd32 "_law_change" = true) (k32 : PySem.W.keepIn K (.ref f32) = true)
    (a33 : PySem.W.nsIn K mainGlobals "_law_collect" = some (some (.ref f33)))
    (l33 : K.lookup f33 = some ⟨oc33, od33, .func (PySem.W.fnOf "_law_collect" "_law_collect" (defArgs s_law_collect) (defBody s_law_collect) (defScope s_law_collect) .none kV33 dc33 pm33 an33 cd33 ct33), sl33⟩) (c33 : PySem.W.codeIn K cd33 "_law_collect" = true) (k33 : PySem.W.keepIn K (.ref f33) = true)
    (a34 : PySem.W.nsIn K mainGlobals "law" = some (some (.ref f34)))
    (l34 : K.lookup f34 = some ⟨oc34, od34, .func (PySem.W.fnOf "law" "law" (defArgs s_law) (defBody s_law) (defScope s_law) .none kV34 dc34 pm34 an34 cd34 ct34), sl34⟩) (c34 : PySem.W.codeIn K cd34 "law" = true) (k34 : PySem.W.keepIn K (.ref f34) = true)
    (aC_CardError : PySem.W.nsIn K mainGlobals "CardError" = some (some (.ref c_CardError)))
    (aC_Fault : PySem.W.nsIn K mainGlobals "Fault" = some (some (.ref c_Fault)))
    (aC_PowerCut : PySem.W.nsIn K mainGlobals "PowerCut" = some (some (.ref c_PowerCut)))
    (aC_Heap : PySem.W.nsIn K mainGlobals "Heap" = some (some (.ref c_Heap)))
    (aC_Cells : PySem.W.nsIn K mainGlobals "Cells" = some (some (.ref c_Cells)))
    (aC_Journal : PySem.W.nsIn K mainGlobals "Journal" = some (some (.ref c_Journal)))
    (w1oe : K.lookup c_Fault = some (excClassObj em0_Fault em1_Fault c_Fault em2_Fault em3_Fault em4_Fault true em5_Fault em6_Fault em7_Fault em8_Fault em9_Fault em10_Fault em11_Fault em12_Fault em13_Fault em14_Fault "ValueError.__new__"))
    (w2rv : PySem.HandSPX.refsVE em4_Fault = true)
    (w3os : PySem.W.findIn K (.ref c_Fault) "__setattr__" = some (some (.builtin "object.__setattr__")))
    (w4ob : PySem.W.subIn K (.ref c_Fault) (.type "BaseException") = some true)
    (w5ot : PySem.W.typeIn K (.ref c_Fault) = some (.type "type"))
    (w6ok : PySem.W.keepIn K (.ref c_Fault) = true)
    (w7in : PySem.W.findIn K (.ref c_Fault) "__init__" = some (some (.ref f1)))
    (w8ti : PySem.W.typeIn K (.ref f1) = some (.type "function"))
    (w9on : PySem.W.findIn K (.ref c_Fault) "code" = some none)
    (w10xg : PySem.W.findIn K (.ref c_Fault) "__getattribute__" = some (some (.builtin "BaseException.__getattribute__")))
    (w11xh : PySem.W.findIn K (.ref c_Fault) "__getattr__" = some none)
    (w12xe : PySem.W.subIn K (.ref c_Fault) (.type "BaseException") = some true)
    (w13xd : PySem.W.hasDictIn K c_Fault = true)
    (w14eb : PySem.W.subIn K (.ref c_Fault) (.type "BaseException") = some true)
    (w15ei : PySem.W.isClsIn K c_Fault = true)
    (w16et : PySem.W.typeIn K (.ref c_Fault) = some (.type "type"))
    (w17es : PySem.W.subIn K (.ref c_Fault) (.ref c_Fault) = some true)
    (w18eb : PySem.W.subIn K (.ref c_Fault) (.type "BaseException") = some true)
    (w19ei : PySem.W.isClsIn K c_Fault = true)
    (w20et : PySem.W.typeIn K (.ref c_Fault) = some (.type "type"))
    (w21es : PySem.W.subIn K (.ref c_PowerCut) (.ref c_Fault) = some false)
    (w22x : PySem.W.excIn K c_PowerCut [.type "ValueError", .type "Exception", .type "BaseException", .type "object"] "ValueError.__new__" = true)
    (w23kx : PySem.W.keepIn K (.ref c_PowerCut) = true)
    (w24be : PySem.W.subIn K (.ref c_PowerCut) (.type "BaseException") = some true)
    (w25ty : PySem.W.typeIn K (.ref c_PowerCut) = some (.type "type"))
    (w26pg : PySem.W.plainGet K c_Heap Str.empty = true)
    (w27hd : PySem.W.hasDictIn K c_Heap = true)
    (w28po : PySem.W.plainOver K c_Heap = true)
    (w29sa : PySem.W.findIn K (.ref c_Heap) "__setattr__" = some (some (.builtin "object.__setattr__")))
    (w30mk : PySem.W.makesIn K c_Heap = true)
    (w31in : PySem.W.findIn K (.ref c_Heap) "__init__" = some (some (.ref f2)))
    (w32fi : PySem.W.isFn K (.ref f2) = true)
    (w33kc : PySem.W.keepIn K (.ref c_Heap) = true)
    (w34at : PySem.W.findIn K (.ref c_Heap) "numbers" = some (some (.ref f3)))
    (w35fn : PySem.W.isFn K (.ref f3) = true)
    (w36km : PySem.W.keepIn K (.ref f3) = true)
    (w37at : PySem.W.findIn K (.ref c_Heap) "used" = some (some (.ref f4)))
    (w38fn : PySem.W.isFn K (.ref f4) = true)
    (w39km : PySem.W.keepIn K (.ref f4) = true)
    (w40at : PySem.W.findIn K (.ref c_Heap) "kind" = some (some (.ref f5)))
    (w41fn : PySem.W.isFn K (.ref f5) = true)
    (w42km : PySem.W.keepIn K (.ref f5) = true)
    (w43at : PySem.W.findIn K (.ref c_Heap) "owner" = some (some (.ref f6)))
    (w44fn : PySem.W.isFn K (.ref f6) = true)
    (w45km : PySem.W.keepIn K (.ref f6) = true)
    (w46at : PySem.W.findIn K (.ref c_Heap) "size" = some (some (.ref f7)))
    (w47fn : PySem.W.isFn K (.ref f7) = true)
    (w48km : PySem.W.keepIn K (.ref f7) = true)
    (w49at : PySem.W.findIn K (.ref c_Heap) "read" = some (some (.ref f8)))
    (w50fn : PySem.W.isFn K (.ref f8) = true)
    (w51km : PySem.W.keepIn K (.ref f8) = true)
    (w52at : PySem.W.findIn K (.ref c_Heap) "write" = some (some (.ref f9)))
    (w53fn : PySem.W.isFn K (.ref f9) = true)
    (w54km : PySem.W.keepIn K (.ref f9) = true)
    (w55at : PySem.W.findIn K (.ref c_Heap) "fill" = some (some (.ref f10)))
    (w56fn : PySem.W.isFn K (.ref f10) = true)
    (w57km : PySem.W.keepIn K (.ref f10) = true)
    (w58at : PySem.W.findIn K (.ref c_Heap) "make" = some (some (.ref f11)))
    (w59fn : PySem.W.isFn K (.ref f11) = true)
    (w60km : PySem.W.keepIn K (.ref f11) = true)
    (w61at : PySem.W.findIn K (.ref c_Heap) "reached" = some (some (.ref f12)))
    (w62fn : PySem.W.isFn K (.ref f12) = true)
    (w63km : PySem.W.keepIn K (.ref f12) = true)
    (w64at : PySem.W.findIn K (.ref c_Heap) "collect" = some (some (.ref f13)))
    (w65fn : PySem.W.isFn K (.ref f13) = true)
    (w66km : PySem.W.keepIn K (.ref f13) = true)
    (w67at : PySem.W.findIn K (.ref c_Heap) "_half" = some (some (.ref f14)))
    (w68fn : PySem.W.isFn K (.ref f14) = true)
    (w69km : PySem.W.keepIn K (.ref f14) = true)
    (w70at : PySem.W.findIn K (.ref c_Heap) "_table" = some (some (.ref f15)))
    (w71fn : PySem.W.isFn K (.ref f15) = true)
    (w72km : PySem.W.keepIn K (.ref f15) = true)
    (w73at : PySem.W.findIn K (.ref c_Heap) "_room" = some (some (.ref f16)))
    (w74fn : PySem.W.isFn K (.ref f16) = true)
    (w75km : PySem.W.keepIn K (.ref f16) = true)
    (w76at : PySem.W.findIn K (.ref c_Heap) "_place" = some (some (.ref f17)))
    (w77fn : PySem.W.isFn K (.ref f17) = true)
    (w78km : PySem.W.keepIn K (.ref f17) = true)
    (w79at : PySem.W.findIn K (.ref c_Heap) "_temp" = some (some (.ref f18)))
    (w80fn : PySem.W.isFn K (.ref f18) = true)
    (w81km : PySem.W.keepIn K (.ref f18) = true)
    (w82at : PySem.W.findIn K (.ref c_Heap) "_references" = some (some (.ref f19)))
    (w83fn : PySem.W.isFn K (.ref f19) = true)
    (w84km : PySem.W.keepIn K (.ref f19) = true)
    (w85at : PySem.W.findIn K (.ref c_Heap) "_words" = some (some (.ref f20)))
    (w86fn : PySem.W.isFn K (.ref f20) = true)
    (w87km : PySem.W.keepIn K (.ref f20) = true)
    (w88na : PySem.W.findIn K (.ref c_Heap) "_cells" = some none)
    (w89na : PySem.W.findIn K (.ref c_Heap) "_journal" = some none)
    (w90na : PySem.W.findIn K (.ref c_Heap) "_start" = some none)
    (w91na : PySem.W.findIn K (.ref c_Heap) "_temps" = some none)
    (w92pg : PySem.W.plainGet K c_Cells Str.empty = true)
    (w93hd : PySem.W.hasDictIn K c_Cells = true)
    (w94po : PySem.W.plainOver K c_Cells = true)
    (w95sa : PySem.W.findIn K (.ref c_Cells) "__setattr__" = some (some (.builtin "object.__setattr__")))
    (w96mk : PySem.W.makesIn K c_Cells = true)
    (w97in : PySem.W.findIn K (.ref c_Cells) "__init__" = some (some (.ref f21)))
    (w98fi : PySem.W.isFn K (.ref f21) = true)
    (w99kc : PySem.W.keepIn K (.ref c_Cells) = true)
    (w100at : PySem.W.findIn K (.ref c_Cells) "read" = some (some (.ref f22)))
    (w101fn : PySem.W.isFn K (.ref f22) = true)
    (w102km : PySem.W.keepIn K (.ref f22) = true)
    (w103at : PySem.W.findIn K (.ref c_Cells) "write" = some (some (.ref f23)))
    (w104fn : PySem.W.isFn K (.ref f23) = true)
    (w105km : PySem.W.keepIn K (.ref f23) = true)
    (w106na : PySem.W.findIn K (.ref c_Cells) "_words" = some none)
    (w107na : PySem.W.findIn K (.ref c_Cells) "_left" = some none)
    (w108na : PySem.W.findIn K (.ref c_Cells) "_on" = some none)
    (w109pg : PySem.W.plainGet K c_Journal Str.empty = true)
    (w110hd : PySem.W.hasDictIn K c_Journal = true)
    (w111po : PySem.W.plainOver K c_Journal = true)
    (w112sa : PySem.W.findIn K (.ref c_Journal) "__setattr__" = some (some (.builtin "object.__setattr__")))
    (w113mk : PySem.W.makesIn K c_Journal = true)
    (w114in : PySem.W.findIn K (.ref c_Journal) "__init__" = some (some (.ref f24)))
    (w115fi : PySem.W.isFn K (.ref f24) = true)
    (w116kc : PySem.W.keepIn K (.ref c_Journal) = true)
    (w117at : PySem.W.findIn K (.ref c_Journal) "change" = some (some (.ref f25)))
    (w118fn : PySem.W.isFn K (.ref f25) = true)
    (w119km : PySem.W.keepIn K (.ref f25) = true)
    (w120na : PySem.W.findIn K (.ref c_Journal) "_cells" = some none)
    (w121na : PySem.W.findIn K (.ref c_Journal) "_start" = some none)
    (w122na : PySem.W.findIn K (.ref c_Journal) "_open" = some none)
    (z0 : PySem.W.nsIn K mainGlobals "abs" = some none)
    (z1 : PySem.W.nsIn K mainGlobals "enumerate" = some none)
    (z2 : PySem.W.nsIn K mainGlobals "int" = some none)
    (z3 : PySem.W.nsIn K mainGlobals "len" = some none)
    (z4 : PySem.W.nsIn K mainGlobals "list" = some none)
    (z5 : PySem.W.nsIn K mainGlobals "min" = some none)
    (z6 : PySem.W.nsIn K mainGlobals "range" = some none)
    (z7 : PySem.W.nsIn K mainGlobals "sorted" = some none)
    (z8 : PySem.W.nsIn K mainGlobals "sum" = some none)
    (z9 : PySem.W.nsIn K mainGlobals "tuple" = some none)
    (y0 : PySem.W.nsIn K mainGlobals "MOST_BUFFER" = some (some (.int (64) tk0)))
    (y1 : PySem.W.nsIn K mainGlobals "MOST_CELLS" = some (some (.int (400) tk1)))
    (y2 : PySem.W.nsIn K mainGlobals "MOST_OBJECTS" = some (some (.int (60) tk2)))
    (y3 : PySem.W.nsIn K mainGlobals "MOST_LOG" = some (some (.int (40) tk3)))
    (y4 : PySem.W.nsIn K mainGlobals "ROOM" = some (some (.int (-6) tk4)))
    (y5 : PySem.W.nsIn K mainGlobals "TRANSACTION" = some (some (.int (-8) tk5)))
    (y6 : PySem.W.nsIn K mainGlobals "BYTES" = some (some (.int (-1) tk6)))
    (y7 : PySem.W.nsIn K mainGlobals "TEMP" = some (some (.int (-2) tk7)))
    (y8 : PySem.W.nsIn K mainGlobals "BUFFER" = some (some (.int (61) tk8)))
    (y9 : PySem.W.nsIn K mainGlobals "HEAD_CELLS" = some (some (.int (3) tk9)))
    (y10 : PySem.W.nsIn K mainGlobals "HALF_CELLS" = some (some (.int (460) tk10)))
    (y11 : PySem.W.nsIn K mainGlobals "HEAP_CELLS" = some (some (.int (921) tk11))) :
    ∃ fd : FuncData, (∀ (s : Shared) (v : Value), BindsTo s fd ⟨[v], []⟩ [("_law_script", v)]) ∧ ∀ base : Heap, K.In base → base.Ns mainGlobals mg → FnOk l.prog w K mg base CX0 11 fa fd ["_law_script"] (sp_law K) := by
  have e := hfa.symm.trans (PySem.W.mg_of X G a34)
  cases e
  let T : Txt K mg := {
    f_wall := f0,
    d_wall := _,
    k_wall := (fun_mk (st := s_wall) l0 c0 k0),
    b_wall := (Fun.binds (ps := ["k"]) (fun_mk (st := s_wall) l0 c0 k0) fun _ _ _ _ _ _ us hl => match us, hl with | [_], _ => rfl),
    g_wall := PySem.W.mg_of X G a0,
    f_Fault_init := f1,
    d_Fault_init := _,
    k_Fault_init := (fun_mk (st := s_Fault_init) l1 c1 k1),
    b_Fault_init := (Fun.binds (ps := ["self", "code"]) (fun_mk (st := s_Fault_init) l1 c1 k1) fun _ _ _ _ _ _ us hl => match us, hl with | [_, _], _ => rfl),
    f_Heap_init := f2,
    d_Heap_init := _,
    k_Heap_init := (fun_mk (st := s_Heap_init) l2 c2 k2),
    b_Heap_init := (Fun.binds (ps := ["self", "cells", "journal", "start"]) (fun_mk (st := s_Heap_init) l2 c2 k2) fun _ _ _ _ _ _ us hl => match us, hl with | [_, _, _, _], _ => rfl),
    f_Heap_numbers := f3,
    d_Heap_numbers := _,
    k_Heap_numbers := (fun_mk (st := s_Heap_numbers) l3 c3 k3),
    b_Heap_numbers := (Fun.binds (ps := ["self"]) (fun_mk (st := s_Heap_numbers) l3 c3 k3) fun _ _ _ _ _ _ us hl => match us, hl with | [_], _ => rfl),
    f_Heap_used := f4,
    d_Heap_used := _,
    k_Heap_used := (fun_mk (st := s_Heap_used) l4 c4 k4),
    b_Heap_used := (Fun.binds (ps := ["self"]) (fun_mk (st := s_Heap_used) l4 c4 k4) fun _ _ _ _ _ _ us hl => match us, hl with | [_], _ => rfl),
    f_Heap_kind := f5,
    d_Heap_kind := _,
    k_Heap_kind := (fun_mk (st := s_Heap_kind) l5 c5 k5),
    b_Heap_kind := (Fun.binds (ps := ["self", "number"]) (fun_mk (st := s_Heap_kind) l5 c5 k5) fun _ _ _ _ _ _ us hl => match us, hl with | [_, _], _ => rfl),
    f_Heap_owner := f6,
    d_Heap_owner := _,
    k_Heap_owner := (fun_mk (st := s_Heap_owner) l6 c6 k6),
    b_Heap_owner := (Fun.binds (ps := ["self", "number"]) (fun_mk (st := s_Heap_owner) l6 c6 k6) fun _ _ _ _ _ _ us hl => match us, hl with | [_, _], _ => rfl),
    f_Heap_size := f7,
    d_Heap_size := _,
    k_Heap_size := (fun_mk (st := s_Heap_size) l7 c7 k7),
    b_Heap_size := (Fun.binds (ps := ["self", "number"]) (fun_mk (st := s_Heap_size) l7 c7 k7) fun _ _ _ _ _ _ us hl => match us, hl with | [_, _], _ => rfl),
    f_Heap_read := f8,
    d_Heap_read := _,
    k_Heap_read := (fun_mk (st := s_Heap_read) l8 c8 k8),
    b_Heap_read := (Fun.binds (ps := ["self", "number", "place"]) (fun_mk (st := s_Heap_read) l8 c8 k8) fun _ _ _ _ _ _ us hl => match us, hl with | [_, _, _], _ => rfl),
    f_Heap_write := f9,
    d_Heap_write := _,
    k_Heap_write := (fun_mk (st := s_Heap_write) l9 c9 k9),
    b_Heap_write := (Fun.binds (ps := ["self", "number", "place", "word"]) (fun_mk (st := s_Heap_write) l9 c9 k9) fun _ _ _ _ _ _ us hl => match us, hl with | [_, _, _, _], _ => rfl),
    f_Heap_fill := f10,
    d_Heap_fill := _,
    k_Heap_fill := (fun_mk (st := s_Heap_fill) l10 c10 k10),
    b_Heap_fill := (Fun.binds (ps := ["self", "data"]) (fun_mk (st := s_Heap_fill) l10 c10 k10) fun _ _ _ _ _ _ us hl => match us, hl with | [_, _], _ => rfl),
    f_Heap_make := f11,
    d_Heap_make := _,
    k_Heap_make := (fun_mk (st := s_Heap_make) l11 c11 k11),
    b_Heap_make := (Fun.binds (ps := ["self", "kind", "owner", "size"]) (fun_mk (st := s_Heap_make) l11 c11 k11) fun _ _ _ _ _ _ us hl => match us, hl with | [_, _, _, _], _ => rfl),
    f_Heap_reached := f12,
    d_Heap_reached := _,
    k_Heap_reached := (fun_mk (st := s_Heap_reached) l12 c12 k12),
    b_Heap_reached := (Fun.binds (ps := ["self", "roots", "places"]) (fun_mk (st := s_Heap_reached) l12 c12 k12) fun _ _ _ _ _ _ us hl => match us, hl with | [_, _, _], _ => rfl),
    f_Heap_collect := f13,
    d_Heap_collect := _,
    k_Heap_collect := (fun_mk (st := s_Heap_collect) l13 c13 k13),
    b_Heap_collect := (Fun.binds (ps := ["self", "roots", "places"]) (fun_mk (st := s_Heap_collect) l13 c13 k13) fun _ _ _ _ _ _ us hl => match us, hl with | [_, _, _], _ => rfl),
    f_Heap__half := f14,
    d_Heap__half := _,
    k_Heap__half := (fun_mk (st := s_Heap__half) l14 c14 k14),
    b_Heap__half := (Fun.binds (ps := ["self"]) (fun_mk (st := s_Heap__half) l14 c14 k14) fun _ _ _ _ _ _ us hl => match us, hl with | [_], _ => rfl),
    f_Heap__table := f15,
    d_Heap__table := _,
    k_Heap__table := (fun_mk (st := s_Heap__table) l15 c15 k15),
    b_Heap__table := (Fun.binds (ps := ["self", "half"]) (fun_mk (st := s_Heap__table) l15 c15 k15) fun _ _ _ _ _ _ us hl => match us, hl with | [_, _], _ => rfl),
    f_Heap__room := f16,
    d_Heap__room := _,
    k_Heap__room := (fun_mk (st := s_Heap__room) l16 c16 k16),
    b_Heap__room := (Fun.binds (ps := ["self", "half"]) (fun_mk (st := s_Heap__room) l16 c16 k16) fun _ _ _ _ _ _ us hl => match us, hl with | [_, _], _ => rfl),
    f_Heap__place := f17,
    d_Heap__place := _,
    k_Heap__place := (fun_mk (st := s_Heap__place) l17 c17 k17),
    b_Heap__place := (Fun.binds (ps := ["self", "number"]) (fun_mk (st := s_Heap__place) l17 c17 k17) fun _ _ _ _ _ _ us hl => match us, hl with | [_, _], _ => rfl),
    f_Heap__temp := f18,
    d_Heap__temp := _,
    k_Heap__temp := (fun_mk (st := s_Heap__temp) l18 c18 k18),
    b_Heap__temp := (Fun.binds (ps := ["self", "number"]) (fun_mk (st := s_Heap__temp) l18 c18 k18) fun _ _ _ _ _ _ us hl => match us, hl with | [_, _], _ => rfl),
    f_Heap__references := f19,
    d_Heap__references := _,
    k_Heap__references := (fun_mk (st := s_Heap__references) l19 c19 k19),
    b_Heap__references := (Fun.binds (ps := ["self", "number", "places"]) (fun_mk (st := s_Heap__references) l19 c19 k19) fun _ _ _ _ _ _ us hl => match us, hl with | [_, _, _], _ => rfl),
    f_Heap__words := f20,
    d_Heap__words := _,
    k_Heap__words := (fun_mk (st := s_Heap__words) l20 c20 k20),
    b_Heap__words := (Fun.binds (ps := ["self", "number"]) (fun_mk (st := s_Heap__words) l20 c20 k20) fun _ _ _ _ _ _ us hl => match us, hl with | [_, _], _ => rfl),
    f_Cells_init := f21,
    d_Cells_init := _,
    k_Cells_init := (fun_mk (st := s_Cells_init) l21 c21 k21),
    b_Cells_init := (Fun.binds (ps := ["self", "count"]) (fun_mk (st := s_Cells_init) l21 c21 k21) fun _ _ _ _ _ _ us hl => match us, hl with | [_, _], _ => rfl),
    f_Cells_read := f22,
    d_Cells_read := _,
    k_Cells_read := (fun_mk (st := s_Cells_read) l22 c22 k22),
    b_Cells_read := (Fun.binds (ps := ["self", "place"]) (fun_mk (st := s_Cells_read) l22 c22 k22) fun _ _ _ _ _ _ us hl => match us, hl with | [_, _], _ => rfl),
    f_Cells_write := f23,
    d_Cells_write := _,
    k_Cells_write := (fun_mk (st := s_Cells_write) l23 c23 k23),
    b_Cells_write := (Fun.binds (ps := ["self", "place", "word"]) (fun_mk (st := s_Cells_write) l23 c23 k23) fun _ _ _ _ _ _ us hl => match us, hl with | [_, _, _], _ => rfl),
    f_Journal_init := f24,
    d_Journal_init := _,
    k_Journal_init := (fun_mk (st := s_Journal_init) l24 c24 k24),
    b_Journal_init := (Fun.binds (ps := ["self", "cells", "start"]) (fun_mk (st := s_Journal_init) l24 c24 k24) fun _ _ _ _ _ _ us hl => match us, hl with | [_, _, _], _ => rfl),
    f_Journal_change := f25,
    d_Journal_change := _,
    k_Journal_change := (fun_mk (st := s_Journal_change) l25 c25 k25),
    b_Journal_change := (Fun.binds (ps := ["self", "place", "word"]) (fun_mk (st := s_Journal_change) l25 c25 k25) fun _ _ _ _ _ _ us hl => match us, hl with | [_, _, _], _ => rfl),
    f_law_draws := f26,
    d_law_draws := _,
    k_law_draws := (fun_mk (st := s_law_draws) l26 c26 k26),
    b_law_draws := (Fun.binds (ps := ["_law_script", "_law_start", "_law_most"]) (fun_mk (st := s_law_draws) l26 c26 k26) fun _ _ _ _ _ _ us hl => match us, hl with | [_, _, _], _ => rfl),
    g_law_draws := PySem.W.mg_of X G a26,
    f_law_places := f27,
    d_law_places := _,
    k_law_places := (fun_mk (st := s_law_places) l27 c27 k27),
    b_law_places := (Fun.binds (ps := ["_law_kind"]) (fun_mk (st := s_law_places) l27 c27 k27) fun _ _ _ _ _ _ us hl => match us, hl with | [_], _ => rfl),
    g_law_places := PySem.W.mg_of X G a27,
    f_law_used := f28,
    d_law_used := _,
    k_law_used := (fun_mk (st := s_law_used) l28 c28 k28),
    b_law_used := (Fun.binds (ps := ["_law_model"]) (fun_mk (st := s_law_used) l28 c28 k28) fun _ _ _ _ _ _ us hl => match us, hl with | [_], _ => rfl),
    g_law_used := PySem.W.mg_of X G a28,
    f_law_make := f29,
    d_law_make := _,
    k_law_make := (fun_mk (st := s_law_make) l29 c29 k29),
    b_law_make := (Fun.binds (ps := ["_law_heap", "_law_model", "_law_kind", "_law_owner", "_law_size"]) (fun_mk (st := s_law_make) l29 c29 k29) fun _ _ _ _ _ _ us hl => match us, hl with | [_, _, _, _, _], _ => rfl),
    g_law_make := PySem.W.mg_of X G a29,
    f_law_reached := f30,
    d_law_reached := _,
    k_law_reached := (fun_mk (st := s_law_reached) l30 c30 k30),
    b_law_reached := (Fun.binds (ps := ["_law_model", "_law_roots"]) (fun_mk (st := s_law_reached) l30 c30 k30) fun _ _ _ _ _ _ us hl => match us, hl with | [_, _], _ => rfl),
    g_law_reached := PySem.W.mg_of X G a30,
    f_law_same := f31,
    d_law_same := _,
    k_law_same := (fun_mk (st := s_law_same) l31 c31 k31),
    b_law_same := (Fun.binds (ps := ["_law_heap", "_law_model"]) (fun_mk (st := s_law_same) l31 c31 k31) fun _ _ _ _ _ _ us hl => match us, hl with | [_, _], _ => rfl),
    g_law_same := PySem.W.mg_of X G a31,
    f_law_change := f32,
    d_law_change := _,
    k_law_change := (fun_mk (st := s_law_change) l32 c32 k32),
    b_law_change := (Fun.binds (ps := ["_law_heap", "_law_model", "_law_rest"]) (fun_mk (st := s_law_change) l32 c32 k32) fun _ _ _ _ _ _ us hl => match us, hl with | [_, _, _], _ => rfl),
    g_law_change := PySem.W.mg_of X G a32,
    f_law_collect := f33,
    d_law_collect := _,
    k_law_collect := (fun_mk (st := s_law_collect) l33 c33 k33),
    b_law_collect := (Fun.binds (ps := ["_law_heap", "_law_model", "_law_rest"]) (fun_mk (st := s_law_collect) l33 c33 k33) fun _ _ _ _ _ _ us hl => match us, hl with | [_, _, _], _ => rfl),
    g_law_collect := PySem.W.mg_of X G a33,
    f_law := fa,
    d_law := _,
    k_law := (fun_mk (st := s_law) l34 c34 k34),
    b_law := (Fun.binds (ps := ["_law_script"]) (fun_mk (st := s_law) l34 c34 k34) fun _ _ _ _ _ _ us hl => match us, hl with | [_], _ => rfl),
    g_law := PySem.W.mg_of X G a34,
    c_CardError := c_CardError,
    g_CardError := PySem.W.mg_of X G aC_CardError,
    c_Fault := c_Fault,
    g_Fault := PySem.W.mg_of X G aC_Fault,
    c_PowerCut := c_PowerCut,
    g_PowerCut := PySem.W.mg_of X G aC_PowerCut,
    c_Heap := c_Heap,
    g_Heap := PySem.W.mg_of X G aC_Heap,
    c_Cells := c_Cells,
    g_Cells := PySem.W.mg_of X G aC_Cells,
    c_Journal := c_Journal,
    g_Journal := PySem.W.mg_of X G aC_Journal,
    ox_Fault := ⟨⟨_, _, _, _, _, _, _, _, _, _, _, _, _, _, _, w1oe, w2rv⟩, w3os, w4ob, w5ot, w6ok⟩,
    in_Fault := w7in,
    ti_Fault := w8ti,
    on_Fault_code := w9on,
    xf_Fault := ⟨w10xg, w11xh, w12xe, w13xd⟩,
    ex_Fault_Fault := exm_two w14eb w15ei w16et w17es,
    ex_PowerCut_Fault := exm_two w18eb w19ei w20et w21es,
    x_PowerCut := ⟨w22x, w23kx, w24be, w25ty⟩,
    cl_Heap := ⟨w26pg, w27hd, w28po, w29sa⟩,
    mk_Heap := ⟨w30mk, w31in, w32fi, w33kc⟩,
    me_Heap_numbers := ⟨w34at, w35fn, w36km⟩,
    me_Heap_used := ⟨w37at, w38fn, w39km⟩,
    me_Heap_kind := ⟨w40at, w41fn, w42km⟩,
    me_Heap_owner := ⟨w43at, w44fn, w45km⟩,
    me_Heap_size := ⟨w46at, w47fn, w48km⟩,
    me_Heap_read := ⟨w49at, w50fn, w51km⟩,
    me_Heap_write := ⟨w52at, w53fn, w54km⟩,
    me_Heap_fill := ⟨w55at, w56fn, w57km⟩,
    me_Heap_make := ⟨w58at, w59fn, w60km⟩,
    me_Heap_reached := ⟨w61at, w62fn, w63km⟩,
    me_Heap_collect := ⟨w64at, w65fn, w66km⟩,
    me_Heap__half := ⟨w67at, w68fn, w69km⟩,
    me_Heap__table := ⟨w70at, w71fn, w72km⟩,
    me_Heap__room := ⟨w73at, w74fn, w75km⟩,
    me_Heap__place := ⟨w76at, w77fn, w78km⟩,
    me_Heap__temp := ⟨w79at, w80fn, w81km⟩,
    me_Heap__references := ⟨w82at, w83fn, w84km⟩,
    me_Heap__words := ⟨w85at, w86fn, w87km⟩,
    nf_Heap_cells := w88na,
    nf_Heap_journal := w89na,
    nf_Heap_start := w90na,
    nf_Heap_temps := w91na,
    cl_Cells := ⟨w92pg, w93hd, w94po, w95sa⟩,
    mk_Cells := ⟨w96mk, w97in, w98fi, w99kc⟩,
    me_Cells_read := ⟨w100at, w101fn, w102km⟩,
    me_Cells_write := ⟨w103at, w104fn, w105km⟩,
    nf_Cells_words := w106na,
    nf_Cells_left := w107na,
    nf_Cells_on := w108na,
    cl_Journal := ⟨w109pg, w110hd, w111po, w112sa⟩,
    mk_Journal := ⟨w113mk, w114in, w115fi, w116kc⟩,
    me_Journal_change := ⟨w117at, w118fn, w119km⟩,
    nf_Journal_cells := w120na,
    nf_Journal_start := w121na,
    nf_Journal_open := w122na,
    m_abs := PySem.W.mg_none_of X G z0,
    m_enumerate := PySem.W.mg_none_of X G z1,
    m_int := PySem.W.mg_none_of X G z2,
    m_len := PySem.W.mg_none_of X G z3,
    m_list := PySem.W.mg_none_of X G z4,
    m_min := PySem.W.mg_none_of X G z5,
    m_range := PySem.W.mg_none_of X G z6,
    m_sorted := PySem.W.mg_none_of X G z7,
    m_sum := PySem.W.mg_none_of X G z8,
    m_tuple := PySem.W.mg_none_of X G z9,
    t_MOST_BUFFER := tk0,
    g_MOST_BUFFER := PySem.W.mg_of X G y0,
    t_MOST_CELLS := tk1,
    g_MOST_CELLS := PySem.W.mg_of X G y1,
    t_MOST_OBJECTS := tk2,
    g_MOST_OBJECTS := PySem.W.mg_of X G y2,
    t_MOST_LOG := tk3,
    g_MOST_LOG := PySem.W.mg_of X G y3,
    t_ROOM := tk4,
    g_ROOM := PySem.W.mg_of X G y4,
    t_TRANSACTION := tk5,
    g_TRANSACTION := PySem.W.mg_of X G y5,
    t_BYTES := tk6,
    g_BYTES := PySem.W.mg_of X G y6,
    t_TEMP := tk7,
    g_TEMP := PySem.W.mg_of X G y7,
    t_BUFFER := tk8,
    g_BUFFER := PySem.W.mg_of X G y8,
    t_HEAD_CELLS := tk9,
    g_HEAD_CELLS := PySem.W.mg_of X G y9,
    t_HALF_CELLS := tk10,
    g_HALF_CELLS := PySem.W.mg_of X G y10,
    t_HEAP_CELLS := tk11,
    g_HEAP_CELLS := PySem.W.mg_of X G y11 }
  exact ⟨T.d_law, fun s v => .of_eq rfl, fun base _ _ => ok_law T⟩
end
end My
open PySem PySem.W PyProof.Rows
set_option maxHeartbeats 0 in
theorem PySem.Challenge.cw_warycard_k72_heap_holds : PySem.Challenge.rw_warycard_k72_heap.Holds := by
  w_on; o_law; k_head; (case hw => w_witness2)
  k_fill
  refine L2.walk_of (l := PySem.Challenge.rw_warycard_k72_heap) (n := 63) (k := 11) (x := "_law_script") (CX := fun _ => L2.CX0) (sp := fun w => My.sp_law _) rfl (by decide) rfl ⟨rfl, by decide, by decide⟩ (fun w h Y => PySem.W.kIn_of Y) ?F (fun _ _ a ns hl _ hS => ⟨a, ns, rfl, hS, hl, fun _ => rfl⟩) (fun _ _ _ _ _ h => h)
  case F =>
    intro w mg fa h KX G hmg
    refine' My.all_mk KX G hmg ?a0 ?l0 ?c0 ?k0 ?l1 ?c1 ?k1 ?l2 ?c2 ?k2 ?l3 ?c3 ?k3 ?l4 ?c4 ?k4 ?l5 ?c5 ?k5 ?l6 ?c6 ?k6 ?l7 ?c7 ?k7 ?l8 ?c8 ?k8 ?l9 ?c9 ?k9 ?l10 ?c10 ?k10 ?l11 ?c11 ?k11 ?l12 ?c12 ?k12 ?l13 ?c13 ?k13 ?l14 ?c14 ?k14 ?l15 ?c15 ?k15 ?l16 ?c16 ?k16 ?l17 ?c17 ?k17 ?l18 ?c18 ?k18 ?l19 ?c19 ?k19 ?l20 ?c20 ?k20 ?l21 ?c21 ?k21 ?l22 ?c22 ?k22 ?l23 ?c23 ?k23 ?l24 ?c24 ?k24 ?l25 ?c25 ?k25 ?a26 ?l26 ?c26 ?k26 ?a27 ?l27 ?c27 ?k27 ?a28 ?l28 ?c28 ?k28 ?a29 ?l29 ?c29 ?k29 ?a30 ?l30 ?c30 ?k30 ?a31 ?l31 ?c31 ?k31 ?a32 ?l32 ?c32 ?k32 ?a33 ?l33 ?c33 ?k33 ?a34 ?l34 ?c34 ?k34 ?aC_CardError ?aC_Fault ?aC_PowerCut ?aC_Heap ?aC_Cells ?aC_Journal ?w1oe ?w2rv ?w3os ?w4ob ?w5ot ?w6ok ?w7in ?w8ti ?w9on ?w10xg ?w11xh ?w12xe ?w13xd ?w14eb ?w15ei ?w16et ?w17es ?w18eb ?w19ei ?w20et ?w21es ?w22x ?w23kx ?w24be ?w25ty ?w26pg ?w27hd ?w28po ?w29sa ?w30mk ?w31in ?w32fi ?w33kc ?w34at ?w35fn ?w36km ?w37at ?w38fn ?w39km ?w40at ?w41fn ?w42km ?w43at ?w44fn ?w45km ?w46at ?w47fn ?w48km ?w49at ?w50fn ?w51km ?w52at ?w53fn ?w54km ?w55at ?w56fn ?w57km ?w58at ?w59fn ?w60km ?w61at ?w62fn ?w63km ?w64at ?w65fn ?w66km ?w67at ?w68fn ?w69km ?w70at ?w71fn ?w72km ?w73at ?w74fn ?w75km ?w76at ?w77fn ?w78km ?w79at ?w80fn ?w81km ?w82at ?w83fn ?w84km ?w85at ?w86fn ?w87km ?w88na ?w89na ?w90na ?w91na ?w92pg ?w93hd ?w94po ?w95sa ?w96mk ?w97in ?w98fi ?w99kc ?w100at ?w101fn ?w102km ?w103at ?w104fn ?w105km ?w106na ?w107na ?w108na ?w109pg ?w110hd ?w111po ?w112sa ?w113mk ?w114in ?w115fi ?w116kc ?w117at ?w118fn ?w119km ?w120na ?w121na ?w122na ?z0 ?z1 ?z2 ?z3 ?z4 ?z5 ?z6 ?z7 ?z8 ?z9 ?y0 ?y1 ?y2 ?y3 ?y4 ?y5 ?y6 ?y7 ?y8 ?y9 ?y10 ?y11
    (case a0 => k_is); (case a26 => k_is); (case a27 => k_is); (case a28 => k_is); (case a29 => k_is); (case a30 => k_is); (case a31 => k_is); (case a32 => k_is); (case a33 => k_is); (case a34 => k_is); (case aC_CardError => k_is); (case aC_Fault => k_is); (case aC_PowerCut => k_is); (case aC_Heap => k_is); (case aC_Cells => k_is); (case aC_Journal => k_is); (case z0 => k_is); (case z1 => k_is); (case z2 => k_is); (case z3 => k_is); (case z4 => k_is); (case z5 => k_is); (case z6 => k_is); (case z7 => k_is); (case z8 => k_is); (case z9 => k_is); (case y0 => k_is); (case y1 => k_is); (case y2 => k_is); (case y3 => k_is); (case y4 => k_is); (case y5 => k_is); (case y6 => k_is); (case y7 => k_is); (case y8 => k_is); (case y9 => k_is); (case y10 => k_is); (case y11 => k_is); (case w7in => k_is); (case w31in => k_is); (case w34at => k_is); (case w37at => k_is); (case w40at => k_is); (case w43at => k_is); (case w46at => k_is); (case w49at => k_is); (case w52at => k_is); (case w55at => k_is); (case w58at => k_is); (case w61at => k_is); (case w64at => k_is); (case w67at => k_is); (case w70at => k_is); (case w73at => k_is); (case w76at => k_is); (case w79at => k_is); (case w82at => k_is); (case w85at => k_is); (case w97in => k_is); (case w100at => k_is); (case w103at => k_is); (case w114in => k_is); (case w117at => k_is); (case l0 => k_is); (case l1 => k_is); (case l2 => k_is); (case l3 => k_is); (case l4 => k_is); (case l5 => k_is); (case l6 => k_is); (case l7 => k_is); (case l8 => k_is); (case l9 => k_is); (case l10 => k_is); (case l11 => k_is); (case l12 => k_is); (case l13 => k_is); (case l14 => k_is); (case l15 => k_is); (case l16 => k_is); (case l17 => k_is); (case l18 => k_is); (case l19 => k_is); (case l20 => k_is); (case l21 => k_is); (case l22 => k_is); (case l23 => k_is); (case l24 => k_is); (case l25 => k_is); (case l26 => k_is); (case l27 => k_is); (case l28 => k_is); (case l29 => k_is); (case l30 => k_is); (case l31 => k_is); (case l32 => k_is); (case l33 => k_is); (case l34 => k_is); (case w1oe => k_is); (case c0 => k_is); (case k0 => k_is); (case c1 => k_is); (case k1 => k_is); (case c2 => k_is); (case k2 => k_is); (case c3 => k_is); (case k3 => k_is); (case c4 => k_is); (case k4 => k_is); (case c5 => k_is); (case k5 => k_is); (case c6 => k_is); (case k6 => k_is); (case c7 => k_is); (case k7 => k_is); (case c8 => k_is); (case k8 => k_is); (case c9 => k_is); (case k9 => k_is); (case c10 => k_is); (case k10 => k_is); (case c11 => k_is); (case k11 => k_is); (case c12 => k_is); (case k12 => k_is); (case c13 => k_is); (case k13 => k_is); (case c14 => k_is); (case k14 => k_is); (case c15 => k_is); (case k15 => k_is); (case c16 => k_is); (case k16 => k_is); (case c17 => k_is); (case k17 => k_is); (case c18 => k_is); (case k18 => k_is); (case c19 => k_is); (case k19 => k_is); (case c20 => k_is); (case k20 => k_is); (case c21 => k_is); (case k21 => k_is); (case c22 => k_is); (case k22 => k_is); (case c23 => k_is); (case k23 => k_is); (case c24 => k_is); (case k24 => k_is); (case c25 => k_is); (case k25 => k_is); (case c26 => k_is); (case k26 => k_is); (case c27 => k_is); (case k27 => k_is); (case c28 => k_is); (case k28 => k_is); (case c29 => k_is); (case k29 => k_is); (case c30 => k_is); (case k30 => k_is); (case c31 => k_is); (case k31 => k_is); (case c32 => k_is); (case k32 => k_is); (case c33 => k_is); (case k33 => k_is); (case c34 => k_is); (case k34 => k_is); (case w2rv => rfl); (case w3os => k_is); (case w4ob => k_is); (case w5ot => k_is); (case w6ok => k_is); (case w8ti => k_is); (case w9on => k_is); (case w10xg => k_is); (case w11xh => k_is); (case w12xe => k_is); (case w13xd => k_is); (case w14eb => k_is); (case w15ei => k_is); (case w16et => k_is); (case w17es => first | rfl | k_is); (case w18eb => k_is); (case w19ei => k_is); (case w20et => k_is); (case w21es => first | rfl | k_is); (case w22x => k_exc); (case w23kx => k_is); (case w24be => k_is); (case w25ty => k_is); (case w26pg => k_is); (case w27hd => k_is); (case w28po => k_is); (case w29sa => k_is); (case w30mk => k_is); (case w32fi => k_is); (case w33kc => k_is); (case w35fn => k_is); (case w36km => k_is); (case w38fn => k_is); (case w39km => k_is); (case w41fn => k_is); (case w42km => k_is); (case w44fn => k_is); (case w45km => k_is); (case w47fn => k_is); (case w48km => k_is); (case w50fn => k_is); (case w51km => k_is); (case w53fn => k_is); (case w54km => k_is); (case w56fn => k_is); (case w57km => k_is); (case w59fn => k_is); (case w60km => k_is); (case w62fn => k_is); (case w63km => k_is); (case w65fn => k_is); (case w66km => k_is); (case w68fn => k_is); (case w69km => k_is); (case w71fn => k_is); (case w72km => k_is); (case w74fn => k_is); (case w75km => k_is); (case w77fn => k_is); (case w78km => k_is); (case w80fn => k_is); (case w81km => k_is); (case w83fn => k_is); (case w84km => k_is); (case w86fn => k_is); (case w87km => k_is); (case w88na => k_is); (case w89na => k_is); (case w90na => k_is); (case w91na => k_is); (case w92pg => k_is); (case w93hd => k_is); (case w94po => k_is); (case w95sa => k_is); (case w96mk => k_is); (case w98fi => k_is); (case w99kc => k_is); (case w101fn => k_is); (case w102km => k_is); (case w104fn => k_is); (case w105km => k_is); (case w106na => k_is); (case w107na => k_is); (case w108na => k_is); (case w109pg => k_is); (case w110hd => k_is); (case w111po => k_is); (case w112sa => k_is); (case w113mk => k_is); (case w115fi => k_is); (case w116kc => k_is); (case w118fn => k_is); (case w119km => k_is); (case w120na => k_is); (case w121na => k_is); (case w122na => k_is)
#print axioms PySem.Challenge.cw_warycard_k72_heap_holds
