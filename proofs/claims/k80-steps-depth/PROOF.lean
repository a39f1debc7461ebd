import PyProof.Rows.All
import Wide.All
import OpenK.AllK
import Wide.FinOn
import HandS.ForMost
import HandS.Wide
import HandS.IsInst
import HandS.Walk
import HandS.Codes
import HandS.ForExc
import HandS.Style
import HandS.ExcInit
import HandS.ExcField
import HandS.RevRange
import HandS.Conv
import HandS.Deep
import HandS.Text
import HandS.StrMore
import HandS.More
import HandS.Iter
import HandS.CallLocal
import HandS.SortInts
import HandS.WordsDict
import HandS.Replace
import HandS.TupAny
import KE.GoesMore
import PyProof.EnumMake
import HandS.SuiteRaise
import HandS.RaiseFrom
import HandS.ExcInitHot
import HandS.HotCalls
import KE.KAsSuite
import HandS.Head0
import HandS.Head1
import HandS.Head2
import HandS.HeadEnd
import HandS.HeadHook1
import HandS.HeadHook2
import PySem.Challenge.RW_warycard_k80_steps_and_depth
set_option Elab.async false
set_option maxRecDepth 100000
set_option maxHeartbeats 4000000
namespace My
open PySem PySem.Spec PyProof.Rows L2
/-! ### readings -/
theorem OpR.imp' {X : Cx} {f : Value → Value → Sem Value} {r r' : R2} (h : OpR X f r) (i : ∀ x y H Q, r' x y H Q → r x y H Q) : OpR X f r' := fun pins s σ H x y u v Q I rx ry q => h pins s σ H x y u v Q I rx ry (i _ _ _ _ q)
theorem op_modP {X : Cx} : OpR X (binaryOp .Mod) (rI (fun _ j => 0 < j) fun i j => .int (i % j)) := OpR.imp' op_modN fun x y H Q ⟨i, j, e1, e2, hj, q⟩ => ⟨i, j, e1, e2, by have hj : 0 < j := hj; show j ≠ 0; omega, by
  have hj : 0 < j := hj
  have e : i.fmod j = i % j := Int.fmod_eq_emod_of_nonneg i (by omega)
  show Q (V.int (i.fmod j)) H
  rw [e]; exact q⟩
theorem rdSeq {t u : TS} {D : Ends} {σ : L2.St} {H : Hp} (h : t { D with nx := u D } σ H) : tSeq t u D σ H := h
/-- all that was tracked is kept but the list at a, which holds three ints -/
def Bag (H : Hp) (a : Addr) : Prop := ∃ x y z : Int, H a = some (.lst [.int x, .int y, .int z])
structure Mv (a : Addr) (H H' : Hp) : Prop where
  bag : Bag H' a
  old : ∀ b o, b ≠ a → H b = some o → H' b = some o
theorem Mv.refl {a : Addr} {H : Hp} (h : Bag H a) : Mv a H H := ⟨h, fun _ _ _ e => e⟩
theorem Mv.trans {a : Addr} {H H1 H2 : Hp} (h : Mv a H H1) (k : Mv a H1 H2) : Mv a H H2 := ⟨k.bag, fun b o n e => k.old b o n (h.old b o n e)⟩
theorem Mv.new {a p : Addr} {o : HO} {H H1 : Hp} (h : Mv a H H1) (n : H1 p = none) : Mv a H (upd H1 p o) := by
  obtain ⟨x, y, z, e⟩ := h.bag
  have ne : a ≠ p := fun q => by subst q; rw [n] at e; cases e
  exact ⟨⟨x, y, z, by rw [upd_ne ne]; exact e⟩, fun b u hb hu => by
    have := h.old b u hb hu
    rw [upd_ne (ne_of_none this n)]; exact this⟩
theorem Mv.ne {a p : Addr} {H H1 : Hp} (h : Mv a H H1) (n : H1 p = none) : p ≠ a := fun q => by
  obtain ⟨x, y, z, e⟩ := h.bag
  subst q; rw [n] at e; cases e
theorem Mv.free {a p : Addr} {H H1 : Hp} (h : Mv a H H1) (n : H1 p = none) : H p = none := by
  cases e : H p with
  | none => rfl
  | some o => rw [h.old p o (h.ne n) e] at n; cases n
theorem bag_ne {a p : Addr} {H : Hp} (h : Bag H a) (n : H p = none) : p ≠ a := fun q => by
  obtain ⟨x, y, z, e⟩ := h
  subst q; rw [n] at e; cases e
theorem sqL_of {K : PySem.W.Frag} {H : Hp} {a : Addr} {xs : List V} (h : H a = some (.lst xs)) : SqL K H a xs := .inl (.inl h)
theorem sqT_of {K : PySem.W.Frag} {H : Hp} {a : Addr} {xs : List V} (h : H a = some (.tup xs)) : SqT K H a xs := .inl (.inl h)
def rIntA : List V → Hp → VK → Prop := fun xs H Q => ∃ x, xs = [x] ∧ match x with
  | .int i => Q (.int i) H
  | .bl k => Q (.int (if k = true then 1 else 0)) H
  | _ => False
theorem call_intI {X : Cx} : CallR X (.type "int") rIntA := fun pins s σ H xs us Q I r ⟨x, e, q⟩ => by
  cases x with
  | int i => exact call_int1 pins s σ H xs us Q I r (.inl ⟨i, e, q⟩)
  | bl k => exact call_int1 pins s σ H xs us Q I r (.inr ⟨k, e, q⟩)
  | _ => exact False.elim q
/-- len of a list, of a tuple -/
def rLenL (K : PySem.W.Frag) : List V → Hp → VK → Prop := fun xs H Q => ∃ p ys, xs = [.ref p] ∧ SqL K H p ys ∧ Q (.int ys.length) H
def rLenT (K : PySem.W.Frag) : List V → Hp → VK → Prop := fun xs H Q => ∃ p ys, xs = [.ref p] ∧ SqT K H p ys ∧ Q (.int ys.length) H
theorem call_lenL {X : Cx} : CallR X (.builtin "len") (rLenL X.K) := fun pins s σ H xs us Q I r ⟨p, ys, e, h, q⟩ => call_len_seq pins s σ H xs us Q I r ⟨p, ys, e, .inl h, q⟩
theorem call_lenT {X : Cx} : CallR X (.builtin "len") (rLenT X.K) := fun pins s σ H xs us Q I r ⟨p, ys, e, h, q⟩ => call_len_seq pins s σ H xs us Q I r ⟨p, ys, e, .inr h, q⟩
theorem i_lenL {K : PySem.W.Frag} {H : Hp} {Q : VK} {p : Addr} {ys : List V} (h : SqL K H p ys) (q : Q (.int ys.length) H) : rLenL K [.ref p] H Q := ⟨p, ys, rfl, h, q⟩
theorem i_lenT {K : PySem.W.Frag} {H : Hp} {Q : VK} {p : Addr} {ys : List V} (h : SqT K H p ys) (q : Q (.int ys.length) H) : rLenT K [.ref p] H Q := ⟨p, ys, rfl, h, q⟩
theorem i_ixL {K : PySem.W.Frag} {H : Hp} {Q : VK} {p : Addr} {xs : List V} {i : Int} {v : V} (h : SqL K H p xs) (e : atI xs i = some v) (q : Q v H) : rIxL K (.ref p) (.int i) H Q := ⟨p, xs, i, v, rfl, rfl, h, e, q⟩
theorem i_ixT {K : PySem.W.Frag} {H : Hp} {Q : VK} {p : Addr} {xs : List V} {i : Int} {v : V} (h : SqT K H p xs) (e : atI xs i = some v) (q : Q v H) : rIxT K (.ref p) (.int i) H Q := ⟨p, xs, i, v, rfl, rfl, h, e, q⟩
theorem i_setL {H : Hp} {p : Addr} {xs : List V} {i : Int} {j : Nat} {v : V} {Q : Hp → Prop} (h : H p = some (.lst xs)) (e : ixN xs.length i = some j) (q : Q (upd H p (.lst (xs.set j v)))) : rSetL (.ref p) (.int i) v H Q := ⟨p, xs, i, j, rfl, rfl, h, e, q⟩
theorem i_lst {H : Hp} {xs : List V} {Q : VK} (hl : xs.length ≤ sizeLine) (q : ∀ p, H p = none → Q (.ref p) (upd H p (.lst xs))) : xs.length ≤ sizeLine ∧ ∀ p, H p = none → Q (.ref p) (upd H p (.lst xs)) := ⟨hl, q⟩
/-- an item at a drawn place of a written list -/
theorem at_of {α : Type} {xs : List α} {i : Int} (h0 : 0 ≤ i) (h1 : i < xs.length) : ∃ v, atI xs i = some v ∧ v ∈ xs := by
  obtain ⟨j, rfl⟩ := Int.eq_ofNat_of_zero_le h0
  have hi : j < xs.length := by omega
  exact ⟨xs[j], atI_nat (List.getElem?_eq_getElem hi), List.getElem_mem hi⟩
theorem pow18 : CPow 10 18 := ⟨by decide, by decide, by decide⟩
theorem cm_r {i j : Int} (h : decide (-(2 ^ 64) < j) && decide (j < 2 ^ 64) = true) : CMul i j := by
  simp only [Bool.and_eq_true, decide_eq_true_eq] at h
  exact .inr h
theorem cm_l {i j : Int} (h : decide (-(2 ^ 64) < i) && decide (i < 2 ^ 64) = true) : CMul i j := by
  simp only [Bool.and_eq_true, decide_eq_true_eq] at h
  exact .inl h
theorem i_isi {K : PySem.W.Frag} {H : Hp} {Q : VK} {x : V} {t c : String} {b : Bool} (ty : TyX K H x (.type t)) (hk : kitB t c = some b) (q : Q (.bl b) H) : rIsi K [x, .ty c] H Q := ⟨x, .ty c, .type t, .type c, b, rfl, .ty c, ty, kit_ty hk, q⟩
theorem ty_int {K : PySem.W.Frag} {H : Hp} {i : Int} : TyX K H (.int i) (.type "int") := .base (.int _)
theorem ty_bl {K : PySem.W.Frag} {H : Hp} {i : Bool} : TyX K H (.bl i) (.type "bool") := .base (.bl _)
theorem ty_str {K : PySem.W.Frag} {H : Hp} {i : Str} : TyX K H (.str i) (.type "str") := .base (.str _)
theorem ty_non {K : PySem.W.Frag} {H : Hp} : TyX K H .non (.type "NoneType") := .base .non
theorem kb_ii : kitB "int" "int" = some true := by decide +kernel
theorem kb_bi : kitB "bool" "int" = some true := by decide +kernel
theorem kb_ib : kitB "int" "bool" = some false := by decide +kernel
theorem kb_bb : kitB "bool" "bool" = some true := by decide +kernel
theorem pow17 : CPow 10 17 := ⟨by decide, by decide, by decide⟩
/-- for over range(n) -/
def rForR (lo : Int) (n : Nat) (g : TG) (tb : TS) : TS := fun D σ H => ∃ W : Nat → Nat → L2.St → Hp → Prop, (∃ m, W 0 m σ H) ∧ ∀ i m σ H, W i m σ H →
  ((Itr lo n).stop i H ∧ D.nx σ H) ∨ ((Itr lo n).go i H ∧ ∃ Nx : L2.St → Hp → Prop, (∀ σ' H', Nx σ' H' → ∃ m', m' < m ∧ W (i + 1) m' σ' H') ∧ ∀ x H', (Itr lo n).yld i H x H' → g x σ H' fun σ2 H2 => tb { D with nx := Nx, ct := Nx, bk := D.nx } σ2 H2)
theorem i_forR1 {ta : TA} {g : TG} {tb : TS} {D : Ends} {σ : L2.St} {H : Hp} (h : ta σ H fun vs H1 => ∃ j : Int, vs = [.int j] ∧ -(2 ^ 62) ≤ j ∧ j < 2 ^ 62 ∧ rForR 0 j.toNat g tb D σ H1) : tFor (iRng1 ta) g tb D σ H := h
theorem i_forR2 {ta : TA} {g : TG} {tb : TS} {D : Ends} {σ : L2.St} {H : Hp} (h : ta σ H fun vs H1 => ∃ i j : Int, vs = [.int i, .int j] ∧ (-(2 ^ 62) ≤ i ∧ i < 2 ^ 62 ∧ -(2 ^ 62) ≤ j ∧ j < 2 ^ 62) ∧ rForR i (j - i).toNat g tb D σ H1) : tFor (iRng2 ta) g tb D σ H := h
theorem i_loopR {lo : Int} {n : Nat} {j : Nat} {tb : TS} {D : Ends} {σ : L2.St} {H : Hp} (Pv : Nat → L2.St → Hp → Prop) (h0 : Pv 0 σ H)
    (hs : ∀ (i : Nat) σ H, i < n → Pv i σ H → tb { D with nx := Pv (i + 1), ct := Pv (i + 1), bk := D.nx } (σ.set j (some (.int (lo + i)))) H) (hd : ∀ σ H, Pv n σ H → D.nx σ H) : rForR lo n (gName j) tb D σ H := for_range Pv h0 hs hd
theorem i_else {c A B : Prop} [Decidable c] (h : ¬ c) (b : B) : if c then A else B := by rw [if_neg h]; exact b
theorem i_then {c A B : Prop} [Decidable c] (h : c) (a : A) : if c then A else B := by rw [if_pos h]; exact a
/-- two ways that meet -/
theorem i_both {c A B T : Prop} [Decidable c] (t : T) (h1 : c → T → A) (h2 : ¬ c → T → B) : if c then A else B := ite2 (fun h => h1 h t) (fun h => h2 h t)
theorem ty_tup {K : PySem.W.Frag} {H : Hp} {p : Addr} {xs : List V} (h : H p = some (.tup xs)) : TyX K H (.ref p) (.type "tuple") := .base (.tup h)
theorem ty_lst {K : PySem.W.Frag} {H : Hp} {p : Addr} {xs : List V} (h : H p = some (.lst xs)) : TyX K H (.ref p) (.type "list") := .base (.lst h)
theorem kb_ni : kitB "NoneType" "int" = some false := by decide +kernel
theorem kb_si : kitB "str" "int" = some false := by decide +kernel
theorem kb_li : kitB "list" "int" = some false := by decide +kernel
theorem kb_ti : kitB "tuple" "int" = some false := by decide +kernel
theorem kb_di : kitB "dict" "int" = some false := by decide +kernel
/-! ### loops by what is walked -/
def rForJ (J : It) (g : TG) (tb : TS) : TS := fun D σ H => ∃ W : Nat → Nat → L2.St → Hp → Prop, (∃ m, W 0 m σ H) ∧ ∀ i m σ H, W i m σ H →
  (J.stop i H ∧ D.nx σ H) ∨ (J.go i H ∧ ∃ Nx : L2.St → Hp → Prop, (∀ σ' H', Nx σ' H' → ∃ m', m' < m ∧ W (i + 1) m' σ' H') ∧ ∀ x H', J.yld i H x H' → g x σ H' fun σ2 H2 => tb { D with nx := Nx, ct := Nx, bk := D.nx } σ2 H2)
theorem tFor_J {wi : TI} {g : TG} {tb : TS} {D : Ends} {σ : L2.St} {H : Hp} : tFor wi g tb D σ H = wi σ H fun J H1 => rForJ J g tb D σ H1 := rfl
def rLcJ (J : It) (g : TG) (tt : TT) (te : TE) (vs : List Nat) : TE := fun σ H1 Q => ∀ D, H1 D = none → ∃ W : Nat → Nat → Hp → Prop, (∃ m, W 0 m (upd H1 D (.lst []))) ∧ ∀ i m H, W i m H →
  (J.stop i H ∧ Q (.ref D) H) ∨ (J.go i H ∧ ∃ Nx : Hp → Prop, (∀ H', Nx H' → ∃ m', m' < m ∧ W (i + 1) m' H') ∧ ∀ x H', J.yld i H x H' → g x (wipe σ vs) H' fun σ2 H2 => wipe σ2 vs = wipe σ vs ∧ tt σ2 H2 fun b H3 =>
    if b = true then te σ2 H3 fun y H4 => ∃ acc, H4 D = some (.lst acc) ∧ acc.length < sizeLine ∧ Nx (upd H4 D (.lst (acc ++ [y]))) else Nx H3)
theorem tLc_J {wi : TI} {g : TG} {tt : TT} {te : TE} {vs : List Nat} {σ : L2.St} {H : Hp} {Q : VK} : tLc wi g tt te vs σ H Q = wi σ H fun J H1 => rLcJ J g tt te vs σ H1 Q := rfl
theorem i_for {J : It} {n : Nat} {G : Hp → Prop} {Y : Nat → Hp → V → Hp → Prop} (w : Walk J n G Y) {j : Nat} {tb : TS} {D : Ends} {σ : L2.St} {H : Hp} (Pv : Nat → L2.St → Hp → Prop) (h0 : Pv 0 σ H) (hG : ∀ i σ H, i ≤ n → Pv i σ H → G H)
    (hs : ∀ i x σ H H', i < n → Pv i σ H → Y i H x H' → tb { D with nx := Pv (i + 1), ct := Pv (i + 1), bk := D.nx } (σ.set j (some x)) H') (hd : ∀ σ H, Pv n σ H → D.nx σ H) : rForJ J (gName j) tb D σ H := for_it w Pv h0 hG hs hd
theorem wipe_one {σ : L2.St} {j : Nat} {x : V} : wipe ((wipe σ [j]).set j (some x)) [j] = wipe σ [j] := by
  show ((σ.set j none).set j (some x)).set j none = σ.set j none
  rw [List.set_set, List.set_set]
def YL {α : Type} (l : List α) (r : α → V) : Nat → Hp → V → Hp → Prop := fun i H v H' => H' = H ∧ ∃ c, l[i]? = some c ∧ v = r c
/-- [e for x in ..], e without an effect -/
theorem i_lcL {α : Type} {J : It} {l : List α} {r : α → V} {G : Hp → Prop} (w : Walk J l.length G (YL l r)) {j : Nat} {te : TE} {σ : L2.St} {H : Hp} {Q : VK} (g : α → V) (hn : l.length < sizeLine) (hG : ∀ D ys, H D = none → G (upd H D (.lst ys)))
    (hs : ∀ c ∈ l, ∀ H1 (Q' : VK), Same H H1 → Q' (g c) H1 → te ((wipe σ [j]).set j (some (r c))) H1 Q') (q : ∀ D, H D = none → Q (.ref D) (upd H D (.lst (l.map g)))) : rLcJ J (gName j) tYes te [j] σ H Q := by
  intro D hD
  refine lc_it w (fun i H' => H' = upd H D (.lst ((l.take i).map g))) rfl (fun i H' _ e => by subst e; exact hG D _ hD) (fun i x H1 H2 hi e y => ?_) (fun H' e => by subst e; rw [List.take_length]; exact q D hD)
  obtain ⟨e2, c, hc, rfl⟩ := y
  subst e2
  refine ⟨wipe_one, hs c (List.mem_of_getElem? hc) H2 (fun y H4 => ∃ acc, H4 D = some (.lst acc) ∧ acc.length < sizeLine ∧ upd H4 D (.lst (acc ++ [y])) = upd H D (.lst ((l.take (i + 1)).map g))) (by subst e; intro b o h; rw [upd_ne (ne_of_none h hD)]; exact h) ?_⟩
  subst e
  refine ⟨_, upd_same, by rw [List.length_map, List.length_take]; omega, ?_⟩
  rw [upd_upd, List.take_add_one, hc, List.map_append]; rfl
/-- for x in ..: if not p: return False -/
theorem i_forall {α : Type} {J : It} {l : List α} {r : α → V} {G : Hp → Prop} (w : Walk J l.length G (YL l r)) {j : Nat} {tb : TS} {D : Ends} {σ : L2.St} {H : Hp} (p : α → Bool) (v : V) (hG : G H)
    (hs : ∀ c ∈ l, ∀ D' : Ends, (p c = true → D'.nx (σ.set j (some (r c))) H) → (p c = false → D'.rt v H) → tb D' (σ.set j (some (r c))) H) (h1 : l.all p = true → D.nx σ H ∧ ∀ u, D.nx (σ.set j u) H) (h2 : l.all p = false → D.rt v H) : rForJ J (gName j) tb D σ H := by
  refine i_for w (fun i σ' H' => H' = H ∧ (σ' = σ ∨ ∃ u, σ' = σ.set j u) ∧ ∀ c ∈ l.take i, p c = true) ⟨rfl, .inl rfl, by simp⟩ (fun i σ' H' _ h => by rw [h.1]; exact hG) ?_ ?_
  · rintro i x σ' H' H2 hi ⟨rfl, hσ, hp⟩ ⟨rfl, c, hc, rfl⟩
    have hm := List.mem_of_getElem? hc
    have es : σ'.set j (some (r c)) = σ.set j (some (r c)) := by
      rcases hσ with rfl | ⟨u, rfl⟩
      · rfl
      · rw [List.set_set]
    rw [es]
    refine hs c hm _ (fun hpc => ⟨rfl, .inr ⟨_, rfl⟩, fun d hd => ?_⟩) (fun hpc => h2 ?_)
    · rw [List.take_add_one, hc] at hd
      rcases List.mem_append.mp hd with h | h
      · exact hp d h
      · rw [List.mem_singleton.mp h]; exact hpc
    · rw [List.all_eq_false]
      exact ⟨c, hm, by rw [hpc]; simp⟩
  · rintro σ' H' ⟨rfl, hσ, hp⟩
    rw [List.take_length] at hp
    have h := h1 (List.all_eq_true.mpr hp)
    rcases hσ with rfl | ⟨u, rfl⟩
    · exact h.1
    · exact h.2 u
/-- [e for x in ..], e draws from the bag at a -/
theorem i_lcD {J : It} {n : Nat} {G : Hp → Prop} {Y : Nat → Hp → V → Hp → Prop} (w : Walk J n G Y) {a : Addr} {j : Nat} {te : TE} {σ : L2.St} {H : Hp} {Q : VK} (hB : Bag H a) (P : V → Prop) (hn : n < sizeLine) (hG : ∀ H', Mv a H H' → G H') (hY : ∀ i H x H', Y i H x H' → H' = H)
    (hs : ∀ i x H1 (Q' : VK), i < n → Y i H1 x H1 → Mv a H H1 → (∀ y H2, P y → Mv a H1 H2 → Q' y H2) → te ((wipe σ [j]).set j (some x)) H1 Q') (q : ∀ D H' ys, H D = none → Mv a H H' → H' D = some (.lst ys) → ys.length = n → (∀ y ∈ ys, P y) → Q (.ref D) H') : rLcJ J (gName j) tYes te [j] σ H Q := by
  intro D hD
  have nD := bag_ne hB hD
  refine lc_it w (fun i H' => Mv a H H' ∧ ∃ ys, H' D = some (.lst ys) ∧ ys.length = i ∧ ∀ y ∈ ys, P y) ⟨(Mv.refl hB).new hD, [], upd_same, rfl, fun _ h => nomatch h⟩ (fun i H' _ e => hG H' e.1) (fun i x H1 H2 hi e y => ?_) (fun H' e => ?_)
  · have e2 := hY i H1 x H2 y
    subst e2
    obtain ⟨mv, ys, e1, e2, e3⟩ := e
    refine ⟨wipe_one, hs i x H2 (fun y H4 => ∃ acc, H4 D = some (.lst acc) ∧ acc.length < sizeLine ∧ (Mv a H (upd H4 D (.lst (acc ++ [y]))) ∧ ∃ ys, upd H4 D (.lst (acc ++ [y])) D = some (.lst ys) ∧ ys.length = i + 1 ∧ ∀ y ∈ ys, P y)) hi y mv fun v H3 hv mv3 => ?_⟩
    refine ⟨ys, mv3.old D _ nD e1, by omega, ?_⟩
    have m3 := mv.trans mv3
    refine ⟨⟨?_, fun b o hb e => ?_⟩, ys ++ [v], upd_same, by simp [e2], fun y hy => ?_⟩
    · obtain ⟨x1, x2, x3, hx⟩ := m3.bag
      exact ⟨x1, x2, x3, by rw [upd_ne nD.symm]; exact hx⟩
    · rw [upd_ne (ne_of_none e hD)]; exact m3.old b o hb e
    · rcases List.mem_append.mp hy with h | h
      · exact e3 y h
      · rw [List.mem_singleton.mp h]; exact hv
  · obtain ⟨mv, ys, e1, e2, e3⟩ := e
    exact q D H' ys hD mv e1 e2 e3
theorem rdCut {t u : TS} {D : Ends} {σ : L2.St} {H : Hp} (Mid : L2.St → Hp → Prop) (h : t { D with nx := Mid } σ H) (k : ∀ σ' H', Mid σ' H' → u D σ' H') : C8.tCut t u D σ H := ⟨Mid, h, k⟩
theorem pow9 : CPow 10 9 := ⟨by decide, by decide, by decide⟩
theorem pow8 : CPow 10 8 := ⟨by decide, by decide, by decide⟩
theorem pow12 : CPow 10 12 := ⟨by decide, by decide, by decide⟩
theorem walk_rangeL {lo : Int} {n : Nat} : Walk (Itr lo n) (List.range n).length (fun _ => True) (YL (List.range n) fun i => .int (lo + i)) := by
  rw [List.length_range]
  exact walk_range.mono (fun _ h => h) fun i H x H' hi _ y => ⟨y.1, i, by rw [List.getElem?_range hi], y.2⟩
theorem i_app {H : Hp} {l : Addr} {xs : List V} {v : V} {Q : VK} (h : H l = some (.lst xs)) (hz : xs.length < sizeLine) (q : Q .non (upd H l (.lst (xs ++ [v])))) : rAppend (.ref l) [v] H Q := ⟨l, xs, v, rfl, rfl, h, hz, q⟩
theorem ty_app {K : PySem.W.Frag} {H : Hp} {l : Addr} {xs : List V} (h : SqL K H l xs) : tyV K "list" (.ref l) H := .inl ⟨rfl, xs, h⟩
theorem i_slL {K : PySem.W.Frag} {H : Hp} {a : Addr} {xs : List V} {lo hi : Option Int} {Q : VK} (h : SqL K H a xs) (q : ∀ p, H p = none → Q (.ref p) (upd H p (.lst (cutV xs lo hi)))) : rSlL K (.ref a) lo hi H Q := ⟨a, xs, rfl, h, q⟩
theorem i_cat {H : Hp} {l b : Addr} {xs zs : List V} {Q : VK} (h1 : H l = some (.lst xs)) (h2 : H b = some (.lst zs)) (hz : xs.length + zs.length ≤ sizeLine) (q : ∀ p, H p = none → Q (.ref p) (upd H p (.lst (xs ++ zs)))) : rCat (.ref l) (.ref b) H Q := ⟨l, b, xs, zs, rfl, rfl, h1, h2, hz, q⟩
theorem i_inL {K : PySem.W.Frag} {neg : Bool} {x : V} {H : Hp} {p : Addr} {xs : List V} {Q : VK} (h : SqL K H p xs ∨ SqT K H p xs) (h1 : flatV x = true) (h2 : xs.all flatV = true) (q : Q (.bl (if neg then !inV x xs else inV x xs)) H) : rIn K neg x (.ref p) H Q := ⟨p, xs, rfl, h, h1, h2, q⟩
theorem cut_take {xs : List V} {n : Nat} : cutV xs none (some (n : Int)) = xs.take n := by
  unfold cutV
  rw [HT.sIx_none, HT.sIx_nat]
  simp only [List.drop_zero, Nat.sub_zero]
  rw [Nat.min_comm, ← List.take_take, List.take_of_length_le (by rw [List.length_take]; omega)]
theorem cut_drop {xs : List V} {n : Nat} : cutV xs (some (n : Int)) none = xs.drop n := by
  unfold cutV
  rw [HT.sIx_none, HT.sIx_nat]
  by_cases h : n ≤ xs.length
  · rw [Nat.min_eq_left h, List.take_of_length_le (by rw [List.length_drop]; omega)]
  · rw [Nat.min_eq_right (by omega), List.drop_of_length_le (by omega), List.drop_of_length_le (by omega)]; simp
theorem line5 {n : Nat} (h : n ≤ 100000) : n ≤ sizeLine := Nat.le_trans h (by decide)
theorem line5' {n : Nat} (h : n ≤ 100000) : n < sizeLine := Nat.lt_of_le_of_lt h (by decide)
/-! ### the same rules with the written part named (for a comprehension's block) -/
theorem ix_listK (K : PySem.W.Frag) {X : Cx} (h : X.K = K := by rfl) : IxR X (rIxL K) := h ▸ ix_list
theorem ix_tupK (K : PySem.W.Frag) {X : Cx} (h : X.K = K := by rfl) : IxR X (rIxT K) := h ▸ ix_tup
theorem sl_listK (K : PySem.W.Frag) {X : Cx} (h : X.K = K := by rfl) : SlR X (rSlL K) := h ▸ sl_list
theorem sl_tupK (K : PySem.W.Frag) {X : Cx} (h : X.K = K := by rfl) : SlR X (rSlT K) := h ▸ sl_tup
theorem lenLK (K : PySem.W.Frag) {X : Cx} (h : X.K = K := by rfl) : CallR X (.builtin "len") (rLenL K) := h ▸ call_lenL
theorem lenTK (K : PySem.W.Frag) {X : Cx} (h : X.K = K := by rfl) : CallR X (.builtin "len") (rLenT K) := h ▸ call_lenT
theorem isiK (K : PySem.W.Frag) {X : Cx} (h : X.K = K := by rfl) : CallR X (.builtin "isinstance") (rIsi K) := h ▸ call_isi
theorem isiTK (K : PySem.W.Frag) {X : Cx} (h : X.K = K := by rfl) : CallR X (.builtin "isinstance") (rIsiT K) := h ▸ call_isiT
theorem in_seqK (K : PySem.W.Frag) {X : Cx} (h : X.K = K := by rfl) : OpR X (compareOp .In) (rIn K false) := h ▸ op_in_seq
theorem notIn_seqK (K : PySem.W.Frag) {X : Cx} (h : X.K = K := by rfl) : OpR X (compareOp .NotIn) (rIn K true) := h ▸ op_notIn_seq
theorem i_indexS {K : PySem.W.Frag} {H : Hp} {Q : VK} {p : Addr} {l : List Str} {s : Str} {j : Nat} (h : SqL K H p (l.map V.str)) (hj : l[j]? = some s) (hn : s ∉ l.take j) (q : Q (.int (j : Nat)) H) : rIndex K (.ref p) [.str s] H Q := by
  refine ⟨p, _, .str s, j, .str s, rfl, rfl, h, rfl, ?_, by rw [List.getElem?_map, hj]; rfl, by simp [eqV], ?_, q⟩
  · rw [List.all_map, List.all_eq_true]; intro x _; rfl
  · intro m z hm hz
    rw [List.getElem?_map] at hz
    cases e : l[m]? with
    | none => rw [e] at hz; cases hz
    | some t =>
      rw [e] at hz
      have hz : V.str t = z := Option.some.inj hz
      subst hz
      show (t == s) = false
      rw [beq_eq_false_iff_ne]
      intro et; subst et
      exact hn (List.mem_of_getElem? (by rw [List.getElem?_take_of_lt hm]; exact e))
theorem walk_listL {K : PySem.W.Frag} {a : Addr} {α : Type} {l : List α} {r : α → V} : Walk (Itl K a) l.length (fun H => SqL K H a (l.map r)) (YL l r) := by
  have w := walk_list (K := K) (a := a) (xs := l.map r)
  rw [List.length_map] at w
  exact w.mono (fun _ h => h) fun i H x H' hi _ y => ⟨y.1, l[i], List.getElem?_eq_getElem hi, by
    have := y.2
    rw [List.getElem?_map, List.getElem?_eq_getElem hi] at this
    exact (Option.some.inj this).symm⟩
theorem walk_tupL {K : PySem.W.Frag} {a : Addr} {α : Type} {l : List α} {r : α → V} : Walk (Itt K a) l.length (fun H => SqT K H a (l.map r)) (YL l r) := by
  have w := walk_tup (K := K) (a := a) (xs := l.map r)
  rw [List.length_map] at w
  exact w.mono (fun _ h => h) fun i H x H' hi _ y => ⟨y.1, l[i], List.getElem?_eq_getElem hi, by
    have := y.2
    rw [List.getElem?_map, List.getElem?_eq_getElem hi] at this
    exact (Option.some.inj this).symm⟩
theorem dpStrs {K : PySem.W.Frag} {H : Hp} : ∀ l : List Str, DpAll K H (l.map V.str) (l.map PyData.str)
  | [] => .nil
  | x :: l => .cons (.str x) (dpStrs l)
theorem dpInts {K : PySem.W.Frag} {H : Hp} : ∀ l : List Int, DpAll K H (l.map V.int) (l.map PyData.int)
  | [] => .nil
  | x :: l => .cons (.int x) (dpInts l)
theorem kb_tt : kitB "tuple" "tuple" = some true := by decide +kernel
theorem pow15 : CPow 10 15 := ⟨by decide, by decide, by decide⟩
theorem sc_ii {a b : Int} : scal (.int a) (.int b) = true := rfl
theorem sc_ss {a b : Str} : scal (.str a) (.str b) = true := rfl
theorem sc_bb {a b : Bool} : scal (.bl a) (.bl b) = true := rfl
theorem sc_in {a : Int} : scal (.int a) .non = true := rfl
theorem sc_ni {a : Int} : scal .non (.int a) = true := rfl
theorem sc_nn : scal .non .non = true := rfl
theorem sc_is {a : Int} {b : Str} : scal (.int a) (.str b) = true := rfl
theorem sc_si {a : Int} {b : Str} : scal (.str b) (.int a) = true := rfl
theorem sc_ns {b : Str} : scal .non (.str b) = true := rfl
theorem sc_sn {b : Str} : scal (.str b) .non = true := rfl
theorem sc_bn {b : Bool} : scal (.bl b) .non = true := rfl
theorem sc_nb {b : Bool} : scal .non (.bl b) = true := rfl
theorem sc_sb {b : Bool} {a : Str} : scal (.str a) (.bl b) = true := rfl
theorem sc_bs {b : Bool} {a : Str} : scal (.bl b) (.str a) = true := rfl
/-- a new list at p, all else kept -/
structure NewL (H H' : Hp) (p : Addr) (xs : List V) : Prop where
  free : H p = none
  same : Same H H'
  at_ : H' p = some (.lst xs)
theorem NewL.sq {K : PySem.W.Frag} {H H' : Hp} {p : Addr} {xs : List V} (n : NewL H H' p xs) : SqL K H' p xs := sqL_of n.at_
theorem NewL.set {H H' : Hp} {p : Addr} {xs ys : List V} (n : NewL H H' p xs) : NewL H (upd H' p (.lst ys)) p ys := ⟨n.free, fun b o e => by rw [upd_ne (ne_of_none e n.free)]; exact n.same b o e, upd_same⟩
theorem NewL.more {H H' H2 : Hp} {p : Addr} {xs : List V} (n : NewL H H' p xs) (s : Same H' H2) : NewL H H2 p xs := ⟨n.free, n.same.trans s, s _ _ n.at_⟩
theorem same_new {H : Hp} {p : Addr} {o : HO} (n : H p = none) : Same H (upd H p o) := fun b u e => by rw [upd_ne (ne_of_none e n)]; exact e
theorem cut_all {xs : List V} : cutV xs (some 0) none = xs := cut_drop (n := 0)
theorem pow14 : CPow 10 14 := ⟨by decide, by decide, by decide⟩
theorem ixN_of {n j : Nat} (h : j < n) : ixN n (j : Int) = some j := by
  unfold ixN
  rw [if_pos (by omega), if_pos (by omega)]; simp

/-! ### texts -/
def chr1 (c : Nat) : Str := ⟨#[c]⟩
def rLeC : R2 := fun x y H Q => ∃ c d, x = .str ⟨#[c]⟩ ∧ y = .str ⟨#[d]⟩ ∧ Q (.bl (decide (c ≤ d))) H
theorem op_leC {X : Cx} : OpR X (compareOp .LtE) rLeC := OpR.imp' op_le_str fun x y H Q ⟨c, d, e1, e2, q⟩ => ⟨⟨#[c]⟩, ⟨#[d]⟩, e1, e2, by
  have e : (!decide ((⟨#[d]⟩ : Str).cps.toList < (⟨#[c]⟩ : Str).cps.toList)) = decide (c ≤ d) := by
    show (!decide ([d] < [c])) = decide (c ≤ d)
    have h : ([d] < [c]) ↔ d < c := by
      rw [List.cons_lt_cons_iff]
      constructor
      · rintro (h | ⟨_, h⟩)
        · exact h
        · exact absurd h (by simp)
      · exact fun h => .inl h
    by_cases hc : c ≤ d
    · have : ¬ ([d] < [c]) := fun k => by have := h.mp k; omega
      rw [decide_eq_true hc, decide_eq_false this]; rfl
    · have : [d] < [c] := h.mpr (by omega)
      rw [decide_eq_false hc, decide_eq_true this]; rfl
  show Q (V.bl _) H
  rw [e]; exact q⟩
theorem i_leC {x y : V} {c d : Nat} {H : Hp} {Q : VK} (e1 : x = .str ⟨#[c]⟩) (e2 : y = .str ⟨#[d]⟩) (q : Q (.bl (decide (c ≤ d))) H) : rLeC x y H Q := ⟨c, d, e1, e2, q⟩
def rOrdC : List V → Hp → VK → Prop := fun xs H Q => ∃ c : Nat, xs = [.str ⟨#[c]⟩] ∧ Q (.int c) H
theorem call_ordC {X : Cx} : CallR X (.builtin "ord") rOrdC := fun pins s σ H xs us Q I r ⟨c, e, q⟩ => call_ord pins s σ H xs us Q I r ⟨⟨#[c]⟩, e, rfl, q⟩
theorem i_ordC {x : V} {c : Nat} {H : Hp} {Q : VK} (e1 : x = .str ⟨#[c]⟩) (q : Q (.int c) H) : rOrdC [x] H Q := ⟨c, by rw [e1], q⟩
def rInC (neg : Bool) : R2 := fun x y H Q => ∃ (c : Nat) (z : Str), x = .str ⟨#[c]⟩ ∧ y = .str z ∧ Q (.bl (if neg then !decide (c ∈ z.cps.toList) else decide (c ∈ z.cps.toList))) H
theorem op_inC {X : Cx} : OpR X (compareOp .In) (rInC false) := op_in_sign
theorem op_notInC {X : Cx} : OpR X (compareOp .NotIn) (rInC true) := op_notIn_sign
theorem i_inC {x y : V} {neg : Bool} {c : Nat} {z : Str} {H : Hp} {Q : VK} (e1 : x = .str ⟨#[c]⟩) (e2 : y = .str z) (q : Q (.bl (if neg then !decide (c ∈ z.cps.toList) else decide (c ∈ z.cps.toList))) H) : rInC neg x y H Q := ⟨c, z, e1, e2, q⟩
def rLenS' : List V → Hp → VK → Prop := fun xs H Q => ∃ z : Str, xs = [.str z] ∧ z.length ≤ sizeLine ∧ Q (.int z.length) H
theorem call_lenS {X : Cx} : CallR X (.builtin "len") rLenS' := call_len_str
theorem i_lenS {x : V} {z : Str} {H : Hp} {Q : VK} (e1 : x = .str z) (hz : z.length ≤ sizeLine) (q : Q (.int z.length) H) : rLenS' [x] H Q := ⟨z, by rw [e1], hz, q⟩
theorem i_ixS {z : Str} {i : Int} {c : Nat} {H : Hp} {Q : VK} (hz : z.length ≤ sizeLine) (e : atI z.cps.toList i = some c) (q : Q (.str ⟨#[c]⟩) H) : rIxS (.str z) (.int i) H Q := ⟨z, i, c, rfl, rfl, hz, e, q⟩
/-- a sign at a drawn place -/
theorem at_chr {z : Str} {i : Int} (h0 : 0 ≤ i) (h1 : i < z.length) : ∃ c, atI z.cps.toList i = some c ∧ c ∈ z.cps.toList := at_of h0 (by rw [Array.length_toList]; exact h1)
theorem walk_chars {z : Str} : Walk (Its z) z.cps.toList.length (fun _ => True) (YL z.cps.toList fun c => .str ⟨#[c]⟩) := by
  rw [Array.length_toList]
  exact walk_str.mono (fun _ h => h) fun i H x H' _ _ ⟨e, c, h, hv⟩ => ⟨e, c, by rw [Array.getElem?_toList]; exact h, hv⟩
def rJoin (K : PySem.W.Frag) : V → List V → Hp → VK → Prop := fun x xs H Q => ∃ a p, ∃ ys : List Str, x = .str a ∧ xs = [.ref p] ∧ (SqL K H p (ys.map V.str) ∨ SqT K H p (ys.map V.str)) ∧
      (ys.map (·.length)).sum + ys.length * a.length ≤ 16777216 ∧ Q (.str (Txt.join a ys)) H
theorem pe_joinR {X : Cx} {o e : Expr} {to te : TE} {apos pos : Pos} (ho : PE X o to) (he : PE X e te) (hs : starEach [e] X.env = [(false, eval e X.env)] := by rfl) (hbase : attributeBase o "join" X.env (eval o X.env) = eval o X.env := by rfl) (hline : (apos.endLine == pos.line) = true := by rfl) :
    PE X (.Call (.Attribute o "join" apos) [e] [] pos) (tM1 (rJoin X.K) to te) := pe_join ho he hs hbase hline
theorem kb_ss : kitB "str" "str" = some true := by decide +kernel
theorem kb_bs : kitB "bool" "str" = some false := by decide +kernel
theorem kb_ns : kitB "NoneType" "str" = some false := by decide +kernel
theorem kb_is : kitB "int" "str" = some false := by decide +kernel
theorem kb_ls : kitB "list" "str" = some false := by decide +kernel
theorem kb_ts : kitB "tuple" "str" = some false := by decide +kernel
theorem kb_ds : kitB "dict" "str" = some false := by decide +kernel
theorem i_all {K : PySem.W.Frag} {H : Hp} {Q : VK} {p : Addr} {bs : List Bool} (h : H p = some (.lst (bs.map V.bl))) (q : Q (.bl (bs.all id)) H) : rAll K [.ref p] H Q := ⟨p, bs, rfl, sqL_of h, q⟩
theorem strs_of {P : Str → Prop} : ∀ {ys : List V}, (∀ y ∈ ys, ∃ s, y = .str s ∧ P s) → ∃ zs : List Str, ys = zs.map V.str ∧ ∀ s ∈ zs, P s
  | [], _ => ⟨[], rfl, fun _ h => nomatch h⟩
  | y :: ys, h => by
    obtain ⟨s, rfl, hs⟩ := h y List.mem_cons_self
    obtain ⟨zs, rfl, hz⟩ := strs_of (ys := ys) fun y hy => h y (List.mem_cons_of_mem _ hy)
    exact ⟨s :: zs, rfl, fun t ht => by
      rcases List.mem_cons.mp ht with rfl | ht
      · exact hs
      · exact hz t ht⟩
theorem joinL_nil : ∀ ps : List (List Nat), TL.joinL [] ps = ps.flatten
  | [] => rfl
  | [p] => by simp [TL.joinL]
  | p :: q :: r => by
    show p ++ ([] ++ TL.joinL [] (q :: r)) = _
    rw [joinL_nil (q :: r)]; simp
theorem join_cl (ys : List Str) : (Txt.join Str.empty ys).cps.toList = (ys.map fun s => s.cps.toList).flatten := by
  rw [TL.join_eq]
  have e := TL.tl_join Str.empty ys
  have e2 : TL.tl Str.empty = [] := rfl
  rw [e2, joinL_nil] at e
  exact e
theorem cl_append (a b : Str) : (a ++ b).cps.toList = a.cps.toList ++ b.cps.toList := TL.tl_append a b
theorem cl_length (a : Str) : a.cps.toList.length = a.length := Array.length_toList
theorem len_append (a b : Str) : (a ++ b).length = a.length + b.length := by rw [← cl_length, cl_append, List.length_append, cl_length, cl_length]
theorem mem_cut {z : Str} {lo hi : Option Int} {c : Nat} (h : c ∈ (cutS z lo hi).cps.toList) : c ∈ z.cps.toList := by
  unfold cutS at h
  exact List.mem_of_mem_drop (List.mem_of_mem_take (by simpa using h))
theorem i_slS {z : Str} {lo hi : Option Int} {H : Hp} {Q : VK} (hz : z.length ≤ sizeLine) (q : Q (.str (cutS z lo hi)) H) : rSlS (.str z) lo hi H Q := ⟨z, rfl, hz, q⟩

/-! ### fields, methods and exceptions, the written part named -/
section
variable {X : Cx} {K : PySem.W.Frag}
theorem pe_fldK (K : PySem.W.Frag) {e : Expr} {ta : TE} {f : Str} {pos : Pos} (he : PE X e ta) (hb : attributeBase e f X.env (eval e X.env) = eval e X.env) (hK : X.K = K := by rfl) : PE X (.Attribute e f pos) (tFld K ta f) := by
  have h := pe_fld (pos := pos) he hb
  rw [hK] at h
  exact h
theorem ps_fldK (K : PySem.W.Frag) {o value : Expr} {ta tv : TE} {f : Str} {pos pos' : Pos} (ha : PE X o ta) (hv : PE X value tv) (hs : swapsWith value (some (.Attribute o f pos')) pos.line X.env = pure false) (hK : X.K = K := by rfl) : PS X (.Assign [.Attribute o f pos'] value pos) (sFld K ta tv f) := by
  have h := ps_fld (pos := pos) ha hv hs
  rw [hK] at h
  exact h
theorem ps_fldaugK (K : PySem.W.Frag) {o value : Expr} {ta tv : TE} {f : Str} {pos tpos : Pos} {op : Operator} {rd : V → V → Hp → VK → Prop} (ha : PE X o ta) (hv : PE X value tv) (hop : InOp X op rd) (hK : X.K = K := by rfl) : PS X (.AugAssign (.Attribute o f tpos) op value pos) (sFldAug K ta tv rd f) := by
  have h := ps_fldaug (f := f) (pos := pos) (tpos := tpos) ha hv hop
  rw [hK] at h
  exact h
theorem pe_bmK (K : PySem.W.Frag) {T id : String} {name : Str} {r : V → List V → Hp → VK → Prop} {o e : Expr} {es : List Expr} {to : TE} {t : TA} {apos cpos : Pos} (pa : PlainAttrs T) (slot : Slot T name id) (hty : typeOf (.builtin id) = pure (.type "method_descriptor")) (hm : MtR X id r) (ho : PE X o to) (ha : PA X (e :: es) t)
    (hbase : attributeBase o name X.env (eval o X.env) = eval o X.env := by rfl)
    (hfew : ((backTo cpos (starEach (e :: es) X.env)).all (fun x => !x.1) && (backToKw cpos (keywordEach [] X.env)).all (fun x => x.1.isSome)
      && decide ((e :: es).length + ([] : List Keyword).length + (if ([] : List Keyword).isEmpty then 0 else 1) < 30)) = true := by rfl)
    (hline : (apos.endLine == cpos.line) = true := by rfl) (hs : starEach (e :: es) X.env = (false, eval e X.env) :: starEach es X.env := by rfl) (hplain : (backTo cpos (starEach es X.env)).any (·.1) = false := by rfl) (hK : X.K = K := by rfl) :
    PE X (.Call (.Attribute o name apos) (e :: es) [] cpos) (tBM K T r to t) := by
  have h := pe_bm pa slot hty hm ho ha hbase hfew hline hs hplain
  rw [hK] at h
  exact h
theorem pe_bm0K (K : PySem.W.Frag) {T id : String} {name : Str} {r : V → List V → Hp → VK → Prop} {o : Expr} {to : TE} {apos cpos : Pos} (pa : PlainAttrs T) (slot : Slot T name id) (hty : typeOf (.builtin id) = pure (.type "method_descriptor")) (hm : MtR X id r) (ho : PE X o to)
    (hbase : attributeBase o name X.env (eval o X.env) = eval o X.env := by rfl) (hline : (apos.endLine == cpos.line) = true := by rfl) (hK : X.K = K := by rfl) : PE X (.Call (.Attribute o name apos) [] [] cpos) (tBM0 K T r to) := by
  have h := pe_bm0 pa slot hty hm ho hbase hline
  rw [hK] at h
  exact h
/-- o.m(..) that may raise, what is raised wished for at the caller's slots -/
def tMethS (C : Addr) (m : Str) (sp : Sp) (E : L2.St → XK) (ta : TE) (t : TA) : TE := fun σ H Q => ta σ H fun x H1 => ∃ a dx fs, x = .ref a ∧ H1 a = some (.ins C dx fs) ∧ fs.lookup m = none ∧ t σ H1 fun vs H2 => sp (x :: vs) H2 Q (E σ)
variable {CX : CXT} {k : Nat} {f C : Addr} {fd : FuncData} {ps : List Str} {sp : Sp} {E : L2.St → XK} {m : Str} {pos apos : Pos} {e o : Expr} {es : List Expr} {ta : TE} {t : TA}
theorem pe_methS {pl : Sem Bool} (he : PE X o ta) (c : Cls X.K C) (hm : Meth X.K C m f) (F : FnOk X.prog X.w X.K X.mg X.base CX k f fd ps sp) (hr : Room k X.A) (hb : Binds X.K fd ps []) (hx : ∀ σ, PassesAt CX X σ (E σ)) (ha : PA X (e :: es) t)
    (hst : starEach (e :: es) X.env = (false, eval e X.env) :: starEach es X.env := by rfl) (hpl : (backTo pos (starEach es X.env)).any (·.1) = false := by rfl)
    (ht : eval (.Call (.Attribute o m apos) (e :: es) [] pos) X.env = (do
      let ov ← eval o X.env
      standAt apos.atName
      let (f, first) ← holding [ov] (getMethod ov m pl)
      callWith pos f first (backTo pos (starEach (e :: es) X.env)) (backToKw pos (keywordEach [] X.env))) := by rfl) :
    PE X (.Call (.Attribute o m apos) (e :: es) [] pos) (tMethS C m sp E ta t) := by
  refine ⟨fun pins s σ H Q I h => ?_⟩
  refine PySem.W.methodCall_KW (pl := pl) (thn (he.run pins s σ H _ I h) fun u s1 ⟨x, H1, I1, rx, a, dx, fs, ex, ea, l, q⟩ => ?_) ht
  subst ex
  obtain rfl : u = Value.ref a := rx
  refine getmeth_ok I1 ea c hm l ?_
  refine PySem.W.callWith_K (first := [.ref a]) (h₀ := X.base) I.ok.mod.kin hm.kp (thn (ha.run pos pins s1 σ H1 _ I1 q) fun us s2 ⟨vs, H2, I2, r, q2⟩ => ⟨I2.kIn, ?_⟩) hst hpl
  exact run_fnS (us := .ref a :: us) (vs := .ref a :: vs) F hr hb (hx σ) I2 (.cons rfl r) q2
theorem pe_meth0S {pl : Sem Bool} (he : PE X o ta) (c : Cls X.K C) (hm : Meth X.K C m f) (F : FnOk X.prog X.w X.K X.mg X.base CX k f fd ps sp) (hr : Room k X.A) (hb : Binds X.K fd ps []) (hx : ∀ σ, PassesAt CX X σ (E σ))
    (ht : eval (.Call (.Attribute o m apos) [] [] pos) X.env = (do
      let ov ← eval o X.env
      standAt apos.atName
      let (f, first) ← holding [ov] (getMethod ov m pl)
      callWith pos f first (backTo pos (starEach [] X.env)) (backToKw pos (keywordEach [] X.env))) := by rfl) :
    PE X (.Call (.Attribute o m apos) [] [] pos) (tMethS C m sp E ta tNil) := by
  refine ⟨fun pins s σ H Q I h => ?_⟩
  refine PySem.W.methodCall_KW (pl := pl) (thn (he.run pins s σ H _ I h) fun u s1 ⟨x, H1, I1, rx, a, dx, fs, ex, ea, l, q⟩ => ?_) ht
  subst ex
  obtain rfl : u = Value.ref a := rx
  refine getmeth_ok I1 ea c hm l ?_
  exact PySem.W.callWith_K0 (first := [.ref a]) I1.kIn hm.kp (run_fnS (us := [.ref a]) (vs := [.ref a]) F hr hb (hx σ) I1 (.cons rfl .nil) q)
theorem pe_call0S {x : Str} {p : Pos} (F : FnOk X.prog X.w X.K X.mg X.base CX k f fd ps sp) (hr : Room k X.A) (hg : Gl X x) (hm : X.mg x = some (.ref f)) (hk : PySem.W.keepIn X.K (.ref f) = true) (hb : Binds X.K fd ps []) (hx : ∀ σ, PassesAt CX X σ (E σ))
    (hdb : (x == ("__debug__" : Str)) = false := by decide) : PE X (.Call (.Name x p) [] [] pos) (tCallS sp E tNil) := by
  refine ⟨fun pins s σ H Q I h => ?_⟩
  refine wpAny_Call_Name_kw (ld_glob I hg hm ?_ hdb)
  exact PySem.W.callWith_K0 I.kIn hk (run_fnS (us := []) F hr hb (hx σ) I .nil h)
/-- X(), X an own exception class without own __init__ -/
theorem pmk_own0 {C : Addr} {bmB : List Value} {B newId initId : String} {x : Str} {p pos : Pos} (F : ExcBaseFacts B newId initId bmB) (q : PySem.W.excIn X.K C bmB newId = true) (gC : X.mg x = some (.ref C))
    (kC : PySem.W.keepIn X.K (.ref C) = true) (r : Raises X (.ref C)) (hg : Gl X x) (hdb : (x == ("__debug__" : Str)) = false := by decide) :
    PMk X (.Call (.Name x p) [] [] pos) (fun _ H Q => Q (.ref C) none H) := by
  intro pins s σ H Q I h
  refine wpAny_Call_Name_kw (ld_glob I hg gC ?_ hdb)
  refine PySem.W.callWith_K0 I.kIn kC ?_
  show wpAny _ _ (call (.ref C) []) _ _ _
  obtain ⟨bm, N, nm, qn, bs, hdct, sn, sub, ab, col, dd, k0, k1, k2, k3, k5, mN, hC, hN, hni, T⟩ := exc_obj I.kIn q
  refine wpAny_call_exc_subT F T hC hN hni (fun h' e hm => ?_) (Nat.zero_le _)
  exact mk_of I hm r h (I.hok.gone hm.new)
end
/-- an error of the class at B met by «except A» -/
theorem exm_two {K : PySem.W.Frag} {B A : Addr} {b : Bool} (h1 : PySem.W.subIn K (.ref A) (.type "BaseException") = some true) (h2 : PySem.W.isClsIn K A = true) (h3 : PySem.W.typeIn K (.ref A) = some (.type "type")) (h4 : PySem.W.subIn K (.ref B) (.ref A) = some b) :
    PySem.W.exmOne K (.ref B) (.ref A) = some b := by
  have e1 : (PySem.W.subIn K (.ref A) (.type "BaseException") == some true) = true := by rw [h1] <;> rfl
  have e2 : ((PySem.W.clsIn K A).isSome && PySem.W.typeIn K (.ref A) == some (.type "type")) = true := by
    have h2' : (PySem.W.clsIn K A).isSome = true := h2
    rw [h2', h3] <;> rfl
  show (if (PySem.W.subIn K (.ref A) (.type "BaseException") == some true) = true then (if ((PySem.W.clsIn K A).isSome && PySem.W.typeIn K (.ref A) == some (.type "type")) = true then PySem.W.subIn K (.ref B) (.ref A) else none) else none) = some b
  rw [if_pos e1, if_pos e2]
  exact h4
/-- a class of exceptions without own __init__, raised -/
structure Exc (K : PySem.W.Frag) (C : Addr) : Prop where
  x : PySem.W.excIn K C [.type "ValueError", .type "Exception", .type "BaseException", .type "object"] "ValueError.__new__" = true
  kp : PySem.W.keepIn K (.ref C) = true
  be : PySem.W.subIn K (.ref C) (.type "BaseException") = some true
  ty : PySem.W.typeIn K (.ref C) = some (.type "type")
/-! ### dicts with written keys -/
def rDGet : R2 := fun x y H Q => ∃ a v, x = .ref a ∧ DGet H a y (some v) ∧ Q v H
theorem tDGet_eq {td ty : TE} {σ : L2.St} {H : Hp} {Q : VK} : tDGet td ty σ H Q = td σ H fun x H1 => ty σ H1 fun y H2 => rDGet x y H2 Q := rfl
def rDPut : V → V → V → Hp → (Hp → Prop) → Prop := fun x y v H Q => ∃ a H4, x = .ref a ∧ DPut H a y v H4 ∧ Q H4
theorem sDPut_eq {td ty tv : TE} {D : Ends} {σ : L2.St} {H : Hp} : sDPut td ty tv D σ H = tv σ H fun v H1 => td σ H1 fun x H2 => ty σ H2 fun y H3 => rDPut x y v H3 fun H4 => D.nx σ H4 := rfl
theorem i_dget {H : Hp} {a : Addr} {kvs : List (Key × V)} {k : Str} {v : V} {Q : VK} (h : H a = some (.dK kvs)) (e : valV kvs (.inr k) = some v) (q : Q v H) : rDGet (.ref a) (.str k) H Q := ⟨a, v, rfl, by rw [← e]; exact DGet.k (k := .inr k) h, q⟩
theorem i_dput {H : Hp} {a : Addr} {kvs : List (Key × V)} {k : Str} {v : V} {Q : Hp → Prop} (h : H a = some (.dK kvs)) (hl : kvs.length < sizeLine) (q : Q (upd H a (.dK (putK kvs (.inr k) v)))) : rDPut (.ref a) (.str k) v H Q := ⟨a, _, rfl, DPut.k (k := .inr k) h hl, q⟩
/-! ### what is kept but for some objects -/
def Kp (X : List Addr) (H H' : Hp) : Prop := ∀ b o, b ∉ X → H b = some o → H' b = some o
theorem Kp.refl (X : List Addr) (H : Hp) : Kp X H H := fun _ _ _ e => e
theorem Kp.trans {X : List Addr} {H H1 H2 : Hp} (a : Kp X H H1) (b : Kp X H1 H2) : Kp X H H2 := fun c o n e => b c o n (a c o n e)
theorem Kp.mono {X Y : List Addr} {H H1 : Hp} (a : Kp X H H1) (h : ∀ b ∈ X, b ∈ Y) : Kp Y H H1 := fun c o n e => a c o (fun k => n (h c k)) e
theorem Kp.set {X : List Addr} {H : Hp} {a : Addr} {o : HO} (h : a ∈ X) : Kp X H (upd H a o) := fun b u n e => by
  rw [upd_ne (fun k => n (by rw [k]; exact h))]; exact e
theorem Kp.new {X : List Addr} {H : Hp} {a : Addr} {o : HO} (h : H a = none) : Kp X H (upd H a o) := fun b u n e => by
  rw [upd_ne (ne_of_none e h)]; exact e
theorem Kp.of {X : List Addr} {H H' : Hp} (s : Same H H') : Kp X H H' := fun b u _ e => s b u e
theorem Kp.same {X : List Addr} {H H' H0 : Hp} (k : Kp X H H') (s : Same H0 H) (n : ∀ a ∈ X, H0 a = none) : Same H0 H' := fun b o e => k b o (fun h => by rw [n b h] at e; cases e) (s b o e)
/-! ### fields -/
def rFld (K : PySem.W.Frag) (f : Str) : V → Hp → VK → Prop := fun x H1 Q => ∃ a C dx fs v, x = .ref a ∧ H1 a = some (.ins C dx fs) ∧ Cls K C ∧ NoAttr K C f ∧ fs.lookup f = some v ∧ Q v H1
theorem tFld_eq {K : PySem.W.Frag} {ta : TE} {f : Str} {σ : L2.St} {H : Hp} {Q : VK} : tFld K ta f σ H Q = ta σ H fun x H1 => rFld K f x H1 Q := rfl
def rFldS (K : PySem.W.Frag) (f : Str) : V → V → Hp → (Hp → Prop) → Prop := fun x y H2 Q => ∃ a C dx fs, x = .ref a ∧ H2 a = some (.ins C dx fs) ∧ Cls K C ∧ NoAttr K C f ∧ fs.length < 1000 ∧ Q (upd H2 a (.ins C dx (putF f y fs)))
theorem sFld_eq {K : PySem.W.Frag} {ta tv : TE} {f : Str} {D : Ends} {σ : L2.St} {H : Hp} : sFld K ta tv f D σ H = tv σ H fun y H1 => ta σ H1 fun x H2 => rFldS K f x y H2 fun H3 => D.nx σ H3 := rfl
theorem i_fld {K : PySem.W.Frag} {a C dx : Addr} {fs : List (Str × V)} {f : Str} {v : V} {H : Hp} {Q : VK} (c : Cls K C) (n : NoAttr K C f) (h : H a = some (.ins C dx fs)) (l : fs.lookup f = some v) (q : Q v H) : rFld K f (.ref a) H Q := ⟨a, C, dx, fs, v, rfl, h, c, n, l, q⟩
theorem i_fldS {K : PySem.W.Frag} {a C dx : Addr} {fs : List (Str × V)} {f : Str} {y : V} {H : Hp} {Q : Hp → Prop} (c : Cls K C) (n : NoAttr K C f) (h : H a = some (.ins C dx fs)) (l : fs.length < 1000) (q : Q (upd H a (.ins C dx (putF f y fs)))) : rFldS K f (.ref a) y H Q := ⟨a, C, dx, fs, rfl, h, c, n, l, q⟩
theorem i_rep {H : Hp} {l : Addr} {k : Int} {xs : List V} {Q : VK} (h : H l = some (.lst xs)) (h1 : -(2 ^ 63) ≤ k) (h2 : k < 2 ^ 63) (hz : xs.length * k.toNat ≤ sizeLine) (q : ∀ p, H p = none → Q (.ref p) (upd H p (.lst (List.replicate k.toNat xs).flatten))) : rRep (.ref l) (.int k) H Q := ⟨l, k, xs, rfl, rfl, h, h1, h2, hz, q⟩
theorem rep1 {n : Nat} {v : V} : (List.replicate n [v]).flatten = List.replicate n v := by
  induction n with
  | zero => rfl
  | succ n ih => rw [List.replicate_succ, List.flatten_cons, ih, List.replicate_succ]; rfl
/-- a call of a method -/
def rMeth (C : Addr) (m : Str) (sp : Sp) (E : XK) (t : (List V → Hp → Prop) → Hp → Prop) : V → Hp → VK → Prop := fun x H1 Q => ∃ a dx fs, x = .ref a ∧ H1 a = some (.ins C dx fs) ∧ fs.lookup m = none ∧ t (fun vs H2 => sp (x :: vs) H2 Q E) H1
theorem tMeth_eq {C : Addr} {m : Str} {sp : Sp} {dvs : List V} {E : XK} {ta : TE} {t : TA} {σ : L2.St} {H : Hp} {Q : VK} : tMeth C m sp dvs E ta t σ H Q = ta σ H fun x H1 => rMeth C m sp E (fun k H => t σ H fun vs H2 => k (vs ++ dvs) H2) x H1 Q := rfl
theorem tMethS_eq {C : Addr} {m : Str} {sp : Sp} {E : L2.St → XK} {ta : TE} {t : TA} {σ : L2.St} {H : Hp} {Q : VK} : tMethS C m sp E ta t σ H Q = ta σ H fun x H1 => rMeth C m sp (E σ) (fun k H => t σ H k) x H1 Q := rfl
theorem i_meth {C : Addr} {m : Str} {sp : Sp} {E : XK} {t : (List V → Hp → Prop) → Hp → Prop} {a dx : Addr} {fs : List (Str × V)} {H : Hp} {Q : VK} (h : H a = some (.ins C dx fs)) (l : fs.lookup m = none) (q : t (fun vs H2 => sp (.ref a :: vs) H2 Q E) H) : rMeth C m sp E t (.ref a) H Q := ⟨a, dx, fs, rfl, h, l, q⟩
def rFldA (K : PySem.W.Frag) (f : Str) (tv : (V → Hp → Prop) → Hp → Prop) (rd : V → V → Hp → VK → Prop) : V → Hp → (Hp → Prop) → Prop := fun x H1 Q => ∃ a C dx fs v, x = .ref a ∧ H1 a = some (.ins C dx fs) ∧ Cls K C ∧ NoAttr K C f ∧ fs.lookup f = some v ∧
  tv (fun y H2 => rd v y H2 fun z H3 => ∃ dx' fs', H3 a = some (.ins C dx' fs') ∧ fs'.length < 1000 ∧ Q (upd H3 a (.ins C dx' (putF f z fs')))) H1
theorem sFldAug_eq {K : PySem.W.Frag} {ta tv : TE} {rd : V → V → Hp → VK → Prop} {f : Str} {D : Ends} {σ : L2.St} {H : Hp} : sFldAug K ta tv rd f D σ H = ta σ H fun x H1 => rFldA K f (fun k H => tv σ H k) rd x H1 fun H3 => D.nx σ H3 := rfl
theorem i_fldA {K : PySem.W.Frag} {f : Str} {tv : (V → Hp → Prop) → Hp → Prop} {rd : V → V → Hp → VK → Prop} {a C dx : Addr} {fs : List (Str × V)} {v : V} {H : Hp} {Q : Hp → Prop} (c : Cls K C) (n : NoAttr K C f) (h : H a = some (.ins C dx fs)) (l : fs.lookup f = some v)
    (q : tv (fun y H2 => rd v y H2 fun z H3 => ∃ dx' fs', H3 a = some (.ins C dx' fs') ∧ fs'.length < 1000 ∧ Q (upd H3 a (.ins C dx' (putF f z fs')))) H) : rFldA K f tv rd (.ref a) H Q := ⟨a, C, dx, fs, v, rfl, h, c, n, l, q⟩
/-! ### == and != of data that is the same -/
theorem shaped_lay {d : PyData} (h : SeqAt.shaped d = true) : d.canLay0 = true := by
  unfold SeqAt.shaped at h
  simp only [Bool.and_eq_true] at h
  exact h.1
theorem i_neD {K : PySem.W.Frag} {x y : V} {d : PyData} {H : Hp} {Q : VK} (h1 : Dp K H x d) (h2 : Dp K H y d) (hs : SeqAt.shaped d = true) (q : Q (.bl false) H) : rNeD K x y H Q :=
  ⟨d, d, h1, h2, hs, hs, by rw [SeqAt.eqv_refl d (shaped_lay hs)]; exact q⟩
theorem i_eqD {K : PySem.W.Frag} {x y : V} {d : PyData} {H : Hp} {Q : VK} (h1 : Dp K H x d) (h2 : Dp K H y d) (hs : SeqAt.shaped d = true) (q : Q (.bl true) H) : rEqD K x y H Q :=
  ⟨d, d, h1, h2, hs, hs, by rw [SeqAt.eqv_refl d (shaped_lay hs)]; exact q⟩

/-! ### own exceptions with an __init__ that keeps its arguments -/
def rMkO (C : Addr) (sp : Sp) (dvs : List V) : List V → Hp → XK → Prop := fun vs H1 Q => vs.length ≤ 1000 ∧ ∀ a, H1 a = none → sp (.ref a :: (vs ++ dvs)) (upd H1 a (exo a C none))
  (fun v H2 => v = .non ∧ ∃ (d : Addr) (fs : List (Str × V)), H2 a = some (exo a C (some d)) ∧ H2 d = some (exd d fs) ∧ H1 d = none ∧ Q (.ref C) (some d) (upd (del H2 a) d (.xd fs))) (fun _ _ _ => False)
theorem tMkO_eq {C : Addr} {sp : Sp} {dvs : List V} {ta : TA} {σ : L2.St} {H : Hp} {Q : XK} : tMkO C sp dvs ta σ H Q = ta σ H fun vs H1 => rMkO C sp dvs vs H1 Q := rfl
def spX1 (C : Addr) (f : Str) : Sp := fun vs H Q _ => ∃ (a : Addr) (v : V), vs = [.ref a, v] ∧ H a = some (exo a C none) ∧ ∀ dx, H dx = none → dx ≠ a → Q .non (upd (upd H dx (exd dx [(f, v)])) a (exo a C (some dx)))
theorem i_mkO1 {C : Addr} {f : Str} {v : V} {H : Hp} {Q : XK} (q : ∀ dx, H dx = none → Q (.ref C) (some dx) (upd H dx (.xd [(f, v)]))) : rMkO C (spX1 C f) [] [v] H Q := by
  refine ⟨by show 1 ≤ 1000; decide, fun a ha => ⟨a, v, rfl, upd_same, fun dx hd hne => ⟨rfl, dx, [(f, v)], upd_same, by rw [upd_ne hne, upd_same], by rw [upd_ne hne] at hd; exact hd, ?_⟩⟩⟩
  have hd : H dx = none := by rw [upd_ne hne] at hd; exact hd
  have e : upd (del (upd (upd (upd H a (exo a C none)) dx (exd dx [(f, v)])) a (exo a C (some dx))) a) dx (.xd [(f, v)]) = upd H dx (.xd [(f, v)]) := by
    funext b
    by_cases hb : b = dx
    · subst hb; rw [upd_same, upd_same]
    · rw [upd_ne hb, upd_ne hb]
      by_cases hb2 : b = a
      · subst hb2; rw [del_same, ha]
      · rw [del_ne hb2, upd_ne hb2, upd_ne hb, upd_ne hb2]
  rw [e]
  exact q dx hd
def rOst (K : PySem.W.Frag) (f : Str) : V → V → Hp → (Hp → Prop) → Prop := fun x y H2 Q => ∃ a C : Addr, x = .ref a ∧ OexC K C ∧ PySem.W.findIn K (.ref C) f = some none ∧
  ((H2 a = some (exo a C none) ∧ ∀ dx, H2 dx = none → dx ≠ a → Q (upd (upd H2 dx (exd dx [(f, y)])) a (exo a C (some dx)))) ∨
    ∃ (dx : Addr) (fs : List (Str × V)), H2 a = some (exo a C (some dx)) ∧ H2 dx = some (exd dx fs) ∧ fs.length ≤ 900 ∧ Q (upd H2 dx (exd dx ((f, y) :: fs))))
theorem tOst_eq {K : PySem.W.Frag} {f : Str} {to te : TE} {D : Ends} {σ : L2.St} {H : Hp} : tOst K f to te D σ H = te σ H fun y H1 => to σ H1 fun x H2 => rOst K f x y H2 fun H3 => D.nx σ H3 := rfl
theorem i_ost {K : PySem.W.Frag} {C a : Addr} {f : Str} {y : V} {H : Hp} {Q : Hp → Prop} (T : OexC K C) (n : PySem.W.findIn K (.ref C) f = some none) (h : H a = some (exo a C none)) (q : ∀ dx, H dx = none → dx ≠ a → Q (upd (upd H dx (exd dx [(f, y)])) a (exo a C (some dx)))) : rOst K f (.ref a) y H Q := ⟨a, C, rfl, T, n, .inl ⟨h, q⟩⟩
theorem i_catchAs {K : PySem.W.Frag} {c cls : Value} {i : Nat} {ts : Addr → Value → Option Addr → TS} {Wout : WX} {D : Ends} {d : Option Addr} {σ : L2.St} {H : Hp} (h : PySem.W.exmOne K cls c = some true)
    (q : ∀ a, H a = none → ts a cls d { nx := fun σ' H' => D.nx (σ'.set i none) H', rt := D.rt, bk := fun σ' H' => D.bk (σ'.set i none) H', ct := fun σ' H' => D.ct (σ'.set i none) H' } (σ.set i (some (.ref a))) H) : wAs K c i ts Wout D cls d σ H := ⟨true, h, fun _ a n => q a n, fun z => nomatch z⟩
theorem i_catch {K : PySem.W.Frag} {c cls : Value} {ts : Addr → Value → Option Addr → TS} {Wout : WX} {D : Ends} {d : Option Addr} {σ : L2.St} {H : Hp} (h : PySem.W.exmOne K cls c = some true) (q : ∀ a, H a = none → ts a cls d D σ H) : wOnly K c ts Wout D cls d σ H := ⟨true, h, fun _ a n => q a n, fun z => nomatch z⟩
theorem i_ost2 {K : PySem.W.Frag} {C a dx : Addr} {f : Str} {y : V} {fs : List (Str × V)} {H : Hp} {Q : Hp → Prop} (T : OexC K C) (n : PySem.W.findIn K (.ref C) f = some none) (h : H a = some (exo a C (some dx))) (hd : H dx = some (exd dx fs)) (hl : fs.length ≤ 900) (q : Q (upd H dx (exd dx ((f, y) :: fs)))) : rOst K f (.ref a) y H Q := ⟨a, C, rfl, T, n, .inr ⟨dx, fs, h, hd, hl, q⟩⟩
/-- told.f -/
def rXf (a : Addr) (cls : Value) (d : Option Addr) (C : Addr) (f : Str) : V → Hp → VK → Prop := fun x H1 Q => x = .ref a ∧ cls = .ref C ∧ ∃ (dd : Addr) (fs : List (Str × V)) (v : V), d = some dd ∧ H1 dd = some (.xd fs) ∧ fs.lookup f = some v ∧ Q v H1
theorem tXf_eq {a : Addr} {cls : Value} {d : Option Addr} {C : Addr} {f : Str} {te : TE} {σ : L2.St} {H : Hp} {Q : VK} : tXf a cls d C f te σ H Q = te σ H fun x H1 => rXf a cls d C f x H1 Q := rfl
theorem i_xf {a dd C : Addr} {f : Str} {fs : List (Str × V)} {v : V} {H : Hp} {Q : VK} (h : H dd = some (.xd fs)) (l : fs.lookup f = some v) (q : Q v H) : rXf a (.ref C) (some dd) C f (.ref a) H Q := ⟨rfl, rfl, dd, fs, v, rfl, h, l, q⟩
theorem iRevR_eq {tr : L2.St → Hp → (Int → Int → Hp → Prop) → Prop} {σ : L2.St} {H : Hp} {R : It → Hp → Prop} : iRevR tr σ H R = tr σ H fun a b H1 => -(2 ^ 62) ≤ a ∧ a < 2 ^ 62 ∧ -(2 ^ 62) ≤ b ∧ b < 2 ^ 62 ∧ R (Itc (a + (((b - a).toNat : Nat) : Int) - 1) (-1) (b - a).toNat) H1 := rfl
theorem tRg1_eq {ta : TE} {σ : L2.St} {H : Hp} {Q : Int → Int → Hp → Prop} : tRg1 ta σ H Q = ta σ H fun x H1 => ∃ n, x = .int n ∧ Q 0 n H1 := rfl
theorem tRg2_eq {ta tb : TE} {σ : L2.St} {H : Hp} {Q : Int → Int → Hp → Prop} : tRg2 ta tb σ H Q = ta σ H fun x H1 => tb σ H1 fun y H2 => ∃ i j, x = .int i ∧ y = .int j ∧ Q i j H2 := rfl
theorem tLstRg_eq {te : L2.St → Hp → (Int → Int → Hp → Prop) → Prop} {σ : L2.St} {H : Hp} {Q : VK} : tLstRg te σ H Q = te σ H fun a b H1 => RgOk a b ∧ ∀ q, H1 q = none → Q (.ref q) (upd H1 q (.lst (rgV a b))) := rfl
def rRevL (K : PySem.W.Frag) : V → Hp → VK → Prop := fun x H1 Q => ∃ a xs, x = .ref a ∧ SqL K H1 a xs ∧ ∀ p, H1 p = none → Q (.ref p) (upd H1 p (.lst xs.reverse))
theorem tRevL_eq {K : PySem.W.Frag} {te : TE} {σ : L2.St} {H : Hp} {Q : VK} : tRevL K te σ H Q = te σ H fun x H1 => rRevL K x H1 Q := rfl
theorem i_revL {K : PySem.W.Frag} {H : Hp} {Q : VK} {a : Addr} {xs : List V} (h : SqL K H a xs) (q : ∀ p, H p = none → Q (.ref p) (upd H p (.lst xs.reverse))) : rRevL K (.ref a) H Q := ⟨a, xs, rfl, h, q⟩
theorem room65 {k : Nat} {A : Around} (r : Room k A) : A.units + 65 < cLine := by have := r.un; omega
theorem i_forPost {J : It} {g : TG} {tb : TS} {D : Ends} {σ : L2.St} {H : Hp} (Post : L2.St → Hp → Prop) (h1 : (∀ σ' H', Post σ' H' → D.nx σ' H') → rForJ J g tb D σ H) (h2 : ∀ σ' H', Post σ' H' → D.nx σ' H') : rForJ J g tb D σ H := h1 h2

/-! ### dicts with int keys, text.index, sorted(d) -/
def rSidx : V → List V → Hp → VK → Prop := fun x xs H Q => ∃ a b i rest, x = .str a ∧ xs = [.str b] ∧ Builtin.Str.occurrences a b 0 a.length 1 = i :: rest ∧ Q (.int (i : Nat)) H
theorem mt_sidx {X : Cx} : MtR X "str.index" rSidx := mt_sindex
def rSortedDI : List V → Hp → VK → Prop := fun xs H Q => ∃ (a : Addr) (kvs : List (Key × V)) (ks : List Int), xs = [.ref a] ∧ Rd H a (.dK kvs) ∧ kvs.map (·.1) = ks.map Sum.inl ∧ ks.length < 64 ∧
    ∀ (ys : List Int) (p : Addr), ys.Perm ks → ys.Pairwise (· ≤ ·) → H p = none → Q (.ref p) (upd H p (.lst (ys.map V.int)))
theorem cr_sortedDI {X : Cx} (h : X.calm = true) : CallR X (.builtin "sorted") rSortedDI := call_sortedDI h
def rDIn : R2 := fun y x H2 Q => ∃ a o, x = .ref a ∧ DGet H2 a y o ∧ Q (.bl o.isSome) H2
theorem tDIn_eq {td ty : TE} {σ : L2.St} {H : Hp} {Q : VK} : tDIn ty td σ H Q = ty σ H fun y H1 => td σ H1 fun x H2 => rDIn y x H2 Q := rfl
theorem i_din {H : Hp} {a : Addr} {kvs : List (Key × V)} {k : Key} {Q : VK} (h : H a = some (.dK kvs)) (q : Q (.bl (valV kvs k).isSome) H) : rDIn (kV k) (.ref a) H Q := ⟨a, _, rfl, DGet.k h, q⟩
def rDPop2 : V → V → V → Hp → VK → Prop := fun x y z H3 Q => ∃ a kvs k, x = .ref a ∧ H3 a = some (.dK kvs) ∧ y = kV k ∧ (∀ v, valV kvs k = some v → Q v (upd H3 a (.dK (dropK kvs k)))) ∧ (valV kvs k = none → Q z H3)
theorem iEnum_eq {K : PySem.W.Frag} {ta : TA} {σ : L2.St} {H : Hp} {R : It → Hp → Prop} : iEnum K ta σ H R = ta σ H fun vs H1 => ∃ a xs, vs = [.ref a] ∧ SqL K H1 a xs ∧ R (Ite K a) H1 := rfl
theorem i_gTup2 {K : PySem.W.Frag} {n i j : Nat} {a : Addr} {x y : V} {σ : L2.St} {H : Hp} {Q : L2.St → Hp → Prop} (hn : n = 2) (h : SqT K H a [x, y]) (q : Q ((σ.set i (some x)).set j (some y)) H) : gTup K n (gCons (gName i) (gCons (gName j) gNil)) (.ref a) σ H Q :=
  ⟨a, [x, y], rfl, h, hn.symm, x, [y], rfl, y, [], rfl, rfl, q⟩
theorem i_forG {J : It} {n : Nat} {G : Hp → Prop} {Y : Nat → Hp → V → Hp → Prop} (w : Walk J n G Y) {g : TG} {tb : TS} {D : Ends} {σ : L2.St} {H : Hp} (Pv : Nat → L2.St → Hp → Prop) (h0 : Pv 0 σ H) (hG : ∀ i σ H, i ≤ n → Pv i σ H → G H)
    (hs : ∀ i x σ H H', i < n → Pv i σ H → Y i H x H' → g x σ H' fun σ2 H2 => tb { D with nx := Pv (i + 1), ct := Pv (i + 1), bk := D.nx } σ2 H2) (hd : ∀ σ H, Pv n σ H → D.nx σ H) : rForJ J g tb D σ H := for_it w Pv h0 hG hs hd
theorem log_small {j : Int} (h : j.natAbs < 2 ^ 200) : j.natAbs.log2 < 9000 := by
  by_cases h0 : j.natAbs = 0
  · rw [h0]; decide
  · have := (Nat.log2_lt h0).mpr h
    omega

/-! ### while -/
def rWhT (Pv : Nat → L2.St → Hp → Prop) (m : Nat) (tb : TS) (D : Ends) (σ : L2.St) (H : Hp) : Prop := ∃ N : L2.St → Hp → Prop, (∀ σ' H', N σ' H' → ∃ m', m' < m ∧ Pv m' σ' H') ∧ tb { D with nx := N, ct := N, bk := D.nx } σ H
theorem i_while {c : TT} {tb : TS} {D : Ends} {σ : L2.St} {H : Hp} (Pv : Nat → L2.St → Hp → Prop) (m0 : Nat) (h0 : Pv m0 σ H) (hs : ∀ m σ H, Pv m σ H → c σ H fun b H1 => if b = true then rWhT Pv m tb D σ H1 else D.nx σ H1) : tWhile c tb D σ H := ⟨Pv, ⟨m0, h0⟩, hs⟩
theorem i_whT {Pv : Nat → L2.St → Hp → Prop} {m : Nat} {tb : TS} {D : Ends} {σ : L2.St} {H : Hp} (h : tb { D with nx := fun σ' H' => ∃ m', m' < m ∧ Pv m' σ' H', ct := fun σ' H' => ∃ m', m' < m ∧ Pv m' σ' H', bk := D.nx } σ H) : rWhT Pv m tb D σ H := ⟨_, fun _ _ h => h, h⟩

/-! ### enumerate(tuple), list.extend(tuple): the kit has both for lists only -/
section
set_option maxHeartbeats 4000000 in
/-- the new cells of enumerate(v), v told by how its walk begins -/
theorem enum1_new {v : Value} {o : Obj} {G : Heap → Prop} (B : Begins v o G) : Meets (Builtin.«enumerate.__new__» ⟨[.type "enumerate", v], []⟩) fun _ R s =>
    G s.heap ∧ R (.ok (.ret (.ref (s.heap.push o).objs.size))) { s with heap := (s.heap.push o).push { cls := .type "enumerate", data := .fields #[.none, .bool false, .ref s.heap.objs.size, rawInt 0, .none, .none] } } := by
  refine .of_wp fun pr wo A R s hs => ?_
  rcases s with ⟨H0, g, d, tk, os⟩
  obtain ⟨hG, hR⟩ := hs
  have _se := sub_enumerate
  have step : ∀ {A' : Around} {E Q : Value → Shared → Prop}, Q (.ref H0.objs.size) ⟨H0.push o, g, d, tk, os⟩ → wpAny (model pr wo) A' (pyIter v) Q E ⟨H0, g, d, tk, os⟩ := fun {A' E Q} => B.iter pr wo A' E ⟨H0, g, d, tk, os⟩ Q hG
  wp_walk using step
  refine wpAny_stack_any fun _ => wpAny_pure ?_
  split
  · rename_i c _ _ _ _ _
    rcases Bool.eq_false_or_eq_true (c == Value.type "enumerate") with e | e
    all_goals
      rw [e]
      wp_walk using step
      exact ⟨_, rfl, hR⟩
  · wp_walk using step
    exact ⟨_, rfl, hR⟩
variable {prog : Program} {w : World} {A : Around} {E : Value → Shared → Prop} {s : Shared}
theorem enum1_call {v : Value} {o : Obj} {G : Heap → Prop} {Q : Value → Shared → Prop} (B : Begins v o G) (hG : G s.heap)
    (q : ∀ h', IsEnum h' (s.heap.objs.size + 1) s.heap.objs.size 0 .none → h'.get? s.heap.objs.size = some o → (∀ b u, s.heap.get? b = some u → h'.get? b = some u) → Q (.ref (s.heap.objs.size + 1)) { s with heap := h' }) :
    wpAny (model prog w) A (call (.type "enumerate") [v]) Q E s := by
  refine callType_new F.called_enumerate (by decide) (F.typeCall_enumerate_1 v) (F.newCall_enumerate_1 v) (fun u => F.args_object_init_2 u v) F.entry_enumerate_new (enum1_new B) ⟨hG, ?_⟩
  have sz := Heap.size_push s.heap o
  have at1 := Heap.get?_push_size (s.heap.push o) (o := { cls := .type "enumerate", data := .fields #[.none, .bool false, .ref s.heap.objs.size, rawInt 0, .none, .none] }) rfl
  rw [sz] at at1
  show _ ∧ _
  rw [sz]
  exact ⟨⟨_, at1, rfl⟩, q _ at1 (Heap.get?_push_of_some _ (Heap.get?_push_size _ B.free)) fun b u e => Heap.get?_push_of_some _ (Heap.get?_push_of_some _ e)⟩
theorem draws_tup (hh : A.handled = none) (it l : Addr) (hne : l ≠ it) (items : Array Value) :
    Draws prog w A it [it, l] items.size (fun i v => items[i]? = some v) (fun i h => h.IsTupleIter it l i ∧ h.IsTuple l items) where
  live := fun _ _ st => let ⟨o, ho, _⟩ := st.1; ⟨o, ho⟩
  frame := fun _ _ _ st hk => ⟨let ⟨o, ho, r⟩ := st.1; ⟨o, hk it (by simp) o ho, r⟩, let ⟨o, ho, r⟩ := st.2; ⟨o, hk l (by simp) o ho, r⟩⟩
  item := fun i s Q E hi st hQ => by
    refine wpAny_nextOf_tuple_item st.1 st.2 (x := items[i]) (by simp [hi]) fun h' hit' hs' => ?_
    exact hQ _ h' s.toks (by simp [hi]) ⟨hit', st.2.extBut hs'.extBut hne⟩ hs'
  done := fun s Q E st hE => wpAny_nextOf_tuple_end hh st.1 st.2 (by simp) hE
end
/-- the tuple at a, each item in a new pair -/
def IteT (K : PySem.W.Frag) (a : Addr) : It :=
  ⟨fun i H => ∃ (xs : List V) (x : V), SqT K H a xs ∧ xs[i]? = some x, fun i H v H' => ∃ T x, v = .ref T ∧ H T = none ∧ H' = upd H T (.tup [.int (i : Nat), x]) ∧ ∀ xs, SqT K H a xs → xs[i]? = some x, fun i H => ∃ xs : List V, SqT K H a xs ∧ xs.length = i⟩
theorem turn_enumT {P : Program} {w : World} {K : PySem.W.Frag} {elts : List Expr} {kk : Nat} {tpos : Pos} (a e it : Addr) :
    Turn P w K (.Tuple elts kk tpos) (IteT K a) [e, it] e (fun i h => (∃ old, IsEnum h e it ((i : Nat) : Int) old) ∧ h.IsTupleIter it a i ∧ e ≠ it ∧ a ≠ it ∧ a ≠ e) where
  mem := by simp
  obj := fun i h st b hb => by
    obtain ⟨⟨old, he⟩, ⟨o, ho, hc, hd⟩, _⟩ := st
    have e' : b = e ∨ b = it := by simpa using hb
    rcases e' with z | z
    · rw [z]; exact ⟨_, he, fun v q => nomatch q⟩
    · rw [z]; exact ⟨o, ho, fun v q => by rw [hd] at q; cases q⟩
  keep := fun i h h' st k => let ⟨⟨old, he⟩, ⟨o, ho, r⟩, hne⟩ := st; ⟨⟨old, k e (by simp) _ he⟩, ⟨o, k it (by simp) o ho, r⟩, hne⟩
  item := by
    intro X hP hw hK hc i pins s σ H E I hf st hg
    subst hP hw hK
    obtain ⟨⟨old, he⟩, hit, hne, ha1, ha2⟩ := st
    obtain ⟨xs, x, hq, hx⟩ := hg
    obtain ⟨its, rv, p, hz⟩ := I.tuple hq
    obtain ⟨u, hu, ru⟩ := rv.get hx
    have p' : s.heap.IsTuple a its.toArray := p
    have hel : e < s.heap.objs.size := Heap.lt_size he
    have hil : it < s.heap.objs.size := by obtain ⟨_, q, _⟩ := hit; exact Heap.lt_size q
    have hul : i < its.toArray.size := by
      obtain ⟨hl, _⟩ := List.getElem?_eq_some_iff.mp hu
      simpa using hl
    refine wpAny_pyNext_enum_itemD (draws_tup (A := X.A.in1) (I.ok.hd hc) it a ha1 its.toArray) he ⟨hit, p'⟩ hul hne (by simp [hne, Ne.symm ha2]) fun y h' tk hy ho st' hT hsz hk => ?_
    have hyu : y = u := by
      rw [List.getElem?_toArray, hu] at hy
      exact (Option.some.inj hy).symm
    subst hyu
    refine ⟨_, rfl, wpAny_letOwnedTupleGo_enum (s := { s with heap := h', toks := tk + 1 }) ho fun h'' he' sb => ?_⟩
    have hT2 : h''.get? s.heap.objs.size = some { cls := .type "tuple", data := .seq #[.int i tk, y] } := (sb.2 _ (Nat.ne_of_gt hel)).trans hT
    have new : ObjOk X.prog X.w (upd H s.heap.objs.size (.tup [.int (i : Nat), x])) h'' s.heap.objs.size (.tup [.int (i : Nat), x]) :=
      ⟨by show 2 ≤ sizeLine; decide, [.int i tk, y], .cons ⟨_, rfl⟩ (.cons ru .nil), ⟨_, hT2, rfl, _, rfl⟩⟩
    have I1 : Inv X pins σ (upd H s.heap.objs.size (.tup [.int (i : Nat), x])) { s with heap := h'', toks := tk + 1 } :=
      I.turnedNew (ch := [e, it]) (fun b ob hb q => (sb.2 b (fun z => hb (by simp [z]))).trans (hk b ob (fun z => hb (by simp [z])) (fun z => hb (by simp [z])) q)) hf (Nat.le_refl _) new
    refine ⟨.ref s.heap.objs.size, _, I1, rfl, ⟨_, x, rfl, I.hok.fresh (Nat.le_refl _), rfl, fun ys hy => by rw [I.tuple_inj hy hq]; exact hx⟩, ⟨⟨y, ?_⟩, ?_, hne, ha1, ha2⟩, fun b hb => ?_⟩
    · have e1 : ((i + 1 : Nat) : Int) = (i : Int) + 1 := by omega
      rw [e1]; exact he'
    · obtain ⟨o, q, r⟩ := st'.1
      exact ⟨o, (sb.2 it (Ne.symm hne)).trans q, r⟩
    · have hb' : b < s.heap.objs.size := by
        have e' : b = e ∨ b = it := by simpa using hb
        rcases e' with z | z
        · rw [z]; exact hel
        · rw [z]; exact hil
      rw [upd_ne (Nat.ne_of_lt hb')]
      exact (hf b hb).1
  done := by
    intro X hP hw hK hc i pins s σ H E I hf st hg
    subst hP hw hK
    obtain ⟨⟨old, he⟩, hit, hne, ha1, ha2⟩ := st
    obtain ⟨xs, hq, hx⟩ := hg
    obtain ⟨its, rv, p, hz⟩ := I.tuple hq
    obtain ⟨f0, f1, f2, f3, f4, f5⟩ := hf it (by simp)
    have hn : its.toArray.size = i := by rw [List.size_toArray, ← rv.length, hx]
    have p' : s.heap.IsTuple a its.toArray := p
    exact wpAny_pyNext_enum_endD (draws_tup (A := X.A.in1) (I.ok.hd hc) it a ha1 its.toArray) he ⟨by rw [hn]; exact hit, p'⟩ fun h' eb => ⟨rfl, I.turned (t' := s.toks) (fun b o hb q => eb b o hb q) f0 f1 f3 f4 f5⟩
  self := fun A i s Q E st h => let ⟨⟨_, he⟩, _⟩ := st; wpAny_pyIter_enum he h
def iEnumT (K : PySem.W.Frag) (ta : TA) : TI := fun σ H R => ta σ H fun vs H1 => ∃ a xs, vs = [.ref a] ∧ SqT K H1 a xs ∧ R (IteT K a) H1
theorem pi_enumT {X : Cx} {e : Expr} {ta : TA} {p pos tpos : Pos} {elts : List Expr} {kk : Nat} (hg : Gl X "enumerate") (hm : X.mg "enumerate" = none) (ha : PA X [e] ta) (hs : starEach [e] X.env = [(false, eval e X.env)] := by rfl) :
    PI X (.Tuple elts kk tpos) (.Call (.Name "enumerate" p) [e] [] pos) (iEnumT X.K ta) := by
  refine ⟨fun pins s σ H R I h => ?_⟩
  refine Call_ (ld_blt I hg hm boot_enumerate (PyProof.Rows.callWith_type1 (thn (ha.run pos pins s σ H _ I h) fun us s1 ⟨vs, H1, I1, r1, q1⟩ => ?_) hs rfl))
  obtain ⟨a, xs, ex, hq, q⟩ := q1
  subst ex
  cases r1 with
  | cons r rr =>
    cases rr
    cases r
    obtain ⟨its, rv, p', hz⟩ := I1.tuple hq
    have p2 : s1.heap.IsTuple a its.toArray := p'
    have hal : a < s1.heap.objs.size := by obtain ⟨o, q, _⟩ := p2; exact Heap.lt_size q
    refine enum1_call (begins_tuple a its.toArray) p2 fun h' he hit0 hk => wpAny_pyIter_enum he ?_
    have hit : h'.IsTupleIter s1.heap.objs.size a 0 := ⟨_, hit0, rfl, rfl⟩
    have I2 : Inv X pins σ H1 { s1 with heap := h' } := I1.kept (t' := s1.toks) hk
    refine ⟨s1.heap.objs.size + 1, [s1.heap.objs.size + 1, s1.heap.objs.size], _, _, H1, rfl, I2, turn_enumT a (s1.heap.objs.size + 1) s1.heap.objs.size, ⟨⟨.none, he⟩, hit, Nat.succ_ne_self _, Nat.ne_of_lt hal, Nat.ne_of_lt (Nat.lt_succ_of_lt hal)⟩, fun b hb => ?_, q⟩
    have e' : b = s1.heap.objs.size + 1 ∨ b = s1.heap.objs.size := by simpa using hb
    have hle : s1.heap.objs.size ≤ b := by
      rcases e' with z | z
      · rw [z]; exact Nat.le_add_right _ _
      · rw [z]; exact Nat.le_refl _
    exact I1.fpOk hle (I1.hok.fresh hle)
/-- the turns of enumerate(tuple) -/
theorem walk_enumT {K : PySem.W.Frag} {a : Addr} {xs : List V} : Walk (IteT K a) xs.length (fun H => SqT K H a xs) (fun i H v H' => ∃ T x, v = .ref T ∧ H T = none ∧ H' = upd H T (.tup [.int (i : Nat), x]) ∧ xs[i]? = some x) where
  goes := fun i _ hi q => ⟨xs, xs[i], q, List.getElem?_eq_getElem hi⟩
  stops := fun _ q => ⟨xs, q, rfl⟩
  yields := fun i H v H' _ q y => by
    obtain ⟨T, x, e1, e2, e3, e4⟩ := y
    exact ⟨T, x, e1, e2, e3, e4 xs q⟩
theorem extT_meets (l b : Addr) (xs ys : Array Value) (n m : Nat) (dct : Option Addr) (sl : Array (Option Value)) (h0 : ¬ (!xs.isEmpty && Builtin.List.listTooLong (xs.size + ys.size)) = true) (h1 : xs.size ≤ sizeLine) (h2 : xs.size + ys.size ≤ sizeLine + 1) :
    Meets (Builtin.«list.extend» ⟨[.ref l, .ref b], []⟩) fun _ R s => s.heap.get? l = some { cls := .type "list", data := .seq xs n } ∧ s.heap.get? b = some { cls := .type "tuple", dict := dct, data := .seq ys m, slots := sl } ∧
      R (.ok (.ret Value.none)) { s with heap := s.heap.update l (Obj.mapSeq fun x => x ++ ys), toks := s.toks } := by
  refine .of_wp fun pr wo A R s hs => ?_
  rcases s with ⟨H0, g, d, tk, os⟩
  obtain ⟨ho, hb, hR⟩ := hs
  have _a := AutoSeq1.idx_int
  have _b := AutoSeq1.sub_tuple_tuple
  have _c := AutoSeq1.sub_list_list
  have _d := AutoSeq1.sub_tuple_list
  have _e := AutoSeq1.sub_list_tuple
  have zz : (xs ++ ys).size ≤ sizeLine + 1 := Array.size_append ▸ h2
  wp_walk using (wpAny_updateSeq ho rfl (hz := h1) (_hz' := zz)), AutoSeq1.wpAny_loadPart' ho, AutoSeq1.wpAny_loadPart' hb
  exact ⟨_, rfl, hR⟩
def rExtT (K : PySem.W.Frag) : V → List V → Hp → VK → Prop := fun x vs H Q => ∃ l b xs zs, x = .ref l ∧ vs = [.ref b] ∧ H l = some (.lst xs) ∧ SqT K H b zs ∧ xs.length + zs.length ≤ sizeLine ∧ Q .non (upd H l (.lst (xs ++ zs)))
theorem mt_extT {X : Cx} : MtM X "list.extend" (rExtT X.K) := by
  intro pins s σ H x vs v us Q I rx rv h
  obtain ⟨l, b, xs, zs, rfl, rfl, hl, hb, hz, q⟩ := h
  cases rx
  obtain ⟨u, rfl, ru⟩ := rv.one
  cases ru
  obtain ⟨_, its, n, r1, len1, e1⟩ := I.lstM hl
  obtain ⟨jts, r2, ⟨⟨cl, dd, da, sl⟩, e2, hc, m, hd⟩, _⟩ := I.tuple hb
  replace hc : cl = .type "tuple" := hc
  replace hd : da = .seq jts.toArray m := hd
  subst hc hd
  have len2 := r2.length
  have tot : its.toArray.size + jts.toArray.size ≤ sizeLine := by simp only [List.size_toArray]; omega
  have small : Builtin.List.listTooLong (its.toArray.size + jts.toArray.size) = false := notLongL tot
  refine call_meets F.slot_list_extend ⟨_, e1, rfl⟩ F.entry_list_extend (F.args_list_extend_2 _ _)
    (extT_meets l b its.toArray jts.toArray n m dd sl (by rw [small, Bool.and_false]; decide) (by omega) (by omega)) ⟨e1, e2, .non, _, I.lset (its' := its ++ jts) hl e1 (by simp) (r1.append r2) (by rw [List.length_append]; omega), rfl, q⟩
theorem iEnumT_eq {K : PySem.W.Frag} {ta : TA} {σ : L2.St} {H : Hp} {R : It → Hp → Prop} : iEnumT K ta σ H R = ta σ H fun vs H1 => ∃ a xs, vs = [.ref a] ∧ SqT K H1 a xs ∧ R (IteT K a) H1 := rfl
def rDNotIn : R2 := fun y x H2 Q => ∃ a o, x = .ref a ∧ DGet H2 a y o ∧ Q (.bl (!o.isSome)) H2
theorem rDNotIn_eq {td ty : TE} {σ : L2.St} {H : Hp} {Q : VK} : tDNotIn ty td σ H Q = ty σ H fun y H1 => td σ H1 fun x H2 => rDNotIn y x H2 Q := rfl
theorem i_dnotin {H : Hp} {a : Addr} {kvs : List (Key × V)} {k : Key} {Q : VK} (h : H a = some (.dK kvs)) (q : Q (.bl (!(valV kvs k).isSome)) H) : rDNotIn (kV k) (.ref a) H Q := ⟨a, _, rfl, DGet.k h, q⟩
theorem op_catAK (K : PySem.W.Frag) {X : Cx} (h : X.K = K := by rfl) : OpR X (binaryOp .Add) (rCatA K) := h ▸ op_catA
theorem sl_tupAK (K : PySem.W.Frag) {X : Cx} (h : X.K = K := by rfl) : SlR X (rSlA K) := h ▸ sl_tupA

/-! ### frozen data: tuples all the way down -/
section
variable (K : PySem.W.Frag)
def SqC (H : Hp) (a : Addr) (xs : List V) : Prop := H a = some (.tup xs) ∨ ∀ G, SqT K G a xs
mutual
inductive Fr (H : Hp) : V → PyData → Prop
  | non : Fr H .non .none
  | bl (b : Bool) : Fr H (.bl b) (.bool b)
  | int (i : Int) : Fr H (.int i) (.int i)
  | str (x : Str) : Fr H (.str x) (.str x)
  | tup {a : Addr} {xs : List V} {ds : List PyData} : SqC K H a xs → FrL H xs ds → Fr H (.ref a) (.tuple ds)
inductive FrL (H : Hp) : List V → List PyData → Prop
  | nil : FrL H [] []
  | cons {v : V} {vs : List V} {d : PyData} {ds : List PyData} : Fr H v d → FrL H vs ds → FrL H (v :: vs) (d :: ds)
end
end
def TupK (H H' : Hp) : Prop := ∀ (p : Addr) (xs : List V), H p = some (.tup xs) → H' p = some (.tup xs)
theorem TupK.of {H H' : Hp} (s : Same H H') : TupK H H' := fun p _ h => s p _ h
theorem TupK.trans {H H1 H2 : Hp} (s : TupK H H1) (t : TupK H1 H2) : TupK H H2 := fun p xs h => t p xs (s p xs h)
theorem TupK.refl (H : Hp) : TupK H H := fun _ _ h => h
theorem TupK.mut {H : Hp} {l : Addr} {o u : HO} (h : H l = some u) (n : ∀ xs, u ≠ .tup xs) : TupK H (upd H l o) := fun p ys k => by
  have : p ≠ l := fun e => by rw [e, h] at k; exact n _ (Option.some.inj k)
  rw [upd_ne this]; exact k
section
variable {K : PySem.W.Frag} {H H' : Hp}
theorem SqC.sq {a : Addr} {xs : List V} (h : SqC K H a xs) : SqT K H a xs := h.elim sqT_of fun g => g H
theorem SqC.up {a : Addr} {xs : List V} (s : TupK H H') (h : SqC K H a xs) : SqC K H' a xs := h.imp (s a xs) id
mutual
theorem Fr.up (s : TupK H H') : ∀ {v : V} {d : PyData}, Fr K H v d → Fr K H' v d
  | _, _, .non => .non
  | _, _, .bl b => .bl b
  | _, _, .int i => .int i
  | _, _, .str x => .str x
  | _, _, .tup h t => .tup (h.up s) (FrL.up s t)
theorem FrL.up (s : TupK H H') : ∀ {vs : List V} {ds : List PyData}, FrL K H vs ds → FrL K H' vs ds
  | _, _, .nil => .nil
  | _, _, .cons h t => .cons (Fr.up s h) (FrL.up s t)
end
mutual
theorem Fr.dp : ∀ {v : V} {d : PyData}, Fr K H v d → Dp K H v d
  | _, _, .non => .non
  | _, _, .bl b => .bl b
  | _, _, .int i => .int i
  | _, _, .str x => .str x
  | _, _, .tup h t => .tup h.sq (FrL.dp t)
theorem FrL.dp : ∀ {vs : List V} {ds : List PyData}, FrL K H vs ds → DpAll K H vs ds
  | _, _, .nil => .nil
  | _, _, .cons h t => .cons (Fr.dp h) (FrL.dp t)
end
theorem FrL.len : ∀ {vs : List V} {ds : List PyData}, FrL K H vs ds → vs.length = ds.length
  | _, _, .nil => rfl
  | _, _, .cons _ t => congrArg (· + 1) (FrL.len t)
theorem FrL.get : ∀ {vs : List V} {ds : List PyData}, FrL K H vs ds → ∀ {i : Nat} {d : PyData}, ds[i]? = some d → ∃ v, vs[i]? = some v ∧ Fr K H v d
  | _, _, .nil, _, _, e => by simp at e
  | _, _, .cons h t, 0, _, e => by simp at e; subst e; exact ⟨_, rfl, h⟩
  | _, _, .cons h t, i + 1, d, e => by
    obtain ⟨v, h1, h2⟩ := FrL.get t (i := i) (d := d) (by simpa using e)
    exact ⟨v, by simpa using h1, h2⟩
theorem FrL.getV {vs : List V} {ds : List PyData} (h : FrL K H vs ds) {i : Nat} {v : V} (e : vs[i]? = some v) : ∃ d, ds[i]? = some d ∧ Fr K H v d := by
  have hl := h.len
  obtain ⟨hi, _⟩ := List.getElem?_eq_some_iff.mp e
  have hi2 : i < ds.length := by omega
  obtain ⟨u, hu, hf⟩ := h.get (List.getElem?_eq_getElem hi2)
  rw [e] at hu
  cases hu
  exact ⟨_, List.getElem?_eq_getElem hi2, hf⟩
theorem FrL.app : ∀ {vs ws : List V} {ds es : List PyData}, FrL K H vs ds → FrL K H ws es → FrL K H (vs ++ ws) (ds ++ es)
  | _, _, _, _, .nil, k => k
  | _, _, _, _, .cons h t, k => .cons h (FrL.app t k)
theorem FrL.take : ∀ {vs : List V} {ds : List PyData} (n : Nat), FrL K H vs ds → FrL K H (vs.take n) (ds.take n)
  | _, _, 0, _ => by simp; exact .nil
  | _, _, _ + 1, .nil => .nil
  | _, _, n + 1, .cons h t => by simp; exact .cons h (FrL.take n t)
/-- what stands for a tuple -/
theorem Fr.inv {v : V} {ds : List PyData} (h : Fr K H v (.tuple ds)) : ∃ a xs, v = .ref a ∧ SqC K H a xs ∧ FrL K H xs ds := by
  cases h with
  | tup h t => exact ⟨_, _, rfl, h, t⟩
theorem Fr.strI {v : V} {x : Str} (h : Fr K H v (.str x)) : v = .str x := by cases h; rfl
theorem Fr.intI {v : V} {i : Int} (h : Fr K H v (.int i)) : v = .int i := by cases h; rfl
theorem Fr.new {p : Addr} {xs : List V} {ds : List PyData} (h : FrL K (upd H p (.tup xs)) xs ds) : Fr K (upd H p (.tup xs)) (.ref p) (.tuple ds) := .tup (.inl upd_same) h
/-- v[i] of a frozen tuple -/
theorem i_ixF {v : V} {ds : List PyData} {i : Nat} {d : PyData} {Q : VK} (h : Fr K H v (.tuple ds)) (e : ds[i]? = some d) (q : ∀ x, Fr K H x d → Q x H) : rIxT K v (.int i) H Q := by
  obtain ⟨a, xs, rfl, sq, fl⟩ := h.inv
  obtain ⟨x, hx, fx⟩ := fl.get e
  exact i_ixT sq.sq (atI_nat hx) (q x fx)
theorem i_ixFs {v : V} {ds : List PyData} {i : Nat} {s : Str} {Q : VK} (h : Fr K H v (.tuple ds)) (e : ds[i]? = some (.str s)) (q : Q (.str s) H) : rIxT K v (.int i) H Q := i_ixF h e fun x fx => by rw [fx.strI]; exact q
theorem i_ixFi {v : V} {ds : List PyData} {i : Nat} {n : Int} {Q : VK} (h : Fr K H v (.tuple ds)) (e : ds[i]? = some (.int n)) (q : Q (.int n) H) : rIxT K v (.int i) H Q := i_ixF h e fun x fx => by rw [fx.intI]; exact q
theorem i_lenF {v : V} {ds : List PyData} {Q : VK} (h : Fr K H v (.tuple ds)) (q : Q (.int ds.length) H) : rLenT K [v] H Q := by
  obtain ⟨a, xs, rfl, sq, fl⟩ := h.inv
  exact i_lenT sq.sq (by rw [fl.len]; exact q)
end
/-! ### types, heads, modules -/
inductive Kd where
  | int | bytes | nothing | null
  | cls (k : Nat)
  | fac (p f : Str)
  deriving DecidableEq
def Kd.d : Kd → PyData
  | .int => .tuple [.str "int"]
  | .bytes => .tuple [.str "bytes"]
  | .nothing => .tuple [.str "nothing"]
  | .null => .tuple [.str "null"]
  | .cls k => .tuple [.str "class", .int k]
  | .fac p f => .tuple [.str "face", .str p, .str f]
structure Hd where
  nm : Str
  ps : List Kd
  rs : Kd
  deriving DecidableEq
def Hd.ds (h : Hd) : List PyData := [.str h.nm, .tuple (h.ps.map Kd.d), h.rs.d]
def Hd.d (h : Hd) : PyData := .tuple h.ds
structure Rw where
  h : Hd
  m : Nat
  deriving DecidableEq
def Rw.d (r : Rw) : PyData := .tuple (r.h.ds ++ [.int r.m])
structure Cl where
  nm : Str
  par : Int
  fcs : List (Str × Str)
  fds : List Kd
  tb : List Rw
def fcD (f : Str × Str) : PyData := .tuple [.str "face", .str f.1, .str f.2]
def Cl.d (c : Cl) : PyData := .tuple [.str c.nm, .int c.par, .tuple (c.fcs.map fcD), .tuple (c.fds.map Kd.d), .tuple (c.tb.map Rw.d)]
structure Mt where
  k : Int
  h : Hd
  vars : List Kd
  rest : List PyData
def Mt.d (m : Mt) : PyData := .tuple (.int m.k :: m.h.ds ++ .tuple (m.vars.map Kd.d) :: m.rest)
structure Md where
  nm : Str
  ver : Int
  uses : List (Str × Int)
  fcs : List (Str × List Hd)
  cls : List Cl
  mts : List Mt
  apps : List Nat
def useD (u : Str × Int) : PyData := .tuple [.str u.1, .int u.2]
def faceD (f : Str × List Hd) : PyData := .tuple [.str f.1, .tuple (f.2.map Hd.d)]
def Md.ds (m : Md) : List PyData := [.str "module", .str m.nm, .int m.ver, .tuple (m.uses.map useD), .tuple (m.fcs.map faceD), .tuple (m.cls.map Cl.d), .tuple (m.mts.map Mt.d), .tuple (m.apps.map fun k : Nat => .int k)]
def Md.d (m : Md) : PyData := .tuple m.ds
def faceKd (f : Str × Str) : Kd := .fac f.1 f.2
theorem fcD_eq (f : Str × Str) : fcD f = (faceKd f).d := rfl
/-! ancestors -/
def parOf (cs : List Cl) (k : Int) : Int := match cs[k.toNat]? with
  | some c => c.par
  | none => -1
def anc (cs : List Cl) : Nat → Int → List Int
  | 0, _ => []
  | n + 1, k => if k < 0 then [] else k :: anc cs n (parOf cs k)
/-- each parent stands ahead of its heirs -/
def Ahead (cs : List Cl) : Prop := ∀ (k : Nat) (c : Cl), cs[k]? = some c → -1 ≤ c.par ∧ c.par < k
def ancs (cs : List Cl) (k : Int) : List Int := anc cs (k + 1).toNat k
theorem anc_more {cs : List Cl} (w : Ahead cs) : ∀ (n : Nat) (k : Int), k < n → -1 ≤ k → k < cs.length → anc cs n k = ancs cs k := by
  intro n
  induction n using Nat.strongRecOn with
  | ind n ih =>
    intro k h1 h2 h3
    cases n with
    | zero =>
      have : k = -1 := by omega
      subst this; rfl
    | succ n =>
      unfold ancs
      by_cases hk : k < 0
      · have : k = -1 := by omega
        subst this; rfl
      · obtain ⟨j, rfl⟩ := Int.eq_ofNat_of_zero_le (show 0 ≤ k by omega)
        have hj : j < cs.length := by omega
        have e1 : ((j : Int) + 1).toNat = j + 1 := by omega
        have hp := w j cs[j] (List.getElem?_eq_getElem hj)
        have ep : parOf cs (j : Int) = cs[j].par := by
          unfold parOf
          rw [Int.toNat_natCast, List.getElem?_eq_getElem hj]
        rw [e1]
        show (if (j : Int) < 0 then [] else (j : Int) :: anc cs n (parOf cs j)) = (if (j : Int) < 0 then [] else (j : Int) :: anc cs j (parOf cs j))
        rw [if_neg hk, if_neg hk, ep, ih n (by omega) cs[j].par (by omega) hp.1 (by omega), ih j (by omega) cs[j].par hp.2 hp.1 (by omega)]
theorem ancs_neg {cs : List Cl} {k : Int} (h : k < 0) : ancs cs k = [] := by
  unfold ancs
  cases e : (k + 1).toNat with
  | zero => rfl
  | succ n => show (if k < 0 then _ else _) = _; rw [if_pos h]
theorem ancs_step {cs : List Cl} (w : Ahead cs) {k : Nat} {c : Cl} (h : cs[k]? = some c) : ancs cs k = (k : Int) :: ancs cs c.par := by
  have hk : k < cs.length := (List.getElem?_eq_some_iff.mp h).1
  have hp := w k c h
  unfold ancs
  rw [show ((k : Int) + 1).toNat = k + 1 by omega]
  show (if (k : Int) < 0 then [] else (k : Int) :: anc cs k (parOf cs k)) = _
  rw [if_neg (by omega)]
  have ep : parOf cs (k : Int) = c.par := by
    unfold parOf
    rw [Int.toNat_natCast, h]
  rw [ep, anc_more w k c.par hp.2 hp.1 (by omega)]
  rfl
theorem ancs_len {cs : List Cl} (w : Ahead cs) : ∀ (n : Nat) (k : Int), k < n → -1 ≤ k → k < cs.length → (ancs cs k).length ≤ n ∧ ∀ j ∈ ancs cs k, 0 ≤ j ∧ j ≤ k := by
  intro n
  induction n with
  | zero => intro k h1 h2 h3; rw [ancs_neg (by omega)]; exact ⟨Nat.zero_le _, fun _ h => nomatch h⟩
  | succ n ih =>
    intro k h1 h2 h3
    by_cases hk : k < 0
    · rw [ancs_neg hk]; exact ⟨Nat.zero_le _, fun _ h => nomatch h⟩
    · obtain ⟨j, rfl⟩ := Int.eq_ofNat_of_zero_le (show 0 ≤ k by omega)
      have hj : j < cs.length := by omega
      have hp := w j cs[j] (List.getElem?_eq_getElem hj)
      rw [ancs_step w (List.getElem?_eq_getElem hj)]
      obtain ⟨i1, i2⟩ := ih cs[j].par (by omega) hp.1 (by omega)
      refine ⟨by rw [List.length_cons]; omega, fun x hx => ?_⟩
      rcases List.mem_cons.mp hx with rfl | hx
      · omega
      · have := i2 x hx; omega

/-! ### for .. in a list or a tuple, told only by the run -/
def iLT (K : PySem.W.Frag) (tl : TE) : TI := fun σ H R => tl σ H fun x H1 => ∃ a, x = .ref a ∧ (((∃ xs, SqL K H1 a xs) ∧ R (Itl K a) H1) ∨ ((∃ xs, SqT K H1 a xs) ∧ R (Itt K a) H1))
theorem pi_lt {X : Cx} {tg : Expr} {l : Expr} {tl : TE} (hl : PE X l tl) : PI X tg l (iLT X.K tl) := by
  refine ⟨fun pins s σ H R I h => ?_⟩
  refine thn (hl.run pins s σ H _ I h) fun v s1 ⟨x, H1, I1, r1, q1⟩ => ?_
  obtain ⟨a, e, q⟩ := q1
  subst e
  cases r1
  rcases q with ⟨⟨xs, hq⟩, q⟩ | ⟨⟨xs, hq⟩, q⟩
  · obtain ⟨its, rv, p, hz⟩ := I1.list hq
    refine wpAny_pyIter_list p.isList ?_
    refine ⟨s1.heap.objs.size, [s1.heap.objs.size], _, _, H1, rfl, I1.kept (t' := s1.toks) fun b o e => Heap.get?_push_of_some _ e, turn_list a _, ⟨_, Heap.get?_push_size _ rfl, rfl, rfl⟩, fun b hb => ?_, q⟩
    have e : b = s1.heap.objs.size := by simpa using hb
    subst e
    exact I1.fpOk (Nat.le_refl _) (I1.hok.fresh (Nat.le_refl _))
  · obtain ⟨its, rv, p, hz⟩ := I1.tuple hq
    refine wpAny_pyIter_tuple (show s1.heap.IsTuple a its.toArray from p) ?_
    refine ⟨s1.heap.objs.size, [s1.heap.objs.size], _, _, H1, rfl, I1.kept (t' := s1.toks) fun b o e => Heap.get?_push_of_some _ e, turn_tuple a _, ⟨_, Heap.get?_push_size _ rfl, rfl, rfl⟩, fun b hb => ?_, q⟩
    have e : b = s1.heap.objs.size := by simpa using hb
    subst e
    exact I1.fpOk (Nat.le_refl _) (I1.hok.fresh (Nat.le_refl _))
/-- a list that nothing changes, or a tuple that was made once -/
def SqX (K : PySem.W.Frag) (H : Hp) (a : Addr) (xs : List V) : Prop := H a = some (.lst xs) ∨ SqC K H a xs
theorem SqX.same {K : PySem.W.Frag} {H H' : Hp} {a : Addr} {xs : List V} (h : SqX K H a xs) (s : Same H H') : SqX K H' a xs := h.imp (s _ _) (SqC.up (.of s))
theorem i_forLT {K : PySem.W.Frag} {a : Addr} {xs : List V} {j : Nat} {tb : TS} {D : Ends} {σ : L2.St} {H : Hp} (h : SqX K H a xs) (Pv : Nat → L2.St → Hp → Prop) (h0 : Pv 0 σ H) (hG : ∀ i σ' H', Pv i σ' H' → Same H H')
    (hs : ∀ i x σ H, i < xs.length → Pv i σ H → xs[i]? = some x → tb { D with nx := Pv (i + 1), ct := Pv (i + 1), bk := D.nx } (σ.set j (some x)) H) (hd : ∀ σ H, Pv xs.length σ H → D.nx σ H) :
    ((∃ xs, SqL K H a xs) ∧ rForJ (Itl K a) (gName j) tb D σ H) ∨ ((∃ xs, SqT K H a xs) ∧ rForJ (Itt K a) (gName j) tb D σ H) := by
  rcases h with h | h
  · refine .inl ⟨⟨_, sqL_of h⟩, i_for (walk_list (K := K) (a := a) (xs := xs)) Pv h0 (fun i σ' H' _ q => sqL_of (hG _ _ _ q _ _ h)) ?_ hd⟩
    rintro i x σ' H1 H2 hi q ⟨rfl, hx⟩
    exact hs i x σ' _ hi q hx
  · refine .inr ⟨⟨_, h.sq⟩, i_for (walk_tup (K := K) (a := a) (xs := xs)) Pv h0 (fun i σ' H' _ q => (h.up (.of (hG _ _ _ q))).sq) ?_ hd⟩
    rintro i x σ' H1 H2 hi q ⟨rfl, hx⟩
    exact hs i x σ' _ hi q hx

/-! ### xs == [] and xs != [] for a list of anything -/
def rNil (K : PySem.W.Frag) (neg : Bool) : V → V → Hp → VK → Prop := fun x y H Q => ∃ (a b : Addr) (xs : List V), x = .ref a ∧ y = .ref b ∧ SqL K H a xs ∧ SqL K H b [] ∧ Q (.bl (if neg = true then !decide (xs = []) else decide (xs = []))) H
theorem nil_lists {X : Cx} {pins : List (Addr × Obj)} {σ : L2.St} {H : Hp} {s : Shared} (I : Inv X pins σ H s) {a b : Addr} {xs : List V} (ha : SqL X.K H a xs) (hb : SqL X.K H b []) :
    ∃ its : Array Value, s.heap.IsList a its ∧ s.heap.IsList b #[] ∧ (xs = [] → its = #[]) ∧ (xs ≠ [] → (its.size != (#[] : Array Value).size) = true) := by
  obtain ⟨its, rv, pl, _⟩ := I.list ha
  obtain ⟨its2, rv2, pl2, _⟩ := I.list hb
  cases rv2
  refine ⟨its.toArray, pl.isList, pl2.isList, fun e => ?_, fun e => ?_⟩
  · subst e
    cases rv
    rfl
  · have hl := rv.length
    cases xs with
    | nil => exact absurd rfl e
    | cons x xs =>
      rw [List.length_cons] at hl
      simp
      intro h0
      rw [h0] at hl
      simp at hl
theorem op_nilEq {X : Cx} (hu : X.A.units + 64 < cLine) : OpR X (compareOp .Eq) (rNil X.K false) := by
  intro pins s σ H x y v u Q I rx ry h
  obtain ⟨a, b, xs, rfl, rfl, ha, hb, q⟩ := h
  cases rx
  cases ry
  obtain ⟨its, il, ib, h1, h2⟩ := nil_lists I ha hb
  by_cases e : xs = []
  · have e1 := h1 e
    subst e1
    exact PySem.SeqAt.eq_listAt (e := fun _ => true) il ib rfl (by omega) (fun j h1 _ => absurd h1 (Nat.not_lt_zero _)) ⟨.bl _, H, I, rfl, by simpa [e] using q⟩
  · exact PySem.SeqAt.eq_list_lengthsAt il ib (h2 e) (by omega) ⟨.bl _, H, I, rfl, by simpa [e] using q⟩
theorem op_nilNe {X : Cx} (hu : X.A.units + 64 < cLine) : OpR X (compareOp .NotEq) (rNil X.K true) := by
  intro pins s σ H x y v u Q I rx ry h
  obtain ⟨a, b, xs, rfl, rfl, ha, hb, q⟩ := h
  cases rx
  cases ry
  obtain ⟨its, il, ib, h1, h2⟩ := nil_lists I ha hb
  by_cases e : xs = []
  · have e1 := h1 e
    subst e1
    exact PySem.SeqAt.RcNeAt.lists (e := fun _ => true) il ib rfl (by omega) (fun j h1 _ => absurd h1 (Nat.not_lt_zero _)) _ _ _ _ ⟨.bl _, H, I, rfl, by simpa [e] using q⟩
  · exact PySem.SeqAt.RcNeAt.lists_lengths il ib (h2 e) (by omega) _ _ _ _ ⟨.bl _, H, I, rfl, by simpa [e] using q⟩
theorem i_nil {K : PySem.W.Frag} {neg : Bool} {a b : Addr} {xs : List V} {H : Hp} {Q : VK} (ha : SqL K H a xs) (hb : SqL K H b []) (q : Q (.bl (if neg = true then !decide (xs = []) else decide (xs = []))) H) : rNil K neg (.ref a) (.ref b) H Q := ⟨a, b, xs, rfl, rfl, ha, hb, q⟩

/-! ### calls within an except suite -/
theorem pmkN_own0 {X : Cx} {C : Addr} {bmB : List Value} {B newId initId : String} {x : Str} {p pos : Pos} (F : ExcBaseFacts B newId initId bmB) (q : PySem.W.excIn X.K C bmB newId = true) (gC : X.mg x = some (.ref C))
    (kC : PySem.W.keepIn X.K (.ref C) = true) (r : Raises X (.ref C)) (hg : Gl X x) (hdb : (x == ("__debug__" : Str)) = false := by decide) :
    L2N.PMk X (.Call (.Name x p) [] [] pos) (fun _ H Q => Q (.ref C) none H) := by
  intro pins s σ H Q I h
  refine wpAny_Call_Name_kw (ld_glob I hg gC ?_ hdb)
  refine PySem.W.callWith_K0 I.kIn kC ?_
  show wpAny _ _ (call (.ref C) []) _ _ _
  obtain ⟨_, _, _, _, _, _, _, _, _, _, _, _, _, _, _, _, mN, hC, hN, hni, T⟩ := exc_obj I.kIn q
  exact wpAny_call_exc_subT F T hC hN hni (fun h' e hm => L2N.mk_of I hm r h (I.hok.gone hm.new)) (Nat.zero_le _)
theorem okXN {P : Program} {w : World} {K : PySem.W.Frag} {mg : Str → Option Value} {base : Heap} {x qual : Str} {st : Stmt} {f : Addr} {fd : FuncData} {N ps : List Str} {k : Nat} {sp : Sp} (F : Fun K x qual st f fd) (S : FnScope N ps (defScope st))
    (len : ∀ vs H Q E, sp vs H Q E → vs.length = ps.length)
    (hbody : ∀ (cdv : Value) (A : Around) (outer : List Env) (s : Shared) (H : Hp) (vs : List V) (Q : VK) (E : XK), Room k (A.deeper (envOfC qual (defScope st) s.heap.objs.size f cdv)) → sp vs H Q E →
      ∃ t, PSs (cxOf (L2N.CX P w) P w K mg base N qual (defScope st) f cdv A outer s H E) (defBody st) t ∧ t { nx := fun _ H' => Q .non H', rt := Q } (start N vs) H) : FnOk P w K mg base (L2N.CX P w) (k + 1) f fd ps sp := by
  obtain ⟨_, _, _, _, _, _, cdv, _, _, rfl, lk, hcd⟩ := F.ex
  exact fn_of lk hcd S len (hbody cdv)
theorem okH {P : Program} {w : World} {K : PySem.W.Frag} {mg : Str → Option Value} {base : Heap} {CX : CXT} {x qual : Str} {st : Stmt} {f : Addr} {fd : FuncData} {N ps : List Str} {k : Nat} {sp : Sp} (F : Fun K x qual st f fd) (S : FnScope N ps (defScope st))
    (len : ∀ vs H Q E, sp vs H Q E → vs.length = ps.length)
    (hbody : ∀ (cdv : Value) (A : Around) (outer : List Env) (s : Shared) (H : Hp) (vs : List V) (Q : VK) (E : XK) (p : Addr × Obj), L2H.Hot1 A p → L2H.RoomH k (A.deeper (envOfC qual (defScope st) s.heap.objs.size f cdv)) → sp vs H Q E →
      ∃ t, PSs (L2H.cxH CX P w K mg base N qual (defScope st) f cdv A outer s H E p) (defBody st) t ∧ t { nx := fun _ H' => Q .non H', rt := Q } (start N vs) H) : L2H.FnH P w K mg base CX (k + 1) f fd ps sp := by
  obtain ⟨_, _, _, _, _, _, cdv, _, _, rfl, lk, hcd⟩ := F.ex
  exact L2H.fn_ofH lk hcd S len (hbody cdv)
theorem passNL {X : Cx} : Passes (L2N.CX X.prog X.w) X L2.E0 := fun _ _ _ _ _ _ _ h => by
  obtain ⟨_, _, _, _, _, _, _, _, _, _, _, _, z⟩ := h
  exact z.elim
theorem passH0 {X : Cx} (σ : L2.St) : PassesAt CX0 X σ L2.E0 := fun _ _ _ _ _ _ h => h.elim
section
variable {X : Cx} {CX : CXT} {k : Nat} {f C : Addr} {fd : FuncData} {ps : List Str} {sp : Sp} {E : L2.St → XK} {m : Str} {pos apos : Pos} {o : Expr} {ta : TE}
theorem pe_methH0 {pl : Sem Bool} (he : PE X o ta) (c : Cls X.K C) (hm : Meth X.K C m f) (F : L2H.FnH X.prog X.w X.K X.mg X.base CX k f fd ps sp) (hr : L2H.RoomH k X.A) (hc : L2H.HotC X) (hb : Binds X.K fd ps []) (hx : ∀ σ, PassesAt CX X σ (E σ))
    (ht : eval (.Call (.Attribute o m apos) [] [] pos) X.env = (do
      let ov ← eval o X.env
      standAt apos.atName
      let (f, first) ← holding [ov] (getMethod ov m pl)
      callWith pos f first (backTo pos (starEach [] X.env)) (backToKw pos (keywordEach [] X.env))) := by rfl) :
    PE X (.Call (.Attribute o m apos) [] [] pos) (L2H.tMethH C m sp E ta tNil) := by
  refine ⟨fun pins s σ H Q I h => PySem.W.methodCall_KW (pl := pl) (thn (he.run pins s σ H _ I h) fun u s1 hu => ?_) ht⟩
  obtain ⟨_, H1, I1, rx, a, dx, fs, rfl, ea, l, q⟩ := hu
  obtain rfl : u = Value.ref a := rx
  exact getmeth_ok I1 ea c hm l (PySem.W.callWith_K0 (first := [.ref a]) I1.kIn hm.kp (L2H.run_fnH (us := [.ref a]) (vs := [.ref a]) F hr hc hb (hx σ) I1 (.cons rfl .nil) q))
end
theorem tMethH_eq {C : Addr} {m : Str} {sp : Sp} {E : L2.St → XK} {ta : TE} {t : TA} {σ : L2.St} {H : Hp} {Q : VK} : L2H.tMethH C m sp E ta t σ H Q = ta σ H fun x H1 => rMeth C m sp (E σ) (fun k H => t σ H k) x H1 Q := rfl

/-! ### a for over a tuple within an except suite -/
section
open HotX
theorem nextTup_end {prog : Program} {w : World} {A : Around} {E : Value → Shared → Prop} {s : Shared} {it t x1 : Addr} {i : Nat} {items : Array Value} {Q : Option Value → Shared → Prop} (hot : HotAt A x1 s.heap) (nx : x1 ≠ it)
    (hit : s.heap.IsTupleIter it t i) (ht : s.heap.IsTuple t items) (hx : items[i]? = none) (hQ : ∀ h', Heap.ExtBut it s.heap h' → Q none { s with heap := h' }) : wpAny (model prog w) A (pyNext (.ref it)) Q E s := by
  have hT := hit.typeIs
  obtain ⟨o, ho, hc, hd⟩ := id hit
  obtain ⟨ol, hol, _, nl, hdl⟩ := ht
  obtain ⟨hh, o1, vs1, h1, d1, c1⟩ := hot
  unfold pyNext
  refine wpAny_bind (wpAny_attempt (wpAny_callSpecial?_slot (name := Str.ofString "__next__") hT F.slot_tuple_iterator_next (wpAny_call_entry F.slot_tuple_iterator_next hT F.entry_tuple_iterator_next ?_ (F.args_tuple_iterator_next_1 _))))
  show wpAny _ _ (field (.ref it) 0 >>= _) _ _ s
  refine wpAny_bind (wpAny_field ho hd (x := .ref t) rfl ?_)
  show wpAny _ _ (if (Value.ref t == Value.none) = true then _ else _) _ _ s
  rw [if_neg (show ¬ ((Value.ref t == Value.none) = true) from Bool.false_ne_true)]
  show wpAny _ _ (field (.ref it) 1 >>= _) _ _ s
  refine wpAny_bind (wpAny_field ho hd (x := .int i 0) rfl ?_)
  show wpAny _ _ (seqItems? (.ref t) >>= _) _ _ s
  refine wpAny_bind (wpAny_seqItems hol hdl ?_)
  simp only [Int.toNat_natCast, hx]
  refine wpAny_bind (wpAny_rule (wpAny_bind (wpAny_setField ho hd (by simp) ?_)))
  have e1 := (Heap.get?_update_other s.heap (Obj.mapFields (·.setIfInBounds 0 Value.none)) (Ne.symm nx)).trans h1
  have sb : Heap.ExtBut it s.heap (s.heap.update it (Obj.mapFields (·.setIfInBounds 0 Value.none))) := (Heap.SameBut.update ..).extBut
  generalize s.heap.update it (Obj.mapFields (·.setIfInBounds 0 Value.none)) = h2 at *
  show wpAny _ _ (newExc (.type "StopIteration") [] >>= _) _ _ _
  refine wpAny_bind ?_
  simp only [newExc, newTuple]
  refine wpAny_bind (wpAny_newObj_type ?_ (by size_fits))
  refine wpAny_bind (m := firstArgMember _ _) (wpAny_of_eq (a := Value.none) (by first | rfl | (simp only [firstArgMember]; rfl)) ?_)
  refine wpAny_newObj_type ?_ (by size_fits)
  refine raiseNew_hot ⟨hh, o1, vs1, Heap.get?_push_of_some _ (Heap.get?_push_of_some _ e1), d1, c1⟩ (Nat.ne_of_lt (Heap.lt_size (Heap.get?_push_of_some _ e1))) (Heap.get?_push_size _ rfl) rfl (by first | (simp; done) | (simp; omega) | (simp only [Array.size_append]; simp; omega)) ?_
  refine wpAny_bind (wpAny_isInstance (T := "StopIteration") (b := true) ⟨_, Heap.get?_update_self _ (Heap.get?_push_size _ rfl) rfl, rfl⟩ isSubtype_stop ?_)
  refine wpAny_pure (hQ _ fun b o nb e => ?_)
  have e2 := sb b o nb e
  rw [Heap.get?_update_other _ _ (Nat.ne_of_gt (Heap.lt_size (Heap.get?_push_of_some _ e2)))]
  exact Heap.get?_push_of_some _ (Heap.get?_push_of_some _ e2)
theorem turn_tupleH {P : Program} {w : World} {K : PySem.W.Frag} {tg : Expr} (a it : Addr) : L2H.TurnH P w K tg (Itt K a) [it] it (fun i h => h.IsTupleIter it a i) where
  mem := by simp
  obj := fun i h st b hb => by
    obtain rfl : b = it := by simpa using hb
    obtain ⟨o, e, _, d⟩ := st
    exact ⟨o, e, fun v z => by rw [d] at z; cases z⟩
  keep := fun i h h' st k => by
    obtain ⟨o, e, r⟩ := st
    exact ⟨o, k it (by simp) o e, r⟩
  item := by
    intro X hP hw hK hc i pins s σ H E I hf st hg
    subst hP hw hK
    obtain ⟨xs, x, hq, hx⟩ := hg
    obtain ⟨its, rv, p, hz⟩ := I.tuple hq
    obtain ⟨u, hu, ru⟩ := rv.get hx
    obtain ⟨f0, f1, f2, f3, f4, f5⟩ := hf it (by simp)
    refine wpAny_pyNext_tuple_item st (show s.heap.IsTuple a its.toArray from p) (x := u) (by simpa using hu) fun h' st' sb => ?_
    have I1 : Inv X pins σ H { s with heap := h' } := I.turned (t' := s.toks) (fun b o hb e => (sb.2 b hb).trans e) f0 f1 f3 f4 f5
    obtain ⟨o, e, c, d⟩ := id st'
    exact ⟨u, rfl, go_of (s := { s with heap := h' }) e c d (by decide) ⟨x, H, I1, ru, ⟨rfl, fun ys hy => by rw [I.tuple_inj hy hq]; exact hx⟩, st', fun b hb => (hf b hb).1⟩⟩
  done := by
    intro X hP hw hK hc i pins s σ H E I hf st hg
    subst hP hw hK
    obtain ⟨xs, hq, hx⟩ := hg
    obtain ⟨its, rv, p, hz⟩ := I.tuple hq
    obtain ⟨f0, f1, f2, f3, f4, f5⟩ := hf it (by simp)
    have hl := rv.length
    obtain ⟨q, ⟨hh, v1, e1, c1⟩, hq1⟩ := hc
    exact nextTup_end ⟨hh, q.2, v1, (I.pin q (List.mem_append_left _ hq1)).1, e1, c1⟩ (f5 q (List.mem_append_left _ hq1)) st (show s.heap.IsTuple a its.toArray from p) (by simp; omega) fun h' eb => ⟨rfl, I.turned (t' := s.toks) (fun b o hb e => eb b o hb e) f0 f1 f3 f4 f5⟩
  self := fun _ _ _ _ _ st h => wpAny_pyIter_tupleiter st h
theorem pi_tupH {X : Cx} {tg l : Expr} {tl : TE} (hl : PE X l tl) : L2H.PIH X tg l (iTup X.K tl) := by
  refine ⟨fun pins s σ H R I h => ?_⟩
  refine thn (hl.run pins s σ H _ I h) fun v s1 ⟨x, H1, I1, r1, q1⟩ => ?_
  obtain ⟨a, e, ⟨xs, hq⟩, q⟩ := q1
  subst e
  cases r1
  obtain ⟨its, rv, p, hz⟩ := I1.tuple hq
  refine wpAny_pyIter_tuple (show s1.heap.IsTuple a its.toArray from p) ?_
  refine ⟨s1.heap.objs.size, [s1.heap.objs.size], _, _, H1, rfl, I1.kept (t' := s1.toks) fun b o e => Heap.get?_push_of_some _ e, turn_tupleH a _, ⟨_, Heap.get?_push_size _ rfl, rfl, rfl⟩, fun b hb => ?_, q⟩
  obtain rfl : b = s1.heap.objs.size := by simpa using hb
  exact I1.fpOk (Nat.le_refl _) (I1.hok.fresh (Nat.le_refl _))
/-- a tuple is taken apart there -/
theorem unpackTup_hot {prog : Program} {w : World} {A : Around} {E : Value → Shared → Prop} {s : Shared} {t x1 : Addr} {items : Array Value} {targets : List (Bool × (Value → Sem Unit))} {Q : Unit → Shared → Prop} (hot : HotAt A x1 s.heap) (ht : s.heap.IsTuple t items)
    (hn : targets.length = items.size) (hstar : targets.findIdx? (·.1) = none) (hQ : ∀ h', Heap.ExtBut s.heap.objs.size s.heap h' → wpAny (model prog w) A (assignInOrder (targets.map (·.2)) items.toList) Q E { s with heap := h' }) :
    wpAny (model prog w) A (unpack (.ref t) targets) Q E s := by
  have hlt : t ≠ s.heap.objs.size := by obtain ⟨o, ho, _⟩ := ht; exact Nat.ne_of_lt (Heap.lt_size ho)
  obtain ⟨hh, o1, vs1, h1, d1, c1⟩ := hot
  have nx : x1 ≠ s.heap.objs.size := Nat.ne_of_lt (Heap.lt_size h1)
  unfold unpack
  rw [hn, hstar]
  refine wpAny_bind (wpAny_holding ?_)
  unfold unpackItems
  refine wpAny_bind ?_
  unfold notIterableAtAll
  refine wpAny_bind (wpAny_specialOf ht.typeIs F.slot_tuple_iter.lookup (wpAny_pure ?_))
  simp only [Bool.false_eq_true, if_false]
  refine wpAny_bind (wpAny_holding (wpAny_pyIter_tuple ht ?_))
  refine wpAny_bind (wpAny_holding (wpAny_draw_tuple hlt items.size 0 _ _ ⟨_, Heap.get?_push_size _ rfl, rfl, rfl⟩ (ht.push _) (by omega) fun h₁ hit₁ hs₁ => ?_))
  have hall : List.take items.size (List.drop 0 items.toList) = items.toList := by
    rw [List.drop_zero]; exact List.take_of_length_le (by simp)
  rw [hall, if_neg (by simp)]
  have k : ∀ b o, b ≠ s.heap.objs.size → s.heap.get? b = some o → h₁.get? b = some o := fun b o hb e => hs₁.extBut b o hb (Heap.get?_push_of_some _ e)
  refine wpAny_bind (wpAny_holding (nextTup_end ⟨hh, o1, vs1, k _ _ nx h1, d1, c1⟩ nx hit₁ ((ht.push _).extBut hs₁.extBut hlt) (by simp) fun h₂ he₂ => ?_))
  simp only [Option.isSome_none, Bool.false_eq_true, if_false]
  exact wpAny_pure (hQ h₂ fun b o hb e => he₂ b o hb (k b o hb e))
theorem pg_tupH {X : Cx} {es : List Expr} {k : Nat} {t : TGs} {n : Nat} {pos : Pos} (hc : L2H.HotC X) (h : PGs X es t)
    (hn : (assignEach es X.env).length = n := by rfl) (hst : (assignEach es X.env).findIdx? (·.1) = none := by rfl) : PG X (.Tuple es k pos) (gTup X.K n t) := by
  refine ⟨fun pins s σ H v u Q I r hw => ?_⟩
  obtain ⟨a, xs, e1, hq, hl, hw⟩ := hw
  subst e1
  cases r
  obtain ⟨its, rv, ht, hz⟩ := I.tuple hq
  obtain ⟨x1, hot⟩ := hc.at I
  rw [arm_assign_Tuple]
  refine wpAny_bind (wpAny_standAt (unpackTup_hot hot (show s.heap.IsTuple a its.toArray from ht) (by simp [hn, ← hl, rv.length]) hst fun h' hx => ?_))
  have I1 : Inv X pins σ H { s with heap := h' } := I.kept (t' := s.toks) fun b o e => hx b o (Nat.ne_of_lt (Heap.lt_size e)) e
  exact h.run pins _ σ H xs _ Q I1 (by simpa using rv) hw
end
/-! ### try: an except suite that names the exception, calls and raises -/
section
variable {X : Cx} {pins : List (Addr × Obj)} {σ : List (Option V)} {H : Hp} {s : Shared}
/-- the frame's own namespace lost a name; all else stays -/
theorem inv_gone {i : Nat} {n : Str} {G : Heap} {m' : Str → Option Value} {tk : Nat} (I : Inv X pins σ H s) (hN : X.N.Nodup) (hi : X.N[i]? = some n) (hn' : G.Ns X.env.locals m') (hs : Heap.SameBut X.env.locals s.heap G)
    (hl : ∀ (j : Nat) (y : Str) (v : V), X.N[j]? = some y → σ[j]? = some (some v) → y ≠ n → X.env.kindOf y = some .local → ∃ u, RelV v u ∧ m' y = some u) : Inv X pins (σ.set i none) H { s with heap := G, toks := tk } := by
  obtain ⟨m, ⟨oL, _, _, hoL, _⟩, hlk⟩ := id I.loc
  have oth : ∀ b, b ≠ X.env.locals → G.get? b = s.heap.get? b := hs.2
  have old : ∀ b o, X.s_0.heap.get? b = some o → G.get? b = s.heap.get? b := fun b o e => oth b (Nat.ne_of_lt (Nat.lt_of_lt_of_le (Heap.lt_size e) I.ok.above))
  constructor
  case ok => exact I.ok
  case os => exact I.os
  case bare => exact I.bare
  case base =>
    obtain ⟨b1, b2, b3, b4, b5, b6, b7⟩ := I.base
    refine ⟨fun b o e n hb hx => (old b o e).trans (b1 b o e n hb hx), fun b o e n hb hx => ?_, b3, fun b o e hx => ?_, b5, b6, b7⟩
    · obtain ⟨sl, q⟩ := b2 b o e n hb hx
      exact ⟨sl, (old b o e).trans q⟩
    · obtain ⟨o', q⟩ := b4 b o e hx
      exact ⟨o', (old b o e).trans q⟩
  case loc =>
    refine ⟨m', hn', fun j y v e1 e2 e3 => ?_⟩
    have nj : j ≠ i := fun k => by
      subst k
      rw [List.getElem?_set] at e2
      rw [if_pos rfl] at e2
      split at e2 <;> cases e2
    rw [List.getElem?_set_ne (Ne.symm nj)] at e2
    obtain ⟨u, r, q⟩ := hlk j y v e1 e2 e3
    have ny : y ≠ n := fun k => nj (nodup_ix hN e1 (k ▸ hi))
    rcases q with ⟨k, _⟩ | ⟨k, c, e, z⟩
    · obtain ⟨u2, r2, q2⟩ := hl j y v e1 e2 ny k
      exact ⟨u2, r2, .inl ⟨k, q2⟩⟩
    · exact ⟨u, r, .inr ⟨k, c, e, z.sameBut hs (I.cne y c e)⟩⟩
  case cell => exact fun y c e => let ⟨v, z⟩ := I.cell y c e; ⟨v, z.sameBut hs (I.cne y c e)⟩
  case free => exact I.free
  case freeC => exact I.freeC
  case pin => exact fun p hp => let ⟨e, r⟩ := I.pin p hp; ⟨(oth p.1 r.2.1).trans e, r⟩
  case hok =>
    refine fun b ob e => (I.hok b ob e).stay (fun c w' hc q => (oth c ?_).trans q) (fun _ q => q) fun _ _ q => q
    rintro rfl
    rcases hc with hc | hc
    · rw [← hc, I.free] at e; cases e
    · rw [I.free] at hc; cases hc
  case len => rw [List.length_set]; exact I.len
end
/-- the context of such a suite -/
abbrev suiteY (X : Cx) (a : Addr) (pn : List (Addr × Obj)) (xe : Value → Shared → Prop) : Cx := { X with A := X.A.mark (some (.ref a)), calm := false, pn := pn, xe := xe }
section
variable {X : Cx} {x n : Str} {c : Value} {i : Nat} {body suite : List Stmt} {b₀ : Stmt} {np pos pos' : Pos} {tb : WX → TS} {ts : Addr → Value → Option Addr → TS} {Wout : WX}
theorem suiteY_of {a : Addr} {pn pn' : List (Addr × Obj)} {xe : Value → Shared → Prop} {σ : List (Option V)} {H : Hp} {s : Shared} (I : Inv (X.suite a pn) pn' σ H s) : Inv (suiteY X a pn xe) pn' σ H s := Inv.wish (X := X.suite a pn) I xe
theorem unsuiteY {a : Addr} {q : Addr × Obj} {pins pn' : List (Addr × Obj)} {xe : Value → Shared → Prop} {σ : List (Option V)} {H : Hp} {s : Shared} (I : Inv (suiteY X a (q :: (X.pn ++ pins)) xe) pn' σ H s) (ok : X.Ok) : Inv X pins σ H s :=
  Inv.unsuite (X := X) (a := a) (q := q) (pn' := pn') (Inv.wish (X := suiteY X a (q :: (X.pn ++ pins)) xe) I fun _ _ => False) ok
/-- an exception flies on out of a suite that named one: the name goes -/
theorem named_out {a : Addr} {q : Addr × Obj} {pins : List (Addr × Obj)} {xe : Value → Shared → Prop} {u : Value} {s2 : Shared} (ok : X.Ok) (hs : X.stack = X.env :: X.outer) (hf : X.env.frame = some X.env.locals) (hN : X.N.Nodup) (hi : X.N[i]? = some n) (hln : X.env.kindOf n = some .local)
    (tk : L2.Takes X Wout) (x2 : L2.XE (suiteY X a (q :: (X.pn ++ pins)) xe) (fun cls d σ H => Wout cls d (σ.set i none) H) u s2) {E₂ : Value → Shared → Prop} {E₁ : Value → Shared → Prop} :
    wpAny (model X.prog X.w) (X.A.mark (some (.ref a))) (noteFrame u X.env) (fun _ s3 =>
      wpAny (model X.prog X.w) (X.A.mark (some (.ref a))) (do bindName X.env n .none; unbindBehindTheSuite X.env n pos')
        (fun _ s4 => wpAny (model X.prog X.w) (X.A.mark (some (.ref a))) (passOn "try.except-as" u X.env : Sem Flow) (fun _ _ => False) (notedBy (model X.prog X.w) (X.A.mark (some (.ref a))) X.env (cameBackBy (model X.prog X.w) X.A X.env X.xe)) s4) E₂ s3) E₁ s2 := by
  obtain ⟨a2, B2, sI2, pn2, σ2, H2, cls2, d2, rfl, I2, nb2, up2, sky2, na2, os2, ag2, w2⟩ := x2
  have I2' : Inv X pins σ2 H2 sI2 := unsuiteY I2 ok
  have hfr : (X.A.mark (some (.ref a))).frames = some (X.env :: X.outer) := by
    show X.A.frames = _
    rw [ok.frames, hs]
  have sky' : L2.Sky B2 (X.env :: X.outer) a2 (Zc cls2 d2) X.env.locals s2.heap := by rw [← hs]; exact sky2
  have fin : ∀ h3, HandSPX.HeldZ B2 (X.env :: X.outer) a2 (Zc cls2 d2) X.env.locals h3 → s2.heap.UpToSlots h3 →
      wpAny (model X.prog X.w) (X.A.mark (some (.ref a))) (do bindName X.env n .none; unbindBehindTheSuite X.env n pos')
        (fun _ s4 => wpAny (model X.prog X.w) (X.A.mark (some (.ref a))) (passOn "try.except-as" (.ref a2) X.env : Sem Flow) (fun _ _ => False) (notedBy (model X.prog X.w) (X.A.mark (some (.ref a))) X.env (cameBackBy (model X.prog X.w) X.A X.env X.xe)) s4) E₂ { s2 with heap := h3 } := by
    intro h3 hh3 up3
    have J3 : Inv X pins σ2 H2 { s2 with heap := h3 } := Inv.landed I2' nb2 hh3.1 (up2.trans up3) os2 ag2
    obtain ⟨m, hn, hlk⟩ := id J3.loc
    have hcls : (X.env.scope.kind == .class || (X.env.scope.kind == .module && X.env.locals != X.env.globals)) = false := by rw [ok.kind]; rfl
    refine wpAny_nameGoes_keeps hln hn hcls fun h4 v hn4 hs4 => ?_
    obtain ⟨k1, k2, k3, k4⟩ := hh3
    have inL : X.env.locals ∈ frs (X.env :: X.outer) := List.mem_filterMap.mpr ⟨X.env, List.mem_cons_self, hf⟩
    have bL : B2.get? X.env.locals = none := (k3.mem inL).1
    have l1 : B2.StaysIn h4 := fun b o e => (hs4.2 b fun z => by rw [z, bL] at e; cases e).trans (k1 b o e)
    have l3 : h4.FunFrames B2 (X.env :: X.outer) := Heap.FunFrames.sameBut hs4 hn4 k3
    have l4 : HandSPX.TracedZ h4 B2 a2 (Zc cls2 d2) (rawInt X.env.locals) := by
      obtain ⟨oe, vs, T, oT, ts2, he, hz, hd, h1, hnT, hTe, hT, hdT, h5⟩ := k4
      obtain ⟨oL, es, ep, hoL, hdL, _⟩ := hn
      have neE : a2 ≠ X.env.locals := fun z => by
        rw [z] at he
        rw [show h3.get? X.env.locals = some oL from hoL] at he
        cases he
        rw [hdL] at hd; cases hd
      have neT : T ≠ X.env.locals := fun z => by
        rw [z] at hT
        rw [show h3.get? X.env.locals = some oL from hoL] at hT
        cases hT
        rw [hdL] at hdT; cases hdT
      exact ⟨oe, vs, T, oT, ts2, (hs4.2 a2 neE).trans he, hz, hd, h1, hnT, hTe, (hs4.2 T neT).trans hT, hdT, h5⟩
    have hh4 : HandSPX.HeldZ B2 (X.env :: X.outer) a2 (Zc cls2 d2) X.env.locals h4 := ⟨l1, k2, l3, l4⟩
    obtain ⟨oL4, es4, ep4, hoL4, hdL4, r4⟩ := id hn4
    obtain ⟨oL2, _, _, hoL2, _⟩ := id I2'.loc.choose_spec.1
    have ends : ∀ h6, HandSPX.HeldZ B2 (X.env :: X.outer) a2 (Zc cls2 d2) X.env.locals h6 → h4.UpToSlots h6 → X.xe (.ref a2) { s2 with heap := h6, toks := s2.toks + 1 } := by
      intro h6 hh6 up6
      have sb : Heap.SameBut X.env.locals sI2.heap (sI2.heap.update X.env.locals fun _ => oL4) := Heap.SameBut.update ..
      have gL : (sI2.heap.update X.env.locals fun _ => oL4).get? X.env.locals = some oL4 := Heap.get?_update_self _ hoL2 (Obj.isFreed_of_dict hdL4)
      refine tk _ _ ⟨a2, B2, { sI2 with heap := sI2.heap.update X.env.locals fun _ => oL4, toks := 0 }, pins, σ2.set i none, H2, cls2, d2, rfl, ?_, fun b o e hb => ?_, fun b o e hd => ?_, .inr (.inr (by rw [hs]; exact hh6)), na2, os2, ag2, w2⟩
      · refine inv_gone I2' hN hi ⟨oL4, es4, ep4, gL, hdL4, r4⟩ sb fun j y v2 e1 e2 ny k => ?_
        obtain ⟨u, r, q2⟩ := hlk j y v2 e1 e2 (.inl k)
        rcases q2 with ⟨_, q2⟩ | ⟨k2, _⟩
        · exact ⟨u, r, (if_neg ny).trans q2⟩
        · rw [k] at k2
          rcases k2 with k2 | k2 <;> cases k2
      · have nb : b ≠ X.env.locals := fun z => hb (by rw [z, hs]; exact inL)
        exact nb2 b o ((sb.2 b nb).symm.trans e) hb
      · by_cases nb : b = X.env.locals
        · subst nb
          rw [gL] at e
          cases e
          exact up6 _ _ hoL4 hd
        · obtain ⟨sl, e3⟩ := up2.trans up3 b o ((sb.2 b nb).symm.trans e) hd
          obtain ⟨sl4, e4⟩ := up6 b _ ((hs4.2 b nb).trans e3) hd
          exact ⟨sl4, e4⟩
    obtain ⟨oe, vs, T, oT, ts2, he, hz, hd, h1, hr⟩ := id l4
    unfold PySem.passOn
    refine wpAny_bind (wpAny_field he hd h1 ?_)
    rw [if_neg (show ¬ ((Value.ref T == Value.none) = true) from by simp)]
    rw [hf]
    have fin2 : wpAny (model X.prog X.w) (X.A.mark (some (.ref a))) (setFlight (.ref a2) (some X.env.locals)) (fun _ s4 => wpAny (model X.prog X.w) (X.A.mark (some (.ref a))) (throw (.ref a2) : Sem Flow) (fun _ _ => False) (notedBy (model X.prog X.w) (X.A.mark (some (.ref a))) X.env (cameBackBy (model X.prog X.w) X.A X.env X.xe)) s4)
        (notedBy (model X.prog X.w) (X.A.mark (some (.ref a))) X.env (cameBackBy (model X.prog X.w) X.A X.env X.xe)) { s2 with heap := h4, toks := s2.toks + 1 } := by
      refine HandSPX.setFlight_onZ hh4 fun h5 hh5 up5 => wpAny_throw ?_
      show wpAny _ _ (noteFrame (.ref a2) X.env) _ _ _
      refine HandSPX.againZ hf hh5.2.2.2 ?_
      obtain ⟨oe5, vs5, T5, oT5, ts5, he5, hz5, hd5, h15, hr5⟩ := id hh5.2.2.2
      show wpAny _ X.A (do
        if (← field (.ref a2) 1) == .none then unsupported "frame.own-activation:exception-without-traceback"
        setFlight (.ref a2) X.env.frame) _ _ _
      refine wpAny_bind (wpAny_field he5 hd5 h15 ?_)
      rw [if_neg (show ¬ ((Value.ref T5 == Value.none) = true) from by simp)]
      rw [hf]
      exact HandSPX.setFlight_onZ hh5 fun h6 hh6 up6 => ends h6 hh6 (up5.trans up6)
    first
      | exact wpAny_bind (wpAny_pure (wpAny_bind fin2))
      | exact wpAny_bind fin2
  rcases sky' with ⟨hB, hn, hl, oe, vs, he, hz, hd, h1⟩ | fl | hh
  · exact HandSPX.look_newZ Zc.steady hfr hl hf he hB hn hd h1 hz fin
  · exact HandSPX.looks_onZ Zc.steady hfr hf fl fin
  · exact HandSPX.againZ hf hh.2.2.2 (fin s2.heap hh (Heap.UpToSlots.refl _))
end
section
variable {X : Cx} {x n : Str} {c : Value} {i : Nat} {body suite : List Stmt} {b₀ : Stmt} {np pos pos' : Pos} {tb : WX → TS} {ts : Addr → Value → Option Addr → TS} {Wout : WX}
theorem ps_try_asX (hs : X.stack = X.env :: X.outer) (hf : X.env.frame = some X.env.locals) (hN : X.N.Nodup) (hi : X.N[i]? = some n) (hln : X.env.kindOf n = some .local) (hc : Names X x c) (tk : L2.Takes X Wout)
    (hb : ∀ (W : WX) (pn : List (Addr × Obj)) (xe : Value → Shared → Prop), L2N.Takes (X.tr pn xe) W → L2.Takes (X.tr pn xe) (L2H.wPass X.K c Wout) → PassesOwn (model X.prog X.w) X.A X.env xe → PSs (X.tr pn xe) body (tb W))
    (hsu : ∀ (a : Addr) (oe : Obj) (cls : Value) (d : Option Addr) (pn : List (Addr × Obj)) (xe : Value → Shared → Prop), Zc cls d oe → (∃ vs, oe.data = .fields vs) → L2.Takes (suiteY X a ((a, oe) :: pn) xe) (fun cls d σ H => Wout cls d (σ.set i none) H) → L2H.HotC (suiteY X a ((a, oe) :: pn) xe) →
      PSs (suiteY X a ((a, oe) :: pn) xe) (b₀ :: suite) (ts a cls d)) :
    PS X (.Try body [.ExceptHandler (some (.Name x np)) (some n) (b₀ :: suite) pos'] [] [] pos) (fun D σ H => tb (wAs X.K c i ts Wout D) D σ H) := by
  refine ⟨fun pins s σ H D I h => ?_⟩
  have ok := I.ok
  have hfr : X.A.frames = some (X.env :: X.outer) := by rw [ok.frames, hs]
  have hloc : Loc X.env.scope n := .inl hln
  have notFr : ∀ {B h : Heap} {a : Addr} {o : Obj} {vs : Array Value}, h.FunFrames B (X.env :: X.outer) → h.get? a = some o → o.data = .fields vs → a ∉ frs (X.env :: X.outer) := fun {B h a o vs} ff e dd hm => by
    obtain ⟨_, o', e', hnf⟩ := ff.mem hm
    rw [e] at e'; cases e'
    exact hnf _ dd
  have flyOn : ∀ {a : Addr} {B : Heap} {sI s' : Shared} {σ' : List (Option V)} {H' : Hp} {cls : Value} {d : Option Addr} {h3 : Heap}, Inv X pins σ' H' sI → (∀ b o, sI.heap.get? b = some o → b ∉ frs X.stack → B.get? b = some o) → sI.heap.UpToSlots h3 →
      HandSPX.FlyingZ B (X.env :: X.outer) a (Zc cls d) h3 → H' a = none → s'.os = sI.os → AllBare s'.gens → Wout cls d σ' H' → wpAny (model X.prog X.w) X.A (handleBy (.ref a) X.env []) (SP X pins D) X.xe { s' with heap := h3 } := by
    intro a B sI s' σ' H' cls d h3 J nb up fl3 na os ag w
    refine wpAny_handleBy_nil ?_
    obtain ⟨k1, k2, k3, oe, vs, T, oT, ts', he, hz, hd, h1, hr⟩ := id fl3
    unfold PySem.passOn
    refine wpAny_bind (wpAny_field he hd h1 ?_)
    rw [if_neg (show ¬ ((Value.ref T == Value.none) = true) from by simp)]
    have fin : wpAny (model X.prog X.w) X.A (setFlight (.ref a) X.env.frame) (fun _ s4 => wpAny (model X.prog X.w) X.A (throw (.ref a) : Sem Flow) (SP X pins D) X.xe s4) X.xe { s' with heap := h3 } := by
      rw [hf]
      refine HandSPX.setFlight_upZ fl3 fun h4 hh4 up4 => wpAny_throw (tk _ _ ?_)
      exact ⟨a, B, sI, pins, σ', H', cls, d, rfl, J, nb, up.trans up4, .inr (.inr (by rw [hs]; exact hh4)), na, os, ag, w⟩
    first
      | exact wpAny_bind (wpAny_pure (wpAny_bind fin))
      | exact wpAny_bind fin
  refine wpAny_Try_except ?_
  refine wpAny_mono ((hb (wAs X.K c i ts Wout D) (X.pn ++ pins) (fun e s₁ => wpAny (model X.prog X.w) X.A (noteFrame e X.env) (fun _ s₂ => wpAny (model X.prog X.w) X.A (setFlight e none) (fun _ s₃ =>
    wpAny (model X.prog X.w) X.A (handleBy e X.env [.ExceptHandler (some (.Name x np)) (some n) (b₀ :: suite) pos']) (SP X pins D) X.xe s₃) X.xe s₂) X.xe s₁) (fun u s' xx => ?_) (fun u s' xx => ?_) PassesOwn.looking).run [] s σ H D (I.toTry _) h) (fun f s1 hsp => ?_) (fun e s1 he => he)
  · obtain ⟨a, B, sI, pins', σ', H', cls, d, rfl, J', nb, up, sky, na, os, ag, b, hb1, hyes, hno⟩ := xx
    have J : Inv X pins σ' H' sI := J'.ofTry ok
    have sky' : L2.Sky B (X.env :: X.outer) a (L2N.Zn cls d) X.env.locals s'.heap := by rw [← hs]; exact sky
    show wpAny (model X.prog X.w) X.A (noteFrame (.ref a) X.env) _ _ _
    refine L2N.Sky.land L2N.Zn.steady hfr hf sky' fun h3 fl3 up3 => ?_
    have J3 : Inv X pins σ' H' { s' with heap := h3 } := J.landed nb fl3.1 (up.trans up3) os ag
    obtain ⟨oe3, vs3, he3, hz3, hd3⟩ := fl3.there
    have nfr : a ∉ frs (X.env :: X.outer) := notFr fl3.2.2.1 he3 hd3
    have nL : a ≠ X.env.locals := fun z => nfr (List.mem_filterMap.mpr ⟨X.env, List.mem_cons_self, by rw [hf, z]⟩)
    have nF : a ∉ X.fs := fun hm => by
      obtain ⟨e, he, q⟩ := List.mem_filterMap.mp hm
      exact nfr (List.mem_filterMap.mpr ⟨e, List.mem_cons_of_mem _ he, q⟩)
    have S3 := J3.suite he3 hd3 na nL nF
    refine wpAny_handleBy_cons (codeAny_handlers_test ?_) (by intro q; cases q)
    have LT : PySem.W.Looks (model X.prog X.w) h3 (typeOf (.ref a)) cls := fun A Q E s k q => wpAny_typeOf_ref (k _ _ he3) (by rw [hz3.1]; exact q)
    have LM := PySem.W.exm_one (M := model X.prog X.w) (J3.kIn) LT hb1
    have test : ∀ {Q : Value → Shared → Prop} {E : Value → Shared → Prop}, Q c { s' with heap := h3 } → wpAny (model X.prog X.w) (X.A.mark (some (.ref a))) (eval (.Name x np) X.env) Q E { s' with heap := h3 } := fun {Q E} q => by
      obtain ⟨hg, hdbg, hm | ⟨hm, hv, hnn⟩⟩ := hc
      · exact ld_glob (X := X.suite a ((a, oe3) :: (X.pn ++ pins))) S3 hg hm q hdbg
      · exact ld_blt (X := X.suite a ((a, oe3) :: (X.pn ++ pins))) S3 hg hm hv q hnn hdbg
    refine test (LM.here ?_)
    cases b with
    | true =>
      refine codeAny_handlers_suite_as ?_
      refine HandSPX.lands_againZ fl3 fun h4 fl4 up4 => ?_
      have J4 : Inv X pins σ' H' { s' with heap := h4 } := J.landed nb fl4.1 ((up.trans up3).trans up4) os ag
      obtain ⟨oe4, vs4, he4, hz4, hd4⟩ := fl4.there
      have S4 := J4.suite he4 hd4 na nL nF
      refine store_ok (X := X.suite a ((a, oe4) :: (X.pn ++ pins))) (v := .ref a) S4 hN hi hloc rfl (fun s5 S5 => ?_) (.inr hln)
      have run := fun (xe : Value → Shared → Prop) (tkS : L2.Takes (suiteY X a ((a, oe4) :: (X.pn ++ pins)) xe) (fun cls d σ H => Wout cls d (σ.set i none) H)) =>
        (hsu a oe4 cls d (X.pn ++ pins) xe hz4.zc ⟨_, hd4⟩ tkS ⟨(a, oe4), ⟨rfl, vs4, hd4, hz4.2.2 vs4 hd4⟩, List.mem_cons_self⟩).run [] s5 _ H' _ (suiteY_of S5) (hyes rfl a na)
      refine wpAny_mono (run _ (fun u s2 x2 => named_out ok hs hf hN hi hln tk x2)) (fun f s6 hsp => ?_) (fun _ _ z => z)
      have end_ : ∀ {xe : Value → Shared → Prop} {σ6 : List (Option V)} {H6 : Hp} {Q : Shared → Prop}, Inv (suiteY X a ((a, oe4) :: (X.pn ++ pins)) xe) [] σ6 H6 s6 → (∀ s7, Inv X pins (σ6.set i none) H6 s7 → Q s7) →
          wpAny (model X.prog X.w) X.A (do bindName X.env n .none; unbindBehindTheSuite X.env n pos') (fun _ s7 => Q s7) X.xe s6 := fun {xe σ6 H6 Q} S6 hq => gone_ok (unsuiteY S6 ok) hN hi hln hq
      cases f with
      | next =>
        obtain ⟨σ6, H6, S6, q6⟩ := hsp
        exact end_ S6 fun s7 J7 => ⟨_, _, J7, q6⟩
      | brk =>
        obtain ⟨σ6, H6, S6, q6⟩ := hsp
        exact end_ S6 fun s7 J7 => ⟨_, _, J7, q6⟩
      | cont =>
        obtain ⟨σ6, H6, S6, q6⟩ := hsp
        exact end_ S6 fun s7 J7 => ⟨_, _, J7, q6⟩
      | ret u =>
        obtain ⟨v6, σ6, H6, S6, r6, q6⟩ := hsp
        exact end_ S6 fun s7 J7 => ⟨_, _, _, J7, r6, q6⟩
    | false =>
      show wpAny _ X.A (handleBy (.ref a) X.env []) _ _ _
      exact flyOn J nb (up.trans up3) (L2H.flyingZ_imp (fun o z => z.zc) fl3) na os ag (hno rfl)
  · obtain ⟨a, B, sI, pins', σ', H', cls, d, rfl, J', nb, up, sky, na, os, ag, hb1, hno⟩ := xx
    have J : Inv X pins σ' H' sI := J'.ofTry ok
    have sky' : L2.Sky B (X.env :: X.outer) a (Zc cls d) X.env.locals s'.heap := by rw [← hs]; exact sky
    show wpAny (model X.prog X.w) X.A (noteFrame (.ref a) X.env) _ _ _
    refine L2.Sky.land Zc.steady hfr hf sky' fun h3 fl3 up3 => ?_
    have J3 : Inv X pins σ' H' { s' with heap := h3 } := J.landed nb fl3.1 (up.trans up3) os ag
    obtain ⟨oe3, vs3, he3, hz3, hd3⟩ := fl3.there
    have nfr : a ∉ frs (X.env :: X.outer) := notFr fl3.2.2.1 he3 hd3
    have nL : a ≠ X.env.locals := fun z => nfr (List.mem_filterMap.mpr ⟨X.env, List.mem_cons_self, by rw [hf, z]⟩)
    have nF : a ∉ X.fs := fun hm => by
      obtain ⟨e, he, q⟩ := List.mem_filterMap.mp hm
      exact nfr (List.mem_filterMap.mpr ⟨e, List.mem_cons_of_mem _ he, q⟩)
    have S3 := J3.suite he3 hd3 na nL nF
    refine wpAny_handleBy_cons (codeAny_handlers_test ?_) (by intro q; cases q)
    have LT : PySem.W.Looks (model X.prog X.w) h3 (typeOf (.ref a)) cls := fun A Q E s k q => wpAny_typeOf_ref (k _ _ he3) (by rw [hz3.1]; exact q)
    have LM := PySem.W.exm_one (M := model X.prog X.w) (J3.kIn) LT hb1
    have test : ∀ {Q : Value → Shared → Prop} {E : Value → Shared → Prop}, Q c { s' with heap := h3 } → wpAny (model X.prog X.w) (X.A.mark (some (.ref a))) (eval (.Name x np) X.env) Q E { s' with heap := h3 } := fun {Q E} q => by
      obtain ⟨hg, hdbg, hm | ⟨hm, hv, hnn⟩⟩ := hc
      · exact ld_glob (X := X.suite a ((a, oe3) :: (X.pn ++ pins))) S3 hg hm q hdbg
      · exact ld_blt (X := X.suite a ((a, oe3) :: (X.pn ++ pins))) S3 hg hm hv q hnn hdbg
    refine test (LM.here ?_)
    show wpAny _ X.A (handleBy (.ref a) X.env []) _ _ _
    exact flyOn J nb (up.trans up3) fl3 na os ag hno
  · cases f with
    | next =>
      obtain ⟨σ', H', J', q⟩ := hsp
      exact wpAny_execs_nil ⟨σ', H', J'.ofTry ok, q⟩
    | brk =>
      obtain ⟨σ', H', J', q⟩ := hsp
      exact ⟨σ', H', J'.ofTry ok, q⟩
    | cont =>
      obtain ⟨σ', H', J', q⟩ := hsp
      exact ⟨σ', H', J'.ofTry ok, q⟩
    | ret u =>
      obtain ⟨v, σ', H', J', r, q⟩ := hsp
      exact ⟨v, σ', H', J'.ofTry ok, r, q⟩
end
/-! ### try: two clauses, the first names the exception -/
def wTwo (K : PySem.W.Frag) (c1 : Value) (i : Nat) (ts1 : Addr → Value → Option Addr → TS) (c2 : Value) (ts2 : Addr → Value → Option Addr → TS) (Wout : WX) (D : Ends) : WX := wAs K c1 i ts1 (wOnly K c2 ts2 Wout D) D
section
variable {X : Cx} {x x2 n : Str} {c c2 : Value} {i : Nat} {body suite suite2 : List Stmt} {b₀ b2 : Stmt} {np np2 pos pos1 pos2 : Pos} {tb : WX → TS} {ts ts2 : Addr → Value → Option Addr → TS} {Wout : WX}
theorem ps_try_two (hs : X.stack = X.env :: X.outer) (hf : X.env.frame = some X.env.locals) (hN : X.N.Nodup) (hi : X.N[i]? = some n) (hln : X.env.kindOf n = some .local) (hc : Names X x c) (hc2 : Names X x2 c2) (tk : L2.Takes X Wout)
    (hb : ∀ (W : WX) (pn : List (Addr × Obj)) (xe : Value → Shared → Prop), L2.Takes (X.tr pn xe) W → PassesOwn (model X.prog X.w) X.A X.env xe → PSs (X.tr pn xe) body (tb W))
    (hsu : ∀ (a : Addr) (oe : Obj) (cls : Value) (d : Option Addr) (pn : List (Addr × Obj)), Zc cls d oe → (∃ vs, oe.data = .fields vs) → PSs (X.suite a ((a, oe) :: pn)) (b₀ :: suite) (ts a cls d))
    (hsu2 : ∀ (a : Addr) (oe : Obj) (cls : Value) (d : Option Addr) (pn : List (Addr × Obj)), Zc cls d oe → (∃ vs, oe.data = .fields vs) → PSs (X.suite a ((a, oe) :: pn)) (b2 :: suite2) (ts2 a cls d)) :
    PS X (.Try body [.ExceptHandler (some (.Name x np)) (some n) (b₀ :: suite) pos1, .ExceptHandler (some (.Name x2 np2)) none (b2 :: suite2) pos2] [] [] pos) (fun D σ H => tb (wTwo X.K c i ts c2 ts2 Wout D) D σ H) := by
  refine ⟨fun pins s σ H D I h => ?_⟩
  have ok := I.ok
  have hfr : X.A.frames = some (X.env :: X.outer) := by rw [ok.frames, hs]
  have hloc : Loc X.env.scope n := .inl hln
  refine wpAny_Try_except ?_
  refine wpAny_mono ((hb (wTwo X.K c i ts c2 ts2 Wout D) (X.pn ++ pins) (fun e s₁ => wpAny (model X.prog X.w) X.A (noteFrame e X.env) (fun _ s₂ => wpAny (model X.prog X.w) X.A (setFlight e none) (fun _ s₃ =>
    wpAny (model X.prog X.w) X.A (handleBy e X.env [.ExceptHandler (some (.Name x np)) (some n) (b₀ :: suite) pos1, .ExceptHandler (some (.Name x2 np2)) none (b2 :: suite2) pos2]) (SP X pins D) X.xe s₃) X.xe s₂) X.xe s₁) (fun u s' xx => ?_) PassesOwn.looking).run [] s σ H D (I.toTry _) h) (fun f s1 hsp => ?_) (fun e s1 he => he)
  · obtain ⟨a, B, sI, pins', σ', H', cls, d, rfl, J', nb, up, sky, na, os, ag, b, hb1, hyes, hno⟩ := xx
    have J : Inv X pins σ' H' sI := J'.ofTry ok
    have sky' : L2.Sky B (X.env :: X.outer) a (Zc cls d) X.env.locals s'.heap := by rw [← hs]; exact sky
    show wpAny (model X.prog X.w) X.A (noteFrame (.ref a) X.env) _ _ _
    refine L2.Sky.land Zc.steady hfr hf sky' fun h3 fl3 up3 => ?_
    have J3 : Inv X pins σ' H' { s' with heap := h3 } := J.landed nb fl3.1 (up.trans up3) os ag
    obtain ⟨oe3, vs3, he3, hz3, hd3⟩ := fl3.there
    have nfr : a ∉ frs (X.env :: X.outer) := fun hm => by
      obtain ⟨_, o', e', hnf⟩ := fl3.2.2.1.mem hm
      rw [he3] at e'; cases e'
      exact hnf _ hd3
    have nL : a ≠ X.env.locals := fun z => nfr (List.mem_filterMap.mpr ⟨X.env, List.mem_cons_self, by rw [hf, z]⟩)
    have nF : a ∉ X.fs := fun hm => by
      obtain ⟨e, he, q⟩ := List.mem_filterMap.mp hm
      exact nfr (List.mem_filterMap.mpr ⟨e, List.mem_cons_of_mem _ he, q⟩)
    have S3 := J3.suite he3 hd3 na nL nF
    have LT : PySem.W.Looks (model X.prog X.w) h3 (typeOf (.ref a)) cls := fun A Q E s k q => wpAny_typeOf_ref (k _ _ he3) (by rw [hz3.1]; exact q)
    have test : ∀ {y : Str} {e : Value} {p : Pos} {Q : Value → Shared → Prop} {E : Value → Shared → Prop}, Names X y e → Q e { s' with heap := h3 } → wpAny (model X.prog X.w) (X.A.mark (some (.ref a))) (eval (.Name y p) X.env) Q E { s' with heap := h3 } := fun {y e p Q E} hy q => by
      obtain ⟨hg, hdbg, hm | ⟨hm, hv, hnn⟩⟩ := hy
      · exact ld_glob (X := X.suite a ((a, oe3) :: (X.pn ++ pins))) S3 hg hm q hdbg
      · exact ld_blt (X := X.suite a ((a, oe3) :: (X.pn ++ pins))) S3 hg hm hv q hnn hdbg
    refine wpAny_handleBy_cons (codeAny_handlers_test ?_) (by intro q; cases q)
    refine test hc ((PySem.W.exm_one (M := model X.prog X.w) (J3.kIn) LT hb1).here ?_)
    cases b with
    | true =>
      refine codeAny_handlers_suite_as ?_
      refine HandSPX.lands_againZ fl3 fun h4 fl4 up4 => ?_
      have J4 : Inv X pins σ' H' { s' with heap := h4 } := J.landed nb fl4.1 ((up.trans up3).trans up4) os ag
      obtain ⟨oe4, vs4, he4, hz4, hd4⟩ := fl4.there
      have S4 := J4.suite he4 hd4 na nL nF
      refine store_ok (X := X.suite a ((a, oe4) :: (X.pn ++ pins))) (v := .ref a) S4 hN hi hloc rfl (fun s5 S5 => ?_) (.inr hln)
      refine wpAny_mono ((hsu a oe4 cls d (X.pn ++ pins) hz4 ⟨_, hd4⟩).run [] s5 _ H' _ S5 (hyes rfl a na)) (fun f s6 hsp => ?_) (fun _ _ z => False.elim z)
      have end_ : ∀ {σ6 : List (Option V)} {H6 : Hp} {Q : Shared → Prop}, Inv (X.suite a ((a, oe4) :: (X.pn ++ pins))) [] σ6 H6 s6 → (∀ s7, Inv X pins (σ6.set i none) H6 s7 → Q s7) →
          wpAny (model X.prog X.w) X.A (do bindName X.env n .none; unbindBehindTheSuite X.env n pos1) (fun _ s7 => Q s7) X.xe s6 := fun {σ6 H6 Q} S6 hq => gone_ok (S6.unsuite ok) hN hi hln hq
      cases f with
      | next =>
        obtain ⟨σ6, H6, S6, q6⟩ := hsp
        exact end_ S6 fun s7 J7 => ⟨_, _, J7, q6⟩
      | brk =>
        obtain ⟨σ6, H6, S6, q6⟩ := hsp
        exact end_ S6 fun s7 J7 => ⟨_, _, J7, q6⟩
      | cont =>
        obtain ⟨σ6, H6, S6, q6⟩ := hsp
        exact end_ S6 fun s7 J7 => ⟨_, _, J7, q6⟩
      | ret u =>
        obtain ⟨v6, σ6, H6, S6, r6, q6⟩ := hsp
        exact end_ S6 fun s7 J7 => ⟨_, _, _, J7, r6, q6⟩
    | false =>
      show wpAny _ X.A (handleBy (.ref a) X.env [.ExceptHandler (some (.Name x2 np2)) none (b2 :: suite2) pos2]) _ _ _
      obtain ⟨b', hb2, hyes2, hno2⟩ := hno rfl
      refine wpAny_handleBy_cons (codeAny_handlers_test ?_) (by intro q; cases q)
      refine test hc2 ((PySem.W.exm_one (M := model X.prog X.w) (J3.kIn) LT hb2).here ?_)
      cases b' with
      | true =>
        refine codeAny_handlers_suite ?_
        refine HandSPX.lands_againZ fl3 fun h4 fl4 up4 => ?_
        have J4 : Inv X pins σ' H' { s' with heap := h4 } := J.landed nb fl4.1 ((up.trans up3).trans up4) os ag
        obtain ⟨oe4, vs4, he4, hz4, hd4⟩ := fl4.there
        have S4 := J4.suite he4 hd4 na nL nF
        refine wpAny_mono ((hsu2 a oe4 cls d (X.pn ++ pins) hz4 ⟨_, hd4⟩).run [] _ _ H' _ S4 (hyes2 rfl a na)) (fun f s6 hsp => ?_) (fun _ _ z => False.elim z)
        cases f with
        | next =>
          obtain ⟨σ6, H6, S6, q6⟩ := hsp
          exact ⟨_, _, S6.unsuite ok, q6⟩
        | brk =>
          obtain ⟨σ6, H6, S6, q6⟩ := hsp
          exact ⟨_, _, S6.unsuite ok, q6⟩
        | cont =>
          obtain ⟨σ6, H6, S6, q6⟩ := hsp
          exact ⟨_, _, S6.unsuite ok, q6⟩
        | ret u =>
          obtain ⟨v6, σ6, H6, S6, r6, q6⟩ := hsp
          exact ⟨_, _, _, S6.unsuite ok, r6, q6⟩
      | false =>
        show wpAny _ X.A (handleBy (.ref a) X.env []) _ _ _
        refine wpAny_handleBy_nil ?_
        obtain ⟨k1, k2, k3, oe, vs, T, oT, ts', he, hz, hd, h1, hr⟩ := id fl3
        unfold PySem.passOn
        refine wpAny_bind (wpAny_field he hd h1 ?_)
        rw [if_neg (show ¬ ((Value.ref T == Value.none) = true) from by simp)]
        have fin : wpAny (model X.prog X.w) X.A (setFlight (.ref a) X.env.frame) (fun _ s4 => wpAny (model X.prog X.w) X.A (throw (.ref a) : Sem Flow) (SP X pins D) X.xe s4) X.xe { s' with heap := h3 } := by
          rw [hf]
          refine HandSPX.setFlight_upZ fl3 fun h4 hh4 up4 => wpAny_throw (tk _ _ ?_)
          exact ⟨a, B, sI, pins, σ', H', cls, d, rfl, J, nb, (up.trans up3).trans up4, .inr (.inr (by rw [hs]; exact hh4)), na, os, ag, hno2 rfl⟩
        first
          | exact wpAny_bind (wpAny_pure (wpAny_bind fin))
          | exact wpAny_bind fin
  · cases f with
    | next =>
      obtain ⟨σ', H', J', q⟩ := hsp
      exact wpAny_execs_nil ⟨σ', H', J'.ofTry ok, q⟩
    | brk =>
      obtain ⟨σ', H', J', q⟩ := hsp
      exact ⟨σ', H', J'.ofTry ok, q⟩
    | cont =>
      obtain ⟨σ', H', J', q⟩ := hsp
      exact ⟨σ', H', J'.ofTry ok, q⟩
    | ret u =>
      obtain ⟨v, σ', H', J', r, q⟩ := hsp
      exact ⟨v, σ', H', J'.ofTry ok, r, q⟩
end
/-! ### C(e, ..) of a class with __init__: its context is None -/
section
variable {X : Cx} {e : Expr} {es : List Expr} {ta : TA} {p pos : Pos}
theorem pmkN_oex {CX : CXT} {x : Str} {C fI : Addr} {k : Nat} {fd : FuncData} {ps : List Str} {sp : Sp} {ds : List Value} {dvs : List V} (T : OexC X.K C) (iC : PySem.W.findIn X.K (.ref C) "__init__" = some (some (.ref fI))) (tI : PySem.W.typeIn X.K (.ref fI) = some (.type "function"))
    (F1 : FnOk X.prog X.w X.K X.mg X.base CX k fI fd ps sp) (hr : Room (k + 1) X.A) (hb : Binds X.K fd ps ds) (hd : Vals dvs ds) (hx : Passes CX X (fun _ _ _ => False)) (hg : Gl X x) (hm : X.mg x = some (.ref C)) (ha : PA X (e :: es) ta)
    (hdb : (x == ("__debug__" : Str)) = false := by decide) (he : starEach (e :: es) X.env = (false, eval e X.env) :: starEach es X.env := by rfl) (hpl : (backTo pos (starEach es X.env)).any (·.1) = false := by rfl) :
    L2N.PMk X (.Call (.Name x p) (e :: es) [] pos) (tMkO C sp dvs ta) := by
  intro pins s σ H Q I h
  obtain ⟨nm, q, N, bs, bm, sn, sub, ab, col, dd, k0, k1, k2, k3, k5, hC, hbm⟩ := T.cls
  refine wpAny_Call_Name_kw (ld_glob I hg hm ?_ hdb)
  refine PySem.W.callWith_K (h₀ := X.base) I.ok.mod.kin T.kC (thn (ha.run pos pins s σ H _ I h) fun us s1 ⟨vs, H1, I1, r1, hz, q1⟩ => ⟨I1.kIn, ?_⟩) he hpl
  show wpAny _ _ (call (.ref C) us) _ _ _
  obtain ⟨hp, g, dr, tk, os⟩ := s1
  have hsz : hp.objs.size ≤ hp.objs.size + 1 := Nat.le_succ _
  have hn : H1 (hp.objs.size + 1) = none := I1.hok.fresh hsz
  have hq := q1 (hp.objs.size + 1) hn
  have kk : ∀ b o, hp.get? b = some o → ((hp.push (PySem.W.kdv_tup us)).push (PySem.HandSPX.excO C hp.objs.size)).get? b = some o := fun b o e => Heap.get?_push_of_some _ (Heap.get?_push_of_some _ e)
  have hget : ((hp.push (PySem.W.kdv_tup us)).push (PySem.HandSPX.excO C hp.objs.size)).get? (hp.objs.size + 1) = some (PySem.HandSPX.excO C hp.objs.size) := by heap_get
  have I2 : Inv X pins σ (upd H1 (hp.objs.size + 1) (exo (hp.objs.size + 1) C none)) ⟨(hp.push (PySem.W.kdv_tup us)).push (PySem.HandSPX.excO C hp.objs.size), g, dr, tk, os⟩ :=
    I1.laid (t' := tk) (a := hp.objs.size + 1) (o := exo (hp.objs.size + 1) C none) (h' := (hp.push (PySem.W.kdv_tup us)).push (PySem.HandSPX.excO C hp.objs.size)) kk hsz (exo_ok hget)
  have r2 : Vals (V.ref (hp.objs.size + 1) :: (vs ++ dvs)) (Value.ref (hp.objs.size + 1) :: (us ++ ds)) := .cons rfl (r1.append hd)
  have hl : (Value.ref (hp.objs.size + 1) :: us ++ ds).length = ps.length := by
    have e := r2.length
    rw [F1.len _ _ _ _ hq] at e
    exact e.symm
  have hus : us.length ≤ sizeLine := by
    rw [← Paired.length r1, sizeLine_eq]
    omega
  refine wpAny_call (PySem.HandSPX.call_own F.excBase_ValueError (fun Y => PySem.HandSPX.refsVE_contains Y bm hbm) (I1.kIn _ _ hC) (PySem.W.looks_findIn I1.kIn iC) (fun self => PySem.W.bind_fn I1.kIn self tI) hus
    (codeAny_mono (F1.run _ X.stack _ _ ⟨Value.ref (hp.objs.size + 1) :: us, []⟩ (Value.ref (hp.objs.size + 1) :: (us ++ ds)) _ _ (fun _ _ _ => False) (hr.make C us []) (I2.env0.make C us []) (hb _ (Value.ref (hp.objs.size + 1) :: us) I2.kIn hl) r2 hq) fun r s' hq' => ?_))
  cases r with
  | error er => exact hx pins σ _ _ er s' I2 hq'
  | ok fl =>
    cases fl with
    | ret u =>
      obtain ⟨v, H2, os2, bare2, un2, hok2, rv, ev, d, fs, ea, ed, hd1, q2⟩ := hq'
      subst ev
      obtain ⟨h2, g2, d2, t2, os'⟩ := s'
      obtain ⟨t0, G, J, kG, ge, hoe, na⟩ := mk_end0 (d2 := d2) (t2 := t2) I1 hsz kk un2 hok2 os2 bare2 ea ed hd1
      refine ⟨rv, hp.objs.size + 1, _, _, ⟨G, g2, d2, t2, os'⟩, _, .ref C, some d, rfl, J, kG, ge, hoe, ⟨rfl, rfl, fun vs hv => ?_⟩, rfl, rfl, na, rfl, bare2, raises_own T.exC T.tyC, q2⟩
      cases hv
      rfl
    | next => exact False.elim hq'
    | brk => exact False.elim hq'
    | cont => exact False.elim hq'
end
theorem uH {k : Nat} {A : Around} (r : L2H.RoomH k A) : A.units + 64 < cLine := by have := r.un; omega
theorem pe_wishY {X : Cx} {a : Addr} {pn : List (Addr × Obj)} {xe : Value → Shared → Prop} {e : Expr} {te : TE} (h : PE (X.suite a pn) e te) : PE (suiteY X a pn xe) e te :=
  ⟨fun pins s σ H Q I h2 => wpAny_mono (h.run pins s σ H Q (Inv.wish (X := suiteY X a pn xe) I fun _ _ => False) h2) (fun _ _ ⟨v, H', I', r, q⟩ => ⟨v, H', suiteY_of I', r, q⟩) fun _ _ z => z.elim⟩
theorem passH00 {X : Cx} : Passes CX0 X (fun _ _ _ => False) := fun _ _ _ _ _ _ _ h => h.elim
/-- what is never reached -/
def tNever : TS := fun _ _ _ => False
theorem ps_never {X : Cx} {st : Stmt} : PS X st tNever := ⟨fun _ _ _ _ _ _ h => False.elim h⟩

local macro_rules | `(tactic| walk_at "rd") => `(tactic| try simp only [L2.start, cxOf, tVar, tC, tOp, tUn, rI0, rI, rU, tCB, tCons, tNil, tAsg, tAug, ipI, gName, gSub, tDrop, tSub, tAdd, tMul, tCmp, t2I, tIsN, tNotN, tRet, tDGet_eq, sDPut_eq, tMeth_eq, tMethS_eq, tMkO_eq, tOst_eq, tXf_eq, iRevR_eq, tRg1_eq, tRg2_eq, tLstRg_eq, tRevL_eq, tMake, tFld_eq, sFld_eq, sFldAug_eq, rSub, rAdd, tCallS, tDisp, tPairs, rIntA, tDNewK, wipe, tFor_J, tLc_J, iRng1, iRng2, iList, iLT, iTup, iStr, tM1, tM0, tBM, tBM0, tSl, tPart, tNoPart, tLst, tTup, sizeLine_eq, Nat.reduceLeDiff, true_and, tIfS, tTest, tB, tAnd, tOr, tNot, tAndV, tOrV, tNotV, tChain, rEq, rNe, rNotB, rIsB, sc_ii, sc_ss, sc_bb, sc_in, sc_ni, sc_nn, sc_is, sc_si, sc_ns, sc_sn, sc_bn, sc_nb, sc_sb, sc_bs, tCall, iEnum_eq, iEnumT_eq, rDNotIn_eq, tDPop1, tDPop2, tCallL, tLock, tLockE, tDNotIn, tDIn, iKeys, tNext,  List.map, List.length, List.replicate, List.cons_append, List.nil_append, List.append_nil, List.getElem?_cons_zero, List.getElem?_cons_succ, List.set_cons_zero, List.set_cons_succ, Option.some.injEq, exists_eq_left', exists_eq_left, exists_eq', V.int.injEq, V.str.injEq, V.ref.injEq, V.bl.injEq, List.cons.injEq, and_true, true_and, and_assoc, exists_and_left, Int.reduceLT, Int.reduceNeg, Int.reduceLE, ↓reduceIte, Bool.false_eq_true, Bool.not_true, Bool.not_false, reduceCtorEq, false_and, and_false, exists_false, or_false, false_or, Nat.reduceAdd, Nat.reduceSub, decide_eq_true_eq, decide_true, decide_false, tMethH_eq])

def topS (i : Nat) : Stmt := PySem.Challenge.pw_warycard_k80_steps_and_depth.main.body.getD i (.Pass ⟨0, 0, 0, 0⟩)
abbrev s_wall : Stmt := topS 0
theorem sc_wall : FnScope ["k"] ["k"] (defScope s_wall) := ⟨rfl, rfl, rfl, by decide +kernel, rfl, by decide +kernel, by decide +kernel⟩
abbrev s_Fault_init : Stmt := inClass (topS 4) 0
theorem sc_Fault_init : FnScope ["self", "code"] ["self", "code"] (defScope s_Fault_init) := ⟨rfl, rfl, rfl, by decide +kernel, rfl, by decide +kernel, by decide +kernel⟩
abbrev s_Heap_init : Stmt := inClass (topS 29) 0
theorem sc_Heap_init : FnScope ["self", "cells", "journal", "start"] ["self", "cells", "journal", "start"] (defScope s_Heap_init) := ⟨rfl, rfl, rfl, by decide +kernel, rfl, by decide +kernel, by decide +kernel⟩
abbrev s_Heap_numbers : Stmt := inClass (topS 29) 1
theorem sc_Heap_numbers : FnScope ["self", "table", "number"] ["self"] (defScope s_Heap_numbers) := ⟨rfl, rfl, rfl, by decide +kernel, rfl, by decide +kernel, by decide +kernel⟩
abbrev s_Heap_used : Stmt := inClass (topS 29) 2
theorem sc_Heap_used : FnScope ["self", "numbers", "number"] ["self"] (defScope s_Heap_used) := ⟨rfl, rfl, rfl, by decide +kernel, rfl, by decide +kernel, by decide +kernel⟩
abbrev s_Heap_kind : Stmt := inClass (topS 29) 3
theorem sc_Heap_kind : FnScope ["self", "number"] ["self", "number"] (defScope s_Heap_kind) := ⟨rfl, rfl, rfl, by decide +kernel, rfl, by decide +kernel, by decide +kernel⟩
abbrev s_Heap_owner : Stmt := inClass (topS 29) 4
theorem sc_Heap_owner : FnScope ["self", "number"] ["self", "number"] (defScope s_Heap_owner) := ⟨rfl, rfl, rfl, by decide +kernel, rfl, by decide +kernel, by decide +kernel⟩
abbrev s_Heap_size : Stmt := inClass (topS 29) 5
theorem sc_Heap_size : FnScope ["self", "number"] ["self", "number"] (defScope s_Heap_size) := ⟨rfl, rfl, rfl, by decide +kernel, rfl, by decide +kernel, by decide +kernel⟩
abbrev s_Heap_make : Stmt := inClass (topS 29) 9
theorem sc_Heap_make : FnScope ["self", "kind", "owner", "size", "used", "objects", "half", "words", "index", "word", "taken", "number"] ["self", "kind", "owner", "size"] (defScope s_Heap_make) := ⟨rfl, rfl, rfl, by decide +kernel, rfl, by decide +kernel, by decide +kernel⟩
abbrev s_Heap__half : Stmt := inClass (topS 29) 12
theorem sc_Heap__half : FnScope ["self"] ["self"] (defScope s_Heap__half) := ⟨rfl, rfl, rfl, by decide +kernel, rfl, by decide +kernel, by decide +kernel⟩
abbrev s_Heap__table : Stmt := inClass (topS 29) 13
theorem sc_Heap__table : FnScope ["self", "half"] ["self", "half"] (defScope s_Heap__table) := ⟨rfl, rfl, rfl, by decide +kernel, rfl, by decide +kernel, by decide +kernel⟩
abbrev s_Heap__room : Stmt := inClass (topS 29) 14
theorem sc_Heap__room : FnScope ["self", "half"] ["self", "half"] (defScope s_Heap__room) := ⟨rfl, rfl, rfl, by decide +kernel, rfl, by decide +kernel, by decide +kernel⟩
abbrev s_Heap__place : Stmt := inClass (topS 29) 15
theorem sc_Heap__place : FnScope ["self", "number", "half"] ["self", "number"] (defScope s_Heap__place) := ⟨rfl, rfl, rfl, by decide +kernel, rfl, by decide +kernel, by decide +kernel⟩
abbrev s_wrap : Stmt := topS 32
theorem sc_wrap : FnScope ["number"] ["number"] (defScope s_wrap) := ⟨rfl, rfl, rfl, by decide +kernel, rfl, by decide +kernel, by decide +kernel⟩
abbrev s_divided : Stmt := topS 33
theorem sc_divided : FnScope ["left", "right", "size"] ["left", "right"] (defScope s_divided) := ⟨rfl, rfl, rfl, by decide +kernel, rfl, by decide +kernel, by decide +kernel⟩
abbrev s_arithmetic : Stmt := topS 34
theorem sc_arithmetic : FnScope ["sign", "left", "right"] ["sign", "left", "right"] (defScope s_arithmetic) := ⟨rfl, rfl, rfl, by decide +kernel, rfl, by decide +kernel, by decide +kernel⟩
abbrev s_compared : Stmt := topS 35
theorem sc_compared : FnScope ["sign", "left", "right"] ["sign", "left", "right"] (defScope s_compared) := ⟨rfl, rfl, rfl, by decide +kernel, rfl, by decide +kernel, by decide +kernel⟩
abbrev s_op : Stmt := topS 36
theorem sc_op : FnScope ["sign", "left", "right", "quotient"] ["sign", "left", "right"] (defScope s_op) := ⟨rfl, rfl, rfl, by decide +kernel, rfl, by decide +kernel, by decide +kernel⟩
abbrev s_Frame_init : Stmt := inClass (topS 38) 0
theorem sc_Frame_init : FnScope ["self", "package", "number", "method", "slots", "owner"] ["self", "package", "number", "method", "slots", "owner"] (defScope s_Frame_init) := ⟨rfl, rfl, rfl, by decide +kernel, rfl, by decide +kernel, by decide +kernel⟩
abbrev s_Machine_init : Stmt := inClass (topS 39) 0
theorem sc_Machine_init : FnScope ["self", "world", "heap", "journal", "seek", "needless"] ["self", "world", "heap", "journal", "seek", "needless"] (defScope s_Machine_init) := ⟨rfl, rfl, rfl, by decide +kernel, rfl, by decide +kernel, by decide +kernel⟩
abbrev s_Machine_run : Stmt := inClass (topS 39) 2
theorem sc_Machine_run : FnScope ["self", "number", "name", "value", "g", "table", "row", "frame", "fault", "place", "found"] ["self", "number", "name", "value"] (defScope s_Machine_run) := ⟨rfl, rfl, rfl, by decide +kernel, rfl, by decide +kernel, by decide +kernel⟩
abbrev s_Machine__enter : Stmt := inClass (topS 39) 3
theorem sc_Machine__enter : FnScope ["self", "number", "g", "row", "values", "package", "place", "method", "slots"] ["self", "number", "g", "row", "values"] (defScope s_Machine__enter) := ⟨rfl, rfl, rfl, by decide +kernel, rfl, by decide +kernel, by decide +kernel⟩
abbrev s_Machine__leave : Stmt := inClass (topS 39) 4
theorem sc_Machine__leave : FnScope ["self", "values", "below"] ["self", "values"] (defScope s_Machine__leave) := ⟨rfl, rfl, rfl, by decide +kernel, rfl, by decide +kernel, by decide +kernel⟩
abbrev s_Machine__caught : Stmt := inClass (topS 39) 5
theorem sc_Machine__caught : FnScope ["self", "code", "frame", "first", "last", "at"] ["self", "code"] (defScope s_Machine__caught) := ⟨rfl, rfl, rfl, by decide +kernel, rfl, by decide +kernel, by decide +kernel⟩
abbrev s_Machine__step : Stmt := inClass (topS 39) 6
theorem sc_Machine__step : FnScope ["self"] ["self"] (defScope s_Machine__step) := ⟨rfl, rfl, rfl, by decide +kernel, rfl, by decide +kernel, by decide +kernel⟩
abbrev s_Machine__perform : Stmt := inClass (topS 39) 8
theorem sc_Machine__perform : FnScope ["self", "frame", "instruction", "kind"] ["self", "frame", "instruction"] (defScope s_Machine__perform) := ⟨rfl, rfl, rfl, by decide +kernel, rfl, by decide +kernel, by decide +kernel⟩
abbrev s_Machine__jump : Stmt := inClass (topS 39) 9
theorem sc_Machine__jump : FnScope ["self", "frame", "instruction", "kind", "place"] ["self", "frame", "instruction"] (defScope s_Machine__jump) := ⟨rfl, rfl, rfl, by decide +kernel, rfl, by decide +kernel, by decide +kernel⟩
abbrev s_Machine__call : Stmt := inClass (topS 39) 10
theorem sc_Machine__call : FnScope ["self", "frame", "instruction", "module", "count", "values", "number", "g", "row"] ["self", "frame", "instruction"] (defScope s_Machine__call) := ⟨rfl, rfl, rfl, by decide +kernel, rfl, by decide +kernel, by decide +kernel⟩
abbrev s_Machine__work : Stmt := inClass (topS 39) 11
theorem sc_Machine__work : FnScope ["self", "frame", "instruction", "kind", "stack"] ["self", "frame", "instruction"] (defScope s_Machine__work) := ⟨rfl, rfl, rfl, by decide +kernel, rfl, by decide +kernel, by decide +kernel⟩
abbrev s_Machine__reckon : Stmt := inClass (topS 39) 13
theorem sc_Machine__reckon : FnScope ["self", "stack", "instruction", "kind", "right", "found"] ["self", "stack", "instruction"] (defScope s_Machine__reckon) := ⟨rfl, rfl, rfl, by decide +kernel, rfl, by decide +kernel, by decide +kernel⟩
abbrev s_Cells_init : Stmt := inClass (topS 41) 0
theorem sc_Cells_init : FnScope ["self", "count"] ["self", "count"] (defScope s_Cells_init) := ⟨rfl, rfl, rfl, by decide +kernel, rfl, by decide +kernel, by decide +kernel⟩
abbrev s_Cells_read : Stmt := inClass (topS 41) 4
theorem sc_Cells_read : FnScope ["self", "place"] ["self", "place"] (defScope s_Cells_read) := ⟨rfl, rfl, rfl, by decide +kernel, rfl, by decide +kernel, by decide +kernel⟩
abbrev s_Cells_write : Stmt := inClass (topS 41) 5
theorem sc_Cells_write : FnScope ["self", "place", "word"] ["self", "place", "word"] (defScope s_Cells_write) := ⟨rfl, rfl, rfl, by decide +kernel, rfl, by decide +kernel, by decide +kernel⟩
abbrev s_Journal_init : Stmt := inClass (topS 43) 0
theorem sc_Journal_init : FnScope ["self", "cells", "start"] ["self", "cells", "start"] (defScope s_Journal_init) := ⟨rfl, rfl, rfl, by decide +kernel, rfl, by decide +kernel, by decide +kernel⟩
abbrev s_must : Stmt := topS 49
theorem sc_must : FnScope ["condition"] ["condition"] (defScope s_must) := ⟨rfl, rfl, rfl, by decide +kernel, rfl, by decide +kernel, by decide +kernel⟩
abbrev s_is_face : Stmt := topS 51
theorem sc_is_face : FnScope ["kind"] ["kind"] (defScope s_is_face) := ⟨rfl, rfl, rfl, by decide +kernel, rfl, by decide +kernel, by decide +kernel⟩
abbrev s_ancestors_of : Stmt := topS 52
theorem sc_ancestors_of : FnScope ["module", "k", "found"] ["module", "k"] (defScope s_ancestors_of) := ⟨rfl, rfl, rfl, by decide +kernel, rfl, by decide +kernel, by decide +kernel⟩
abbrev s_faces_of : Stmt := topS 53
theorem sc_faces_of : FnScope ["module", "k", "found", "ancestor"] ["module", "k"] (defScope s_faces_of) := ⟨rfl, rfl, rfl, by decide +kernel, rfl, by decide +kernel, by decide +kernel⟩
abbrev s_Draft_init : Stmt := inClass (topS 55) 0
theorem sc_Draft_init : FnScope ["self", "world", "module"] ["self", "world", "module"] (defScope s_Draft_init) := ⟨rfl, rfl, rfl, by decide +kernel, rfl, by decide +kernel, by decide +kernel⟩
abbrev s_Draft_check : Stmt := inClass (topS 55) 1
theorem sc_Draft_check : FnScope ["self", "_", "name", "uses", "faces", "classes", "methods", "applets", "used", "version", "heads", "method", "k", "row", "head"] ["self"] (defScope s_Draft_check) := ⟨rfl, rfl, rfl, by decide +kernel, rfl, by decide +kernel, by decide +kernel⟩
abbrev s_Draft__face : Stmt := inClass (topS 55) 2
theorem sc_Draft__face : FnScope ["self", "package", "name", "face"] ["self", "package", "name"] (defScope s_Draft__face) := ⟨rfl, rfl, rfl, by decide +kernel, rfl, by decide +kernel, by decide +kernel⟩
abbrev s_Draft__check_kinds : Stmt := inClass (topS 55) 3
theorem sc_Draft__check_kinds : FnScope ["self", "kinds", "kind"] ["self", "kinds"] (defScope s_Draft__check_kinds) := ⟨rfl, rfl, rfl, by decide +kernel, rfl, by decide +kernel, by decide +kernel⟩
abbrev s_Draft__check_heads : Stmt := inClass (topS 55) 4
theorem sc_Draft__check_heads : FnScope ["self", "heads", "_", "params", "result"] ["self", "heads"] (defScope s_Draft__check_heads) := ⟨rfl, rfl, rfl, by decide +kernel, rfl, by decide +kernel, by decide +kernel⟩
abbrev s_Draft__check_faces : Stmt := inClass (topS 55) 5
theorem sc_Draft__check_faces : FnScope ["self", "k", "table", "rows", "face", "head", "row"] ["self", "k", "table"] (defScope s_Draft__check_faces) := ⟨rfl, rfl, rfl, by decide +kernel, rfl, by decide +kernel, by decide +kernel⟩
abbrev s_World_init : Stmt := inClass (topS 56) 0
theorem sc_World_init : FnScope ["self"] ["self"] (defScope s_World_init) := ⟨rfl, rfl, rfl, by decide +kernel, rfl, by decide +kernel, by decide +kernel⟩
abbrev s_World_add : Stmt := inClass (topS 56) 1
theorem sc_World_add : FnScope ["self", "module", "k"] ["self", "module"] (defScope s_World_add) := ⟨rfl, rfl, rfl, by decide +kernel, rfl, by decide +kernel, by decide +kernel⟩
abbrev s_World_names : Stmt := inClass (topS 56) 2
theorem sc_World_names : FnScope ["self"] ["self"] (defScope s_World_names) := ⟨rfl, rfl, rfl, by decide +kernel, rfl, by decide +kernel, by decide +kernel⟩
abbrev s_World_module : Stmt := inClass (topS 56) 3
theorem sc_World_module : FnScope ["self", "name"] ["self", "name"] (defScope s_World_module) := ⟨rfl, rfl, rfl, by decide +kernel, rfl, by decide +kernel, by decide +kernel⟩
abbrev s_World_face : Stmt := inClass (topS 56) 4
theorem sc_World_face : FnScope ["self", "package", "name", "face"] ["self", "package", "name"] (defScope s_World_face) := ⟨rfl, rfl, rfl, by decide +kernel, rfl, by decide +kernel, by decide +kernel⟩
abbrev s_World_package : Stmt := inClass (topS 56) 7
theorem sc_World_package : FnScope ["self", "g"] ["self", "g"] (defScope s_World_package) := ⟨rfl, rfl, rfl, by decide +kernel, rfl, by decide +kernel, by decide +kernel⟩
abbrev s_World_own : Stmt := inClass (topS 56) 8
theorem sc_World_own : FnScope ["self", "g"] ["self", "g"] (defScope s_World_own) := ⟨rfl, rfl, rfl, by decide +kernel, rfl, by decide +kernel, by decide +kernel⟩
abbrev s_World_method : Stmt := inClass (topS 56) 10
theorem sc_World_method : FnScope ["self", "g", "row"] ["self", "g", "row"] (defScope s_World_method) := ⟨rfl, rfl, rfl, by decide +kernel, rfl, by decide +kernel, by decide +kernel⟩
abbrev s_World__row : Stmt := inClass (topS 56) 15
theorem sc_World__row : FnScope ["self", "g", "package", "k"] ["self", "g"] (defScope s_World__row) := ⟨rfl, rfl, rfl, by decide +kernel, rfl, by decide +kernel, by decide +kernel⟩
abbrev s_law_cell : Stmt := topS 58
theorem sc_law_cell : FnScope ["_law_script", "_law_k"] ["_law_script", "_law_k"] (defScope s_law_cell) := ⟨rfl, rfl, rfl, by decide +kernel, rfl, by decide +kernel, by decide +kernel⟩
abbrev s_law_code : Stmt := topS 59
theorem sc_law_code : FnScope ["_law_rounds", "_law_loop", "_law_call"] ["_law_rounds"] (defScope s_law_code) := ⟨rfl, rfl, rfl, by decide +kernel, rfl, by decide +kernel, by decide +kernel⟩
abbrev s_law_seek : Stmt := topS 60
theorem sc_law_seek : FnScope ["_law_name"] ["_law_name"] (defScope s_law_seek) := ⟨rfl, rfl, rfl, by decide +kernel, rfl, by decide +kernel, by decide +kernel⟩
abbrev s_law_played : Stmt := topS 61
theorem sc_law_played : FnScope ["_law_machine", "_law_value", "e"] ["_law_machine", "_law_value"] (defScope s_law_played) := ⟨rfl, rfl, rfl, by decide +kernel, rfl, by decide +kernel, by decide +kernel⟩
abbrev s_law_expected : Stmt := topS 62
theorem sc_law_expected : FnScope ["_law_rounds", "_law_calls", "_law_caught", "_law_frames", "_law_steps"] ["_law_rounds", "_law_calls", "_law_caught"] (defScope s_law_expected) := ⟨rfl, rfl, rfl, by decide +kernel, rfl, by decide +kernel, by decide +kernel⟩
abbrev s_law : Stmt := topS 63
theorem sc_law : FnScope ["_law_script", "_law_calls", "_law_rounds", "_law_frames", "_law_caught", "_law_handlers", "_law_rows", "_law_method", "_law_rest", "_law_told", "_law_world", "_law_cells", "_law_journal", "_law_heap", "_law_machine", "_law_expected_here", "_law_k"] ["_law_script"] (defScope s_law) := ⟨rfl, rfl, rfl, by decide +kernel, rfl, by decide +kernel, by decide +kernel⟩
/-- what the top has left -/
structure Txt (K : PySem.W.Frag) (mg : Str → Option Value) where
  f_wall : Addr
  d_wall : FuncData
  k_wall : Fun K "_wall" "_wall" s_wall f_wall d_wall
  b_wall : Binds K d_wall ["k"] []
  g_wall : mg "_wall" = some (.ref f_wall)
  f_Fault_init : Addr
  d_Fault_init : FuncData
  k_Fault_init : Fun K "__init__" "Fault.__init__" s_Fault_init f_Fault_init d_Fault_init
  b_Fault_init : Binds K d_Fault_init ["self", "code"] []
  f_Heap_init : Addr
  d_Heap_init : FuncData
  k_Heap_init : Fun K "__init__" "Heap.__init__" s_Heap_init f_Heap_init d_Heap_init
  b_Heap_init : Binds K d_Heap_init ["self", "cells", "journal", "start"] []
  f_Heap_numbers : Addr
  d_Heap_numbers : FuncData
  k_Heap_numbers : Fun K "numbers" "Heap.numbers" s_Heap_numbers f_Heap_numbers d_Heap_numbers
  b_Heap_numbers : Binds K d_Heap_numbers ["self"] []
  f_Heap_used : Addr
  d_Heap_used : FuncData
  k_Heap_used : Fun K "used" "Heap.used" s_Heap_used f_Heap_used d_Heap_used
  b_Heap_used : Binds K d_Heap_used ["self"] []
  f_Heap_kind : Addr
  d_Heap_kind : FuncData
  k_Heap_kind : Fun K "kind" "Heap.kind" s_Heap_kind f_Heap_kind d_Heap_kind
  b_Heap_kind : Binds K d_Heap_kind ["self", "number"] []
  f_Heap_owner : Addr
  d_Heap_owner : FuncData
  k_Heap_owner : Fun K "owner" "Heap.owner" s_Heap_owner f_Heap_owner d_Heap_owner
  b_Heap_owner : Binds K d_Heap_owner ["self", "number"] []
  f_Heap_size : Addr
  d_Heap_size : FuncData
  k_Heap_size : Fun K "size" "Heap.size" s_Heap_size f_Heap_size d_Heap_size
  b_Heap_size : Binds K d_Heap_size ["self", "number"] []
  f_Heap_make : Addr
  d_Heap_make : FuncData
  k_Heap_make : Fun K "make" "Heap.make" s_Heap_make f_Heap_make d_Heap_make
  b_Heap_make : Binds K d_Heap_make ["self", "kind", "owner", "size"] []
  f_Heap__half : Addr
  d_Heap__half : FuncData
  k_Heap__half : Fun K "_half" "Heap._half" s_Heap__half f_Heap__half d_Heap__half
  b_Heap__half : Binds K d_Heap__half ["self"] []
  f_Heap__table : Addr
  d_Heap__table : FuncData
  k_Heap__table : Fun K "_table" "Heap._table" s_Heap__table f_Heap__table d_Heap__table
  b_Heap__table : Binds K d_Heap__table ["self", "half"] []
  f_Heap__room : Addr
  d_Heap__room : FuncData
  k_Heap__room : Fun K "_room" "Heap._room" s_Heap__room f_Heap__room d_Heap__room
  b_Heap__room : Binds K d_Heap__room ["self", "half"] []
  f_Heap__place : Addr
  d_Heap__place : FuncData
  k_Heap__place : Fun K "_place" "Heap._place" s_Heap__place f_Heap__place d_Heap__place
  b_Heap__place : Binds K d_Heap__place ["self", "number"] []
  f_wrap : Addr
  d_wrap : FuncData
  k_wrap : Fun K "wrap" "wrap" s_wrap f_wrap d_wrap
  b_wrap : Binds K d_wrap ["number"] []
  g_wrap : mg "wrap" = some (.ref f_wrap)
  f_divided : Addr
  d_divided : FuncData
  k_divided : Fun K "divided" "divided" s_divided f_divided d_divided
  b_divided : Binds K d_divided ["left", "right"] []
  g_divided : mg "divided" = some (.ref f_divided)
  f_arithmetic : Addr
  d_arithmetic : FuncData
  k_arithmetic : Fun K "arithmetic" "arithmetic" s_arithmetic f_arithmetic d_arithmetic
  b_arithmetic : Binds K d_arithmetic ["sign", "left", "right"] []
  g_arithmetic : mg "arithmetic" = some (.ref f_arithmetic)
  f_compared : Addr
  d_compared : FuncData
  k_compared : Fun K "compared" "compared" s_compared f_compared d_compared
  b_compared : Binds K d_compared ["sign", "left", "right"] []
  g_compared : mg "compared" = some (.ref f_compared)
  f_op : Addr
  d_op : FuncData
  k_op : Fun K "op" "op" s_op f_op d_op
  b_op : Binds K d_op ["sign", "left", "right"] []
  g_op : mg "op" = some (.ref f_op)
  f_Frame_init : Addr
  d_Frame_init : FuncData
  k_Frame_init : Fun K "__init__" "Frame.__init__" s_Frame_init f_Frame_init d_Frame_init
  b_Frame_init : Binds K d_Frame_init ["self", "package", "number", "method", "slots", "owner"] []
  f_Machine_init : Addr
  d_Machine_init : FuncData
  k_Machine_init : Fun K "__init__" "Machine.__init__" s_Machine_init f_Machine_init d_Machine_init
  b_Machine_init : Binds K d_Machine_init ["self", "world", "heap", "journal", "seek", "needless"] []
  f_Machine_run : Addr
  d_Machine_run : FuncData
  k_Machine_run : Fun K "run" "Machine.run" s_Machine_run f_Machine_run d_Machine_run
  b_Machine_run : Binds K d_Machine_run ["self", "number", "name", "value"] []
  f_Machine__enter : Addr
  d_Machine__enter : FuncData
  k_Machine__enter : Fun K "_enter" "Machine._enter" s_Machine__enter f_Machine__enter d_Machine__enter
  b_Machine__enter : Binds K d_Machine__enter ["self", "number", "g", "row", "values"] []
  f_Machine__leave : Addr
  d_Machine__leave : FuncData
  k_Machine__leave : Fun K "_leave" "Machine._leave" s_Machine__leave f_Machine__leave d_Machine__leave
  b_Machine__leave : Binds K d_Machine__leave ["self", "values"] []
  f_Machine__caught : Addr
  d_Machine__caught : FuncData
  k_Machine__caught : Fun K "_caught" "Machine._caught" s_Machine__caught f_Machine__caught d_Machine__caught
  b_Machine__caught : Binds K d_Machine__caught ["self", "code"] []
  f_Machine__step : Addr
  d_Machine__step : FuncData
  k_Machine__step : Fun K "_step" "Machine._step" s_Machine__step f_Machine__step d_Machine__step
  b_Machine__step : Binds K d_Machine__step ["self"] []
  f_Machine__perform : Addr
  d_Machine__perform : FuncData
  k_Machine__perform : Fun K "_perform" "Machine._perform" s_Machine__perform f_Machine__perform d_Machine__perform
  b_Machine__perform : Binds K d_Machine__perform ["self", "frame", "instruction"] []
  f_Machine__jump : Addr
  d_Machine__jump : FuncData
  k_Machine__jump : Fun K "_jump" "Machine._jump" s_Machine__jump f_Machine__jump d_Machine__jump
  b_Machine__jump : Binds K d_Machine__jump ["self", "frame", "instruction"] []
  f_Machine__call : Addr
  d_Machine__call : FuncData
  k_Machine__call : Fun K "_call" "Machine._call" s_Machine__call f_Machine__call d_Machine__call
  b_Machine__call : Binds K d_Machine__call ["self", "frame", "instruction"] []
  f_Machine__work : Addr
  d_Machine__work : FuncData
  k_Machine__work : Fun K "_work" "Machine._work" s_Machine__work f_Machine__work d_Machine__work
  b_Machine__work : Binds K d_Machine__work ["self", "frame", "instruction"] []
  f_Machine__reckon : Addr
  d_Machine__reckon : FuncData
  k_Machine__reckon : Fun K "_reckon" "Machine._reckon" s_Machine__reckon f_Machine__reckon d_Machine__reckon
  b_Machine__reckon : Binds K d_Machine__reckon ["self", "stack", "instruction"] []
  f_Cells_init : Addr
  d_Cells_init : FuncData
  k_Cells_init : Fun K "__init__" "Cells.__init__" s_Cells_init f_Cells_init d_Cells_init
  b_Cells_init : Binds K d_Cells_init ["self", "count"] []
  f_Cells_read : Addr
  d_Cells_read : FuncData
  k_Cells_read : Fun K "read" "Cells.read" s_Cells_read f_Cells_read d_Cells_read
  b_Cells_read : Binds K d_Cells_read ["self", "place"] []
  f_Cells_write : Addr
  d_Cells_write : FuncData
  k_Cells_write : Fun K "write" "Cells.write" s_Cells_write f_Cells_write d_Cells_write
  b_Cells_write : Binds K d_Cells_write ["self", "place", "word"] []
  f_Journal_init : Addr
  d_Journal_init : FuncData
  k_Journal_init : Fun K "__init__" "Journal.__init__" s_Journal_init f_Journal_init d_Journal_init
  b_Journal_init : Binds K d_Journal_init ["self", "cells", "start"] []
  f_must : Addr
  d_must : FuncData
  k_must : Fun K "must" "must" s_must f_must d_must
  b_must : Binds K d_must ["condition"] []
  g_must : mg "must" = some (.ref f_must)
  f_is_face : Addr
  d_is_face : FuncData
  k_is_face : Fun K "is_face" "is_face" s_is_face f_is_face d_is_face
  b_is_face : Binds K d_is_face ["kind"] []
  g_is_face : mg "is_face" = some (.ref f_is_face)
  f_ancestors_of : Addr
  d_ancestors_of : FuncData
  k_ancestors_of : Fun K "ancestors_of" "ancestors_of" s_ancestors_of f_ancestors_of d_ancestors_of
  b_ancestors_of : Binds K d_ancestors_of ["module", "k"] []
  g_ancestors_of : mg "ancestors_of" = some (.ref f_ancestors_of)
  f_faces_of : Addr
  d_faces_of : FuncData
  k_faces_of : Fun K "faces_of" "faces_of" s_faces_of f_faces_of d_faces_of
  b_faces_of : Binds K d_faces_of ["module", "k"] []
  g_faces_of : mg "faces_of" = some (.ref f_faces_of)
  f_Draft_init : Addr
  d_Draft_init : FuncData
  k_Draft_init : Fun K "__init__" "Draft.__init__" s_Draft_init f_Draft_init d_Draft_init
  b_Draft_init : Binds K d_Draft_init ["self", "world", "module"] []
  f_Draft_check : Addr
  d_Draft_check : FuncData
  k_Draft_check : Fun K "check" "Draft.check" s_Draft_check f_Draft_check d_Draft_check
  b_Draft_check : Binds K d_Draft_check ["self"] []
  f_Draft__face : Addr
  d_Draft__face : FuncData
  k_Draft__face : Fun K "_face" "Draft._face" s_Draft__face f_Draft__face d_Draft__face
  b_Draft__face : Binds K d_Draft__face ["self", "package", "name"] []
  f_Draft__check_kinds : Addr
  d_Draft__check_kinds : FuncData
  k_Draft__check_kinds : Fun K "_check_kinds" "Draft._check_kinds" s_Draft__check_kinds f_Draft__check_kinds d_Draft__check_kinds
  b_Draft__check_kinds : Binds K d_Draft__check_kinds ["self", "kinds"] []
  f_Draft__check_heads : Addr
  d_Draft__check_heads : FuncData
  k_Draft__check_heads : Fun K "_check_heads" "Draft._check_heads" s_Draft__check_heads f_Draft__check_heads d_Draft__check_heads
  b_Draft__check_heads : Binds K d_Draft__check_heads ["self", "heads"] []
  f_Draft__check_faces : Addr
  d_Draft__check_faces : FuncData
  k_Draft__check_faces : Fun K "_check_faces" "Draft._check_faces" s_Draft__check_faces f_Draft__check_faces d_Draft__check_faces
  b_Draft__check_faces : Binds K d_Draft__check_faces ["self", "k", "table"] []
  f_World_init : Addr
  d_World_init : FuncData
  k_World_init : Fun K "__init__" "World.__init__" s_World_init f_World_init d_World_init
  b_World_init : Binds K d_World_init ["self"] []
  f_World_add : Addr
  d_World_add : FuncData
  k_World_add : Fun K "add" "World.add" s_World_add f_World_add d_World_add
  b_World_add : Binds K d_World_add ["self", "module"] []
  f_World_names : Addr
  d_World_names : FuncData
  k_World_names : Fun K "names" "World.names" s_World_names f_World_names d_World_names
  b_World_names : Binds K d_World_names ["self"] []
  f_World_module : Addr
  d_World_module : FuncData
  k_World_module : Fun K "module" "World.module" s_World_module f_World_module d_World_module
  b_World_module : Binds K d_World_module ["self", "name"] []
  f_World_face : Addr
  d_World_face : FuncData
  k_World_face : Fun K "face" "World.face" s_World_face f_World_face d_World_face
  b_World_face : Binds K d_World_face ["self", "package", "name"] []
  f_World_package : Addr
  d_World_package : FuncData
  k_World_package : Fun K "package" "World.package" s_World_package f_World_package d_World_package
  b_World_package : Binds K d_World_package ["self", "g"] []
  f_World_own : Addr
  d_World_own : FuncData
  k_World_own : Fun K "own" "World.own" s_World_own f_World_own d_World_own
  b_World_own : Binds K d_World_own ["self", "g"] []
  f_World_method : Addr
  d_World_method : FuncData
  k_World_method : Fun K "method" "World.method" s_World_method f_World_method d_World_method
  b_World_method : Binds K d_World_method ["self", "g", "row"] []
  f_World__row : Addr
  d_World__row : FuncData
  k_World__row : Fun K "_row" "World._row" s_World__row f_World__row d_World__row
  b_World__row : Binds K d_World__row ["self", "g"] []
  f_law_cell : Addr
  d_law_cell : FuncData
  k_law_cell : Fun K "_law_cell" "_law_cell" s_law_cell f_law_cell d_law_cell
  b_law_cell : Binds K d_law_cell ["_law_script", "_law_k"] []
  g_law_cell : mg "_law_cell" = some (.ref f_law_cell)
  f_law_code : Addr
  d_law_code : FuncData
  k_law_code : Fun K "_law_code" "_law_code" s_law_code f_law_code d_law_code
  b_law_code : Binds K d_law_code ["_law_rounds"] []
  g_law_code : mg "_law_code" = some (.ref f_law_code)
  f_law_seek : Addr
  d_law_seek : FuncData
  k_law_seek : Fun K "_law_seek" "_law_seek" s_law_seek f_law_seek d_law_seek
  b_law_seek : Binds K d_law_seek ["_law_name"] []
  g_law_seek : mg "_law_seek" = some (.ref f_law_seek)
  f_law_played : Addr
  d_law_played : FuncData
  k_law_played : Fun K "_law_played" "_law_played" s_law_played f_law_played d_law_played
  b_law_played : Binds K d_law_played ["_law_machine", "_law_value"] []
  g_law_played : mg "_law_played" = some (.ref f_law_played)
  f_law_expected : Addr
  d_law_expected : FuncData
  k_law_expected : Fun K "_law_expected" "_law_expected" s_law_expected f_law_expected d_law_expected
  b_law_expected : Binds K d_law_expected ["_law_rounds", "_law_calls", "_law_caught"] []
  g_law_expected : mg "_law_expected" = some (.ref f_law_expected)
  f_law : Addr
  d_law : FuncData
  k_law : Fun K "law" "law" s_law f_law d_law
  b_law : Binds K d_law ["_law_script"] []
  g_law : mg "law" = some (.ref f_law)
  c_CardError : Addr
  g_CardError : mg "CardError" = some (.ref c_CardError)
  c_BadLink : Addr
  g_BadLink : mg "BadLink" = some (.ref c_BadLink)
  c_Fault : Addr
  g_Fault : mg "Fault" = some (.ref c_Fault)
  c_StepsGone : Addr
  g_StepsGone : mg "StepsGone" = some (.ref c_StepsGone)
  c_PowerCut : Addr
  g_PowerCut : mg "PowerCut" = some (.ref c_PowerCut)
  c_Heap : Addr
  g_Heap : mg "Heap" = some (.ref c_Heap)
  c_Frame : Addr
  g_Frame : mg "Frame" = some (.ref c_Frame)
  c_Machine : Addr
  g_Machine : mg "Machine" = some (.ref c_Machine)
  c_Cells : Addr
  g_Cells : mg "Cells" = some (.ref c_Cells)
  c_Journal : Addr
  g_Journal : mg "Journal" = some (.ref c_Journal)
  c_Draft : Addr
  g_Draft : mg "Draft" = some (.ref c_Draft)
  c_World : Addr
  g_World : mg "World" = some (.ref c_World)
  x_BadLink : Exc K c_BadLink
  ox_Fault : OexC K c_Fault
  in_Fault : PySem.W.findIn K (.ref c_Fault) "__init__" = some (some (.ref f_Fault_init))
  ti_Fault : PySem.W.typeIn K (.ref f_Fault_init) = some (.type "function")
  on_Fault_code : PySem.W.findIn K (.ref c_Fault) "code" = some none
  xf_Fault : XfC K c_Fault
  ex_Fault_Fault : PySem.W.exmOne K (.ref c_Fault) (.ref c_Fault) = some true
  ex_StepsGone_Fault : PySem.W.exmOne K (.ref c_StepsGone) (.ref c_Fault) = some false
  ex_PowerCut_Fault : PySem.W.exmOne K (.ref c_PowerCut) (.ref c_Fault) = some false
  ex_BadLink_Fault : PySem.W.exmOne K (.ref c_BadLink) (.ref c_Fault) = some false
  x_StepsGone : Exc K c_StepsGone
  ex_Fault_StepsGone : PySem.W.exmOne K (.ref c_Fault) (.ref c_StepsGone) = some false
  ex_StepsGone_StepsGone : PySem.W.exmOne K (.ref c_StepsGone) (.ref c_StepsGone) = some true
  ex_PowerCut_StepsGone : PySem.W.exmOne K (.ref c_PowerCut) (.ref c_StepsGone) = some false
  ex_BadLink_StepsGone : PySem.W.exmOne K (.ref c_BadLink) (.ref c_StepsGone) = some false
  x_PowerCut : Exc K c_PowerCut
  cl_Heap : Cls K c_Heap
  mk_Heap : Mk K c_Heap f_Heap_init
  me_Heap_numbers : Meth K c_Heap "numbers" f_Heap_numbers
  me_Heap_used : Meth K c_Heap "used" f_Heap_used
  me_Heap_kind : Meth K c_Heap "kind" f_Heap_kind
  me_Heap_owner : Meth K c_Heap "owner" f_Heap_owner
  me_Heap_size : Meth K c_Heap "size" f_Heap_size
  me_Heap_make : Meth K c_Heap "make" f_Heap_make
  me_Heap__half : Meth K c_Heap "_half" f_Heap__half
  me_Heap__table : Meth K c_Heap "_table" f_Heap__table
  me_Heap__room : Meth K c_Heap "_room" f_Heap__room
  me_Heap__place : Meth K c_Heap "_place" f_Heap__place
  nf_Heap_cells : NoAttr K c_Heap "_cells"
  nf_Heap_journal : NoAttr K c_Heap "_journal"
  nf_Heap_start : NoAttr K c_Heap "_start"
  nf_Heap_temps : NoAttr K c_Heap "_temps"
  cl_Frame : Cls K c_Frame
  mk_Frame : Mk K c_Frame f_Frame_init
  nf_Frame_package : NoAttr K c_Frame "package"
  nf_Frame_number : NoAttr K c_Frame "number"
  nf_Frame_code : NoAttr K c_Frame "code"
  nf_Frame_handlers : NoAttr K c_Frame "handlers"
  nf_Frame_slots : NoAttr K c_Frame "slots"
  nf_Frame_owner : NoAttr K c_Frame "owner"
  nf_Frame_place : NoAttr K c_Frame "place"
  nf_Frame_stack : NoAttr K c_Frame "stack"
  cl_Machine : Cls K c_Machine
  mk_Machine : Mk K c_Machine f_Machine_init
  me_Machine_run : Meth K c_Machine "run" f_Machine_run
  me_Machine__enter : Meth K c_Machine "_enter" f_Machine__enter
  me_Machine__leave : Meth K c_Machine "_leave" f_Machine__leave
  me_Machine__caught : Meth K c_Machine "_caught" f_Machine__caught
  me_Machine__step : Meth K c_Machine "_step" f_Machine__step
  me_Machine__perform : Meth K c_Machine "_perform" f_Machine__perform
  me_Machine__jump : Meth K c_Machine "_jump" f_Machine__jump
  me_Machine__call : Meth K c_Machine "_call" f_Machine__call
  me_Machine__work : Meth K c_Machine "_work" f_Machine__work
  me_Machine__reckon : Meth K c_Machine "_reckon" f_Machine__reckon
  nf_Machine_world : NoAttr K c_Machine "_world"
  nf_Machine_heap : NoAttr K c_Machine "_heap"
  nf_Machine_journal : NoAttr K c_Machine "_journal"
  nf_Machine_seek : NoAttr K c_Machine "_seek"
  nf_Machine_needless : NoAttr K c_Machine "_needless"
  nf_Machine_frames : NoAttr K c_Machine "_frames"
  nf_Machine_steps : NoAttr K c_Machine "_steps"
  nf_Machine_looks : NoAttr K c_Machine "_looks"
  nf_Machine_result : NoAttr K c_Machine "_result"
  cl_Cells : Cls K c_Cells
  mk_Cells : Mk K c_Cells f_Cells_init
  me_Cells_read : Meth K c_Cells "read" f_Cells_read
  me_Cells_write : Meth K c_Cells "write" f_Cells_write
  nf_Cells_words : NoAttr K c_Cells "_words"
  nf_Cells_left : NoAttr K c_Cells "_left"
  nf_Cells_on : NoAttr K c_Cells "_on"
  cl_Journal : Cls K c_Journal
  mk_Journal : Mk K c_Journal f_Journal_init
  nf_Journal_cells : NoAttr K c_Journal "_cells"
  nf_Journal_start : NoAttr K c_Journal "_start"
  nf_Journal_open : NoAttr K c_Journal "_open"
  cl_Draft : Cls K c_Draft
  mk_Draft : Mk K c_Draft f_Draft_init
  me_Draft_check : Meth K c_Draft "check" f_Draft_check
  me_Draft__face : Meth K c_Draft "_face" f_Draft__face
  me_Draft__check_kinds : Meth K c_Draft "_check_kinds" f_Draft__check_kinds
  me_Draft__check_heads : Meth K c_Draft "_check_heads" f_Draft__check_heads
  me_Draft__check_faces : Meth K c_Draft "_check_faces" f_Draft__check_faces
  nf_Draft_world : NoAttr K c_Draft "_world"
  nf_Draft_module : NoAttr K c_Draft "_module"
  cl_World : Cls K c_World
  mk_World : Mk K c_World f_World_init
  me_World_add : Meth K c_World "add" f_World_add
  me_World_names : Meth K c_World "names" f_World_names
  me_World_module : Meth K c_World "module" f_World_module
  me_World_face : Meth K c_World "face" f_World_face
  me_World_package : Meth K c_World "package" f_World_package
  me_World_own : Meth K c_World "own" f_World_own
  me_World_method : Meth K c_World "method" f_World_method
  me_World__row : Meth K c_World "_row" f_World__row
  nf_World_modules : NoAttr K c_World "_modules"
  nf_World_classes : NoAttr K c_World "_classes"
  m_abs : mg "abs" = none
  m_enumerate : mg "enumerate" = none
  m_int : mg "int" = none
  m_len : mg "len" = none
  m_list : mg "list" = none
  m_min : mg "min" = none
  m_range : mg "range" = none
  m_sum : mg "sum" = none
  m_tuple : mg "tuple" = none
  t_MOST_BUFFER : Tok
  g_MOST_BUFFER : mg "MOST_BUFFER" = some (.int (64) t_MOST_BUFFER)
  t_MOST_CELLS : Tok
  g_MOST_CELLS : mg "MOST_CELLS" = some (.int (400) t_MOST_CELLS)
  t_MOST_OBJECTS : Tok
  g_MOST_OBJECTS : mg "MOST_OBJECTS" = some (.int (60) t_MOST_OBJECTS)
  t_MOST_DEPTH : Tok
  g_MOST_DEPTH : mg "MOST_DEPTH" = some (.int (8) t_MOST_DEPTH)
  t_MOST_STEPS : Tok
  g_MOST_STEPS : mg "MOST_STEPS" = some (.int (1000) t_MOST_STEPS)
  t_NULL_limits : Tok
  g_NULL_limits : mg "NULL_limits" = some (.int (-1) t_NULL_limits)
  t_DIVIDED : Tok
  g_DIVIDED : mg "DIVIDED" = some (.int (-3) t_DIVIDED)
  t_ROOM : Tok
  g_ROOM : mg "ROOM" = some (.int (-6) t_ROOM)
  t_DEPTH : Tok
  g_DEPTH : mg "DEPTH" = some (.int (-9) t_DEPTH)
  t_TEMP : Tok
  g_TEMP : mg "TEMP" = some (.int (-2) t_TEMP)
  t_BUFFER : Tok
  g_BUFFER : mg "BUFFER" = some (.int (61) t_BUFFER)
  t_HEAD_CELLS : Tok
  g_HEAD_CELLS : mg "HEAD_CELLS" = some (.int (3) t_HEAD_CELLS)
  t_HALF_CELLS : Tok
  g_HALF_CELLS : mg "HALF_CELLS" = some (.int (460) t_HALF_CELLS)
  t_LEAST : Tok
  g_LEAST : mg "LEAST" = some (.int (-32768) t_LEAST)
  a_INT : Addr
  g_INT : mg "INT" = some (.ref a_INT)
  s_INT : ∀ H, SqT K H a_INT [.str "int"]
  y_INT : ∃ o, K.lookup a_INT = some o ∧ o.cls = .type "tuple"
  a_NOTHING : Addr
  g_NOTHING : mg "NOTHING" = some (.ref a_NOTHING)
  s_NOTHING : ∀ H, SqT K H a_NOTHING [.str "nothing"]
  y_NOTHING : ∃ o, K.lookup a_NOTHING = some o ∧ o.cls = .type "tuple"
/-! #### the head, run in the kernel -/
def excB (K : PySem.W.Frag) (C : Addr) : Bool := match K.lookup C with
  | some ⟨.type t, _, .cls cd, sl⟩ => decide (t = "type") && ((match cd.mro with
    | .ref D :: bm => decide (D = C) && (cd.hasDict && (!cd.hasDel && PySem.HandSPX.refsVE bm))
    | _ => false) && (match sl.toList with
    | [_, _, _, _, some (.builtin b), _] => decide (b = "ValueError.__new__")
    | _ => false))
  | _ => false
def fnX_0 : List (He.FnD) := [⟨("_wall", none), "_wall", "_wall", defArgs s_wall, defBody s_wall, defScope s_wall⟩,
    ⟨("Fault", some "__init__"), "__init__", "Fault.__init__", defArgs s_Fault_init, defBody s_Fault_init, defScope s_Fault_init⟩,
    ⟨("Heap", some "__init__"), "__init__", "Heap.__init__", defArgs s_Heap_init, defBody s_Heap_init, defScope s_Heap_init⟩,
    ⟨("Heap", some "numbers"), "numbers", "Heap.numbers", defArgs s_Heap_numbers, defBody s_Heap_numbers, defScope s_Heap_numbers⟩,
    ⟨("Heap", some "used"), "used", "Heap.used", defArgs s_Heap_used, defBody s_Heap_used, defScope s_Heap_used⟩,
    ⟨("Heap", some "kind"), "kind", "Heap.kind", defArgs s_Heap_kind, defBody s_Heap_kind, defScope s_Heap_kind⟩,
    ⟨("Heap", some "owner"), "owner", "Heap.owner", defArgs s_Heap_owner, defBody s_Heap_owner, defScope s_Heap_owner⟩,
    ⟨("Heap", some "size"), "size", "Heap.size", defArgs s_Heap_size, defBody s_Heap_size, defScope s_Heap_size⟩,
    ⟨("Heap", some "make"), "make", "Heap.make", defArgs s_Heap_make, defBody s_Heap_make, defScope s_Heap_make⟩,
    ⟨("Heap", some "_half"), "_half", "Heap._half", defArgs s_Heap__half, defBody s_Heap__half, defScope s_Heap__half⟩,
    ⟨("Heap", some "_table"), "_table", "Heap._table", defArgs s_Heap__table, defBody s_Heap__table, defScope s_Heap__table⟩,
    ⟨("Heap", some "_room"), "_room", "Heap._room", defArgs s_Heap__room, defBody s_Heap__room, defScope s_Heap__room⟩,
    ⟨("Heap", some "_place"), "_place", "Heap._place", defArgs s_Heap__place, defBody s_Heap__place, defScope s_Heap__place⟩,
    ⟨("wrap", none), "wrap", "wrap", defArgs s_wrap, defBody s_wrap, defScope s_wrap⟩,
    ⟨("divided", none), "divided", "divided", defArgs s_divided, defBody s_divided, defScope s_divided⟩,
    ⟨("arithmetic", none), "arithmetic", "arithmetic", defArgs s_arithmetic, defBody s_arithmetic, defScope s_arithmetic⟩,
    ⟨("compared", none), "compared", "compared", defArgs s_compared, defBody s_compared, defScope s_compared⟩,
    ⟨("op", none), "op", "op", defArgs s_op, defBody s_op, defScope s_op⟩,
    ⟨("Frame", some "__init__"), "__init__", "Frame.__init__", defArgs s_Frame_init, defBody s_Frame_init, defScope s_Frame_init⟩,
    ⟨("Machine", some "__init__"), "__init__", "Machine.__init__", defArgs s_Machine_init, defBody s_Machine_init, defScope s_Machine_init⟩,
    ⟨("Machine", some "run"), "run", "Machine.run", defArgs s_Machine_run, defBody s_Machine_run, defScope s_Machine_run⟩,
    ⟨("Machine", some "_enter"), "_enter", "Machine._enter", defArgs s_Machine__enter, defBody s_Machine__enter, defScope s_Machine__enter⟩,
    ⟨("Machine", some "_leave"), "_leave", "Machine._leave", defArgs s_Machine__leave, defBody s_Machine__leave, defScope s_Machine__leave⟩,
    ⟨("Machine", some "_caught"), "_caught", "Machine._caught", defArgs s_Machine__caught, defBody s_Machine__caught, defScope s_Machine__caught⟩,
    ⟨("Machine", some "_step"), "_step", "Machine._step", defArgs s_Machine__step, defBody s_Machine__step, defScope s_Machine__step⟩,
    ⟨("Machine", some "_perform"), "_perform", "Machine._perform", defArgs s_Machine__perform, defBody s_Machine__perform, defScope s_Machine__perform⟩,
    ⟨("Machine", some "_jump"), "_jump", "Machine._jump", defArgs s_Machine__jump, defBody s_Machine__jump, defScope s_Machine__jump⟩,
    ⟨("Machine", some "_call"), "_call", "Machine._call", defArgs s_Machine__call, defBody s_Machine__call, defScope s_Machine__call⟩,
    ⟨("Machine", some "_work"), "_work", "Machine._work", defArgs s_Machine__work, defBody s_Machine__work, defScope s_Machine__work⟩,
    ⟨("Machine", some "_reckon"), "_reckon", "Machine._reckon", defArgs s_Machine__reckon, defBody s_Machine__reckon, defScope s_Machine__reckon⟩]
def fnX_1 : List (He.FnD) := [⟨("Cells", some "__init__"), "__init__", "Cells.__init__", defArgs s_Cells_init, defBody s_Cells_init, defScope s_Cells_init⟩,
    ⟨("Cells", some "read"), "read", "Cells.read", defArgs s_Cells_read, defBody s_Cells_read, defScope s_Cells_read⟩,
    ⟨("Cells", some "write"), "write", "Cells.write", defArgs s_Cells_write, defBody s_Cells_write, defScope s_Cells_write⟩,
    ⟨("Journal", some "__init__"), "__init__", "Journal.__init__", defArgs s_Journal_init, defBody s_Journal_init, defScope s_Journal_init⟩,
    ⟨("must", none), "must", "must", defArgs s_must, defBody s_must, defScope s_must⟩,
    ⟨("is_face", none), "is_face", "is_face", defArgs s_is_face, defBody s_is_face, defScope s_is_face⟩,
    ⟨("ancestors_of", none), "ancestors_of", "ancestors_of", defArgs s_ancestors_of, defBody s_ancestors_of, defScope s_ancestors_of⟩,
    ⟨("faces_of", none), "faces_of", "faces_of", defArgs s_faces_of, defBody s_faces_of, defScope s_faces_of⟩,
    ⟨("Draft", some "__init__"), "__init__", "Draft.__init__", defArgs s_Draft_init, defBody s_Draft_init, defScope s_Draft_init⟩,
    ⟨("Draft", some "check"), "check", "Draft.check", defArgs s_Draft_check, defBody s_Draft_check, defScope s_Draft_check⟩,
    ⟨("Draft", some "_face"), "_face", "Draft._face", defArgs s_Draft__face, defBody s_Draft__face, defScope s_Draft__face⟩,
    ⟨("Draft", some "_check_kinds"), "_check_kinds", "Draft._check_kinds", defArgs s_Draft__check_kinds, defBody s_Draft__check_kinds, defScope s_Draft__check_kinds⟩,
    ⟨("Draft", some "_check_heads"), "_check_heads", "Draft._check_heads", defArgs s_Draft__check_heads, defBody s_Draft__check_heads, defScope s_Draft__check_heads⟩,
    ⟨("Draft", some "_check_faces"), "_check_faces", "Draft._check_faces", defArgs s_Draft__check_faces, defBody s_Draft__check_faces, defScope s_Draft__check_faces⟩,
    ⟨("World", some "__init__"), "__init__", "World.__init__", defArgs s_World_init, defBody s_World_init, defScope s_World_init⟩,
    ⟨("World", some "add"), "add", "World.add", defArgs s_World_add, defBody s_World_add, defScope s_World_add⟩,
    ⟨("World", some "names"), "names", "World.names", defArgs s_World_names, defBody s_World_names, defScope s_World_names⟩,
    ⟨("World", some "module"), "module", "World.module", defArgs s_World_module, defBody s_World_module, defScope s_World_module⟩,
    ⟨("World", some "face"), "face", "World.face", defArgs s_World_face, defBody s_World_face, defScope s_World_face⟩,
    ⟨("World", some "package"), "package", "World.package", defArgs s_World_package, defBody s_World_package, defScope s_World_package⟩,
    ⟨("World", some "own"), "own", "World.own", defArgs s_World_own, defBody s_World_own, defScope s_World_own⟩,
    ⟨("World", some "method"), "method", "World.method", defArgs s_World_method, defBody s_World_method, defScope s_World_method⟩,
    ⟨("World", some "_row"), "_row", "World._row", defArgs s_World__row, defBody s_World__row, defScope s_World__row⟩,
    ⟨("_law_cell", none), "_law_cell", "_law_cell", defArgs s_law_cell, defBody s_law_cell, defScope s_law_cell⟩,
    ⟨("_law_code", none), "_law_code", "_law_code", defArgs s_law_code, defBody s_law_code, defScope s_law_code⟩,
    ⟨("_law_seek", none), "_law_seek", "_law_seek", defArgs s_law_seek, defBody s_law_seek, defScope s_law_seek⟩,
    ⟨("_law_played", none), "_law_played", "_law_played", defArgs s_law_played, defBody s_law_played, defScope s_law_played⟩,
    ⟨("_law_expected", none), "_law_expected", "_law_expected", defArgs s_law_expected, defBody s_law_expected, defScope s_law_expected⟩,
    ⟨("law", none), "law", "law", defArgs s_law, defBody s_law, defScope s_law⟩]
def fnX : List (He.FnD) := fnX_0 ++ (fnX_1)
def fbX_0 : List (PySem.W.Frag → Bool) := [fun K => He.eqO (PySem.W.nsIn K mainGlobals "_wall") (some (some (.ref (He.fAd K ("_wall", none))))),
    fun K => PySem.W.keepIn K (.ref (He.fAd K ("_wall", none))),
    fun K => PySem.W.keepIn K (.ref (He.fAd K ("Fault", some "__init__"))),
    fun K => PySem.W.keepIn K (.ref (He.fAd K ("Heap", some "__init__"))),
    fun K => PySem.W.keepIn K (.ref (He.fAd K ("Heap", some "numbers"))),
    fun K => PySem.W.keepIn K (.ref (He.fAd K ("Heap", some "used"))),
    fun K => PySem.W.keepIn K (.ref (He.fAd K ("Heap", some "kind"))),
    fun K => PySem.W.keepIn K (.ref (He.fAd K ("Heap", some "owner"))),
    fun K => PySem.W.keepIn K (.ref (He.fAd K ("Heap", some "size"))),
    fun K => PySem.W.keepIn K (.ref (He.fAd K ("Heap", some "make"))),
    fun K => PySem.W.keepIn K (.ref (He.fAd K ("Heap", some "_half"))),
    fun K => PySem.W.keepIn K (.ref (He.fAd K ("Heap", some "_table"))),
    fun K => PySem.W.keepIn K (.ref (He.fAd K ("Heap", some "_room"))),
    fun K => PySem.W.keepIn K (.ref (He.fAd K ("Heap", some "_place"))),
    fun K => He.eqO (PySem.W.nsIn K mainGlobals "wrap") (some (some (.ref (He.fAd K ("wrap", none))))),
    fun K => PySem.W.keepIn K (.ref (He.fAd K ("wrap", none))),
    fun K => He.eqO (PySem.W.nsIn K mainGlobals "divided") (some (some (.ref (He.fAd K ("divided", none))))),
    fun K => PySem.W.keepIn K (.ref (He.fAd K ("divided", none))),
    fun K => He.eqO (PySem.W.nsIn K mainGlobals "arithmetic") (some (some (.ref (He.fAd K ("arithmetic", none))))),
    fun K => PySem.W.keepIn K (.ref (He.fAd K ("arithmetic", none))),
    fun K => He.eqO (PySem.W.nsIn K mainGlobals "compared") (some (some (.ref (He.fAd K ("compared", none))))),
    fun K => PySem.W.keepIn K (.ref (He.fAd K ("compared", none))),
    fun K => He.eqO (PySem.W.nsIn K mainGlobals "op") (some (some (.ref (He.fAd K ("op", none))))),
    fun K => PySem.W.keepIn K (.ref (He.fAd K ("op", none))),
    fun K => PySem.W.keepIn K (.ref (He.fAd K ("Frame", some "__init__"))),
    fun K => PySem.W.keepIn K (.ref (He.fAd K ("Machine", some "__init__"))),
    fun K => PySem.W.keepIn K (.ref (He.fAd K ("Machine", some "run"))),
    fun K => PySem.W.keepIn K (.ref (He.fAd K ("Machine", some "_enter"))),
    fun K => PySem.W.keepIn K (.ref (He.fAd K ("Machine", some "_leave"))),
    fun K => PySem.W.keepIn K (.ref (He.fAd K ("Machine", some "_caught")))]
def fbX_1 : List (PySem.W.Frag → Bool) := [fun K => PySem.W.keepIn K (.ref (He.fAd K ("Machine", some "_step"))),
    fun K => PySem.W.keepIn K (.ref (He.fAd K ("Machine", some "_perform"))),
    fun K => PySem.W.keepIn K (.ref (He.fAd K ("Machine", some "_jump"))),
    fun K => PySem.W.keepIn K (.ref (He.fAd K ("Machine", some "_call"))),
    fun K => PySem.W.keepIn K (.ref (He.fAd K ("Machine", some "_work"))),
    fun K => PySem.W.keepIn K (.ref (He.fAd K ("Machine", some "_reckon"))),
    fun K => PySem.W.keepIn K (.ref (He.fAd K ("Cells", some "__init__"))),
    fun K => PySem.W.keepIn K (.ref (He.fAd K ("Cells", some "read"))),
    fun K => PySem.W.keepIn K (.ref (He.fAd K ("Cells", some "write"))),
    fun K => PySem.W.keepIn K (.ref (He.fAd K ("Journal", some "__init__"))),
    fun K => He.eqO (PySem.W.nsIn K mainGlobals "must") (some (some (.ref (He.fAd K ("must", none))))),
    fun K => PySem.W.keepIn K (.ref (He.fAd K ("must", none))),
    fun K => He.eqO (PySem.W.nsIn K mainGlobals "is_face") (some (some (.ref (He.fAd K ("is_face", none))))),
    fun K => PySem.W.keepIn K (.ref (He.fAd K ("is_face", none))),
    fun K => He.eqO (PySem.W.nsIn K mainGlobals "ancestors_of") (some (some (.ref (He.fAd K ("ancestors_of", none))))),
    fun K => PySem.W.keepIn K (.ref (He.fAd K ("ancestors_of", none))),
    fun K => He.eqO (PySem.W.nsIn K mainGlobals "faces_of") (some (some (.ref (He.fAd K ("faces_of", none))))),
    fun K => PySem.W.keepIn K (.ref (He.fAd K ("faces_of", none))),
    fun K => PySem.W.keepIn K (.ref (He.fAd K ("Draft", some "__init__"))),
    fun K => PySem.W.keepIn K (.ref (He.fAd K ("Draft", some "check"))),
    fun K => PySem.W.keepIn K (.ref (He.fAd K ("Draft", some "_face"))),
    fun K => PySem.W.keepIn K (.ref (He.fAd K ("Draft", some "_check_kinds"))),
    fun K => PySem.W.keepIn K (.ref (He.fAd K ("Draft", some "_check_heads"))),
    fun K => PySem.W.keepIn K (.ref (He.fAd K ("Draft", some "_check_faces"))),
    fun K => PySem.W.keepIn K (.ref (He.fAd K ("World", some "__init__"))),
    fun K => PySem.W.keepIn K (.ref (He.fAd K ("World", some "add"))),
    fun K => PySem.W.keepIn K (.ref (He.fAd K ("World", some "names"))),
    fun K => PySem.W.keepIn K (.ref (He.fAd K ("World", some "module"))),
    fun K => PySem.W.keepIn K (.ref (He.fAd K ("World", some "face"))),
    fun K => PySem.W.keepIn K (.ref (He.fAd K ("World", some "package")))]
def fbX_2 : List (PySem.W.Frag → Bool) := [fun K => PySem.W.keepIn K (.ref (He.fAd K ("World", some "own"))),
    fun K => PySem.W.keepIn K (.ref (He.fAd K ("World", some "method"))),
    fun K => PySem.W.keepIn K (.ref (He.fAd K ("World", some "_row"))),
    fun K => He.eqO (PySem.W.nsIn K mainGlobals "_law_cell") (some (some (.ref (He.fAd K ("_law_cell", none))))),
    fun K => PySem.W.keepIn K (.ref (He.fAd K ("_law_cell", none))),
    fun K => He.eqO (PySem.W.nsIn K mainGlobals "_law_code") (some (some (.ref (He.fAd K ("_law_code", none))))),
    fun K => PySem.W.keepIn K (.ref (He.fAd K ("_law_code", none))),
    fun K => He.eqO (PySem.W.nsIn K mainGlobals "_law_seek") (some (some (.ref (He.fAd K ("_law_seek", none))))),
    fun K => PySem.W.keepIn K (.ref (He.fAd K ("_law_seek", none))),
    fun K => He.eqO (PySem.W.nsIn K mainGlobals "_law_played") (some (some (.ref (He.fAd K ("_law_played", none))))),
    fun K => PySem.W.keepIn K (.ref (He.fAd K ("_law_played", none))),
    fun K => He.eqO (PySem.W.nsIn K mainGlobals "_law_expected") (some (some (.ref (He.fAd K ("_law_expected", none))))),
    fun K => PySem.W.keepIn K (.ref (He.fAd K ("_law_expected", none))),
    fun K => He.eqO (PySem.W.nsIn K mainGlobals "law") (some (some (.ref (He.fAd K ("law", none))))),
    fun K => PySem.W.keepIn K (.ref (He.fAd K ("law", none))),
    fun K => He.eqO (PySem.W.nsIn K mainGlobals "CardError") (some (some (.ref (He.ga K "CardError")))),
    fun K => He.eqO (PySem.W.nsIn K mainGlobals "BadLink") (some (some (.ref (He.ga K "BadLink")))),
    fun K => He.eqO (PySem.W.nsIn K mainGlobals "Fault") (some (some (.ref (He.ga K "Fault")))),
    fun K => He.eqO (PySem.W.nsIn K mainGlobals "StepsGone") (some (some (.ref (He.ga K "StepsGone")))),
    fun K => He.eqO (PySem.W.nsIn K mainGlobals "PowerCut") (some (some (.ref (He.ga K "PowerCut")))),
    fun K => He.eqO (PySem.W.nsIn K mainGlobals "Heap") (some (some (.ref (He.ga K "Heap")))),
    fun K => He.eqO (PySem.W.nsIn K mainGlobals "Frame") (some (some (.ref (He.ga K "Frame")))),
    fun K => He.eqO (PySem.W.nsIn K mainGlobals "Machine") (some (some (.ref (He.ga K "Machine")))),
    fun K => He.eqO (PySem.W.nsIn K mainGlobals "Cells") (some (some (.ref (He.ga K "Cells")))),
    fun K => He.eqO (PySem.W.nsIn K mainGlobals "Journal") (some (some (.ref (He.ga K "Journal")))),
    fun K => He.eqO (PySem.W.nsIn K mainGlobals "Draft") (some (some (.ref (He.ga K "Draft")))),
    fun K => He.eqO (PySem.W.nsIn K mainGlobals "World") (some (some (.ref (He.ga K "World")))),
    fun K => PySem.W.excIn K (He.ga K "BadLink") [.type "ValueError", .type "Exception", .type "BaseException", .type "object"] "ValueError.__new__",
    fun K => PySem.W.keepIn K (.ref (He.ga K "BadLink")),
    fun K => decide (PySem.W.subIn K (.ref (He.ga K "BadLink")) (.type "BaseException") = some true)]
def fbX_3 : List (PySem.W.Frag → Bool) := [fun K => decide (PySem.W.typeIn K (.ref (He.ga K "BadLink")) = some (.type "type")),
    fun K => excB K (He.ga K "Fault"),
    fun K => He.eqO (PySem.W.findIn K (.ref (He.ga K "Fault")) "__setattr__") (some (some (.builtin "object.__setattr__"))),
    fun K => decide (PySem.W.subIn K (.ref (He.ga K "Fault")) (.type "BaseException") = some true),
    fun K => decide (PySem.W.typeIn K (.ref (He.ga K "Fault")) = some (.type "type")),
    fun K => PySem.W.keepIn K (.ref (He.ga K "Fault")),
    fun K => He.eqO (PySem.W.findIn K (.ref (He.ga K "Fault")) "__init__") (some (some (.ref (He.fAd K ("Fault", some "__init__"))))),
    fun K => decide (PySem.W.typeIn K (.ref (He.fAd K ("Fault", some "__init__"))) = some (.type "function")),
    fun K => He.eqO (PySem.W.findIn K (.ref (He.ga K "Fault")) "code") (some none),
    fun K => He.eqO (PySem.W.findIn K (.ref (He.ga K "Fault")) "__getattribute__") (some (some (.builtin "BaseException.__getattribute__"))),
    fun K => He.eqO (PySem.W.findIn K (.ref (He.ga K "Fault")) "__getattr__") (some none),
    fun K => decide (PySem.W.subIn K (.ref (He.ga K "Fault")) (.type "BaseException") = some true),
    fun K => PySem.W.hasDictIn K (He.ga K "Fault"),
    fun K => decide (PySem.W.subIn K (.ref (He.ga K "Fault")) (.type "BaseException") = some true),
    fun K => PySem.W.isClsIn K (He.ga K "Fault"),
    fun K => decide (PySem.W.typeIn K (.ref (He.ga K "Fault")) = some (.type "type")),
    fun K => decide (PySem.W.subIn K (.ref (He.ga K "Fault")) (.ref (He.ga K "Fault")) = some true),
    fun K => decide (PySem.W.subIn K (.ref (He.ga K "Fault")) (.type "BaseException") = some true),
    fun K => PySem.W.isClsIn K (He.ga K "Fault"),
    fun K => decide (PySem.W.typeIn K (.ref (He.ga K "Fault")) = some (.type "type")),
    fun K => decide (PySem.W.subIn K (.ref (He.ga K "StepsGone")) (.ref (He.ga K "Fault")) = some false),
    fun K => decide (PySem.W.subIn K (.ref (He.ga K "Fault")) (.type "BaseException") = some true),
    fun K => PySem.W.isClsIn K (He.ga K "Fault"),
    fun K => decide (PySem.W.typeIn K (.ref (He.ga K "Fault")) = some (.type "type")),
    fun K => decide (PySem.W.subIn K (.ref (He.ga K "PowerCut")) (.ref (He.ga K "Fault")) = some false),
    fun K => decide (PySem.W.subIn K (.ref (He.ga K "Fault")) (.type "BaseException") = some true),
    fun K => PySem.W.isClsIn K (He.ga K "Fault"),
    fun K => decide (PySem.W.typeIn K (.ref (He.ga K "Fault")) = some (.type "type")),
    fun K => decide (PySem.W.subIn K (.ref (He.ga K "BadLink")) (.ref (He.ga K "Fault")) = some false),
    fun K => PySem.W.excIn K (He.ga K "StepsGone") [.type "ValueError", .type "Exception", .type "BaseException", .type "object"] "ValueError.__new__"]
def fbX_4 : List (PySem.W.Frag → Bool) := [fun K => PySem.W.keepIn K (.ref (He.ga K "StepsGone")),
    fun K => decide (PySem.W.subIn K (.ref (He.ga K "StepsGone")) (.type "BaseException") = some true),
    fun K => decide (PySem.W.typeIn K (.ref (He.ga K "StepsGone")) = some (.type "type")),
    fun K => decide (PySem.W.subIn K (.ref (He.ga K "StepsGone")) (.type "BaseException") = some true),
    fun K => PySem.W.isClsIn K (He.ga K "StepsGone"),
    fun K => decide (PySem.W.typeIn K (.ref (He.ga K "StepsGone")) = some (.type "type")),
    fun K => decide (PySem.W.subIn K (.ref (He.ga K "Fault")) (.ref (He.ga K "StepsGone")) = some false),
    fun K => decide (PySem.W.subIn K (.ref (He.ga K "StepsGone")) (.type "BaseException") = some true),
    fun K => PySem.W.isClsIn K (He.ga K "StepsGone"),
    fun K => decide (PySem.W.typeIn K (.ref (He.ga K "StepsGone")) = some (.type "type")),
    fun K => decide (PySem.W.subIn K (.ref (He.ga K "StepsGone")) (.ref (He.ga K "StepsGone")) = some true),
    fun K => decide (PySem.W.subIn K (.ref (He.ga K "StepsGone")) (.type "BaseException") = some true),
    fun K => PySem.W.isClsIn K (He.ga K "StepsGone"),
    fun K => decide (PySem.W.typeIn K (.ref (He.ga K "StepsGone")) = some (.type "type")),
    fun K => decide (PySem.W.subIn K (.ref (He.ga K "PowerCut")) (.ref (He.ga K "StepsGone")) = some false),
    fun K => decide (PySem.W.subIn K (.ref (He.ga K "StepsGone")) (.type "BaseException") = some true),
    fun K => PySem.W.isClsIn K (He.ga K "StepsGone"),
    fun K => decide (PySem.W.typeIn K (.ref (He.ga K "StepsGone")) = some (.type "type")),
    fun K => decide (PySem.W.subIn K (.ref (He.ga K "BadLink")) (.ref (He.ga K "StepsGone")) = some false),
    fun K => PySem.W.excIn K (He.ga K "PowerCut") [.type "ValueError", .type "Exception", .type "BaseException", .type "object"] "ValueError.__new__",
    fun K => PySem.W.keepIn K (.ref (He.ga K "PowerCut")),
    fun K => decide (PySem.W.subIn K (.ref (He.ga K "PowerCut")) (.type "BaseException") = some true),
    fun K => decide (PySem.W.typeIn K (.ref (He.ga K "PowerCut")) = some (.type "type")),
    fun K => PySem.W.plainGet K (He.ga K "Heap") Str.empty,
    fun K => PySem.W.hasDictIn K (He.ga K "Heap"),
    fun K => PySem.W.plainOver K (He.ga K "Heap"),
    fun K => He.eqO (PySem.W.findIn K (.ref (He.ga K "Heap")) "__setattr__") (some (some (.builtin "object.__setattr__"))),
    fun K => PySem.W.makesIn K (He.ga K "Heap"),
    fun K => He.eqO (PySem.W.findIn K (.ref (He.ga K "Heap")) "__init__") (some (some (.ref (He.fAd K ("Heap", some "__init__"))))),
    fun K => PySem.W.isFn K (.ref (He.fAd K ("Heap", some "__init__")))]
def fbX_5 : List (PySem.W.Frag → Bool) := [fun K => PySem.W.keepIn K (.ref (He.ga K "Heap")),
    fun K => He.eqO (PySem.W.findIn K (.ref (He.ga K "Heap")) "numbers") (some (some (.ref (He.fAd K ("Heap", some "numbers"))))),
    fun K => PySem.W.isFn K (.ref (He.fAd K ("Heap", some "numbers"))),
    fun K => PySem.W.keepIn K (.ref (He.fAd K ("Heap", some "numbers"))),
    fun K => He.eqO (PySem.W.findIn K (.ref (He.ga K "Heap")) "used") (some (some (.ref (He.fAd K ("Heap", some "used"))))),
    fun K => PySem.W.isFn K (.ref (He.fAd K ("Heap", some "used"))),
    fun K => PySem.W.keepIn K (.ref (He.fAd K ("Heap", some "used"))),
    fun K => He.eqO (PySem.W.findIn K (.ref (He.ga K "Heap")) "kind") (some (some (.ref (He.fAd K ("Heap", some "kind"))))),
    fun K => PySem.W.isFn K (.ref (He.fAd K ("Heap", some "kind"))),
    fun K => PySem.W.keepIn K (.ref (He.fAd K ("Heap", some "kind"))),
    fun K => He.eqO (PySem.W.findIn K (.ref (He.ga K "Heap")) "owner") (some (some (.ref (He.fAd K ("Heap", some "owner"))))),
    fun K => PySem.W.isFn K (.ref (He.fAd K ("Heap", some "owner"))),
    fun K => PySem.W.keepIn K (.ref (He.fAd K ("Heap", some "owner"))),
    fun K => He.eqO (PySem.W.findIn K (.ref (He.ga K "Heap")) "size") (some (some (.ref (He.fAd K ("Heap", some "size"))))),
    fun K => PySem.W.isFn K (.ref (He.fAd K ("Heap", some "size"))),
    fun K => PySem.W.keepIn K (.ref (He.fAd K ("Heap", some "size"))),
    fun K => He.eqO (PySem.W.findIn K (.ref (He.ga K "Heap")) "make") (some (some (.ref (He.fAd K ("Heap", some "make"))))),
    fun K => PySem.W.isFn K (.ref (He.fAd K ("Heap", some "make"))),
    fun K => PySem.W.keepIn K (.ref (He.fAd K ("Heap", some "make"))),
    fun K => He.eqO (PySem.W.findIn K (.ref (He.ga K "Heap")) "_half") (some (some (.ref (He.fAd K ("Heap", some "_half"))))),
    fun K => PySem.W.isFn K (.ref (He.fAd K ("Heap", some "_half"))),
    fun K => PySem.W.keepIn K (.ref (He.fAd K ("Heap", some "_half"))),
    fun K => He.eqO (PySem.W.findIn K (.ref (He.ga K "Heap")) "_table") (some (some (.ref (He.fAd K ("Heap", some "_table"))))),
    fun K => PySem.W.isFn K (.ref (He.fAd K ("Heap", some "_table"))),
    fun K => PySem.W.keepIn K (.ref (He.fAd K ("Heap", some "_table"))),
    fun K => He.eqO (PySem.W.findIn K (.ref (He.ga K "Heap")) "_room") (some (some (.ref (He.fAd K ("Heap", some "_room"))))),
    fun K => PySem.W.isFn K (.ref (He.fAd K ("Heap", some "_room"))),
    fun K => PySem.W.keepIn K (.ref (He.fAd K ("Heap", some "_room"))),
    fun K => He.eqO (PySem.W.findIn K (.ref (He.ga K "Heap")) "_place") (some (some (.ref (He.fAd K ("Heap", some "_place"))))),
    fun K => PySem.W.isFn K (.ref (He.fAd K ("Heap", some "_place")))]
def fbX_6 : List (PySem.W.Frag → Bool) := [fun K => PySem.W.keepIn K (.ref (He.fAd K ("Heap", some "_place"))),
    fun K => He.eqO (PySem.W.findIn K (.ref (He.ga K "Heap")) "_cells") (some none),
    fun K => He.eqO (PySem.W.findIn K (.ref (He.ga K "Heap")) "_journal") (some none),
    fun K => He.eqO (PySem.W.findIn K (.ref (He.ga K "Heap")) "_start") (some none),
    fun K => He.eqO (PySem.W.findIn K (.ref (He.ga K "Heap")) "_temps") (some none),
    fun K => PySem.W.plainGet K (He.ga K "Frame") Str.empty,
    fun K => PySem.W.hasDictIn K (He.ga K "Frame"),
    fun K => PySem.W.plainOver K (He.ga K "Frame"),
    fun K => He.eqO (PySem.W.findIn K (.ref (He.ga K "Frame")) "__setattr__") (some (some (.builtin "object.__setattr__"))),
    fun K => PySem.W.makesIn K (He.ga K "Frame"),
    fun K => He.eqO (PySem.W.findIn K (.ref (He.ga K "Frame")) "__init__") (some (some (.ref (He.fAd K ("Frame", some "__init__"))))),
    fun K => PySem.W.isFn K (.ref (He.fAd K ("Frame", some "__init__"))),
    fun K => PySem.W.keepIn K (.ref (He.ga K "Frame")),
    fun K => He.eqO (PySem.W.findIn K (.ref (He.ga K "Frame")) "package") (some none),
    fun K => He.eqO (PySem.W.findIn K (.ref (He.ga K "Frame")) "number") (some none),
    fun K => He.eqO (PySem.W.findIn K (.ref (He.ga K "Frame")) "code") (some none),
    fun K => He.eqO (PySem.W.findIn K (.ref (He.ga K "Frame")) "handlers") (some none),
    fun K => He.eqO (PySem.W.findIn K (.ref (He.ga K "Frame")) "slots") (some none),
    fun K => He.eqO (PySem.W.findIn K (.ref (He.ga K "Frame")) "owner") (some none),
    fun K => He.eqO (PySem.W.findIn K (.ref (He.ga K "Frame")) "place") (some none),
    fun K => He.eqO (PySem.W.findIn K (.ref (He.ga K "Frame")) "stack") (some none),
    fun K => PySem.W.plainGet K (He.ga K "Machine") Str.empty,
    fun K => PySem.W.hasDictIn K (He.ga K "Machine"),
    fun K => PySem.W.plainOver K (He.ga K "Machine"),
    fun K => He.eqO (PySem.W.findIn K (.ref (He.ga K "Machine")) "__setattr__") (some (some (.builtin "object.__setattr__"))),
    fun K => PySem.W.makesIn K (He.ga K "Machine"),
    fun K => He.eqO (PySem.W.findIn K (.ref (He.ga K "Machine")) "__init__") (some (some (.ref (He.fAd K ("Machine", some "__init__"))))),
    fun K => PySem.W.isFn K (.ref (He.fAd K ("Machine", some "__init__"))),
    fun K => PySem.W.keepIn K (.ref (He.ga K "Machine")),
    fun K => He.eqO (PySem.W.findIn K (.ref (He.ga K "Machine")) "run") (some (some (.ref (He.fAd K ("Machine", some "run")))))]
def fbX_7 : List (PySem.W.Frag → Bool) := [fun K => PySem.W.isFn K (.ref (He.fAd K ("Machine", some "run"))),
    fun K => PySem.W.keepIn K (.ref (He.fAd K ("Machine", some "run"))),
    fun K => He.eqO (PySem.W.findIn K (.ref (He.ga K "Machine")) "_enter") (some (some (.ref (He.fAd K ("Machine", some "_enter"))))),
    fun K => PySem.W.isFn K (.ref (He.fAd K ("Machine", some "_enter"))),
    fun K => PySem.W.keepIn K (.ref (He.fAd K ("Machine", some "_enter"))),
    fun K => He.eqO (PySem.W.findIn K (.ref (He.ga K "Machine")) "_leave") (some (some (.ref (He.fAd K ("Machine", some "_leave"))))),
    fun K => PySem.W.isFn K (.ref (He.fAd K ("Machine", some "_leave"))),
    fun K => PySem.W.keepIn K (.ref (He.fAd K ("Machine", some "_leave"))),
    fun K => He.eqO (PySem.W.findIn K (.ref (He.ga K "Machine")) "_caught") (some (some (.ref (He.fAd K ("Machine", some "_caught"))))),
    fun K => PySem.W.isFn K (.ref (He.fAd K ("Machine", some "_caught"))),
    fun K => PySem.W.keepIn K (.ref (He.fAd K ("Machine", some "_caught"))),
    fun K => He.eqO (PySem.W.findIn K (.ref (He.ga K "Machine")) "_step") (some (some (.ref (He.fAd K ("Machine", some "_step"))))),
    fun K => PySem.W.isFn K (.ref (He.fAd K ("Machine", some "_step"))),
    fun K => PySem.W.keepIn K (.ref (He.fAd K ("Machine", some "_step"))),
    fun K => He.eqO (PySem.W.findIn K (.ref (He.ga K "Machine")) "_perform") (some (some (.ref (He.fAd K ("Machine", some "_perform"))))),
    fun K => PySem.W.isFn K (.ref (He.fAd K ("Machine", some "_perform"))),
    fun K => PySem.W.keepIn K (.ref (He.fAd K ("Machine", some "_perform"))),
    fun K => He.eqO (PySem.W.findIn K (.ref (He.ga K "Machine")) "_jump") (some (some (.ref (He.fAd K ("Machine", some "_jump"))))),
    fun K => PySem.W.isFn K (.ref (He.fAd K ("Machine", some "_jump"))),
    fun K => PySem.W.keepIn K (.ref (He.fAd K ("Machine", some "_jump"))),
    fun K => He.eqO (PySem.W.findIn K (.ref (He.ga K "Machine")) "_call") (some (some (.ref (He.fAd K ("Machine", some "_call"))))),
    fun K => PySem.W.isFn K (.ref (He.fAd K ("Machine", some "_call"))),
    fun K => PySem.W.keepIn K (.ref (He.fAd K ("Machine", some "_call"))),
    fun K => He.eqO (PySem.W.findIn K (.ref (He.ga K "Machine")) "_work") (some (some (.ref (He.fAd K ("Machine", some "_work"))))),
    fun K => PySem.W.isFn K (.ref (He.fAd K ("Machine", some "_work"))),
    fun K => PySem.W.keepIn K (.ref (He.fAd K ("Machine", some "_work"))),
    fun K => He.eqO (PySem.W.findIn K (.ref (He.ga K "Machine")) "_reckon") (some (some (.ref (He.fAd K ("Machine", some "_reckon"))))),
    fun K => PySem.W.isFn K (.ref (He.fAd K ("Machine", some "_reckon"))),
    fun K => PySem.W.keepIn K (.ref (He.fAd K ("Machine", some "_reckon"))),
    fun K => He.eqO (PySem.W.findIn K (.ref (He.ga K "Machine")) "_world") (some none)]
def fbX_8 : List (PySem.W.Frag → Bool) := [fun K => He.eqO (PySem.W.findIn K (.ref (He.ga K "Machine")) "_heap") (some none),
    fun K => He.eqO (PySem.W.findIn K (.ref (He.ga K "Machine")) "_journal") (some none),
    fun K => He.eqO (PySem.W.findIn K (.ref (He.ga K "Machine")) "_seek") (some none),
    fun K => He.eqO (PySem.W.findIn K (.ref (He.ga K "Machine")) "_needless") (some none),
    fun K => He.eqO (PySem.W.findIn K (.ref (He.ga K "Machine")) "_frames") (some none),
    fun K => He.eqO (PySem.W.findIn K (.ref (He.ga K "Machine")) "_steps") (some none),
    fun K => He.eqO (PySem.W.findIn K (.ref (He.ga K "Machine")) "_looks") (some none),
    fun K => He.eqO (PySem.W.findIn K (.ref (He.ga K "Machine")) "_result") (some none),
    fun K => PySem.W.plainGet K (He.ga K "Cells") Str.empty,
    fun K => PySem.W.hasDictIn K (He.ga K "Cells"),
    fun K => PySem.W.plainOver K (He.ga K "Cells"),
    fun K => He.eqO (PySem.W.findIn K (.ref (He.ga K "Cells")) "__setattr__") (some (some (.builtin "object.__setattr__"))),
    fun K => PySem.W.makesIn K (He.ga K "Cells"),
    fun K => He.eqO (PySem.W.findIn K (.ref (He.ga K "Cells")) "__init__") (some (some (.ref (He.fAd K ("Cells", some "__init__"))))),
    fun K => PySem.W.isFn K (.ref (He.fAd K ("Cells", some "__init__"))),
    fun K => PySem.W.keepIn K (.ref (He.ga K "Cells")),
    fun K => He.eqO (PySem.W.findIn K (.ref (He.ga K "Cells")) "read") (some (some (.ref (He.fAd K ("Cells", some "read"))))),
    fun K => PySem.W.isFn K (.ref (He.fAd K ("Cells", some "read"))),
    fun K => PySem.W.keepIn K (.ref (He.fAd K ("Cells", some "read"))),
    fun K => He.eqO (PySem.W.findIn K (.ref (He.ga K "Cells")) "write") (some (some (.ref (He.fAd K ("Cells", some "write"))))),
    fun K => PySem.W.isFn K (.ref (He.fAd K ("Cells", some "write"))),
    fun K => PySem.W.keepIn K (.ref (He.fAd K ("Cells", some "write"))),
    fun K => He.eqO (PySem.W.findIn K (.ref (He.ga K "Cells")) "_words") (some none),
    fun K => He.eqO (PySem.W.findIn K (.ref (He.ga K "Cells")) "_left") (some none),
    fun K => He.eqO (PySem.W.findIn K (.ref (He.ga K "Cells")) "_on") (some none),
    fun K => PySem.W.plainGet K (He.ga K "Journal") Str.empty,
    fun K => PySem.W.hasDictIn K (He.ga K "Journal"),
    fun K => PySem.W.plainOver K (He.ga K "Journal"),
    fun K => He.eqO (PySem.W.findIn K (.ref (He.ga K "Journal")) "__setattr__") (some (some (.builtin "object.__setattr__"))),
    fun K => PySem.W.makesIn K (He.ga K "Journal")]
def fbX_9 : List (PySem.W.Frag → Bool) := [fun K => He.eqO (PySem.W.findIn K (.ref (He.ga K "Journal")) "__init__") (some (some (.ref (He.fAd K ("Journal", some "__init__"))))),
    fun K => PySem.W.isFn K (.ref (He.fAd K ("Journal", some "__init__"))),
    fun K => PySem.W.keepIn K (.ref (He.ga K "Journal")),
    fun K => He.eqO (PySem.W.findIn K (.ref (He.ga K "Journal")) "_cells") (some none),
    fun K => He.eqO (PySem.W.findIn K (.ref (He.ga K "Journal")) "_start") (some none),
    fun K => He.eqO (PySem.W.findIn K (.ref (He.ga K "Journal")) "_open") (some none),
    fun K => PySem.W.plainGet K (He.ga K "Draft") Str.empty,
    fun K => PySem.W.hasDictIn K (He.ga K "Draft"),
    fun K => PySem.W.plainOver K (He.ga K "Draft"),
    fun K => He.eqO (PySem.W.findIn K (.ref (He.ga K "Draft")) "__setattr__") (some (some (.builtin "object.__setattr__"))),
    fun K => PySem.W.makesIn K (He.ga K "Draft"),
    fun K => He.eqO (PySem.W.findIn K (.ref (He.ga K "Draft")) "__init__") (some (some (.ref (He.fAd K ("Draft", some "__init__"))))),
    fun K => PySem.W.isFn K (.ref (He.fAd K ("Draft", some "__init__"))),
    fun K => PySem.W.keepIn K (.ref (He.ga K "Draft")),
    fun K => He.eqO (PySem.W.findIn K (.ref (He.ga K "Draft")) "check") (some (some (.ref (He.fAd K ("Draft", some "check"))))),
    fun K => PySem.W.isFn K (.ref (He.fAd K ("Draft", some "check"))),
    fun K => PySem.W.keepIn K (.ref (He.fAd K ("Draft", some "check"))),
    fun K => He.eqO (PySem.W.findIn K (.ref (He.ga K "Draft")) "_face") (some (some (.ref (He.fAd K ("Draft", some "_face"))))),
    fun K => PySem.W.isFn K (.ref (He.fAd K ("Draft", some "_face"))),
    fun K => PySem.W.keepIn K (.ref (He.fAd K ("Draft", some "_face"))),
    fun K => He.eqO (PySem.W.findIn K (.ref (He.ga K "Draft")) "_check_kinds") (some (some (.ref (He.fAd K ("Draft", some "_check_kinds"))))),
    fun K => PySem.W.isFn K (.ref (He.fAd K ("Draft", some "_check_kinds"))),
    fun K => PySem.W.keepIn K (.ref (He.fAd K ("Draft", some "_check_kinds"))),
    fun K => He.eqO (PySem.W.findIn K (.ref (He.ga K "Draft")) "_check_heads") (some (some (.ref (He.fAd K ("Draft", some "_check_heads"))))),
    fun K => PySem.W.isFn K (.ref (He.fAd K ("Draft", some "_check_heads"))),
    fun K => PySem.W.keepIn K (.ref (He.fAd K ("Draft", some "_check_heads"))),
    fun K => He.eqO (PySem.W.findIn K (.ref (He.ga K "Draft")) "_check_faces") (some (some (.ref (He.fAd K ("Draft", some "_check_faces"))))),
    fun K => PySem.W.isFn K (.ref (He.fAd K ("Draft", some "_check_faces"))),
    fun K => PySem.W.keepIn K (.ref (He.fAd K ("Draft", some "_check_faces"))),
    fun K => He.eqO (PySem.W.findIn K (.ref (He.ga K "Draft")) "_world") (some none)]
def fbX_10 : List (PySem.W.Frag → Bool) := [fun K => He.eqO (PySem.W.findIn K (.ref (He.ga K "Draft")) "_module") (some none),
    fun K => PySem.W.plainGet K (He.ga K "World") Str.empty,
    fun K => PySem.W.hasDictIn K (He.ga K "World"),
    fun K => PySem.W.plainOver K (He.ga K "World"),
    fun K => He.eqO (PySem.W.findIn K (.ref (He.ga K "World")) "__setattr__") (some (some (.builtin "object.__setattr__"))),
    fun K => PySem.W.makesIn K (He.ga K "World"),
    fun K => He.eqO (PySem.W.findIn K (.ref (He.ga K "World")) "__init__") (some (some (.ref (He.fAd K ("World", some "__init__"))))),
    fun K => PySem.W.isFn K (.ref (He.fAd K ("World", some "__init__"))),
    fun K => PySem.W.keepIn K (.ref (He.ga K "World")),
    fun K => He.eqO (PySem.W.findIn K (.ref (He.ga K "World")) "add") (some (some (.ref (He.fAd K ("World", some "add"))))),
    fun K => PySem.W.isFn K (.ref (He.fAd K ("World", some "add"))),
    fun K => PySem.W.keepIn K (.ref (He.fAd K ("World", some "add"))),
    fun K => He.eqO (PySem.W.findIn K (.ref (He.ga K "World")) "names") (some (some (.ref (He.fAd K ("World", some "names"))))),
    fun K => PySem.W.isFn K (.ref (He.fAd K ("World", some "names"))),
    fun K => PySem.W.keepIn K (.ref (He.fAd K ("World", some "names"))),
    fun K => He.eqO (PySem.W.findIn K (.ref (He.ga K "World")) "module") (some (some (.ref (He.fAd K ("World", some "module"))))),
    fun K => PySem.W.isFn K (.ref (He.fAd K ("World", some "module"))),
    fun K => PySem.W.keepIn K (.ref (He.fAd K ("World", some "module"))),
    fun K => He.eqO (PySem.W.findIn K (.ref (He.ga K "World")) "face") (some (some (.ref (He.fAd K ("World", some "face"))))),
    fun K => PySem.W.isFn K (.ref (He.fAd K ("World", some "face"))),
    fun K => PySem.W.keepIn K (.ref (He.fAd K ("World", some "face"))),
    fun K => He.eqO (PySem.W.findIn K (.ref (He.ga K "World")) "package") (some (some (.ref (He.fAd K ("World", some "package"))))),
    fun K => PySem.W.isFn K (.ref (He.fAd K ("World", some "package"))),
    fun K => PySem.W.keepIn K (.ref (He.fAd K ("World", some "package"))),
    fun K => He.eqO (PySem.W.findIn K (.ref (He.ga K "World")) "own") (some (some (.ref (He.fAd K ("World", some "own"))))),
    fun K => PySem.W.isFn K (.ref (He.fAd K ("World", some "own"))),
    fun K => PySem.W.keepIn K (.ref (He.fAd K ("World", some "own"))),
    fun K => He.eqO (PySem.W.findIn K (.ref (He.ga K "World")) "method") (some (some (.ref (He.fAd K ("World", some "method"))))),
    fun K => PySem.W.isFn K (.ref (He.fAd K ("World", some "method"))),
    fun K => PySem.W.keepIn K (.ref (He.fAd K ("World", some "method")))]
def fbX_11 : List (PySem.W.Frag → Bool) := [fun K => He.eqO (PySem.W.findIn K (.ref (He.ga K "World")) "_row") (some (some (.ref (He.fAd K ("World", some "_row"))))),
    fun K => PySem.W.isFn K (.ref (He.fAd K ("World", some "_row"))),
    fun K => PySem.W.keepIn K (.ref (He.fAd K ("World", some "_row"))),
    fun K => He.eqO (PySem.W.findIn K (.ref (He.ga K "World")) "_modules") (some none),
    fun K => He.eqO (PySem.W.findIn K (.ref (He.ga K "World")) "_classes") (some none),
    fun K => He.eqO (PySem.W.nsIn K mainGlobals "abs") (some none),
    fun K => He.eqO (PySem.W.nsIn K mainGlobals "enumerate") (some none),
    fun K => He.eqO (PySem.W.nsIn K mainGlobals "int") (some none),
    fun K => He.eqO (PySem.W.nsIn K mainGlobals "len") (some none),
    fun K => He.eqO (PySem.W.nsIn K mainGlobals "list") (some none),
    fun K => He.eqO (PySem.W.nsIn K mainGlobals "min") (some none),
    fun K => He.eqO (PySem.W.nsIn K mainGlobals "range") (some none),
    fun K => He.eqO (PySem.W.nsIn K mainGlobals "sum") (some none),
    fun K => He.eqO (PySem.W.nsIn K mainGlobals "tuple") (some none),
    fun K => (He.Fa.int "MOST_BUFFER" (64)).ok K,
    fun K => (He.Fa.int "MOST_CELLS" (400)).ok K,
    fun K => (He.Fa.int "MOST_OBJECTS" (60)).ok K,
    fun K => (He.Fa.int "MOST_DEPTH" (8)).ok K,
    fun K => (He.Fa.int "MOST_STEPS" (1000)).ok K,
    fun K => (He.Fa.int "NULL_limits" (-1)).ok K,
    fun K => (He.Fa.int "DIVIDED" (-3)).ok K,
    fun K => (He.Fa.int "ROOM" (-6)).ok K,
    fun K => (He.Fa.int "DEPTH" (-9)).ok K,
    fun K => (He.Fa.int "TEMP" (-2)).ok K,
    fun K => (He.Fa.int "BUFFER" (61)).ok K,
    fun K => (He.Fa.int "HEAD_CELLS" (3)).ok K,
    fun K => (He.Fa.int "HALF_CELLS" (460)).ok K,
    fun K => (He.Fa.int "LEAST" (-32768)).ok K,
    fun K => He.eqO (PySem.W.nsIn K mainGlobals "INT") (some (some (.ref (He.ga K "INT")))),
    fun K => He.tupB K "INT" [.str "int"]]
def fbX_12 : List (PySem.W.Frag → Bool) := [fun K => He.eqO (PySem.W.nsIn K mainGlobals "NOTHING") (some (some (.ref (He.ga K "NOTHING")))),
    fun K => He.tupB K "NOTHING" [.str "nothing"]]
def fbX : List (PySem.W.Frag → Bool) := fbX_0 ++ (fbX_1 ++ (fbX_2 ++ (fbX_3 ++ (fbX_4 ++ (fbX_5 ++ (fbX_6 ++ (fbX_7 ++ (fbX_8 ++ (fbX_9 ++ (fbX_10 ++ (fbX_11 ++ (fbX_12))))))))))))
def looseX_0 : List (Str) := ["_wall",
    "CardError",
    "BadLink",
    "Fault",
    "StepsGone",
    "PowerCut",
    "MOST_BUFFER",
    "MOST_BYTES",
    "MOST_CELLS",
    "MOST_OBJECTS",
    "MOST_LOG",
    "MOST_DEPTH",
    "MOST_STEPS",
    "NULL_limits",
    "PLACE",
    "DIVIDED",
    "KIND",
    "LOOK",
    "ROOM",
    "SIZE",
    "TRANSACTION",
    "DEPTH",
    "BYTES_heap",
    "TEMP",
    "BUFFER",
    "HEAD_CELLS",
    "HALF_CELLS",
    "Heap",
    "LEAST",
    "wrap"]
def looseX_1 : List (Str) := ["divided",
    "arithmetic",
    "compared",
    "op",
    "Frame",
    "Machine",
    "Cells",
    "Journal",
    "INT",
    "BYTES_linking",
    "NOTHING",
    "NULL_linking",
    "must",
    "is_class",
    "is_face",
    "ancestors_of",
    "faces_of",
    "row_of",
    "Draft",
    "World",
    "_law_cell",
    "_law_code",
    "_law_seek",
    "_law_played",
    "_law_expected"]
def looseX : List (Str) := looseX_0 ++ (looseX_1)
def adX : List Addr := mainGlobals :: (List.range 840).reverse
abbrev AlX : Type := Bool × List He.FnV
def obX (K : PySem.W.Frag) : AlX := ((fbX.all fun f => f K) && fnX.all fun d => (He.Fa.code d.at_ d.qual).ok K, fnX.map fun d => He.fnObs K d.at_)
def valX : AlX := (true, fnX.map He.FnD.val)
structure SaysX (K : PySem.W.Frag) : Prop where
  eq : obX K = valX
theorem SaysX.fact {K : PySem.W.Frag} (c : SaysX K) (i : Nat) {f : PySem.W.Frag → Bool} (h : fbX[i]? = some f) : f K = true := by
  have c1 := (He.ba (show ((fbX.all fun f => f K) && fnX.all fun d => (He.Fa.code d.at_ d.qual).ok K) = true from congrArg (fun z : AlX => z.1) c.eq)).1
  exact List.all_eq_true.mp c1 f (List.mem_of_getElem? h)
theorem SaysX.def_ {K : PySem.W.Frag} (c : SaysX K) (i : Nat) {d : He.FnD} (h : fnX[i]? = some d) :
    ∃ oc od osl kV doc pm an cdv ct, K.lookup (He.fAd K d.at_) = some ⟨oc, od, .func (PySem.W.fnOf d.name d.qual d.params d.body d.scope .none kV doc pm an cdv ct), osl⟩ ∧ PySem.W.codeIn K cdv d.qual = true := by
  have c2 := (He.ba (show ((fbX.all fun f => f K) && fnX.all fun d => (He.Fa.code d.at_ d.qual).ok K) = true from congrArg (fun z : AlX => z.1) c.eq)).2
  have e : fnX.map (fun d => He.fnObs K d.at_) = fnX.map He.FnD.val := congrArg (fun z : AlX => z.2) c.eq
  have e2 : (fnX.map fun d => He.fnObs K d.at_)[i]? = (fnX.map He.FnD.val)[i]? := by rw [e]
  rw [List.getElem?_map, List.getElem?_map, h] at e2
  exact He.fn_ok (Option.some.inj e2) (List.all_eq_true.mp c2 d (List.mem_of_getElem? h))
def hookX : PySem.W.Hook where
  α := AlX
  obs := fun s => obX (He.frG s.heap.get? adX)
  val := fun _ => valX
  says := fun _ h => ∃ K : PySem.W.Frag, K.In h ∧ SaysX K
  of := fun _ _ e => ⟨_, He.frG_in, ⟨e⟩⟩
  keeps := fun _ _ _ ⟨K, hK, c⟩ k => ⟨K, PySem.W.Frag.In.keeps hK k, c⟩
def obS (s : PySem.W.SharedT) : AlX := obX (He.frG (HandSHeadRun.getT s) adX)
theorem obS_eq (s : PySem.W.SharedT) : obS s = hookX.obs s.abs := by
  have e : HandSHeadRun.getT s = s.abs.heap.get? := funext (HandSHeadRun.getT_eq s)
  unfold obS
  rw [e] <;> rfl
abbrev RX : PySem.W.OpenRow := PySem.W.OpenLaw.row PySem.Challenge.rw_warycard_k80_steps_and_depth
theorem runX (w : World) : HandSHeadRun.RunEq RX (PySem.W.view RX.prog [63]) hookX obS 6200 looseX w := by
  intro os
  kernel_rfl
theorem int_x {K : PySem.W.Frag} {x : Str} {i : Int} (c : (He.Fa.int x i).ok K = true) : ∃ t, PySem.W.nsIn K mainGlobals x = some (some (.int i t)) := by
  have c : (match PySem.W.nsIn K mainGlobals x with | some (some (.int j _)) => decide (j = i) | _ => false) = true := c
  split at c
  · rename_i j t e
    exact ⟨t, by rw [e, of_decide_eq_true c]⟩
  · cases c
theorem str_x {K : PySem.W.Frag} {x z : Str} (c : (He.Fa.str x z).ok K = true) : ∃ t, PySem.W.nsIn K mainGlobals x = some (some (.str z t)) := by
  have c : (match PySem.W.nsIn K mainGlobals x with | some (some (.str y _)) => decide (y = z) | _ => false) = true := c
  split at c
  · rename_i j t e
    exact ⟨t, by rw [e, of_decide_eq_true c]⟩
  · cases c
theorem tup_x {K : PySem.W.Frag} {x : Str} {vs : List He.Dv} (h : He.tupB K x vs = true) : ∃ od n osl us, K.lookup (He.ga K x) = some ⟨.type "tuple", od, .seq us.toArray n, osl⟩ ∧ Vals (vs.map (He.Dv.v K)) us := by
  have h : (match K.lookup (He.ga K x) with | some ⟨.type c, _, .seq its _, _⟩ => decide (c = "tuple") && (decide (its.size ≤ sizeLine) && He.relAll (vs.map (He.Dv.v K)) its.toList) | _ => false) = true := h
  split at h
  · rename_i c od its n osl e
    obtain ⟨h1, h2⟩ := He.ba h
    obtain ⟨_, h3⟩ := He.ba h2
    refine ⟨od, n, osl, its.toList, ?_, He.relAll_ok h3⟩
    rw [e, of_decide_eq_true h1]
  · cases h
theorem exc_x {K : PySem.W.Frag} {C : Addr} (h : excB K C = true) : ∃ (em0 em1 : Str) (em2 : Addr) (em3 em4 : List Value) (em5 : List Str) (em6 : List Value) (em7 : Bool) (em8 : Option Bool) (em9 : Option Addr) (em10 em11 em12 em13 em14 : Option Value), K.lookup C = some (excClassObj em0 em1 C em2 em3 em4 true em5 em6 em7 em8 em9 em10 em11 em12 em13 em14 "ValueError.__new__") ∧ PySem.HandSPX.refsVE em4 = true := by
  unfold excB at h
  split at h
  · rename_i t dd cd sl e
    obtain ⟨h1, h⟩ := He.ba h
    obtain ⟨h2, h3⟩ := He.ba h
    obtain ⟨a1, a2, a3, a4, a5, a6, a7, a8, a9, a10, a11⟩ := cd
    split at h2
    · rename_i D bm em
      have em : a3 = .ref D :: bm := em
      obtain ⟨k1, h2⟩ := He.ba h2
      obtain ⟨k2, h2⟩ := He.ba h2
      obtain ⟨k3, k4⟩ := He.ba h2
      split at h3
      · rename_i s0 s1 s2 s3 b s5 es
        have e1 : D = C := of_decide_eq_true k1
        have e2 : a6 = true := k2
        have e3 : a11 = false := by simpa using k3
        have e4 := of_decide_eq_true h3
        have e5 : sl = #[s0, s1, s2, s3, some (.builtin b), s5] := by
          rw [← Array.toList_inj, es]
        have e6 := of_decide_eq_true h1
        subst e1 e2 e3 e4 e5 e6 em
        exact ⟨_, _, _, _, _, _, _, _, _, _, _, _, _, _, _, e, k4⟩
      · cases h3
    · cases h2
  · cases h
section
variable {P : Program} {w : World} {K : PySem.W.Frag} {mg : Str → Option Value} {base : Heap}

/-! ### cells.py -/
def cf (l : Addr) (lv : V) (b : Bool) : List (Str × V) := [("_words", .ref l), ("_left", lv), ("_on", .bl b)]
structure CS where
  words : List Int
  left : Option Int
  on : Bool
def lfV : Option Int → V
  | none => .non
  | some i => .int i
/-- a Cells object stands at a, its words at l -/
structure CellsAt (C : Addr) (H : Hp) (a l : Addr) (S : CS) : Prop where
  ob : ∃ dx, H a = some (.ins C dx (cf l (lfV S.left) S.on))
  ws : H l = some (.lst (S.words.map V.int))
  sz : S.words.length ≤ 2000
theorem CellsAt.ne {C : Addr} {H : Hp} {a l : Addr} {S : CS} (c : CellsAt C H a l S) : a ≠ l := by
  obtain ⟨dx, h⟩ := c.ob
  exact ne_of h c.ws (by intro z; cases z)
theorem CellsAt.keep {C : Addr} {H H' : Hp} {a l : Addr} {S : CS} {X : List Addr} (c : CellsAt C H a l S) (k : Kp X H H') (h1 : a ∉ X) (h2 : l ∉ X) : CellsAt C H' a l S := by
  obtain ⟨dx, h⟩ := c.ob
  exact ⟨⟨dx, k a _ h1 h⟩, k l _ h2 c.ws, c.sz⟩
def sp_Cells_init {K : PySem.W.Frag} {mg : Str → Option Value} (T : Txt K mg) : Sp := fun vs H Q _ => ∃ (x dx : Addr) (n : Nat), vs = [.ref x, .int n] ∧ H x = some (.ins T.c_Cells dx []) ∧ n ≤ 2000 ∧
  ∀ H' l, CellsAt T.c_Cells H' x l ⟨List.replicate n 0, none, true⟩ → H l = none → Kp [x] H H' → Q .non H'
theorem ok_Cells_init (T : Txt K mg) : FnOk P w K mg base CX0 1 T.f_Cells_init T.d_Cells_init ["self", "count"] (sp_Cells_init T) := by
  refine T.k_Cells_init.ok sc_Cells_init (fun vs H Q E h => ?_) (fun cdv A outer s H vs Q E hr h => ?_)
  · obtain ⟨x, dx, n, rfl, _⟩ := h
    rfl
  · obtain ⟨x, dx, n, rfl, hx, hn, q⟩ := h
    refine ⟨_, (pss_cons (ps_fldK K (pv 0) (pe_op op_rep (pe_lst (pa_cons pe_int pa_nil)) (pv 1)) rfl)
      (pss_cons (ps_fldK K (pv 0) pe_non rfl)
      (pss_one (ps_fldK K (pv 0) pe_bl rfl)))), ?_⟩
    walk_at "rd"
    refine rdSeq ?_
    walk_at "rd"
    intro p hp
    have xp : x ≠ p := ne_of_none hx hp
    refine i_rep upd_same (by omega) (by omega) (by show 1 * _ ≤ _; rw [sizeLine_eq]; omega) fun l hl => ?_
    have xl : x ≠ l := ne_of_none (same_new hp _ _ hx) hl
    have hx2 : upd (upd H p (.lst [.int 0])) l (.lst (List.replicate ((n : Int)).toNat [V.int 0]).flatten) x = some (.ins T.c_Cells dx []) := same_new hl _ _ (same_new hp _ _ hx)
    refine i_fldS T.cl_Cells T.nf_Cells_words hx2 (by decide) (rdSeq ?_)
    walk_at "rd"
    refine i_fldS T.cl_Cells T.nf_Cells_left upd_same (by show 1 < 1000; decide) ?_
    refine i_fldS T.cl_Cells T.nf_Cells_on upd_same (by show 2 < 1000; decide) ?_
    rw [upd_upd, upd_upd]
    refine q _ l ⟨⟨dx, by rw [upd_same]; rfl⟩, ?_, by show (List.replicate n (0 : Int)).length ≤ 2000; rw [List.length_replicate]; exact hn⟩ ?_ ?_
    · rw [upd_ne (Ne.symm xl), upd_same, rep1, List.map_replicate]; rfl
    · exact (same_new hp).free hl
    · intro b o hb e
      rw [upd_ne (by simpa using hb)]
      exact same_new hl _ _ (same_new hp _ _ e)
def sp_Cells_read {K : PySem.W.Frag} {mg : Str → Option Value} (T : Txt K mg) : Sp := fun vs H Q E => ∃ (a l : Addr) (S : CS) (i : Nat), vs = [.ref a, .int i] ∧ CellsAt T.c_Cells H a l S ∧ i < S.words.length ∧
  (S.on = true → Q (.int (S.words.getD i 0)) H) ∧ (S.on = false → E (.ref T.c_PowerCut) none H)
theorem ok_Cells_read (T : Txt K mg) : FnOk P w K mg base (L2.CX P w) 1 T.f_Cells_read T.d_Cells_read ["self", "place"] (sp_Cells_read T) := by
  refine T.k_Cells_read.okX sc_Cells_read (fun vs H Q E h => ?_) (fun cdv A outer s H vs Q E hr h => ?_)
  · obtain ⟨a, l, S, i, rfl, _⟩ := h
    rfl
  · obtain ⟨a, l, S, i, rfl, c, hi, q1, q2⟩ := h
    refine ⟨_, (pss_cons (ps_if (pt_not (pt_val (pe_fldK K (pv 0) rfl))) (pss_one (ps_raise rfl (takes_of rfl rfl rfl rfl) (pmk_own0 PySem.F.excBase_ValueError T.x_PowerCut.x T.g_PowerCut T.x_PowerCut.kp (raises_own T.x_PowerCut.be T.x_PowerCut.ty) (by exact rfl)))) pss_nil)
      (pss_one (ps_ret (pe_ix (ix_listK K) (pe_fldK K (pv 0) rfl) (pv 1) (fun _ _ => rfl))))), ?_⟩
    walk_at "rd"
    refine rdSeq ?_
    walk_at "rd"
    obtain ⟨dx, h⟩ := c.ob
    refine i_fld T.cl_Cells T.nf_Cells_on h rfl ?_
    walk_at "rd"
    cases e : S.on with
    | false => exact q2 e
    | true =>
      refine i_else (by simp) (i_fld T.cl_Cells T.nf_Cells_words h rfl ?_)
      refine i_ixL (sqL_of c.ws) (atI_nat (j := i) (v := .int (S.words.getD i 0)) ?_) (q1 e)
      rw [List.getElem?_map, List.getElem?_eq_getElem hi, List.getD_eq_getElem?_getD, List.getElem?_eq_getElem hi]; rfl
def writeS (S : CS) (i : Nat) (w : Int) : CS × Bool :=
  if S.on = false then (S, false) else if S.left = some 0 then (⟨S.words, S.left, false⟩, false) else (⟨S.words.set i w, S.left.map (· - 1), true⟩, true)
def sp_Cells_write {K : PySem.W.Frag} {mg : Str → Option Value} (T : Txt K mg) : Sp := fun vs H Q E => ∃ (a l : Addr) (S : CS) (i : Nat) (w : Int), vs = [.ref a, .int i, .int w] ∧ CellsAt T.c_Cells H a l S ∧ i < S.words.length ∧
  ∀ H', CellsAt T.c_Cells H' a l (writeS S i w).1 → Kp [a, l] H H' → ((writeS S i w).2 = true → Q .non H') ∧ ((writeS S i w).2 = false → E (.ref T.c_PowerCut) none H')
theorem ok_Cells_write (T : Txt K mg) : FnOk P w K mg base (L2.CX P w) 1 T.f_Cells_write T.d_Cells_write ["self", "place", "word"] (sp_Cells_write T) := by
  refine T.k_Cells_write.okX sc_Cells_write (fun vs H Q E h => ?_) (fun cdv A outer s H vs Q E hr h => ?_)
  · obtain ⟨a, l, S, i, w, rfl, _⟩ := h
    rfl
  · obtain ⟨a, l, S, i, w, rfl, c, hi, q⟩ := h
    refine ⟨_, (pss_cons (ps_if (pt_not (pt_val (pe_fldK K (pv 0) rfl))) (pss_one (ps_raise rfl (takes_of rfl rfl rfl rfl) (pmk_own0 PySem.F.excBase_ValueError T.x_PowerCut.x T.g_PowerCut T.x_PowerCut.kp (raises_own T.x_PowerCut.be T.x_PowerCut.ty) (by exact rfl)))) pss_nil)
      (pss_cons (ps_if (pt_cmpR op_eq (pe_fldK K (pv 0) rfl) pe_int (nomark _)) (pss_cons (ps_fldK K (pv 0) pe_bl rfl)
      (pss_one (ps_raise rfl (takes_of rfl rfl rfl rfl) (pmk_own0 PySem.F.excBase_ValueError T.x_PowerCut.x T.g_PowerCut T.x_PowerCut.kp (raises_own T.x_PowerCut.be T.x_PowerCut.ty) (by exact rfl))))) pss_nil)
      (C8.pss_cut (ps_if (pt_cmpR op_notN (pe_fldK K (pv 0) rfl) pe_non (nomark _)) (pss_one (ps_fldaugK K (pv 0) pe_int in_sub)) pss_nil)
      (pss_one (ps_asg (pv 2) (pg_sub (pe_fldK K (pv 0) rfl) (pv 1) set_list)))))), ?_⟩
    walk_at "rd"
    refine rdSeq ?_
    walk_at "rd"
    obtain ⟨dx, h⟩ := c.ob
    refine i_fld T.cl_Cells T.nf_Cells_on h rfl ?_
    walk_at "rd"
    have hne := c.ne
    cases e : S.on with
    | false =>
      have ew : writeS S i w = (S, false) := by unfold writeS; rw [if_pos e]
      rw [ew] at q
      exact (q H c (Kp.refl _ _)).2 rfl
    | true =>
      refine i_else (by simp) (rdSeq ?_)
      walk_at "rd"
      refine i_fld T.cl_Cells T.nf_Cells_left h rfl ?_
      have fin : ∀ (dx : Addr) (lv : Option Int) (H1 : Hp), S.left ≠ some 0 → lv = S.left.map (· - 1) → Kp [a, l] H H1 → H1 a = some (.ins T.c_Cells dx (cf l (lfV lv) true)) → H1 l = some (.lst (S.words.map V.int)) →
          tAsg (tVar 2) (gSub (tFld K (tVar 0) (Str.ofString "_words")) (tVar 1) rSetL) { nx := fun x H' => Q V.non H', rt := Q } [some (V.ref a), some (V.int (i : Int)), some (V.int w)] H1 := fun dx lv H1 n0 el kp ha hl => by
        walk_at "rd"
        refine i_fld T.cl_Cells T.nf_Cells_words ha rfl ?_
        refine i_setL hl (j := i) (by rw [List.length_map]; unfold ixN; rw [if_pos (by omega), if_pos (by omega)]; simp) ?_
        have ew : writeS S i w = (⟨S.words.set i w, S.left.map (· - 1), true⟩, true) := by unfold writeS; rw [if_neg (by rw [e]; simp), if_neg n0]
        rw [ew] at q
        refine (q _ ⟨⟨dx, ?_⟩, ?_, by show (S.words.set i w).length ≤ 2000; rw [List.length_set]; exact c.sz⟩ (kp.trans (Kp.set (by simp)))).1 rfl
        · rw [upd_ne hne, ha, el]
        · rw [upd_same, List.map_set]
      cases el : S.left with
      | none =>
        rw [el] at h
        simp only [lfV]
        walk_at "rd"
        refine rdCut (fun σ H1 => H1 = H ∧ σ = [some (V.ref a), some (V.int (i : Int)), some (V.int w)]) ?_ ?_
        · walk_at "rd"
          refine i_fld T.cl_Cells T.nf_Cells_left h rfl ?_
          simp only [lfV]
          walk_at "rd"
        · rintro σ H1 ⟨rfl, rfl⟩
          exact fin dx none _ (by rw [el]; simp) (by rw [el]; rfl) (Kp.refl _ _) (by rw [e] at h; exact h) c.ws
      | some z =>
        rw [el] at h
        simp only [lfV]
        walk_at "rd"
        by_cases hz : z = 0
        · subst hz
          refine i_then rfl (rdSeq ?_)
          walk_at "rd"
          refine i_fldS T.cl_Cells T.nf_Cells_on h (by show 3 < 1000; decide) ?_
          have ew : writeS S i w = (⟨S.words, S.left, false⟩, false) := by unfold writeS; rw [if_neg (by rw [e]; simp), if_pos el]
          rw [ew] at q
          exact (q _ ⟨⟨dx, by rw [upd_same, el]; rfl⟩, by rw [upd_ne (Ne.symm hne)]; exact c.ws, c.sz⟩ (Kp.set (by simp))).2 rfl
        · refine i_else hz (rdCut (fun σ H1 => (∃ dx, H1 a = some (.ins T.c_Cells dx (cf l (lfV (some (z - 1))) true))) ∧ H1 l = some (.lst (S.words.map V.int)) ∧ Kp [a, l] H H1 ∧ σ = [some (V.ref a), some (V.int (i : Int)), some (V.int w)]) ?_ ?_)
          · walk_at "rd"
            refine i_fld T.cl_Cells T.nf_Cells_left h rfl ?_
            simp only [lfV]
            walk_at "rd"
            rw [e] at h
            refine i_fldA T.cl_Cells T.nf_Cells_left h rfl ⟨z, 1, rfl, rfl, dx, _, h, by show 3 < 1000; decide, ⟨dx, by rw [upd_same]; rfl⟩, by rw [upd_ne (Ne.symm hne)]; exact c.ws, Kp.set (by simp)⟩
          · rintro σ H1 ⟨⟨dx', h1⟩, h2, h3, rfl⟩
            exact fin dx' (some (z - 1)) _ (by rw [el]; simpa using hz) (by rw [el]; rfl) h3 h1 h2

/-! ### journal.py -/
inductive Out where
  | ok
  | cut
  | fault
def seqS (r : CS × Out) (k : CS → CS × Out) : CS × Out := match r.2 with
  | .ok => k r.1
  | _ => r
def wS (S : CS) (i : Nat) (w : Int) : CS × Out := ((writeS S i w).1, if (writeS S i w).2 = true then .ok else .cut)
def rdS (S : CS) (i : Nat) (k : Int → CS × Out) : CS × Out := if S.on = true then k (S.words.getD i 0) else (S, .cut)
theorem writeS_len {S : CS} {i : Nat} {w : Int} : (writeS S i w).1.words.length = S.words.length := by
  unfold writeS
  split
  · rfl
  · split
    · rfl
    · exact List.length_set
theorem writeS_on {S : CS} {i : Nat} {w : Int} (h : (writeS S i w).2 = true) : (writeS S i w).1.words = S.words.set i w ∧ (writeS S i w).1.on = true ∧ S.on = true := by
  unfold writeS at h ⊢
  split
  · rename_i e; rw [if_pos e] at h; cases h
  · rename_i e
    rw [if_neg e] at h
    split
    · rename_i e2; rw [if_pos e2] at h; cases h
    · exact ⟨rfl, rfl, by simpa using e⟩
/-- a Journal stands at j, over the cells at c -/
def jf (c : Addr) (st : Nat) (b : Bool) : List (Str × V) := [("_cells", .ref c), ("_start", .int st), ("_open", .bl b)]
def JrnAt (C : Addr) (H : Hp) (j c : Addr) (st : Nat) (b : Bool) : Prop := ∃ dx, H j = some (.ins C dx (jf c st b))
theorem jrn_ne_cells {H : Hp} {C D j c dj dx c' l : Addr} {st : Nat} {b o : Bool} {lv : V} (h1 : H j = some (.ins C dj (jf c' st b))) (h2 : H c = some (.ins D dx (cf l lv o))) : j ≠ c := fun e => by
  subst e
  rw [h2] at h1
  injection h1 with h1
  injection h1 with _ _ h1
  exact absurd (congrArg (List.map Prod.fst) h1) (by show ¬ (([("_words" : Str), "_left", "_on"] : List Str) = [("_cells" : Str), "_start", "_open"]); decide)
theorem JrnAt.keep {C : Addr} {H H' : Hp} {j c : Addr} {st : Nat} {b : Bool} {X : List Addr} (h : JrnAt C H j c st b) (k : Kp X H H') (n : j ∉ X) : JrnAt C H' j c st b := by
  obtain ⟨dx, h⟩ := h
  exact ⟨dx, k _ _ n h⟩
theorem seq_ok {S : CS} {i : Nat} {w : Int} {k : CS → CS × Out} (e : (writeS S i w).2 = true) : seqS (wS S i w) k = k (writeS S i w).1 := by
  unfold seqS wS
  rw [if_pos e]
theorem seq_cut {S : CS} {i : Nat} {w : Int} {k : CS → CS × Out} (e : (writeS S i w).2 = false) : seqS (wS S i w) k = ((writeS S i w).1, .cut) := by
  unfold seqS wS
  rw [if_neg (by rw [e]; exact Bool.false_ne_true)]
theorem wS_ok {S : CS} {i : Nat} {w : Int} (e : (writeS S i w).2 = true) : wS S i w = ((writeS S i w).1, .ok) := by
  unfold wS
  rw [if_pos e]
theorem wS_cut {S : CS} {i : Nat} {w : Int} (e : (writeS S i w).2 = false) : wS S i w = ((writeS S i w).1, .cut) := by
  unfold wS
  rw [if_neg (by rw [e]; exact Bool.false_ne_true)]
theorem rdS_on {S : CS} {i : Nat} {k : Int → CS × Out} (e : S.on = true) : rdS S i k = k (S.words.getD i 0) := if_pos e
theorem rdS_off {S : CS} {i : Nat} {k : Int → CS × Out} (e : S.on = false) : rdS S i k = (S, .cut) := if_neg (by rw [e]; exact Bool.false_ne_true)
def sp_Fault_init {K : PySem.W.Frag} {mg : Str → Option Value} (T : Txt K mg) : Sp := spX1 T.c_Fault "code"
theorem ok_Fault_init (T : Txt K mg) : FnOk P w K mg base CX0 1 T.f_Fault_init T.d_Fault_init ["self", "code"] (sp_Fault_init T) := by
  refine T.k_Fault_init.ok sc_Fault_init (fun vs H Q E h => ?_) (fun cdv A outer s H vs Q E hr h => ?_)
  · obtain ⟨a, v, rfl, _⟩ := h
    rfl
  · obtain ⟨a, v, rfl, ha, q⟩ := h
    refine ⟨_, (pss_one (ps_ost (pv 0) (pv 1) rfl)), ?_⟩
    walk_at "rd"
    exact i_ost T.ox_Fault T.on_Fault_code ha q
def sp_Journal_init {K : PySem.W.Frag} {mg : Str → Option Value} (T : Txt K mg) : Sp := fun vs H Q _ => ∃ (x dx c : Addr) (st : Nat), vs = [.ref x, .ref c, .int st] ∧ H x = some (.ins T.c_Journal dx []) ∧ ∀ H', JrnAt T.c_Journal H' x c st false → Kp [x] H H' → Q .non H'
theorem ok_Journal_init (T : Txt K mg) : FnOk P w K mg base CX0 1 T.f_Journal_init T.d_Journal_init ["self", "cells", "start"] (sp_Journal_init T) := by
  refine T.k_Journal_init.ok sc_Journal_init (fun vs H Q E h => ?_) (fun cdv A outer s H vs Q E hr h => ?_)
  · obtain ⟨x, dx, c, st, rfl, _⟩ := h
    rfl
  · obtain ⟨x, dx, c, st, rfl, hx, q⟩ := h
    refine ⟨_, (pss_cons (ps_fldK K (pv 0) (pv 1) rfl)
      (pss_cons (ps_fldK K (pv 0) (pv 2) rfl)
      (pss_one (ps_fldK K (pv 0) pe_bl rfl)))), ?_⟩
    walk_at "rd"
    refine rdSeq ?_
    walk_at "rd"
    refine i_fldS T.cl_Journal T.nf_Journal_cells hx (by decide) (rdSeq ?_)
    walk_at "rd"
    refine i_fldS T.cl_Journal T.nf_Journal_start upd_same (by show 1 < 1000; decide) ?_
    refine i_fldS T.cl_Journal T.nf_Journal_open upd_same (by show 2 < 1000; decide) ?_
    rw [upd_upd, upd_upd]
    exact q _ ⟨dx, by rw [upd_same]; rfl⟩ (Kp.set (by simp))
def jchange (st : Nat) (b : Bool) (S : CS) (p : Nat) (w : Int) : CS × Out :=
  if b = true then rdS S st fun n => if n = 40 then (S, .fault) else seqS (wS S (st + 1 + 2 * n.toNat) p) fun S1 => seqS (wS S1 (st + 2 + 2 * n.toNat) (S1.words.getD p 0)) fun S2 => seqS (wS S2 st (n + 1)) fun S3 => wS S3 p w
  else wS S p w
def CntOk (st : Nat) (S : CS) : Prop := st + 80 < S.words.length ∧ 0 ≤ S.words.getD st 0 ∧ S.words.getD st 0 ≤ 40
def tellE {K : PySem.W.Frag} {mg : Str → Option Value} (T : Txt K mg) (Q : VK) (E : XK) (o : Out) (H' : Hp) : Prop := match o with
  | .ok => Q .non H'
  | .cut => E (.ref T.c_PowerCut) none H'
  | .fault => ∀ dx, H' dx = none → E (.ref T.c_Fault) (some dx) (upd H' dx (.xd [("code", .int (-8))]))
def sp_Journal_change {K : PySem.W.Frag} {mg : Str → Option Value} (T : Txt K mg) : Sp := fun vs H Q E => ∃ (j c l : Addr) (st : Nat) (b : Bool) (S : CS) (p : Nat) (w : Int), vs = [.ref j, .int p, .int w] ∧ JrnAt T.c_Journal H j c st b ∧ CellsAt T.c_Cells H c l S ∧ p < S.words.length ∧ (b = true → CntOk st S) ∧
  ∀ H', CellsAt T.c_Cells H' c l (jchange st b S p w).1 → Kp [c, l] H H' → tellE T Q E (jchange st b S p w).2 H'
theorem okH_Fault_init (T : Txt K mg) : L2H.FnH P w K mg base CX0 1 T.f_Fault_init T.d_Fault_init ["self", "code"] (sp_Fault_init T) := by
  refine okH T.k_Fault_init sc_Fault_init (fun vs H Q E h => ?_) (fun cdv A outer s H vs Q E pn hot hr h => ?_)
  · obtain ⟨a, v, rfl, _⟩ := h
    rfl
  · obtain ⟨a, v, rfl, ha, q⟩ := h
    refine ⟨_, (pss_one (ps_ost (pv 0) (pv 1) rfl)), ?_⟩
    walk_at "rd"
    exact i_ost T.ox_Fault T.on_Fault_code ha q

/-! ### heap.py: what stands where -/
theorem i_gTup3 {K : PySem.W.Frag} {n i j k : Nat} {a : Addr} {x y z : V} {σ : L2.St} {H : Hp} {Q : L2.St → Hp → Prop} (hn : n = 3) (h : SqT K H a [x, y, z]) (q : Q (((σ.set i (some x)).set j (some y)).set k (some z)) H) : gTup K n (gCons (gName i) (gCons (gName j) (gCons (gName k) gNil))) (.ref a) σ H Q :=
  ⟨a, [x, y, z], rfl, h, hn.symm, x, [y, z], rfl, y, [z], rfl, z, [], rfl, rfl, q⟩
theorem i_lcF {α : Type} {J : It} {l : List α} {r : α → V} {G : Hp → Prop} (w : Walk J l.length G (YL l r)) {j : Nat} {tt : TT} {te : TE} {σ : L2.St} {H : Hp} {Q : VK} (p : α → Bool) (g : α → V) (hn : l.length < sizeLine) (hG : ∀ D ys, H D = none → G (upd H D (.lst ys)))
    (ht : ∀ c ∈ l, ∀ H1 (Q' : Bool → Hp → Prop), Same H H1 → Q' (p c) H1 → tt ((wipe σ [j]).set j (some (r c))) H1 Q')
    (hs : ∀ c ∈ l, p c = true → ∀ H1 (Q' : VK), Same H H1 → Q' (g c) H1 → te ((wipe σ [j]).set j (some (r c))) H1 Q') (q : ∀ D, H D = none → Q (.ref D) (upd H D (.lst ((l.filter p).map g)))) : rLcJ J (gName j) tt te [j] σ H Q := by
  intro D hD
  refine lc_it w (fun i H' => H' = upd H D (.lst (((l.take i).filter p).map g))) rfl (fun i H' _ e => by subst e; exact hG D _ hD) (fun i x H1 H2 hi e y => ?_) (fun H' e => by subst e; rw [List.take_length]; exact q D hD)
  obtain ⟨e2, c, hc, rfl⟩ := y
  subst e2
  have hm := List.mem_of_getElem? hc
  have sm : Same H H2 := by subst e; intro b o h; rw [upd_ne (ne_of_none h hD)]; exact h
  refine ⟨wipe_one, ht c hm H2 _ sm ?_⟩
  cases hp : p c with
  | true =>
    refine i_then rfl (hs c hm hp H2 (fun y H4 => ∃ acc, H4 D = some (.lst acc) ∧ acc.length < sizeLine ∧ upd H4 D (.lst (acc ++ [y])) = upd H D (.lst (((l.take (i + 1)).filter p).map g))) sm ?_)
    subst e
    refine ⟨_, upd_same, by rw [List.length_map]; exact Nat.lt_of_le_of_lt (Nat.le_trans (List.length_filter_le _ _) (by rw [List.length_take]; omega)) hn, ?_⟩
    rw [upd_upd, List.take_add_one, hc, List.filter_append, List.map_append]
    show _ = upd H D (.lst (_ ++ List.map g (List.filter p [c])))
    rw [List.filter_cons_of_pos hp]; rfl
  | false =>
    refine i_else (by simp) ?_
    show H2 = upd H D (.lst (((l.take (i + 1)).filter p).map g))
    subst e
    rw [List.take_add_one, hc, List.filter_append, List.map_append]
    show _ = upd H D (.lst (_ ++ List.map g (List.filter p [c])))
    rw [List.filter_cons_of_neg (by rw [hp]; simp), List.filter_nil, List.map_nil, List.append_nil]
structure Ob where
  kind : Int
  owner : Int
  vals : List Int
structure HA where
  h : Addr
  c : Addr
  l : Addr
  j : Addr
  dt : Addr
def hfs (A : HA) : List (Str × V) := [("_cells", .ref A.c), ("_journal", .ref A.j), ("_start", .int 81), ("_temps", .ref A.dt)]
abbrev Tm := List (Nat × Addr × List Int)
def tmK (tm : Tm) : List (Key × V) := tm.map fun e => (.inl (e.1 : Int), .ref e.2.1)
structure TmOk (H : Hp) (l : Addr) (tm : Tm) : Prop where
  tl : ∀ e ∈ tm, H e.2.1 = some (.lst (e.2.2.map V.int))
  nl : ∀ e ∈ tm, e.2.1 ≠ l
  nd : (tm.map (·.2.1)).Nodup
  nk : (tm.map (·.1)).Nodup
  kr : ∀ e ∈ tm, e.1 ≤ 61
  bf : ∃ a vs, (61, a, vs) ∈ tm ∧ vs.length = 64
structure HeapAt (T : Txt K mg) (H : Hp) (A : HA) (S : CS) (b : Bool) (tm : Tm) : Prop where
  ob : ∃ dx, H A.h = some (.ins T.c_Heap dx (hfs A))
  cs : CellsAt T.c_Cells H A.c A.l S
  jr : JrnAt T.c_Journal H A.j A.c 0 b
  sz : S.words.length = 1002
  td : H A.dt = some (.dK (tmK tm))
  tk : TmOk H A.l tm
def own (A : HA) (tm : Tm) : List Addr := A.c :: A.l :: A.dt :: tm.map (·.2.1)
/-- all is kept but what is owned; what is newly owned was free -/
structure Mvs (H : Hp) (X : List Addr) (H' : Hp) (X' : List Addr) : Prop where
  kp : Kp X H H'
  nw : ∀ x ∈ X', x ∈ X ∨ H x = none
theorem Mvs.refl {H : Hp} {X : List Addr} : Mvs H X H X := ⟨Kp.refl _ _, fun _ h => .inl h⟩
theorem Mvs.trans {H H1 H2 : Hp} {X X1 X2 : List Addr} (a : Mvs H X H1 X1) (b : Mvs H1 X1 H2 X2) : Mvs H X H2 X2 := by
  refine ⟨fun x o n e => ?_, fun x hx => ?_⟩
  · refine b.kp x o (fun h => ?_) (a.kp x o n e)
    rcases a.nw x h with h | h
    · exact n h
    · rw [h] at e; cases e
  · rcases b.nw x hx with h | h
    · exact a.nw x h
    · by_cases hX : x ∈ X
      · exact .inl hX
      · cases e : H x with
        | none => exact .inr rfl
        | some o =>
          have := a.kp x o hX e
          rw [h] at this; cases this
theorem Mvs.same {H H1 : Hp} {X : List Addr} (s : Same H H1) : Mvs H X H1 X := ⟨Kp.of s, fun _ h => .inl h⟩
theorem Mvs.at_ {H H1 : Hp} {X X1 : List Addr} {a : Addr} {o : HO} (m : Mvs H X H1 X1) (h : H a = some o) (n : a ∉ X) : H1 a = some o ∧ a ∉ X1 :=
  ⟨m.kp a o n h, fun k => by
    rcases m.nw a k with q | q
    · exact n q
    · rw [h] at q; cases q⟩
def tb (f : Nat) : Nat := 82 + f * 460
def rm (f : Nat) : Nat := 142 + f * 460
/-- an object stands at p of the room -/
structure RepO (W : List Int) (f p n : Nat) (o : Ob) : Prop where
  tab : W.getD (tb f + n - 1) 0 = p + 1
  kd : W.getD (rm f + p) 0 = o.kind
  ow : W.getD (rm f + p + 1) 0 = o.owner
  sz : W.getD (rm f + p + 2) 0 = o.vals.length
  vs : o.kind ≠ -2 → ∀ i, i < o.vals.length → W.getD (rm f + p + 3 + i) 0 = o.vals.getD i 0
def tval (tm : Tm) (n : Nat) : Option (List Int) := (tm.find? fun e => decide (e.1 = n)).map (·.2.2)
def usd (M : List (Nat × Ob)) : Nat := ((M.filter fun e => decide (e.1 < 61)).map fun e => 3 + e.2.vals.length).sum
def cnt (M : List (Nat × Ob)) : Nat := (M.filter fun e => decide (e.1 < 61)).length
structure Rep (W : List Int) (f : Nat) (pos : Nat → Nat) (M : List (Nat × Ob)) (tm : Tm) : Prop where
  f2 : f < 2
  half : W.getD 81 0 = f
  nk : (M.map (·.1)).Nodup
  rng : ∀ n o, (n, o) ∈ M → 1 ≤ n ∧ n ≤ 61
  buf : ∃ vs, (61, ⟨-2, 0, vs⟩) ∈ M ∧ vs.length = 64
  non : ∀ n, 1 ≤ n → n ≤ 60 → (∀ o, (n, o) ∉ M) → W.getD (tb f + n - 1) 0 = 0
  ob : ∀ n o, (n, o) ∈ M → n ≤ 60 → RepO W f (pos n) n o
  tmp : ∀ n o, (n, o) ∈ M → o.kind = -2 → (tval tm n).getD (List.replicate o.vals.length 0) = o.vals
  us : ∀ n o, (n, o) ∈ M → n ≤ 60 → pos n + 3 + o.vals.length ≤ usd M
  dj : ∀ n o m u, (n, o) ∈ M → (m, u) ∈ M → n ≤ 60 → m ≤ 60 → n ≠ m → pos n + 3 + o.vals.length ≤ pos m ∨ pos m + 3 + u.vals.length ≤ pos n
  le : usd M ≤ 400
theorem mem_uniq {M : List (Nat × Ob)} (nk : (M.map (·.1)).Nodup) : ∀ {n : Nat} {o u : Ob}, (n, o) ∈ M → (n, u) ∈ M → o = u := by
  induction M with
  | nil => intro n o u h; exact nomatch h
  | cons e t ih =>
    intro n o u h1 h2
    rw [List.map_cons, List.nodup_cons] at nk
    have nin : ∀ v, e.1 = n → (n, v) ∉ t := fun v e1 hv => nk.1 (by rw [e1]; exact List.mem_map_of_mem (f := (·.1)) hv)
    rcases List.mem_cons.mp h1 with a | a <;> rcases List.mem_cons.mp h2 with b | b
    · rw [← a] at b; exact (Prod.mk.inj b).2.symm
    · exact absurd b (nin u (by rw [← a]))
    · exact absurd a (nin o (by rw [← b]))
    · exact ih nk.2 a b
theorem Rep.buf_o {W : List Int} {f : Nat} {pos : Nat → Nat} {M : List (Nat × Ob)} {tm : Tm} (R : Rep W f pos M tm) {o : Ob} (h : (61, o) ∈ M) : o.kind = -2 ∧ o.owner = 0 ∧ o.vals.length = 64 := by
  obtain ⟨vs, hv, hl⟩ := R.buf
  obtain rfl := mem_uniq R.nk h hv
  exact ⟨rfl, rfl, hl⟩
theorem Rep.p_le {W : List Int} {f : Nat} {pos : Nat → Nat} {M : List (Nat × Ob)} {tm : Tm} (R : Rep W f pos M tm) {n : Nat} {o : Ob} (h : (n, o) ∈ M) (hn : n ≤ 60) : pos n + 3 + o.vals.length ≤ 400 := Nat.le_trans (R.us n o h hn) R.le
theorem HeapAt.rd {T : Txt K mg} {H : Hp} {A : HA} {S : CS} {b : Bool} {tm : Tm} {Q : VK} {E : XK} (h : HeapAt T H A S b tm) (on : S.on = true) {i : Nat} {v : V} (ev : v = .int (i : Nat)) (hi : i < 1002) (q : Q (.int (S.words.getD i 0)) H) : sp_Cells_read T [.ref A.c, v] H Q E :=
  ⟨A.c, A.l, S, i, by rw [ev], h.cs, by rw [h.sz]; exact hi, fun _ => q, fun e => by rw [on] at e; cases e⟩
theorem HeapAt.same {T : Txt K mg} {H H' : Hp} {A : HA} {S : CS} {b : Bool} {tm : Tm} (h : HeapAt T H A S b tm) (s : Same H H') : HeapAt T H' A S b tm := by
  obtain ⟨dx, ho⟩ := h.ob
  exact ⟨⟨dx, s _ _ ho⟩, h.cs.keep (Kp.of s (X := [])) (by simp) (by simp), h.jr.keep (Kp.of s (X := [])) (by simp), h.sz, s _ _ h.td, ⟨fun e he => s _ _ (h.tk.tl e he), h.tk.nl, h.tk.nd, h.tk.nk, h.tk.kr, h.tk.bf⟩⟩
def sp_Heap__half {K : PySem.W.Frag} {mg : Str → Option Value} (T : Txt K mg) : Sp := fun vs H Q _ => ∃ (A : HA) (S : CS) (b : Bool) (tm : Tm), vs = [.ref A.h] ∧ HeapAt T H A S b tm ∧ S.on = true ∧ Q (.int (S.words.getD 81 0)) H
theorem ok_Heap__half (T : Txt K mg) : FnOk P w K mg base CX0 2 T.f_Heap__half T.d_Heap__half ["self"] (sp_Heap__half T) := by
  refine T.k_Heap__half.ok sc_Heap__half (fun vs H Q E h => ?_) (fun cdv A outer s H vs Q E hr h => ?_)
  · obtain ⟨A, S, b, tm, rfl, _⟩ := h
    rfl
  · obtain ⟨A, S, b, tm, rfl, h, on, q⟩ := h
    refine ⟨_, (pss_one (ps_ret (pe_meth (pe_fldK K (pv 0) rfl) T.cl_Cells T.me_Cells_read (ok_Cells_read T) (hr.mono (by decide)) T.b_Cells_read .nil passL (pa_cons (pe_fldK K (pv 0) rfl) pa_nil)))), ?_⟩
    obtain ⟨dx, ho⟩ := h.ob
    obtain ⟨dc, hc⟩ := h.cs.ob
    walk_at "rd"
    exact i_fld T.cl_Heap T.nf_Heap_cells ho rfl (i_meth hc rfl (i_fld T.cl_Heap T.nf_Heap_start ho rfl (h.rd on rfl (by decide) q)))
def sp_Heap__table {K : PySem.W.Frag} {mg : Str → Option Value} (T : Txt K mg) : Sp := fun vs H Q _ => ∃ (A : HA) (S : CS) (b : Bool) (tm : Tm) (f : Nat), vs = [.ref A.h, .int f] ∧ HeapAt T H A S b tm ∧ Q (.int (tb f : Nat)) H
theorem ok_Heap__table (T : Txt K mg) : FnOk P w K mg base CX0 1 T.f_Heap__table T.d_Heap__table ["self", "half"] (sp_Heap__table T) := by
  refine T.k_Heap__table.ok sc_Heap__table (fun vs H Q E h => ?_) (fun cdv A outer s H vs Q E hr h => ?_)
  · obtain ⟨A, S, b, tm, f, rfl, _⟩ := h
    rfl
  · obtain ⟨A, S, b, tm, f, rfl, h, q⟩ := h
    refine ⟨_, (pss_one (ps_ret (pe_op op_add (pe_op op_add (pe_fldK K (pv 0) rfl) pe_int) (pe_op op_mul (pv 1) (pe_glob (v := .int _) rfl T.g_HALF_CELLS ⟨_, rfl⟩))))), ?_⟩
    obtain ⟨dx, ho⟩ := h.ob
    walk_at "rd"
    refine i_fld T.cl_Heap T.nf_Heap_start ho rfl ?_
    walk_at "rd"
    refine ⟨cm_r (by decide), ?_⟩
    rw [show (81 : Int) + 1 + (f : Int) * 460 = ((tb f : Nat) : Int) by unfold tb; omega]
    exact q
def sp_Heap__room {K : PySem.W.Frag} {mg : Str → Option Value} (T : Txt K mg) : Sp := fun vs H Q _ => ∃ (A : HA) (S : CS) (b : Bool) (tm : Tm) (f : Nat), vs = [.ref A.h, .int f] ∧ HeapAt T H A S b tm ∧ Q (.int (rm f : Nat)) H
theorem ok_Heap__room (T : Txt K mg) : FnOk P w K mg base CX0 2 T.f_Heap__room T.d_Heap__room ["self", "half"] (sp_Heap__room T) := by
  refine T.k_Heap__room.ok sc_Heap__room (fun vs H Q E h => ?_) (fun cdv A outer s H vs Q E hr h => ?_)
  · obtain ⟨A, S, b, tm, f, rfl, _⟩ := h
    rfl
  · obtain ⟨A, S, b, tm, f, rfl, h, q⟩ := h
    refine ⟨_, (pss_one (ps_ret (pe_op op_add (pe_meth (pv 0) T.cl_Heap T.me_Heap__table (ok_Heap__table T) (hr.mono (by decide)) T.b_Heap__table .nil pass0 (pa_cons (pv 1) pa_nil)) (pe_glob (v := .int _) rfl T.g_MOST_OBJECTS ⟨_, rfl⟩)))), ?_⟩
    obtain ⟨dx, ho⟩ := h.ob
    walk_at "rd"
    refine i_meth ho rfl ⟨A, S, b, tm, f, rfl, h, ?_⟩
    walk_at "rd"
    rw [show ((tb f : Nat) : Int) + 60 = ((rm f : Nat) : Int) by unfold tb rm; omega]
    exact q
/-- the heap object with what it stands for -/
structure Hold (T : Txt K mg) (H : Hp) (A : HA) (S : CS) (b : Bool) (tm : Tm) (f : Nat) (pos : Nat → Nat) (M : List (Nat × Ob)) : Prop where
  at_ : HeapAt T H A S b tm
  rep : Rep S.words f pos M tm
  on : S.on = true
theorem Hold.same {T : Txt K mg} {H H' : Hp} {A : HA} {S : CS} {b : Bool} {tm : Tm} {f : Nat} {pos : Nat → Nat} {M : List (Nat × Ob)} (h : Hold T H A S b tm f pos M) (s : Same H H') : Hold T H' A S b tm f pos M := ⟨h.at_.same s, h.rep, h.on⟩
theorem Hold.half {T : Txt K mg} {H : Hp} {A : HA} {S : CS} {b : Bool} {tm : Tm} {f : Nat} {pos : Nat → Nat} {M : List (Nat × Ob)} {Q : VK} {E : XK} (h : Hold T H A S b tm f pos M) (q : Q (.int (f : Nat)) H) : sp_Heap__half T [.ref A.h] H Q E :=
  ⟨A, S, b, tm, rfl, h.at_, h.on, by rw [h.rep.half]; exact q⟩
def sp_Heap__place {K : PySem.W.Frag} {mg : Str → Option Value} (T : Txt K mg) : Sp := fun vs H Q _ => ∃ (A : HA) (S : CS) (b : Bool) (tm : Tm) (f : Nat) (pos : Nat → Nat) (M : List (Nat × Ob)) (n : Nat) (o : Ob), vs = [.ref A.h, .int n] ∧ Hold T H A S b tm f pos M ∧ (n, o) ∈ M ∧ n ≤ 60 ∧ Q (.int (rm f + pos n : Nat)) H
theorem ok_Heap__place (T : Txt K mg) : FnOk P w K mg base CX0 3 T.f_Heap__place T.d_Heap__place ["self", "number"] (sp_Heap__place T) := by
  refine T.k_Heap__place.ok sc_Heap__place (fun vs H Q E h => ?_) (fun cdv A outer s H vs Q E hr h => ?_)
  · obtain ⟨A, S, b, tm, f, pos, M, n, o, rfl, _⟩ := h
    rfl
  · obtain ⟨A, S, b, tm, f, pos, M, n, o, rfl, h, hm, hn, q⟩ := h
    refine ⟨_, (pss_cons (ps_set (i := 2) sc_Heap__place.nd rfl (.inl rfl) (pe_meth0 (pv 0) T.cl_Heap T.me_Heap__half (ok_Heap__half T) (hr.mono (by decide)) T.b_Heap__half .nil pass0))
      (pss_one (ps_ret (pe_op op_sub (pe_op op_add (pe_meth (pv 0) T.cl_Heap T.me_Heap__room (ok_Heap__room T) (hr.mono (by decide)) T.b_Heap__room .nil pass0 (pa_cons (pv 2) pa_nil)) (pe_meth (pe_fldK K (pv 0) rfl) T.cl_Cells T.me_Cells_read (ok_Cells_read T) (hr.mono (by decide)) T.b_Cells_read .nil passL (pa_cons (pe_op op_sub (pe_op op_add (pe_meth (pv 0) T.cl_Heap T.me_Heap__table (ok_Heap__table T) (hr.mono (by decide)) T.b_Heap__table .nil pass0 (pa_cons (pv 2) pa_nil)) (pv 1)) pe_int) pa_nil))) pe_int)))), ?_⟩
    obtain ⟨dx, ho⟩ := h.at_.ob
    obtain ⟨dc, hc⟩ := h.at_.cs.ob
    walk_at "rd"
    refine rdSeq ?_
    walk_at "rd"
    refine i_meth ho rfl (h.half ?_)
    refine i_meth ho rfl ⟨A, S, b, tm, f, rfl, h.at_, i_fld T.cl_Heap T.nf_Heap_cells ho rfl (i_meth hc rfl (i_meth ho rfl ⟨A, S, b, tm, f, rfl, h.at_, ?_⟩))⟩
    walk_at "rd"
    have h1 := (h.rep.rng n o hm).1
    have hf := h.rep.f2
    refine h.at_.rd h.on (i := tb f + n - 1) (by rw [show ((tb f + n - 1 : Nat) : Int) = ((tb f : Nat) : Int) + n - 1 by unfold tb; omega]) (by unfold tb; omega) ?_
    rw [(h.rep.ob n o hm hn).tab]
    refine ⟨_, rfl, ?_⟩
    rw [show ((rm f : Nat) : Int) + ((pos n : Nat) + 1) - 1 = ((rm f + pos n : Nat) : Int) by omega]
    exact q
def HoldX (T : Txt K mg) (H : Hp) (A : HA) (M : List (Nat × Ob)) : Prop := ∃ S b tm f pos, Hold T H A S b tm f pos M
def sp_Heap_kind {K : PySem.W.Frag} {mg : Str → Option Value} (T : Txt K mg) : Sp := fun vs H Q _ => ∃ (A : HA) (M : List (Nat × Ob)) (n : Nat) (o : Ob), vs = [.ref A.h, .int n] ∧ HoldX T H A M ∧ (n, o) ∈ M ∧ Q (.int o.kind) H
theorem ok_Heap_kind (T : Txt K mg) : FnOk P w K mg base CX0 4 T.f_Heap_kind T.d_Heap_kind ["self", "number"] (sp_Heap_kind T) := by
  refine T.k_Heap_kind.ok sc_Heap_kind (fun vs H Q E h => ?_) (fun cdv A outer s H vs Q E hr h => ?_)
  · obtain ⟨A, M, n, o, rfl, _⟩ := h
    rfl
  · obtain ⟨A, M, n, o, rfl, ⟨S, b, tm, f, pos, h⟩, hm, q⟩ := h
    refine ⟨_, (pss_cons (ps_if (pt_cmpR op_eq (pv 1) (pe_glob (v := .int _) rfl T.g_BUFFER ⟨_, rfl⟩) (nomark _)) (pss_one (ps_ret (pe_glob (v := .int _) rfl T.g_TEMP ⟨_, rfl⟩))) pss_nil)
      (pss_one (ps_ret (pe_meth (pe_fldK K (pv 0) rfl) T.cl_Cells T.me_Cells_read (ok_Cells_read T) (hr.mono (by decide)) T.b_Cells_read .nil passL (pa_cons (pe_meth (pv 0) T.cl_Heap T.me_Heap__place (ok_Heap__place T) (hr.mono (by decide)) T.b_Heap__place .nil pass0 (pa_cons (pv 1) pa_nil)) pa_nil))))), ?_⟩
    obtain ⟨dx, ho⟩ := h.at_.ob
    obtain ⟨dc, hc⟩ := h.at_.cs.ob
    walk_at "rd"
    refine rdSeq ?_
    walk_at "rd"
    refine ite2 (fun e => ?_) (fun e => ?_)
    · obtain rfl : n = 61 := by omega
      walk_at "rd"
      rw [(h.rep.buf_o hm).1] at q
      exact q
    · have hr := h.rep.rng n o hm
      have hn : n ≤ 60 := by omega
      walk_at "rd"
      refine i_fld T.cl_Heap T.nf_Heap_cells ho rfl (i_meth hc rfl (i_meth ho rfl ⟨A, S, b, tm, f, pos, M, n, o, rfl, h, hm, hn, ?_⟩))
      have hp := h.rep.p_le hm hn
      have hf := h.rep.f2
      refine h.at_.rd h.on rfl (by unfold rm; omega) ?_
      rw [(h.rep.ob n o hm hn).kd]
      exact q
def sp_Heap_owner {K : PySem.W.Frag} {mg : Str → Option Value} (T : Txt K mg) : Sp := fun vs H Q _ => ∃ (A : HA) (M : List (Nat × Ob)) (n : Nat) (o : Ob), vs = [.ref A.h, .int n] ∧ HoldX T H A M ∧ (n, o) ∈ M ∧ Q (.int o.owner) H
theorem ok_Heap_owner (T : Txt K mg) : FnOk P w K mg base CX0 4 T.f_Heap_owner T.d_Heap_owner ["self", "number"] (sp_Heap_owner T) := by
  refine T.k_Heap_owner.ok sc_Heap_owner (fun vs H Q E h => ?_) (fun cdv A outer s H vs Q E hr h => ?_)
  · obtain ⟨A, M, n, o, rfl, _⟩ := h
    rfl
  · obtain ⟨A, M, n, o, rfl, ⟨S, b, tm, f, pos, h⟩, hm, q⟩ := h
    refine ⟨_, (pss_cons (ps_if (pt_cmpR op_eq (pv 1) (pe_glob (v := .int _) rfl T.g_BUFFER ⟨_, rfl⟩) (nomark _)) (pss_one (ps_ret pe_int)) pss_nil)
      (pss_one (ps_ret (pe_meth (pe_fldK K (pv 0) rfl) T.cl_Cells T.me_Cells_read (ok_Cells_read T) (hr.mono (by decide)) T.b_Cells_read .nil passL (pa_cons (pe_op op_add (pe_meth (pv 0) T.cl_Heap T.me_Heap__place (ok_Heap__place T) (hr.mono (by decide)) T.b_Heap__place .nil pass0 (pa_cons (pv 1) pa_nil)) pe_int) pa_nil))))), ?_⟩
    obtain ⟨dx, ho⟩ := h.at_.ob
    obtain ⟨dc, hc⟩ := h.at_.cs.ob
    walk_at "rd"
    refine rdSeq ?_
    walk_at "rd"
    refine ite2 (fun e => ?_) (fun e => ?_)
    · obtain rfl : n = 61 := by omega
      walk_at "rd"
      rw [(h.rep.buf_o hm).2.1] at q
      exact q
    · have hr := h.rep.rng n o hm
      have hn : n ≤ 60 := by omega
      walk_at "rd"
      refine i_fld T.cl_Heap T.nf_Heap_cells ho rfl (i_meth hc rfl (i_meth ho rfl ⟨A, S, b, tm, f, pos, M, n, o, rfl, h, hm, hn, ?_⟩))
      have hp := h.rep.p_le hm hn
      have hf := h.rep.f2
      walk_at "rd"
      refine h.at_.rd h.on (i := rm f + pos n + 1) (by rw [show ((rm f + pos n + 1 : Nat) : Int) = ((rm f + pos n : Nat) : Int) + 1 by omega]) (by unfold rm; omega) ?_
      rw [(h.rep.ob n o hm hn).ow]
      exact q
def sp_Heap_size {K : PySem.W.Frag} {mg : Str → Option Value} (T : Txt K mg) : Sp := fun vs H Q _ => ∃ (A : HA) (M : List (Nat × Ob)) (n : Nat) (o : Ob), vs = [.ref A.h, .int n] ∧ HoldX T H A M ∧ (n, o) ∈ M ∧ Q (.int o.vals.length) H
theorem ok_Heap_size (T : Txt K mg) : FnOk P w K mg base CX0 4 T.f_Heap_size T.d_Heap_size ["self", "number"] (sp_Heap_size T) := by
  refine T.k_Heap_size.ok sc_Heap_size (fun vs H Q E h => ?_) (fun cdv A outer s H vs Q E hr h => ?_)
  · obtain ⟨A, M, n, o, rfl, _⟩ := h
    rfl
  · obtain ⟨A, M, n, o, rfl, ⟨S, b, tm, f, pos, h⟩, hm, q⟩ := h
    refine ⟨_, (pss_cons (ps_if (pt_cmpR op_eq (pv 1) (pe_glob (v := .int _) rfl T.g_BUFFER ⟨_, rfl⟩) (nomark _)) (pss_one (ps_ret (pe_glob (v := .int _) rfl T.g_MOST_BUFFER ⟨_, rfl⟩))) pss_nil)
      (pss_one (ps_ret (pe_meth (pe_fldK K (pv 0) rfl) T.cl_Cells T.me_Cells_read (ok_Cells_read T) (hr.mono (by decide)) T.b_Cells_read .nil passL (pa_cons (pe_op op_add (pe_meth (pv 0) T.cl_Heap T.me_Heap__place (ok_Heap__place T) (hr.mono (by decide)) T.b_Heap__place .nil pass0 (pa_cons (pv 1) pa_nil)) pe_int) pa_nil))))), ?_⟩
    obtain ⟨dx, ho⟩ := h.at_.ob
    obtain ⟨dc, hc⟩ := h.at_.cs.ob
    walk_at "rd"
    refine rdSeq ?_
    walk_at "rd"
    refine ite2 (fun e => ?_) (fun e => ?_)
    · obtain rfl : n = 61 := by omega
      walk_at "rd"
      rw [(h.rep.buf_o hm).2.2] at q
      exact q
    · have hr := h.rep.rng n o hm
      have hn : n ≤ 60 := by omega
      walk_at "rd"
      refine i_fld T.cl_Heap T.nf_Heap_cells ho rfl (i_meth hc rfl (i_meth ho rfl ⟨A, S, b, tm, f, pos, M, n, o, rfl, h, hm, hn, ?_⟩))
      have hp := h.rep.p_le hm hn
      have hf := h.rep.f2
      walk_at "rd"
      refine h.at_.rd h.on (i := rm f + pos n + 2) (by rw [show ((rm f + pos n + 2 : Nat) : Int) = ((rm f + pos n : Nat) : Int) + 2 by omega]) (by unfold rm; omega) ?_
      rw [(h.rep.ob n o hm hn).sz]
      exact q
/-- the numbers, ascending -/
def numL (M : List (Nat × Ob)) : List Nat := ((List.range 60).map (· + 1)).filter fun n => M.any fun e => decide (e.1 = n)
theorem mem_any {M : List (Nat × Ob)} {n : Nat} : (M.any fun e => decide (e.1 = n)) = true ↔ ∃ o, (n, o) ∈ M := by
  rw [List.any_eq_true]
  constructor
  · rintro ⟨⟨m, o⟩, hm, e⟩
    have e : m = n := of_decide_eq_true e
    exact ⟨o, by rw [← e]; exact hm⟩
  · rintro ⟨o, ho⟩
    exact ⟨_, ho, decide_eq_true rfl⟩
def sp_Heap_numbers {K : PySem.W.Frag} {mg : Str → Option Value} (T : Txt K mg) : Sp := fun vs H Q _ => ∃ (A : HA) (M : List (Nat × Ob)), vs = [.ref A.h] ∧ HoldX T H A M ∧ ∀ p, H p = none → Q (.ref p) (upd H p (.lst ((numL M).map fun n => V.int (n : Nat))))
theorem ok_Heap_numbers (T : Txt K mg) : FnOk P w K mg base CX0 3 T.f_Heap_numbers T.d_Heap_numbers ["self"] (sp_Heap_numbers T) := by
  refine T.k_Heap_numbers.ok sc_Heap_numbers (fun vs H Q E h => ?_) (fun cdv A outer s H vs Q E hr h => ?_)
  · obtain ⟨A, M, rfl, _⟩ := h
    rfl
  · obtain ⟨A, M, rfl, ⟨S, b, tm, f, pos, h⟩, q⟩ := h
    refine ⟨_, (pss_cons (ps_set (i := 1) sc_Heap_numbers.nd rfl (.inr rfl) (pe_meth (pv 0) T.cl_Heap T.me_Heap__table (ok_Heap__table T) (hr.mono (by decide)) T.b_Heap__table .nil pass0 (pa_cons (pe_meth0 (pv 0) T.cl_Heap T.me_Heap__half (ok_Heap__half T) (hr.mono (by decide)) T.b_Heap__half .nil pass0) pa_nil)))
      (pss_one (ps_ret (pe_lc (own := [("number", 2)]) (g := gName 2) rfl sc_Heap_numbers.nd (pi_range2 (by rfl) T.m_range (pa_cons pe_int (pa_cons (pe_op op_add (pe_glob (v := .int _) rfl T.g_MOST_OBJECTS ⟨_, rfl⟩) pe_int) pa_nil))) (blkOk_by (own := [("number", 2)]) (N := ["self", "table", "number"]) (sc := defScope s_Heap_numbers) (by decide +kernel)) (fun _ _ _ _ _ => pg_name (i := 2) sc_Heap_numbers.nd rfl (Or.inl rfl)) (fun _ _ _ _ _ => pts_one (pt_cmpR op_ne (pe_meth (pe_fldK K (pv 0) rfl) T.cl_Cells T.me_Cells_read (ok_Cells_read T) (hr.mono (by decide)) T.b_Cells_read .nil passL (pa_cons (pe_op op_sub (pe_op op_add (pv 1) (pv 2)) pe_int) pa_nil)) pe_int (nomark _))) (fun _ _ _ _ _ => (pv 2)))))), ?_⟩
    obtain ⟨dx, ho⟩ := h.at_.ob
    obtain ⟨dc, hc⟩ := h.at_.cs.ob
    walk_at "rd"
    refine rdSeq ?_
    walk_at "rd"
    refine i_meth ho rfl (i_meth ho rfl (h.half ⟨A, S, b, tm, f, rfl, h.at_, ?_⟩))
    refine ⟨by decide, by decide, by decide, by decide, ?_⟩
    have hf := h.rep.f2
    refine i_lcF (walk_rangeL (lo := 1) (n := 60)) (fun i => M.any fun e => decide (e.1 = i + 1)) (fun i => .int ((i + 1 : Nat) : Int)) (by rw [List.length_range]; decide) (fun _ _ _ => trivial) (fun i hi H1 Q' sm q' => ?_) (fun i hi _ H1 Q' sm q' => ?_) (fun D hD => ?_)
    · have hi : i < 60 := List.mem_range.mp hi
      walk_at "rd"
      refine i_fld T.cl_Heap T.nf_Heap_cells (sm _ _ ho) rfl (i_meth (sm _ _ hc) rfl ?_)
      refine (h.at_.same sm).rd h.on (i := tb f + (i + 1) - 1) (by rw [show ((tb f + (i + 1) - 1 : Nat) : Int) = ((tb f : Nat) : Int) + (1 + (i : Int)) - 1 by omega]) (by unfold tb; omega) ?_
      cases e : M.any fun e => decide (e.1 = i + 1) with
      | true =>
        obtain ⟨o, hm⟩ := mem_any.mp e
        rw [(h.rep.ob _ o hm (by omega)).tab]
        rw [e] at q'
        walk_at "rd"
        rw [decide_eq_false (show ¬ ((pos (i + 1) : Nat) : Int) + 1 = 0 by omega)]
        exact q'
      | false =>
        rw [h.rep.non (i + 1) (by omega) (by omega) (fun o hm => by rw [mem_any.mpr ⟨o, hm⟩] at e; cases e)]
        rw [e] at q'
        walk_at "rd"
        exact q'
    · walk_at "rd"
      rw [show ((i + 1 : Nat) : Int) = 1 + (i : Int) by omega] at q'
      exact q'
    · have q2 := q D hD
      unfold numL at q2
      rw [List.filter_map, List.map_map] at q2
      exact q2

theorem nodup_perm : ∀ {l1 l2 : List Nat}, l1.Nodup → l2.Nodup → (∀ a, a ∈ l1 ↔ a ∈ l2) → l1.Perm l2
  | [], l2, _, _, h => by
    cases l2 with
    | nil => exact List.Perm.refl _
    | cons b t => exact nomatch (h b).mpr List.mem_cons_self
  | a :: t, l2, h1, h2, h => by
    rw [List.nodup_cons] at h1
    have ha : a ∈ l2 := (h a).mp List.mem_cons_self
    refine List.Perm.trans (List.Perm.cons a (nodup_perm h1.2 (h2.erase a) fun b => ?_)) (List.perm_cons_erase ha).symm
    rw [h2.mem_erase_iff]
    constructor
    · intro hb
      exact ⟨fun e => h1.1 (by rw [← e]; exact hb), (h b).mp (List.mem_cons_of_mem _ hb)⟩
    · rintro ⟨n, hb⟩
      rcases List.mem_cons.mp ((h b).mpr hb) with e | e
      · exact absurd e n
      · exact e
def keys60 (M : List (Nat × Ob)) : List Nat := (M.filter fun e => decide (e.1 < 61)).map (·.1)
theorem range_nodup60 : (((List.range 60).map (· + 1))).Nodup := by decide +kernel
theorem mem_numL {M : List (Nat × Ob)} {n : Nat} : n ∈ numL M ↔ (1 ≤ n ∧ n ≤ 60) ∧ ∃ o, (n, o) ∈ M := by
  unfold numL
  rw [List.mem_filter, mem_any, List.mem_map]
  constructor
  · rintro ⟨⟨i, hi, rfl⟩, h⟩
    have := List.mem_range.mp hi
    exact ⟨⟨by omega, by omega⟩, h⟩
  · rintro ⟨⟨h1, h2⟩, h⟩
    exact ⟨⟨n - 1, List.mem_range.mpr (by omega), by omega⟩, h⟩
theorem numL_perm {M : List (Nat × Ob)} (nk : (M.map (·.1)).Nodup) (rng : ∀ n o, (n, o) ∈ M → 1 ≤ n ∧ n ≤ 61) : (numL M).Perm (keys60 M) := by
  refine nodup_perm (range_nodup60.filter _) (List.Sublist.nodup (List.Sublist.map _ List.filter_sublist) nk) fun n => ?_
  rw [mem_numL]
  unfold keys60
  rw [List.mem_map]
  constructor
  · rintro ⟨⟨h1, h2⟩, o, ho⟩
    exact ⟨_, List.mem_filter.mpr ⟨ho, decide_eq_true (show n < 61 by omega)⟩, rfl⟩
  · rintro ⟨⟨m, o⟩, hm, rfl⟩
    have hm := List.mem_filter.mp hm
    have h61 : m < 61 := of_decide_eq_true hm.2
    have := rng m o hm.1
    exact ⟨⟨this.1, by show m ≤ 60; omega⟩, o, hm.1⟩
def lenOf (M : List (Nat × Ob)) (n : Nat) : Nat := ((M.find? fun e => decide (e.1 = n)).map (·.2.vals.length)).getD 0
theorem find_uniq {M : List (Nat × Ob)} (nk : (M.map (·.1)).Nodup) {n : Nat} {o : Ob} (h : (n, o) ∈ M) : M.find? (fun e => decide (e.1 = n)) = some (n, o) := by
  cases e : M.find? fun e => decide (e.1 = n) with
  | none =>
    have := List.find?_eq_none.mp e _ h
    exact absurd (decide_eq_true rfl) this
  | some p =>
    obtain ⟨m, u⟩ := p
    have h1 := List.mem_of_find?_eq_some e
    have h2 : m = n := of_decide_eq_true (List.find?_some (p := fun e : Nat × Ob => decide (e.1 = n)) e)
    subst h2
    rw [mem_uniq nk h1 h]
theorem lenOf_eq {M : List (Nat × Ob)} (nk : (M.map (·.1)).Nodup) {n : Nat} {o : Ob} (h : (n, o) ∈ M) : lenOf M n = o.vals.length := by
  unfold lenOf
  rw [find_uniq nk h]; rfl
theorem numL_sum {M : List (Nat × Ob)} (nk : (M.map (·.1)).Nodup) (rng : ∀ n o, (n, o) ∈ M → 1 ≤ n ∧ n ≤ 61) : ((numL M).map fun n => ((3 + lenOf M n : Nat) : Int)).sum = (usd M : Nat) := by
  have p := ((numL_perm nk rng).map fun n => 3 + lenOf M n).sum_nat
  have e : (keys60 M).map (fun n => 3 + lenOf M n) = (M.filter fun e => decide (e.1 < 61)).map fun e => 3 + e.2.vals.length := by
    unfold keys60
    rw [List.map_map]
    refine List.map_congr_left fun e he => ?_
    show 3 + lenOf M e.1 = _
    rw [lenOf_eq nk (o := e.2) (List.mem_filter.mp he).1]
  rw [e] at p
  have cast : ∀ l : List Nat, (l.map fun n : Nat => (n : Int)).sum = (l.sum : Nat) := by
    intro l
    induction l with
    | nil => rfl
    | cons a t ih => rw [List.map_cons, List.sum_cons, List.sum_cons, ih]; omega
  have := cast ((numL M).map fun n => 3 + lenOf M n)
  rw [List.map_map, p] at this
  exact this
theorem numL_cnt {M : List (Nat × Ob)} (nk : (M.map (·.1)).Nodup) (rng : ∀ n o, (n, o) ∈ M → 1 ≤ n ∧ n ≤ 61) : (numL M).length = cnt M := by
  rw [(numL_perm nk rng).length_eq]
  unfold keys60 cnt
  rw [List.length_map]
theorem numL_le {M : List (Nat × Ob)} : (numL M).length ≤ 60 := by
  unfold numL
  exact Nat.le_trans (List.length_filter_le _ _) (by rw [List.length_map, List.length_range]; exact Nat.le_refl _)
def sp_Heap_used {K : PySem.W.Frag} {mg : Str → Option Value} (T : Txt K mg) : Sp := fun vs H Q _ => ∃ (A : HA) (M : List (Nat × Ob)), vs = [.ref A.h] ∧ HoldX T H A M ∧ ∀ H' p, H p = none → Same H H' → H' p = some (.tup [.int (usd M : Nat), .int (cnt M : Nat)]) → Q (.ref p) H'
theorem ok_Heap_used (T : Txt K mg) : FnOk P w K mg base CX0 5 T.f_Heap_used T.d_Heap_used ["self"] (sp_Heap_used T) := by
  refine T.k_Heap_used.ok sc_Heap_used (fun vs H Q E h => ?_) (fun cdv A outer s H vs Q E hr h => ?_)
  · obtain ⟨A, M, rfl, _⟩ := h
    rfl
  · obtain ⟨A, M, rfl, hx, q⟩ := h
    refine ⟨_, (pss_cons (ps_set (i := 1) sc_Heap_used.nd rfl (.inl rfl) (pe_meth0 (pv 0) T.cl_Heap T.me_Heap_numbers (ok_Heap_numbers T) (hr.mono (by decide)) T.b_Heap_numbers .nil pass0))
      (pss_one (ps_ret (pe_tup (pa_cons (pe_callB (cr_sum rfl) (by rfl) T.m_sum (by decide +kernel) (pa_cons (pe_lc (own := [("number", 2)]) (g := gName 2) (tt := tYes) rfl sc_Heap_used.nd (pi_list (pv 1)) (blkOk_by (own := [("number", 2)]) (N := ["self", "numbers", "number"]) (sc := defScope s_Heap_used) (by decide +kernel)) (fun _ _ _ _ _ => pg_name (i := 2) sc_Heap_used.nd rfl (Or.inl rfl)) (fun _ _ _ _ _ => pts_nil) (fun _ _ _ _ _ => (pe_op op_add (pe_glob (v := .int _) rfl T.g_HEAD_CELLS ⟨_, rfl⟩) (pe_meth (pv 0) T.cl_Heap T.me_Heap_size (ok_Heap_size T) (hr.mono (by decide)) T.b_Heap_size .nil pass0 (pa_cons (pv 2) pa_nil))))) pa_nil)) (pa_cons (pe_callB (lenLK K) (by rfl) T.m_len (by decide +kernel) (pa_cons (pv 1) pa_nil)) pa_nil)))))), ?_⟩
    obtain ⟨S, b, tm, f, pos, h⟩ := id hx
    obtain ⟨dx, ho⟩ := h.at_.ob
    walk_at "rd"
    refine rdSeq ?_
    walk_at "rd"
    refine i_meth ho rfl ⟨A, M, rfl, hx, fun p hp => ?_⟩
    walk_at "rd"
    have s1 : Same H (upd H p (.lst ((numL M).map fun n => V.int (n : Nat)))) := same_new hp
    have hpat : upd H p (.lst ((numL M).map fun n => V.int (n : Nat))) p = some (.lst ((numL M).map fun n => V.int (n : Nat))) := upd_same
    generalize upd H p (.lst ((numL M).map fun n => V.int (n : Nat))) = H1 at s1 hpat
    refine ⟨⟨_, sqL_of hpat⟩, i_lcL (walk_listL (l := numL M) (r := fun n => V.int (n : Nat))) (fun n => .int ((3 + lenOf M n : Nat) : Int)) (line5' (Nat.le_trans numL_le (by decide))) (fun D ys hD => sqL_of (same_new hD _ _ hpat)) (fun n hn H2 Q' sm q' => ?_) (fun D hD => ?_)⟩
    · walk_at "rd"
      obtain ⟨_, o, hm⟩ := mem_numL.mp hn
      refine i_meth (sm _ _ (s1 _ _ ho)) rfl ⟨A, M, n, o, rfl, ⟨S, b, tm, f, pos, h.same (s1.trans sm)⟩, hm, ?_⟩
      rw [lenOf_eq h.rep.nk hm] at q'
      walk_at "rd"
      rw [show (3 : Int) + (o.vals.length : Nat) = ((3 + o.vals.length : Nat) : Int) by omega]
      exact q'
    · refine ⟨D, (numL M).map fun n => ((3 + lenOf M n : Nat) : Int), rfl, sqL_of (by rw [upd_same, List.map_map]; rfl), ?_⟩
      rw [numL_sum h.rep.nk h.rep.rng]
      refine i_lenL (sqL_of (same_new hD _ _ hpat)) ?_
      intro t ht
      rw [List.length_map, numL_cnt h.rep.nk h.rep.rng]
      exact q _ t (by have := (s1.trans (same_new hD)).free ht; exact this) ((s1.trans (same_new hD)).trans (same_new ht)) upd_same
theorem i_dgetI {H : Hp} {a : Addr} {kvs : List (Key × V)} {k : Int} {v : V} {Q : VK} (h : Rd H a (.dK kvs)) (e : valV kvs (.inl k) = some v) (q : Q v H) : rDGet (.ref a) (.int k) H Q := ⟨a, v, rfl, .inl ⟨kvs, .inl k, h, rfl, e.symm⟩, q⟩
theorem i_dputI {H : Hp} {a : Addr} {kvs : List (Key × V)} {k : Int} {v : V} {Q : Hp → Prop} (h : H a = some (.dK kvs)) (hl : kvs.length < sizeLine) (q : Q (upd H a (.dK (putK kvs (.inl k) v)))) : rDPut (.ref a) (.int k) v H Q := ⟨a, _, rfl, DPut.k (k := .inl k) h hl, q⟩
theorem tmK_get {n : Nat} : ∀ tm : Tm, valV (tmK tm) (.inl (n : Int)) = (tm.find? fun e => decide (e.1 = n)).map fun e => .ref e.2.1
  | [] => rfl
  | e :: t => by
    have ih := tmK_get (n := n) t
    unfold tmK at ih ⊢
    rw [List.map_cons]
    by_cases h : e.1 = n
    · rw [valV_pos (by show (Sum.inl (e.1 : Int) : Key) = _; rw [h]), List.find?_cons_of_pos (by simpa using h)]; rfl
    · rw [valV_neg (by show ¬ (Sum.inl (e.1 : Int) : Key) = _; intro z; injection z with z; exact h (by omega)), ih, List.find?_cons_of_neg (by simpa using h)]
theorem tmK_put {n : Nat} {a : Addr} {vs : List Int} {tm : Tm} (h : tm.find? (fun e => decide (e.1 = n)) = none) : putK (tmK tm) (.inl (n : Int)) (.ref a) = tmK (tm ++ [(n, a, vs)]) := by
  unfold putK
  rw [if_neg]
  · unfold tmK
    rw [List.map_append]; rfl
  · rw [valV_any, tmK_get, h]; simp
theorem nodup_bound : ∀ (n : Nat) {l : List Nat}, l.Nodup → (∀ x ∈ l, x < n) → l.length ≤ n
  | 0, l, _, h => by
    cases l with
    | nil => exact Nat.le_refl _
    | cons a t => exact absurd (h a List.mem_cons_self) (by omega)
  | n + 1, l, nd, h => by
    have h1 := nodup_bound n (l := l.erase n) (nd.erase n) fun x hx => by
      have h2 := (nd.mem_erase_iff).mp hx
      have := h x h2.2
      have := h2.1
      omega
    by_cases hn : n ∈ l
    · rw [List.length_erase_of_mem hn] at h1
      omega
    · rw [List.erase_of_not_mem hn] at h1
      omega
theorem TmOk.len {H : Hp} {l : Addr} {tm : Tm} (h : TmOk H l tm) : tm.length ≤ 62 := by
  have := nodup_bound 62 h.nk fun x hx => by
    obtain ⟨e, he, rfl⟩ := List.mem_map.mp hx
    have := h.kr e he
    omega
  rw [List.length_map] at this
  exact this
theorem HeapAt.nes {T : Txt K mg} {H : Hp} {A : HA} {S : CS} {b : Bool} {tm : Tm} (h : HeapAt T H A S b tm) : A.h ≠ A.dt ∧ A.c ≠ A.dt ∧ A.l ≠ A.dt ∧ A.j ≠ A.dt ∧ A.h ≠ A.c ∧ A.h ≠ A.l ∧ A.j ≠ A.c ∧ A.j ≠ A.l := by
  obtain ⟨dx, ho⟩ := h.ob
  obtain ⟨dc, hc⟩ := h.cs.ob
  obtain ⟨dj, hj⟩ := h.jr
  refine ⟨ne_of ho h.td (by intro z; cases z), ne_of hc h.td (by intro z; cases z), ne_of h.cs.ws h.td (by intro z; cases z), ne_of hj h.td (by intro z; cases z), fun e => ?_, ne_of ho h.cs.ws (by intro z; cases z), jrn_ne_cells hj hc, ne_of hj h.cs.ws (by intro z; cases z)⟩
  rw [e, hc] at ho
  injection ho with ho
  injection ho with _ _ ho
  exact absurd (congrArg List.length ho) (by show ¬ (3 = 4); decide)
/-- the temps' dict is put anew -/
theorem HeapAt.dict {T : Txt K mg} {H : Hp} {A : HA} {S : CS} {b : Bool} {tm tm' : Tm} (h : HeapAt T H A S b tm) (k : TmOk H A.l tm') : HeapAt T (upd H A.dt (.dK (tmK tm'))) A S b tm' := by
  obtain ⟨n1, n2, n3, n4, _⟩ := h.nes
  obtain ⟨dx, ho⟩ := h.ob
  exact ⟨⟨dx, by rw [upd_ne n1]; exact ho⟩, h.cs.keep (Kp.set (X := [A.dt]) (by simp)) (by simpa using n2) (by simpa using n3), h.jr.keep (Kp.set (X := [A.dt]) (by simp)) (by simpa using n4), h.sz, upd_same, ⟨fun e he => by
    rw [upd_ne (ne_of (k.tl e he) h.td (by intro z; cases z))]; exact k.tl e he, k.nl, k.nd, k.nk, k.kr, k.bf⟩⟩
theorem find_none_mem {tm : Tm} {n : Nat} (h : tm.find? (fun e => decide (e.1 = n)) = none) : n ∉ tm.map (·.1) := fun hm => by
  obtain ⟨e, he, rfl⟩ := List.mem_map.mp hm
  exact absurd (decide_eq_true rfl) (List.find?_eq_none.mp h e he)
theorem find_some_mem {tm : Tm} {n : Nat} {e : Nat × Addr × List Int} (h : tm.find? (fun e => decide (e.1 = n)) = some e) : e ∈ tm ∧ e.1 = n := ⟨List.mem_of_find?_eq_some h, of_decide_eq_true (List.find?_some (p := fun e : Nat × Addr × List Int => decide (e.1 = n)) h)⟩
theorem find_in {tm : Tm} (nk : (tm.map (·.1)).Nodup) : ∀ {e : Nat × Addr × List Int}, e ∈ tm → tm.find? (fun x => decide (x.1 = e.1)) = some e := by
  induction tm with
  | nil => intro e h; exact nomatch h
  | cons x t ih =>
    intro e h
    rw [List.map_cons, List.nodup_cons] at nk
    rcases List.mem_cons.mp h with rfl | h
    · rw [List.find?_cons_of_pos (by simp)]
    · rw [List.find?_cons_of_neg (by
        simp only [decide_eq_true_eq]
        intro z
        exact nk.1 (by rw [z]; exact List.mem_map_of_mem (f := (·.1)) h)), ih nk.2 h]
theorem TmOk.add {H : Hp} {l : Addr} {tm : Tm} (k : TmOk H l tm) {n : Nat} {a : Addr} {vs : List Int} (hn : n ≤ 61) (h : tm.find? (fun e => decide (e.1 = n)) = none) (ha : H a = some (.lst (vs.map V.int))) (al : a ≠ l) (an : ∀ e ∈ tm, e.2.1 ≠ a) : TmOk H l (tm ++ [(n, a, vs)]) := by
  refine ⟨fun e he => ?_, fun e he => ?_, ?_, ?_, fun e he => ?_, ?_⟩
  · rcases List.mem_append.mp he with he | he
    · exact k.tl e he
    · rw [List.mem_singleton.mp he]; exact ha
  · rcases List.mem_append.mp he with he | he
    · exact k.nl e he
    · rw [List.mem_singleton.mp he]; exact al
  · rw [List.map_append]
    refine List.nodup_append.mpr ⟨k.nd, by simp, fun x hx y hy e => ?_⟩
    obtain ⟨z, hz, rfl⟩ := List.mem_map.mp hx
    have : y = a := by simpa using hy
    exact an z hz (e.trans this)
  · rw [List.map_append]
    refine List.nodup_append.mpr ⟨k.nk, by simp, fun x hx y hy e => ?_⟩
    have : y = n := by simpa using hy
    exact find_none_mem h (by rw [← this, ← e]; exact hx)
  · rcases List.mem_append.mp he with he | he
    · exact k.kr e he
    · rw [List.mem_singleton.mp he]; exact hn
  · obtain ⟨x, vs, h1, h2⟩ := k.bf
    exact ⟨x, vs, List.mem_append_left _ h1, h2⟩
theorem tval_add {tm : Tm} {n m : Nat} {a : Addr} {vs : List Int} : tval (tm ++ [(n, a, vs)]) m = match tval tm m with
    | some x => some x
    | none => if n = m then some vs else none := by
  unfold tval
  rw [List.find?_append]
  cases e : tm.find? fun e => decide (e.1 = m) with
  | some x => rfl
  | none =>
    by_cases h : n = m
    · rw [if_pos h]
      rw [Option.none_or, List.find?_cons_of_pos (by simpa using h)]; rfl
    · rw [if_neg h]
      rw [Option.none_or, List.find?_cons_of_neg (by simpa using h)]; rfl
/-- a value of the kind TEMP that was not looked at is 0 -/
theorem Rep.add {W : List Int} {f : Nat} {pos : Nat → Nat} {M : List (Nat × Ob)} {tm : Tm} (R : Rep W f pos M tm) {n : Nat} {o : Ob} {a : Addr} (hm : (n, o) ∈ M) (h : tm.find? (fun e => decide (e.1 = n)) = none) : Rep W f pos M (tm ++ [(n, a, List.replicate o.vals.length 0)]) := by
  refine ⟨R.f2, R.half, R.nk, R.rng, R.buf, R.non, R.ob, fun m u hu ku => ?_, R.us, R.dj, R.le⟩
  have h0 := R.tmp m u hu ku
  rw [tval_add]
  cases e : tval tm m with
  | some x => rw [e] at h0; exact h0
  | none =>
    rw [e] at h0
    by_cases hn : n = m
    · subst hn
      obtain rfl := mem_uniq R.nk hm hu
      rw [if_pos rfl]
      exact h0
    · rw [if_neg hn]; exact h0
theorem own_add {A : HA} {tm : Tm} {n : Nat} {a : Addr} {vs : List Int} {x : Addr} (h : x ∈ own A (tm ++ [(n, a, vs)])) : x ∈ own A tm ∨ x = a := by
  unfold own at h ⊢
  rw [List.map_append] at h
  simp only [List.mem_cons, List.mem_append, List.map_cons, List.map_nil, List.not_mem_nil, or_false] at h ⊢
  rcases h with h | h | h | h | h <;> simp [h]
theorem own_mem {A : HA} {tm : Tm} {e : Nat × Addr × List Int} (h : e ∈ tm) : e.2.1 ∈ own A tm := by
  unfold own
  exact List.mem_cons_of_mem _ (List.mem_cons_of_mem _ (List.mem_cons_of_mem _ (List.mem_map_of_mem (f := (·.2.1)) h)))
theorem getD_setE {ws : List Int} {i : Nat} {w : Int} (h : i < ws.length) : (ws.set i w).getD i 0 = w := by rw [List.getD_eq_getElem?_getD, List.getElem?_set_self h]; rfl
theorem getD_setN {ws : List Int} {i j : Nat} {w : Int} (h : i ≠ j) : (ws.set i w).getD j 0 = ws.getD j 0 := by rw [List.getD_eq_getElem?_getD, List.getElem?_set_ne h, ← List.getD_eq_getElem?_getD]
def wlog : CS → List (Nat × Int) → CS × Bool
  | S, [] => (S, true)
  | S, p :: t => if (writeS S p.1 p.2).2 = true then wlog (writeS S p.1 p.2).1 t else ((writeS S p.1 p.2).1, false)
theorem wlog_app : ∀ (a : List (Nat × Int)) (S : CS) (t : List (Nat × Int)), wlog S (a ++ t) = if (wlog S a).2 = true then wlog (wlog S a).1 t else ((wlog S a).1, false)
  | [], S, t => by
    show wlog S t = _
    rw [if_pos (show (wlog S []).2 = true from rfl)]; rfl
  | p :: a, S, t => by
    show wlog S (p :: (a ++ t)) = _
    by_cases e : (writeS S p.1 p.2).2 = true
    · have h1 : wlog S (p :: (a ++ t)) = wlog (writeS S p.1 p.2).1 (a ++ t) := if_pos e
      have h2 : wlog S (p :: a) = wlog (writeS S p.1 p.2).1 a := if_pos e
      rw [h1, h2, wlog_app a]
    · have h1 : wlog S (p :: (a ++ t)) = ((writeS S p.1 p.2).1, false) := if_neg e
      have h2 : wlog S (p :: a) = ((writeS S p.1 p.2).1, false) := if_neg e
      rw [h1, h2, if_neg (by simp)]
theorem wlog_len : ∀ (a : List (Nat × Int)) (S : CS), (wlog S a).1.words.length = S.words.length
  | [], _ => rfl
  | p :: a, S => by
    by_cases e : (writeS S p.1 p.2).2 = true
    · have h2 : wlog S (p :: a) = wlog (writeS S p.1 p.2).1 a := if_pos e
      rw [h2, wlog_len a, writeS_len]
    · have h2 : wlog S (p :: a) = ((writeS S p.1 p.2).1, false) := if_neg e
      rw [h2]; exact writeS_len
def applyL (W : List Int) (l : List (Nat × Int)) : List Int := l.foldl (fun W p => W.set p.1 p.2) W
theorem applyL_len : ∀ (l : List (Nat × Int)) (W : List Int), (applyL W l).length = W.length
  | [], _ => rfl
  | p :: t, W => by
    show (applyL (W.set p.1 p.2) t).length = _
    rw [applyL_len t, List.length_set]
theorem applyL_out {i : Nat} : ∀ (l : List (Nat × Int)) (W : List Int), (∀ p ∈ l, p.1 ≠ i) → (applyL W l).getD i 0 = W.getD i 0
  | [], _, _ => rfl
  | p :: t, W, h => by
    show (applyL (W.set p.1 p.2) t).getD i 0 = _
    rw [applyL_out t _ fun q hq => h q (List.mem_cons_of_mem _ hq), getD_setN (h p List.mem_cons_self)]
theorem applyL_app {l t : List (Nat × Int)} {W : List Int} : applyL W (l ++ t) = applyL (applyL W l) t := List.foldl_append
theorem wlog_ok : ∀ {l : List (Nat × Int)} {S : CS}, (wlog S l).2 = true → (wlog S l).1.words = applyL S.words l ∧ (S.on = true → (wlog S l).1.on = true)
  | [], _, _ => ⟨rfl, id⟩
  | p :: t, S, h => by
    by_cases e : (writeS S p.1 p.2).2 = true
    · have h2 : wlog S (p :: t) = wlog (writeS S p.1 p.2).1 t := if_pos e
      rw [h2] at h ⊢
      obtain ⟨a, b⟩ := wlog_ok (l := t) h
      obtain ⟨c, d, _⟩ := writeS_on e
      exact ⟨by rw [a, c]; rfl, fun _ => b d⟩
    · have h2 : wlog S (p :: t) = ((writeS S p.1 p.2).1, false) := if_neg e
      rw [h2] at h; cases h
theorem wlog_up : ∀ {l : List (Nat × Int)} {W : List Int}, wlog ⟨W, none, true⟩ l = (⟨applyL W l, none, true⟩, true)
  | [], _ => rfl
  | p :: t, W => by
    show wlog ⟨W.set p.1 p.2, none, true⟩ t = _
    rw [wlog_up]; rfl
def wordsAt : Nat → List Int → List (Nat × Int)
  | _, [] => []
  | b, w :: t => (b, w) :: wordsAt (b + 1) t
theorem wordsAt_app : ∀ (a : List Int) (b : Nat) (t : List Int), wordsAt b (a ++ t) = wordsAt b a ++ wordsAt (b + a.length) t
  | [], _, _ => rfl
  | w :: a, b, t => by
    show (b, w) :: wordsAt (b + 1) (a ++ t) = (b, w) :: wordsAt (b + 1) a ++ _
    rw [wordsAt_app a, List.length_cons, show b + 1 + a.length = b + (a.length + 1) by omega]; rfl
theorem wordsAt_mem : ∀ {l : List Int} {b : Nat} {p : Nat × Int}, p ∈ wordsAt b l → b ≤ p.1 ∧ p.1 < b + l.length
  | w :: t, b, p, h => by
    rcases List.mem_cons.mp h with rfl | h
    · exact ⟨Nat.le_refl _, by rw [List.length_cons]; show b < _; omega⟩
    · have := wordsAt_mem (l := t) h
      rw [List.length_cons]
      omega
theorem applyL_in : ∀ {l : List Int} {b k : Nat} {W : List Int}, k < l.length → b + l.length ≤ W.length → (applyL W (wordsAt b l)).getD (b + k) 0 = l.getD k 0
  | w :: t, b, 0, W, _, hz => by
    show (applyL (W.set b w) (wordsAt (b + 1) t)).getD b 0 = w
    rw [applyL_out _ _ fun p hp => by have := wordsAt_mem hp; omega]
    rw [List.length_cons] at hz
    exact getD_setE (by omega)
  | w :: t, b, k + 1, W, hk, hz => by
    show (applyL (W.set b w) (wordsAt (b + 1) t)).getD (b + (k + 1)) 0 = t.getD k 0
    rw [List.length_cons] at hk hz
    rw [show b + (k + 1) = b + 1 + k by omega]
    exact applyL_in (l := t) (by omega) (by rw [List.length_set]; omega)
theorem HeapAt.cell {T : Txt K mg} {H H' : Hp} {A : HA} {S S' : CS} {b : Bool} {tm : Tm} (h : HeapAt T H A S b tm) (c : CellsAt T.c_Cells H' A.c A.l S') (hz : S'.words.length = 1002) (k : Kp [A.c, A.l] H H') : HeapAt T H' A S' b tm := by
  obtain ⟨n1, n2, n3, n4, n5, n6, n7, n8⟩ := h.nes
  obtain ⟨dx, ho⟩ := h.ob
  obtain ⟨dc, hc⟩ := h.cs.ob
  refine ⟨⟨dx, k _ _ (by simp [n5, n6]) ho⟩, c, h.jr.keep k (by simp [n7, n8]), hz, k _ _ (by simp [Ne.symm n2, Ne.symm n3]) h.td, ⟨fun e he => k _ _ ?_ (h.tk.tl e he), h.tk.nl, h.tk.nd, h.tk.nk, h.tk.kr, h.tk.bf⟩⟩
  have := ne_of (h.tk.tl e he) hc (by intro z; cases z)
  simp [h.tk.nl e he, this]
theorem own_kp {H H' : Hp} {A : HA} {tm : Tm} (k : Kp [A.c, A.l] H H') : Mvs H (own A tm) H' (own A tm) := ⟨k.mono (by unfold own; simp +contextual), fun _ h => .inl h⟩
theorem Rep.agree {W W' : List Int} {f : Nat} {pos : Nat → Nat} {M : List (Nat × Ob)} {tm : Tm} (R : Rep W f pos M tm) (h : ∀ i, i = 81 ∨ (tb f ≤ i ∧ i < rm f + usd M) → W'.getD i 0 = W.getD i 0) : Rep W' f pos M tm := by
  have hrt : rm f = tb f + 60 := by unfold rm tb; omega
  refine ⟨R.f2, by rw [h _ (.inl rfl)]; exact R.half, R.nk, R.rng, R.buf, fun n h1 h2 h3 => by rw [h _ (.inr ⟨by omega, by omega⟩)]; exact R.non n h1 h2 h3, fun n o ho hn => ?_, R.tmp, R.us, R.dj, R.le⟩
  have B := R.ob n o ho hn
  have u := R.us n o ho hn
  have r := R.rng n o ho
  exact ⟨by rw [h _ (.inr ⟨by omega, by omega⟩)]; exact B.tab, by rw [h _ (.inr ⟨by omega, by omega⟩)]; exact B.kd, by rw [h _ (.inr ⟨by omega, by omega⟩)]; exact B.ow, by rw [h _ (.inr ⟨by omega, by omega⟩)]; exact B.sz, fun k j hj => by rw [h _ (.inr ⟨by omega, by omega⟩)]; exact B.vs k j hj⟩
def headW (o : Ob) : List Int := o.kind :: o.owner :: (o.vals.length : Int) :: (if o.kind = -2 then [] else o.vals)
theorem headW_len {o : Ob} : (headW o).length ≤ 3 + o.vals.length := by
  unfold headW
  rw [List.length_cons, List.length_cons, List.length_cons]
  split
  · show 0 + 1 + 1 + 1 ≤ _; omega
  · omega
def newOb (kind owner : Int) (size : Nat) : Ob := ⟨kind, owner, List.replicate size 0⟩
def makeL (f u n : Nat) (o : Ob) : List (Nat × Int) := wordsAt (rm f + u) (headW o) ++ [(tb f + n - 1, ((u + 1 : Nat) : Int))]
structure Least (M : List (Nat × Ob)) (n : Nat) : Prop where
  lo : 1 ≤ n
  hi : n ≤ 60
  out : ∀ o, (n, o) ∉ M
  le : ∀ m, 1 ≤ m → m < n → ∃ o, (m, o) ∈ M
def tmDrop (tm : Tm) (n : Nat) : Tm := tm.filter fun e => decide (e.1 ≠ n)
theorem tmK_drop {tm : Tm} {n : Nat} : dropK (tmK tm) (.inl (n : Int)) = tmK (tmDrop tm n) := by
  unfold dropK tmK tmDrop
  rw [List.filter_map]
  congr 1
  refine List.filter_congr fun e _ => ?_
  show decide ((Sum.inl (e.1 : Int) : Key) ≠ Sum.inl (n : Int)) = decide (e.1 ≠ n)
  by_cases he : e.1 = n
  · rw [he]; simp
  · rw [decide_eq_true he, decide_eq_true]
    intro z; injection z with z; exact he (by omega)
theorem TmOk.drop {H : Hp} {l : Addr} {tm : Tm} (k : TmOk H l tm) {n : Nat} (hn : n ≠ 61) : TmOk H l (tmDrop tm n) := by
  unfold tmDrop
  refine ⟨fun e he => k.tl e (List.mem_filter.mp he).1, fun e he => k.nl e (List.mem_filter.mp he).1, List.Sublist.nodup (List.Sublist.map _ List.filter_sublist) k.nd, List.Sublist.nodup (List.Sublist.map _ List.filter_sublist) k.nk, fun e he => k.kr e (List.mem_filter.mp he).1, ?_⟩
  obtain ⟨a, vs, h1, h2⟩ := k.bf
  exact ⟨a, vs, List.mem_filter.mpr ⟨h1, decide_eq_true (Ne.symm hn)⟩, h2⟩
theorem tmDrop_none {tm : Tm} {n : Nat} (h : tm.find? (fun e => decide (e.1 = n)) = none) : tmDrop tm n = tm := by
  unfold tmDrop
  rw [List.filter_eq_self]
  intro e he
  have := List.find?_eq_none.mp h e he
  simpa using this
theorem own_drop {A : HA} {tm : Tm} {n : Nat} {x : Addr} (h : x ∈ own A (tmDrop tm n)) : x ∈ own A tm := by
  unfold own tmDrop at h
  rcases List.mem_cons.mp h with h | h
  · unfold own; simp [h]
  rcases List.mem_cons.mp h with h | h
  · unfold own; simp [h]
  rcases List.mem_cons.mp h with h | h
  · unfold own; simp [h]
  obtain ⟨e, he, rfl⟩ := List.mem_map.mp h
  exact own_mem (List.mem_filter.mp he).1
theorem inV_intsH {a : Int} {l : List Int} : inV (.int a) (l.map V.int) = decide (a ∈ l) := by
  unfold inV
  rw [List.any_map, Bool.eq_iff_iff, List.any_eq_true, decide_eq_true_eq]
  constructor
  · rintro ⟨x, hx, e⟩
    have e : (x == a) = true := e
    rw [beq_iff_eq] at e
    rw [← e]; exact hx
  · intro h
    exact ⟨a, h, by show (a == a) = true; simp⟩
theorem flat_ints {l : List Int} : (l.map V.int).all flatV = true := by
  rw [List.all_map, List.all_eq_true]; intro x _; rfl
def sp_Heap_make {K : PySem.W.Frag} {mg : Str → Option Value} (T : Txt K mg) : Sp := fun vs H Q E => ∃ (A : HA) (S : CS) (b : Bool) (tm : Tm) (f : Nat) (pos : Nat → Nat) (M : List (Nat × Ob)) (kind owner : Int) (size : Nat), vs = [.ref A.h, .int kind, .int owner, .int size] ∧ Hold T H A S b tm f pos M ∧
  ((cnt M = 60 ∨ 400 < usd M + 3 + size) → ∀ H' dx, Same H H' → H' dx = none → E (.ref T.c_Fault) (some dx) (upd H' dx (.xd [("code", .int (-6))]))) ∧
  (¬ (cnt M = 60 ∨ 400 < usd M + 3 + size) → ∀ H' tm' n, Least M n → HeapAt T H' A (wlog S (makeL f (usd M) n (newOb kind owner size))).1 b tm' → Mvs H (own A tm) H' (own A tm') → ((wlog S (makeL f (usd M) n (newOb kind owner size))).2 = true → tm' = tmDrop tm n → Q (.int n) H') ∧ ((wlog S (makeL f (usd M) n (newOb kind owner size))).2 = false → E (.ref T.c_PowerCut) none H'))
theorem least_ex {M : List (Nat × Ob)} (nk : (M.map (·.1)).Nodup) (rng : ∀ n o, (n, o) ∈ M → 1 ≤ n ∧ n ≤ 61) (h : cnt M ≠ 60) : ∃ n, Least M n := by
  have hex : ∃ n, 1 ≤ n ∧ n ≤ 60 ∧ (M.any fun e => decide (e.1 = n)) = false := by
    refine Classical.byContradiction fun hn => h ?_
    have all : ∀ n, 1 ≤ n → n ≤ 60 → (M.any fun e => decide (e.1 = n)) = true := fun n h1 h2 => by
      cases e : M.any fun e => decide (e.1 = n) with
      | true => rfl
      | false => exact absurd ⟨n, h1, h2, e⟩ hn
    rw [← numL_cnt nk rng]
    unfold numL
    rw [List.filter_eq_self.mpr, List.length_map, List.length_range]
    intro n hn
    obtain ⟨i, hi, rfl⟩ := List.mem_map.mp hn
    have := List.mem_range.mp hi
    exact all _ (by omega) (by omega)
  have key : ∀ k n, n = k → 1 ≤ n → n ≤ 60 → (M.any fun e => decide (e.1 = n)) = false → ∃ m, Least M m := by
    intro k
    induction k using Nat.strongRecOn with
    | _ k ih =>
      rintro n rfl h1 h2 h3
      by_cases hl : ∃ m, 1 ≤ m ∧ m < n ∧ (M.any fun e => decide (e.1 = m)) = false
      · obtain ⟨m, m1, m2, m3⟩ := hl
        exact ih m m2 m rfl m1 (by omega) m3
      · refine ⟨n, h1, h2, (fun o ho => by rw [mem_any.mpr ⟨o, ho⟩] at h3; cases h3), fun m m1 m2 => ?_⟩
        cases e : M.any fun e => decide (e.1 = m) with
        | true => exact mem_any.mp e
        | false => exact absurd ⟨m, m1, m2, e⟩ hl
  obtain ⟨n, h1, h2, h3⟩ := hex
  exact key n n rfl h1 h2 h3
inductive MidW (H : Hp) (vs : List V) (lw : Addr) (ws : List Int) : L2.St → Hp → Prop where
  | mk (H2 : Hp) (fr : H lw = none) (s : Same H H2) (at_ : H2 lw = some (.lst (ws.map V.int))) : MidW H vs lw ws (vs.map some ++ [none, none, none, none]) H2
/-- i words are written -/
inductive MidL (T : Txt K mg) (H : Hp) (A : HA) (S : CS) (b : Bool) (tm : Tm) (f : Nat) (pos : Nat → Nat) (M : List (Nat × Ob)) (bs : Nat) (ws : List Int) (lw : Addr) (vs : List V) (i : Nat) : L2.St → Hp → Prop where
  | mk (H2 : Hp) (S' : CS) (y z : Option V) (h : Hold T H2 A S' b tm f pos M) (es : wlog S (wordsAt bs (ws.take i)) = (S', true)) (at_ : H2 lw = some (.lst (ws.map V.int))) (mv : Mvs H (own A tm) H2 (own A tm)) : MidL T H A S b tm f pos M bs ws lw vs i (vs.map some ++ [y, z, none, none]) H2
theorem ok_Heap_make (T : Txt K mg) : FnOk P w K mg base (L2.CX P w) 6 T.f_Heap_make T.d_Heap_make ["self", "kind", "owner", "size"] (sp_Heap_make T) := by
  refine T.k_Heap_make.okX sc_Heap_make (fun vs H Q E h => ?_) (fun cdv A outer s H vs Q E hr h => ?_)
  · obtain ⟨A, S, b, tm, f, pos, M, kind, owner, size, rfl, _⟩ := h
    rfl
  · obtain ⟨A, S, b, tm, f, pos, M, kind, owner, size, rfl, h, q1, q2⟩ := h
    refine ⟨_, (pss_cons (ps_asg (pe_meth0 (pv 0) T.cl_Heap T.me_Heap_used (ok_Heap_used T) (hr.mono (by decide)) T.b_Heap_used .nil pass0) (pg_tup rfl (pgs_cons (pg_name (i := 4) sc_Heap_make.nd rfl (Or.inl rfl)) (pgs_cons (pg_name (i := 5) sc_Heap_make.nd rfl (Or.inl rfl)) pgs_nil))))
      (pss_cons (ps_if (PW.pt (pw_or (pt_cmpR op_eq (pv 5) (pe_glob (v := .int _) rfl T.g_MOST_OBJECTS ⟨_, rfl⟩) (nomark _)) (pw_or1 (pt_cmpR op_gt (pe_op op_add (pe_op op_add (pv 4) (pe_glob (v := .int _) rfl T.g_HEAD_CELLS ⟨_, rfl⟩)) (pv 3)) (pe_glob (v := .int _) rfl T.g_MOST_CELLS ⟨_, rfl⟩) (nomark _))))) (pss_one (ps_raise rfl (takes_of rfl rfl rfl rfl) (pmk_oex T.ox_Fault T.in_Fault T.ti_Fault (ok_Fault_init T) (hr.mono (by decide)) T.b_Fault_init .nil pass0 rfl T.g_Fault (pa_cons (pe_glob (v := .int _) rfl T.g_ROOM ⟨_, rfl⟩) pa_nil)))) pss_nil)
      (pss_cons (ps_set (i := 6) sc_Heap_make.nd rfl (.inl rfl) (pe_meth0 (pv 0) T.cl_Heap T.me_Heap__half (ok_Heap__half T) (hr.mono (by decide)) T.b_Heap__half .nil pass0))
      (pss_cons (ps_set (i := 7) sc_Heap_make.nd rfl (.inl rfl) (pe_lst (pa_cons (pv 1) (pa_cons (pv 2) (pa_cons (pv 3) pa_nil)))))
      (C8.pss_cut (ps_if (pt_cmpR op_ne (pv 1) (pe_glob (v := .int _) rfl T.g_TEMP ⟨_, rfl⟩) (nomark _)) (pss_one (ps_expr (pe_bmK K PySem.F.plainAttrs_list PySem.F.slot_list_extend PySem.F.type_list_extend mt_extend (pv 7) (pa_cons (pe_op op_rep (pe_lst (pa_cons pe_int pa_nil)) (pv 3)) pa_nil)))) pss_nil)
      (pss_cons (ps_for (passes_of rfl) rfl (pi_enum (by rfl) T.m_enumerate (pa_cons (pv 7) pa_nil)) (pg_tup rfl (pgs_cons (pg_name (i := 8) sc_Heap_make.nd rfl (Or.inl rfl)) (pgs_cons (pg_name (i := 9) sc_Heap_make.nd rfl (Or.inl rfl)) pgs_nil))) (pss_one (ps_expr (pe_methS (pe_fldK K (pv 0) rfl) T.cl_Cells T.me_Cells_write (ok_Cells_write T) (hr.mono (by decide)) T.b_Cells_write (fun σ => passAt (takes_of rfl rfl rfl rfl) σ) (pa_cons (pe_op op_add (pe_op op_add (pe_meth (pv 0) T.cl_Heap T.me_Heap__room (ok_Heap__room T) (hr.mono (by decide)) T.b_Heap__room .nil pass0 (pa_cons (pv 6) pa_nil)) (pv 4)) (pv 8)) (pa_cons (pv 9) pa_nil))))))
      (pss_cons (ps_set (i := 10) sc_Heap_make.nd rfl (.inr rfl) (pe_meth0 (pv 0) T.cl_Heap T.me_Heap_numbers (ok_Heap_numbers T) (hr.mono (by decide)) T.b_Heap_numbers .nil pass0))
      (pss_cons (ps_set (i := 11) sc_Heap_make.nd rfl (.inl rfl) (pe_callB (cr_min rfl) (by rfl) T.m_min (by decide +kernel) (pa_cons (pe_lc (own := [("number", 11)]) (g := gName 11) rfl sc_Heap_make.nd (pi_range2 (by rfl) T.m_range (pa_cons pe_int (pa_cons (pe_op op_add (pe_glob (v := .int _) rfl T.g_MOST_OBJECTS ⟨_, rfl⟩) pe_int) pa_nil))) (blkOk_by (own := [("number", 11)]) (N := ["self", "kind", "owner", "size", "used", "objects", "half", "words", "index", "word", "taken", "number"]) (sc := defScope s_Heap_make) (by decide +kernel)) (fun _ _ _ _ _ => pg_name (i := 11) sc_Heap_make.nd rfl (Or.inl rfl)) (fun _ _ _ _ _ => pts_one (pt_cmpR (notIn_seqK K) (pv 11) (pv 10) rfl)) (fun _ _ _ _ _ => (pv 11))) pa_nil)))
      (pss_cons (ps_expr (pe_dpop2 (pe_fldK K (pv 0) rfl) (pv 11) pe_non ⟨rfl, rfl, rfl, rfl⟩))
      (pss_cons (ps_expr (pe_methS (pe_fldK K (pv 0) rfl) T.cl_Cells T.me_Cells_write (ok_Cells_write T) (hr.mono (by decide)) T.b_Cells_write (fun σ => passAt (takes_of rfl rfl rfl rfl) σ) (pa_cons (pe_op op_sub (pe_op op_add (pe_meth (pv 0) T.cl_Heap T.me_Heap__table (ok_Heap__table T) (hr.mono (by decide)) T.b_Heap__table .nil pass0 (pa_cons (pv 6) pa_nil)) (pv 11)) pe_int) (pa_cons (pe_op op_add (pv 4) pe_int) pa_nil))))
      (pss_one (ps_ret (pv 11))))))))))))), ?_⟩
    obtain ⟨dx, ho⟩ := h.at_.ob
    have hx : HoldX T H A M := ⟨S, b, tm, f, pos, h⟩
    walk_at "rd"
    refine rdSeq ?_
    walk_at "rd"
    refine i_meth ho rfl ⟨A, M, rfl, hx, fun H1 p hp s1 hpt => ?_⟩
    refine i_gTup2 rfl (sqT_of hpt) ?_
    have h1 := h.same s1
    clear hpt
    refine rdSeq ?_
    walk_at "rd"
    have boom : (cnt M = 60 ∨ 400 < usd M + 3 + size) → rMkO T.c_Fault (sp_Fault_init T) [] [V.int (-6)] H1 fun cls d H' => E cls d H' := fun g => i_mkO1 fun d hd => q1 g H1 d s1 hd
    refine ite2 (fun e => boom (.inl (by omega))) (fun e => ite2 (fun e2 => boom (.inr (by omega))) (fun e2 => ?_))
    clear boom q1
    have q3 := q2 (by omega)
    clear q2
    have hle : usd M + 3 + size ≤ 400 := by omega
    obtain ⟨_, ho1⟩ := h1.at_.ob
    refine rdSeq ?_
    walk_at "rd"
    refine i_meth ho1 rfl (h1.half (rdSeq ?_))
    walk_at "rd"
    intro lw hlw
    have hO : (newOb kind owner size).vals = List.replicate size 0 := rfl
    refine rdCut (MidW H1 [V.ref A.h, V.int kind, V.int owner, V.int size, V.int (usd M : Nat), V.int (cnt M : Nat), V.int f, V.ref lw] lw (headW (newOb kind owner size))) ?_ ?_
    · walk_at "rd"
      by_cases hk : kind = -2
      · rw [hk]
        walk_at "rd"
        refine .mk _ hlw (same_new hlw) (by rw [upd_same]; unfold headW newOb; rw [if_pos rfl, List.length_replicate]; rfl)
      · rw [decide_eq_false hk]
        walk_at "rd"
        refine ⟨ty_app (sqL_of upd_same), fun p2 hp2 => i_rep upd_same (by omega) (by omega) (line5 (by show 1 * _ ≤ _; omega)) fun p3 hp3 => ?_⟩
        have n2 : lw ≠ p2 := ne_of_none upd_same hp2
        have n3 : lw ≠ p3 := ne_of_none (by rw [upd_ne n2]; exact upd_same) hp3
        refine ⟨lw, p3, _, _, rfl, rfl, by rw [upd_ne n3, upd_ne n2]; exact upd_same, upd_same, line5 (by rw [rep1, List.length_replicate]; show 3 + _ ≤ _; omega), ?_⟩
        refine .mk _ hlw (fun x u hu => ?_) ?_
        · have nx : x ≠ lw := ne_of_none hu hlw
          rw [upd_ne nx]
          exact same_new hp3 _ _ (same_new hp2 _ _ (same_new hlw _ _ hu))
        · rw [upd_same, rep1]
          unfold headW
          rw [if_neg (show ¬ (newOb kind owner size).kind = -2 from hk), hO, List.length_replicate, List.map_cons, List.map_cons, List.map_cons, List.map_replicate]
          rfl
    · rintro σ H2 ⟨_, _, s2, hws⟩
      have h2 := h1.same s2
      have hlw1 : H1 lw = none := hlw
      clear hlw
      generalize hgw : headW (newOb kind owner size) = ws at hws
      have lws : ws.length ≤ 3 + size := by rw [← hgw]; have := headW_len (o := newOb kind owner size); rw [hO, List.length_replicate] at this; exact this
      have hf := h.rep.f2
      refine rdSeq ?_
      walk_at "rd"
      have mv2 : Mvs H (own A tm) H2 (own A tm) := Mvs.same (s1.trans s2)
      have nlw : lw ∉ [A.c, A.l] := by
        obtain ⟨_, hc1⟩ := h1.at_.cs.ob
        have t1 := ne_of_none hc1 hlw1
        have t2 := ne_of_none h1.at_.cs.ws hlw1
        simp [Ne.symm t1, Ne.symm t2]
      have hsplit : ∀ i (hi : i < ws.length), ws.take (i + 1) = ws.take i ++ [ws[i]] := fun i hi => by rw [List.take_add_one, List.getElem?_eq_getElem hi]; rfl
      have len1002 := h.at_.sz
      have okS : ∀ (i : Nat) (S' : CS), i ≤ ws.length → wlog S (wordsAt (rm f + usd M) (ws.take i)) = (S', true) → S'.words.length = 1002 ∧ S'.on = true ∧ Rep S'.words f pos M tm := fun i S' hi e => by
        have l1 := wlog_len (wordsAt (rm f + usd M) (ws.take i)) S
        have l2 := wlog_ok (l := wordsAt (rm f + usd M) (ws.take i)) (S := S) (by rw [e])
        rw [e] at l1 l2
        refine ⟨by rw [l1]; exact len1002, l2.2 h.on, ?_⟩
        have : S'.words = applyL S.words (wordsAt (rm f + usd M) (ws.take i)) := l2.1
        rw [this]
        refine h.rep.agree fun j hj => applyL_out _ _ fun p hp => ?_
        have := wordsAt_mem hp
        have h60 : rm f = 142 + f * 460 := rfl
        rcases hj with rfl | ⟨_, hj⟩ <;> omega
      have base : tb f + 60 = rm f := by unfold tb rm; omega
      have cutE : ∀ (a t : List (Nat × Int)) (S' : CS), wlog S a = (S', false) → wlog S (a ++ t) = (S', false) := fun a t S' e => by rw [wlog_app, e, if_neg (by simp)]
      have goS : ∀ (i : Nat) (hi : i < ws.length) (S' : CS), wlog S (wordsAt (rm f + usd M) (ws.take i)) = (S', true) → wlog S (wordsAt (rm f + usd M) (ws.take (i + 1))) = (writeS S' (rm f + usd M + i) ws[i]) := fun i hi S' e => by
        rw [hsplit i hi, wordsAt_app, wlog_app, e, if_pos rfl, List.length_take, Nat.min_eq_left (by omega)]
        show (if (writeS S' (rm f + usd M + i) ws[i]).2 = true then _ else _) = _
        by_cases e3 : (writeS S' (rm f + usd M + i) ws[i]).2 = true
        · rw [if_pos e3]
          show ((writeS S' (rm f + usd M + i) ws[i]).1, true) = _
          rw [← e3]
        · rw [if_neg e3]
          have e3 : (writeS S' (rm f + usd M + i) ws[i]).2 = false := by simpa using e3
          rw [← e3]
      obtain ⟨n0, hl0⟩ := least_ex h.rep.nk h.rep.rng (show cnt M ≠ 60 by omega)
      refine ⟨_, sqL_of hws, i_forG (walk_enum (xs := ws.map V.int)) (fun i σ H' => MidL T H A S b tm f pos M (rm f + usd M) ws lw [V.ref A.h, V.int kind, V.int owner, V.int size, V.int (usd M : Nat), V.int (cnt M : Nat), V.int f, V.ref lw] i σ H') ?_ ?_ ?_ ?_⟩
      · exact .mk H2 S none none (h.same (s1.trans s2)) rfl hws mv2
      · rintro i σ H' _ ⟨_, S', y, z, h', es, at', mv'⟩
        exact sqL_of at'
      · rintro i x σ H' H3 hi ⟨_, S', y, z, h', es, at', mv'⟩ hy
        obtain ⟨tp, x1, y1, rfl, htp, rfl, hx1, hy1⟩ := hy
        have hi : i < ws.length := by rw [List.length_map] at hi; exact hi
        cases hx1
        have hy1 : (ws.map V.int)[i]? = some y1 := hy1
        rw [List.getElem?_map, List.getElem?_eq_getElem hi] at hy1
        cases hy1
        refine i_gTup2 rfl (sqT_of upd_same) ?_
        have s3 : Same H' (upd H' tp (.tup [V.int (i : Int), V.int ws[i]])) := same_new htp
        generalize upd H' tp (.tup [V.int (i : Int), V.int ws[i]]) = H3 at s3
        have h3 := h'.same s3
        obtain ⟨_, ho3⟩ := h3.at_.ob
        obtain ⟨_, hc3⟩ := h3.at_.cs.ob
        walk_at "rd"
        refine i_fld T.cl_Heap T.nf_Heap_cells ho3 rfl (i_meth hc3 rfl (i_meth ho3 rfl ⟨A, S', b, tm, f, rfl, h3.at_, ?_⟩))
        walk_at "rd"
        refine ⟨A.c, A.l, S', rm f + usd M + i, ws[i], by rw [show ((rm f + usd M + i : Nat) : Int) = ((rm f : Nat) : Int) + (usd M : Nat) + i by omega], h3.at_.cs, by rw [h3.at_.sz]; unfold rm; omega, fun H5 hc5 kp5 => ⟨fun e5 => ?_, fun e5 => ?_⟩⟩
        · have es2 := goS i hi S' es
          have es3 : wlog S (wordsAt (rm f + usd M) (ws.take (i + 1))) = ((writeS S' (rm f + usd M + i) ws[i]).1, true) := by rw [es2, ← e5]
          obtain ⟨l1, l2, l3⟩ := okS (i + 1) _ (by omega) es3
          exact .mk H5 _ _ _ ⟨h3.at_.cell hc5 l1 kp5, l3, l2⟩ es3 (kp5 _ _ nlw (s3 _ _ at')) ((mv'.trans (Mvs.same s3)).trans (own_kp kp5))
        · have es2 := goS i hi S' es
          have es3 : wlog S (wordsAt (rm f + usd M) (ws.take (i + 1))) = ((writeS S' (rm f + usd M + i) ws[i]).1, false) := by rw [es2, ← e5]
          have es4 : wlog S (makeL f (usd M) n0 (newOb kind owner size)) = ((writeS S' (rm f + usd M + i) ws[i]).1, false) := by
            unfold makeL
            rw [hgw]
            have e6 : wordsAt (rm f + usd M) ws = wordsAt (rm f + usd M) (ws.take (i + 1)) ++ wordsAt (rm f + usd M + (ws.take (i + 1)).length) (ws.drop (i + 1)) := by rw [← wordsAt_app, List.take_append_drop]
            rw [e6, List.append_assoc]
            exact cutE _ _ _ es3
          have q4 := q3 H5 tm n0 hl0
          rw [es4] at q4
          exact (q4 (h3.at_.cell hc5 (by rw [writeS_len]; exact h3.at_.sz) kp5) ((mv'.trans (Mvs.same s3)).trans (own_kp kp5))).2 rfl
      · rintro σ H' ⟨_, S', y, z, h', es, at', mv'⟩
        rw [List.length_map, List.take_length] at es
        obtain ⟨_, ho'⟩ := h'.at_.ob
        dsimp only
        refine rdSeq ?_
        walk_at "rd"
        refine i_meth ho' rfl ⟨A, M, rfl, ⟨S', b, tm, f, pos, h'⟩, fun pn hpn => rdSeq ?_⟩
        walk_at "rd"
        have s4 : Same H' (upd H' pn (.lst ((numL M).map fun n => V.int (n : Nat)))) := same_new hpn
        have hpat : upd H' pn (.lst ((numL M).map fun n => V.int (n : Nat))) pn = some (.lst ((numL M).map fun n => V.int (n : Nat))) := upd_same
        generalize upd H' pn (.lst ((numL M).map fun n => V.int (n : Nat))) = H4 at s4 hpat
        have eL : (numL M).map (fun n => V.int (n : Nat)) = ((numL M).map fun n : Nat => (n : Int)).map V.int := by rw [List.map_map]; rfl
        rw [eL] at hpat
        refine ⟨by decide, by decide, by decide, by decide, ?_⟩
        refine i_lcF (walk_rangeL (lo := 1) (n := 60)) (fun i => !decide (i + 1 ∈ numL M)) (fun i => .int ((i + 1 : Nat) : Int)) (by rw [List.length_range]; decide) (fun _ _ _ => trivial) (fun i hi H5 Q' sm q' => ?_) (fun i hi _ H5 Q' sm q' => ?_) (fun D hD => ?_)
        · walk_at "rd"
          refine i_inL (.inl (sqL_of (sm _ _ hpat))) rfl flat_ints ?_
          rw [inV_intsH]
          have e7 : decide (1 + (i : Int) ∈ (numL M).map fun n : Nat => (n : Int)) = decide (i + 1 ∈ numL M) := by
            rw [decide_eq_decide, List.mem_map]
            constructor
            · rintro ⟨x, hx, e⟩
              have : x = i + 1 := by omega
              rw [← this]; exact hx
            · intro h
              exact ⟨_, h, by omega⟩
          rw [e7]
          walk_at "rd"
          exact q'
        · walk_at "rd"
          rw [show ((i + 1 : Nat) : Int) = 1 + (i : Int) by omega] at q'
          exact q'
        · have eF : ((List.range 60).filter fun i => !decide (i + 1 ∈ numL M)).map (fun i => V.int ((i + 1 : Nat) : Int)) = (((List.range 60).filter fun i => !decide (i + 1 ∈ numL M)).map fun i => ((i + 1 : Nat) : Int)).map V.int := by rw [List.map_map]; rfl
          rw [eF]
          have fr : ∀ m : Nat, 1 ≤ m → m ≤ 60 → ((m : Int) ∈ ((List.range 60).filter fun i => !decide (i + 1 ∈ numL M)).map (fun i => ((i + 1 : Nat) : Int)) ↔ ∀ o, (m, o) ∉ M) := fun m m1 m2 => by
            rw [List.mem_map]
            constructor
            · rintro ⟨i, hi, e⟩ o ho
              have hi := (List.mem_filter.mp hi).2
              have : m = i + 1 := by omega
              subst this
              rw [decide_eq_true (mem_numL.mpr ⟨⟨m1, m2⟩, o, ho⟩)] at hi
              cases hi
            · intro h
              refine ⟨m - 1, List.mem_filter.mpr ⟨List.mem_range.mpr (by omega), ?_⟩, by omega⟩
              rw [show m - 1 + 1 = m by omega, decide_eq_false]
              · rfl
              · intro hm
                obtain ⟨_, o, ho⟩ := mem_numL.mp hm
                exact h o ho
          have mn0 := (fr n0 hl0.lo hl0.hi).mpr hl0.out
          refine ⟨D, _, rfl, sqL_of upd_same, List.length_pos_of_mem mn0, fun m hm hall => ?_⟩
          obtain ⟨n, rfl, hL⟩ : ∃ n : Nat, m = (n : Int) ∧ Least M n := by
            obtain ⟨i, hi, rfl⟩ := List.mem_map.mp hm
            have hi60 := List.mem_range.mp (List.mem_filter.mp hi).1
            refine ⟨i + 1, rfl, by omega, by omega, (fr (i + 1) (by omega) (by omega)).mp hm, fun k k1 k2 => ?_⟩
            refine Classical.byContradiction fun hn => ?_
            have := hall _ ((fr k k1 (by omega)).mpr fun o ho => hn ⟨o, ho⟩)
            omega
          clear hall hm mn0 fr eF hl0 n0
          have s5 : Same H' (upd H4 D (.lst ((((List.range 60).filter fun i => !decide (i + 1 ∈ numL M)).map fun i => ((i + 1 : Nat) : Int)).map V.int))) := s4.trans (same_new hD)
          generalize upd H4 D (.lst ((((List.range 60).filter fun i => !decide (i + 1 ∈ numL M)).map fun i => ((i + 1 : Nat) : Int)).map V.int)) = H5 at s5
          have h5 := h'.same s5
          obtain ⟨_, ho5⟩ := h5.at_.ob
          have mv5 := mv'.trans (Mvs.same s5)
          have hn := hL.hi
          have last : ∀ (H6 : Hp), HeapAt T H6 A S' b (tmDrop tm n) → Mvs H (own A tm) H6 (own A (tmDrop tm n)) → tSeq (tDrop (tMethS T.c_Cells (Str.ofString "write") (sp_Cells_write T) (fun σ => WE (fun cls d x H => E cls d H) σ) (tFld K (tVar 0) (Str.ofString "_cells"))
                (tCons (tOp (rI0 fun i j => V.int (i - j)) (tOp (rI0 fun i j => V.int (i + j)) (tMeth T.c_Heap (Str.ofString "_table") (sp_Heap__table T) [] E0 (tVar 0) (tCons (tVar 6) tNil)) (tVar 11)) (tC (V.int 1))) (tCons (tOp (rI0 fun i j => V.int (i + j)) (tVar 4) (tC (V.int 1))) tNil))))
              (tRet (tVar 11)) { nx := fun x H' => Q V.non H', rt := Q } [some (V.ref A.h), some (V.int kind), some (V.int owner), some (V.int (size : Nat)), some (V.int (usd M : Nat)), some (V.int (cnt M : Nat)), some (V.int (f : Nat)), some (V.ref lw), y, z, some (V.ref pn), some (V.int (n : Nat))] H6 := fun H6 h6 mv6 => by
            obtain ⟨_, ho6⟩ := h6.ob
            obtain ⟨_, hc6⟩ := h6.cs.ob
            refine rdSeq ?_
            walk_at "rd"
            refine i_fld T.cl_Heap T.nf_Heap_cells ho6 rfl (i_meth hc6 rfl (i_meth ho6 rfl ⟨A, S', b, _, f, rfl, h6, ?_⟩))
            walk_at "rd"
            have hlo := hL.lo
            have all : wlog S (makeL f (usd M) n (newOb kind owner size)) = writeS S' (tb f + n - 1) ((usd M + 1 : Nat) : Int) := by
              unfold makeL
              rw [hgw, wlog_app, es, if_pos rfl]
              show (if (writeS S' (tb f + n - 1) ((usd M + 1 : Nat) : Int)).2 = true then _ else _) = _
              by_cases e3 : (writeS S' (tb f + n - 1) ((usd M + 1 : Nat) : Int)).2 = true
              · rw [if_pos e3]
                show ((writeS S' (tb f + n - 1) ((usd M + 1 : Nat) : Int)).1, true) = _
                rw [← e3]
              · rw [if_neg e3]
                have e3 : (writeS S' (tb f + n - 1) ((usd M + 1 : Nat) : Int)).2 = false := by simpa using e3
                rw [← e3]
            refine ⟨A.c, A.l, S', tb f + n - 1, ((usd M + 1 : Nat) : Int), by rw [show ((tb f + n - 1 : Nat) : Int) = ((tb f : Nat) : Int) + n - 1 by omega, show ((usd M + 1 : Nat) : Int) = (usd M : Nat) + 1 by omega], h6.cs, by rw [h6.sz]; unfold tb; omega, fun H7 hc7 kp7 => ?_⟩
            have q4 := q3 H7 (tmDrop tm n) n hL
            rw [all] at q4
            have q5 := q4 (h6.cell hc7 (by rw [writeS_len]; exact h6.sz) kp7) (mv6.trans (own_kp kp7))
            exact ⟨fun e => q5.1 e rfl, q5.2⟩
          refine rdSeq ?_
          walk_at "rd"
          refine i_fld T.cl_Heap T.nf_Heap_temps ho5 rfl ⟨A.dt, rfl, .inl ⟨_, .inl h5.at_.td⟩, _, h5.at_.td, .inl (n : Int), rfl, fun v hv => ?_, fun hv => ?_⟩
          · rw [tmK_drop]
            refine last _ (h5.at_.dict (h5.at_.tk.drop (by omega))) (mv5.trans ⟨Kp.set (by unfold own; simp), fun x hx => .inl (own_drop hx)⟩)
          · have hnone : tm.find? (fun e => decide (e.1 = n)) = none := by
              rw [tmK_get] at hv
              cases e : tm.find? fun e => decide (e.1 = n) with
              | none => rfl
              | some x => rw [e] at hv; cases hv
            have ed := tmDrop_none hnone
            exact last _ (by rw [ed]; exact h5.at_) (by rw [ed]; exact mv5)
theorem range_wordsN {ws : List Int} {n : Nat} (e : ws.length = n) : (List.range n).map (fun i => V.int (ws.getD i 0)) = ws.map V.int := by
  subst e
  apply List.ext_getElem?
  intro i
  rw [List.getElem?_map, List.getElem?_map]
  by_cases h : i < ws.length
  · rw [List.getElem?_range h, List.getElem?_eq_getElem h, Option.map_some, Option.map_some, List.getD_eq_getElem?_getD, List.getElem?_eq_getElem h]; rfl
  · rw [List.getElem?_eq_none (by rw [List.length_range]; omega), List.getElem?_eq_none (by omega)]; rfl
/-! ### heap.py: what is reached -/
def sp_Heap_init {K : PySem.W.Frag} {mg : Str → Option Value} (T : Txt K mg) : Sp := fun vs H Q _ => ∃ (x c l j dx : Addr) (S : CS) (b : Bool), vs = [.ref x, .ref c, .ref j, .int 81] ∧ H x = some (.ins T.c_Heap dx []) ∧ CellsAt T.c_Cells H c l S ∧ JrnAt T.c_Journal H j c 0 b ∧ S.words.length = 1002 ∧
  ∀ H' dt bf, HeapAt T H' ⟨x, c, l, j, dt⟩ S b [(61, bf, List.replicate 64 0)] → H dt = none → H bf = none → Kp [x] H H' → Q .non H'
theorem ok_Heap_init (T : Txt K mg) : FnOk P w K mg base CX0 1 T.f_Heap_init T.d_Heap_init ["self", "cells", "journal", "start"] (sp_Heap_init T) := by
  refine T.k_Heap_init.ok sc_Heap_init (fun vs H Q E h => ?_) (fun cdv A outer s H vs Q E hr h => ?_)
  · obtain ⟨x, c, l, j, dx, S, b, rfl, _⟩ := h
    rfl
  · obtain ⟨x, c, l, j, dx, S, b, rfl, hx, hc, hj, hz, q⟩ := h
    refine ⟨_, (pss_cons (ps_fldK K (pv 0) (pv 1) rfl)
      (pss_cons (ps_fldK K (pv 0) (pv 2) rfl)
      (pss_cons (ps_fldK K (pv 0) (pv 3) rfl)
      (pss_one (ps_fldK K (pv 0) (pe_disp (pps_cons (pe_glob (v := .int _) rfl T.g_BUFFER ⟨_, rfl⟩) (pe_op op_rep (pe_lst (pa_cons pe_int pa_nil)) (pe_glob (v := .int _) rfl T.g_MOST_BUFFER ⟨_, rfl⟩)) pps_nil) (by rfl) (by rfl) (fun z => by cases z) (by decide)) rfl))))), ?_⟩
    walk_at "rd"
    refine rdSeq ?_
    walk_at "rd"
    obtain ⟨dc, hc0⟩ := hc.ob
    obtain ⟨dj, hj0⟩ := hj
    have nxc : c ≠ x := ne_of hc0 hx (by intro z; injection z with _ _ z; cases z)
    have nxl : l ≠ x := ne_of hc.ws hx (by intro z; cases z)
    have nxj : j ≠ x := ne_of hj0 hx (by intro z; injection z with _ _ z; cases z)
    refine i_fldS T.cl_Heap T.nf_Heap_cells hx (by decide) (rdSeq ?_)
    walk_at "rd"
    refine i_fldS T.cl_Heap T.nf_Heap_journal upd_same (by show 1 < 1000; decide) (rdSeq ?_)
    walk_at "rd"
    refine i_fldS T.cl_Heap T.nf_Heap_start upd_same (by show 2 < 1000; decide) ?_
    walk_at "rd"
    rw [upd_upd, upd_upd]
    have k0 : Kp [x] H (upd H x (.ins T.c_Heap dx (putF (Str.ofString "_start") (V.int 81) (putF (Str.ofString "_journal") (V.ref j) (putF (Str.ofString "_cells") (V.ref c) []))))) := Kp.set (by simp)
    have a0 : upd H x (.ins T.c_Heap dx (putF (Str.ofString "_start") (V.int 81) (putF (Str.ofString "_journal") (V.ref j) (putF (Str.ofString "_cells") (V.ref c) [])))) x = some (.ins T.c_Heap dx [("_cells", .ref c), ("_journal", .ref j), ("_start", .int 81)]) := upd_same
    have fr0 : ∀ p, upd H x (.ins T.c_Heap dx (putF (Str.ofString "_start") (V.int 81) (putF (Str.ofString "_journal") (V.ref j) (putF (Str.ofString "_cells") (V.ref c) [])))) p = none → H p = none := fun p hp => by
      by_cases e : p = x
      · rw [e, upd_same] at hp; cases hp
      · rw [upd_ne e] at hp; exact hp
    generalize upd H x (.ins T.c_Heap dx (putF (Str.ofString "_start") (V.int 81) (putF (Str.ofString "_journal") (V.ref j) (putF (Str.ofString "_cells") (V.ref c) [])))) = H1 at k0 a0 fr0
    intro d hd p hp
    have s2 : Same H1 (upd H1 d (.dK [])) := same_new hd
    have s3 : Same (upd H1 d (.dK [])) (upd (upd H1 d (.dK [])) p (.lst [V.int 0])) := same_new hp
    refine i_rep upd_same (by decide) (by decide) (line5 (by show 1 * 64 ≤ _; decide)) fun bf hbf => ?_
    rw [rep1]
    have s4 := same_new (o := .lst (List.replicate (64 : Int).toNat (V.int 0))) hbf
    have sAll := (s2.trans s3).trans s4
    have hdd := (s3.trans s4) _ _ (upd_same (H := H1) (a := d) (o := .dK []))
    have hbb : upd (upd (upd H1 d (.dK [])) p (.lst [V.int 0])) bf (.lst (List.replicate (64 : Int).toNat (V.int 0))) bf = some (.lst (List.replicate (64 : Int).toNat (V.int 0))) := upd_same
    have nbd : bf ≠ d := (ne_of_none (s3 _ _ (upd_same (H := H1) (a := d) (o := .dK []))) hbf).symm
    have fbf : H1 bf = none := (s2.trans s3).free hbf
    generalize upd (upd (upd H1 d (.dK [])) p (.lst [V.int 0])) bf (.lst (List.replicate (64 : Int).toNat (V.int 0))) = H2 at sAll hdd hbb
    refine ⟨hdd, [(.inl 61, .ref bf)], rfl, by show 1 ≤ 15; decide, ?_⟩
    have a2 : H2 x = some (.ins T.c_Heap dx [("_cells", .ref c), ("_journal", .ref j), ("_start", .int 81)]) := sAll _ _ a0
    have nxd : d ≠ x := ne_of hdd a2 (by intro z; cases z)
    have k2 : Kp [x] H (upd (upd H2 d (.dK (mergeK [] [(.inl 61, .ref bf)]))) x (.ins T.c_Heap dx (putF (Str.ofString "_temps") (V.ref d) [("_cells", .ref c), ("_journal", .ref j), ("_start", .int 81)]))) := fun b o hb e => by
      have hb : b ≠ x := by simpa using hb
      have e1 := k0 b o (by simpa using hb) e
      rw [upd_ne hb, upd_ne (ne_of_none e1 hd)]
      exact sAll _ _ e1
    refine i_fldS T.cl_Heap T.nf_Heap_temps (by rw [upd_ne (Ne.symm nxd)]; exact a2) (by show 3 < 1000; decide) ?_
    have fd : H d = none := fr0 _ hd
    have fb : H bf = none := fr0 _ fbf
    refine q _ d bf ⟨⟨dx, upd_same⟩, hc.keep k2 (by simpa using nxc) (by simpa using nxl), JrnAt.keep ⟨dj, hj0⟩ k2 (by simpa using nxj), hz, by rw [upd_ne nxd, upd_same]; rfl, ⟨fun e he => ?_, fun e he => ?_, by simp, by simp, fun e he => ?_, bf, _, List.mem_singleton.mpr rfl, by decide⟩⟩ fd fb k2
    · rw [List.mem_singleton.mp he]
      have nbx : bf ≠ x := ne_of hbb a2 (by intro z; cases z)
      rw [upd_ne nbx, upd_ne nbd, hbb, List.map_replicate]; rfl
    · rw [List.mem_singleton.mp he]
      exact (ne_of_none hc.ws fb).symm
    · rw [List.mem_singleton.mp he]; show 61 ≤ 61; decide
theorem tval_drop {tm : Tm} {n m : Nat} : tval (tmDrop tm n) m = if m = n then none else tval tm m := by
  unfold tval tmDrop
  rw [List.find?_filter]
  by_cases h : m = n
  · subst h
    rw [if_pos rfl, List.find?_eq_none.mpr]
    · rfl
    · intro e _; simp
  · rw [if_neg h]
    congr 1
    congr 1
    funext e
    by_cases he : e.1 = m
    · simp [he, h]
    · simp [he]
theorem usd_snoc {M : List (Nat × Ob)} {n : Nat} {o : Ob} (hn : n ≤ 60) : usd (M ++ [(n, o)]) = usd M + (3 + o.vals.length) := by
  unfold usd
  rw [List.filter_append, List.map_append, List.sum_append]
  show _ + ((List.filter _ [(n, o)]).map _).sum = _
  rw [List.filter_cons, if_pos (decide_eq_true (by show n < 61; omega))]
  simp
theorem Rep.make {W : List Int} {f : Nat} {pos : Nat → Nat} {M : List (Nat × Ob)} {tm : Tm} (R : Rep W f pos M tm) (hW : W.length = 1002) {n : Nat} (L : Least M n) {kind owner : Int} {size : Nat} (hs : usd M + 3 + size ≤ 400) :
    Rep (applyL W (makeL f (usd M) n (newOb kind owner size))) f (fun m => if m = n then usd M else pos m) (M ++ [(n, newOb kind owner size)]) (tmDrop tm n) := by
  have hf := R.f2
  have r1 : rm f = tb f + 60 := by unfold rm tb; omega
  have r2 : rm f + 400 ≤ 1002 := by unfold rm; omega
  have r3 : 81 < tb f := by unfold tb; omega
  have lo := L.lo
  have hi := L.hi
  have hv : (newOb kind owner size).vals.length = size := by unfold newOb; rw [List.length_replicate]
  have hl := headW_len (o := newOb kind owner size)
  rw [hv] at hl
  have hlog : ∀ p ∈ makeL f (usd M) n (newOb kind owner size), p.1 = tb f + n - 1 ∨ rm f + usd M ≤ p.1 := fun p hp => by
    unfold makeL at hp
    rcases List.mem_append.mp hp with hp | hp
    · have := wordsAt_mem hp; omega
    · rw [List.mem_singleton.mp hp]; exact .inl rfl
  have old : ∀ i, i ≠ tb f + n - 1 → i < rm f + usd M → (applyL W (makeL f (usd M) n (newOb kind owner size))).getD i 0 = W.getD i 0 := fun i h1 h2 => applyL_out _ _ fun p hp => by
    have := hlog p hp; omega
  have new : ∀ j, j < (headW (newOb kind owner size)).length → (applyL W (makeL f (usd M) n (newOb kind owner size))).getD (rm f + usd M + j) 0 = (headW (newOb kind owner size)).getD j 0 := fun j hj => by
    unfold makeL
    rw [applyL_app, applyL_out [(tb f + n - 1, _)] _ fun p hp => by rw [List.mem_singleton.mp hp]; show tb f + n - 1 ≠ _; omega]
    exact applyL_in hj (by omega)
  have split : ∀ m u, (m, u) ∈ M ++ [(n, newOb kind owner size)] → ((m, u) ∈ M ∧ m ≠ n) ∨ (m = n ∧ u = newOb kind owner size) := fun m u h => by
    rcases List.mem_append.mp h with hq | h
    · exact .inl ⟨hq, fun e => L.out u (e ▸ hq)⟩
    · have := List.mem_singleton.mp h
      exact .inr ⟨(Prod.mk.inj this).1, (Prod.mk.inj this).2⟩
  refine ⟨hf, by rw [old 81 (by omega) (by omega)]; exact R.half, ?_, fun m u h => ?_, ?_, fun m h1 h2 h3 => ?_, fun m u h hm => ?_, fun m u h hk => ?_, fun m u h hm => ?_, fun m u k v h h' hm hk hne => ?_, ?_⟩
  · rw [List.map_append]
    refine List.nodup_append.mpr ⟨R.nk, by simp, fun a ha b hb => ?_⟩
    have : b = n := List.mem_singleton.mp hb
    subst this
    rintro rfl
    obtain ⟨⟨m, u⟩, hx, e⟩ := List.mem_map.mp ha
    have e : m = a := e
    subst e
    exact L.out u hx
  · rcases split m u h with ⟨h, _⟩ | ⟨rfl, _⟩
    · exact R.rng m u h
    · omega
  · obtain ⟨vs, hv, hl⟩ := R.buf
    exact ⟨vs, List.mem_append_left _ hv, hl⟩
  · have hmn : m ≠ n := fun e => by subst e; exact h3 _ (List.mem_append_right _ List.mem_cons_self)
    rw [old _ (by omega) (by omega)]
    exact R.non m h1 h2 fun o ho => h3 o (List.mem_append_left _ ho)
  · rcases split m u h with ⟨h, hne⟩ | ⟨rfl, rfl⟩
    · have B := R.ob m u h hm
      have us := R.us m u h hm
      have rg := R.rng m u h
      show RepO _ f (if m = n then usd M else pos m) m u
      rw [if_neg hne]
      exact ⟨by rw [old _ (by omega) (by omega)]; exact B.tab, by rw [old _ (by omega) (by omega)]; exact B.kd, by rw [old _ (by omega) (by omega)]; exact B.ow, by rw [old _ (by omega) (by omega)]; exact B.sz, fun kk j hj => by rw [old _ (by omega) (by omega)]; exact B.vs kk j hj⟩
    · show RepO _ f (if m = m then usd M else pos m) m _
      rw [if_pos rfl]
      refine ⟨?_, new 0 (by unfold headW; simp), new 1 (by unfold headW; simp), new 2 (by unfold headW; simp), fun kk i hi => ?_⟩
      · unfold makeL
        rw [applyL_app]
        show ((applyL _ _).set (tb f + m - 1) _).getD (tb f + m - 1) 0 = _
        rw [getD_setE (by rw [applyL_len]; omega)]; omega
      · have := new (3 + i) (by unfold headW; rw [if_neg kk]; simp; omega)
        rw [show rm f + usd M + 3 + i = rm f + usd M + (3 + i) by omega, this]
        unfold headW
        rw [if_neg kk, show 3 + i = i + 1 + 1 + 1 by omega]; rfl
  · rcases split m u h with ⟨h, hne⟩ | ⟨rfl, rfl⟩
    · rw [tval_drop, if_neg hne]
      exact R.tmp m u h hk
    · rw [tval_drop, if_pos rfl, hv]; rfl
  · rw [usd_snoc hi, hv]
    rcases split m u h with ⟨h, hne⟩ | ⟨rfl, rfl⟩
    · have := R.us m u h hm
      show (if m = n then usd M else pos m) + _ + _ ≤ _
      rw [if_neg hne]; omega
    · show (if m = m then usd M else pos m) + _ + _ ≤ _
      rw [if_pos rfl, hv]; omega
  · show (if m = n then usd M else pos m) + _ + _ ≤ (if k = n then usd M else pos k) ∨ (if k = n then usd M else pos k) + _ + _ ≤ (if m = n then usd M else pos m)
    rcases split m u h with ⟨g, h1⟩ | ⟨rfl, rfl⟩ <;> rcases split k v h' with ⟨g', h2⟩ | ⟨rfl, rfl⟩
    · rw [if_neg h1, if_neg h2]; exact R.dj m u k v g g' hm hk hne
    · rw [if_neg h1, if_pos rfl]; exact .inl (R.us m u g hm)
    · rw [if_pos rfl, if_neg h2]; exact .inr (R.us k v g' hk)
    · exact absurd rfl hne
  · rw [usd_snoc hi, hv]; omega

def wrapI (n : Int) : Int := (n - -32768) % 65536 + -32768
def sp_wrap (K : PySem.W.Frag) : Sp := fun vs H Q _ => ∃ (n : Int), vs = [.int n] ∧ Q (.int (wrapI n)) H
theorem ok_wrap (T : Txt K mg) : FnOk P w K mg base CX0 1 T.f_wrap T.d_wrap ["number"] (sp_wrap K) := by
  refine T.k_wrap.ok sc_wrap (fun vs H Q E h => ?_) (fun cdv A outer s H vs Q E hr h => ?_)
  · obtain ⟨x, rfl, _⟩ := h
    rfl
  · obtain ⟨x, rfl, h⟩ := h
    refine ⟨_, (pss_one (ps_ret (pe_op op_add (pe_op op_modP (pe_op op_sub (pv 0) (pe_glob (v := .int _) rfl T.g_LEAST ⟨_, rfl⟩)) pe_int) (pe_glob (v := .int _) rfl T.g_LEAST ⟨_, rfl⟩)))), ?_⟩
    walk_at "rd"
    exact h

/-! ### words.py -/
def Wrd (x : Int) : Prop := -32768 ≤ x ∧ x ≤ 32767
def absI (x : Int) : Int := if x < 0 then -x else x
def divI (l r : Int) : Int := if decide (l < 0) = decide (r < 0) then absI l / absI r else -(absI l / absI r)
def sp_divided (K : PySem.W.Frag) : Sp := fun vs H Q _ => ∃ (l r : Int), vs = [.int l, .int r] ∧ Wrd r ∧ r ≠ 0 ∧ Q (.int (divI l r)) H
theorem ok_divided (T : Txt K mg) : FnOk P w K mg base CX0 1 T.f_divided T.d_divided ["left", "right"] (sp_divided K) := by
  refine T.k_divided.ok sc_divided (fun vs H Q E h => ?_) (fun cdv A outer s H vs Q E hr h => ?_)
  · obtain ⟨l, r, rfl, _⟩ := h
    rfl
  · obtain ⟨l, r, rfl, hw, h0, q⟩ := h
    refine ⟨_, (pss_cons (ps_set (i := 2) sc_divided.nd rfl (.inl rfl) (pe_op op_fdivW (pe_callB call_abs (by rfl) T.m_abs (by decide +kernel) (pa_cons (pv 0) pa_nil)) (pe_callB call_abs (by rfl) T.m_abs (by decide +kernel) (pa_cons (pv 1) pa_nil))))
      (pss_cons (ps_if (pt_cmpR op_ne (pe_cmpR op_lt (pv 0) pe_int (nomark _)) (pe_cmpR op_lt (pv 1) pe_int (nomark _)) (nomark _)) (pss_one (ps_ret (pe_un un_neg (pv 2)))) pss_nil)
      (pss_one (ps_ret (pv 2))))), ?_⟩
    walk_at "rd"
    refine rdSeq ?_
    walk_at "rd"
    have ha : (if l < 0 then -l else l) / (if r < 0 then -r else r) = absI l / absI r := rfl
    refine ⟨wide_div (b := 20) (by split <;> omega) (by unfold Wrd at hw; split <;> omega) (by decide) (by decide), rdSeq ?_⟩
    walk_at "rd"
    rw [ha]
    unfold divI at q
    by_cases h : decide (l < 0) = decide (r < 0)
    · rw [if_pos h] at q
      exact i_else (by simp [h]) q
    · rw [if_neg h] at q
      exact i_then (by simpa using h) q
def arI (s : Str) (l r : Int) : Int :=
  if s = "+" then l + r else if s = "-" then l - r else if s = "*" then l * r else if s = "&" then Builtin.bitAnd l r else if s = "|" then Builtin.bitOr l r else if s = "^" then Builtin.bitXor l r
  else if s = "<<" then l * 2 ^ (Builtin.bitAnd r 15).toNat else l / 2 ^ (Builtin.bitAnd r 15).toNat
def sp_arithmetic (K : PySem.W.Frag) : Sp := fun vs H Q _ => ∃ (s : Str) (l r : Int), vs = [.str s, .int l, .int r] ∧ Wrd l ∧ Q (.int (arI s l r)) H
theorem ok_arithmetic (T : Txt K mg) : FnOk P w K mg base CX0 1 T.f_arithmetic T.d_arithmetic ["sign", "left", "right"] (sp_arithmetic K) := by
  refine T.k_arithmetic.ok sc_arithmetic (fun vs H Q E h => ?_) (fun cdv A outer s H vs Q E hr h => ?_)
  · obtain ⟨s, l, r, rfl, _⟩ := h
    rfl
  · obtain ⟨s, l, r, rfl, hw, q⟩ := h
    refine ⟨_, (pss_cons (ps_if (pt_cmpR op_eq (pv 0) pe_str (nomark _)) (pss_one (ps_ret (pe_op op_add (pv 1) (pv 2)))) pss_nil)
      (pss_cons (ps_if (pt_cmpR op_eq (pv 0) pe_str (nomark _)) (pss_one (ps_ret (pe_op op_sub (pv 1) (pv 2)))) pss_nil)
      (pss_cons (ps_if (pt_cmpR op_eq (pv 0) pe_str (nomark _)) (pss_one (ps_ret (pe_op op_mul (pv 1) (pv 2)))) pss_nil)
      (pss_cons (ps_if (pt_cmpR op_eq (pv 0) pe_str (nomark _)) (pss_one (ps_ret (pe_op op_and (pv 1) (pv 2)))) pss_nil)
      (pss_cons (ps_if (pt_cmpR op_eq (pv 0) pe_str (nomark _)) (pss_one (ps_ret (pe_op op_or (pv 1) (pv 2)))) pss_nil)
      (pss_cons (ps_if (pt_cmpR op_eq (pv 0) pe_str (nomark _)) (pss_one (ps_ret (pe_op op_xor (pv 1) (pv 2)))) pss_nil)
      (pss_cons (ps_if (pt_cmpR op_eq (pv 0) pe_str (nomark _)) (pss_one (ps_ret (pe_op op_shl (pv 1) (pe_op op_and (pv 2) pe_int)))) pss_nil)
      (pss_one (ps_ret (pe_op op_shr (pv 1) (pe_op op_and (pv 2) pe_int))))))))))), ?_⟩
    walk_at "rd"
    refine rdSeq ?_
    walk_at "rd"
    unfold arI at q
    refine ite2 (fun h => ?_) (fun h => rdSeq ?_)
    · rw [if_pos h] at q; exact q
    rw [if_neg h] at q
    walk_at "rd"
    refine ite2 (fun h => ?_) (fun h => rdSeq ?_)
    · rw [if_pos h] at q; exact q
    rw [if_neg h] at q
    walk_at "rd"
    refine ite2 (fun h => ?_) (fun h => rdSeq ?_)
    · rw [if_pos h] at q; exact ⟨.inl ⟨by unfold Wrd at hw; omega, by unfold Wrd at hw; omega⟩, q⟩
    rw [if_neg h] at q
    walk_at "rd"
    refine ite2 (fun h => ?_) (fun h => rdSeq ?_)
    · rw [if_pos h] at q; exact q
    rw [if_neg h] at q
    walk_at "rd"
    refine ite2 (fun h => ?_) (fun h => rdSeq ?_)
    · rw [if_pos h] at q; exact q
    rw [if_neg h] at q
    walk_at "rd"
    refine ite2 (fun h => ?_) (fun h => rdSeq ?_)
    · rw [if_pos h] at q; exact q
    rw [if_neg h] at q
    walk_at "rd"
    have h15 := PyProof.Rows.bitAnd_range r (y := 15) (by decide)
    refine ite2 (fun h => ?_) (fun h => ?_)
    · rw [if_pos h] at q; exact ⟨⟨h15.1, by omega, by unfold Wrd at hw; omega⟩, q⟩
    · rw [if_neg h] at q
      walk_at "rd"
      exact ⟨h15.1, q⟩
def cmpI (s : Str) (l r : Int) : Bool :=
  if s = "==" then decide (l = r) else if s = "!=" then !decide (l = r) else if s = "<" then decide (l < r) else if s = "<=" then decide (l ≤ r) else if s = ">" then decide (r < l) else decide (r ≤ l)
def sp_compared (K : PySem.W.Frag) : Sp := fun vs H Q _ => ∃ (s : Str) (l r : Int), vs = [.str s, .int l, .int r] ∧ Q (.bl (cmpI s l r)) H
theorem ok_compared (T : Txt K mg) : FnOk P w K mg base CX0 1 T.f_compared T.d_compared ["sign", "left", "right"] (sp_compared K) := by
  refine T.k_compared.ok sc_compared (fun vs H Q E h => ?_) (fun cdv A outer s H vs Q E hr h => ?_)
  · obtain ⟨s, l, r, rfl, _⟩ := h
    rfl
  · obtain ⟨s, l, r, rfl, q⟩ := h
    refine ⟨_, (pss_cons (ps_if (pt_cmpR op_eq (pv 0) pe_str (nomark _)) (pss_one (ps_ret (pe_cmpR op_eq (pv 1) (pv 2) (nomark _)))) pss_nil)
      (pss_cons (ps_if (pt_cmpR op_eq (pv 0) pe_str (nomark _)) (pss_one (ps_ret (pe_cmpR op_ne (pv 1) (pv 2) (nomark _)))) pss_nil)
      (pss_cons (ps_if (pt_cmpR op_eq (pv 0) pe_str (nomark _)) (pss_one (ps_ret (pe_cmpR op_lt (pv 1) (pv 2) (nomark _)))) pss_nil)
      (pss_cons (ps_if (pt_cmpR op_eq (pv 0) pe_str (nomark _)) (pss_one (ps_ret (pe_cmpR op_le (pv 1) (pv 2) (nomark _)))) pss_nil)
      (pss_cons (ps_if (pt_cmpR op_eq (pv 0) pe_str (nomark _)) (pss_one (ps_ret (pe_cmpR op_gt (pv 1) (pv 2) (nomark _)))) pss_nil)
      (pss_one (ps_ret (pe_cmpR op_ge (pv 1) (pv 2) (nomark _))))))))), ?_⟩
    walk_at "rd"
    refine rdSeq ?_
    walk_at "rd"
    unfold cmpI at q
    refine ite2 (fun h => ?_) (fun h => rdSeq ?_)
    · rw [if_pos h] at q; exact q
    rw [if_neg h] at q
    walk_at "rd"
    refine ite2 (fun h => ?_) (fun h => rdSeq ?_)
    · rw [if_pos h] at q; exact q
    rw [if_neg h] at q
    walk_at "rd"
    refine ite2 (fun h => ?_) (fun h => rdSeq ?_)
    · rw [if_pos h] at q; exact q
    rw [if_neg h] at q
    walk_at "rd"
    refine ite2 (fun h => ?_) (fun h => rdSeq ?_)
    · rw [if_pos h] at q; exact q
    rw [if_neg h] at q
    walk_at "rd"
    refine ite2 (fun h => ?_) (fun h => ?_)
    · rw [if_pos h] at q; exact q
    · rw [if_neg h] at q
      exact q
def inS (s : Str) (l : List Str) : Bool := inV (.str s) (l.map V.str)
def opV (s : Str) (l r : Int) : V :=
  if inS s ["/", "mod"] = true then (if r = 0 then .non else if s = "mod" then .int (l - r * divI l r) else .int (wrapI (divI l r)))
  else if inS s ["==", "!=", "<", "<=", ">", ">="] = true then .int (if cmpI s l r = true then 1 else 0) else .int (wrapI (arI s l r))
def sp_op (K : PySem.W.Frag) : Sp := fun vs H Q _ => ∃ (s : Str) (l r : Int), vs = [.str s, .int l, .int r] ∧ Wrd l ∧ Wrd r ∧ ∀ H', Same H H' → Q (opV s l r) H'
theorem ok_op (T : Txt K mg) : FnOk P w K mg base CX0 2 T.f_op T.d_op ["sign", "left", "right"] (sp_op K) := by
  refine T.k_op.ok sc_op (fun vs H Q E h => ?_) (fun cdv A outer s H vs Q E hr h => ?_)
  · obtain ⟨s, l, r, rfl, _⟩ := h
    rfl
  · obtain ⟨s, l, r, rfl, hl, hr', q⟩ := h
    refine ⟨_, (pss_cons (ps_if (pt_cmpR (in_seqK K) (pv 0) (pe_tup (pa_cons pe_str (pa_cons pe_str pa_nil))) rfl) (pss_cons (ps_if (pt_cmpR op_eq (pv 2) pe_int (nomark _)) (pss_one (ps_ret pe_non)) pss_nil)
      (pss_cons (ps_set (i := 3) sc_op.nd rfl (.inl rfl) (pe_call (ok_divided T) (hr.mono (by decide)) (by rfl) T.g_divided T.k_divided.kp T.b_divided .nil pass0 (pa_cons (pv 1) (pa_cons (pv 2) pa_nil))))
      (pss_cons (ps_if (pt_cmpR op_eq (pv 0) pe_str (nomark _)) (pss_one (ps_ret (pe_op op_sub (pv 1) (pe_op op_mul (pv 2) (pv 3))))) pss_nil)
      (pss_one (ps_ret (pe_call (ok_wrap T) (hr.mono (by decide)) (by rfl) T.g_wrap T.k_wrap.kp T.b_wrap .nil pass0 (pa_cons (pv 3) pa_nil))))))) pss_nil)
      (pss_cons (ps_if (pt_cmpR (in_seqK K) (pv 0) (pe_tup (pa_cons pe_str (pa_cons pe_str (pa_cons pe_str (pa_cons pe_str (pa_cons pe_str (pa_cons pe_str pa_nil))))))) rfl) (pss_one (ps_ret (pe_callTy call_intI (by rfl) T.m_int (by decide +kernel) (pa_cons (pe_call (ok_compared T) (hr.mono (by decide)) (by rfl) T.g_compared T.k_compared.kp T.b_compared .nil pass0 (pa_cons (pv 0) (pa_cons (pv 1) (pa_cons (pv 2) pa_nil)))) pa_nil)))) pss_nil)
      (pss_one (ps_ret (pe_call (ok_wrap T) (hr.mono (by decide)) (by rfl) T.g_wrap T.k_wrap.kp T.b_wrap .nil pass0 (pa_cons (pe_call (ok_arithmetic T) (hr.mono (by decide)) (by rfl) T.g_arithmetic T.k_arithmetic.kp T.b_arithmetic .nil pass0 (pa_cons (pv 0) (pa_cons (pv 1) (pa_cons (pv 2) pa_nil)))) pa_nil)))))), ?_⟩
    walk_at "rd"
    refine rdSeq ?_
    walk_at "rd"
    have q : ∀ H' v, Same H H' → v = opV s l r → Q v H' := fun H' v sm e => by rw [e]; exact q H' sm
    intro p hp
    have sm := same_new (o := HO.tup [V.str (Str.ofString "/"), V.str (Str.ofString "mod")]) hp
    refine i_inL (xs := [V.str (Str.ofString "/"), V.str (Str.ofString "mod")]) (.inr (sqT_of upd_same)) rfl rfl ?_
    walk_at "rd"
    refine ite2 (fun h1 => rdSeq ?_) (fun h1 => rdSeq ?_)
    · have h1 : inS s ["/", "mod"] = true := h1
      walk_at "rd"
      refine ite2 (fun h2 => ?_) (fun h2 => rdSeq ?_)
      · exact q _ _ sm (by unfold opV; rw [if_pos h1, if_pos h2])
      · walk_at "rd"
        refine ⟨l, r, rfl, hr', h2, rdSeq ?_⟩
        walk_at "rd"
        refine ite2 (fun h3 => ?_) (fun h3 => ?_)
        · exact ⟨.inl ⟨by unfold Wrd at hr'; omega, by unfold Wrd at hr'; omega⟩, q _ _ sm (by unfold opV; rw [if_pos h1, if_neg h2, if_pos h3])⟩
        · walk_at "rd"
          exact ⟨_, rfl, q _ _ sm (by unfold opV; rw [if_pos h1, if_neg h2, if_neg h3])⟩
    · have h1 : ¬ inS s ["/", "mod"] = true := h1
      walk_at "rd"
      intro p2 hp2
      have sm2 := sm.trans (same_new (o := HO.tup [V.str (Str.ofString "=="), V.str (Str.ofString "!="), V.str (Str.ofString "<"), V.str (Str.ofString "<="), V.str (Str.ofString ">"), V.str (Str.ofString ">=")]) hp2)
      refine i_inL (xs := [V.str (Str.ofString "=="), V.str (Str.ofString "!="), V.str (Str.ofString "<"), V.str (Str.ofString "<="), V.str (Str.ofString ">"), V.str (Str.ofString ">=")]) (.inr (sqT_of upd_same)) rfl rfl ?_
      walk_at "rd"
      refine ite2 (fun h2 => ?_) (fun h2 => ?_)
      · have h2 : inS s ["==", "!=", "<", "<=", ">", ">="] = true := h2
        refine ⟨s, l, r, rfl, ?_⟩
        walk_at "rd"
        exact q _ _ sm2 (by unfold opV; rw [if_neg h1, if_pos h2])
      · have h2 : ¬ inS s ["==", "!=", "<", "<=", ">", ">="] = true := h2
        walk_at "rd"
        refine ⟨s, l, r, rfl, hl, _, rfl, ?_⟩
        exact q _ _ sm2 (by unfold opV; rw [if_neg h1, if_neg h2])

/-! ### linking.py: the helpers -/
/-- BadLink comes out -/
def ErrL (C : Addr) (H : Hp) (E : XK) : Prop := ∀ H' : Hp, Same H H' → E (.ref C) none H'
theorem ErrL.same {C : Addr} {H H' : Hp} {E : XK} (h : ErrL C H E) (s : Same H H') : ErrL C H' E := fun H2 s2 => h H2 (s.trans s2)
def sp_must {K : PySem.W.Frag} {mg : Str → Option Value} (T : Txt K mg) : Sp := fun vs H Q E => ∃ c : Bool, vs = [.bl c] ∧ (c = true → Q .non H) ∧ (c = false → ErrL T.c_BadLink H E)
theorem ok_must (T : Txt K mg) : FnOk P w K mg base (L2.CX P w) 1 T.f_must T.d_must ["condition"] (sp_must T) := by
  refine T.k_must.okX sc_must (fun vs H Q E h => ?_) (fun cdv A outer s H vs Q E hr h => ?_)
  · obtain ⟨c, rfl, _⟩ := h
    rfl
  · obtain ⟨c, rfl, q1, q2⟩ := h
    refine ⟨_, (pss_one (ps_if (pt_not (pt_val (pv 0))) (pss_one (ps_raise rfl (takes_of rfl rfl rfl rfl) (pmk_own0 PySem.F.excBase_ValueError T.x_BadLink.x T.g_BadLink T.x_BadLink.kp (raises_own T.x_BadLink.be T.x_BadLink.ty) (by exact rfl)))) pss_nil)), ?_⟩
    walk_at "rd"
    cases c with
    | true => walk_at "rd"; exact q1 rfl
    | false => walk_at "rd"; exact q2 rfl H (Same.refl H)
theorem i_must {T : Txt K mg} {c : Bool} {H : Hp} {Q : VK} {E : XK} (h1 : c = true → Q .non H) (h2 : c = false → ErrL T.c_BadLink H E) : sp_must T [.bl c] H Q E := ⟨c, rfl, h1, h2⟩
def kdN : Kd → Str
  | .int => "int"
  | .bytes => "bytes"
  | .nothing => "nothing"
  | .null => "null"
  | .cls _ => "class"
  | .fac _ _ => "face"
theorem kd_at0 (k : Kd) : ∃ r, k.d = .tuple (.str (kdN k) :: r) := by cases k <;> exact ⟨_, rfl⟩
def isCls : Kd → Bool
  | .cls _ => true
  | _ => false
def isFac : Kd → Bool
  | .fac _ _ => true
  | _ => false
theorem kdN_cls : ∀ k : Kd, decide (V.str (kdN k) = V.str (Str.ofString "class")) = isCls k
  | .int | .bytes | .nothing | .null => by decide +kernel
  | .cls _ => show decide (V.str (Str.ofString "class") = V.str (Str.ofString "class")) = true by decide +kernel
  | .fac _ _ => show decide (V.str (Str.ofString "face") = V.str (Str.ofString "class")) = false by decide +kernel
theorem kdN_fac : ∀ k : Kd, decide (V.str (kdN k) = V.str (Str.ofString "face")) = isFac k
  | .int | .bytes | .nothing | .null => by decide +kernel
  | .cls _ => show decide (V.str (Str.ofString "class") = V.str (Str.ofString "face")) = false by decide +kernel
  | .fac _ _ => show decide (V.str (Str.ofString "face") = V.str (Str.ofString "face")) = true by decide +kernel
def sp_is_class {K : PySem.W.Frag} {mg : Str → Option Value} (_ : Txt K mg) : Sp := fun vs H Q _ => ∃ (v : V) (k : Kd), vs = [v] ∧ Fr K H v k.d ∧ Q (.bl (isCls k)) H
def sp_is_face {K : PySem.W.Frag} {mg : Str → Option Value} (_ : Txt K mg) : Sp := fun vs H Q _ => ∃ (v : V) (k : Kd), vs = [v] ∧ Fr K H v k.d ∧ Q (.bl (isFac k)) H
theorem ok_is_face (T : Txt K mg) : FnOk P w K mg base CX0 1 T.f_is_face T.d_is_face ["kind"] (sp_is_face T) := by
  refine T.k_is_face.ok sc_is_face (fun vs H Q E h => ?_) (fun cdv A outer s H vs Q E hr h => ?_)
  · obtain ⟨v, k, rfl, _⟩ := h
    rfl
  · obtain ⟨v, k, rfl, hv, q⟩ := h
    refine ⟨_, (pss_one (ps_ret (pe_cmpR op_eq (pe_ix (ix_tupK K) (pv 0) pe_int (fun _ _ => rfl)) pe_str (nomark _)))), ?_⟩
    walk_at "rd"
    obtain ⟨r, er⟩ := kd_at0 k
    rw [er] at hv
    refine i_ixFs (i := 0) hv rfl ⟨rfl, ?_⟩
    rw [kdN_fac]; exact q
theorem Md.at5 (m : Md) : m.ds[5]? = some (.tuple (m.cls.map Cl.d)) := rfl
theorem Md.at4 (m : Md) : m.ds[4]? = some (.tuple (m.fcs.map faceD)) := rfl
theorem Md.at1 (m : Md) : m.ds[1]? = some (.str m.nm) := rfl
theorem Md.at7 (m : Md) : m.ds[7]? = some (.tuple (m.apps.map fun k : Nat => .int k)) := rfl
/-- classes at a place -/
theorem cls_at {m : Md} {k : Nat} {c : Cl} (h : m.cls[k]? = some c) : (m.cls.map Cl.d)[k]? = some c.d := by rw [List.getElem?_map, h]; rfl
def intsV (l : List Int) : List V := l.map V.int
inductive WA (m : Md) (v : V) (k0 : Int) (H0 : Hp) (p : Addr) (n : Nat) (σ : L2.St) (H : Hp) : Prop
  | mk (k : Int) (l : List Int) (hk : -1 ≤ k) (hk2 : k < m.cls.length) (hn : n = (k + 1).toNat) (hl : H p = some (.lst (intsV l))) (hs : Same H0 H) (he : l ++ ancs m.cls k = ancs m.cls k0) (es : σ = [some v, some (.int k), some (.ref p)])
def sp_ancestors_of {K : PySem.W.Frag} {mg : Str → Option Value} (_ : Txt K mg) : Sp := fun vs H Q _ => ∃ (v : V) (m : Md) (k : Int), vs = [v, .int k] ∧ Fr K H v m.d ∧ Ahead m.cls ∧ m.cls.length ≤ 1000 ∧ -1 ≤ k ∧ k < m.cls.length ∧
  ∀ p H', H p = none → Same H H' → H' p = some (.lst (intsV (ancs m.cls k))) → Q (.ref p) H'
theorem ok_ancestors_of (T : Txt K mg) : FnOk P w K mg base CX0 1 T.f_ancestors_of T.d_ancestors_of ["module", "k"] (sp_ancestors_of T) := by
  refine T.k_ancestors_of.ok sc_ancestors_of (fun vs H Q E h => ?_) (fun cdv A outer s H vs Q E hr h => ?_)
  · obtain ⟨v, m, k, rfl, _⟩ := h
    rfl
  · obtain ⟨v, m, k, rfl, hv, hw, hsz, h1, h2, q⟩ := h
    refine ⟨_, (pss_cons (ps_set (i := 2) sc_ancestors_of.nd rfl (.inl rfl) (pe_lst pa_nil))
      (pss_cons (ps_while PassesOwn.never (pt_cmpR op_ge (pv 1) pe_int (nomark _)) (pss_cons (ps_expr (pe_bmK K PySem.F.plainAttrs_list PySem.F.slot_list_append PySem.F.type_list_append mt_append (pv 2) (pa_cons (pv 1) pa_nil)))
      (pss_one (ps_set (i := 1) sc_ancestors_of.nd rfl (.inl rfl) (pe_ix (ix_tupK K) (pe_ix (ix_tupK K) (pe_ix (ix_tupK K) (pv 0) pe_int (fun _ _ => rfl)) (pv 1) (fun _ _ => rfl)) pe_int (fun _ _ => rfl))))))
      (pss_one (ps_ret (pv 2))))), ?_⟩
    walk_at "rd"
    refine rdSeq ?_
    walk_at "rd"
    intro p hp
    refine rdSeq ?_
    refine i_while (WA m v k H p) (k + 1).toNat ⟨k, [], h1, h2, rfl, upd_same, same_new hp, rfl, rfl⟩ ?_
    rintro n σ H1 ⟨j, l, j1, j2, hn, hl, hs, he, rfl⟩
    walk_at "rd"
    refine ite2 (fun hj => i_whT ?_) (fun hj => ?_)
    · obtain ⟨i, rfl⟩ := Int.eq_ofNat_of_zero_le hj
      have hi : i < m.cls.length := by omega
      have hc := List.getElem?_eq_getElem hi
      obtain ⟨p1, p2⟩ := hw i _ hc
      have hv1 : Fr K H1 v m.d := hv.up (.of hs)
      rw [ancs_step hw hc] at he
      have hlen : l.length + 1 ≤ (ancs m.cls k).length := by rw [← he]; simp
      have hb := (ancs_len hw m.cls.length k h2 h1 h2).1
      refine rdSeq ?_
      walk_at "rd"
      refine ⟨.inl ⟨rfl, _, sqL_of hl⟩, i_app hl (line5' (by rw [intsV, List.length_map]; omega)) ?_⟩
      have tk : TupK H1 (upd H1 p (.lst (intsV l ++ [.int (i : Nat)]))) := TupK.mut hl (fun _ h => nomatch h)
      refine i_ixF (i := 5) (hv1.up tk) (Md.at5 m) fun x hx => i_ixF (i := i) hx (cls_at hc) fun y hy => i_ixFi (i := 1) hy rfl ?_
      refine ⟨(m.cls[i].par + 1).toNat, by omega, ⟨m.cls[i].par, l ++ [(i : Int)], p1, by omega, rfl, by rw [upd_same]; simp [intsV], fun b o e => by rw [upd_ne (ne_of_none e hp)]; exact hs b o e, by rw [← he]; simp, rfl⟩⟩
    · refine q p H1 hp hs ?_
      rw [ancs_neg (by omega), List.append_nil] at he
      rw [← he]; exact hl
def facesOf (m : Md) (k : Int) : List (Str × Str) := (ancs m.cls k).flatMap fun j => match m.cls[j.toNat]? with
  | some c => c.fcs
  | none => []
/-- sizes -/
structure Sz (m : Md) : Prop where
  ah : Ahead m.cls
  cl : m.cls.length ≤ 500
  fc : ∀ c ∈ m.cls, c.fcs.length ≤ 100
  tb : ∀ c ∈ m.cls, c.tb.length ≤ 1000
  nm : PyData.strOk m.nm = true
  fo : ∀ c ∈ m.cls, ∀ f ∈ c.fcs, PyData.strOk f.1 = true ∧ PyData.strOk f.2 = true
  ap : ∀ k ∈ m.apps, k < m.cls.length
theorem flat_len {α β : Type} {f : α → List β} {n : Nat} : ∀ {l : List α}, (∀ x ∈ l, (f x).length ≤ n) → (l.flatMap f).length ≤ l.length * n
  | [], _ => Nat.zero_le _
  | x :: l, h => by
    have ih := flat_len (f := f) (n := n) (l := l) fun y hy => h y (List.mem_cons_of_mem _ hy)
    have h0 := h x List.mem_cons_self
    rw [List.flatMap_cons, List.length_append, List.length_cons, Nat.succ_mul]; omega
def fcsOf (m : Md) (j : Int) : List (Str × Str) := match m.cls[j.toNat]? with
  | some c => c.fcs
  | none => []
theorem fcsOf_len {m : Md} (z : Sz m) (j : Int) : (fcsOf m j).length ≤ 100 := by
  unfold fcsOf
  cases e : m.cls[j.toNat]? with
  | none => exact Nat.zero_le _
  | some c => exact z.fc c (List.mem_of_getElem? e)
theorem sz_big : 100000 ≤ sizeLine := by decide
inductive WF (K : PySem.W.Frag) (m : Md) (v : V) (k0 : Int) (H0 : Hp) (p q : Addr) (i : Nat) (σ : L2.St) (H : Hp) : Prop
  | mk (vs : List V) (hp : H p = some (.lst vs)) (hq : H q = some (.lst (intsV (ancs m.cls k0)))) (fl : FrL K H vs (((ancs m.cls k0).take i).flatMap fun j => (fcsOf m j).map fcD)) (hs : Same H0 H) (es : ∃ u, σ = [some v, some (.int k0), some (.ref p), u])
def sp_faces_of {K : PySem.W.Frag} {mg : Str → Option Value} (_ : Txt K mg) : Sp := fun vs H Q _ => ∃ (v : V) (m : Md) (k : Int), vs = [v, .int k] ∧ Fr K H v m.d ∧ Sz m ∧ -1 ≤ k ∧ k < m.cls.length ∧
  ∀ p ws H', H p = none → Same H H' → H' p = some (.lst ws) → FrL K H' ws ((facesOf m k).map fcD) → Q (.ref p) H'
theorem ok_faces_of (T : Txt K mg) : FnOk P w K mg base CX0 2 T.f_faces_of T.d_faces_of ["module", "k"] (sp_faces_of T) := by
  refine T.k_faces_of.ok sc_faces_of (fun vs H Q E h => ?_) (fun cdv A outer s H vs Q E hr h => ?_)
  · obtain ⟨v, m, k, rfl, _⟩ := h
    rfl
  · obtain ⟨v, m, k, rfl, hv, z, h1, h2, q⟩ := h
    refine ⟨_, (pss_cons (ps_set (i := 2) sc_faces_of.nd rfl (.inl rfl) (pe_lst pa_nil))
      (pss_cons (ps_for PassesOwn.never rfl (pi_list (pe_call (ok_ancestors_of T) (hr.mono (by decide)) (by rfl) T.g_ancestors_of T.k_ancestors_of.kp T.b_ancestors_of .nil pass0 (pa_cons (pv 0) (pa_cons (pv 1) pa_nil)))) (pg_name (i := 3) sc_faces_of.nd rfl (Or.inl rfl)) (pss_one (ps_expr (pe_bmK K PySem.F.plainAttrs_list PySem.F.slot_list_extend PySem.F.type_list_extend mt_extT (pv 2) (pa_cons (pe_ix (ix_tupK K) (pe_ix (ix_tupK K) (pe_ix (ix_tupK K) (pv 0) pe_int (fun _ _ => rfl)) (pv 3) (fun _ _ => rfl)) pe_int (fun _ _ => rfl)) pa_nil)))))
      (pss_one (ps_ret (pv 2))))), ?_⟩
    have zc := z.cl
    obtain ⟨bn, bk⟩ := ancs_len z.ah m.cls.length k h2 h1 h2
    have efl : (facesOf m k).map fcD = (ancs m.cls k).flatMap fun j => (fcsOf m j).map fcD := by
      unfold facesOf
      rw [List.map_flatMap]; rfl
    walk_at "rd"
    refine rdSeq ?_
    walk_at "rd"
    intro p hp
    refine rdSeq ?_
    walk_at "rd"
    refine ⟨v, m, k, rfl, hv.up (.of (same_new hp)), z.ah, by omega, h1, h2, fun l H1 hl s1 hl1 => ⟨l, rfl, ⟨_, sqL_of hl1⟩, ?_⟩⟩
    have npl : p ≠ l := ne_of_none (show upd H p (.lst []) p = some (.lst []) from upd_same) hl
    refine i_for (walk_listL (K := K) (a := l) (l := ancs m.cls k) (r := V.int)) (WF K m v k H p l) ⟨[], s1 p _ upd_same, hl1, .nil, (same_new hp).trans s1, none, rfl⟩ (fun i σ H' _ h => by obtain ⟨_, _, hq, _⟩ := h; exact sqL_of hq) ?_ ?_
    · rintro i x σ H2 H3 hi ⟨vs, hp2, hq2, fl, hs, u, rfl⟩ ⟨rfl, j, hj, rfl⟩
      have hjm := List.mem_of_getElem? hj
      obtain ⟨j0, j1⟩ := bk j hjm
      obtain ⟨jn, rfl⟩ := Int.eq_ofNat_of_zero_le j0
      have hjl : jn < m.cls.length := by omega
      have hc := List.getElem?_eq_getElem hjl
      have ef : fcsOf m jn = m.cls[jn].fcs := by unfold fcsOf; rw [Int.toNat_natCast, hc]
      walk_at "rd"
      refine ⟨.inl ⟨rfl, _, sqL_of hp2⟩, i_ixF (i := 5) (hv.up (.of hs)) (Md.at5 m) fun x hx => i_ixF (i := jn) hx (cls_at hc) fun y hy => i_ixF (i := 2) hy rfl fun w hw => ?_⟩
      obtain ⟨a, xs, rfl, sq, fl2⟩ := hw.inv
      have tk : TupK H3 (upd H3 p (.lst (vs ++ xs))) := TupK.mut hp2 (fun _ h => nomatch h)
      have l1 := fl.len
      have l2 := fl2.len
      have l3 : (((ancs m.cls k).take i).flatMap fun j => (fcsOf m j).map fcD).length ≤ ((ancs m.cls k).take i).length * 100 := flat_len fun x _ => by rw [List.length_map]; exact fcsOf_len z x
      have l4 : ((ancs m.cls k).take i).length ≤ i := by rw [List.length_take]; omega
      have l5 := z.fc _ (List.getElem_mem hjl)
      rw [List.length_map] at l2
      have := sz_big
      refine ⟨p, a, vs, xs, rfl, rfl, hp2, sq.sq, by omega, ?_⟩
      refine ⟨vs ++ xs, upd_same, by rw [upd_ne npl.symm]; exact hq2, ?_, fun b o e => by rw [upd_ne (ne_of_none e hp)]; exact hs b o e, _, rfl⟩
      rw [List.take_add_one, hj]
      show FrL K _ _ (List.flatMap _ (List.take i (ancs m.cls k) ++ [(jn : Int)]))
      rw [List.flatMap_append, List.flatMap_singleton, ef]
      exact (fl.up tk).app (fl2.up tk)
    · rintro σ H2 ⟨vs, hp2, hq2, fl, hs, u, rfl⟩
      walk_at "rd"
      rw [List.take_length] at fl
      exact q p vs H2 hp hs hp2 (by rw [efl]; exact fl)
def rowIx (rows : List Rw) (n : Str) : Int := match rows.findIdx? (fun r => decide (r.h.nm = n)) with
  | some i => (i : Int)
  | none => -1
theorem rowIx_some {rows : List Rw} {n : Str} {i : Nat} {r : Rw} (h : rows[i]? = some r) (hn : r.h.nm = n) (hno : ∀ x ∈ rows.take i, ¬ x.h.nm = n) : rowIx rows n = i := by
  obtain ⟨hi1, hi2⟩ := List.getElem?_eq_some_iff.mp h
  have : rows.findIdx? (fun r => decide (r.h.nm = n)) = some i := by
    rw [List.findIdx?_eq_some_iff_getElem]
    refine ⟨hi1, by rw [hi2]; exact decide_eq_true hn, fun j hj => ?_⟩
    have hm : rows[j] ∈ rows.take i := by
      rw [List.mem_take_iff_getElem]
      exact ⟨j, by omega, rfl⟩
    simpa using hno _ hm
  unfold rowIx
  rw [this]
theorem rowIx_none {rows : List Rw} {n : Str} (h : ∀ x ∈ rows, ¬ x.h.nm = n) : rowIx rows n = -1 := by
  have : rows.findIdx? (fun r => decide (r.h.nm = n)) = none := by
    rw [List.findIdx?_eq_none_iff]
    intro x hx
    simpa using h x hx
  unfold rowIx
  rw [this]
def sp_row_of {K : PySem.W.Frag} {mg : Str → Option Value} (_ : Txt K mg) : Sp := fun vs H Q _ => ∃ (v : V) (rows : List Rw) (n : Str), vs = [v, .str n] ∧ Fr K H v (.tuple (rows.map Rw.d)) ∧ ∀ H', Same H H' → Q (.int (rowIx rows n)) H'
/-! ### World -/
def wfs (md cl : Addr) : List (Str × V) := [("_modules", .ref md), ("_classes", .ref cl)]
def clsOf (ms : List Md) : List (Str × Nat) := ms.flatMap fun m => (List.range m.cls.length).map fun k => (m.nm, k)
def cpD (x : Str × Nat) : PyData := .tuple [.str x.1, .int x.2]
def kvsOf : List Md → List V → List (Key × V)
  | m :: ms, v :: vs => (.inr m.nm, v) :: kvsOf ms vs
  | _, _ => []
/-- a World object stands at a and knows ms -/
structure Wd (K : PySem.W.Frag) (C : Addr) (H : Hp) (a md cl : Addr) (ms : List Md) : Prop where
  ob : ∃ dx, H a = some (.ins C dx (wfs md cl))
  mo : ∃ vs, H md = some (.dK (kvsOf ms vs)) ∧ FrL K H vs (ms.map Md.d)
  cs : ∃ ws, H cl = some (.lst ws) ∧ FrL K H ws ((clsOf ms).map cpD)
theorem Wd.same {K : PySem.W.Frag} {C : Addr} {H H' : Hp} {a md cl : Addr} {ms : List Md} (w : Wd K C H a md cl ms) (s : Same H H') : Wd K C H' a md cl ms := by
  obtain ⟨⟨dx, h1⟩, ⟨vs, h2, f2⟩, ⟨ws, h3, f3⟩⟩ := w
  exact ⟨⟨dx, s _ _ h1⟩, ⟨vs, s _ _ h2, f2.up (.of s)⟩, ⟨ws, s _ _ h3, f3.up (.of s)⟩⟩
/-- what is known of the modules -/
structure Ms (ms : List Md) : Prop where
  nd : (ms.map Md.nm).Nodup
  sz : ∀ m ∈ ms, Sz m
  ln : ms.length ≤ 100
def findM (ms : List Md) (n : Str) : Option Md := ms.find? fun m => decide (m.nm = n)
theorem find_kvs {K : PySem.W.Frag} {H : Hp} {n : Str} : ∀ {ms : List Md} {vs : List V}, FrL K H vs (ms.map Md.d) →
    (∃ m v, findM ms n = some m ∧ valV (kvsOf ms vs) (.inr n) = some v ∧ Fr K H v m.d) ∨ (findM ms n = none ∧ valV (kvsOf ms vs) (.inr n) = none)
  | [], [], _ => .inr ⟨rfl, rfl⟩
  | m :: ms, v :: vs, .cons h t => by
    unfold findM
    by_cases e : m.nm = n
    · refine .inl ⟨m, v, by rw [List.find?_cons, decide_eq_true e], valV_pos (congrArg Sum.inr e), h⟩
    · rw [List.find?_cons, decide_eq_false e]
      have ev : valV (kvsOf (m :: ms) (v :: vs)) (.inr n) = valV (kvsOf ms vs) (.inr n) := valV_neg (fun q => e (Sum.inr.inj q))
      rw [ev]
      exact find_kvs t
theorem keys_kvs : ∀ {ms : List Md} {vs : List V}, vs.length = ms.length → (kvsOf ms vs).map (fun kv => kV kv.1) = ms.map fun m => V.str m.nm
  | [], [], _ => rfl
  | m :: ms, v :: vs, h => by
    show V.str m.nm :: _ = _
    rw [keys_kvs (Nat.succ.inj h)]; rfl
def sp_World_init {K : PySem.W.Frag} {mg : Str → Option Value} (T : Txt K mg) : Sp := fun vs H Q _ => ∃ (x dx : Addr), vs = [.ref x] ∧ H x = some (.ins T.c_World dx []) ∧
  ∀ H' md cl, Wd K T.c_World H' x md cl [] → H md = none → H cl = none → md ≠ cl → Kp [x] H H' → Q .non H'
theorem ok_World_init (T : Txt K mg) : FnOk P w K mg base CX0 1 T.f_World_init T.d_World_init ["self"] (sp_World_init T) := by
  refine T.k_World_init.ok sc_World_init (fun vs H Q E h => ?_) (fun cdv A outer s H vs Q E hr h => ?_)
  · obtain ⟨x, dx, rfl, _⟩ := h
    rfl
  · obtain ⟨x, dx, rfl, hx, q⟩ := h
    refine ⟨_, (pss_cons (ps_fldK K (pv 0) pe_dnewK rfl)
      (pss_one (ps_fldK K (pv 0) (pe_lst pa_nil) rfl))), ?_⟩
    walk_at "rd"
    refine rdSeq ?_
    walk_at "rd"
    intro md hmd
    have xm : x ≠ md := ne_of_none hx hmd
    refine i_fldS T.cl_World T.nf_World_modules (same_new hmd _ _ hx) (by decide) fun cl hcl => ?_
    have h3 : upd (upd H md (.dK [])) x (.ins T.c_World dx (putF "_modules" (.ref md) [])) x = some (.ins T.c_World dx (putF "_modules" (.ref md) [])) := upd_same
    have xc : x ≠ cl := ne_of_none h3 hcl
    have hcl0 : H cl = none := by
      rw [upd_ne xc.symm] at hcl
      exact (same_new hmd).free hcl
    have mc : md ≠ cl := ne_of_none (show upd (upd H md (.dK [])) x (.ins T.c_World dx (putF "_modules" (.ref md) [])) md = some (.dK []) by rw [upd_ne xm.symm, upd_same]) hcl
    refine i_fldS T.cl_World T.nf_World_classes (same_new hcl _ _ h3) (by show 1 < 1000; decide) ?_
    refine q _ md cl ⟨⟨dx, by rw [upd_same]; rfl⟩, ⟨[], ?_, .nil⟩, ⟨[], ?_, .nil⟩⟩ hmd hcl0 mc ?_
    · rw [upd_ne xm.symm, upd_ne mc, upd_ne xm.symm, upd_same]; rfl
    · rw [upd_ne xc.symm, upd_same]
    · intro b o hb e
      have hb : b ≠ x := by simpa using hb
      rw [upd_ne hb, upd_ne (ne_of_none e hcl0), upd_ne hb]
      exact same_new hmd b o e
def sp_World_names {K : PySem.W.Frag} {mg : Str → Option Value} (T : Txt K mg) : Sp := fun vs H Q _ => ∃ (a md cl : Addr) (ms : List Md), vs = [.ref a] ∧ Wd K T.c_World H a md cl ms ∧ ∀ p H', H p = none → Same H H' → H' p = some (.lst (ms.map fun m => V.str m.nm)) → Q (.ref p) H'
theorem ok_World_names (T : Txt K mg) : FnOk P w K mg base CX0 1 T.f_World_names T.d_World_names ["self"] (sp_World_names T) := by
  refine T.k_World_names.ok sc_World_names (fun vs H Q E h => ?_) (fun cdv A outer s H vs Q E hr h => ?_)
  · obtain ⟨a, md, cl, ms, rfl, _⟩ := h
    rfl
  · obtain ⟨a, md, cl, ms, rfl, w, q⟩ := h
    obtain ⟨⟨dx, h1⟩, ⟨vs, h2, f2⟩, _⟩ := w
    refine ⟨_, (pss_one (ps_ret (pe_callTy (call_list_dK rfl) (by rfl) T.m_list (by decide +kernel) (pa_cons (pe_fldK K (pv 0) rfl) pa_nil)))), ?_⟩
    walk_at "rd"
    refine i_fld T.cl_World T.nf_World_modules h1 rfl ⟨md, _, rfl, h2, fun p hp => q p _ hp (same_new hp) ?_⟩
    rw [upd_same, keys_kvs (by have := f2.len; rw [List.length_map] at this; exact this)]
def sp_World_module {K : PySem.W.Frag} {mg : Str → Option Value} (T : Txt K mg) : Sp := fun vs H Q E => ∃ (a md cl : Addr) (ms : List Md) (n : Str), vs = [.ref a, .str n] ∧ Wd K T.c_World H a md cl ms ∧
  (∀ m v, findM ms n = some m → Fr K H v m.d → Q v H) ∧ (findM ms n = none → ErrL T.c_BadLink H E)
theorem ok_World_module (T : Txt K mg) : FnOk P w K mg base (L2.CX P w) 1 T.f_World_module T.d_World_module ["self", "name"] (sp_World_module T) := by
  refine T.k_World_module.okX sc_World_module (fun vs H Q E h => ?_) (fun cdv A outer s H vs Q E hr h => ?_)
  · obtain ⟨a, md, cl, ms, n, rfl, _⟩ := h
    rfl
  · obtain ⟨a, md, cl, ms, n, rfl, w, q1, q2⟩ := h
    obtain ⟨⟨dx, h1⟩, ⟨vs, h2, f2⟩, _⟩ := w
    refine ⟨_, (pss_cons (ps_if (pt_cmp (pc_dnotin (hu_of hr) (pv 1) (pe_fldK K (pv 0) rfl)) rfl) (pss_one (ps_raise rfl (takes_of rfl rfl rfl rfl) (pmk_own0 PySem.F.excBase_ValueError T.x_BadLink.x T.g_BadLink T.x_BadLink.kp (raises_own T.x_BadLink.be T.x_BadLink.ty) (by exact rfl)))) pss_nil)
      (pss_one (ps_ret (pe_dget (hu_of hr) (pe_fldK K (pv 0) rfl) (pv 1) (fun _ _ => rfl))))), ?_⟩
    walk_at "rd"
    refine rdSeq ?_
    walk_at "rd"
    refine i_fld T.cl_World T.nf_World_modules h1 rfl ?_
    refine ⟨md, rfl, _, DGet.k (k := .inr n) h2, ?_⟩
    rcases find_kvs (n := n) f2 with ⟨m, v, e1, e2, fv⟩ | ⟨e1, e2⟩
    · rw [e2]
      refine i_else (by simp) ?_
      exact i_fld T.cl_World T.nf_World_modules h1 rfl (i_dget h2 e2 (q1 m v e1 fv))
    · rw [e2]
      exact i_then rfl (q2 e1 H (Same.refl H))
def faceM (ms : List Md) (p f : Str) : Option (List Hd) := (findM ms p).bind fun m => (m.fcs.find? fun x => decide (x.1 = f)).map (·.2)
theorem face_loop {K : PySem.W.Frag} {H : Hp} {f : Str} {fcs : List (Str × List Hd)} {xs : List V} (fl : FrL K H xs (fcs.map faceD)) {a : Addr} (sq : SqC K H a xs) {D : Ends} {j : Nat} {σ : L2.St} {tb : TS}
    (hb : ∀ (i : Nat) (x : Str × List Hd) (v : V), fcs[i]? = some x → Fr K H v (faceD x) → ∀ D' : Ends, D'.rt = D.rt → (x.1 = f → ∀ w, Fr K H w (.tuple (x.2.map Hd.d)) → D.rt w H) → (x.1 ≠ f → D'.nx (σ.set j (some v)) H) → tb D' (σ.set j (some v)) H)
    (h1 : ∀ x, fcs.find? (fun x => decide (x.1 = f)) = some x → ∀ w, Fr K H w (.tuple (x.2.map Hd.d)) → D.rt w H) (h2 : fcs.find? (fun x => decide (x.1 = f)) = none → D.nx σ H ∧ ∀ u, D.nx (σ.set j u) H) : rForJ (Itt K a) (gName j) tb D σ H := by
  have hlen := fl.len
  rw [List.length_map] at hlen
  refine i_for (walk_tup (K := K) (a := a) (xs := xs)) (fun i σ' H' => H' = H ∧ (σ' = σ ∨ ∃ u, σ' = σ.set j u) ∧ ∀ x ∈ fcs.take i, ¬ x.1 = f) ⟨rfl, .inl rfl, by simp⟩ (fun i σ' H' _ h => by rw [h.1]; exact sq.sq) ?_ ?_
  · rintro i x σ' H' H2 hi ⟨rfl, hσ, hno⟩ ⟨rfl, hx⟩
    have hi2 : i < fcs.length := by omega
    obtain ⟨d, hd, fx⟩ := fl.getV hx
    rw [List.getElem?_map, List.getElem?_eq_getElem hi2] at hd
    cases hd
    have es : σ'.set j (some x) = σ.set j (some x) := by
      rcases hσ with rfl | ⟨u, rfl⟩
      · rfl
      · rw [List.set_set]
    rw [es]
    refine hb i fcs[i] x (List.getElem?_eq_getElem hi2) fx _ rfl (fun e w hw => h1 fcs[i] ?_ w hw) (fun e => ⟨rfl, .inr ⟨_, rfl⟩, fun y hy => ?_⟩)
    · rw [List.find?_eq_some_iff_getElem]
      refine ⟨decide_eq_true e, i, hi2, rfl, fun k hk => ?_⟩
      have hm : fcs[k] ∈ fcs.take i := by
        rw [List.mem_take_iff_getElem]
        exact ⟨k, by omega, rfl⟩
      simpa using hno _ hm
    · rw [List.take_add_one, List.getElem?_eq_getElem hi2] at hy
      rcases List.mem_append.mp hy with k | k
      · exact hno y k
      · rw [List.mem_singleton.mp k]; exact e
  · rintro σ' H' ⟨rfl, hσ, hno⟩
    rw [hlen, List.take_length] at hno
    have h3 := h2 (by rw [List.find?_eq_none]; intro x hx; simpa using hno x hx)
    rcases hσ with rfl | ⟨u, rfl⟩
    · exact h3.1
    · exact h3.2 u
def sp_World_face {K : PySem.W.Frag} {mg : Str → Option Value} (T : Txt K mg) : Sp := fun vs H Q _ => ∃ (a md cl : Addr) (ms : List Md) (p f : Str), vs = [.ref a, .str p, .str f] ∧ Wd K T.c_World H a md cl ms ∧
  (∀ hs v, faceM ms p f = some hs → Fr K H v (.tuple (hs.map Hd.d)) → Q v H) ∧ (faceM ms p f = none → Q .non H)
theorem ok_World_face (T : Txt K mg) : FnOk P w K mg base CX0 1 T.f_World_face T.d_World_face ["self", "package", "name"] (sp_World_face T) := by
  refine T.k_World_face.ok sc_World_face (fun vs H Q E h => ?_) (fun cdv A outer s H vs Q E hr h => ?_)
  · obtain ⟨a, md, cl, ms, p, f, rfl, _⟩ := h
    rfl
  · obtain ⟨a, md, cl, ms, p, f, rfl, w, q1, q2⟩ := h
    obtain ⟨⟨dx, h1⟩, ⟨vs, h2, f2⟩, _⟩ := w
    refine ⟨_, (pss_cons (ps_if (pt_cmp (pc_dnotin (hu_of hr) (pv 1) (pe_fldK K (pv 0) rfl)) rfl) (pss_one (ps_ret pe_non)) pss_nil)
      (pss_cons (ps_for PassesOwn.never rfl (pi_tup (pe_ix (ix_tupK K) (pe_dget (hu_of hr) (pe_fldK K (pv 0) rfl) (pv 1) (fun _ _ => rfl)) pe_int (fun _ _ => rfl))) (pg_name (i := 3) sc_World_face.nd rfl (Or.inl rfl)) (pss_one (ps_if (pt_cmpR op_eq (pe_ix (ix_tupK K) (pv 3) pe_int (fun _ _ => rfl)) (pv 2) (nomark _)) (pss_one (ps_ret (pe_ix (ix_tupK K) (pv 3) pe_int (fun _ _ => rfl)))) pss_nil)))
      (pss_one (ps_ret pe_non)))), ?_⟩
    walk_at "rd"
    refine rdSeq ?_
    walk_at "rd"
    refine i_fld T.cl_World T.nf_World_modules h1 rfl ⟨md, rfl, _, DGet.k (k := .inr p) h2, ?_⟩
    unfold faceM at q1 q2
    rcases find_kvs (n := p) f2 with ⟨m, v, e1, e2, fv⟩ | ⟨e1, e2⟩
    · rw [e1] at q1 q2
      rw [e2]
      refine i_else (by simp) (rdSeq ?_)
      walk_at "rd"
      refine i_fld T.cl_World T.nf_World_modules h1 rfl (i_dget h2 e2 (i_ixF (i := 4) fv (Md.at4 m) fun x hx => ?_))
      obtain ⟨t, xs, rfl, sq, fl⟩ := hx.inv
      refine ⟨t, rfl, ⟨_, sq.sq⟩, ?_⟩
      refine face_loop (f := f) fl sq (fun i x v hix fx D' e1 e2 e3 => ?_) (fun x hx w hw => q1 x.2 w (by show Option.map _ _ = _; rw [hx]; rfl) hw) (fun hn => ?_)
      · walk_at "rd"
        refine i_ixFs (i := 0) fx rfl ⟨rfl, ite2 (fun h => i_ixF (i := 1) fx rfl fun w hw => ?_) (fun h => e3 fun e => h (by rw [e]))⟩
        rw [e1]; exact e2 (V.str.inj h) w hw
      · have q3 := q2 (by show Option.map _ _ = _; rw [hn]; rfl)
        exact ⟨by walk_at "rd"; exact q3, fun u => by walk_at "rd"; exact q3⟩
    · rw [e1] at q2
      rw [e2]
      exact i_then rfl (q2 rfl)
def sp_World_count {K : PySem.W.Frag} {mg : Str → Option Value} (T : Txt K mg) : Sp := fun vs H Q _ => ∃ (a md cl : Addr) (ms : List Md), vs = [.ref a] ∧ Wd K T.c_World H a md cl ms ∧ Q (.int (clsOf ms).length) H
def sp_World_package {K : PySem.W.Frag} {mg : Str → Option Value} (T : Txt K mg) : Sp := fun vs H Q _ => ∃ (a md cl : Addr) (ms : List Md) (g : Nat) (x : Str × Nat), vs = [.ref a, .int g] ∧ Wd K T.c_World H a md cl ms ∧ (clsOf ms)[g]? = some x ∧ Q (.str x.1) H
theorem ok_World_package (T : Txt K mg) : FnOk P w K mg base CX0 1 T.f_World_package T.d_World_package ["self", "g"] (sp_World_package T) := by
  refine T.k_World_package.ok sc_World_package (fun vs H Q E h => ?_) (fun cdv A outer s H vs Q E hr h => ?_)
  · obtain ⟨a, md, cl, ms, g, x, rfl, _⟩ := h
    rfl
  · obtain ⟨a, md, cl, ms, g, x, rfl, w, hg, q⟩ := h
    obtain ⟨⟨dx, h1⟩, _, ⟨ws, h3, f3⟩⟩ := w
    refine ⟨_, (pss_one (ps_ret (pe_ix (ix_tupK K) (pe_ix (ix_listK K) (pe_fldK K (pv 0) rfl) (pv 1) (fun _ _ => rfl)) pe_int (fun _ _ => rfl)))), ?_⟩
    walk_at "rd"
    obtain ⟨v, hv, fv⟩ := f3.get (i := g) (d := cpD x) (by rw [List.getElem?_map, hg]; rfl)
    exact i_fld T.cl_World T.nf_World_classes h1 rfl (i_ixL (sqL_of h3) (atI_nat hv) (i_ixFs (i := 0) fv rfl q))
def sp_World_own {K : PySem.W.Frag} {mg : Str → Option Value} (T : Txt K mg) : Sp := fun vs H Q _ => ∃ (a md cl : Addr) (ms : List Md) (g : Nat) (x : Str × Nat), vs = [.ref a, .int g] ∧ Wd K T.c_World H a md cl ms ∧ (clsOf ms)[g]? = some x ∧ Q (.int x.2) H
theorem ok_World_own (T : Txt K mg) : FnOk P w K mg base CX0 1 T.f_World_own T.d_World_own ["self", "g"] (sp_World_own T) := by
  refine T.k_World_own.ok sc_World_own (fun vs H Q E h => ?_) (fun cdv A outer s H vs Q E hr h => ?_)
  · obtain ⟨a, md, cl, ms, g, x, rfl, _⟩ := h
    rfl
  · obtain ⟨a, md, cl, ms, g, x, rfl, w, hg, q⟩ := h
    obtain ⟨⟨dx, h1⟩, _, ⟨ws, h3, f3⟩⟩ := w
    refine ⟨_, (pss_one (ps_ret (pe_ix (ix_tupK K) (pe_ix (ix_listK K) (pe_fldK K (pv 0) rfl) (pv 1) (fun _ _ => rfl)) pe_int (fun _ _ => rfl)))), ?_⟩
    walk_at "rd"
    obtain ⟨v, hv, fv⟩ := f3.get (i := g) (d := cpD x) (by rw [List.getElem?_map, hg]; rfl)
    exact i_fld T.cl_World T.nf_World_classes h1 rfl (i_ixL (sqL_of h3) (atI_nat hv) (i_ixFi (i := 1) fv rfl q))
/-- the g-th class -/
structure ClAt (ms : List Md) (g : Nat) (m : Md) (k : Nat) (c : Cl) : Prop where
  hg : (clsOf ms)[g]? = some (m.nm, k)
  hm : findM ms m.nm = some m
  hc : m.cls[k]? = some c
def sp_World__row {K : PySem.W.Frag} {mg : Str → Option Value} (T : Txt K mg) : Sp := fun vs H Q _ => ∃ (a md cl : Addr) (ms : List Md) (g : Nat) (m : Md) (k : Nat) (c : Cl), vs = [.ref a, .int g] ∧ Wd K T.c_World H a md cl ms ∧ ClAt ms g m k c ∧ ∀ v, Fr K H v c.d → Q v H
theorem ok_World__row (T : Txt K mg) : FnOk P w K mg base CX0 1 T.f_World__row T.d_World__row ["self", "g"] (sp_World__row T) := by
  refine T.k_World__row.ok sc_World__row (fun vs H Q E h => ?_) (fun cdv A outer s H vs Q E hr h => ?_)
  · obtain ⟨a, md, cl, ms, g, m, k, c, rfl, _⟩ := h
    rfl
  · obtain ⟨a, md, cl, ms, g, m, k, c, rfl, w, hc, q⟩ := h
    obtain ⟨⟨dx, h1⟩, ⟨vs, h2, f2⟩, ⟨ws, h3, f3⟩⟩ := w
    refine ⟨_, (pss_cons (ps_asg (pe_ix (ix_listK K) (pe_fldK K (pv 0) rfl) (pv 1) (fun _ _ => rfl)) (pg_tup rfl (pgs_cons (pg_name (i := 2) sc_World__row.nd rfl (Or.inl rfl)) (pgs_cons (pg_name (i := 3) sc_World__row.nd rfl (Or.inl rfl)) pgs_nil))))
      (pss_one (ps_ret (pe_ix (ix_tupK K) (pe_ix (ix_tupK K) (pe_dget (hu_of hr) (pe_fldK K (pv 0) rfl) (pv 2) (fun _ _ => rfl)) pe_int (fun _ _ => rfl)) (pv 3) (fun _ _ => rfl))))), ?_⟩
    walk_at "rd"
    refine rdSeq ?_
    walk_at "rd"
    obtain ⟨v, hv, fv⟩ := f3.get (i := g) (d := cpD (m.nm, k)) (by rw [List.getElem?_map, hc.hg]; rfl)
    obtain ⟨t, xs, rfl, sq, fl⟩ := fv.inv
    refine i_fld T.cl_World T.nf_World_classes h1 rfl (i_ixL (sqL_of h3) (atI_nat hv) ?_)
    cases fl with
    | cons n1 fl => cases fl with
      | cons n2 fl =>
        cases fl
        rw [n1.strI, n2.intI] at sq
        refine i_gTup2 rfl sq.sq ?_
        walk_at "rd"
        rcases find_kvs (n := m.nm) f2 with ⟨m', v, e1, e2, fv⟩ | ⟨e1, e2⟩
        · rw [hc.hm] at e1
          cases e1
          exact i_fld T.cl_World T.nf_World_modules h1 rfl (i_dget h2 e2 (i_ixF (i := 5) fv (Md.at5 m) fun x hx => i_ixF (i := k) hx (cls_at hc.hc) fun y hy => q y hy))
        · rw [hc.hm] at e1; cases e1
def sp_World_fields {K : PySem.W.Frag} {mg : Str → Option Value} (T : Txt K mg) : Sp := fun vs H Q _ => ∃ (a md cl : Addr) (ms : List Md) (g : Nat) (m : Md) (k : Nat) (c : Cl), vs = [.ref a, .int g] ∧ Wd K T.c_World H a md cl ms ∧ ClAt ms g m k c ∧ ∀ v, Fr K H v (.tuple (c.fds.map Kd.d)) → Q v H
def sp_World_method {K : PySem.W.Frag} {mg : Str → Option Value} (T : Txt K mg) : Sp := fun vs H Q _ => ∃ (a md cl : Addr) (ms : List Md) (g : Nat) (m : Md) (k : Nat) (c : Cl) (j : Nat) (r : Rw), vs = [.ref a, .int g, .int j] ∧ Wd K T.c_World H a md cl ms ∧ ClAt ms g m k c ∧ c.tb[j]? = some r ∧ Q (.int r.m) H
theorem ok_World_method (T : Txt K mg) : FnOk P w K mg base CX0 2 T.f_World_method T.d_World_method ["self", "g", "row"] (sp_World_method T) := by
  refine T.k_World_method.ok sc_World_method (fun vs H Q E h => ?_) (fun cdv A outer s H vs Q E hr h => ?_)
  · obtain ⟨a, md, cl, ms, g, m, k, c, j, r, rfl, _⟩ := h
    rfl
  · obtain ⟨a, md, cl, ms, g, m, k, c, j, r, rfl, w, hc, hj, q⟩ := h
    have w0 := w
    obtain ⟨⟨dx, h1⟩, _, _⟩ := w0
    refine ⟨_, (pss_one (ps_ret (pe_ix (ix_tupK K) (pe_ix (ix_tupK K) (pe_ix (ix_tupK K) (pe_meth (pv 0) T.cl_World T.me_World__row (ok_World__row T) (hr.mono (by decide)) T.b_World__row .nil pass0 (pa_cons (pv 1) pa_nil)) pe_int (fun _ _ => rfl)) (pv 2) (fun _ _ => rfl)) pe_int (fun _ _ => rfl)))), ?_⟩
    walk_at "rd"
    refine i_meth h1 rfl ?_
    walk_at "rd"
    exact ⟨a, md, cl, ms, g, m, k, c, rfl, w, hc, fun v hv => i_ixF (i := 4) hv rfl fun y hy => i_ixF (i := j) hy (by rw [List.getElem?_map, hj]; rfl) fun u hu => i_ixFi (i := 3) hu rfl q⟩

/-! ### equality of types, numbers of classes -/
def KdOk : Kd → Prop
  | .fac a b => PyData.strOk a = true ∧ PyData.strOk b = true
  | _ => True
theorem kd_lay {k : Kd} (h : KdOk k) : PyData.canLay0 k.d = true ∧ PyData.depth k.d ≤ 2 := by
  cases k with
  | int => exact ⟨by decide +kernel, by decide⟩
  | bytes => exact ⟨by decide +kernel, by decide⟩
  | nothing => exact ⟨by decide +kernel, by decide⟩
  | null => exact ⟨by decide +kernel, by decide⟩
  | cls k =>
    refine ⟨?_, by simp [Kd.d, PyData.depth, PyData.depthAll]⟩
    show (PyData.strOk "class" && (true && true)) = true
    decide +kernel
  | fac a b =>
    refine ⟨?_, by simp [Kd.d, PyData.depth, PyData.depthAll]⟩
    show (PyData.strOk "face" && (PyData.strOk a && (PyData.strOk b && true))) = true
    rw [h.1, h.2]; decide +kernel
theorem kd_shaped {k : Kd} (h : KdOk k) : SeqAt.shaped k.d = true := by
  obtain ⟨h1, h2⟩ := kd_lay h
  unfold SeqAt.shaped
  rw [h1, Bool.true_and]
  exact decide_eq_true (by omega)
theorem strL_eqv {a b : Str} {xs ys : List PyData} : PyData.eqv (.tuple (.str a :: xs)) (.tuple (.str b :: ys)) = ((a == b) && PyData.eqv (.tuple xs) (.tuple ys)) := rfl
theorem kdN_ne {a b : Kd} (h : kdN a ≠ kdN b) : PyData.eqv a.d b.d = false := by
  obtain ⟨r1, e1⟩ := kd_at0 a
  obtain ⟨r2, e2⟩ := kd_at0 b
  rw [e1, e2, strL_eqv, beq_eq_false_iff_ne.mpr h]; rfl
def kTag : Kd → Nat
  | .int => 0 | .bytes => 1 | .nothing => 2 | .null => 3 | .cls _ => 4 | .fac _ _ => 5
def tagS (n : Nat) : Str := (["int", "bytes", "nothing", "null", "class", "face"] : List Str).getD n ""
theorem kdN_tag (k : Kd) : kdN k = tagS (kTag k) ∧ kTag k < 6 := by cases k <;> exact ⟨rfl, by simp [kTag]⟩
theorem tag_of {a b : Kd} (h : kdN a = kdN b) : kTag a = kTag b := by
  obtain ⟨e1, l1⟩ := kdN_tag a
  obtain ⟨e2, l2⟩ := kdN_tag b
  rw [e1, e2] at h
  have := (show ∀ i < 6, ∀ j < 6, tagS i = tagS j → i = j by decide +kernel) _ l1 _ l2 h
  exact this
theorem kd_eqv (a b : Kd) : PyData.eqv a.d b.d = decide (a = b) := by
  by_cases hn : kdN a = kdN b
  · have ht := tag_of hn
    cases a with
    | int => cases b <;> first | decide +kernel | (exfalso; simp [kTag] at ht)
    | bytes => cases b <;> first | decide +kernel | (exfalso; simp [kTag] at ht)
    | nothing => cases b <;> first | decide +kernel | (exfalso; simp [kTag] at ht)
    | null => cases b <;> first | decide +kernel | (exfalso; simp [kTag] at ht)
    | cls k =>
      cases b with
      | cls j =>
        show ((("class" : Str) == "class") && ((k : Int) == (j : Int) && true)) = _
        by_cases h : k = j
        · subst h; simp
        · have hk : ((k : Int) == (j : Int)) = false := by rw [beq_eq_false_iff_ne]; exact fun q => h (Int.ofNat.inj q)
          rw [hk, decide_eq_false (fun q => h (by injection q))]; simp
      | _ => exfalso; exact absurd ht (by simp [kTag])
    | fac p f =>
      cases b with
      | fac p2 f2 =>
        show ((("face" : Str) == "face") && ((p == p2) && ((f == f2) && true))) = _
        by_cases h1 : p = p2
        · by_cases h2 : f = f2
          · subst h1; subst h2; simp
          · rw [beq_eq_false_iff_ne.mpr h2, decide_eq_false (fun q => h2 (by injection q))]; simp
        · rw [beq_eq_false_iff_ne.mpr h1, decide_eq_false (fun q => h1 (by injection q))]; simp
      | _ => exfalso; exact absurd ht (by simp [kTag])
  · rw [kdN_ne hn, decide_eq_false (fun q => hn (by rw [q]))]
theorem cp_eqv (x y : Str × Nat) : PyData.eqv (cpD x) (cpD y) = decide (x = y) := by
  show ((x.1 == y.1) && (((x.2 : Nat) : Int) == ((y.2 : Nat) : Int) && true)) = _
  by_cases h1 : x.1 = y.1
  · by_cases h2 : x.2 = y.2
    · have : x = y := Prod.ext h1 h2
      rw [decide_eq_true this, h1, h2]; simp
    · have hk : ((((x.2 : Nat) : Int)) == ((y.2 : Nat) : Int)) = false := by rw [beq_eq_false_iff_ne]; exact fun q => h2 (Int.ofNat.inj q)
      rw [decide_eq_false (fun q => h2 (by rw [q])), hk]; simp
  · rw [decide_eq_false (fun q => h1 (by rw [q])), beq_eq_false_iff_ne.mpr h1]; rfl
theorem clsOf_cons (m : Md) (ms : List Md) : clsOf (m :: ms) = ((List.range m.cls.length).map fun k => (m.nm, k)) ++ clsOf ms := rfl
theorem clsOf_mem {ms : List Md} {x : Str × Nat} (h : x ∈ clsOf ms) : ∃ m ∈ ms, m.nm = x.1 ∧ x.2 < m.cls.length := by
  unfold clsOf at h
  obtain ⟨m, hm, h⟩ := List.mem_flatMap.mp h
  obtain ⟨k, hk, rfl⟩ := List.mem_map.mp h
  exact ⟨m, hm, rfl, List.mem_range.mp hk⟩
theorem clsOf_nd : ∀ {ms : List Md}, (ms.map Md.nm).Nodup → (clsOf ms).Nodup
  | [], _ => List.nodup_nil
  | m :: ms, h => by
    rw [List.map_cons, List.nodup_cons] at h
    rw [clsOf_cons, List.nodup_append]
    refine ⟨?_, clsOf_nd h.2, ?_⟩
    · rw [List.nodup_iff_pairwise_ne, List.pairwise_map]
      exact (List.nodup_iff_pairwise_ne.mp List.nodup_range).imp fun hne e => hne (Prod.mk.inj e).2
    · intro a ha b hb e
      obtain ⟨k, _, rfl⟩ := List.mem_map.mp ha
      obtain ⟨m2, hm2, e2, _⟩ := clsOf_mem hb
      rw [← e] at e2
      exact h.1 (List.mem_map.mpr ⟨m2, hm2, e2⟩)
theorem cps_lay : ∀ {xs : List (Str × Nat)}, (∀ x ∈ xs, PyData.strOk x.1 = true) → PyData.canLayAll0 (xs.map cpD) = true ∧ PyData.depthAll (xs.map cpD) ≤ 2
  | [], _ => by simp [PyData.canLayAll0, PyData.depthAll]
  | x :: xs, h => by
    have ih := cps_lay (xs := xs) fun y hy => h y (List.mem_cons_of_mem _ hy)
    have e1 : PyData.canLay0 (cpD x) = true := by
      show (PyData.strOk x.1 && (true && true)) = true
      rw [h x List.mem_cons_self]; rfl
    have e2 : PyData.depth (cpD x) ≤ 2 := by simp [cpD, PyData.depth, PyData.depthAll]
    simp [PyData.canLayAll0, PyData.depthAll, ih.1, e1]
    omega
theorem shaped_of {ds : List PyData} (h : PyData.canLayAll0 ds = true ∧ PyData.depthAll ds ≤ 60) : SeqAt.shaped (.list ds) = true ∧ SeqAt.shaped (.tuple ds) = true := by
  refine ⟨?_, ?_⟩ <;>
  · unfold SeqAt.shaped
    rw [Bool.and_eq_true]
    refine ⟨h.1, decide_eq_true ?_⟩
    show PyData.depthAll ds + 1 ≤ 64
    omega
def sp_World_number {K : PySem.W.Frag} {mg : Str → Option Value} (T : Txt K mg) : Sp := fun vs H Q _ => ∃ (a md cl : Addr) (ms : List Md) (x : Str × Nat) (j : Nat), vs = [.ref a, .str x.1, .int x.2] ∧ Wd K T.c_World H a md cl ms ∧ Ms ms ∧ (clsOf ms)[j]? = some x ∧ ∀ H', Same H H' → Q (.int j) H'
/-! ### kinds -/
def isKind (m : Md) (k : Nat) (p : Str) : Kd → Bool
  | .cls j => decide (p = m.nm) && decide ((j : Int) ∈ ancs m.cls k)
  | .fac a b => decide ((a, b) ∈ facesOf m k)
  | _ => false
theorem isKind_cls {m : Md} {k : Nat} {p : Str} {j : Nat} : isKind m k p (.cls j) = (decide (p = m.nm) && decide ((j : Int) ∈ ancs m.cls k)) := rfl
theorem inV_ints {j : Int} : ∀ {l : List Int}, inV (.int j) (intsV l) = decide (j ∈ l)
  | [] => rfl
  | x :: l => by
    have ih := inV_ints (j := j) (l := l)
    show ((x == j) || inV (.int j) (intsV l)) = _
    rw [ih]
    by_cases e : x = j
    · subst e; simp
    · rw [beq_eq_false_iff_ne.mpr e]
      by_cases h : j ∈ l <;> simp [h, Ne.symm e]
theorem ints_flat {l : List Int} : (intsV l).all flatV = true := by
  rw [List.all_eq_true]
  intro v hv
  obtain ⟨_, _, rfl⟩ := List.mem_map.mp hv
  rfl
theorem any_fc {a b : Str} : ∀ {l : List (Str × Str)}, ((l.map fcD).any fun z => PyData.eqv z (Kd.fac a b).d) = decide ((a, b) ∈ l)
  | [] => rfl
  | x :: l => by
    have ih := any_fc (a := a) (b := b) (l := l)
    rw [List.map_cons, List.any_cons, ih, fcD_eq, kd_eqv]
    by_cases e : x = (a, b)
    · subst e
      rw [decide_eq_true (show faceKd (a, b) = Kd.fac a b from rfl)]
      simp
    · rw [decide_eq_false (show ¬ faceKd x = Kd.fac a b from fun q => e (by
        obtain ⟨x1, x2⟩ := x
        have q : Kd.fac x1 x2 = Kd.fac a b := q
        injection q with q1 q2
        rw [q1, q2]))]
      by_cases h : (a, b) ∈ l <;> simp [h, Ne.symm e]
theorem faces_ok {m : Md} (z : Sz m) {k : Int} : ∀ f ∈ facesOf m k, PyData.strOk f.1 = true ∧ PyData.strOk f.2 = true := by
  intro f hf
  obtain ⟨j, _, hf⟩ := List.mem_flatMap.mp hf
  cases e : m.cls[j.toNat]? with
  | none => rw [e] at hf; cases hf
  | some c => rw [e] at hf; exact z.fo c (List.mem_of_getElem? e) f hf
theorem kds_lay : ∀ {xs : List Kd}, (∀ x ∈ xs, KdOk x) → PyData.canLayAll0 (xs.map Kd.d) = true ∧ PyData.depthAll (xs.map Kd.d) ≤ 2
  | [], _ => by simp [PyData.canLayAll0, PyData.depthAll]
  | x :: xs, h => by
    have ih := kds_lay (xs := xs) fun y hy => h y (List.mem_cons_of_mem _ hy)
    have h0 := kd_lay (h x List.mem_cons_self)
    simp [PyData.canLayAll0, PyData.depthAll, ih.1, h0.1]
    omega
theorem fcs_map (l : List (Str × Str)) : l.map fcD = (l.map faceKd).map Kd.d := by rw [List.map_map]; rfl
def sp_World_is_kind {K : PySem.W.Frag} {mg : Str → Option Value} (T : Txt K mg) : Sp := fun vs H Q _ => ∃ (a md cl : Addr) (ms : List Md) (g : Nat) (m : Md) (k : Nat) (c : Cl) (p : Str) (v : V) (kd : Kd), vs = [.ref a, .int g, .str p, v] ∧ Wd K T.c_World H a md cl ms ∧ Ms ms ∧ ClAt ms g m k c ∧ Fr K H v kd.d ∧ KdOk kd ∧
  ∀ H', Same H H' → Q (.bl (isKind m k p kd)) H'
/-- what row tells -/
def rowF (m : Md) (k : Nat) (c : Cl) (p f : Str) (h : Hd) : Int := if (p, f) ∈ facesOf m k then rowIx c.tb h.nm else -1
def sp_World_row {K : PySem.W.Frag} {mg : Str → Option Value} (T : Txt K mg) : Sp := fun vs H Q _ => ∃ (a md cl : Addr) (ms : List Md) (g : Nat) (m : Md) (k : Nat) (c : Cl) (p f : Str) (n : Nat) (hs : List Hd) (h : Hd), vs = [.ref a, .int g, .str p, .str f, .int n] ∧ Wd K T.c_World H a md cl ms ∧ Ms ms ∧ ClAt ms g m k c ∧
  PyData.strOk p = true ∧ PyData.strOk f = true ∧ faceM ms p f = some hs ∧ hs[n]? = some h ∧ ∀ H', Same H H' → Q (.int (rowF m k c p f h)) H'
theorem i_eqKd {K : PySem.W.Frag} {H : Hp} {u v : V} {x y : Kd} {Q : VK} (hu : Fr K H u x.d) (hv : Fr K H v y.d) (ox : KdOk x) (oy : KdOk y) (q : Q (.bl (decide (x = y))) H) : rEqD K u v H Q :=
  ⟨x.d, y.d, hu.dp, hv.dp, kd_shaped ox, kd_shaped oy, by rw [kd_eqv]; exact q⟩
theorem i_neKd {K : PySem.W.Frag} {H : Hp} {u v : V} {x y : Kd} {Q : VK} (hu : Fr K H u x.d) (hv : Fr K H v y.d) (ox : KdOk x) (oy : KdOk y) (q : Q (.bl (!decide (x = y))) H) : rNeD K u v H Q :=
  ⟨x.d, y.d, hu.dp, hv.dp, kd_shaped ox, kd_shaped oy, by rw [kd_eqv]; exact q⟩
def fitsP (m : Md) (a b : Kd) : Bool := if a = b then !decide (a = .nothing) else if a = .null then (decide (b = .bytes) || (isCls b || isFac b)) else match a with
  | .cls j => isKind m j m.nm b
  | _ => false
def sp_World_fits {K : PySem.W.Frag} {mg : Str → Option Value} (T : Txt K mg) : Sp := fun vs H Q _ => ∃ (a md cl : Addr) (ms : List Md) (m : Md) (u v : V) (x y : Kd), vs = [.ref a, .str m.nm, u, v] ∧ Wd K T.c_World H a md cl ms ∧ Ms ms ∧ findM ms m.nm = some m ∧ Fr K H u x.d ∧ Fr K H v y.d ∧ KdOk x ∧ KdOk y ∧
  (∀ j, x = .cls j → ∃ c g, ClAt ms g m j c) ∧ ∀ H', Same H H' → Q (.bl (fitsP m x y)) H'
def appK (m : Md) (n : Str) : Option Nat := m.apps.find? fun k => match m.cls[k]? with
  | some c => decide (c.nm = n)
  | none => false

theorem cls_num {ms : List Md} {m : Md} {k : Nat} (h : m ∈ ms) (hk : k < m.cls.length) : ∃ j : Nat, (clsOf ms)[j]? = some (m.nm, k) := by
  have : (m.nm, k) ∈ clsOf ms := List.mem_flatMap.mpr ⟨m, h, List.mem_map.mpr ⟨k, List.mem_range.mpr hk, rfl⟩⟩
  obtain ⟨j, hj, e⟩ := List.mem_iff_getElem.mp this
  exact ⟨j, by rw [List.getElem?_eq_getElem hj, e]⟩
theorem findM_nm {ms : List Md} {p : Str} {m : Md} (h : findM ms p = some m) : m.nm = p := by
  have := List.find?_some h
  exact of_decide_eq_true this
def sp_World_applet {K : PySem.W.Frag} {mg : Str → Option Value} (T : Txt K mg) : Sp := fun vs H Q _ => ∃ (a md cl : Addr) (ms : List Md) (p n : Str), vs = [.ref a, .str p, .str n] ∧ Wd K T.c_World H a md cl ms ∧ Ms ms ∧
  (findM ms p = none → Q (.int (-1)) H) ∧ ∀ m, findM ms p = some m → (appK m n = none → Q (.int (-1)) H) ∧ ∀ k j : Nat, appK m n = some k → (clsOf ms)[j]? = some (m.nm, k) → ∀ H', Same H H' → Q (.int j) H'
/-! ### Draft -/
def dfs (a : Addr) (v : V) : List (Str × V) := [("_world", .ref a), ("_module", v)]
structure Dr (K : PySem.W.Frag) (CD CW : Addr) (H : Hp) (d a md cl : Addr) (ms : List Md) (m : Md) (v : V) : Prop where
  ob : ∃ dx, H d = some (.ins CD dx (dfs a v))
  wd : Wd K CW H a md cl ms
  fr : Fr K H v m.d
theorem Dr.same {K : PySem.W.Frag} {CD CW : Addr} {H H' : Hp} {d a md cl : Addr} {ms : List Md} {m : Md} {v : V} (w : Dr K CD CW H d a md cl ms m v) (s : Same H H') : Dr K CD CW H' d a md cl ms m v := by
  obtain ⟨⟨dx, h1⟩, h2, h3⟩ := w
  exact ⟨⟨dx, s _ _ h1⟩, h2.same s, h3.up (.of s)⟩
def sp_Draft_init {K : PySem.W.Frag} {mg : Str → Option Value} (T : Txt K mg) : Sp := fun vs H Q _ => ∃ (x dx : Addr) (u v : V), vs = [.ref x, u, v] ∧ H x = some (.ins T.c_Draft dx []) ∧ Q .non (upd H x (.ins T.c_Draft dx [("_world", u), ("_module", v)]))
theorem ok_Draft_init (T : Txt K mg) : FnOk P w K mg base CX0 1 T.f_Draft_init T.d_Draft_init ["self", "world", "module"] (sp_Draft_init T) := by
  refine T.k_Draft_init.ok sc_Draft_init (fun vs H Q E h => ?_) (fun cdv A outer s H vs Q E hr h => ?_)
  · obtain ⟨x, dx, u, v, rfl, _⟩ := h
    rfl
  · obtain ⟨x, dx, u, v, rfl, hx, q⟩ := h
    refine ⟨_, (pss_cons (ps_fldK K (pv 0) (pv 1) rfl)
      (pss_one (ps_fldK K (pv 0) (pv 2) rfl))), ?_⟩
    walk_at "rd"
    refine rdSeq ?_
    walk_at "rd"
    refine i_fldS T.cl_Draft T.nf_Draft_world hx (by decide) ?_
    refine i_fldS T.cl_Draft T.nf_Draft_module upd_same (by show 1 < 1000; decide) ?_
    rw [upd_upd]
    exact q
def faceX (ms : List Md) (m : Md) (p f : Str) : Option (List Hd) := if p ≠ m.nm then faceM ms p f else (m.fcs.find? fun x => decide (x.1 = f)).map (·.2)
def sp_Draft__face {K : PySem.W.Frag} {mg : Str → Option Value} (T : Txt K mg) : Sp := fun vs H Q _ => ∃ (d a md cl : Addr) (ms : List Md) (m : Md) (v : V) (p f : Str), vs = [.ref d, .str p, .str f] ∧ Dr K T.c_Draft T.c_World H d a md cl ms m v ∧
  (∀ hs v, faceX ms m p f = some hs → Fr K H v (.tuple (hs.map Hd.d)) → Q v H) ∧ (faceX ms m p f = none → Q .non H)
theorem ok_Draft__face (T : Txt K mg) : FnOk P w K mg base CX0 2 T.f_Draft__face T.d_Draft__face ["self", "package", "name"] (sp_Draft__face T) := by
  refine T.k_Draft__face.ok sc_Draft__face (fun vs H Q E h => ?_) (fun cdv A outer s H vs Q E hr h => ?_)
  · obtain ⟨d, a, md, cl, ms, m, v, p, f, rfl, _⟩ := h
    rfl
  · obtain ⟨d, a, md, cl, ms, m, v, p, f, rfl, w, q1, q2⟩ := h
    obtain ⟨⟨dx, h1⟩, hw, fv⟩ := w
    refine ⟨_, (pss_cons (ps_if (pt_cmpR op_ne (pv 1) (pe_ix (ix_tupK K) (pe_fldK K (pv 0) rfl) pe_int (fun _ _ => rfl)) (nomark _)) (pss_one (ps_ret (pe_meth (pe_fldK K (pv 0) rfl) T.cl_World T.me_World_face (ok_World_face T) (hr.mono (by decide)) T.b_World_face .nil pass0 (pa_cons (pv 1) (pa_cons (pv 2) pa_nil))))) pss_nil)
      (pss_cons (ps_for PassesOwn.never rfl (pi_tup (pe_ix (ix_tupK K) (pe_fldK K (pv 0) rfl) pe_int (fun _ _ => rfl))) (pg_name (i := 3) sc_Draft__face.nd rfl (Or.inl rfl)) (pss_one (ps_if (pt_cmpR op_eq (pe_ix (ix_tupK K) (pv 3) pe_int (fun _ _ => rfl)) (pv 2) (nomark _)) (pss_one (ps_ret (pe_ix (ix_tupK K) (pv 3) pe_int (fun _ _ => rfl)))) pss_nil)))
      (pss_one (ps_ret pe_non)))), ?_⟩
    unfold faceX at q1 q2
    walk_at "rd"
    refine rdSeq ?_
    walk_at "rd"
    refine i_fld T.cl_Draft T.nf_Draft_module h1 rfl (i_ixFs (i := 1) fv (Md.at1 m) ⟨rfl, ite2 (fun h => ?_) (fun h => ?_)⟩)
    · have hn : p ≠ m.nm := fun e => by rw [decide_eq_true (show V.str p = V.str m.nm by rw [e])] at h; cases h
      rw [if_pos hn] at q1 q2
      have hw0 := hw
      obtain ⟨⟨dx2, h2⟩, _, _⟩ := hw0
      exact i_fld T.cl_Draft T.nf_Draft_world h1 rfl (i_meth h2 rfl ⟨a, md, cl, ms, p, f, rfl, hw, q1, q2⟩)
    · have hn : ¬ p ≠ m.nm := fun e => h (by rw [decide_eq_false (fun k => e (V.str.inj k))]; rfl)
      rw [if_neg hn] at q1 q2
      refine rdSeq ?_
      walk_at "rd"
      refine i_fld T.cl_Draft T.nf_Draft_module h1 rfl (i_ixF (i := 4) fv (Md.at4 m) fun x hx => ?_)
      obtain ⟨t, xs, rfl, sq, fl⟩ := hx.inv
      refine ⟨t, rfl, ⟨_, sq.sq⟩, ?_⟩
      refine face_loop (f := f) fl sq (fun i x v hix fx D' e1 e2 e3 => ?_) (fun x hx w hw => q1 x.2 w (by rw [hx]; rfl) hw) (fun hn => ?_)
      · walk_at "rd"
        refine i_ixFs (i := 0) fx rfl ⟨rfl, ite2 (fun h => i_ixF (i := 1) fx rfl fun w hw => ?_) (fun h => e3 fun e => h (by rw [e]))⟩
        rw [e1]; exact e2 (V.str.inj h) w hw
      · have q3 := q2 (by rw [hn]; rfl)
        exact ⟨by walk_at "rd"; exact q3, fun u => by walk_at "rd"; exact q3⟩
theorem all_next {α : Type} {p : α → Bool} {l : List α} {i : Nat} (h : i < l.length) (ha : (l.take i).all p = true) (hp : p l[i] = true) : (l.take (i + 1)).all p = true := by
  rw [List.take_add_one, List.getElem?_eq_getElem h, List.all_append, ha]
  simp [hp]
theorem all_bad {α : Type} {p : α → Bool} {l : List α} {i : Nat} (h : i < l.length) (hp : p l[i] = false) : l.all p = false :=
  List.all_eq_false.mpr ⟨l[i], List.getElem_mem h, by rw [hp]; simp⟩
def kOk (ms : List Md) (m : Md) : Kd → Bool
  | .fac p f => (faceX ms m p f).isSome
  | _ => true
def sp_Draft__check_kinds {K : PySem.W.Frag} {mg : Str → Option Value} (T : Txt K mg) : Sp := fun vs H Q E => ∃ (d a md cl : Addr) (ms : List Md) (m : Md) (v u : V) (ks : List Kd), vs = [.ref d, u] ∧ Dr K T.c_Draft T.c_World H d a md cl ms m v ∧ Fr K H u (.tuple (ks.map Kd.d)) ∧
  (ks.all (kOk ms m) = true → Q .non H) ∧ (ks.all (kOk ms m) = false → ErrL T.c_BadLink H E)
theorem ok_Draft__check_kinds (T : Txt K mg) : FnOk P w K mg base (L2.CX P w) 3 T.f_Draft__check_kinds T.d_Draft__check_kinds ["self", "kinds"] (sp_Draft__check_kinds T) := by
  refine T.k_Draft__check_kinds.okX sc_Draft__check_kinds (fun vs H Q E h => ?_) (fun cdv A outer s H vs Q E hr h => ?_)
  · obtain ⟨d, a, md, cl, ms, m, v, u, ks, rfl, _⟩ := h
    rfl
  · obtain ⟨d, a, md, cl, ms, m, v, u, ks, rfl, w, hu, q1, q2⟩ := h
    obtain ⟨t, xs, rfl, sq, fl⟩ := hu.inv
    have hlen := fl.len
    rw [List.length_map] at hlen
    have w0 := w
    obtain ⟨⟨dx, h1⟩, _, _⟩ := w0
    refine ⟨_, (pss_one (ps_for (passes_of rfl) rfl (pi_tup (pv 1)) (pg_name (i := 2) sc_Draft__check_kinds.nd rfl (Or.inl rfl)) (pss_one (ps_expr (pe_callS (ok_must T) (hr.mono (by decide)) (by rfl) T.g_must T.k_must.kp T.b_must (fun σ => passAt (takes_of rfl rfl rfl rfl) σ) (pa_cons (pe_or (pe_not (pe_call (ok_is_face T) (hr.mono (by decide)) (by rfl) T.g_is_face T.k_is_face.kp T.b_is_face .nil pass0 (pa_cons (pv 2) pa_nil))) (pe_one (pe_cmpR op_notN (pe_meth (pv 0) T.cl_Draft T.me_Draft__face (ok_Draft__face T) (hr.mono (by decide)) T.b_Draft__face .nil pass0 (pa_cons (pe_ix (ix_tupK K) (pv 2) pe_int (fun _ _ => rfl)) (pa_cons (pe_ix (ix_tupK K) (pv 2) pe_int (fun _ _ => rfl)) pa_nil))) pe_non (nomark _)))) pa_nil)))))), ?_⟩
    walk_at "rd"
    refine ⟨⟨_, sq.sq⟩, ?_⟩
    refine i_for (walk_tup (K := K) (a := t) (xs := xs)) (fun i σ' H' => H' = H ∧ (∃ y, σ' = [some (.ref d), some (.ref t), y]) ∧ (ks.take i).all (kOk ms m) = true) ⟨rfl, ⟨_, rfl⟩, rfl⟩ (fun i σ' H' _ h => by rw [h.1]; exact sq.sq) ?_ ?_
    · rintro i x σ' H' H2 hi ⟨rfl, ⟨y, rfl⟩, hall⟩ ⟨rfl, hx⟩
      have hi2 : i < ks.length := by omega
      obtain ⟨dd, hd, fx⟩ := fl.getV hx
      rw [List.getElem?_map, List.getElem?_eq_getElem hi2] at hd
      cases hd
      walk_at "rd"
      have nxt : kOk ms m ks[i] = true → (ks.take (i + 1)).all (kOk ms m) = true := fun h => all_next hi2 hall h
      have bad : kOk ms m ks[i] = false → ErrL T.c_BadLink H2 E := fun h => q2 (all_bad hi2 h)
      generalize ks[i] = kd at *
      refine ⟨x, kd, rfl, fx, _, rfl, ite2 (fun hf => i_must (fun _ => ⟨rfl, nxt ?_⟩) (fun h => by cases h)) (fun hf => ?_)⟩
      · cases kd with
        | fac p f => cases hf
        | _ => rfl
      · cases kd with
        | fac p f =>
          refine i_meth h1 rfl (i_ixFs (i := 1) fx rfl (i_ixFs (i := 2) fx rfl ⟨d, a, md, cl, ms, m, v, p, f, rfl, w, fun hs u e hu => ?_, fun e => ?_⟩))
          · obtain ⟨t2, xs2, rfl, _, _⟩ := hu.inv
            exact i_must (fun _ => ⟨rfl, nxt (by show (faceX ms m p f).isSome = true; rw [e]; rfl)⟩) (fun h => by simp at h)
          · exact i_must (fun h => by simp at h) (fun _ => bad (by show (faceX ms m p f).isSome = false; rw [e]; rfl))
        | _ => exact absurd rfl hf
    · rintro σ' H' ⟨rfl, ⟨y, rfl⟩, hall⟩
      rw [hlen, List.take_length] at hall
      exact q1 hall
def hOk (ms : List Md) (m : Md) (h : Hd) : Bool := (h.ps ++ [h.rs]).all (kOk ms m)
/-- a + b of frozen tuples -/
theorem i_catF {K : PySem.W.Frag} {H : Hp} {u v : V} {ds es : List PyData} {Q : VK} (hu : Fr K H u (.tuple ds)) (hv : Fr K H v (.tuple es)) (hl : ds.length + es.length ≤ sizeLine) (q : ∀ w H', Same H H' → Fr K H' w (.tuple (ds ++ es)) → Q w H') : rCatA K u v H Q := by
  obtain ⟨a, xs, rfl, s1, f1⟩ := hu.inv
  obtain ⟨b, ys, rfl, s2, f2⟩ := hv.inv
  have l1 := f1.len
  have l2 := f2.len
  refine ⟨a, b, xs, ys, rfl, rfl, s1.sq, s2.sq, by omega, fun h => ?_, fun _ h => ?_, fun _ _ p hp => ?_⟩
  · subst h
    cases f1
    exact q _ H (Same.refl H) (.tup s2 f2)
  · subst h
    cases f2
    refine q _ H (Same.refl H) ?_
    rw [List.append_nil]
    exact .tup s1 f1
  · exact q _ _ (same_new hp) (.tup (.inl upd_same) ((f1.app f2).up (.of (same_new hp))))
def sp_Draft__check_heads {K : PySem.W.Frag} {mg : Str → Option Value} (T : Txt K mg) : Sp := fun vs H Q E => ∃ (d a md cl : Addr) (ms : List Md) (m : Md) (v : V) (t : Addr) (xs : List V) (hs : List Hd), vs = [.ref d, .ref t] ∧ Dr K T.c_Draft T.c_World H d a md cl ms m v ∧ (SqC K H t xs ∨ H t = some (.lst xs)) ∧ FrL K H xs (hs.map Hd.d) ∧ (∀ h ∈ hs, h.ps.length ≤ 1000) ∧
  (hs.all (hOk ms m) = true → ∀ H', Same H H' → Q .non H') ∧ (hs.all (hOk ms m) = false → ErrL T.c_BadLink H E)
theorem i_gT3 {K : PySem.W.Frag} {n i j k : Nat} {v x y z : V} {a : Addr} {σ : L2.St} {H : Hp} {Q : L2.St → Hp → Prop} (hn : n = 3) (hv : v = .ref a) (h : SqT K H a [x, y, z]) (q : Q (((σ.set i (some x)).set j (some y)).set k (some z)) H) : gTup K n (gCons (gName i) (gCons (gName j) (gCons (gName k) gNil))) v σ H Q := by
  subst hv
  exact ⟨a, [x, y, z], rfl, h, hn.symm, x, [y, z], rfl, y, [z], rfl, z, [], rfl, rfl, q⟩
theorem ok_Draft__check_heads (T : Txt K mg) : FnOk P w K mg base (L2.CX P w) 4 T.f_Draft__check_heads T.d_Draft__check_heads ["self", "heads"] (sp_Draft__check_heads T) := by
  refine T.k_Draft__check_heads.okX sc_Draft__check_heads (fun vs H Q E h => ?_) (fun cdv A outer s H vs Q E hr h => ?_)
  · obtain ⟨d, a, md, cl, ms, m, v, t, xs, hs, rfl, _⟩ := h
    rfl
  · obtain ⟨d, a, md, cl, ms, m, v, t, xs, hs, rfl, w, hsq, fl, hps, q1, q2⟩ := h
    have hlen := fl.len
    rw [List.length_map] at hlen
    have w0 := w
    obtain ⟨⟨dx, h1⟩, _, _⟩ := w0
    rcases hsq with sq | hl
    · refine ⟨_, (pss_one (ps_for (passes_of rfl) rfl (pi_tup (pv 1)) (pg_tup rfl (pgs_cons (pg_name (i := 2) sc_Draft__check_heads.nd rfl (Or.inl rfl)) (pgs_cons (pg_name (i := 3) sc_Draft__check_heads.nd rfl (Or.inl rfl)) (pgs_cons (pg_name (i := 4) sc_Draft__check_heads.nd rfl (Or.inl rfl)) pgs_nil)))) (pss_one (ps_expr (pe_methS (pv 0) T.cl_Draft T.me_Draft__check_kinds (ok_Draft__check_kinds T) (hr.mono (by decide)) T.b_Draft__check_kinds (fun σ => passAt (takes_of rfl rfl rfl rfl) σ) (pa_cons (pe_op (op_catAK K) (pv 3) (pe_tup (pa_cons (pv 4) pa_nil))) pa_nil)))))), ?_⟩
      walk_at "rd"
      refine ⟨⟨_, sq.sq⟩, ?_⟩
      refine i_forG (walk_tup (K := K) (a := t) (xs := xs)) (fun i σ' H' => Same H H' ∧ (∃ y1 y2 y3, σ' = [some (.ref d), some (.ref t), y1, y2, y3]) ∧ (hs.take i).all (hOk ms m) = true) ⟨Same.refl H, ⟨_, _, _, rfl⟩, rfl⟩ (fun i σ' H' _ h => (sq.up (.of h.1)).sq) ?_ ?_
      · rintro i x σ' H' H2 hi ⟨s1, ⟨y1, y2, y3, rfl⟩, hall⟩ ⟨rfl, hx⟩
        have hi2 : i < hs.length := by omega
        obtain ⟨dd, hd, fx⟩ := fl.getV hx
        rw [List.getElem?_map, List.getElem?_eq_getElem hi2] at hd
        cases hd
        have fx := fx.up (.of s1)
        have hpl := hps _ (List.getElem_mem hi2)
        have nxt : hOk ms m hs[i] = true → (hs.take (i + 1)).all (hOk ms m) = true := fun h => all_next hi2 hall h
        have bad : hOk ms m hs[i] = false → ErrL T.c_BadLink H E := fun h => q2 (all_bad hi2 h)
        generalize hs[i] = hh at *
        obtain ⟨b, zs, rfl, sqx, flx⟩ := fx.inv
        cases flx with
        | cons f1 flx => cases flx with
          | cons f2 flx => cases flx with
            | cons f3 flx =>
              cases flx
              refine i_gT3 rfl rfl sqx.sq ?_
              walk_at "rd"
              refine i_meth (s1 _ _ h1) rfl ?_
              walk_at "rd"
              intro p hp
              refine i_catF (f2.up (.of (same_new hp))) (.tup (.inl upd_same) (.cons (f3.up (.of (same_new hp))) .nil)) (by rw [List.length_map]; exact line5 (by simp; omega)) fun u H3 s3 fu => ?_
              have s13 := s1.trans ((same_new hp).trans s3)
              refine ⟨d, a, md, cl, ms, m, v, u, hh.ps ++ [hh.rs], rfl, w.same s13, by rw [List.map_append]; exact fu, fun h => ⟨s13, nxt h⟩, fun h => (bad h).same s13⟩
      · rintro σ' H' ⟨s1, _, hall⟩
        rw [hlen, List.take_length] at hall
        exact q1 hall _ s1
    · refine ⟨_, (pss_one (ps_for (passes_of rfl) rfl (pi_list (pv 1)) (pg_tup rfl (pgs_cons (pg_name (i := 2) sc_Draft__check_heads.nd rfl (Or.inl rfl)) (pgs_cons (pg_name (i := 3) sc_Draft__check_heads.nd rfl (Or.inl rfl)) (pgs_cons (pg_name (i := 4) sc_Draft__check_heads.nd rfl (Or.inl rfl)) pgs_nil)))) (pss_one (ps_expr (pe_methS (pv 0) T.cl_Draft T.me_Draft__check_kinds (ok_Draft__check_kinds T) (hr.mono (by decide)) T.b_Draft__check_kinds (fun σ => passAt (takes_of rfl rfl rfl rfl) σ) (pa_cons (pe_op (op_catAK K) (pv 3) (pe_tup (pa_cons (pv 4) pa_nil))) pa_nil)))))), ?_⟩
      walk_at "rd"
      refine ⟨⟨_, sqL_of hl⟩, ?_⟩
      refine i_forG (walk_list (K := K) (a := t) (xs := xs)) (fun i σ' H' => Same H H' ∧ (∃ y1 y2 y3, σ' = [some (.ref d), some (.ref t), y1, y2, y3]) ∧ (hs.take i).all (hOk ms m) = true) ⟨Same.refl H, ⟨_, _, _, rfl⟩, rfl⟩ (fun i σ' H' _ h => sqL_of (h.1 _ _ hl)) ?_ ?_
      · rintro i x σ' H' H2 hi ⟨s1, ⟨y1, y2, y3, rfl⟩, hall⟩ ⟨rfl, hx⟩
        have hi2 : i < hs.length := by omega
        obtain ⟨dd, hd, fx⟩ := fl.getV hx
        rw [List.getElem?_map, List.getElem?_eq_getElem hi2] at hd
        cases hd
        have fx := fx.up (.of s1)
        have hpl := hps _ (List.getElem_mem hi2)
        have nxt : hOk ms m hs[i] = true → (hs.take (i + 1)).all (hOk ms m) = true := fun h => all_next hi2 hall h
        have bad : hOk ms m hs[i] = false → ErrL T.c_BadLink H E := fun h => q2 (all_bad hi2 h)
        generalize hs[i] = hh at *
        obtain ⟨b, zs, rfl, sqx, flx⟩ := fx.inv
        cases flx with
        | cons f1 flx => cases flx with
          | cons f2 flx => cases flx with
            | cons f3 flx =>
              cases flx
              refine i_gT3 rfl rfl sqx.sq ?_
              walk_at "rd"
              refine i_meth (s1 _ _ h1) rfl ?_
              walk_at "rd"
              intro p hp
              refine i_catF (f2.up (.of (same_new hp))) (.tup (.inl upd_same) (.cons (f3.up (.of (same_new hp))) .nil)) (by rw [List.length_map]; exact line5 (by simp; omega)) fun u H3 s3 fu => ?_
              have s13 := s1.trans ((same_new hp).trans s3)
              refine ⟨d, a, md, cl, ms, m, v, u, hh.ps ++ [hh.rs], rfl, w.same s13, by rw [List.map_append]; exact fu, fun h => ⟨s13, nxt h⟩, fun h => (bad h).same s13⟩
      · rintro σ' H' ⟨s1, _, hall⟩
        rw [hlen, List.take_length] at hall
        exact q1 hall _ s1

/-! lists of new tuples -/
theorem i_lcFr {K : PySem.W.Frag} {J : It} {n : Nat} {G : Hp → Prop} {Y : Nat → Hp → V → Hp → Prop} (w : Walk J n G Y) {j : Nat} {te : TE} {σ : L2.St} {H : Hp} {Q : VK} (ds : List PyData) (hl : ds.length = n) (hn : n < sizeLine) (hG : ∀ H', Same H H' → G H') (hY : ∀ i H x H', Y i H x H' → H' = H)
    (hs : ∀ i x H1 (Q' : VK) d, ds[i]? = some d → Same H H1 → Y i H1 x H1 → (∀ y H2, Same H1 H2 → Fr K H2 y d → Q' y H2) → te ((wipe σ [j]).set j (some x)) H1 Q')
    (q : ∀ D H' ys, H D = none → Same H H' → H' D = some (.lst ys) → FrL K H' ys ds → Q (.ref D) H') : rLcJ J (gName j) tYes te [j] σ H Q := by
  intro D hD
  refine lc_it w (fun i H' => Same H H' ∧ ∃ ys, H' D = some (.lst ys) ∧ FrL K H' ys (ds.take i)) ⟨same_new hD, [], upd_same, .nil⟩ (fun i H' _ e => hG H' e.1) (fun i x H1 H2 hi e y => ?_) (fun H' e => ?_)
  · have e2 := hY i H1 x H2 y
    subst e2
    obtain ⟨s1, ys, h1, f1⟩ := e
    have hd : ds[i]? = some (ds[i]'(by omega)) := List.getElem?_eq_getElem (by omega)
    refine ⟨wipe_one, hs i x H2 (fun y H4 => ∃ acc, H4 D = some (.lst acc) ∧ acc.length < sizeLine ∧ (Same H (upd H4 D (.lst (acc ++ [y]))) ∧ ∃ ys, (upd H4 D (.lst (acc ++ [y]))) D = some (.lst ys) ∧ FrL K (upd H4 D (.lst (acc ++ [y]))) ys (ds.take (i + 1)))) _ hd s1 y fun u H3 s3 fu => ?_⟩
    have l1 := f1.len
    rw [List.length_take] at l1
    have hD3 := s3 D _ h1
    have tk : TupK H3 (upd H3 D (.lst (ys ++ [u]))) := TupK.mut hD3 (fun _ h => nomatch h)
    refine ⟨ys, hD3, by omega, fun b o hb => by rw [upd_ne (ne_of_none hb hD)]; exact s3 b o (s1 b o hb), ys ++ [u], upd_same, ?_⟩
    rw [List.take_add_one, hd]
    exact ((f1.up (.of s3)).up tk).app (.cons (fu.up tk) .nil)
  · obtain ⟨s1, ys, h1, f1⟩ := e
    rw [List.take_of_length_le (by omega)] at f1
    exact q D H' ys hD s1 h1 f1
theorem cut_front {xs : List V} {n : Nat} : cutV xs none (some (n : Int)) = xs.take n := cut_take
/-- v[:n] of a frozen tuple with more items -/
theorem i_frontF {K : PySem.W.Frag} {H : Hp} {v : V} {ds : List PyData} {n : Nat} {Q : VK} (hv : Fr K H v (.tuple ds)) (hn : n < ds.length) (q : ∀ w H', Same H H' → Fr K H' w (.tuple (ds.take n)) → Q w H') : rSlA K v none (some (n : Int)) H Q := by
  obtain ⟨a, xs, rfl, sq, fl⟩ := hv.inv
  have l1 := fl.len
  refine ⟨a, xs, rfl, sq.sq, fun h => ?_, fun _ p hp => ?_⟩
  · obtain ⟨_, h2⟩ := h
    rw [HT.sIx_nat] at h2
    omega
  · rw [cut_take]
    exact q _ _ (same_new hp) (.tup (.inl upd_same) ((fl.take n).up (.of (same_new hp))))
theorem hd_eqvL : ∀ (xs ys : List Kd), PyData.eqvAll (xs.map Kd.d) (ys.map Kd.d) = decide (xs = ys)
  | [], [] => rfl
  | [], _ :: _ => rfl
  | _ :: _, [] => rfl
  | x :: xs, y :: ys => by
    show (PyData.eqv x.d y.d && PyData.eqvAll (xs.map Kd.d) (ys.map Kd.d)) = _
    rw [kd_eqv, hd_eqvL xs ys]
    by_cases h1 : x = y <;> by_cases h2 : xs = ys <;> simp [h1, h2]
theorem hd_eqv (a b : Hd) : PyData.eqv a.d b.d = decide (a = b) := by
  show ((a.nm == b.nm) && (PyData.eqvAll (a.ps.map Kd.d) (b.ps.map Kd.d) && (PyData.eqv a.rs.d b.rs.d && true))) = _
  rw [hd_eqvL, kd_eqv]
  obtain ⟨n1, p1, r1⟩ := a
  obtain ⟨n2, p2, r2⟩ := b
  by_cases h1 : n1 = n2 <;> by_cases h2 : p1 = p2 <;> by_cases h3 : r1 = r2 <;> simp [h1, h2, h3]
def HdOk (h : Hd) : Prop := PyData.strOk h.nm = true ∧ (∀ k ∈ h.ps, KdOk k) ∧ KdOk h.rs
theorem hd_lay {h : Hd} (o : HdOk h) : PyData.canLay0 h.d = true ∧ PyData.depth h.d ≤ 4 := by
  obtain ⟨o1, o2, o3⟩ := o
  have l1 := kds_lay o2
  have l2 := kd_lay o3
  refine ⟨?_, ?_⟩
  · show (PyData.strOk h.nm && (PyData.canLayAll0 (h.ps.map Kd.d) && (PyData.canLay0 h.rs.d && true))) = true
    rw [o1, l1.1, l2.1]; rfl
  · show max (PyData.depth (.str h.nm)) (max (PyData.depthAll (h.ps.map Kd.d) + 1) (max (PyData.depth h.rs.d) 0)) + 1 ≤ 4
    have : PyData.depth (.str h.nm) ≤ 1 := by simp [PyData.depth]
    omega
theorem hds_lay : ∀ {xs : List Hd}, (∀ x ∈ xs, HdOk x) → PyData.canLayAll0 (xs.map Hd.d) = true ∧ PyData.depthAll (xs.map Hd.d) ≤ 4
  | [], _ => by simp [PyData.canLayAll0, PyData.depthAll]
  | x :: xs, h => by
    have ih := hds_lay (xs := xs) fun y hy => h y (List.mem_cons_of_mem _ hy)
    have h0 := hd_lay (h x List.mem_cons_self)
    simp [PyData.canLayAll0, PyData.depthAll, ih.1, h0.1]
    omega
theorem any_hd {h : Hd} : ∀ {l : List Hd}, ((l.map Hd.d).any fun z => PyData.eqv z h.d) = decide (h ∈ l)
  | [] => rfl
  | x :: l => by
    have ih := any_hd (h := h) (l := l)
    rw [List.map_cons, List.any_cons, ih, hd_eqv]
    by_cases e : x = h
    · subst e; simp
    · rw [decide_eq_false e]
      by_cases h2 : h ∈ l <;> simp [h2, Ne.symm e]
/-- h in a list of heads -/
theorem i_inHds {K : PySem.W.Frag} {H : Hp} {v : V} {h : Hd} {l : Addr} {xs : List V} {hs : List Hd} {Q : VK} (hv : Fr K H v h.d) (hl : H l = some (.lst xs)) (fl : FrL K H xs (hs.map Hd.d)) (o : HdOk h) (os : ∀ x ∈ hs, HdOk x) (q : Q (.bl (decide (h ∈ hs))) H) : rInD K v (.ref l) H Q := by
  have l1 := hd_lay o
  have l2 := hds_lay os
  refine ⟨h.d, hs.map Hd.d, hv.dp, .lst (sqL_of hl) fl.dp, ?_, (shaped_of ⟨l2.1, by omega⟩).1, by rw [any_hd]; exact q⟩
  unfold SeqAt.shaped
  rw [l1.1, Bool.true_and]
  exact decide_eq_true (by omega)

/-! ### Draft, the rest -/
structure Mz (m : Md) : Prop where
  sz : Sz m
  ho : ∀ c ∈ m.cls, ∀ r ∈ c.tb, HdOk r.h ∧ r.h.ps.length ≤ 1000
  hf : ∀ f ∈ m.fcs, ∀ h ∈ f.2, HdOk h ∧ h.ps.length ≤ 1000
  mt : ∀ t ∈ m.mts, t.h.ps.length ≤ 1000 ∧ t.vars.length ≤ 1000
  fd : ∀ c ∈ m.cls, c.fds.length ≤ 1000
theorem faceM_ok {ms : List Md} (hz : ∀ m ∈ ms, Mz m) {p f : Str} {hs : List Hd} (e : faceM ms p f = some hs) : ∀ h ∈ hs, HdOk h ∧ h.ps.length ≤ 1000 := by
  unfold faceM at e
  cases hm : findM ms p with
  | none => rw [hm] at e; cases e
  | some m =>
    rw [hm] at e
    have e : (m.fcs.find? fun x => decide (x.1 = f)).map (·.2) = some hs := e
    cases hx : m.fcs.find? fun x => decide (x.1 = f) with
    | none => rw [hx] at e; cases e
    | some x =>
      rw [hx] at e
      cases e
      exact (hz m (List.mem_of_find?_eq_some hm)).hf x (List.mem_of_find?_eq_some hx)
theorem faceX_ok {ms : List Md} {m : Md} (hz : ∀ m ∈ ms, Mz m) (z : Mz m) {p f : Str} {hs : List Hd} (e : faceX ms m p f = some hs) : ∀ h ∈ hs, HdOk h ∧ h.ps.length ≤ 1000 := by
  unfold faceX at e
  split at e
  · exact faceM_ok hz e
  · cases hx : m.fcs.find? fun x => decide (x.1 = f) with
    | none => rw [hx] at e; cases e
    | some x =>
      rw [hx] at e
      cases e
      exact z.hf x (List.mem_of_find?_eq_some hx)
def hdsOf (c : Cl) : List Hd := c.tb.map Rw.h
def fOk (ms : List Md) (m : Md) (c : Cl) (f : Str × Str) : Bool := match faceX ms m f.1 f.2 with
  | some hs => hs.all fun h => decide (h ∈ hdsOf c)
  | none => true
def fcOk (ms : List Md) (m : Md) (k : Nat) (c : Cl) : Bool := (facesOf m k).all (fOk ms m c)
theorem rw_take (r : Rw) : (r.h.ds ++ [PyData.int r.m]).take 3 = r.h.ds := rfl
def sp_Draft__check_faces {K : PySem.W.Frag} {mg : Str → Option Value} (T : Txt K mg) : Sp := fun vs H Q E => ∃ (d a md cl : Addr) (ms : List Md) (m : Md) (v u : V) (k : Nat) (c : Cl), vs = [.ref d, .int k, u] ∧ Dr K T.c_Draft T.c_World H d a md cl ms m v ∧ Fr K H u (.tuple (c.tb.map Rw.d)) ∧
  m.cls[k]? = some c ∧ Mz m ∧ (∀ x ∈ ms, Mz x) ∧ (∀ f ∈ facesOf m k, (faceX ms m f.1 f.2).isSome = true) ∧
  (fcOk ms m k c = true → ∀ H', Same H H' → Q .non H') ∧ (fcOk ms m k c = false → ErrL T.c_BadLink H E)
theorem ok_Draft__check_faces (T : Txt K mg) : FnOk P w K mg base (L2.CX P w) 3 T.f_Draft__check_faces T.d_Draft__check_faces ["self", "k", "table"] (sp_Draft__check_faces T) := by
  refine T.k_Draft__check_faces.okX sc_Draft__check_faces (fun vs H Q E h => ?_) (fun cdv A outer s H vs Q E hr h => ?_)
  · obtain ⟨d, a, md, cl, ms, m, v, u, k, c, rfl, _⟩ := h
    rfl
  · obtain ⟨d, a, md, cl, ms, m, v, u, k, c, rfl, w, hu, hc, z, zs, hex, q1, q2⟩ := h
    have hcm := List.mem_of_getElem? hc
    have hkl := (List.getElem?_eq_some_iff.mp hc).1
    have zc := z.sz.cl
    have ztb := z.sz.tb c hcm
    obtain ⟨t, xs, rfl, sq, fl⟩ := hu.inv
    have hlen := fl.len
    rw [List.length_map] at hlen
    have w0 := w
    obtain ⟨⟨dx, h1⟩, _, _⟩ := w0
    refine ⟨_, (pss_cons (ps_setLc (i := 3) (own := [("row", 6)]) (g := gName 6) (tt := tYes) rfl sc_Draft__check_faces.nd rfl rfl (sw_true rfl rfl rfl (by decide +kernel)) (pi_tup (pv 2)) (blkOk_by (own := [("row", 6)]) (N := ["self", "k", "table", "rows", "face", "head", "row"]) (sc := defScope s_Draft__check_faces) (by decide +kernel)) (fun _ _ _ _ _ => pg_name (i := 6) sc_Draft__check_faces.nd rfl (Or.inl rfl)) (fun _ _ _ _ _ => pts_nil) (fun _ _ _ _ _ => (pe_slice (sl_tupAK K) (pv 6) po_none (po_some pe_int))))
      (pss_one (ps_for (passes_of rfl) rfl (pi_list (pe_call (ok_faces_of T) (hr.mono (by decide)) (by rfl) T.g_faces_of T.k_faces_of.kp T.b_faces_of .nil pass0 (pa_cons (pe_fldK K (pv 0) rfl) (pa_cons (pv 1) pa_nil)))) (pg_name (i := 4) sc_Draft__check_faces.nd rfl (Or.inl rfl)) (pss_one (ps_for (passes_of rfl) rfl (pi_tup (pe_meth (pv 0) T.cl_Draft T.me_Draft__face (ok_Draft__face T) (hr.mono (by decide)) T.b_Draft__face .nil pass0 (pa_cons (pe_ix (ix_tupK K) (pv 4) pe_int (fun _ _ => rfl)) (pa_cons (pe_ix (ix_tupK K) (pv 4) pe_int (fun _ _ => rfl)) pa_nil)))) (pg_name (i := 5) sc_Draft__check_faces.nd rfl (Or.inl rfl)) (pss_one (ps_expr (pe_callS (ok_must T) (hr.mono (by decide)) (by rfl) T.g_must T.k_must.kp T.b_must (fun σ => passAt (takes_of rfl rfl rfl rfl) σ) (pa_cons (pe_cmpR (op_inD (room65 hr)) (pv 5) (pv 3) rfl) pa_nil))))))))), ?_⟩
    walk_at "rd"
    refine rdSeq ?_
    walk_at "rd"
    refine ⟨⟨_, sq.sq⟩, ?_⟩
    refine i_lcFr (K := K) (walk_tup (K := K) (a := t) (xs := xs)) ((hdsOf c).map Hd.d) (by simp [hdsOf, hlen]) (line5' (by omega)) (fun H' s' => (sq.up (.of s')).sq) (fun _ _ _ _ y => y.1) (fun i x H1 Q' dd hdd s1 hy qq => ?_) (fun D H2 ys hD s2 hD2 fD => ?_)
    · obtain ⟨_, hx⟩ := hy
      have hi : i < c.tb.length := by rw [← hlen]; exact (List.getElem?_eq_some_iff.mp hx).1
      obtain ⟨d2, hd2, fx⟩ := fl.getV hx
      rw [List.getElem?_map, List.getElem?_eq_getElem hi] at hd2
      cases hd2
      unfold hdsOf at hdd
      rw [List.map_map, List.getElem?_map, List.getElem?_eq_getElem hi] at hdd
      cases hdd
      walk_at "rd"
      refine i_frontF (n := 3) (fx.up (.of s1)) (by simp [Hd.ds]) fun y H3 s3 fy => qq y H3 s3 ?_
      rw [rw_take] at fy
      exact fy
    · walk_at "rd"
      refine i_fld T.cl_Draft T.nf_Draft_module (s2 _ _ h1) rfl ⟨v, m, k, rfl, w.fr.up (.of s2), z.sz, by omega, by omega, fun p ws H3 hp s3 hp3 fw => ?_⟩
      have s23 := s2.trans s3
      refine ⟨p, rfl, ⟨_, sqL_of hp3⟩, ?_⟩
      have hD3 := s3 _ _ hD2
      have fD3 := fD.up (.of s3)
      have wl := fw.len
      rw [List.length_map] at wl
      refine i_for (walk_list (K := K) (a := p) (xs := ws)) (fun i σ' H' => Same H3 H' ∧ (∃ y1 y2, σ' = [some (.ref d), some (.int k), some (.ref t), some (.ref D), y1, y2, none]) ∧ ((facesOf m k).take i).all (fOk ms m c) = true) ⟨Same.refl H3, ⟨_, _, rfl⟩, rfl⟩ (fun i σ' H' _ h => sqL_of (h.1 _ _ hp3)) ?_ ?_
      · rintro i x σ' H4 H5 hi ⟨s4, ⟨y1, y2, rfl⟩, hall⟩ ⟨rfl, hx⟩
        have hi2 : i < (facesOf m k).length := by omega
        obtain ⟨dd, hd, fx⟩ := fw.getV hx
        rw [List.getElem?_map, List.getElem?_eq_getElem hi2] at hd
        cases hd
        have fx := fx.up (.of s4)
        have hexi := hex _ (List.getElem_mem hi2)
        have nxt : fOk ms m c (facesOf m k)[i] = true → ((facesOf m k).take (i + 1)).all (fOk ms m c) = true := fun h => all_next hi2 hall h
        have bad : fOk ms m c (facesOf m k)[i] = false → ErrL T.c_BadLink H E := fun h => q2 (all_bad hi2 h)
        generalize (facesOf m k)[i] = f at *
        have s34 := s23.trans s4
        walk_at "rd"
        refine i_meth (s34 _ _ h1) rfl (i_ixFs (i := 1) fx rfl (i_ixFs (i := 2) fx rfl ⟨d, a, md, cl, ms, m, v, f.1, f.2, rfl, w.same s34, fun hs u e hu => ?_, fun e => by rw [e] at hexi; cases hexi⟩))
        have hok := faceX_ok zs z e
        obtain ⟨t2, xs2, rfl, sq2, fl2⟩ := hu.inv
        have hlen2 := fl2.len
        rw [List.length_map] at hlen2
        have efo : fOk ms m c f = hs.all fun h => decide (h ∈ hdsOf c) := by unfold fOk; rw [e]
        refine ⟨t2, rfl, ⟨_, sq2.sq⟩, ?_⟩
        refine i_for (walk_tup (K := K) (a := t2) (xs := xs2)) (fun i σ' H' => H' = H5 ∧ (∃ y2, σ' = [some (.ref d), some (.int k), some (.ref t), some (.ref D), some x, y2, none]) ∧ (hs.take i).all (fun h => decide (h ∈ hdsOf c)) = true) ⟨rfl, ⟨_, rfl⟩, rfl⟩ (fun i σ' H' _ h => by rw [h.1]; exact sq2.sq) ?_ ?_
        · rintro i2 x2 σ' H6 H7 hi2 ⟨rfl, ⟨y2, rfl⟩, hall2⟩ ⟨rfl, hx2⟩
          have hi3 : i2 < hs.length := by omega
          obtain ⟨dd, hd, fx2⟩ := fl2.getV hx2
          rw [List.getElem?_map, List.getElem?_eq_getElem hi3] at hd
          cases hd
          walk_at "rd"
          refine i_inHds fx2 (s4 _ _ hD3) (fD3.up (.of s4)) (hok _ (List.getElem_mem hi3)).1 (fun h hh => ?_) (i_must (fun h => ?_) (fun h => ?_))
          · obtain ⟨r, hr, rfl⟩ := List.mem_map.mp hh
            exact (z.ho c hcm r hr).1
          · exact ⟨rfl, all_next hi3 hall2 h⟩
          · exact (bad (by rw [efo]; exact all_bad hi3 h)).same s34
        · rintro σ' H6 ⟨rfl, ⟨y2, rfl⟩, hall2⟩
          rw [hlen2, List.take_length] at hall2
          exact ⟨s4, ⟨_, _, rfl⟩, nxt (by rw [efo]; exact hall2)⟩
      · rintro σ' H4 ⟨s4, _, hall⟩
        rw [wl, List.take_length] at hall
        exact q1 hall _ (s23.trans s4)
theorem i_gT8 {K : PySem.W.Frag} {n i0 i1 i2 i3 i4 i5 i6 i7 : Nat} {v x0 x1 x2 x3 x4 x5 x6 x7 : V} {a : Addr} {σ : L2.St} {H : Hp} {Q : L2.St → Hp → Prop} (hn : n = 8) (hv : v = .ref a) (h : SqT K H a [x0, x1, x2, x3, x4, x5, x6, x7])
    (q : Q ((((((((σ.set i0 (some x0)).set i1 (some x1)).set i2 (some x2)).set i3 (some x3)).set i4 (some x4)).set i5 (some x5)).set i6 (some x6)).set i7 (some x7)) H) :
    gTup K n (gCons (gName i0) (gCons (gName i1) (gCons (gName i2) (gCons (gName i3) (gCons (gName i4) (gCons (gName i5) (gCons (gName i6) (gCons (gName i7) gNil)))))))) v σ H Q := by
  subst hv
  exact ⟨a, [x0, x1, x2, x3, x4, x5, x6, x7], rfl, h, hn.symm, x0, _, rfl, x1, _, rfl, x2, _, rfl, x3, _, rfl, x4, _, rfl, x5, _, rfl, x6, _, rfl, x7, [], rfl, rfl, q⟩
def useOk (ms : List Md) (u : Str × Int) : Bool := match findM ms u.1 with
  | some m => decide (m.ver = u.2)
  | none => false
def clOk (ms : List Md) (m : Md) (k : Nat) (c : Cl) : Bool := (c.fcs.map faceKd ++ c.fds).all (kOk ms m) && ((hdsOf c).all (hOk ms m) && fcOk ms m k c)
def clOkAt (ms : List Md) (m : Md) (k : Nat) : Bool := match m.cls[k]? with
  | some c => clOk ms m k c
  | none => true
def madeH : Hd := ⟨"made", [.int], .nothing⟩
def procH : Hd := ⟨"process", [.int], .int⟩
def apOk (m : Md) (k : Nat) : Bool := match m.cls[k]? with
  | some c => decide (madeH ∈ hdsOf c) && decide (procH ∈ hdsOf c)
  | none => true
def mtKds (t : Mt) : List Kd := t.h.ps ++ t.vars ++ [t.h.rs]
def chk (ms : List Md) (m : Md) : Bool := !decide (m.nm ∈ ms.map Md.nm) && (m.uses.all (useOk ms) && (m.fcs.all (fun f => f.2.all (hOk ms m)) && (m.mts.all (fun t => (mtKds t).all (kOk ms m)) && ((List.range m.cls.length).all (clOkAt ms m) && m.apps.all (apOk m)))))
theorem inV_names {n : Str} : ∀ {ms : List Md}, inV (.str n) (ms.map fun m => V.str m.nm) = decide (n ∈ ms.map Md.nm)
  | [] => rfl
  | m :: ms => by
    have ih := inV_names (n := n) (ms := ms)
    show ((m.nm == n) || inV (.str n) (ms.map fun m => V.str m.nm)) = _
    rw [ih]
    by_cases e : m.nm = n
    · subst e; simp
    · rw [beq_eq_false_iff_ne.mpr e]
      by_cases h : n ∈ ms.map Md.nm
      · rw [decide_eq_true h, decide_eq_true (by rw [List.map_cons]; exact List.mem_cons_of_mem _ h)]; rfl
      · rw [decide_eq_false h, decide_eq_false (by rw [List.map_cons]; exact fun k => (List.mem_cons.mp k).elim (fun k => e k.symm) h)]; rfl
theorem names_flat {ms : List Md} : (ms.map fun m => V.str m.nm).all flatV = true := by
  rw [List.all_eq_true]
  intro v hv
  obtain ⟨_, _, rfl⟩ := List.mem_map.mp hv
  rfl
theorem findM_in {ms : List Md} {n : Str} (h : n ∈ ms.map Md.nm) : ∃ m, findM ms n = some m := by
  obtain ⟨m, hm, e⟩ := List.mem_map.mp h
  cases q : findM ms n with
  | some m2 => exact ⟨m2, rfl⟩
  | none =>
    unfold findM at q
    rw [List.find?_eq_none] at q
    exact absurd (decide_eq_true e) (q m hm)
theorem findM_mem {ms : List Md} {n : Str} {m : Md} (h : findM ms n = some m) : n ∈ ms.map Md.nm := List.mem_map.mpr ⟨m, List.mem_of_find?_eq_some h, findM_nm h⟩
def sp_Draft_check {K : PySem.W.Frag} {mg : Str → Option Value} (T : Txt K mg) : Sp := fun vs H Q E => ∃ (d a md cl : Addr) (ms : List Md) (m : Md) (v : V), vs = [.ref d] ∧ Dr K T.c_Draft T.c_World H d a md cl ms m v ∧ Ms ms ∧ Mz m ∧ (∀ x ∈ ms, Mz x) ∧
  (chk ms m = true → ∀ H', Same H H' → Q .non H') ∧ (chk ms m = false → ErrL T.c_BadLink H E)
theorem ok_Draft_check (T : Txt K mg) : FnOk P w K mg base (L2.CX P w) 5 T.f_Draft_check T.d_Draft_check ["self"] (sp_Draft_check T) := by
  refine T.k_Draft_check.okX sc_Draft_check (fun vs H Q E h => ?_) (fun cdv A outer s H vs Q E hr h => ?_)
  · obtain ⟨d, a, md, cl, ms, m, v, rfl, _⟩ := h
    rfl
  · obtain ⟨d, a, md, cl, ms, m, v, rfl, w, hM, z, zs, q1, q2⟩ := h
    have w0 := w
    obtain ⟨⟨dx, h1⟩, hw, fv⟩ := w0
    have hw0 := hw
    obtain ⟨⟨dx2, h2⟩, _, _⟩ := hw0
    obtain ⟨mt, mxs, rfl, msq, mfl⟩ := fv.inv
    refine ⟨_, (pss_cons (ps_asg (pe_fldK K (pv 0) rfl) (pg_tup rfl (pgs_cons (pg_name (i := 1) sc_Draft_check.nd rfl (Or.inl rfl)) (pgs_cons (pg_name (i := 2) sc_Draft_check.nd rfl (Or.inl rfl)) (pgs_cons (pg_name (i := 1) sc_Draft_check.nd rfl (Or.inl rfl)) (pgs_cons (pg_name (i := 3) sc_Draft_check.nd rfl (Or.inl rfl)) (pgs_cons (pg_name (i := 4) sc_Draft_check.nd rfl (Or.inl rfl)) (pgs_cons (pg_name (i := 5) sc_Draft_check.nd rfl (Or.inl rfl)) (pgs_cons (pg_name (i := 6) sc_Draft_check.nd rfl (Or.inl rfl)) (pgs_cons (pg_name (i := 7) sc_Draft_check.nd rfl (Or.inl rfl)) pgs_nil))))))))))
      (pss_cons (ps_expr (pe_callS (ok_must T) (hr.mono (by decide)) (by rfl) T.g_must T.k_must.kp T.b_must (fun σ => passAt (takes_of rfl rfl rfl rfl) σ) (pa_cons (pe_cmpR (notIn_seqK K) (pv 2) (pe_meth0 (pe_fldK K (pv 0) rfl) T.cl_World T.me_World_names (ok_World_names T) (hr.mono (by decide)) T.b_World_names .nil pass0) rfl) pa_nil)))
      (pss_cons (ps_for (passes_of rfl) rfl (pi_tup (pv 3)) (pg_tup rfl (pgs_cons (pg_name (i := 8) sc_Draft_check.nd rfl (Or.inl rfl)) (pgs_cons (pg_name (i := 9) sc_Draft_check.nd rfl (Or.inl rfl)) pgs_nil))) (pss_one (ps_expr (pe_callS (ok_must T) (hr.mono (by decide)) (by rfl) T.g_must T.k_must.kp T.b_must (fun σ => passAt (takes_of rfl rfl rfl rfl) σ) (pa_cons (pe_and (pe_cmpR (in_seqK K) (pv 8) (pe_meth0 (pe_fldK K (pv 0) rfl) T.cl_World T.me_World_names (ok_World_names T) (hr.mono (by decide)) T.b_World_names .nil pass0) rfl) (pe_one (pe_cmpR op_eq (pe_ix (ix_tupK K) (pe_methS (pe_fldK K (pv 0) rfl) T.cl_World T.me_World_module (ok_World_module T) (hr.mono (by decide)) T.b_World_module (fun σ => passAt (takes_of rfl rfl rfl rfl) σ) (pa_cons (pv 8) pa_nil)) pe_int (fun _ _ => rfl)) (pv 9) (nomark _)))) pa_nil)))))
      (pss_cons (ps_for (passes_of rfl) rfl (pi_tup (pv 4)) (pg_tup rfl (pgs_cons (pg_name (i := 1) sc_Draft_check.nd rfl (Or.inl rfl)) (pgs_cons (pg_name (i := 10) sc_Draft_check.nd rfl (Or.inl rfl)) pgs_nil))) (pss_one (ps_expr (pe_methS (pv 0) T.cl_Draft T.me_Draft__check_heads (ok_Draft__check_heads T) (hr.mono (by decide)) T.b_Draft__check_heads (fun σ => passAt (takes_of rfl rfl rfl rfl) σ) (pa_cons (pv 10) pa_nil)))))
      (pss_cons (ps_for (passes_of rfl) rfl (pi_tup (pv 6)) (pg_name (i := 11) sc_Draft_check.nd rfl (Or.inl rfl)) (pss_one (ps_expr (pe_methS (pv 0) T.cl_Draft T.me_Draft__check_kinds (ok_Draft__check_kinds T) (hr.mono (by decide)) T.b_Draft__check_kinds (fun σ => passAt (takes_of rfl rfl rfl rfl) σ) (pa_cons (pe_op (op_catAK K) (pe_op (op_catAK K) (pe_ix (ix_tupK K) (pv 11) pe_int (fun _ _ => rfl)) (pe_ix (ix_tupK K) (pv 11) pe_int (fun _ _ => rfl))) (pe_tup (pa_cons (pe_ix (ix_tupK K) (pv 11) pe_int (fun _ _ => rfl)) pa_nil))) pa_nil)))))
      (pss_cons (ps_for (passes_of rfl) rfl (pi_enumT (by rfl) T.m_enumerate (pa_cons (pv 5) pa_nil)) (pg_tup rfl (pgs_cons (pg_name (i := 12) sc_Draft_check.nd rfl (Or.inl rfl)) (pgs_cons (pg_name (i := 13) sc_Draft_check.nd rfl (Or.inl rfl)) pgs_nil))) (pss_cons (ps_expr (pe_methS (pv 0) T.cl_Draft T.me_Draft__check_kinds (ok_Draft__check_kinds T) (hr.mono (by decide)) T.b_Draft__check_kinds (fun σ => passAt (takes_of rfl rfl rfl rfl) σ) (pa_cons (pe_op (op_catAK K) (pe_ix (ix_tupK K) (pv 13) pe_int (fun _ _ => rfl)) (pe_ix (ix_tupK K) (pv 13) pe_int (fun _ _ => rfl))) pa_nil)))
      (pss_cons (ps_expr (pe_methS (pv 0) T.cl_Draft T.me_Draft__check_heads (ok_Draft__check_heads T) (hr.mono (by decide)) T.b_Draft__check_heads (fun σ => passAt (takes_of rfl rfl rfl rfl) σ) (pa_cons (pe_lc (own := [("head", 14)]) (g := gName 14) (tt := tYes) rfl sc_Draft_check.nd (pi_tup (pe_ix (ix_tupK K) (pv 13) pe_int (fun _ _ => rfl))) (blkOk_by (own := [("head", 14)]) (N := ["self", "_", "name", "uses", "faces", "classes", "methods", "applets", "used", "version", "heads", "method", "k", "row", "head"]) (sc := defScope s_Draft_check) (by decide +kernel)) (fun _ _ _ _ _ => pg_name (i := 14) sc_Draft_check.nd rfl (Or.inl rfl)) (fun _ _ _ _ _ => pts_nil) (fun _ _ _ _ _ => (pe_slice (sl_tupAK K) (pv 14) po_none (po_some pe_int)))) pa_nil)))
      (pss_one (ps_expr (pe_methS (pv 0) T.cl_Draft T.me_Draft__check_faces (ok_Draft__check_faces T) (hr.mono (by decide)) T.b_Draft__check_faces (fun σ => passAt (takes_of rfl rfl rfl rfl) σ) (pa_cons (pv 12) (pa_cons (pe_ix (ix_tupK K) (pv 13) pe_int (fun _ _ => rfl)) pa_nil))))))))
      (pss_one (ps_for (passes_of rfl) rfl (pi_tup (pv 7)) (pg_name (i := 12) sc_Draft_check.nd rfl (Or.inl rfl)) (pss_cons (ps_setLc (i := 10) (own := [("row", 13)]) (g := gName 13) (tt := tYes) rfl sc_Draft_check.nd rfl rfl (sw_true rfl rfl rfl (by decide +kernel)) (pi_tup (pe_ix (ix_tupK K) (pe_ix (ix_tupK K) (pv 5) (pv 12) (fun _ _ => rfl)) pe_int (fun _ _ => rfl))) (blkOk_by (own := [("row", 13)]) (N := ["self", "_", "name", "uses", "faces", "classes", "methods", "applets", "used", "version", "heads", "method", "k", "row", "head"]) (sc := defScope s_Draft_check) (by decide +kernel)) (fun _ _ _ _ _ => pg_name (i := 13) sc_Draft_check.nd rfl (Or.inl rfl)) (fun _ _ _ _ _ => pts_nil) (fun _ _ _ _ _ => (pe_slice (sl_tupAK K) (pv 13) po_none (po_some pe_int))))
      (pss_one (ps_expr (pe_callS (ok_must T) (hr.mono (by decide)) (by rfl) T.g_must T.k_must.kp T.b_must (fun σ => passAt (takes_of rfl rfl rfl rfl) σ) (pa_cons (pe_and (pe_cmpR (op_inD (room65 hr)) (pe_tup (pa_cons pe_str (pa_cons (pe_tup (pa_cons (pe_glob (v := .ref T.a_INT) rfl T.g_INT rfl) pa_nil)) (pa_cons (pe_glob (v := .ref T.a_NOTHING) rfl T.g_NOTHING rfl) pa_nil)))) (pv 10) rfl) (pe_one (pe_cmpR (op_inD (room65 hr)) (pe_tup (pa_cons pe_str (pa_cons (pe_tup (pa_cons (pe_glob (v := .ref T.a_INT) rfl T.g_INT rfl) pa_nil)) (pa_cons (pe_glob (v := .ref T.a_INT) rfl T.g_INT rfl) pa_nil)))) (pv 10) rfl))) pa_nil))))))))))))), ?_⟩
    walk_at "rd"
    refine rdSeq ?_
    walk_at "rd"
    refine i_fld T.cl_Draft T.nf_Draft_module h1 rfl ?_
    unfold Md.ds at mfl
    obtain ⟨x0, x1, x2, x3, x4, x5, x6, x7, rfl, f3, f4, f5, f6, f7, rfl⟩ : ∃ x0 x1 x2 x3 x4 x5 x6 x7, mxs = [x0, x1, x2, x3, x4, x5, x6, x7] ∧ Fr K H x3 (.tuple (m.uses.map useD)) ∧ Fr K H x4 (.tuple (m.fcs.map faceD)) ∧ Fr K H x5 (.tuple (m.cls.map Cl.d)) ∧ Fr K H x6 (.tuple (m.mts.map Mt.d)) ∧
        Fr K H x7 (.tuple (m.apps.map fun k : Nat => .int k)) ∧ x1 = .str m.nm := by
      cases mfl with
      | cons g0 mfl => cases mfl with
        | cons g1 mfl => cases mfl with
          | cons g2 mfl => cases mfl with
            | cons g3 mfl => cases mfl with
              | cons g4 mfl => cases mfl with
                | cons g5 mfl => cases mfl with
                  | cons g6 mfl => cases mfl with
                    | cons g7 mfl =>
                      cases mfl
                      exact ⟨_, _, _, _, _, _, _, _, rfl, g3, g4, g5, g6, g7, g1.strI⟩
    refine i_gT8 rfl rfl msq.sq ?_
    refine rdSeq ?_
    walk_at "rd"
    refine i_fld T.cl_Draft T.nf_Draft_world h1 rfl (i_meth h2 rfl ⟨a, md, cl, ms, rfl, hw, fun p1 H1 hp1 s1 hn1 => ⟨p1, _, rfl, .inl (sqL_of hn1), rfl, names_flat, ?_⟩⟩)
    rw [inV_names]
    refine i_must (fun c1 => ?_) (fun c1 => (q2 ?_).same s1)
    rotate_left
    · have c1 : (!decide (m.nm ∈ ms.map Md.nm)) = false := c1
      unfold chk; rw [c1]; rfl
    have c1 : (!decide (m.nm ∈ ms.map Md.nm)) = true := c1
    -- uses
    obtain ⟨t3, u3, rfl, sq3, fl3⟩ := f3.inv
    have l3 := fl3.len
    rw [List.length_map] at l3
    refine rdSeq ?_
    walk_at "rd"
    refine ⟨⟨_, (sq3.up (.of s1)).sq⟩, ?_⟩
    refine i_forG (walk_tup (K := K) (a := t3) (xs := u3)) (fun i σ' H' => Same H H' ∧ (∃ y0 y8 y9, σ' = [some (.ref d), y0, some (.str m.nm), some (.ref t3), some x4, some x5, some x6, some x7, y8, y9, none, none, none, none, none]) ∧ (m.uses.take i).all (useOk ms) = true) ⟨s1, ⟨_, _, _, rfl⟩, rfl⟩ (fun i σ' H' _ h => (sq3.up (.of h.1)).sq) ?_ ?_
    · rintro i x σ' H2 H3 hi ⟨s2, ⟨y0, y8, y9, rfl⟩, hall⟩ ⟨rfl, hx⟩
      have hi2 : i < m.uses.length := by omega
      obtain ⟨dd, hd, fx⟩ := fl3.getV hx
      rw [List.getElem?_map, List.getElem?_eq_getElem hi2] at hd
      cases hd
      have fx := fx.up (.of s2)
      have nxt : useOk ms m.uses[i] = true → (m.uses.take (i + 1)).all (useOk ms) = true := fun h => all_next hi2 hall h
      have bad : useOk ms m.uses[i] = false → ErrL T.c_BadLink H E := fun h => q2 (by unfold chk; rw [all_bad hi2 h]; simp)
      generalize m.uses[i] = us at *
      obtain ⟨b, zs2, rfl, sqx, flx⟩ := fx.inv
      cases flx with
      | cons g1 flx => cases flx with
        | cons g2 flx =>
          cases flx
          rw [g1.strI, g2.intI] at sqx
          refine i_gTup2 rfl sqx.sq ?_
          walk_at "rd"
          refine i_fld T.cl_Draft T.nf_Draft_world (s2 _ _ h1) rfl (i_meth (s2 _ _ h2) rfl ⟨a, md, cl, ms, rfl, hw.same s2, fun p4 H4 hp4 s4 hn4 => ⟨p4, _, rfl, .inl (sqL_of hn4), rfl, names_flat, ?_⟩⟩)
          rw [inV_names]
          have s24 := s2.trans s4
          refine ⟨_, rfl, ite2 (fun hin => ?_) (fun hin => i_must (fun h => by cases h) (fun _ => (bad ?_).same s24))⟩
          · have hin : us.1 ∈ ms.map Md.nm := of_decide_eq_true hin
            obtain ⟨m2, hm2⟩ := findM_in hin
            refine i_fld T.cl_Draft T.nf_Draft_world (s24 _ _ h1) rfl (i_meth (s24 _ _ h2) rfl ⟨a, md, cl, ms, us.1, rfl, hw.same s24, fun m3 v3 e3 f3' => ?_, fun e3 => by rw [hm2] at e3; cases e3⟩)
            rw [hm2] at e3
            cases e3
            refine i_ixFi (i := 2) f3' rfl ⟨rfl, i_must (fun h => ⟨s24, nxt ?_⟩) (fun h => (bad ?_).same s24)⟩
            · unfold useOk; rw [hm2]
              exact decide_eq_true (V.int.inj (of_decide_eq_true h))
            · unfold useOk; rw [hm2]
              exact decide_eq_false fun e => of_decide_eq_false h (by rw [e])
          · unfold useOk
            cases e : findM ms us.1 with
            | none => rfl
            | some m2 => exact absurd (decide_eq_true (findM_mem e)) hin
    rintro σ' H2 ⟨s2, ⟨y0, y8, y9, rfl⟩, hall⟩
    rw [l3, List.take_length] at hall
    have c2 := hall
    -- faces
    obtain ⟨t4, u4, rfl, sq4, fl4⟩ := f4.inv
    have l4 := fl4.len
    rw [List.length_map] at l4
    dsimp only
    refine rdSeq ?_
    walk_at "rd"
    refine ⟨⟨_, (sq4.up (.of s2)).sq⟩, ?_⟩
    refine i_forG (walk_tup (K := K) (a := t4) (xs := u4)) (fun i σ' H' => Same H H' ∧ (∃ y0 y8 y9 y10, σ' = [some (.ref d), y0, some (.str m.nm), some (.ref t3), some (.ref t4), some x5, some x6, some x7, y8, y9, y10, none, none, none, none]) ∧ (m.fcs.take i).all (fun f => f.2.all (hOk ms m)) = true) ⟨s2, ⟨_, _, _, _, rfl⟩, rfl⟩ (fun i σ' H' _ h => (sq4.up (.of h.1)).sq) ?_ ?_
    · rintro i x σ' H3 H4 hi ⟨s3, ⟨y0, y8, y9, y10, rfl⟩, hall⟩ ⟨rfl, hx⟩
      have hi2 : i < m.fcs.length := by omega
      obtain ⟨dd, hd, fx⟩ := fl4.getV hx
      rw [List.getElem?_map, List.getElem?_eq_getElem hi2] at hd
      cases hd
      have fx := fx.up (.of s3)
      have nxt : m.fcs[i].2.all (hOk ms m) = true → (m.fcs.take (i + 1)).all (fun f => f.2.all (hOk ms m)) = true := fun h => all_next (p := fun f : Str × List Hd => f.2.all (hOk ms m)) hi2 hall h
      have bad : m.fcs[i].2.all (hOk ms m) = false → ErrL T.c_BadLink H E := fun h => q2 (by unfold chk; rw [all_bad (p := fun f : Str × List Hd => f.2.all (hOk ms m)) hi2 h]; simp)
      have hfz := z.hf _ (List.getElem_mem hi2)
      generalize m.fcs[i] = fc at *
      obtain ⟨b, zs2, rfl, sqx, flx⟩ := fx.inv
      cases flx with
      | cons g1 flx => cases flx with
        | cons g2 flx =>
          cases flx
          rw [g1.strI] at sqx
          obtain ⟨t5, u5, rfl, sq5, fl5⟩ := g2.inv
          refine i_gTup2 rfl sqx.sq ?_
          walk_at "rd"
          refine i_meth (s3 _ _ h1) rfl ?_
          walk_at "rd"
          exact ⟨d, a, md, cl, ms, m, _, t5, u5, fc.2, rfl, w.same s3, .inl sq5, fl5, fun h hh => (hfz h hh).2, fun h H' s' => ⟨s3.trans s', nxt h⟩, fun h => (bad h).same s3⟩
    rintro σ' H3 ⟨s3, ⟨y0, y8, y9, y10, rfl⟩, hall⟩
    rw [l4, List.take_length] at hall
    have c3 := hall
    -- methods
    obtain ⟨t6, u6, rfl, sq6, fl6⟩ := f6.inv
    have l6 := fl6.len
    rw [List.length_map] at l6
    dsimp only
    refine rdSeq ?_
    walk_at "rd"
    refine ⟨⟨_, (sq6.up (.of s3)).sq⟩, ?_⟩
    refine i_for (walk_tup (K := K) (a := t6) (xs := u6)) (fun i σ' H' => Same H H' ∧ (∃ y0 y8 y9 y10 y11, σ' = [some (.ref d), y0, some (.str m.nm), some (.ref t3), some (.ref t4), some x5, some (.ref t6), some x7, y8, y9, y10, y11, none, none, none]) ∧ (m.mts.take i).all (fun t => (mtKds t).all (kOk ms m)) = true) ⟨s3, ⟨_, _, _, _, _, rfl⟩, rfl⟩ (fun i σ' H' _ h => (sq6.up (.of h.1)).sq) ?_ ?_
    · rintro i x σ' H4 H5 hi ⟨s4, ⟨y0, y8, y9, y10, y11, rfl⟩, hall⟩ ⟨rfl, hx⟩
      have hi2 : i < m.mts.length := by omega
      obtain ⟨dd, hd, fx⟩ := fl6.getV hx
      rw [List.getElem?_map, List.getElem?_eq_getElem hi2] at hd
      cases hd
      have fx := fx.up (.of s4)
      have nxt : (mtKds m.mts[i]).all (kOk ms m) = true → (m.mts.take (i + 1)).all (fun t => (mtKds t).all (kOk ms m)) = true := fun h => all_next (p := fun t => (mtKds t).all (kOk ms m)) hi2 hall h
      have bad : (mtKds m.mts[i]).all (kOk ms m) = false → ErrL T.c_BadLink H E := fun h => q2 (by unfold chk; rw [all_bad (p := fun t => (mtKds t).all (kOk ms m)) hi2 h]; simp)
      have hmz := z.mt _ (List.getElem_mem hi2)
      generalize m.mts[i] = mt at *
      walk_at "rd"
      refine i_meth (s4 _ _ h1) rfl ?_
      walk_at "rd"
      refine i_ixF (i := 2) fx rfl fun g2 hg2 => i_ixF (i := 4) fx rfl fun g4 hg4 => i_catF hg2 hg4 (by rw [List.length_map, List.length_map]; exact line5 (by omega)) fun g5 H6 s6 hg5 => ?_
      refine i_ixF (i := 3) (fx.up (.of s6)) rfl fun g3 hg3 => ?_
      intro p7 hp7
      refine i_catF (hg5.up (.of (same_new hp7))) (.tup (.inl upd_same) (.cons (hg3.up (.of (same_new hp7))) .nil)) (by simp; exact line5 (by omega)) fun g8 H8 s8 hg8 => ?_
      have s48 := s4.trans (s6.trans ((same_new hp7).trans s8))
      refine ⟨d, a, md, cl, ms, m, _, g8, mtKds mt, rfl, w.same s48, by unfold mtKds; rw [List.map_append, List.map_append]; exact hg8, fun h => ⟨s48, nxt h⟩, fun h => (bad h).same s48⟩
    rintro σ' H4 ⟨s4, ⟨y0, y8, y9, y10, y11, rfl⟩, hall⟩
    rw [l6, List.take_length] at hall
    have c4 := hall
    -- classes
    obtain ⟨t5, u5, rfl, sq5, fl5⟩ := f5.inv
    have l5 := fl5.len
    rw [List.length_map] at l5
    dsimp only
    refine rdSeq ?_
    walk_at "rd"
    obtain ⟨t7, u7, rfl, sq7, fl7⟩ := f7.inv
    have l7 := fl7.len
    rw [List.length_map] at l7
    refine ⟨_, (sq5.up (.of s4)).sq, ?_⟩
    refine i_forG (walk_enumT (K := K) (a := t5) (xs := u5)) (fun i σ' H' => Same H H' ∧ (∃ y0 y8 y9 y10 y11 y12 y13, σ' = [some (.ref d), y0, some (.str m.nm), some (.ref t3), some (.ref t4), some (.ref t5), some (.ref t6), some (.ref t7), y8, y9, y10, y11, y12, y13, none]) ∧ ((List.range m.cls.length).take i).all (clOkAt ms m) = true) ⟨s4, ⟨_, _, _, _, _, _, _, rfl⟩, rfl⟩ (fun i σ' H' _ h => (sq5.up (.of h.1)).sq) ?_ ?_
    · rintro i x σ' H5 H6 hi ⟨s5, ⟨y0, y8, y9, y10, y11, y12, y13, rfl⟩, hall⟩ ⟨tt, y, rfl, htt, rfl, hy⟩
      have hi2 : i < m.cls.length := by omega
      obtain ⟨dd, hd, fx⟩ := fl5.getV hy
      rw [List.getElem?_map, List.getElem?_eq_getElem hi2] at hd
      cases hd
      have s6 := s5.trans (same_new (o := .tup [.int (i : Nat), y]) htt)
      refine i_gTup2 rfl (sqT_of upd_same) ?_
      generalize upd H5 tt (.tup [.int (i : Nat), y]) = H6 at *
      have fx := fx.up (.of s6)
      have hc := List.getElem?_eq_getElem hi2
      have hir : i < (List.range m.cls.length).length := by rw [List.length_range]; exact hi2
      have hri : (List.range m.cls.length)[i] = i := List.getElem_range hir
      have ecl : clOkAt ms m i = clOk ms m i m.cls[i] := by unfold clOkAt; rw [hc]
      have nxt : clOk ms m i m.cls[i] = true → ((List.range m.cls.length).take (i + 1)).all (clOkAt ms m) = true := fun h => all_next hir hall (by rw [hri, ecl]; exact h)
      have bad : clOk ms m i m.cls[i] = false → ErrL T.c_BadLink H E := fun h => q2 (by unfold chk; rw [all_bad hir (by rw [hri, ecl]; exact h)]; simp)
      have hcm := List.getElem_mem hi2
      have prev : ∀ (j : Nat) (hj : j < i), (m.cls[j]'(by omega)).fcs.all (fun f => (faceX ms m f.1 f.2).isSome) = true := fun j hj => by
        have h1 := List.all_eq_true.mp hall j (by
          rw [List.mem_take_iff_getElem]
          exact ⟨j, by rw [List.length_range]; omega, List.getElem_range (by rw [List.length_range]; omega)⟩)
        unfold clOkAt at h1
        rw [List.getElem?_eq_getElem (show j < m.cls.length by omega)] at h1
        unfold clOk at h1
        simp only [Bool.and_eq_true, List.all_append] at h1
        have h2 := h1.1.1
        rw [List.all_map] at h2
        exact h2
      have zfd := z.fd _ hcm
      have zfc := z.sz.fc _ hcm
      have ztb := z.sz.tb _ hcm
      have zho := z.ho _ hcm
      have hanc := ancs_len z.sz.ah m.cls.length (i : Int) (by omega) (by omega) (by omega)
      generalize hgc : m.cls[i] = c at *
      refine rdSeq ?_
      walk_at "rd"
      refine i_meth (s6 _ _ h1) rfl ?_
      walk_at "rd"
      refine i_ixF (i := 2) fx rfl fun g2 hg2 => i_ixF (i := 3) fx rfl fun g3 hg3 => i_catF hg2 hg3 (by rw [List.length_map, List.length_map]; exact line5 (by omega)) fun g5 H7 s7 hg5 => ?_
      have s67 := s6.trans s7
      refine ⟨d, a, md, cl, ms, m, _, g5, c.fcs.map faceKd ++ c.fds, rfl, w.same s67, by rw [List.map_append, ← fcs_map]; exact hg5, fun k1 => ?_, fun k1 => (bad (by unfold clOk; rw [k1]; rfl)).same s67⟩
      refine rdSeq ?_
      walk_at "rd"
      refine i_meth (s67 _ _ h1) rfl ?_
      walk_at "rd"
      refine i_ixF (i := 4) (fx.up (.of s7)) rfl fun g4 hg4 => ?_
      obtain ⟨t8, u8, rfl, sq8, fl8⟩ := hg4.inv
      have l8 := fl8.len
      rw [List.length_map] at l8
      refine ⟨t8, rfl, ⟨_, sq8.sq⟩, ?_⟩
      refine i_lcFr (K := K) (walk_tup (K := K) (a := t8) (xs := u8)) ((hdsOf c).map Hd.d) (by simp [hdsOf, l8]) (line5' (by omega)) (fun H' s' => (sq8.up (.of s')).sq) (fun _ _ _ _ y => y.1) (fun i2 x2 H8 Q' dd hdd s8 hy8 qq => ?_) (fun D H8 ys hD s8 hD8 fD => ?_)
      · obtain ⟨_, hx8⟩ := hy8
        have hi8 : i2 < c.tb.length := by rw [← l8]; exact (List.getElem?_eq_some_iff.mp hx8).1
        obtain ⟨d2, hd2, fx8⟩ := fl8.getV hx8
        rw [List.getElem?_map, List.getElem?_eq_getElem hi8] at hd2
        cases hd2
        unfold hdsOf at hdd
        rw [List.map_map, List.getElem?_map, List.getElem?_eq_getElem hi8] at hdd
        cases hdd
        walk_at "rd"
        refine i_frontF (n := 3) (fx8.up (.of s8)) (by simp [Hd.ds]) fun y H3 s3 fy => qq y H3 s3 ?_
        rw [rw_take] at fy
        exact fy
      have s68 := s67.trans s8
      refine ⟨d, a, md, cl, ms, m, _, D, ys, hdsOf c, rfl, w.same s68, .inr hD8, fD, fun h hh => ?_, fun k2 H9 s9 => ?_, fun k2 => (bad (by unfold clOk; rw [k2]; simp)).same s68⟩
      · obtain ⟨r, hr, rfl⟩ := List.mem_map.mp hh
        exact (zho r hr).2
      have s69 := s68.trans s9
      refine i_meth (s69 _ _ h1) rfl ?_
      walk_at "rd"
      refine i_ixF (i := 4) (fx.up (.of (s7.trans (s8.trans s9)))) rfl fun g4 hg4 => ?_
      refine ⟨d, a, md, cl, ms, m, _, g4, i, c, rfl, w.same s69, hg4, hc, z, zs, fun f hf => ?_, fun k3 H10 s10 => ?_, fun k3 => (bad (by unfold clOk; rw [k3]; simp)).same s69⟩
      · obtain ⟨j, hj, hfj⟩ := List.mem_flatMap.mp hf
        clear hf
        have hf := hfj
        clear hfj
        obtain ⟨j0, j1⟩ := hanc.2 j hj
        obtain ⟨jn, rfl⟩ := Int.eq_ofNat_of_zero_le j0
        have hjl : jn < m.cls.length := by omega
        rw [Int.toNat_natCast, List.getElem?_eq_getElem hjl] at hf
        by_cases e : jn = i
        · subst e
          rw [hgc] at hf
          have k1 : (c.fcs.map faceKd ++ c.fds).all (kOk ms m) = true := k1
          rw [List.all_append, Bool.and_eq_true, List.all_map] at k1
          exact List.all_eq_true.mp k1.1 f hf
        · exact List.all_eq_true.mp (prev jn (by omega)) f hf
      · refine ⟨s69.trans s10, nxt ?_⟩
        have k1 : (c.fcs.map faceKd ++ c.fds).all (kOk ms m) = true := k1
        have k2 : (hdsOf c).all (hOk ms m) = true := k2
        have k3 : fcOk ms m i c = true := k3
        unfold clOk
        rw [k1, k2, k3]; rfl
    rintro σ' H5 ⟨s5, ⟨y0, y8, y9, y10, y11, y12, y13, rfl⟩, hall⟩
    rw [l5, List.take_of_length_le (by rw [List.length_range]; exact Nat.le_refl _)] at hall
    have c5 := hall
    -- applets
    dsimp only
    walk_at "rd"
    refine ⟨⟨_, (sq7.up (.of s5)).sq⟩, ?_⟩
    refine i_for (walk_tup (K := K) (a := t7) (xs := u7)) (fun i σ' H' => Same H H' ∧ (∃ y0 y8 y9 y10 y11 y12 y13, σ' = [some (.ref d), y0, some (.str m.nm), some (.ref t3), some (.ref t4), some (.ref t5), some (.ref t6), some (.ref t7), y8, y9, y10, y11, y12, y13, none]) ∧ (m.apps.take i).all (apOk m) = true) ⟨s5, ⟨_, _, _, _, _, _, _, rfl⟩, rfl⟩ (fun i σ' H' _ h => (sq7.up (.of h.1)).sq) ?_ ?_
    · rintro i x σ' H6 H7 hi ⟨s6, ⟨y0, y8, y9, y10, y11, y12, y13, rfl⟩, hall⟩ ⟨rfl, hx⟩
      have hi2 : i < m.apps.length := by omega
      obtain ⟨dd, hd, fx⟩ := fl7.getV hx
      rw [List.getElem?_map, List.getElem?_eq_getElem hi2] at hd
      cases hd
      rw [fx.intI]
      have hk := z.sz.ap _ (List.getElem_mem hi2)
      have nxt : apOk m m.apps[i] = true → (m.apps.take (i + 1)).all (apOk m) = true := fun h => all_next hi2 hall h
      have bad : apOk m m.apps[i] = false → ErrL T.c_BadLink H E := fun h => q2 (by unfold chk; rw [all_bad hi2 h]; simp)
      generalize m.apps[i] = k at *
      have hc := List.getElem?_eq_getElem hk
      have hcm := List.getElem_mem hk
      have eap : apOk m k = (decide (madeH ∈ hdsOf m.cls[k]) && decide (procH ∈ hdsOf m.cls[k])) := by unfold apOk; rw [hc]
      have ztb := z.sz.tb _ hcm
      have zho := z.ho _ hcm
      have f5' : Fr K H7 (.ref t5) (.tuple (m.cls.map Cl.d)) := (Fr.tup sq5 fl5).up (.of s6)
      have hcd := cls_at hc
      generalize m.cls[k] = c at *
      refine rdSeq ?_
      walk_at "rd"
      refine i_ixF (i := k) f5' hcd fun g1 hg1 => i_ixF (i := 4) hg1 rfl fun g4 hg4 => ?_
      obtain ⟨t8, u8, rfl, sq8, fl8⟩ := hg4.inv
      have l8 := fl8.len
      rw [List.length_map] at l8
      refine ⟨t8, rfl, ⟨_, sq8.sq⟩, ?_⟩
      refine i_lcFr (K := K) (walk_tup (K := K) (a := t8) (xs := u8)) ((hdsOf c).map Hd.d) (by simp [hdsOf, l8]) (line5' (by omega)) (fun H' s' => (sq8.up (.of s')).sq) (fun _ _ _ _ y => y.1) (fun i2 x2 H8 Q' dd hdd s8 hy8 qq => ?_) (fun D H8 ys hD s8 hD8 fD => ?_)
      · obtain ⟨_, hx8⟩ := hy8
        have hi8 : i2 < c.tb.length := by rw [← l8]; exact (List.getElem?_eq_some_iff.mp hx8).1
        obtain ⟨d2, hd2, fx8⟩ := fl8.getV hx8
        rw [List.getElem?_map, List.getElem?_eq_getElem hi8] at hd2
        cases hd2
        unfold hdsOf at hdd
        rw [List.map_map, List.getElem?_map, List.getElem?_eq_getElem hi8] at hdd
        cases hdd
        walk_at "rd"
        refine i_frontF (n := 3) (fx8.up (.of s8)) (by simp [Hd.ds]) fun y H3 s3 fy => qq y H3 s3 ?_
        rw [rw_take] at fy
        exact fy
      have s68 := s6.trans s8
      have fI : ∀ G, Fr K G (.ref T.a_INT) Kd.int.d := fun G => .tup (.inr T.s_INT) (.cons (.str _) .nil)
      have fN : ∀ G, Fr K G (.ref T.a_NOTHING) Kd.nothing.d := fun G => .tup (.inr T.s_NOTHING) (.cons (.str _) .nil)
      have hho : ∀ h ∈ hdsOf c, HdOk h := fun h hh => by
        obtain ⟨r, hr, rfl⟩ := List.mem_map.mp hh
        exact (zho r hr).1
      have oM : HdOk madeH := ⟨by decide +kernel, fun k hk => by rw [List.mem_singleton.mp hk]; trivial, trivial⟩
      have oP : HdOk procH := ⟨by decide +kernel, fun k hk => by rw [List.mem_singleton.mp hk]; trivial, trivial⟩
      walk_at "rd"
      intro p1 hp1 p2 hp2
      have v1 : Fr K (upd (upd H8 p1 (.tup [.ref T.a_INT])) p2 (.tup [.str (Str.ofString "made"), .ref p1, .ref T.a_NOTHING])) (.ref p2) madeH.d :=
        .tup (.inl upd_same) (.cons (.str _) (.cons (.tup (.inl (same_new hp2 _ _ upd_same)) (.cons (fI _) .nil)) (.cons (fN _) .nil)))
      have s12 := (same_new (o := .tup [.ref T.a_INT]) hp1).trans (same_new (o := .tup [.str (Str.ofString "made"), .ref p1, .ref T.a_NOTHING]) hp2)
      generalize upd (upd H8 p1 (.tup [.ref T.a_INT])) p2 (.tup [.str (Str.ofString "made"), .ref p1, .ref T.a_NOTHING]) = H9 at *
      refine i_inHds v1 (s12 _ _ hD8) (fD.up (.of s12)) oM hho ⟨_, rfl, ite2 (fun hA => ?_) (fun hA => ?_)⟩
      · intro p3 hp3 p4 hp4
        have v2 : Fr K (upd (upd H9 p3 (.tup [.ref T.a_INT])) p4 (.tup [.str (Str.ofString "process"), .ref p3, .ref T.a_INT])) (.ref p4) procH.d :=
          .tup (.inl upd_same) (.cons (.str _) (.cons (.tup (.inl (same_new hp4 _ _ upd_same)) (.cons (fI _) .nil)) (.cons (fI _) .nil)))
        have s34 := s12.trans ((same_new (o := .tup [.ref T.a_INT]) hp3).trans (same_new (o := .tup [.str (Str.ofString "process"), .ref p3, .ref T.a_INT]) hp4))
        generalize upd (upd H9 p3 (.tup [.ref T.a_INT])) p4 (.tup [.str (Str.ofString "process"), .ref p3, .ref T.a_INT]) = H10 at *
        refine i_inHds v2 (s34 _ _ hD8) (fD.up (.of s34)) oP hho (i_must (fun hB => ⟨s68.trans s34, nxt (by rw [eap, hA, hB]; rfl)⟩) (fun hB => (bad (by rw [eap, hB, Bool.and_false])).same (s68.trans s34)))
      · exact i_must (fun h => by cases h) (fun _ => (bad (by rw [eap, Bool.eq_false_iff.mpr hA]; rfl)).same (s68.trans s12))
    · rintro σ' H6 ⟨s6, _, hall⟩
      rw [l7, List.take_length] at hall
      refine q1 ?_ _ s6
      unfold chk
      rw [c1, c2, c3, c4, c5, hall]; rfl
theorem kvs_app {m : Md} {v : V} : ∀ {ms : List Md} {vs : List V}, vs.length = ms.length → kvsOf (ms ++ [m]) (vs ++ [v]) = kvsOf ms vs ++ [(.inr m.nm, v)]
  | [], [], _ => rfl
  | x :: ms, y :: vs, h => by
    show (_, _) :: kvsOf (ms ++ [m]) (vs ++ [v]) = _
    rw [kvs_app (Nat.succ.inj h)]; rfl
theorem kvs_len : ∀ {ms : List Md} {vs : List V}, vs.length = ms.length → (kvsOf ms vs).length = ms.length
  | [], [], _ => rfl
  | x :: ms, y :: vs, h => congrArg (· + 1) (kvs_len (Nat.succ.inj h))
theorem clsOf_len {ms : List Md} (h : ∀ m ∈ ms, m.cls.length ≤ 500) : (clsOf ms).length ≤ ms.length * 500 := flat_len fun m hm => by rw [List.length_map, List.length_range]; exact h m hm
def sp_World_add {K : PySem.W.Frag} {mg : Str → Option Value} (T : Txt K mg) : Sp := fun vs H Q E => ∃ (a md cl : Addr) (ms : List Md) (m : Md) (v : V), vs = [.ref a, v] ∧ Wd K T.c_World H a md cl ms ∧ Fr K H v m.d ∧ Ms ms ∧ Mz m ∧ (∀ x ∈ ms, Mz x) ∧
  (chk ms m = true → ∀ H', Wd K T.c_World H' a md cl (ms ++ [m]) → Kp [md, cl] H H' → TupK H H' → Q .non H') ∧ (chk ms m = false → ErrL T.c_BadLink H E)
theorem ok_World_add (T : Txt K mg) : FnOk P w K mg base (L2.CX P w) 6 T.f_World_add T.d_World_add ["self", "module"] (sp_World_add T) := by
  refine T.k_World_add.okX sc_World_add (fun vs H Q E h => ?_) (fun cdv A outer s H vs Q E hr h => ?_)
  · obtain ⟨a, md, cl, ms, m, v, rfl, _⟩ := h
    rfl
  · obtain ⟨a, md, cl, ms, m, v, rfl, w, fv, hM, z, zs, q1, q2⟩ := h
    have w0 := w
    obtain ⟨⟨dx, h1⟩, ⟨us, h2, f2⟩, ⟨ws, h3, f3⟩⟩ := w0
    have l2 := f2.len
    have l3 := f3.len
    rw [List.length_map] at l2 l3
    refine ⟨_, (pss_cons (ps_expr (pe_meth0S (pe_make T.mk_Draft (ok_Draft_init T) (hr.mono (by decide)) (by rfl) T.g_Draft T.b_Draft_init .nil pass0 (pa_cons (pv 0) (pa_cons (pv 1) pa_nil))) T.cl_Draft T.me_Draft_check (ok_Draft_check T) (hr.mono (by decide)) T.b_Draft_check (fun σ => passAt (takes_of rfl rfl rfl rfl) σ)))
      (pss_cons (ps_dput (hu_of hr) (pe_fldK K (pv 0) rfl) (pe_ix (ix_tupK K) (pv 1) pe_int (fun _ _ => rfl)) (pv 1) rfl)
      (pss_one (ps_expr (pe_bmK K PySem.F.plainAttrs_list PySem.F.slot_list_extend PySem.F.type_list_extend mt_extend (pe_fldK K (pv 0) rfl) (pa_cons (pe_lc (own := [("k", 2)]) (g := gName 2) (tt := tYes) rfl sc_World_add.nd (pi_range1 (by rfl) T.m_range (pa_cons (pe_callB (lenTK K) (by rfl) T.m_len (by decide +kernel) (pa_cons (pe_ix (ix_tupK K) (pv 1) pe_int (fun _ _ => rfl)) pa_nil)) pa_nil)) (blkOk_by (own := [("k", 2)]) (N := ["self", "module", "k"]) (sc := defScope s_World_add) (by decide +kernel)) (fun _ _ _ _ _ => pg_name (i := 2) sc_World_add.nd rfl (Or.inl rfl)) (fun _ _ _ _ _ => pts_nil) (fun _ _ _ _ _ => (pe_tup (pa_cons (pe_ix (ix_tupK K) (pv 1) pe_int (fun _ _ => rfl)) (pa_cons (pv 2) pa_nil))))) pa_nil)))))), ?_⟩
    walk_at "rd"
    refine rdSeq ?_
    walk_at "rd"
    intro x dy hx hdy ndx
    have nxa : x ≠ a := fun e => by rw [e, h1] at hx; cases hx
    have s1 : Same H (upd (upd H dy (.own x)) x (.ins T.c_Draft dy [])) := (same_new hdy).trans (same_new (by rw [upd_ne (Ne.symm ndx)]; exact hx))
    refine ⟨x, dy, .ref a, v, rfl, upd_same, rfl, ?_⟩
    rw [upd_upd]
    have s2 : Same H (upd (upd H dy (.own x)) x (.ins T.c_Draft dy [("_world", .ref a), ("_module", v)])) := (same_new hdy).trans (same_new (by rw [upd_ne (Ne.symm ndx)]; exact hx))
    refine i_meth upd_same rfl ⟨x, a, md, cl, ms, m, v, rfl, ⟨⟨dy, upd_same⟩, w.same s2, fv.up (.of s2)⟩, hM, z, zs, fun hc H3 s3 => ?_, fun hc => (q2 hc).same s2⟩
    have s23 := s2.trans s3
    have q1 := q1 hc
    generalize upd (upd H dy (.own x)) x (.ins T.c_Draft dy [("_world", .ref a), ("_module", v)]) = Hx at *
    refine rdSeq ?_
    walk_at "rd"
    have h1' := s23 _ _ h1
    have h2' := s23 _ _ h2
    have h3' := s23 _ _ h3
    have fv3 := fv.up (.of s23)
    have nam : a ≠ md := ne_of h1 h2 (by intro z; cases z)
    have nac : a ≠ cl := ne_of h1 h3 (by intro z; cases z)
    have nmc : md ≠ cl := ne_of h2 h3 (by intro z; cases z)
    have hnew : findM ms m.nm = none := by
      cases e : findM ms m.nm with
      | none => rfl
      | some m2 =>
        have h5 := findM_mem e
        unfold chk at hc
        rw [decide_eq_true h5] at hc
        cases hc
    have hval : valV (kvsOf ms us) (.inr m.nm) = none := by
      rcases find_kvs (n := m.nm) f2 with ⟨m2, v2, e1, _⟩ | ⟨_, e2⟩
      · rw [hnew] at e1; cases e1
      · exact e2
    have lnm := hM.ln
    have lcl := clsOf_len fun m hm => (hM.sz m hm).cl
    have lms : (clsOf ms).length ≤ 50000 := Nat.le_trans lcl (Nat.mul_le_mul_right 500 lnm)
    have lmc := z.sz.cl
    refine i_fld T.cl_World T.nf_World_modules h1' rfl (i_ixFs (i := 1) fv3 (Md.at1 m) (i_dput h2' (by rw [kvs_len l2]; exact line5' (by omega)) ?_))
    rw [putK_new v hval, ← kvs_app l2]
    have tk1 : TupK H3 (upd H3 md (.dK (kvsOf (ms ++ [m]) (us ++ [v])))) := TupK.mut h2' (fun _ h => nomatch h)
    have k1 : Kp [md, cl] H3 (upd H3 md (.dK (kvsOf (ms ++ [m]) (us ++ [v])))) := Kp.set (by simp)
    have h1'' : upd H3 md (.dK (kvsOf (ms ++ [m]) (us ++ [v]))) a = _ := (upd_ne nam).trans h1'
    have h2'' : upd H3 md (.dK (kvsOf (ms ++ [m]) (us ++ [v]))) md = some (.dK (kvsOf (ms ++ [m]) (us ++ [v]))) := upd_same
    have h3'' : upd H3 md (.dK (kvsOf (ms ++ [m]) (us ++ [v]))) cl = _ := (upd_ne nmc.symm).trans h3'
    generalize upd H3 md (.dK (kvsOf (ms ++ [m]) (us ++ [v]))) = H4 at *
    have fv4 := fv3.up tk1
    refine i_fld T.cl_World T.nf_World_classes h1'' rfl ⟨.inl ⟨rfl, _, sqL_of h3''⟩, i_ixF (i := 5) fv4 (Md.at5 m) fun c5 hc5 => i_lenF hc5 ?_⟩
    rw [List.length_map]
    refine ⟨_, rfl, by omega, by omega, ?_⟩
    rw [Int.toNat_natCast]
    refine i_lcFr (K := K) (walk_range (lo := 0) (n := m.cls.length)) ((List.range m.cls.length).map fun k => cpD (m.nm, k)) (by simp) (line5' (by omega)) (fun _ _ => trivial) (fun _ _ _ _ y => y.1) (fun i x H5 Q' dd hdd s5 hy qq => ?_) (fun D H5 ys hD s5 hD5 fD => ?_)
    · obtain ⟨_, rfl⟩ := hy
      rw [List.getElem?_map] at hdd
      cases er : (List.range m.cls.length)[i]? with
      | none => rw [er] at hdd; cases hdd
      | some j =>
        rw [er] at hdd
        cases hdd
        obtain ⟨hi, hj⟩ := List.getElem?_eq_some_iff.mp er
        rw [List.getElem_range] at hj
        subst hj
        walk_at "rd"
        refine i_ixFs (i := 1) (fv4.up (.of s5)) (Md.at1 m) fun p hp => qq _ _ (same_new hp) (.tup (.inl upd_same) (.cons (.str _) (.cons ?_ .nil)))
        rw [Int.zero_add]
        exact .int _
    · have h3c := s5 _ _ h3''
      have fDl := fD.len
      rw [List.length_map, List.length_range] at fDl
      have tk2 : TupK H5 (upd H5 cl (.lst (ws ++ ys))) := TupK.mut h3c (fun _ h => nomatch h)
      have tkAll : TupK H (upd H5 cl (.lst (ws ++ ys))) := ((TupK.of s23).trans tk1).trans ((TupK.of s5).trans tk2)
      refine ⟨cl, D, ws, ys, rfl, rfl, h3c, hD5, line5 (by omega), q1 _ ⟨⟨dx, ?_⟩, ⟨us ++ [v], ?_, ?_⟩, ⟨ws ++ ys, upd_same, ?_⟩⟩ ?_ tkAll⟩
      · rw [upd_ne nac]; exact s5 _ _ h1''
      · rw [upd_ne nmc]; exact s5 _ _ h2''
      · rw [List.map_append]
        exact (f2.up tkAll).app (.cons (fv.up tkAll) .nil)
      · have : clsOf (ms ++ [m]) = clsOf ms ++ (List.range m.cls.length).map fun k => (m.nm, k) := by unfold clsOf; rw [List.flatMap_append, List.flatMap_singleton]
        rw [this, List.map_append, List.map_map]
        exact (f3.up tkAll).app (fD.up tk2)
      · exact ((Kp.of s23).trans k1).trans ((Kp.of s5).trans (Kp.set (by simp)))

/-! ### machine.py: what is never called here -/
def sp_Heap_read {K : PySem.W.Frag} {mg : Str → Option Value} (_ : Txt K mg) : Sp := fun _ _ _ _ => False
def sp_Heap_write {K : PySem.W.Frag} {mg : Str → Option Value} (_ : Txt K mg) : Sp := fun _ _ _ _ => False
def sp_Heap__temp {K : PySem.W.Frag} {mg : Str → Option Value} (_ : Txt K mg) : Sp := fun _ _ _ _ => False
def sp_Heap__words {K : PySem.W.Frag} {mg : Str → Option Value} (_ : Txt K mg) : Sp := fun _ _ _ _ => False
def sp_Machine_looks {K : PySem.W.Frag} {mg : Str → Option Value} (_ : Txt K mg) : Sp := fun _ _ _ _ => False
def sp_Machine__fits {K : PySem.W.Frag} {mg : Str → Option Value} (_ : Txt K mg) : Sp := fun _ _ _ _ => False
def sp_Machine__look {K : PySem.W.Frag} {mg : Str → Option Value} (_ : Txt K mg) : Sp := fun _ _ _ _ => False
def sp_Machine__refers {K : PySem.W.Frag} {mg : Str → Option Value} (_ : Txt K mg) : Sp := fun _ _ _ _ => False
def sp_Machine__transact {K : PySem.W.Frag} {mg : Str → Option Value} (_ : Txt K mg) : Sp := fun _ _ _ _ => False
def sp_Machine__field {K : PySem.W.Frag} {mg : Str → Option Value} (_ : Txt K mg) : Sp := fun _ _ _ _ => False
def sp_Machine__reach {K : PySem.W.Frag} {mg : Str → Option Value} (_ : Txt K mg) : Sp := fun _ _ _ _ => False
def sp_Machine__make {K : PySem.W.Frag} {mg : Str → Option Value} (_ : Txt K mg) : Sp := fun _ _ _ _ => False
def sp_Machine__typed {K : PySem.W.Frag} {mg : Str → Option Value} (_ : Txt K mg) : Sp := fun _ _ _ _ => False
/-! ### machine.py: frames and machines -/
inductive Ins where
  | const (i : Int)
  | load (k : Nat)
  | store (k : Nat)
  | step
  | pop
  | throw
  | neg
  | not
  | op (s : Str)
  | jump (k : Nat)
  | jumpif (k : Nat)
  | jumpnot (k : Nat)
  | callc (k r : Nat)
  | ret
  | retv
def Ins.nm : Ins → Str
  | .const _ => "const"
  | .load _ => "load"
  | .store _ => "store"
  | .step => "step"
  | .pop => "pop"
  | .throw => "throw"
  | .neg => "neg"
  | .not => "not"
  | .op _ => "op"
  | .jump _ => "jump"
  | .jumpif _ => "jumpif"
  | .jumpnot _ => "jumpnot"
  | .callc _ _ => "callc"
  | .ret => "return"
  | .retv => "returnv"
def Ins.args : Ins → List PyData
  | .const i => [.int i]
  | .load k => [.int k]
  | .store k => [.int k]
  | .op s => [.str s]
  | .jump k => [.int k]
  | .jumpif k => [.int k]
  | .jumpnot k => [.int k]
  | .callc k r => [.int k, .int r]
  | _ => []
def Ins.d (i : Ins) : PyData := .tuple (.str i.nm :: i.args)
/-- a frame without its places in the heap -/
structure Pf where
  pk : Str
  nm : Nat
  code : List Ins
  hds : List (Nat × Nat × Nat)
  owner : Int
  place : Nat
  slots : List Int
  stack : List Int
structure Fm where
  f : Addr
  sl : Addr
  st : Addr
  p : Pf
def hdD (h : Nat × Nat × Nat) : PyData := .tuple [.int h.1, .int h.2.1, .int h.2.2]
def ffs (F : Fm) (cv hv : V) : List (Str × V) := [("package", .str F.p.pk), ("number", .int F.p.nm), ("code", cv), ("handlers", hv), ("slots", .ref F.sl), ("owner", .int F.p.owner), ("place", .int F.p.place), ("stack", .ref F.st)]
structure FrAt (T : Txt K mg) (H : Hp) (F : Fm) : Prop where
  ob : ∃ dx cv hv, H F.f = some (.ins T.c_Frame dx (ffs F cv hv)) ∧ Fr K H cv (.tuple (F.p.code.map Ins.d)) ∧ Fr K H hv (.tuple (F.p.hds.map hdD))
  sl : H F.sl = some (.lst (intsV F.p.slots))
  st : H F.st = some (.lst (intsV F.p.stack))
def Fm.own (F : Fm) : List Addr := [F.f, F.sl, F.st]
structure MA where
  a : Addr
  fl : Addr
  h : Addr
  j : Addr
  wa : Addr
  nd : Addr
  sk : V
def mfs (A : MA) (steps : Nat) (res : V) : List (Str × V) := [("_world", .ref A.wa), ("_heap", .ref A.h), ("_journal", .ref A.j), ("_seek", A.sk), ("_needless", .ref A.nd), ("_frames", .ref A.fl), ("_steps", .int steps), ("_looks", .int 0), ("_result", res)]
def ownM (A : MA) (fs : List Fm) : List Addr := A.a :: A.fl :: fs.flatMap Fm.own
structure MS (T : Txt K mg) (H : Hp) (A : MA) (fs : List Fm) (steps : Nat) (res : V) : Prop where
  ob : ∃ dx, H A.a = some (.ins T.c_Machine dx (mfs A steps res))
  fl : H A.fl = some (.lst (fs.map fun F => V.ref F.f))
  fm : ∀ F ∈ fs, FrAt T H F
  nd : (ownM A fs).Nodup
/-- what is owned moves, all else stays -/
structure Mo (H : Hp) (X : List Addr) (H' : Hp) (X' : List Addr) : Prop where
  mv : Mvs H X H' X'
  tk : TupK H H'
theorem Mo.refl {H : Hp} {X : List Addr} : Mo H X H X := ⟨.refl, .refl _⟩
theorem Mo.trans {H H1 H2 : Hp} {X X1 X2 : List Addr} (a : Mo H X H1 X1) (b : Mo H1 X1 H2 X2) : Mo H X H2 X2 := ⟨a.mv.trans b.mv, a.tk.trans b.tk⟩
theorem Mo.same {H H1 : Hp} {X : List Addr} (s : Same H H1) : Mo H X H1 X := ⟨.same s, .of s⟩
theorem FrAt.keep {T : Txt K mg} {H H' : Hp} {F : Fm} {X : List Addr} (h : FrAt T H F) (k : Kp X H H') (t : TupK H H') (n : ∀ x ∈ F.own, x ∉ X) : FrAt T H' F := by
  obtain ⟨dx, cv, hv, ho, hc, hh⟩ := h.ob
  exact ⟨⟨dx, cv, hv, k _ _ (n _ (by simp [Fm.own])) ho, hc.up t, hh.up t⟩, k _ _ (n _ (by simp [Fm.own])) h.sl, k _ _ (n _ (by simp [Fm.own])) h.st⟩
theorem FrAt.same {T : Txt K mg} {H H' : Hp} {F : Fm} (h : FrAt T H F) (s : Same H H') : FrAt T H' F := h.keep (Kp.of s (X := [])) (.of s) (by simp)
theorem FrAt.some {T : Txt K mg} {H : Hp} {F : Fm} (h : FrAt T H F) : ∀ x ∈ F.own, ∃ o, H x = some o := by
  obtain ⟨dx, cv, hv, ho, _, _⟩ := h.ob
  intro x hx
  simp [Fm.own] at hx
  rcases hx with rfl | rfl | rfl
  · exact ⟨_, ho⟩
  · exact ⟨_, h.sl⟩
  · exact ⟨_, h.st⟩
theorem MS.same {T : Txt K mg} {H H' : Hp} {A : MA} {fs : List Fm} {n : Nat} {res : V} (h : MS T H A fs n res) (s : Same H H') : MS T H' A fs n res := by
  obtain ⟨dx, ho⟩ := h.ob
  exact ⟨⟨dx, s _ _ ho⟩, s _ _ h.fl, fun F hF => (h.fm F hF).same s, h.nd⟩
theorem nd_app {X Y : List Addr} : (X ++ Y).Nodup ↔ X.Nodup ∧ Y.Nodup ∧ ∀ x ∈ X, x ∉ Y := by
  rw [List.nodup_append]
  exact ⟨fun ⟨a, b, c⟩ => ⟨a, b, fun x hx hy => c x hx x hy rfl⟩, fun ⟨a, b, c⟩ => ⟨a, b, fun x hx y hy e => c x hx (e ▸ hy)⟩⟩
theorem ownM_top {A : MA} {fs : List Fm} {F : Fm} : ownM A (fs ++ [F]) = ownM A fs ++ F.own := by
  unfold ownM
  rw [List.flatMap_append, List.flatMap_singleton]; rfl
/-- the frame on the top changes -/
theorem MS.top {T : Txt K mg} {H H' : Hp} {A : MA} {fs : List Fm} {F F' : Fm} {n : Nat} {res : V} (h : MS T H A (fs ++ [F]) n res) (k : Kp F.own H H') (t : TupK H H') (hf : FrAt T H' F') (ef : F'.f = F.f) (hn : F'.own.Nodup) (hw : ∀ x ∈ F'.own, x ∈ F.own ∨ H x = none) :
    MS T H' A (fs ++ [F']) n res ∧ Mo H (ownM A (fs ++ [F])) H' (ownM A (fs ++ [F'])) := by
  have nd := h.nd
  rw [ownM_top] at nd
  obtain ⟨n1, n2, n3⟩ := nd_app.mp nd
  obtain ⟨dx, ho⟩ := h.ob
  have na : A.a ∉ F.own := n3 _ (by simp [ownM])
  have nl : A.fl ∉ F.own := n3 _ (by simp [ownM])
  have old : ∀ x ∈ ownM A fs, ∃ o, H x = some o := fun x hx => by
    rcases List.mem_cons.mp hx with rfl | hx
    · exact ⟨_, ho⟩
    rcases List.mem_cons.mp hx with rfl | hx
    · exact ⟨_, h.fl⟩
    · obtain ⟨G, hG, hx⟩ := List.mem_flatMap.mp hx
      exact (h.fm G (List.mem_append_left _ hG)).some x hx
  refine ⟨⟨⟨dx, k _ _ na ho⟩, ?_, fun G hG => ?_, ?_⟩, ⟨k.mono ?_, fun x hx => ?_⟩, t⟩
  · have := k _ _ nl h.fl
    rw [this, List.map_append, List.map_append, List.map_singleton, List.map_singleton, ef]
  · rcases List.mem_append.mp hG with hG | hG
    · refine (h.fm G (List.mem_append_left _ hG)).keep k t fun x hx => n3 x ?_
      exact List.mem_cons_of_mem _ (List.mem_cons_of_mem _ (List.mem_flatMap.mpr ⟨G, hG, hx⟩))
    · rw [List.mem_singleton.mp hG]; exact hf
  · rw [ownM_top]
    refine nd_app.mpr ⟨n1, hn, fun x hx hy => ?_⟩
    rcases hw x hy with h2 | h2
    · exact n3 x hx h2
    · obtain ⟨o, e⟩ := old x hx
      rw [h2] at e; cases e
  · intro x hx
    rw [ownM_top]; exact List.mem_append_right _ hx
  · rw [ownM_top] at hx ⊢
    rcases List.mem_append.mp hx with hx | hx
    · exact .inl (List.mem_append_left _ hx)
    · exact (hw x hx).imp (List.mem_append_right _) id
/-- the object itself changes -/
theorem MS.obj {T : Txt K mg} {H : Hp} {A : MA} {fs : List Fm} {n n' : Nat} {res res' : V} {dx : Addr} (h : MS T H A fs n res) :
    MS T (upd H A.a (.ins T.c_Machine dx (mfs A n' res'))) A fs n' res' ∧ Mo H (ownM A fs) (upd H A.a (.ins T.c_Machine dx (mfs A n' res'))) (ownM A fs) := by
  obtain ⟨d0, ho⟩ := h.ob
  have nd := h.nd
  have n1 := (List.nodup_cons.mp nd).1
  have k : Kp [A.a] H (upd H A.a (.ins T.c_Machine dx (mfs A n' res'))) := Kp.set (by simp)
  have t : TupK H (upd H A.a (.ins T.c_Machine dx (mfs A n' res'))) := TupK.mut ho (fun _ h => nomatch h)
  refine ⟨⟨⟨dx, upd_same⟩, k _ _ (fun e => n1 (by rw [← List.mem_singleton.mp e]; simp)) h.fl, fun F hF => (h.fm F hF).keep k t fun x hx e => ?_, nd⟩, ⟨k.mono (by simp [ownM]), fun _ h => .inl h⟩, t⟩
  rw [List.mem_singleton.mp e] at hx
  exact n1 (List.mem_cons_of_mem _ (List.mem_flatMap.mpr ⟨F, hF, hx⟩))
def sp_Machine__step {K : PySem.W.Frag} {mg : Str → Option Value} (T : Txt K mg) : Sp := fun vs H Q E => ∃ (A : MA) (fs : List Fm) (n : Nat) (res : V), vs = [.ref A.a] ∧ MS T H A fs n res ∧ n ≤ 1000 ∧
  (n = 1000 → E (.ref T.c_StepsGone) none H) ∧ (n ≠ 1000 → ∀ H', MS T H' A fs (n + 1) res → Mo H (ownM A fs) H' (ownM A fs) → Q .non H')
theorem ok_Machine__step (T : Txt K mg) : FnOk P w K mg base (L2N.CX P w) 1 T.f_Machine__step T.d_Machine__step ["self"] (sp_Machine__step T) := by
  refine okXN T.k_Machine__step sc_Machine__step (fun vs H Q E h => ?_) (fun cdv A outer s H vs Q E hr h => ?_)
  · obtain ⟨A, fs, n, res, rfl, _⟩ := h
    rfl
  · obtain ⟨A, fs, n, res, rfl, h, hn, q1, q2⟩ := h
    refine ⟨_, (pss_cons (ps_if (pt_cmpR op_eq (pe_fldK K (pv 0) rfl) (pe_glob (v := .int _) rfl T.g_MOST_STEPS ⟨_, rfl⟩) (nomark _)) (pss_one (L2N.ps_raise rfl (L2N.takes_of rfl rfl rfl rfl) (pmkN_own0 PySem.F.excBase_ValueError T.x_StepsGone.x T.g_StepsGone T.x_StepsGone.kp (raises_own T.x_StepsGone.be T.x_StepsGone.ty) (by exact rfl)))) pss_nil)
      (pss_one (ps_fldaugK K (pv 0) pe_int in_add))), ?_⟩
    obtain ⟨dx, ho⟩ := h.ob
    walk_at "rd"
    refine rdSeq ?_
    walk_at "rd"
    refine i_fld T.cl_Machine T.nf_Machine_steps ho rfl ⟨rfl, ite2 (fun e => ?_) (fun e => ?_)⟩
    · exact q1 (by have := V.int.inj e; omega)
    · have hn2 : n ≠ 1000 := fun k => e (by rw [k]; rfl)
      refine i_fldA T.cl_Machine T.nf_Machine_steps ho rfl ?_
      walk_at "rd"
      obtain ⟨h2, m2⟩ := h.obj (n' := n + 1) (res' := res) (dx := dx)
      exact ⟨dx, _, ho, (show 9 < 1000 by decide), q2 hn2 _ h2 m2⟩
theorem MS.pop {T : Txt K mg} {H : Hp} {A : MA} {fs : List Fm} {F : Fm} {n : Nat} {res : V} (h : MS T H A (fs ++ [F]) n res) :
    MS T (upd H A.fl (.lst (fs.map fun F => V.ref F.f))) A fs n res ∧ Mo H (ownM A (fs ++ [F])) (upd H A.fl (.lst (fs.map fun F => V.ref F.f))) (ownM A fs) := by
  have nd := h.nd
  have ndc := nd
  rw [ownM_top] at nd
  obtain ⟨n1, n2, n3⟩ := nd_app.mp nd
  obtain ⟨dx, ho⟩ := h.ob
  have k : Kp [A.fl] H (upd H A.fl (.lst (fs.map fun F => V.ref F.f))) := Kp.set (by simp)
  have t : TupK H (upd H A.fl (.lst (fs.map fun F => V.ref F.f))) := TupK.mut h.fl (fun _ h => nomatch h)
  have na : A.a ≠ A.fl := fun e => (List.nodup_cons.mp n1).1 (by rw [e]; simp)
  have n4 := (List.nodup_cons.mp (List.nodup_cons.mp n1).2).1
  refine ⟨⟨⟨dx, k _ _ (by simpa using na) ho⟩, upd_same, fun G hG => (h.fm G (List.mem_append_left _ hG)).keep k t fun x hx e => ?_, n1⟩, ⟨k.mono (by simp [ownM]), fun x hx => .inl ?_⟩, t⟩
  · rw [List.mem_singleton.mp e] at hx
    exact n4 (List.mem_flatMap.mpr ⟨G, hG, hx⟩)
  · rw [ownM_top]; exact List.mem_append_left _ hx
theorem last_at {α : Type} {l : List α} {x : α} : (l ++ [x])[(l ++ [x]).length - 1]? = some x := by
  rw [List.length_append, List.length_singleton, Nat.add_sub_cancel, List.getElem?_append_right (Nat.le_refl _), Nat.sub_self]; rfl
/-- the values that a frame below gets -/
def Pf.fed (p : Pf) (ws : List Int) : Pf := { p with stack := p.stack ++ ws, place := p.place + 1 }
def resOf (ws : List Int) : V := match ws with
  | [] => .non
  | i :: _ => .int i
def sp_Machine__leave {K : PySem.W.Frag} {mg : Str → Option Value} (T : Txt K mg) : Sp := fun vs H Q _ => ∃ (A : MA) (fs : List Fm) (F : Fm) (n : Nat) (res : V) (lv : Addr) (ws : List Int), vs = [.ref A.a, .ref lv] ∧ MS T H A (fs ++ [F]) n res ∧ H lv = some (.lst (intsV ws)) ∧ lv ∉ ownM A (fs ++ [F]) ∧ ws.length ≤ 1 ∧
  (fs = [] → ∀ H', MS T H' A [] n (resOf ws) → Mo H (ownM A (fs ++ [F])) H' (ownM A []) → Q .non H') ∧
  (∀ gs G, fs = gs ++ [G] → G.p.stack.length ≤ 1000 ∧ ∀ H', MS T H' A (gs ++ [⟨G.f, G.sl, G.st, G.p.fed ws⟩]) n res → Mo H (ownM A (fs ++ [F])) H' (ownM A (gs ++ [⟨G.f, G.sl, G.st, G.p.fed ws⟩])) → Q .non H')
theorem ok_Machine__leave (T : Txt K mg) : FnOk P w K mg base CX0 1 T.f_Machine__leave T.d_Machine__leave ["self", "values"] (sp_Machine__leave T) := by
  refine T.k_Machine__leave.ok sc_Machine__leave (fun vs H Q E h => ?_) (fun cdv A outer s H vs Q E hr h => ?_)
  · obtain ⟨A, fs, F, n, res, lv, ws, rfl, _⟩ := h
    rfl
  · obtain ⟨A, fs, F, n, res, lv, ws, rfl, h, hlv, nlv, hw, q1, q2⟩ := h
    refine ⟨_, (pss_cons (ps_expr (pe_bm0K K PySem.F.plainAttrs_list PySem.F.slot_list_pop PySem.F.type_list_pop mt_pop (pe_fldK K (pv 0) rfl)))
      (pss_one (ps_if (pt_cmpR (op_nilEq hr.units) (pe_fldK K (pv 0) rfl) (pe_lst pa_nil) (nomark _)) (pss_one (ps_fldK K (pv 0) (pe_ifExp (pt_cmpR (op_nilNe hr.units) (pv 1) (pe_lst pa_nil) (nomark _)) (pe_ix (ix_listK K) (pv 1) pe_int (fun _ _ => rfl)) pe_non) rfl)) (pss_cons (ps_set (i := 2) sc_Machine__leave.nd rfl (.inl rfl) (pe_ix (ix_listK K) (pe_fldK K (pv 0) rfl) (pe_un un_neg pe_int) (fun _ _ => rfl)))
      (pss_cons (ps_expr (pe_bmK K PySem.F.plainAttrs_list PySem.F.slot_list_extend PySem.F.type_list_extend mt_extend (pe_fldK K (pv 2) rfl) (pa_cons (pv 1) pa_nil)))
      (pss_one (ps_fldaugK K (pv 2) pe_int in_add))))))), ?_⟩
    obtain ⟨dx, ho⟩ := h.ob
    walk_at "rd"
    refine rdSeq ?_
    walk_at "rd"
    have hfl := h.fl
    rw [List.map_append, List.map_singleton] at hfl
    obtain ⟨h2, m2⟩ := h.pop
    have hlv2 := m2.mv.kp lv _ nlv hlv
    refine i_fld T.cl_Machine T.nf_Machine_frames ho rfl ⟨.inl ⟨rfl, _, sqL_of hfl⟩, A.fl, _, _, rfl, rfl, hfl, last_at, ?_⟩
    rw [List.dropLast_concat]
    generalize upd H A.fl (.lst (fs.map fun F => V.ref F.f)) = H2 at *
    obtain ⟨dx2, ho2⟩ := h2.ob
    refine i_fld T.cl_Machine T.nf_Machine_frames ho2 rfl fun p hp => ?_
    have sp := same_new (o := .lst []) hp
    have h3 := h2.same sp
    have m3 := m2.trans (Mo.same sp)
    have hlv3 := sp _ _ hlv2
    refine i_nil (sqL_of h3.fl) (sqL_of upd_same) ?_
    have ho3 := sp _ _ ho2
    generalize upd H2 p (.lst []) = H3 at *
    refine ⟨_, rfl, ite2 (fun e => ?_) (fun e => ?_)⟩
    · have e0 : fs = [] := by simpa using e
      subst e0
      have q1 := q1 rfl
      simp only [tIf]
      walk_at "rd"
      intro p4 hp4
      have s4 := same_new (o := .lst []) hp4
      have hlv4 := s4 _ _ hlv3
      have h4 := h3.same s4
      refine i_nil (sqL_of hlv4) (sqL_of upd_same) ?_
      have m4 := m3.trans (Mo.same s4)
      have ho4 := s4 _ _ ho3
      generalize upd H3 p4 (.lst []) = H4 at *
      obtain ⟨h5, m5⟩ := h4.obj (n' := n) (res' := resOf ws) (dx := dx2)
      have m5 := m4.trans m5
      refine ⟨_, rfl, ite2 (fun e => ?_) (fun e => ?_)⟩
      · cases ws with
        | nil => simp [intsV] at e
        | cons w0 ws =>
          refine i_ixL (sqL_of hlv4) (v := .int w0) (atI_nat (j := 0) rfl) ⟨A.a, T.c_Machine, dx2, _, rfl, ho4, T.cl_Machine, T.nf_Machine_result, (show 9 < 1000 by decide), ?_⟩
          exact q1 _ h5 m5
      · cases ws with
        | nil => exact ⟨A.a, T.c_Machine, dx2, _, rfl, ho4, T.cl_Machine, T.nf_Machine_result, (show 9 < 1000 by decide), q1 _ h5 m5⟩
        | cons w0 ws => simp [intsV] at e
    · obtain ⟨gs, G, rfl⟩ : ∃ gs G, fs = gs ++ [G] := by
        rcases List.eq_nil_or_concat fs with e2 | ⟨gs, G, e2⟩
        · exact absurd (by simp [e2]) e
        · exact ⟨gs, G, by simpa using e2⟩
      obtain ⟨hst, q2⟩ := q2 gs G rfl
      have hG := h3.fm G (by simp)
      obtain ⟨dg, cv, hv, hoG, hcv, hhv⟩ := hG.ob
      have hfl3 := h3.fl
      rw [List.map_append, List.map_singleton] at hfl3
      refine rdSeq ?_
      walk_at "rd"
      refine i_fld T.cl_Machine T.nf_Machine_frames ho3 rfl (i_ixL (sqL_of hfl3) (atI_last _ _) ?_)
      refine rdSeq ?_
      walk_at "rd"
      have l1 : (intsV G.p.stack).length = G.p.stack.length := by unfold intsV; rw [List.length_map]
      have l2 : (intsV ws).length = ws.length := by unfold intsV; rw [List.length_map]
      refine i_fld T.cl_Frame T.nf_Frame_stack hoG rfl ⟨.inl ⟨rfl, _, sqL_of hG.st⟩, G.st, lv, _, _, rfl, rfl, hG.st, hlv3, line5 (by omega), ?_⟩
      have nd3 := h3.nd
      rw [ownM_top] at nd3
      obtain ⟨_, nG, _⟩ := nd_app.mp nd3
      have ng : G.f ≠ G.sl ∧ G.f ≠ G.st ∧ G.sl ≠ G.st := by
        simp [Fm.own] at nG
        exact ⟨nG.1.1, nG.1.2, nG.2⟩
      have hoG4 : upd H3 G.st (.lst (intsV G.p.stack ++ intsV ws)) G.f = _ := (upd_ne ng.2.1).trans hoG
      refine i_fldA T.cl_Frame T.nf_Frame_place hoG4 rfl ?_
      walk_at "rd"
      refine ⟨dg, _, hoG4, (show 8 < 1000 by decide), ?_⟩
      have k4 : Kp G.own H3 (upd H3 G.st (.lst (intsV G.p.stack ++ intsV ws))) := Kp.set (by simp [Fm.own])
      have k5 : Kp G.own (upd H3 G.st (.lst (intsV G.p.stack ++ intsV ws))) (upd (upd H3 G.st (.lst (intsV G.p.stack ++ intsV ws))) G.f (.ins T.c_Frame dg (putF (Str.ofString "place") (.int ((G.p.place : Int) + 1)) (ffs G cv hv)))) := Kp.set (by simp [Fm.own])
      have t4 : TupK H3 (upd H3 G.st (.lst (intsV G.p.stack ++ intsV ws))) := TupK.mut hG.st (fun _ h => nomatch h)
      have t5 := t4.trans (TupK.mut (o := .ins T.c_Frame dg (putF (Str.ofString "place") (.int ((G.p.place : Int) + 1)) (ffs G cv hv))) hoG4 (fun _ h => nomatch h))
      have hF : FrAt T (upd (upd H3 G.st (.lst (intsV G.p.stack ++ intsV ws))) G.f (.ins T.c_Frame dg (putF (Str.ofString "place") (.int ((G.p.place : Int) + 1)) (ffs G cv hv)))) ⟨G.f, G.sl, G.st, G.p.fed ws⟩ := by
        refine ⟨⟨dg, cv, hv, by rw [upd_same]; rfl, hcv.up t5, hhv.up t5⟩, ?_, ?_⟩
        · show upd _ _ _ G.sl = _
          rw [upd_ne ng.1.symm, upd_ne ng.2.2]
          exact hG.sl
        · show upd _ _ _ G.st = some (HO.lst (intsV (G.p.stack ++ ws)))
          rw [upd_ne ng.2.1.symm, upd_same]
          unfold intsV
          rw [List.map_append]
      obtain ⟨h6, m6⟩ := h3.top (F' := ⟨G.f, G.sl, G.st, G.p.fed ws⟩) (k4.trans k5) t5 hF rfl nG (fun x hx => .inl hx)
      exact q2 _ h6 (m3.trans m6)
/-- the top frame goes to another place, its stack changes -/
def Fm.put (F : Fm) (place : Nat) (stack : List Int) : Fm := ⟨F.f, F.sl, F.st, { F.p with place := place, stack := stack }⟩
theorem MS.own3 {T : Txt K mg} {H : Hp} {A : MA} {fs : List Fm} {F : Fm} {n : Nat} {res : V} (h : MS T H A (fs ++ [F]) n res) : F.own.Nodup ∧ F.f ≠ F.sl ∧ F.f ≠ F.st ∧ F.sl ≠ F.st := by
  have nd := h.nd
  rw [ownM_top] at nd
  obtain ⟨_, nG, _⟩ := nd_app.mp nd
  have nG2 := nG
  simp [Fm.own] at nG2
  exact ⟨nG, nG2.1.1, nG2.1.2, nG2.2⟩
theorem MS.topF {T : Txt K mg} {H : Hp} {A : MA} {fs : List Fm} {F : Fm} {n : Nat} {res : V} (h : MS T H A (fs ++ [F]) n res) : FrAt T H F := h.fm F (by simp)
/-- the stack is set -/
theorem MS.setSt {T : Txt K mg} {H : Hp} {A : MA} {fs : List Fm} {F : Fm} {n : Nat} {res : V} (h : MS T H A (fs ++ [F]) n res) (xs : List Int) :
    MS T (upd H F.st (.lst (intsV xs))) A (fs ++ [F.put F.p.place xs]) n res ∧ Mo H (ownM A (fs ++ [F])) (upd H F.st (.lst (intsV xs))) (ownM A (fs ++ [F.put F.p.place xs])) := by
  obtain ⟨nG, n1, n2, n3⟩ := h.own3
  have hG := h.topF
  obtain ⟨dg, cv, hv, hoG, hcv, hhv⟩ := hG.ob
  have t4 : TupK H (upd H F.st (.lst (intsV xs))) := TupK.mut hG.st (fun _ h => nomatch h)
  refine h.top (Kp.set (by simp [Fm.own])) t4 ⟨⟨dg, cv, hv, (upd_ne n2).trans hoG, hcv.up t4, hhv.up t4⟩, (upd_ne n3).trans hG.sl, upd_same⟩ rfl nG (fun x hx => .inl hx)
/-- the place is set -/
theorem MS.setPl {T : Txt K mg} {H : Hp} {A : MA} {fs : List Fm} {F : Fm} {n : Nat} {res : V} {dg : Addr} {cv hv : V} (h : MS T H A (fs ++ [F]) n res) (ho : H F.f = some (.ins T.c_Frame dg (ffs F cv hv))) (hcv : Fr K H cv (.tuple (F.p.code.map Ins.d))) (hhv : Fr K H hv (.tuple (F.p.hds.map hdD))) (k : Nat) :
    MS T (upd H F.f (.ins T.c_Frame dg (ffs (F.put k F.p.stack) cv hv))) A (fs ++ [F.put k F.p.stack]) n res ∧ Mo H (ownM A (fs ++ [F])) (upd H F.f (.ins T.c_Frame dg (ffs (F.put k F.p.stack) cv hv))) (ownM A (fs ++ [F.put k F.p.stack])) := by
  obtain ⟨nG, n1, n2, n3⟩ := h.own3
  have hG := h.topF
  have t4 : TupK H (upd H F.f (.ins T.c_Frame dg (ffs (F.put k F.p.stack) cv hv))) := TupK.mut ho (fun _ h => nomatch h)
  refine h.top (Kp.set (by simp [Fm.own])) t4 ⟨⟨dg, cv, hv, upd_same, hcv.up t4, hhv.up t4⟩, (upd_ne n1.symm).trans hG.sl, (upd_ne n2.symm).trans hG.st⟩ rfl nG (fun x hx => .inl hx)
def jmpTo (i : Ins) (place : Nat) (stack : List Int) : Option (Nat × List Int) := match i with
  | .jump k => some (k, stack)
  | .jumpif k => match stack.getLast? with
    | some v => some (if v ≠ 0 then k else place + 1, stack.dropLast)
    | none => none
  | .jumpnot k => match stack.getLast? with
    | some v => some (if v ≠ 0 then place + 1 else k, stack.dropLast)
    | none => none
  | _ => none
def sp_Machine__jump {K : PySem.W.Frag} {mg : Str → Option Value} (T : Txt K mg) : Sp := fun vs H Q _ => ∃ (A : MA) (fs : List Fm) (F : Fm) (n : Nat) (res : V) (iv : V) (i : Ins) (k : Nat) (st : List Int), vs = [.ref A.a, .ref F.f, iv] ∧ MS T H A (fs ++ [F]) n res ∧ Fr K H iv i.d ∧ jmpTo i F.p.place F.p.stack = some (k, st) ∧
  ∀ H', MS T H' A (fs ++ [F.put k st]) n res → Mo H (ownM A (fs ++ [F])) H' (ownM A (fs ++ [F.put k st])) → Q .non H'
theorem ok_Machine__jump (T : Txt K mg) : FnOk P w K mg base (L2N.CX P w) 1 T.f_Machine__jump T.d_Machine__jump ["self", "frame", "instruction"] (sp_Machine__jump T) := by
  refine okXN T.k_Machine__jump sc_Machine__jump (fun vs H Q E h => ?_) (fun cdv A outer s H vs Q E hr h => ?_)
  · obtain ⟨A, fs, F, n, res, iv, i, k, st, rfl, _⟩ := h
    rfl
  · obtain ⟨A, fs, F, n, res, iv, i, k, st, rfl, h, hi, hj, q⟩ := h
    refine ⟨_, (pss_cons (ps_asg (pv 2) (pg_tup rfl (pgs_cons (pg_name (i := 3) sc_Machine__jump.nd rfl (Or.inl rfl)) (pgs_cons (pg_name (i := 4) sc_Machine__jump.nd rfl (Or.inl rfl)) pgs_nil))))
      (C8.pss_cut (ps_if (PW.pt (pw_and (pt_cmpR op_ne (pv 3) pe_str (nomark _)) (pw_and1 (pt_cmpR op_ne (pe_cmpR op_ne (pe_bm0K K PySem.F.plainAttrs_list PySem.F.slot_list_pop PySem.F.type_list_pop mt_pop (pe_fldK K (pv 1) rfl)) pe_int (nomark _)) (pe_cmpR op_eq (pv 3) pe_str (nomark _)) (nomark _))))) (pss_one (ps_set (i := 4) sc_Machine__jump.nd rfl (.inl rfl) (pe_op op_add (pe_fldK K (pv 1) rfl) pe_int))) pss_nil)
      (pss_one (ps_fldK K (pv 1) (pv 4) rfl)))), ?_⟩
    walk_at "rd"
    refine rdSeq ?_
    walk_at "rd"
    have hG := h.topF
    obtain ⟨dg, cv, hv, hoG, hcv, hhv⟩ := hG.ob
    have fin : ∀ H2, MS T H2 A (fs ++ [F.put F.p.place st]) n res → Mo H (ownM A (fs ++ [F])) H2 (ownM A (fs ++ [F.put F.p.place st])) → ∀ x3, sFld K (tVar 1) (tVar 4) (Str.ofString "place") { nx := fun x H' => Q V.non H', rt := Q } [some (.ref A.a), some (.ref F.f), some iv, x3, some (.int (k : Nat))] H2 := fun H2 h2 m2 x3 => by
      obtain ⟨d2, cv2, hv2, ho2, hc2, hh2⟩ := h2.topF.ob
      have ho2 : H2 F.f = _ := ho2
      walk_at "rd"
      refine i_fldS T.cl_Frame T.nf_Frame_place ho2 (show 8 < 1000 by decide) ?_
      obtain ⟨h3, m3⟩ := h2.setPl (dg := d2) ho2 hc2 hh2 k
      exact q _ h3 (m2.trans m3)
    have pop : ∀ v, F.p.stack.getLast? = some v → (intsV F.p.stack)[(intsV F.p.stack).length - 1]? = some (.int v) ∧ (intsV F.p.stack).dropLast = intsV F.p.stack.dropLast := fun v hv => by
      unfold intsV
      refine ⟨?_, by rw [List.map_dropLast]⟩
      rw [List.getElem?_map, List.length_map]
      rw [List.getLast?_eq_getElem?] at hv
      rw [hv]; rfl
    cases i with
    | jump k2 =>
      cases hj
      obtain ⟨t, xs, rfl, sq, fl⟩ := hi.inv
      cases fl with | cons f1 fl => ?_
      cases fl with | cons f2 fl => ?_
      cases fl
      cases f1
      cases f2
      refine i_gTup2 rfl sq.sq ?_
      refine rdCut (fun σ' H' => MS T H' A (fs ++ [F.put F.p.place F.p.stack]) n res ∧ Mo H (ownM A (fs ++ [F])) H' (ownM A (fs ++ [F.put F.p.place F.p.stack])) ∧ ∃ x3, σ' = [some (.ref A.a), some (.ref F.f), some (.ref t), x3, some (.int (k : Nat))]) ?_ ?_
      · walk_at "rd"
        exact i_else (by rw [decide_eq_true (show (Ins.jump k).nm = Str.ofString "jump" from rfl)]; decide) ⟨h, Mo.refl⟩
      · rintro σ' H2 ⟨h2, m2, x3, rfl⟩
        exact fin H2 h2 m2 x3
    | jumpif k2 =>
      have hj0 : (match F.p.stack.getLast? with | some v => some (if v ≠ 0 then k2 else F.p.place + 1, F.p.stack.dropLast) | none => none) = some (k, st) := hj
      cases hl : F.p.stack.getLast? with
      | none => rw [hl] at hj0; cases hj0
      | some v =>
        rw [hl] at hj0
        have hk : (if v ≠ 0 then k2 else F.p.place + 1) = k := congrArg Prod.fst (Option.some.inj hj0)
        have hs : F.p.stack.dropLast = st := congrArg Prod.snd (Option.some.inj hj0)
        subst hs
        obtain ⟨p1, p2⟩ := pop v hl
        obtain ⟨t, xs, rfl, sq, fl⟩ := hi.inv
        cases fl with | cons f1 fl => ?_
        cases fl with | cons f2 fl => ?_
        cases fl
        cases f1
        cases f2
        refine i_gTup2 rfl sq.sq ?_
        refine rdCut (fun σ' H' => MS T H' A (fs ++ [F.put F.p.place F.p.stack.dropLast]) n res ∧ Mo H (ownM A (fs ++ [F])) H' (ownM A (fs ++ [F.put F.p.place F.p.stack.dropLast])) ∧ ∃ x3, σ' = [some (.ref A.a), some (.ref F.f), some (.ref t), x3, some (.int (k : Nat))]) ?_ ?_
        · walk_at "rd"
          refine i_then (by rw [decide_eq_false (show ¬ (Ins.jumpif k2).nm = Str.ofString "jump" from (by decide +kernel : ¬ Str.ofString "jumpif" = Str.ofString "jump"))]; decide) ?_
          refine i_fld T.cl_Frame T.nf_Frame_stack hoG rfl ⟨.inl ⟨rfl, _, sqL_of hG.st⟩, F.st, _, _, rfl, rfl, hG.st, p1, ?_⟩
          rw [p2]
          obtain ⟨h2, m2⟩ := h.setSt F.p.stack.dropLast
          have ho2 : upd H F.st (.lst (intsV F.p.stack.dropLast)) F.f = _ := (upd_ne h.own3.2.2.1).trans hoG
          generalize upd H F.st (.lst (intsV F.p.stack.dropLast)) = H2 at *
          refine ⟨rfl, ?_⟩
          by_cases hv : v = 0
          · subst hv
            refine i_then (by rw [decide_eq_true (show (Ins.jumpif k2).nm = Str.ofString "jumpif" from rfl)]; simp) ?_
            rw [if_neg (by simp)] at hk
            exact i_fld T.cl_Frame T.nf_Frame_place ho2 rfl ⟨_, rfl, h2, m2, by rw [← hk]; rfl⟩
          · refine i_else (by rw [decide_eq_true (show (Ins.jumpif k2).nm = Str.ofString "jumpif" from rfl)]; simp [hv]) ?_
            rw [if_pos hv] at hk
            exact ⟨h2, m2, by rw [hk]⟩
        · rintro σ' H2 ⟨h2, m2, x3, rfl⟩
          exact fin H2 h2 m2 x3
    | jumpnot k2 =>
      have hj0 : (match F.p.stack.getLast? with | some v => some (if v ≠ 0 then F.p.place + 1 else k2, F.p.stack.dropLast) | none => none) = some (k, st) := hj
      cases hl : F.p.stack.getLast? with
      | none => rw [hl] at hj0; cases hj0
      | some v =>
        rw [hl] at hj0
        have hk : (if v ≠ 0 then F.p.place + 1 else k2) = k := congrArg Prod.fst (Option.some.inj hj0)
        have hs : F.p.stack.dropLast = st := congrArg Prod.snd (Option.some.inj hj0)
        subst hs
        obtain ⟨p1, p2⟩ := pop v hl
        obtain ⟨t, xs, rfl, sq, fl⟩ := hi.inv
        cases fl with | cons f1 fl => ?_
        cases fl with | cons f2 fl => ?_
        cases fl
        cases f1
        cases f2
        refine i_gTup2 rfl sq.sq ?_
        refine rdCut (fun σ' H' => MS T H' A (fs ++ [F.put F.p.place F.p.stack.dropLast]) n res ∧ Mo H (ownM A (fs ++ [F])) H' (ownM A (fs ++ [F.put F.p.place F.p.stack.dropLast])) ∧ ∃ x3, σ' = [some (.ref A.a), some (.ref F.f), some (.ref t), x3, some (.int (k : Nat))]) ?_ ?_
        · walk_at "rd"
          refine i_then (by rw [decide_eq_false (show ¬ (Ins.jumpnot k2).nm = Str.ofString "jump" from (by decide +kernel : ¬ Str.ofString "jumpnot" = Str.ofString "jump"))]; decide) ?_
          refine i_fld T.cl_Frame T.nf_Frame_stack hoG rfl ⟨.inl ⟨rfl, _, sqL_of hG.st⟩, F.st, _, _, rfl, rfl, hG.st, p1, ?_⟩
          rw [p2]
          obtain ⟨h2, m2⟩ := h.setSt F.p.stack.dropLast
          have ho2 : upd H F.st (.lst (intsV F.p.stack.dropLast)) F.f = _ := (upd_ne h.own3.2.2.1).trans hoG
          generalize upd H F.st (.lst (intsV F.p.stack.dropLast)) = H2 at *
          refine ⟨rfl, ?_⟩
          by_cases hv : v = 0
          · subst hv
            refine i_else (by rw [decide_eq_false (show ¬ (Ins.jumpnot k2).nm = Str.ofString "jumpif" from (by decide +kernel : ¬ Str.ofString "jumpnot" = Str.ofString "jumpif"))]; simp) ?_
            rw [if_neg (by simp)] at hk
            exact ⟨h2, m2, by rw [hk]⟩
          · refine i_then (by rw [decide_eq_false (show ¬ (Ins.jumpnot k2).nm = Str.ofString "jumpif" from (by decide +kernel : ¬ Str.ofString "jumpnot" = Str.ofString "jumpif"))]; simp [hv]) ?_
            rw [if_pos hv] at hk
            exact i_fld T.cl_Frame T.nf_Frame_place ho2 rfl ⟨_, rfl, h2, m2, by rw [← hk]; rfl⟩
        · rintro σ' H2 ⟨h2, m2, x3, rfl⟩
          exact fin H2 h2 m2 x3
    | _ => cases hj
/-! #### words -/
def reckI (i : Ins) (st : List Int) : Option (List Int) := match i, st.getLast? with
  | .neg, some r => match opV (Str.ofString "-") 0 r with
    | .int x => some (st.dropLast ++ [x])
    | _ => none
  | .not, some r => some (st.dropLast ++ [if r = 0 then 1 else 0])
  | .op s, some r => match st.dropLast.getLast? with
    | some l => match opV s l r with
      | .int x => some (st.dropLast.dropLast ++ [x])
      | _ => none
    | none => none
  | _, _ => none
theorem pop_at {st : List Int} {v : Int} (h : st.getLast? = some v) : (intsV st)[(intsV st).length - 1]? = some (.int v) ∧ (intsV st).dropLast = intsV st.dropLast ∧ v ∈ st := by
  refine ⟨?_, by unfold intsV; rw [List.map_dropLast], List.mem_of_getLast? h⟩
  unfold intsV
  rw [List.getElem?_map, List.length_map]
  rw [List.getLast?_eq_getElem?] at h
  rw [h]; rfl
theorem ints_app {xs : List Int} {x : Int} : intsV xs ++ [V.int x] = intsV (xs ++ [x]) := by unfold intsV; rw [List.map_append]; rfl
def sp_Machine__reckon {K : PySem.W.Frag} {mg : Str → Option Value} (T : Txt K mg) : Sp := fun vs H Q _ => ∃ (A : MA) (fs : List Fm) (F : Fm) (n : Nat) (res : V) (iv : V) (i : Ins) (st : List Int), vs = [.ref A.a, .ref F.st, iv] ∧ MS T H A (fs ++ [F]) n res ∧ Fr K H iv i.d ∧ reckI i F.p.stack = some st ∧ (∀ x ∈ F.p.stack, Wrd x) ∧ F.p.stack.length ≤ 1000 ∧
  ∀ H', MS T H' A (fs ++ [F.put F.p.place st]) n res → Mo H (ownM A (fs ++ [F])) H' (ownM A (fs ++ [F.put F.p.place st])) → Q .non H'
theorem ok_Machine__reckon (T : Txt K mg) : FnOk P w K mg base (L2N.CX P w) 3 T.f_Machine__reckon T.d_Machine__reckon ["self", "stack", "instruction"] (sp_Machine__reckon T) := by
  refine okXN T.k_Machine__reckon sc_Machine__reckon (fun vs H Q E h => ?_) (fun cdv A outer s H vs Q E hr h => ?_)
  · obtain ⟨A, fs, F, n, res, iv, i, st, rfl, _⟩ := h
    rfl
  · obtain ⟨A, fs, F, n, res, iv, i, st, rfl, h, hi, hj, hw, hlen, q⟩ := h
    refine ⟨_, (pss_cons (ps_set (i := 3) sc_Machine__reckon.nd rfl (.inl rfl) (pe_ix (ix_tupK K) (pv 2) pe_int (fun _ _ => rfl)))
      (pss_cons (ps_set (i := 4) sc_Machine__reckon.nd rfl (.inl rfl) (pe_bm0K K PySem.F.plainAttrs_list PySem.F.slot_list_pop PySem.F.type_list_pop mt_pop (pv 1)))
      (pss_one (ps_if (pt_cmpR op_eq (pv 3) pe_str (nomark _)) (pss_one (ps_expr (pe_bmK K PySem.F.plainAttrs_list PySem.F.slot_list_append PySem.F.type_list_append mt_append (pv 1) (pa_cons (pe_call (ok_op T) (hr.mono (by decide)) (by rfl) T.g_op T.k_op.kp T.b_op .nil pass0 (pa_cons pe_str (pa_cons pe_int (pa_cons (pv 4) pa_nil)))) pa_nil)))) (pss_one (ps_if (pt_cmpR op_eq (pv 3) pe_str (nomark _)) (pss_one (ps_expr (pe_bmK K PySem.F.plainAttrs_list PySem.F.slot_list_append PySem.F.type_list_append mt_append (pv 1) (pa_cons (pe_callTy call_intI (by rfl) T.m_int (by decide +kernel) (pa_cons (pe_cmpR op_eq (pv 4) pe_int (nomark _)) pa_nil)) pa_nil)))) (pss_one (ps_if (pt_cmpR op_eq (pv 3) pe_str (nomark _)) (pss_one (ps_expr (pe_bmK K PySem.F.plainAttrs_list PySem.F.slot_list_append PySem.F.type_list_append mt_append (pv 1) (pa_cons (pe_callTy call_intI (by rfl) T.m_int (by decide +kernel) (pa_cons (pe_cmpR op_eq (pe_bm0K K PySem.F.plainAttrs_list PySem.F.slot_list_pop PySem.F.type_list_pop mt_pop (pv 1)) (pv 4) (nomark _)) pa_nil)) pa_nil)))) (pss_cons (ps_set (i := 5) sc_Machine__reckon.nd rfl (.inl rfl) (pe_call (ok_op T) (hr.mono (by decide)) (by rfl) T.g_op T.k_op.kp T.b_op .nil pass0 (pa_cons (pe_ix (ix_tupK K) (pv 2) pe_int (fun _ _ => rfl)) (pa_cons (pe_bm0K K PySem.F.plainAttrs_list PySem.F.slot_list_pop PySem.F.type_list_pop mt_pop (pv 1)) (pa_cons (pv 4) pa_nil)))))
      (pss_cons (ps_if (pt_cmpR op_isN (pv 5) pe_non (nomark _)) (pss_one (L2N.ps_raise rfl (L2N.takes_of rfl rfl rfl rfl) (pmkN_oex T.ox_Fault T.in_Fault T.ti_Fault (ok_Fault_init T) (hr.mono (by decide)) T.b_Fault_init .nil pass0 rfl T.g_Fault (pa_cons (pe_glob (v := .int _) rfl T.g_DIVIDED ⟨_, rfl⟩) pa_nil)))) pss_nil)
      (pss_one (ps_expr (pe_bmK K PySem.F.plainAttrs_list PySem.F.slot_list_append PySem.F.type_list_append mt_append (pv 1) (pa_cons (pv 5) pa_nil)))))))))))))), ?_⟩
    walk_at "rd"
    refine rdSeq ?_
    walk_at "rd"
    refine i_ixFs (i := 0) (s := i.nm) hi rfl ?_
    refine rdSeq ?_
    have hst := h.topF.st
    cases hl : F.p.stack.getLast? with
    | none =>
      unfold reckI at hj
      rw [hl] at hj
      cases i <;> cases hj
    | some r =>
      obtain ⟨p1, p2, p3⟩ := pop_at hl
      walk_at "rd"
      refine ⟨.inl ⟨rfl, _, sqL_of hst⟩, F.st, _, _, rfl, rfl, hst, p1, ?_⟩
      rw [p2]
      obtain ⟨h2, m2⟩ := h.setSt F.p.stack.dropLast
      have hwr := hw r p3
      have hdl : F.p.stack.dropLast.length ≤ 1000 := by rw [List.length_dropLast]; omega
      generalize upd H F.st (.lst (intsV F.p.stack.dropLast)) = H2 at *
      have fin : ∀ (H3 : Hp) (xs : List Int) (x : Int), MS T H3 A (fs ++ [F.put F.p.place xs]) n res → Mo H (ownM A (fs ++ [F])) H3 (ownM A (fs ++ [F.put F.p.place xs])) → xs.length ≤ 1000 → xs ++ [x] = st → rAppend (.ref F.st) [.int x] H3 fun _ H4 => Q .non H4 := fun H3 xs x h3 m3 hx e => by
        have h3s : H3 F.st = some (.lst (intsV xs)) := h3.topF.st
        refine i_app h3s (line5' (by unfold intsV; rw [List.length_map]; omega)) ?_
        rw [ints_app, e]
        obtain ⟨h4, m4⟩ := h3.setSt st
        exact q _ h4 (m3.trans m4)
      have wrd0 : Wrd 0 := by unfold Wrd; omega
      have h2s : H2 F.st = some (.lst (intsV F.p.stack.dropLast)) := h2.topF.st
      have ty : tyV K "list" (V.ref F.st) H2 := .inl ⟨rfl, _, sqL_of h2s⟩
      cases i with
      | neg =>
        have e : (match opV (Str.ofString "-") 0 r with | .int x => some (F.p.stack.dropLast ++ [x]) | _ => none) = some st := by
          have e := hj
          unfold reckI at e
          rw [hl] at e
          exact e
        refine ite2 (fun _ => ⟨ty, Str.ofString "-", 0, r, rfl, wrd0, hwr, fun H3 s3 => ?_⟩) (fun k => absurd rfl k)
        cases ho : opV (Str.ofString "-") 0 r with
        | int x =>
          rw [ho] at e
          exact fin H3 _ x (h2.same s3) (m2.trans (.same s3)) hdl (Option.some.inj e)
        | _ => rw [ho] at e; cases e
      | not =>
        have e : some (F.p.stack.dropLast ++ [if r = 0 then 1 else 0]) = some st := by
          have e := hj
          unfold reckI at e
          rw [hl] at e
          exact e
        refine ite2 (fun k => absurd k (by decide +kernel : ¬ Str.ofString "not" = Str.ofString "neg")) (fun _ => ite2 (fun _ => ⟨ty, rfl, ?_⟩) (fun k => absurd rfl k))
        have er : (if V.int r = V.int 0 then (1 : Int) else 0) = if r = 0 then 1 else 0 := by
          by_cases h0 : r = 0
          · rw [if_pos h0, if_pos (by rw [h0])]
          · rw [if_neg h0, if_neg (fun k => h0 (V.int.inj k))]
        rw [er]
        exact fin H2 _ _ h2 m2 hdl (Option.some.inj e)
      | op s2 =>
        have e : (match F.p.stack.dropLast.getLast? with | some l => (match opV s2 l r with | .int x => some (F.p.stack.dropLast.dropLast ++ [x]) | _ => none) | none => none) = some st := by
          have e := hj
          unfold reckI at e
          rw [hl] at e
          exact e
        refine ite2 (fun k => absurd k (by decide +kernel : ¬ Str.ofString "op" = Str.ofString "neg")) (fun _ => ite2 (fun k => absurd k (by decide +kernel : ¬ Str.ofString "op" = Str.ofString "not")) (fun _ => ite2 (fun k => absurd k (by decide +kernel : ¬ Str.ofString "op" = Str.ofString "same")) (fun _ => ?_)))
        cases hl2 : F.p.stack.dropLast.getLast? with
        | none => rw [hl2] at e; cases e
        | some l =>
          rw [hl2] at e
          have e : (match opV s2 l r with | .int x => some (F.p.stack.dropLast.dropLast ++ [x]) | _ => none) = some st := e
          obtain ⟨p4, p5, p6⟩ := pop_at hl2
          have hwl := hw l ((List.dropLast_sublist _).subset p6)
          refine rdSeq ?_
          walk_at "rd"
          refine i_ixFs (i := 1) (hi.up m2.tk) rfl ⟨ty, F.st, _, _, rfl, rfl, h2s, p4, ?_⟩
          rw [p5]
          obtain ⟨h3, m3⟩ := h2.setSt F.p.stack.dropLast.dropLast
          have m3 := m2.trans m3
          have hd2 : F.p.stack.dropLast.dropLast.length ≤ 1000 := by rw [List.length_dropLast]; omega
          have h3 : MS T (upd H2 F.st (.lst (intsV F.p.stack.dropLast.dropLast))) A (fs ++ [F.put F.p.place F.p.stack.dropLast.dropLast]) n res := h3
          have h3s : upd H2 F.st (.lst (intsV F.p.stack.dropLast.dropLast)) F.st = some (.lst (intsV F.p.stack.dropLast.dropLast)) := upd_same
          have e3 : (F.put F.p.place F.p.stack.dropLast).st = F.st := rfl
          rw [e3] at m3
          generalize upd H2 F.st (.lst (intsV F.p.stack.dropLast.dropLast)) = H3 at *
          refine ⟨s2, l, r, rfl, hwl, hwr, fun H4 s4 => ?_⟩
          cases ho : opV s2 l r with
          | int x =>
            rw [ho] at e
            refine rdSeq ?_
            walk_at "rd"
            refine ⟨.inl ⟨rfl, _, sqL_of (s4 _ _ h3s)⟩, ?_⟩
            exact fin H4 _ x (h3.same s4) (m3.trans (.same s4)) hd2 (Option.some.inj e)
          | _ => rw [ho] at e; cases e
      | _ =>
        unfold reckI at hj
        rw [hl] at hj
        cases hj
/-! #### work -/
def Fm.putS (F : Fm) (slots stack : List Int) : Fm := ⟨F.f, F.sl, F.st, { F.p with slots := slots, stack := stack }⟩
theorem MS.setSl {T : Txt K mg} {H : Hp} {A : MA} {fs : List Fm} {F : Fm} {n : Nat} {res : V} (h : MS T H A (fs ++ [F]) n res) (xs : List Int) :
    MS T (upd H F.sl (.lst (intsV xs))) A (fs ++ [F.putS xs F.p.stack]) n res ∧ Mo H (ownM A (fs ++ [F])) (upd H F.sl (.lst (intsV xs))) (ownM A (fs ++ [F.putS xs F.p.stack])) := by
  obtain ⟨nG, n1, n2, n3⟩ := h.own3
  have hG := h.topF
  obtain ⟨dg, cv, hv, hoG, hcv, hhv⟩ := hG.ob
  have t4 : TupK H (upd H F.sl (.lst (intsV xs))) := TupK.mut hG.sl (fun _ h => nomatch h)
  exact h.top (Kp.set (by simp [Fm.own])) t4 ⟨⟨dg, cv, hv, (upd_ne n1).trans hoG, hcv.up t4, hhv.up t4⟩, upd_same, (upd_ne n3.symm).trans hG.st⟩ rfl nG (fun x hx => .inl hx)
def workI (i : Ins) (sl st : List Int) : Option (List Int × List Int) := match i with
  | .const x => some (sl, st ++ [x])
  | .load k => (sl[k]?).map fun v => (sl, st ++ [v])
  | .store k => match st.getLast? with
    | some v => if k < sl.length then some (sl.set k v, st.dropLast) else none
    | none => none
  | .pop => match st.getLast? with
    | some _ => some (sl, st.dropLast)
    | none => none
  | .neg => (reckI .neg st).map fun s => (sl, s)
  | .not => (reckI .not st).map fun s => (sl, s)
  | .op s => (reckI (.op s) st).map fun s => (sl, s)
  | _ => none
theorem ixN_lt {n k : Nat} (h : k < n) : ixN n (k : Int) = some k := by
  unfold ixN
  simp
  omega
theorem ifN {p : Prop} [Decidable p] {A B : Prop} (h : ¬ p) (b : B) : if p then A else B := by rw [if_neg h]; exact b
theorem ifY {p : Prop} [Decidable p] {A B : Prop} (h : p) (a : A) : if p then A else B := by rw [if_pos h]; exact a
def sp_Machine__work {K : PySem.W.Frag} {mg : Str → Option Value} (T : Txt K mg) : Sp := fun vs H Q E => ∃ (A : MA) (fs : List Fm) (F : Fm) (n : Nat) (res : V) (iv : V) (i : Ins), vs = [.ref A.a, .ref F.f, iv] ∧ MS T H A (fs ++ [F]) n res ∧ Fr K H iv i.d ∧ (∀ x ∈ F.p.stack, Wrd x) ∧ F.p.stack.length ≤ 1000 ∧ n ≤ 1000 ∧
  ((∃ sl st, workI i F.p.slots F.p.stack = some (sl, st) ∧ ∀ H', MS T H' A (fs ++ [F.putS sl st]) n res → Mo H (ownM A (fs ++ [F])) H' (ownM A (fs ++ [F.putS sl st])) → Q .non H') ∨
   (i = .step ∧ (n = 1000 → E (.ref T.c_StepsGone) none H) ∧ (n ≠ 1000 → ∀ H', MS T H' A (fs ++ [F]) (n + 1) res → Mo H (ownM A (fs ++ [F])) H' (ownM A (fs ++ [F])) → Q .non H')) ∨
   (i = .throw ∧ ∃ v, F.p.stack.getLast? = some v ∧ ∀ H' dx, MS T H' A (fs ++ [F.put F.p.place F.p.stack.dropLast]) n res → Mo H (ownM A (fs ++ [F])) H' (ownM A (fs ++ [F.put F.p.place F.p.stack.dropLast])) → H' dx = none → E (.ref T.c_Fault) (some dx) (upd H' dx (.xd [("code", .int v)]))))
theorem ok_Machine__work (T : Txt K mg) : FnOk P w K mg base (L2N.CX P w) 8 T.f_Machine__work T.d_Machine__work ["self", "frame", "instruction"] (sp_Machine__work T) := by
  refine okXN T.k_Machine__work sc_Machine__work (fun vs H Q E h => ?_) (fun cdv A outer s H vs Q E hr h => ?_)
  · obtain ⟨A, fs, F, n, res, iv, i, rfl, _⟩ := h
    rfl
  · obtain ⟨A, fs, F, n, res, iv, i, rfl, h, hi, hw, hlen, hn, q⟩ := h
    refine ⟨_, (pss_cons (ps_set (i := 3) sc_Machine__work.nd rfl (.inl rfl) (pe_ix (ix_tupK K) (pv 2) pe_int (fun _ _ => rfl)))
      (pss_cons (ps_set (i := 4) sc_Machine__work.nd rfl (.inl rfl) (pe_fldK K (pv 1) rfl))
      (pss_one (ps_if (pt_cmpR op_eq (pv 3) pe_str (nomark _)) (pss_one (ps_expr (pe_bmK K PySem.F.plainAttrs_list PySem.F.slot_list_append PySem.F.type_list_append mt_append (pv 4) (pa_cons (pe_ix (ix_tupK K) (pv 2) pe_int (fun _ _ => rfl)) pa_nil)))) (pss_one (ps_if (pt_cmpR op_eq (pv 3) pe_str (nomark _)) (pss_one (ps_expr (pe_bmK K PySem.F.plainAttrs_list PySem.F.slot_list_append PySem.F.type_list_append mt_append (pv 4) (pa_cons pe_int pa_nil)))) (pss_one (ps_if (pt_cmpR op_eq (pv 3) pe_str (nomark _)) (pss_one (ps_expr (pe_bmK K PySem.F.plainAttrs_list PySem.F.slot_list_append PySem.F.type_list_append mt_append (pv 4) (pa_cons (pe_ix (ix_listK K) (pe_fldK K (pv 1) rfl) (pe_ix (ix_tupK K) (pv 2) pe_int (fun _ _ => rfl)) (fun _ _ => rfl)) pa_nil)))) (pss_one (ps_if (pt_cmpR op_eq (pv 3) pe_str (nomark _)) (pss_one (ps_asg (pe_bm0K K PySem.F.plainAttrs_list PySem.F.slot_list_pop PySem.F.type_list_pop mt_pop (pv 4)) (pg_sub (pe_fldK K (pv 1) rfl) (pe_ix (ix_tupK K) (pv 2) pe_int (fun _ _ => rfl)) set_list))) (pss_one (ps_if (pt_cmpR op_eq (pv 3) pe_str (nomark _)) (pss_one (ps_expr (pe_bm0K K PySem.F.plainAttrs_list PySem.F.slot_list_pop PySem.F.type_list_pop mt_pop (pv 4)))) (pss_one (ps_if (pt_cmpR op_eq (pv 3) pe_str (nomark _)) (pss_one (ps_expr (pe_bmK K PySem.F.plainAttrs_list PySem.F.slot_list_append PySem.F.type_list_append mt_append (pv 4) (pa_cons (pe_glob (v := .int _) rfl T.g_BUFFER ⟨_, rfl⟩) pa_nil)))) (pss_one (ps_if (pt_cmpR op_eq (pv 3) pe_str (nomark _)) (pss_one (ps_expr (pe_meth0S (pv 0) T.cl_Machine T.me_Machine__step (ok_Machine__step T) (hr.mono (by decide)) T.b_Machine__step (fun σ => L2N.passAt (L2N.takes_of rfl rfl rfl rfl) σ)))) (pss_one (ps_if (pt_cmpR op_eq (pv 3) pe_str (nomark _)) (pss_one (L2N.ps_raise rfl (L2N.takes_of rfl rfl rfl rfl) (pmkN_oex T.ox_Fault T.in_Fault T.ti_Fault (ok_Fault_init T) (hr.mono (by decide)) T.b_Fault_init .nil pass0 rfl T.g_Fault (pa_cons (pe_bm0K K PySem.F.plainAttrs_list PySem.F.slot_list_pop PySem.F.type_list_pop mt_pop (pv 4)) pa_nil)))) (pss_one (ps_if (pt_cmpR (in_seqK K) (pv 3) (pe_tup (pa_cons pe_str (pa_cons pe_str (pa_cons pe_str (pa_cons pe_str pa_nil))))) rfl) (pss_one (ps_expr (pe_methS (pv 0) T.cl_Machine T.me_Machine__reckon (ok_Machine__reckon T) (hr.mono (by decide)) T.b_Machine__reckon (fun σ => L2N.passAt (L2N.takes_of rfl rfl rfl rfl) σ) (pa_cons (pv 4) (pa_cons (pv 2) pa_nil))))) (pss_one (ps_if (pt_cmpR (in_seqK K) (pv 3) (pe_tup (pa_cons pe_str (pa_cons pe_str pa_nil))) rfl) (pss_one (ps_never)) (pss_one (ps_if (pt_cmpR (in_seqK K) (pv 3) (pe_tup (pa_cons pe_str (pa_cons pe_str (pa_cons pe_str pa_nil)))) rfl) (pss_one (ps_never)) (pss_one (ps_if (pt_cmpR (in_seqK K) (pv 3) (pe_tup (pa_cons pe_str (pa_cons pe_str (pa_cons pe_str pa_nil)))) rfl) (pss_one (ps_never)) (pss_one (ps_if (pt_cmpR (in_seqK K) (pv 3) (pe_tup (pa_cons pe_str (pa_cons pe_str (pa_cons pe_str pa_nil)))) rfl) (pss_one (ps_never)) (pss_one (ps_never)))))))))))))))))))))))))))))), ?_⟩
    walk_at "rd"
    refine rdSeq ?_
    walk_at "rd"
    refine i_ixFs (i := 0) (s := i.nm) hi rfl ?_
    refine rdSeq ?_
    walk_at "rd"
    have hG := h.topF
    obtain ⟨dg, cv, hv, hoG, hcv, hhv⟩ := hG.ob
    refine i_fld T.cl_Frame T.nf_Frame_stack hoG rfl ?_
    walk_at "rd"
    have hst := hG.st
    have hsl := hG.sl
    have ty : tyV K "list" (V.ref F.st) H := .inl ⟨rfl, _, sqL_of hst⟩
    have push : ∀ x : Int, (∀ H', MS T H' A (fs ++ [F.putS F.p.slots (F.p.stack ++ [x])]) n res → Mo H (ownM A (fs ++ [F])) H' (ownM A (fs ++ [F.putS F.p.slots (F.p.stack ++ [x])])) → Q .non H') → rAppend (.ref F.st) [.int x] H fun _ H1 => Q .non H1 := fun x k => by
      refine i_app hst (line5' (by unfold intsV; rw [List.length_map]; omega)) ?_
      rw [ints_app]
      obtain ⟨h4, m4⟩ := h.setSt (F.p.stack ++ [x])
      exact k _ h4 m4
    obtain ⟨dm, hom⟩ := h.ob
    rcases q with ⟨sl, st, hwk, q⟩ | ⟨rfl, q1, q2⟩ | ⟨rfl, v, hv, q⟩
    · cases i with
      | const x =>
        cases hwk
        exact (ifY rfl ⟨ty, i_ixFi (i := 1) hi rfl (push x q)⟩)
      | load k =>
        have e : (F.p.slots[k]?).map (fun v => (F.p.slots, F.p.stack ++ [v])) = some (sl, st) := hwk
        cases hk : F.p.slots[k]? with
        | none => rw [hk] at e; cases e
        | some v =>
          rw [hk] at e
          cases e
          exact (ifN (by decide +kernel : ¬ Str.ofString "load" = Str.ofString "const") (ifN (by decide +kernel : ¬ Str.ofString "load" = Str.ofString "null") (ifY rfl ⟨ty, i_fld T.cl_Frame T.nf_Frame_slots hoG rfl (i_ixFi (i := 1) hi rfl (i_ixL (sqL_of hsl) (atI_nat (j := k) (by unfold intsV; rw [List.getElem?_map, hk]; rfl)) (push v q)))⟩)))
      | store k =>
        have e : (match F.p.stack.getLast? with | some v => (if k < F.p.slots.length then some (F.p.slots.set k v, F.p.stack.dropLast) else none) | none => none) = some (sl, st) := hwk
        cases hl : F.p.stack.getLast? with
        | none => rw [hl] at e; cases e
        | some v =>
          rw [hl] at e
          have e : (if k < F.p.slots.length then some (F.p.slots.set k v, F.p.stack.dropLast) else none) = some (sl, st) := e
          by_cases hk : k < F.p.slots.length
          · rw [if_pos hk] at e
            cases e
            obtain ⟨p1, p2, p3⟩ := pop_at hl
            refine (ifN (by decide +kernel : ¬ Str.ofString "store" = Str.ofString "const") (ifN (by decide +kernel : ¬ Str.ofString "store" = Str.ofString "null") (ifN (by decide +kernel : ¬ Str.ofString "store" = Str.ofString "load") (ifY rfl ⟨ty, F.st, _, _, rfl, rfl, hst, p1, ?_⟩))))
            rw [p2]
            obtain ⟨h2, m2⟩ := h.setSt F.p.stack.dropLast
            have ho2 : upd H F.st (.lst (intsV F.p.stack.dropLast)) F.f = _ := (upd_ne h.own3.2.2.1).trans hoG
            generalize upd H F.st (.lst (intsV F.p.stack.dropLast)) = H2 at *
            have hsl2 : H2 F.sl = some (.lst (intsV F.p.slots)) := h2.topF.sl
            refine i_fld T.cl_Frame T.nf_Frame_slots ho2 rfl (i_ixFi (i := 1) (hi.up m2.tk) rfl (i_setL hsl2 (j := k) (ixN_lt (by unfold intsV; rw [List.length_map]; exact hk)) ?_))
            have es : (intsV F.p.slots).set k (V.int v) = intsV (F.p.slots.set k v) := by unfold intsV; rw [List.map_set]
            rw [es]
            obtain ⟨h3, m3⟩ := h2.setSl (F.p.slots.set k v)
            exact q _ h3 (m2.trans m3)
          · rw [if_neg hk] at e; cases e
      | pop =>
        have e : (match F.p.stack.getLast? with | some _ => some (F.p.slots, F.p.stack.dropLast) | none => none) = some (sl, st) := hwk
        cases hl : F.p.stack.getLast? with
        | none => rw [hl] at e; cases e
        | some v =>
          rw [hl] at e
          cases e
          obtain ⟨p1, p2, p3⟩ := pop_at hl
          refine (ifN (by decide +kernel : ¬ Str.ofString "pop" = Str.ofString "const") (ifN (by decide +kernel : ¬ Str.ofString "pop" = Str.ofString "null") (ifN (by decide +kernel : ¬ Str.ofString "pop" = Str.ofString "load") (ifN (by decide +kernel : ¬ Str.ofString "pop" = Str.ofString "store") (ifY rfl ⟨ty, F.st, _, _, rfl, rfl, hst, p1, ?_⟩)))))
          rw [p2]
          obtain ⟨h2, m2⟩ := h.setSt F.p.stack.dropLast
          exact q _ h2 m2
      | neg =>
        have e : (reckI (.neg) F.p.stack).map (fun s => (F.p.slots, s)) = some (sl, st) := hwk
        cases hr2 : reckI (.neg) F.p.stack with
        | none => rw [hr2] at e; cases e
        | some st2 =>
          rw [hr2] at e
          cases e
          refine (ifN (by decide +kernel : ¬ Str.ofString "neg" = Str.ofString "const") (ifN (by decide +kernel : ¬ Str.ofString "neg" = Str.ofString "null") (ifN (by decide +kernel : ¬ Str.ofString "neg" = Str.ofString "load") (ifN (by decide +kernel : ¬ Str.ofString "neg" = Str.ofString "store") (ifN (by decide +kernel : ¬ Str.ofString "neg" = Str.ofString "pop") (ifN (by decide +kernel : ¬ Str.ofString "neg" = Str.ofString "buffer") (ifN (by decide +kernel : ¬ Str.ofString "neg" = Str.ofString "step") (ifN (by decide +kernel : ¬ Str.ofString "neg" = Str.ofString "throw") ?_))))))))
          intro p hp
          have sp := same_new (o := .tup [V.str (Str.ofString "neg"), V.str (Str.ofString "not"), V.str (Str.ofString "op"), V.str (Str.ofString "same")]) hp
          refine i_inL (.inr (sqT_of upd_same)) rfl (by decide) ?_
          rw [if_neg (by decide)]
          refine ⟨_, rfl, ifY (by show inV (.str (Str.ofString "neg")) _ = true; decide +kernel) ?_⟩
          refine i_meth (sp _ _ hom) rfl ⟨A, fs, F, n, res, iv, .neg, st, rfl, h.same sp, hi.up (.of sp), hr2, hw, hlen, fun H' h' m' => q H' h' ((Mo.same sp).trans m')⟩
      | not =>
        have e : (reckI (.not) F.p.stack).map (fun s => (F.p.slots, s)) = some (sl, st) := hwk
        cases hr2 : reckI (.not) F.p.stack with
        | none => rw [hr2] at e; cases e
        | some st2 =>
          rw [hr2] at e
          cases e
          refine (ifN (by decide +kernel : ¬ Str.ofString "not" = Str.ofString "const") (ifN (by decide +kernel : ¬ Str.ofString "not" = Str.ofString "null") (ifN (by decide +kernel : ¬ Str.ofString "not" = Str.ofString "load") (ifN (by decide +kernel : ¬ Str.ofString "not" = Str.ofString "store") (ifN (by decide +kernel : ¬ Str.ofString "not" = Str.ofString "pop") (ifN (by decide +kernel : ¬ Str.ofString "not" = Str.ofString "buffer") (ifN (by decide +kernel : ¬ Str.ofString "not" = Str.ofString "step") (ifN (by decide +kernel : ¬ Str.ofString "not" = Str.ofString "throw") ?_))))))))
          intro p hp
          have sp := same_new (o := .tup [V.str (Str.ofString "neg"), V.str (Str.ofString "not"), V.str (Str.ofString "op"), V.str (Str.ofString "same")]) hp
          refine i_inL (.inr (sqT_of upd_same)) rfl (by decide) ?_
          rw [if_neg (by decide)]
          refine ⟨_, rfl, ifY (by show inV (.str (Str.ofString "not")) _ = true; decide +kernel) ?_⟩
          refine i_meth (sp _ _ hom) rfl ⟨A, fs, F, n, res, iv, .not, st, rfl, h.same sp, hi.up (.of sp), hr2, hw, hlen, fun H' h' m' => q H' h' ((Mo.same sp).trans m')⟩
      | op s2 =>
        have e : (reckI (.op s2) F.p.stack).map (fun s => (F.p.slots, s)) = some (sl, st) := hwk
        cases hr2 : reckI (.op s2) F.p.stack with
        | none => rw [hr2] at e; cases e
        | some st2 =>
          rw [hr2] at e
          cases e
          refine (ifN (by decide +kernel : ¬ Str.ofString "op" = Str.ofString "const") (ifN (by decide +kernel : ¬ Str.ofString "op" = Str.ofString "null") (ifN (by decide +kernel : ¬ Str.ofString "op" = Str.ofString "load") (ifN (by decide +kernel : ¬ Str.ofString "op" = Str.ofString "store") (ifN (by decide +kernel : ¬ Str.ofString "op" = Str.ofString "pop") (ifN (by decide +kernel : ¬ Str.ofString "op" = Str.ofString "buffer") (ifN (by decide +kernel : ¬ Str.ofString "op" = Str.ofString "step") (ifN (by decide +kernel : ¬ Str.ofString "op" = Str.ofString "throw") ?_))))))))
          intro p hp
          have sp := same_new (o := .tup [V.str (Str.ofString "neg"), V.str (Str.ofString "not"), V.str (Str.ofString "op"), V.str (Str.ofString "same")]) hp
          refine i_inL (.inr (sqT_of upd_same)) rfl (by decide) ?_
          rw [if_neg (by decide)]
          refine ⟨_, rfl, ifY (by show inV (.str (Str.ofString "op")) _ = true; decide +kernel) ?_⟩
          refine i_meth (sp _ _ hom) rfl ⟨A, fs, F, n, res, iv, .op s2, st, rfl, h.same sp, hi.up (.of sp), hr2, hw, hlen, fun H' h' m' => q H' h' ((Mo.same sp).trans m')⟩
      | _ => cases hwk
    · exact (ifN (by decide +kernel : ¬ Str.ofString "step" = Str.ofString "const") (ifN (by decide +kernel : ¬ Str.ofString "step" = Str.ofString "null") (ifN (by decide +kernel : ¬ Str.ofString "step" = Str.ofString "load") (ifN (by decide +kernel : ¬ Str.ofString "step" = Str.ofString "store") (ifN (by decide +kernel : ¬ Str.ofString "step" = Str.ofString "pop") (ifN (by decide +kernel : ¬ Str.ofString "step" = Str.ofString "buffer") (ifY rfl (i_meth hom rfl ⟨A, fs ++ [F], n, res, rfl, h, hn, q1, q2⟩))))))))
    · obtain ⟨p1, p2, p3⟩ := pop_at hv
      refine (ifN (by decide +kernel : ¬ Str.ofString "throw" = Str.ofString "const") (ifN (by decide +kernel : ¬ Str.ofString "throw" = Str.ofString "null") (ifN (by decide +kernel : ¬ Str.ofString "throw" = Str.ofString "load") (ifN (by decide +kernel : ¬ Str.ofString "throw" = Str.ofString "store") (ifN (by decide +kernel : ¬ Str.ofString "throw" = Str.ofString "pop") (ifN (by decide +kernel : ¬ Str.ofString "throw" = Str.ofString "buffer") (ifN (by decide +kernel : ¬ Str.ofString "throw" = Str.ofString "step") (ifY rfl ⟨ty, F.st, _, _, rfl, rfl, hst, p1, ?_⟩))))))))
      rw [p2]
      obtain ⟨h2, m2⟩ := h.setSt F.p.stack.dropLast
      exact i_mkO1 fun dx hdx => q _ dx h2 m2 hdx
/-! #### frames are made -/
structure CodeOf (mt : Mt) (code : List Ins) (hds : List (Nat × Nat × Nat)) : Prop where
  rest : ∃ most : Int, mt.rest = [.int most, .tuple (code.map Ins.d), .tuple (hds.map hdD)]
theorem CodeOf.at6 {mt : Mt} {code : List Ins} {hds : List (Nat × Nat × Nat)} (h : CodeOf mt code hds) : ((.int mt.k :: mt.h.ds ++ .tuple (mt.vars.map Kd.d) :: mt.rest) : List PyData)[6]? = some (.tuple (code.map Ins.d)) := by
  obtain ⟨most, e⟩ := h.rest
  rw [e]; rfl
theorem CodeOf.at7 {mt : Mt} {code : List Ins} {hds : List (Nat × Nat × Nat)} (h : CodeOf mt code hds) : ((.int mt.k :: mt.h.ds ++ .tuple (mt.vars.map Kd.d) :: mt.rest) : List PyData)[7]? = some (.tuple (hds.map hdD)) := by
  obtain ⟨most, e⟩ := h.rest
  rw [e]; rfl
def sp_Frame_init {K : PySem.W.Frag} {mg : Str → Option Value} (T : Txt K mg) : Sp := fun vs H Q _ => ∃ (x dx : Addr) (pk : Str) (nm : Nat) (mv : V) (sl : Addr) (owner : Int) (mt : Mt) (code : List Ins) (hds : List (Nat × Nat × Nat)), vs = [.ref x, .str pk, .int nm, mv, .ref sl, .int owner] ∧ H x = some (.ins T.c_Frame dx []) ∧ Fr K H mv mt.d ∧ CodeOf mt code hds ∧
  ∀ (st : Addr) (cv hv : V) H', H st = none → Fr K H' cv (.tuple (code.map Ins.d)) → Fr K H' hv (.tuple (hds.map hdD)) → Kp [x] H H' → H' x = some (.ins T.c_Frame dx [("package", .str pk), ("number", .int nm), ("code", cv), ("handlers", hv), ("slots", .ref sl), ("owner", .int owner), ("place", .int 0), ("stack", .ref st)]) → H' st = some (.lst []) → Q .non H'
theorem ok_Frame_init (T : Txt K mg) : FnOk P w K mg base CX0 1 T.f_Frame_init T.d_Frame_init ["self", "package", "number", "method", "slots", "owner"] (sp_Frame_init T) := by
  refine T.k_Frame_init.ok sc_Frame_init (fun vs H Q E h => ?_) (fun cdv A outer s H vs Q E hr h => ?_)
  · obtain ⟨x, dx, pk, nm, mv, sl, owner, mt, code, hds, rfl, _⟩ := h
    rfl
  · obtain ⟨x, dx, pk, nm, mv, sl, owner, mt, code, hds, rfl, hx, hm, hc, q⟩ := h
    refine ⟨_, (pss_cons (ps_fldK K (pv 0) (pv 1) rfl)
      (pss_cons (ps_fldK K (pv 0) (pv 2) rfl)
      (pss_cons (ps_fldK K (pv 0) (pe_ix (ix_tupK K) (pv 3) pe_int (fun _ _ => rfl)) rfl)
      (pss_cons (ps_fldK K (pv 0) (pe_ix (ix_tupK K) (pv 3) pe_int (fun _ _ => rfl)) rfl)
      (pss_cons (ps_fldK K (pv 0) (pv 4) rfl)
      (pss_cons (ps_fldK K (pv 0) (pv 5) rfl)
      (pss_cons (ps_fldK K (pv 0) pe_int rfl)
      (pss_one (ps_fldK K (pv 0) (pe_lst pa_nil) rfl))))))))), ?_⟩
    walk_at "rd"
    refine rdSeq ?_
    walk_at "rd"
    have tkx : ∀ fs : List (Str × V), TupK H (upd H x (.ins T.c_Frame dx fs)) := fun fs => TupK.mut hx (fun _ h => nomatch h)
    refine i_fldS T.cl_Frame T.nf_Frame_package hx (by decide) ?_
    refine rdSeq ?_
    walk_at "rd"
    refine i_fldS T.cl_Frame T.nf_Frame_number upd_same (show 1 < 1000 by decide) ?_
    rw [upd_upd]
    refine rdSeq ?_
    walk_at "rd"
    refine i_ixF (i := 6) (hm.up (tkx _)) hc.at6 fun cv hcv => ?_
    refine i_fldS T.cl_Frame T.nf_Frame_code upd_same (show 2 < 1000 by decide) ?_
    rw [upd_upd]
    refine rdSeq ?_
    walk_at "rd"
    refine i_ixF (i := 7) (hm.up (tkx _)) hc.at7 fun hv hhv => ?_
    refine i_fldS T.cl_Frame T.nf_Frame_handlers upd_same (show 3 < 1000 by decide) ?_
    rw [upd_upd]
    refine rdSeq ?_
    walk_at "rd"
    refine i_fldS T.cl_Frame T.nf_Frame_slots upd_same (show 4 < 1000 by decide) ?_
    rw [upd_upd]
    refine rdSeq ?_
    walk_at "rd"
    refine i_fldS T.cl_Frame T.nf_Frame_owner upd_same (show 5 < 1000 by decide) ?_
    rw [upd_upd]
    refine rdSeq ?_
    walk_at "rd"
    refine i_fldS T.cl_Frame T.nf_Frame_place upd_same (show 6 < 1000 by decide) ?_
    rw [upd_upd]
    walk_at "rd"
    intro st hst
    have nst : st ≠ x := fun e => by rw [e, upd_same] at hst; cases hst
    have hst0 : H st = none := by rwa [upd_ne nst] at hst
    refine i_fldS T.cl_Frame T.nf_Frame_stack ((upd_ne nst.symm).trans upd_same) (show 7 < 1000 by decide) ?_
    have tkf : ∀ (f1 f2 f3 : List (Str × V)), TupK (upd H x (.ins T.c_Frame dx f1)) (upd (upd (upd H x (.ins T.c_Frame dx f2)) st (.lst [])) x (.ins T.c_Frame dx f3)) := fun f1 f2 f3 p ys e => by
      have np : p ≠ x := fun k => by rw [k, upd_same] at e; cases e
      rw [upd_ne np] at e
      rw [upd_ne np, upd_ne (ne_of_none e hst0), upd_ne np]
      exact e
    refine q st cv hv _ hst0 (hcv.up (tkf _ _ _)) (hhv.up (tkf _ _ _)) (fun b o nb e => ?_) (by rw [upd_same]; rfl) (by rw [upd_ne nst, upd_same])
    have nb : b ≠ x := by simpa using nb
    rw [upd_ne nb, upd_ne (ne_of_none e hst0), upd_ne nb]
    exact e
theorem MS.some {T : Txt K mg} {H : Hp} {A : MA} {fs : List Fm} {n : Nat} {res : V} (h : MS T H A fs n res) : ∀ x ∈ ownM A fs, ∃ o, H x = some o := fun x hx => by
  obtain ⟨dx, ho⟩ := h.ob
  rcases List.mem_cons.mp hx with rfl | hx
  · exact ⟨_, ho⟩
  rcases List.mem_cons.mp hx with rfl | hx
  · exact ⟨_, h.fl⟩
  · obtain ⟨G, hG, hx⟩ := List.mem_flatMap.mp hx
    exact (h.fm G hG).some x hx
/-- a new frame on the top -/
theorem MS.push {T : Txt K mg} {H0 H : Hp} {A : MA} {fs : List Fm} {F : Fm} {n : Nat} {res : V} (h0 : MS T H0 A fs n res) (s : Same H0 H) (hF : FrAt T H F) (nF : F.own.Nodup) (hw : ∀ x ∈ F.own, H0 x = none) :
    MS T (upd H A.fl (.lst ((fs.map fun F => V.ref F.f) ++ [.ref F.f]))) A (fs ++ [F]) n res ∧ Mo H0 (ownM A fs) (upd H A.fl (.lst ((fs.map fun F => V.ref F.f) ++ [.ref F.f]))) (ownM A (fs ++ [F])) := by
  have h := h0.same s
  obtain ⟨dx, ho⟩ := h.ob
  have n1 := h.nd
  have na : A.a ≠ A.fl := fun e => (List.nodup_cons.mp n1).1 (by rw [e]; simp)
  have n4 := (List.nodup_cons.mp (List.nodup_cons.mp n1).2).1
  have k : Kp [A.fl] H (upd H A.fl (.lst ((fs.map fun F => V.ref F.f) ++ [.ref F.f]))) := Kp.set (by simp)
  have t : TupK H (upd H A.fl (.lst ((fs.map fun F => V.ref F.f) ++ [.ref F.f]))) := TupK.mut h.fl (fun _ h => nomatch h)
  have nfl : A.fl ∉ F.own := fun e => by
    have := hw _ e
    rw [h0.fl] at this; cases this
  refine ⟨⟨⟨dx, k _ _ (by simpa using na) ho⟩, by rw [upd_same, List.map_append]; rfl, fun G hG => ?_, ?_⟩, ⟨fun b o nb e => ?_, fun x hx => ?_⟩, (TupK.of s).trans t⟩
  · rcases List.mem_append.mp hG with hG | hG
    · refine (h.fm G hG).keep k t fun x hx e => ?_
      rw [List.mem_singleton.mp e] at hx
      exact n4 (List.mem_flatMap.mpr ⟨G, hG, hx⟩)
    · rw [List.mem_singleton.mp hG]
      exact hF.keep k t fun x hx e => nfl (by rw [← List.mem_singleton.mp e]; exact hx)
  · rw [ownM_top]
    refine nd_app.mpr ⟨n1, nF, fun x hx hy => ?_⟩
    obtain ⟨o, e⟩ := h0.some x hx
    rw [hw x hy] at e; cases e
  · exact k b o (by intro e2; exact nb (by rw [List.mem_singleton.mp e2]; simp [ownM])) (s b o e)
  · rw [ownM_top] at hx
    rcases List.mem_append.mp hx with hx | hx
    · exact .inl hx
    · exact .inr (hw x hx)
structure MN where
  md : Addr
  cl : Addr
  ws : List Md
  A : HA
  M : List (Nat × Ob)
structure EnvM (T : Txt K mg) (H : Hp) (A : MA) (N : MN) : Prop where
  wd : Wd K T.c_World H A.wa N.md N.cl N.ws
  hh : HoldX T H N.A N.M
  eh : N.A.h = A.h
theorem HoldX.same {T : Txt K mg} {H H' : Hp} {A : HA} {M : List (Nat × Ob)} (h : HoldX T H A M) (s : Same H H') : HoldX T H' A M := by
  obtain ⟨S, b, tm, f, pos, h⟩ := h
  exact ⟨S, b, tm, f, pos, h.same s⟩
theorem EnvM.same {T : Txt K mg} {H H' : Hp} {A : MA} {N : MN} (h : EnvM T H A N) (s : Same H H') : EnvM T H' A N := ⟨h.wd.same s, h.hh.same s, h.eh⟩
def newP (pk : Str) (nm : Nat) (code : List Ins) (hds : List (Nat × Nat × Nat)) (owner : Int) (slots : List Int) : Pf := ⟨pk, nm, code, hds, owner, 0, slots, []⟩
def sp_Machine__enter {K : PySem.W.Frag} {mg : Str → Option Value} (T : Txt K mg) : Sp := fun vs H Q _ => ∃ (A : MA) (fs : List Fm) (n : Nat) (res : V) (N : MN) (num g row : Nat) (lv : Addr) (ws : List Int) (m : Md) (k : Nat) (c : Cl) (r : Rw) (mt : Mt) (code : List Ins) (hds : List (Nat × Nat × Nat)) (o : Ob),
  vs = [.ref A.a, .int num, .int g, .int row, .ref lv] ∧ MS T H A fs n res ∧ EnvM T H A N ∧ H lv = some (.lst (intsV ws)) ∧ ws.length ≤ 1000 ∧ fs.length ≤ 1000 ∧ ClAt N.ws g m k c ∧ c.tb[row]? = some r ∧ m.mts[r.m]? = some mt ∧ CodeOf mt code hds ∧ mt.vars.length ≤ 1000 ∧ (num, o) ∈ N.M ∧
  ∀ H' F, F.p = newP m.nm r.m code hds o.owner ((num : Int) :: ws ++ List.replicate mt.vars.length 0) → MS T H' A (fs ++ [F]) n res → Mo H (ownM A fs) H' (ownM A (fs ++ [F])) → Q .non H'
theorem ok_Machine__enter (T : Txt K mg) : FnOk P w K mg base CX0 5 T.f_Machine__enter T.d_Machine__enter ["self", "number", "g", "row", "values"] (sp_Machine__enter T) := by
  refine T.k_Machine__enter.ok sc_Machine__enter (fun vs H Q E h => ?_) (fun cdv A0 outer s H vs Q E hr h => ?_)
  · obtain ⟨A, fs, n, res, N, num, g, row, lv, ws, m, k, c, r, mt, code, hds, o, rfl, _⟩ := h
    rfl
  · obtain ⟨A, fs, n, res, N, num, g, row, lv, ws, m, k, c, r, mt, code, hds, o, rfl, h, hE, hlv, hw, hf, hc, hr2, hmt, hcode, hvars, hob, q⟩ := h
    refine ⟨_, (pss_cons (ps_set (i := 5) sc_Machine__enter.nd rfl (.inl rfl) (pe_meth (pe_fldK K (pv 0) rfl) T.cl_World T.me_World_package (ok_World_package T) (hr.mono (by decide)) T.b_World_package .nil pass0 (pa_cons (pv 2) pa_nil)))
      (pss_cons (ps_set (i := 6) sc_Machine__enter.nd rfl (.inl rfl) (pe_meth (pe_fldK K (pv 0) rfl) T.cl_World T.me_World_method (ok_World_method T) (hr.mono (by decide)) T.b_World_method .nil pass0 (pa_cons (pv 2) (pa_cons (pv 3) pa_nil))))
      (pss_cons (ps_set (i := 7) sc_Machine__enter.nd rfl (.inl rfl) (pe_ix (ix_tupK K) (pe_ix (ix_tupK K) (pe_meth (pe_fldK K (pv 0) rfl) T.cl_World T.me_World_module (ok_World_module T) (hr.mono (by decide)) T.b_World_module .nil passL (pa_cons (pv 5) pa_nil)) pe_int (fun _ _ => rfl)) (pv 6) (fun _ _ => rfl)))
      (pss_cons (ps_set (i := 8) sc_Machine__enter.nd rfl (.inl rfl) (pe_op op_cat (pe_op op_cat (pe_lst (pa_cons (pv 1) pa_nil)) (pv 4)) (pe_op op_rep (pe_lst (pa_cons pe_int pa_nil)) (pe_callB (lenTK K) (by rfl) T.m_len (by decide +kernel) (pa_cons (pe_ix (ix_tupK K) (pv 7) pe_int (fun _ _ => rfl)) pa_nil)))))
      (pss_one (ps_expr (pe_bmK K PySem.F.plainAttrs_list PySem.F.slot_list_append PySem.F.type_list_append mt_append (pe_fldK K (pv 0) rfl) (pa_cons (pe_make T.mk_Frame (ok_Frame_init T) (hr.mono (by decide)) (by rfl) T.g_Frame T.b_Frame_init .nil pass0 (pa_cons (pv 5) (pa_cons (pv 6) (pa_cons (pv 7) (pa_cons (pv 8) (pa_cons (pe_meth (pe_fldK K (pv 0) rfl) T.cl_Heap T.me_Heap_owner (ok_Heap_owner T) (hr.mono (by decide)) T.b_Heap_owner .nil pass0 (pa_cons (pv 1) pa_nil)) pa_nil)))))) pa_nil)))))))), ?_⟩
    obtain ⟨dm, hom⟩ := h.ob
    obtain ⟨⟨dw, how⟩, _, _⟩ := hE.wd
    walk_at "rd"
    refine rdSeq ?_
    walk_at "rd"
    refine i_fld T.cl_Machine T.nf_Machine_world hom rfl (i_meth how rfl ⟨A.wa, N.md, N.cl, N.ws, g, (m.nm, k), rfl, hE.wd, hc.hg, ?_⟩)
    refine rdSeq ?_
    walk_at "rd"
    refine i_fld T.cl_Machine T.nf_Machine_world hom rfl (i_meth how rfl ⟨A.wa, N.md, N.cl, N.ws, g, m, k, c, row, r, rfl, hE.wd, hc, hr2, ?_⟩)
    refine rdSeq ?_
    walk_at "rd"
    refine i_fld T.cl_Machine T.nf_Machine_world hom rfl (i_meth how rfl ⟨A.wa, N.md, N.cl, N.ws, m.nm, rfl, hE.wd, fun m2 v e hv => ?_, fun e => (by rw [hc.hm] at e; cases e)⟩)
    rw [hc.hm] at e
    cases e
    have hvm := hv
    refine i_ixF (i := 6) hv rfl fun x6 h6 => i_ixF (i := r.m) h6 (by rw [List.getElem?_map, hmt]; rfl) fun mv hmv => ?_
    refine rdSeq ?_
    walk_at "rd"
    intro l1 hl1
    have s1 := same_new (o := .lst [.int (num : Nat)]) hl1
    refine i_cat upd_same (s1 _ _ hlv) (line5 (by simp [intsV]; omega)) fun l2 hl2 => ?_
    have s2 := same_new (o := .lst ([.int (num : Nat)] ++ intsV ws)) hl2
    have hl2s : upd (upd H l1 (.lst [.int (num : Nat)])) l2 (.lst ([.int (num : Nat)] ++ intsV ws)) l2 = some (.lst (intsV ((num : Int) :: ws))) := upd_same
    have s12 := s1.trans s2
    generalize upd (upd H l1 (.lst [.int (num : Nat)])) l2 (.lst ([.int (num : Nat)] ++ intsV ws)) = H2 at *
    intro l3 hl3
    have s3 := same_new (o := .lst [.int 0]) hl3
    refine i_ixF (i := 4) ((hmv.up (.of s12)).up (.of s3)) rfl fun xv hxv => i_lenF hxv ?_
    rw [List.length_map]
    refine i_rep upd_same (by omega) (by omega) (Nat.le_trans (by simp; omega) (show 1000 ≤ sizeLine by decide)) fun l4 hl4 => ?_
    have e4 : (List.replicate ((mt.vars.length : Nat) : Int).toNat [V.int 0]).flatten = intsV (List.replicate mt.vars.length 0) := by
      rw [Int.toNat_natCast]
      unfold intsV
      rw [List.map_replicate]
      induction mt.vars.length with
      | zero => rfl
      | succ n ih => rw [List.replicate_succ, List.flatten_cons, ih, List.replicate_succ]; rfl
    rw [e4]
    have s4 := same_new (o := .lst (intsV (List.replicate mt.vars.length 0))) hl4
    refine i_cat (s4 _ _ (s3 _ _ hl2s)) upd_same (line5 (by simp [intsV]; omega)) fun l5 hl5 => ?_
    have s5 := same_new (o := .lst (intsV ((num : Int) :: ws) ++ intsV (List.replicate mt.vars.length 0))) hl5
    have hl5s : upd (upd (upd H2 l3 (.lst [.int 0])) l4 (.lst (intsV (List.replicate mt.vars.length 0)))) l5 (.lst (intsV ((num : Int) :: ws) ++ intsV (List.replicate mt.vars.length 0))) l5 = some (.lst (intsV ((num : Int) :: ws ++ List.replicate mt.vars.length 0))) := by
      rw [upd_same]
      unfold intsV
      rw [← List.map_append]
    have s15 := s12.trans (s3.trans (s4.trans s5))
    have nl5 : H l5 = none := Same.free (s12.trans (s3.trans s4)) hl5
    generalize upd (upd (upd H2 l3 (.lst [.int 0])) l4 (.lst (intsV (List.replicate mt.vars.length 0)))) l5 (.lst (intsV ((num : Int) :: ws) ++ intsV (List.replicate mt.vars.length 0))) = H5 at *
    have h5 := h.same s15
    have hE5 := hE.same s15
    have hom5 := s15 _ _ hom
    have hh5 := hE5.hh
    obtain ⟨S, b, tm, f, pos, hold⟩ := hh5
    obtain ⟨dh, hoh⟩ := hold.at_.ob
    rw [hE.eh] at hoh
    refine i_fld T.cl_Machine T.nf_Machine_frames hom5 rfl ⟨.inl ⟨rfl, _, sqL_of h5.fl⟩, i_fld T.cl_Machine T.nf_Machine_heap hom5 rfl (i_meth hoh rfl ⟨N.A, N.M, num, o, by rw [hE.eh], hE5.hh, hob, ?_⟩)⟩
    intro x dx hx hdx ndx
    have s6 : Same H5 (upd (upd H5 dx (.own x)) x (.ins T.c_Frame dx [])) := (same_new hdx).trans (same_new (by rw [upd_ne (Ne.symm ndx)]; exact hx))
    have hx6 : upd (upd H5 dx (.own x)) x (.ins T.c_Frame dx []) x = some (.ins T.c_Frame dx []) := upd_same
    have nxl : l5 ≠ x := ne_of_none hl5s hx
    have nx : H x = none := Same.free s15 hx
    generalize upd (upd H5 dx (.own x)) x (.ins T.c_Frame dx []) = H6 at *
    refine ⟨x, dx, m.nm, r.m, mv, l5, o.owner, mt, code, hds, rfl, hx6, (hmv.up (.of s15)).up (.of s6), hcode, fun st cv hv H7 hst hcv hhv kp hx7 hst7 => ⟨rfl, ?_⟩⟩
    have nst6 := Same.free s6 hst
    have nst : H st = none := Same.free s15 nst6
    have s07 : Same H H7 := kp.same (s15.trans s6) (by simpa using nx)
    have hl57 : H7 l5 = _ := kp l5 _ (by simpa using nxl) (s6 _ _ hl5s)
    have nsl : l5 ≠ st := ne_of_none (s6 _ _ hl5s) hst
    have nsx : x ≠ st := ne_of_none hx6 hst
    have h7 := h.same s07
    refine i_app h7.fl (line5' (by rw [List.length_map]; omega)) ?_
    obtain ⟨h8, m8⟩ := h.push (F := ⟨x, l5, st, newP m.nm r.m code hds o.owner ((num : Int) :: ws ++ List.replicate mt.vars.length 0)⟩) s07 ⟨⟨dx, cv, hv, hx7, hcv, hhv⟩, hl57, hst7⟩ (by simp [Fm.own, nxl.symm, nsx, nsl]) (by
      intro y hy
      simp [Fm.own] at hy
      rcases hy with rfl | rfl | rfl
      · exact nx
      · exact nl5
      · exact nst)
    exact q _ _ rfl h8 m8
/-! #### calls -/
def sp_Machine__call {K : PySem.W.Frag} {mg : Str → Option Value} (T : Txt K mg) : Sp := fun vs H Q E => ∃ (A : MA) (fs : List Fm) (F : Fm) (n : Nat) (res : V) (N : MN) (iv : V) (ck row : Nat) (m : Md) (c : Cl) (r : Rw) (st : List Int) (num g : Nat) (ws : List Int) (m2 : Md) (k2 : Nat) (c2 : Cl) (r2 : Rw) (mt : Mt) (code : List Ins) (hds : List (Nat × Nat × Nat)) (o : Ob),
  vs = [.ref A.a, .ref F.f, iv] ∧ MS T H A (fs ++ [F]) n res ∧ (∀ H' X', Mo H (ownM A (fs ++ [F])) H' X' → EnvM T H' A N) ∧ Fr K H iv (Ins.callc ck row).d ∧ n ≤ 1000 ∧ fs.length ≤ 900 ∧
  findM N.ws F.p.pk = some m ∧ m.cls[ck]? = some c ∧ c.tb[row]? = some r ∧ F.p.stack = st ++ (num : Int) :: ws ∧ ws.length = r.h.ps.length ∧ F.p.stack.length ≤ 900 ∧ 0 < num ∧ (num, o) ∈ N.M ∧ o.kind = g ∧
  ClAt N.ws g m2 k2 c2 ∧ c2.tb[row]? = some r2 ∧ m2.mts[r2.m]? = some mt ∧ CodeOf mt code hds ∧ mt.vars.length ≤ 1000 ∧
  (n = 1000 → ∀ H', MS T H' A (fs ++ [F]) n res → Mo H (ownM A (fs ++ [F])) H' (ownM A (fs ++ [F])) → E (.ref T.c_StepsGone) none H') ∧
  (n ≠ 1000 → fs.length = 7 → ∀ H' dx, MS T H' A (fs ++ [F]) (n + 1) res → Mo H (ownM A (fs ++ [F])) H' (ownM A (fs ++ [F])) → H' dx = none → E (.ref T.c_Fault) (some dx) (upd H' dx (.xd [("code", .int (-9))]))) ∧
  (n ≠ 1000 → fs.length ≠ 7 → ∀ H' F1 F2, F1.p = { F.p with stack := st } → F2.p = newP m2.nm r2.m code hds o.owner ((num : Int) :: ws ++ List.replicate mt.vars.length 0) → MS T H' A (fs ++ [F1] ++ [F2]) (n + 1) res → Mo H (ownM A (fs ++ [F])) H' (ownM A (fs ++ [F1] ++ [F2])) → Q .non H')
theorem ok_Machine__call (T : Txt K mg) : FnOk P w K mg base (L2N.CX P w) 6 T.f_Machine__call T.d_Machine__call ["self", "frame", "instruction"] (sp_Machine__call T) := by
  refine okXN T.k_Machine__call sc_Machine__call (fun vs H Q E h => ?_) (fun cdv A0 outer s H vs Q E hr h => ?_)
  · obtain ⟨A, fs, F, n, res, N, iv, ck, row, m, c, r, st, num, g, ws, m2, k2, c2, r2, mt, code, hds, o, rfl, _⟩ := h
    rfl
  · obtain ⟨A, fs, F, n, res, N, iv, ck, row, m, c, r, st, num, g, ws, m2, k2, c2, r2, mt, code, hds, o, rfl, h, hE, hi, hn, hfl, hm, hc, hr1, hst, hws, hsl, hnum, hob, hg, hc2, hr2, hmt, hcode, hvars, q1, q2, q3⟩ := h
    refine ⟨_, (C8.pss_cut (ps_if (pt_cmpR op_eq (pe_ix (ix_tupK K) (pv 2) pe_int (fun _ _ => rfl)) pe_str (nomark _)) (pss_cons (ps_set (i := 3) sc_Machine__call.nd rfl (.inl rfl) (pe_meth (pe_fldK K (pv 0) rfl) T.cl_World T.me_World_module (ok_World_module T) (hr.mono (by decide)) T.b_World_module .nil passL (pa_cons (pe_fldK K (pv 1) rfl) pa_nil)))
      (pss_one (ps_set (i := 4) sc_Machine__call.nd rfl (.inl rfl) (pe_callB (lenTK K) (by rfl) T.m_len (by decide +kernel) (pa_cons (pe_ix (ix_tupK K) (pe_ix (ix_tupK K) (pe_ix (ix_tupK K) (pe_ix (ix_tupK K) (pe_ix (ix_tupK K) (pv 3) pe_int (fun _ _ => rfl)) (pe_ix (ix_tupK K) (pv 2) pe_int (fun _ _ => rfl)) (fun _ _ => rfl)) pe_int (fun _ _ => rfl)) (pe_ix (ix_tupK K) (pv 2) pe_int (fun _ _ => rfl)) (fun _ _ => rfl)) pe_int (fun _ _ => rfl)) pa_nil))))) (pss_one (ps_never)))
      (pss_cons (ps_set (i := 5) sc_Machine__call.nd rfl (.inl rfl) (pe_slice (sl_listK K) (pe_fldK K (pv 1) rfl) (po_some (pe_op op_sub (pe_callB (lenLK K) (by rfl) T.m_len (by decide +kernel) (pa_cons (pe_fldK K (pv 1) rfl) pa_nil)) (pv 4))) po_none))
      (pss_cons (ps_set (i := 6) sc_Machine__call.nd rfl (.inl rfl) (pe_ix (ix_listK K) (pe_fldK K (pv 1) rfl) (pe_op op_sub (pe_op op_sub (pe_callB (lenLK K) (by rfl) T.m_len (by decide +kernel) (pa_cons (pe_fldK K (pv 1) rfl) pa_nil)) (pv 4)) pe_int) (fun _ _ => rfl)))
      (pss_cons (ps_if (pt_cmpR op_eq (pv 6) pe_int (nomark _)) (pss_one (L2N.ps_raise rfl (L2N.takes_of rfl rfl rfl rfl) (pmkN_oex T.ox_Fault T.in_Fault T.ti_Fault (ok_Fault_init T) (hr.mono (by decide)) T.b_Fault_init .nil pass0 rfl T.g_Fault (pa_cons (pe_glob (v := .int _) rfl T.g_NULL_limits ⟨_, rfl⟩) pa_nil)))) pss_nil)
      (pss_cons (ps_expr (pe_meth0S (pv 0) T.cl_Machine T.me_Machine__step (ok_Machine__step T) (hr.mono (by decide)) T.b_Machine__step (fun σ => L2N.passAt (L2N.takes_of rfl rfl rfl rfl) σ)))
      (pss_cons (ps_if (pt_cmpR op_eq (pe_callB (lenLK K) (by rfl) T.m_len (by decide +kernel) (pa_cons (pe_fldK K (pv 0) rfl) pa_nil)) (pe_glob (v := .int _) rfl T.g_MOST_DEPTH ⟨_, rfl⟩) (nomark _)) (pss_one (L2N.ps_raise rfl (L2N.takes_of rfl rfl rfl rfl) (pmkN_oex T.ox_Fault T.in_Fault T.ti_Fault (ok_Fault_init T) (hr.mono (by decide)) T.b_Fault_init .nil pass0 rfl T.g_Fault (pa_cons (pe_glob (v := .int _) rfl T.g_DEPTH ⟨_, rfl⟩) pa_nil)))) pss_nil)
      (pss_cons (ps_fldK K (pv 1) (pe_slice (sl_listK K) (pe_fldK K (pv 1) rfl) po_none (po_some (pe_op op_sub (pe_op op_sub (pe_callB (lenLK K) (by rfl) T.m_len (by decide +kernel) (pa_cons (pe_fldK K (pv 1) rfl) pa_nil)) (pv 4)) pe_int))) rfl)
      (pss_cons (ps_set (i := 7) sc_Machine__call.nd rfl (.inl rfl) (pe_meth (pe_fldK K (pv 0) rfl) T.cl_Heap T.me_Heap_kind (ok_Heap_kind T) (hr.mono (by decide)) T.b_Heap_kind .nil pass0 (pa_cons (pv 6) pa_nil)))
      (pss_cons (ps_set (i := 8) sc_Machine__call.nd rfl (.inl rfl) (pe_ix (ix_tupK K) (pv 2) pe_int (fun _ _ => rfl)))
      (C8.pss_cut (ps_if (pt_cmpR op_eq (pe_ix (ix_tupK K) (pv 2) pe_int (fun _ _ => rfl)) pe_str (nomark _)) (pss_one (ps_never)) pss_nil)
      (pss_one (ps_expr (pe_meth (pv 0) T.cl_Machine T.me_Machine__enter (ok_Machine__enter T) (hr.mono (by decide)) T.b_Machine__enter .nil pass0 (pa_cons (pv 6) (pa_cons (pv 7) (pa_cons (pv 8) (pa_cons (pv 5) pa_nil))))))))))))))))), ?_⟩
    obtain ⟨dm, hom⟩ := h.ob
    have hG := h.topF
    obtain ⟨dg, cv, hv, hoG, hcv, hhv⟩ := hG.ob
    have hE0 := hE H _ Mo.refl
    obtain ⟨⟨dw, how⟩, _, _⟩ := hE0.wd
    walk_at "rd"
    refine rdCut (fun σ' H' => H' = H ∧ ∃ x3, σ' = [some (.ref A.a), some (.ref F.f), some iv, x3, some (.int (ws.length : Nat)), none, none, none, none]) ?_ ?_
    · walk_at "rd"
      refine i_ixFs (i := 0) hi rfl ⟨rfl, ifY rfl ?_⟩
      refine rdSeq ?_
      walk_at "rd"
      refine i_fld T.cl_Machine T.nf_Machine_world hom rfl (i_meth how rfl (i_fld T.cl_Frame T.nf_Frame_package hoG rfl ⟨A.wa, N.md, N.cl, N.ws, F.p.pk, rfl, hE0.wd, fun m' v e hv => ?_, fun e => (by rw [hm] at e; cases e)⟩))
      rw [hm] at e
      cases e
      refine i_ixF (i := 5) hv (Md.at5 m) fun x5 hx5 => i_ixFi (i := 1) hi rfl (i_ixF (i := ck) hx5 (cls_at hc) fun xc hxc => i_ixF (i := 4) hxc rfl fun xt hxt => i_ixFi (i := 2) hi rfl (i_ixF (i := row) hxt (by rw [List.getElem?_map, hr1]; rfl) fun xr hxr => i_ixF (i := 1) hxr rfl fun xp hxp => i_lenF hxp ?_))
      rw [List.length_map, ← hws]
      exact ⟨rfl, rfl⟩
    rintro σ' H2 ⟨rfl, x3, rfl⟩
    refine rdSeq ?_
    walk_at "rd"
    have hGs : H2 F.st = some (.lst (intsV F.p.stack)) := hG.st
    have ln : (intsV F.p.stack).length = st.length + 1 + ws.length := by unfold intsV; rw [List.length_map, hst]; simp; omega
    have edrop : (intsV F.p.stack).drop (st.length + 1) = intsV ws := by
      unfold intsV
      rw [hst, ← List.map_drop, List.drop_append, List.drop_of_length_le (by omega), Nat.add_sub_cancel_left]; rfl
    have eat : (intsV F.p.stack)[st.length]? = some (.int (num : Nat)) := by
      unfold intsV
      rw [hst, List.getElem?_map, List.getElem?_append_right (Nat.le_refl _), Nat.sub_self]; rfl
    refine i_fld T.cl_Frame T.nf_Frame_stack hoG rfl (i_fld T.cl_Frame T.nf_Frame_stack hoG rfl (i_lenL (sqL_of hGs) ⟨_, rfl, ?_⟩))
    rw [ln, show ((st.length + 1 + ws.length : Nat) : Int) - (ws.length : Nat) = ((st.length + 1 : Nat) : Int) by omega]
    refine i_slL (sqL_of hGs) fun lv hlv => ?_
    rw [cut_drop, edrop]
    have s1 := same_new (o := .lst (intsV ws)) hlv
    have hlv1 : upd H2 lv (.lst (intsV ws)) lv = some (.lst (intsV ws)) := upd_same
    have h1 := h.same s1
    have m1 : Mo H2 (ownM A (fs ++ [F])) (upd H2 lv (.lst (intsV ws))) (ownM A (fs ++ [F])) := Mo.same s1
    have hoG1 := s1 _ _ hoG
    have hGs1 := s1 _ _ hGs
    have hom1 := s1 _ _ hom
    have nlv : lv ∉ ownM A (fs ++ [F]) := fun e => by
      obtain ⟨o2, e2⟩ := h.some lv e
      rw [hlv] at e2; cases e2
    generalize upd H2 lv (.lst (intsV ws)) = H3 at *
    refine rdSeq ?_
    walk_at "rd"
    refine i_fld T.cl_Frame T.nf_Frame_stack hoG1 rfl (i_fld T.cl_Frame T.nf_Frame_stack hoG1 rfl (i_lenL (sqL_of hGs1) ⟨_, rfl, ?_⟩))
    rw [ln, show ((st.length + 1 + ws.length : Nat) : Int) - (ws.length : Nat) - 1 = ((st.length : Nat) : Int) by omega]
    refine i_ixL (sqL_of hGs1) (atI_nat eat) ?_
    refine rdSeq ?_
    walk_at "rd"
    refine ifN (by omega) ?_
    refine rdSeq ?_
    walk_at "rd"
    refine i_meth hom1 rfl ⟨A, fs ++ [F], n, res, rfl, h1, hn, fun e => q1 e _ h1 m1, fun e H4 h4 m4 => ?_⟩
    have hlv4 := m4.mv.kp lv _ nlv hlv1
    have m4 := m1.trans m4
    dsimp only
    obtain ⟨dm4, hom4⟩ := h4.ob
    have lfl : ((fs ++ [F]).map fun F => V.ref F.f).length = fs.length + 1 := by simp
    refine rdSeq ?_
    walk_at "rd"
    refine i_fld T.cl_Machine T.nf_Machine_frames hom4 rfl (i_lenL (sqL_of h4.fl) ?_)
    rw [lfl]
    refine ⟨rfl, ite2 (fun e7 => ?_) (fun e7 => ?_)⟩
    · exact i_mkO1 fun dx hdx => q2 e (by have := V.int.inj e7; omega) H4 dx h4 m4 hdx
    have n7 : fs.length ≠ 7 := fun k => e7 (by rw [k]; rfl)
    have h4G := h4.topF
    obtain ⟨d4, cv4, hv4, ho4, hc4, hh4⟩ := h4G.ob
    have etake : (intsV F.p.stack).take st.length = intsV st := by
      unfold intsV
      rw [hst, ← List.map_take, List.take_left]
    refine rdSeq ?_
    walk_at "rd"
    refine i_fld T.cl_Frame T.nf_Frame_stack ho4 rfl (i_fld T.cl_Frame T.nf_Frame_stack ho4 rfl (i_lenL (sqL_of h4G.st) ⟨_, rfl, ?_⟩))
    rw [ln, show ((st.length + 1 + ws.length : Nat) : Int) - (ws.length : Nat) - 1 = ((st.length : Nat) : Int) by omega]
    refine i_slL (sqL_of h4G.st) fun s5 hs5 => ?_
    rw [cut_take, etake]
    have t5 := same_new (o := .lst (intsV st)) hs5
    have h5s : upd H4 s5 (.lst (intsV st)) s5 = some (.lst (intsV st)) := upd_same
    have h5 := h4.same t5
    have ho5 := t5 _ _ ho4
    have hlv5 := t5 _ _ hlv4
    have nlv4 : lv ∉ ownM A (fs ++ [F]) := nlv
    have ns5f : s5 ≠ F.f := fun e => by rw [e, ho4] at hs5; cases hs5
    have ns5l : s5 ≠ F.sl := fun e => by rw [e, h4G.sl] at hs5; cases hs5
    have nlvf : lv ≠ F.f := fun e => nlv (by rw [e, ownM_top]; exact List.mem_append_right _ (by simp [Fm.own]))
    refine i_fldS T.cl_Frame T.nf_Frame_stack ho5 (show 8 < 1000 by decide) ?_
    obtain ⟨nG, w1, w2, w3⟩ := h4.own3
    have tk6 : TupK H4 (upd (upd H4 s5 (.lst (intsV st))) F.f (.ins T.c_Frame d4 (putF (Str.ofString "stack") (.ref s5) (ffs F cv4 hv4)))) := (TupK.of t5).trans (TupK.mut ho5 (fun _ h => nomatch h))
    have hF6 : FrAt T (upd (upd H4 s5 (.lst (intsV st))) F.f (.ins T.c_Frame d4 (putF (Str.ofString "stack") (.ref s5) (ffs F cv4 hv4)))) ⟨F.f, F.sl, s5, { F.p with stack := st }⟩ := by
      refine ⟨⟨d4, cv4, hv4, by rw [upd_same]; rfl, hc4.up tk6, hh4.up tk6⟩, ?_, ?_⟩
      · show upd _ _ _ F.sl = _
        rw [upd_ne w1.symm]
        exact t5 _ _ h4G.sl
      · show upd _ _ _ s5 = _
        rw [upd_ne ns5f]
        exact h5s
    obtain ⟨h6, m6⟩ := h4.top (F' := ⟨F.f, F.sl, s5, { F.p with stack := st }⟩) ((Kp.of t5).trans (Kp.set (by simp [Fm.own]))) tk6 hF6 rfl (by simp [Fm.own, w1, ns5f.symm, ns5l.symm]) (by
      intro y hy
      simp [Fm.own] at hy
      rcases hy with rfl | rfl | rfl
      · exact .inl (by simp [Fm.own])
      · exact .inl (by simp [Fm.own])
      · exact .inr hs5)
    have m6 := m4.trans m6
    have hlv6 : upd (upd H4 s5 (.lst (intsV st))) F.f (.ins T.c_Frame d4 (putF (Str.ofString "stack") (.ref s5) (ffs F cv4 hv4))) lv = some (.lst (intsV ws)) := (upd_ne nlvf).trans hlv5
    generalize upd (upd H4 s5 (.lst (intsV st))) F.f (.ins T.c_Frame d4 (putF (Str.ofString "stack") (.ref s5) (ffs F cv4 hv4))) = H6 at *
    have hE6 := hE H6 _ m6
    obtain ⟨dm6, hom6⟩ := h6.ob
    have hh6 := hE6.hh
    obtain ⟨S6, b6, tm6, f6, pos6, hold6⟩ := hh6
    obtain ⟨dh6, hoh6⟩ := hold6.at_.ob
    rw [hE6.eh] at hoh6
    refine rdSeq ?_
    walk_at "rd"
    refine i_fld T.cl_Machine T.nf_Machine_heap hom6 rfl (i_meth hoh6 rfl ⟨N.A, N.M, num, o, by rw [hE6.eh], hE6.hh, hob, ?_⟩)
    rw [hg]
    refine rdSeq ?_
    walk_at "rd"
    refine i_ixFi (i := 2) (hi.up m6.tk) rfl ?_
    refine rdCut (fun σ' H' => H' = H6 ∧ σ' = [some (.ref A.a), some (.ref F.f), some iv, x3, some (.int (ws.length : Nat)), some (.ref lv), some (.int (num : Nat)), some (.int (g : Nat)), some (.int (row : Nat))]) ?_ ?_
    · walk_at "rd"
      refine i_ixFs (i := 0) (hi.up m6.tk) rfl ⟨rfl, ifN (fun k => absurd (V.str.inj k) (by decide +kernel : ¬ Str.ofString "callc" = Str.ofString "callf")) ?_⟩
      first | trivial | exact ⟨rfl, rfl⟩ | rfl
    rintro σ' H7 ⟨rfl, rfl⟩
    have lws : ws.length ≤ 1000 := by
      have : F.p.stack.length = st.length + 1 + ws.length := by rw [hst]; simp; omega
      omega
    walk_at "rd"
    refine i_meth hom6 rfl ⟨A, fs ++ [⟨F.f, F.sl, s5, { F.p with stack := st }⟩], n + 1, res, N, num, g, row, lv, ws, m2, k2, c2, r2, mt, code, hds, o, rfl, h6, hE6, hlv6, lws, by simp; omega, hc2, hr2, hmt, hcode, hvars, hob, fun H8 F2 e2 h8 m8 => ?_⟩
    exact q3 e n7 H8 _ F2 rfl e2 h8 (m6.trans m8)
/-! #### one instruction -/
/-- the new frame of a call -/
structure CallAt (N : MN) (F : Pf) (ck row : Nat) (st : List Int) (P2 : Pf) : Prop where
  at_ : ∃ (m : Md) (c : Cl) (r : Rw) (num g : Nat) (ws : List Int) (m2 : Md) (k2 : Nat) (c2 : Cl) (r2 : Rw) (mt : Mt) (code : List Ins) (hds : List (Nat × Nat × Nat)) (o : Ob),
    findM N.ws F.pk = some m ∧ m.cls[ck]? = some c ∧ c.tb[row]? = some r ∧ F.stack = st ++ (num : Int) :: ws ∧ ws.length = r.h.ps.length ∧ 0 < num ∧ (num, o) ∈ N.M ∧ o.kind = g ∧
    ClAt N.ws g m2 k2 c2 ∧ c2.tb[row]? = some r2 ∧ m2.mts[r2.m]? = some mt ∧ CodeOf mt code hds ∧ mt.vars.length ≤ 1000 ∧
    P2 = newP m2.nm r2.m code hds o.owner ((num : Int) :: ws ++ List.replicate mt.vars.length 0)
inductive Out1 where
  | st (ps : List Pf) (n : Nat)
  | done (r : V)
  | gone
  | fault (v : Int) (ps : List Pf) (n : Nat)
inductive PerfR (N : MN) : List Pf → Pf → Nat → Ins → Out1 → Prop
  | jump {fs F n i k st} (h : jmpTo i F.place F.stack = some (k, st)) : PerfR N fs F n i (.st (fs ++ [{ F with place := k, stack := st }]) n)
  | work {fs F n i sl st} (h : workI i F.slots F.stack = some (sl, st)) : PerfR N fs F n i (.st (fs ++ [{ F with slots := sl, stack := st, place := F.place + 1 }]) n)
  | step {fs F n} (h : n ≠ 1000) : PerfR N fs F n .step (.st (fs ++ [{ F with place := F.place + 1 }]) (n + 1))
  | stepG {fs F n} (h : n = 1000) : PerfR N fs F n .step .gone
  | throw {fs F n v} (h : F.stack.getLast? = some v) : PerfR N fs F n .throw (.fault v (fs ++ [{ F with stack := F.stack.dropLast }]) n)
  | ret {gs G F n} (h : G.stack.length ≤ 1000) : PerfR N (gs ++ [G]) F n .ret (.st (gs ++ [G.fed []]) n)
  | ret0 {F n} : PerfR N [] F n .ret (.done .non)
  | retv {gs G F n v} (h : G.stack.length ≤ 1000) (e : F.stack.getLast? = some v) : PerfR N (gs ++ [G]) F n .retv (.st (gs ++ [G.fed [v]]) n)
  | retv0 {F n v} (e : F.stack.getLast? = some v) : PerfR N [] F n .retv (.done (.int v))
  | call {fs F n ck row st P2} (h : CallAt N F ck row st P2) (h1 : n ≠ 1000) (h2 : fs.length ≠ 7) : PerfR N fs F n (.callc ck row) (.st (fs ++ [{ F with stack := st }] ++ [P2]) (n + 1))
  | callG {fs F n ck row st P2} (h : CallAt N F ck row st P2) (h1 : n = 1000) : PerfR N fs F n (.callc ck row) .gone
  | callD {fs F n ck row st P2} (h : CallAt N F ck row st P2) (h1 : n ≠ 1000) (h2 : fs.length = 7) : PerfR N fs F n (.callc ck row) (.fault (-9) (fs ++ [F]) (n + 1))
def mapP (fs : List Fm) : List Pf := fs.map (·.p)
theorem mapP_app {fs gs : List Fm} : mapP (fs ++ gs) = mapP fs ++ mapP gs := List.map_append
def EndP {K : PySem.W.Frag} {mg : Str → Option Value} (T : Txt K mg) (A : MA) (X : List Addr) (res : V) (H : Hp) (Q : VK) (E : XK) : Out1 → Prop
  | .st ps n => ∀ H' fs, mapP fs = ps → MS T H' A fs n res → Mo H X H' (ownM A fs) → Q .non H'
  | .done r => ∀ H' n, MS T H' A [] n r → Mo H X H' (ownM A []) → Q .non H'
  | .gone => ∀ H' fs n, MS T H' A fs n res → Mo H X H' (ownM A fs) → E (.ref T.c_StepsGone) none H'
  | .fault v ps n => ∀ H' fs dx, mapP fs = ps → MS T H' A fs n res → Mo H X H' (ownM A fs) → H' dx = none → E (.ref T.c_Fault) (some dx) (upd H' dx (.xd [("code", .int v)]))
theorem nm_nj {i : Ins} (h : match i with | .jump _ | .jumpif _ | .jumpnot _ => False | _ => True) : ¬ inV (.str i.nm) [V.str (Str.ofString "jump"), V.str (Str.ofString "jumpif"), V.str (Str.ofString "jumpnot")] = true := by
  cases i <;> first | exact h.elim | (clear h; simp only [Ins.nm]; decide +kernel)
theorem nm_nc {i : Ins} (h : match i with | .callc _ _ => False | _ => True) : ¬ inV (.str i.nm) [V.str (Str.ofString "callc"), V.str (Str.ofString "callf")] = true := by
  cases i <;> first | exact h.elim | (clear h; simp only [Ins.nm]; decide +kernel)
def Ins.nr : Ins → Prop
  | .ret => False
  | .retv => False
  | _ => True
theorem nm_nr {i : Ins} (h : i.nr) : ¬ V.str i.nm = V.str (Str.ofString "return") ∧ ¬ V.str i.nm = V.str (Str.ofString "returnv") := by
  cases i <;> first | exact h.elim | (clear h; simp only [Ins.nm, V.str.injEq]; decide +kernel)
theorem nm_wk {i : Ins} {sl st : List Int} {r : List Int × List Int} (h : workI i sl st = some r) : i.nr := by cases i <;> first | trivial | cases h
theorem atI_end {st : List Int} {v : Int} (h : st.getLast? = some v) : atI (intsV st) (-1) = some (.int v) := by
  obtain ⟨ys, rfl⟩ := List.getLast?_eq_some_iff.mp h
  unfold intsV
  rw [List.map_append]
  exact atI_last _ _
theorem mapP_snoc {fs : List Fm} {ps : List Pf} {p : Pf} (h : mapP fs = ps ++ [p]) : ∃ gs G, fs = gs ++ [G] ∧ mapP gs = ps ∧ G.p = p := by
  rcases List.eq_nil_or_concat fs with e | ⟨gs, G, e⟩
  · rw [e] at h
    exact absurd h (by simp [mapP])
  · have e : fs = gs ++ [G] := by simpa using e
    subst e
    rw [mapP_app] at h
    obtain ⟨h1, h2⟩ := List.append_inj' h rfl
    exact ⟨gs, G, rfl, h1, by injection h2⟩
theorem mapP_nil {fs : List Fm} (h : mapP fs = []) : fs = [] := List.map_eq_nil_iff.mp h
theorem i_inT {K : PySem.W.Frag} {x : Str} {xs : List V} {H : Hp} {p : Addr} {Q : VK} (hx : xs.all flatV = true) (h : Q (.bl (inV (.str x) xs)) (upd H p (.tup xs))) : rIn K false (.str x) (.ref p) (upd H p (.tup xs)) Q := by
  refine i_inL (.inr (sqT_of upd_same)) rfl hx ?_
  rw [if_neg (by decide)]
  exact h
def sp_Machine__perform {K : PySem.W.Frag} {mg : Str → Option Value} (T : Txt K mg) : Sp := fun vs H Q E => ∃ (A : MA) (fs : List Fm) (F : Fm) (n : Nat) (res : V) (N : MN) (iv : V) (i : Ins) (o : Out1),
  vs = [.ref A.a, .ref F.f, iv] ∧ MS T H A (fs ++ [F]) n res ∧ (∀ H' X', Mo H (ownM A (fs ++ [F])) H' X' → EnvM T H' A N) ∧ Fr K H iv i.d ∧ n ≤ 1000 ∧ fs.length ≤ 900 ∧ (∀ x ∈ F.p.stack, Wrd x) ∧ F.p.stack.length ≤ 900 ∧
  PerfR N (mapP fs) F.p n i o ∧ EndP T A (ownM A (fs ++ [F])) res H Q E o
theorem ok_Machine__perform (T : Txt K mg) : FnOk P w K mg base (L2N.CX P w) 9 T.f_Machine__perform T.d_Machine__perform ["self", "frame", "instruction"] (sp_Machine__perform T) := by
  refine okXN T.k_Machine__perform sc_Machine__perform (fun vs H Q E h => ?_) (fun cdv A0 outer s H vs Q E hr h => ?_)
  · obtain ⟨A, fs, F, n, res, N, iv, i, o, rfl, _⟩ := h
    rfl
  · obtain ⟨A, fs, F, n, res, N, iv, i, o, rfl, h, hE, hi, hn, hfl, hw, hsl, hp, q⟩ := h
    refine ⟨_, (pss_cons (ps_set (i := 3) sc_Machine__perform.nd rfl (.inl rfl) (pe_ix (ix_tupK K) (pv 2) pe_int (fun _ _ => rfl)))
      (pss_one (ps_if (pt_cmpR (in_seqK K) (pv 3) (pe_tup (pa_cons pe_str (pa_cons pe_str (pa_cons pe_str pa_nil)))) rfl) (pss_one (ps_expr (pe_methS (pv 0) T.cl_Machine T.me_Machine__jump (ok_Machine__jump T) (hr.mono (by decide)) T.b_Machine__jump (fun σ => L2N.passAt (L2N.takes_of rfl rfl rfl rfl) σ) (pa_cons (pv 1) (pa_cons (pv 2) pa_nil))))) (pss_one (ps_if (pt_cmpR (in_seqK K) (pv 3) (pe_tup (pa_cons pe_str (pa_cons pe_str pa_nil))) rfl) (pss_one (ps_expr (pe_methS (pv 0) T.cl_Machine T.me_Machine__call (ok_Machine__call T) (hr.mono (by decide)) T.b_Machine__call (fun σ => L2N.passAt (L2N.takes_of rfl rfl rfl rfl) σ) (pa_cons (pv 1) (pa_cons (pv 2) pa_nil))))) (pss_one (ps_if (pt_cmpR op_eq (pv 3) pe_str (nomark _)) (pss_one (ps_expr (pe_meth (pv 0) T.cl_Machine T.me_Machine__leave (ok_Machine__leave T) (hr.mono (by decide)) T.b_Machine__leave .nil pass0 (pa_cons (pe_lst pa_nil) pa_nil)))) (pss_one (ps_if (pt_cmpR op_eq (pv 3) pe_str (nomark _)) (pss_one (ps_expr (pe_meth (pv 0) T.cl_Machine T.me_Machine__leave (ok_Machine__leave T) (hr.mono (by decide)) T.b_Machine__leave .nil pass0 (pa_cons (pe_lst (pa_cons (pe_ix (ix_listK K) (pe_fldK K (pv 1) rfl) (pe_un un_neg pe_int) (fun _ _ => rfl)) pa_nil)) pa_nil)))) (pss_cons (ps_expr (pe_methS (pv 0) T.cl_Machine T.me_Machine__work (ok_Machine__work T) (hr.mono (by decide)) T.b_Machine__work (fun σ => L2N.passAt (L2N.takes_of rfl rfl rfl rfl) σ) (pa_cons (pv 1) (pa_cons (pv 2) pa_nil))))
      (pss_one (ps_fldaugK K (pv 1) pe_int in_add)))))))))))), ?_⟩
    obtain ⟨dm, hom⟩ := h.ob
    obtain ⟨dg, cv, hv, hoG, hcv, hhv⟩ := h.topF.ob
    walk_at "rd"
    refine rdSeq ?_
    walk_at "rd"
    refine i_ixFs (i := 0) (s := i.nm) hi rfl ?_
    intro p1 hp1
    refine i_inT (by decide) ⟨_, rfl, ?_⟩
    have s1 := same_new (o := .tup [V.str (Str.ofString "jump"), V.str (Str.ofString "jumpif"), V.str (Str.ofString "jumpnot")]) hp1
    have h1 := h.same s1
    have hi1 := hi.up (.of s1)
    have m1 : Mo H (ownM A (fs ++ [F])) (upd H p1 (.tup [V.str (Str.ofString "jump"), V.str (Str.ofString "jumpif"), V.str (Str.ofString "jumpnot")])) (ownM A (fs ++ [F])) := Mo.same s1
    have hom1 := s1 _ _ hom
    generalize upd H p1 (.tup [V.str (Str.ofString "jump"), V.str (Str.ofString "jumpif"), V.str (Str.ofString "jumpnot")]) = H1 at *
    generalize hps : mapP fs = ps at hp
    by_cases hj : match i with | .jump _ | .jumpif _ | .jumpnot _ => False | _ => True
    case neg =>
      have ej : ∃ k st, jmpTo i F.p.place F.p.stack = some (k, st) ∧ o = .st (mapP fs ++ [{ F.p with place := k, stack := st }]) n := by
        rw [hps]
        cases hp with
        | @jump _ _ _ _ k st h => exact ⟨k, st, h, rfl⟩
        | work h => cases i <;> first | exact absurd trivial hj | cases h
        | _ => exact absurd trivial hj
      obtain ⟨k, st, ej, rfl⟩ := ej
      refine ifY (by cases i <;> first | exact absurd trivial hj | (simp only [Ins.nm]; decide +kernel)) (i_meth hom1 rfl ⟨A, fs, F, n, res, iv, i, k, st, rfl, h1, hi1, ej, fun H' h' m' => ?_⟩)
      exact q H' _ (by rw [mapP_app]; rfl) h' (m1.trans m')
    refine ifN (nm_nj hj) ?_
    intro p2 hp2
    refine i_inT (by decide) ⟨_, rfl, ?_⟩
    have s2 := same_new (o := .tup [V.str (Str.ofString "callc"), V.str (Str.ofString "callf")]) hp2
    have h2 := h1.same s2
    have hi2 := hi1.up (.of s2)
    have m2 := m1.trans (Mo.same (X := ownM A (fs ++ [F])) s2)
    have hom2 := s2 _ _ hom1
    generalize upd H1 p2 (.tup [V.str (Str.ofString "callc"), V.str (Str.ofString "callf")]) = H2 at *
    by_cases hc : match i with | .callc _ _ => False | _ => True
    case neg =>
      have ec : ∃ ck row st P2, i = .callc ck row ∧ CallAt N F.p ck row st P2 ∧ ((n = 1000 ∧ o = .gone) ∨ (n ≠ 1000 ∧ fs.length = 7 ∧ o = .fault (-9) (mapP fs ++ [F.p]) (n + 1)) ∨ (n ≠ 1000 ∧ fs.length ≠ 7 ∧ o = .st (mapP fs ++ [{ F.p with stack := st }] ++ [P2]) (n + 1))) := by
        rw [hps]
        have lps : ps.length = fs.length := by rw [← hps]; simp [mapP]
        cases hp with
        | jump h => cases i <;> first | exact absurd trivial hc | cases h
        | work h => cases i <;> first | exact absurd trivial hc | cases h
        | @call _ _ _ ck row st P2 h h1 h2 => exact ⟨ck, row, st, P2, rfl, h, .inr (.inr ⟨h1, lps ▸ h2, rfl⟩)⟩
        | @callG _ _ _ ck row st P2 h h1 => exact ⟨ck, row, st, P2, rfl, h, .inl ⟨h1, rfl⟩⟩
        | @callD _ _ _ ck row st P2 h h1 h2 => exact ⟨ck, row, st, P2, rfl, h, .inr (.inl ⟨h1, lps ▸ h2, rfl⟩)⟩
        | _ => exact absurd trivial hc
      obtain ⟨ck, row, st, P2, rfl, ⟨m, c, r, num, g, ws, mm, k2, c2, r2, mt, code, hds, ob, c1, c2', c3, c4, c5, c6, c7, c8, c9, c10, c11, c12, c13, rfl⟩, ho⟩ := ec
      refine ifY (by simp only [Ins.nm]; decide +kernel) (i_meth hom2 rfl ⟨A, fs, F, n, res, N, iv, ck, row, m, c, r, st, num, g, ws, mm, k2, c2, r2, mt, code, hds, ob, rfl, h2, fun H' X' mo => hE H' X' (m2.trans mo), hi2, hn, hfl, c1, c2', c3, c4, c5, hsl, c6, c7, c8, c9, c10, c11, c12, c13, fun e H' h' m' => ?_, fun e e7 H' dx h' m' hdx => ?_, fun e e7 H' F1 F2 e1 e2 h' m' => ?_⟩)
      · rcases ho with ⟨_, rfl⟩ | ⟨e2, _⟩ | ⟨e2, _⟩
        · exact q H' _ _ h' (m2.trans m')
        · exact absurd e e2
        · exact absurd e e2
      · rcases ho with ⟨e2, _⟩ | ⟨_, _, rfl⟩ | ⟨_, e2, _⟩
        · exact absurd e2 e
        · exact q H' _ dx (by rw [mapP_app]; rfl) h' (m2.trans m') hdx
        · exact absurd e7 e2
      · rcases ho with ⟨e3, _⟩ | ⟨_, e3, _⟩ | ⟨_, _, rfl⟩
        · exact absurd e3 e
        · exact absurd e3 e7
        · exact q H' _ (by rw [mapP_app, mapP_app]; simp only [mapP, List.map_cons, List.map_nil, e1, e2]) h' (m2.trans m')
    refine ifN (nm_nc hc) ?_
    have old2 : ∀ {p : Addr} {H' : Hp}, H' p = none → (∀ x ∈ ownM A (fs ++ [F]), ∃ o, H' x = some o) → p ∉ ownM A (fs ++ [F]) := fun hp old e => by
      obtain ⟨o, e⟩ := old _ e
      rw [hp] at e; cases e
    cases hp with
    | jump h => cases i <;> first | exact hj.elim | cases h
    | call => exact hc.elim
    | callG => exact hc.elim
    | callD => exact hc.elim
    | @ret gs G _ _ hgs =>
      obtain ⟨fs, G, rfl, rfl, rfl⟩ := mapP_snoc hps
      refine ⟨rfl, ifY rfl (i_meth hom2 rfl ?_)⟩
      intro lv hlv
      have s3 := same_new (o := .lst []) hlv
      refine ⟨A, fs ++ [G], F, n, res, lv, [], rfl, h2.same s3, upd_same, old2 hlv h2.some, by simp, fun e => absurd e (by simp), fun gs G2 e => ?_⟩
      obtain ⟨e1, e2⟩ := List.append_inj' e rfl
      cases e1
      cases e2
      refine ⟨hgs, fun H' h' m' => q H' _ ?_ h' (m2.trans ((Mo.same s3).trans m'))⟩
      rw [mapP_app]; rfl
    | ret0 =>
      obtain rfl := mapP_nil hps
      refine ⟨rfl, ifY rfl (i_meth hom2 rfl ?_)⟩
      intro lv hlv
      have s3 := same_new (o := .lst []) hlv
      refine ⟨A, [], F, n, res, lv, [], rfl, h2.same s3, upd_same, old2 hlv h2.some, by simp, fun _ H' h' m' => ?_, fun gs G2 e => absurd e (by simp)⟩
      exact q H' n h' (m2.trans ((Mo.same s3).trans m'))
    | @retv gs G _ _ v hgs hv =>
      obtain ⟨fs, G, rfl, rfl, rfl⟩ := mapP_snoc hps
      refine ⟨rfl, ifN (fun e => absurd (V.str.inj e) (by simp only [Ins.nm]; decide +kernel)) ⟨rfl, ifY rfl (i_meth hom2 rfl ?_)⟩⟩
      obtain ⟨d2, cv2, hv2, ho2, _, _⟩ := h2.topF.ob
      obtain ⟨p1, p2, p3⟩ := pop_at hv
      refine i_fld T.cl_Frame T.nf_Frame_stack ho2 rfl (i_ixL (sqL_of h2.topF.st) (v := .int v) (atI_end hv) fun lv hlv => ?_)
      have s3 := same_new (o := .lst [.int v]) hlv
      refine ⟨A, fs ++ [G], F, n, res, lv, [v], rfl, h2.same s3, upd_same, old2 hlv h2.some, by simp, fun e => absurd e (by simp), fun gs G2 e => ?_⟩
      obtain ⟨e1, e2⟩ := List.append_inj' e rfl
      cases e1
      cases e2
      refine ⟨hgs, fun H' h' m' => q H' _ ?_ h' (m2.trans ((Mo.same s3).trans m'))⟩
      rw [mapP_app]; rfl
    | @retv0 _ _ v hv =>
      obtain rfl := mapP_nil hps
      refine ⟨rfl, ifN (fun e => absurd (V.str.inj e) (by simp only [Ins.nm]; decide +kernel)) ⟨rfl, ifY rfl (i_meth hom2 rfl ?_)⟩⟩
      obtain ⟨d2, cv2, hv2, ho2, _, _⟩ := h2.topF.ob
      obtain ⟨p1, p2, p3⟩ := pop_at hv
      refine i_fld T.cl_Frame T.nf_Frame_stack ho2 rfl (i_ixL (sqL_of h2.topF.st) (v := .int v) (atI_end hv) fun lv hlv => ?_)
      have s3 := same_new (o := .lst [.int v]) hlv
      refine ⟨A, [], F, n, res, lv, [v], rfl, h2.same s3, upd_same, old2 hlv h2.some, by simp, fun _ H' h' m' => ?_, fun gs G2 e => absurd e (by simp)⟩
      exact q H' n h' (m2.trans ((Mo.same s3).trans m'))
    | @work _ _ _ _ sl st hk =>
      refine ⟨rfl, ifN (nm_nr (nm_wk hk)).1 ⟨rfl, ifN (nm_nr (nm_wk hk)).2 ?_⟩⟩
      refine rdSeq ?_
      walk_at "rd"
      refine i_meth hom2 rfl ⟨A, fs, F, n, res, iv, i, rfl, h2, hi2, hw, by omega, hn, .inl ⟨sl, st, hk, fun H3 h3 m3 => ?_⟩⟩
      obtain ⟨d3, cv3, hv3, ho3, hc3, hh3⟩ := h3.topF.ob
      walk_at "rd"
      refine i_fldA T.cl_Frame T.nf_Frame_place ho3 rfl ?_
      walk_at "rd"
      obtain ⟨h4, m4⟩ := h3.setPl (dg := d3) ho3 hc3 hh3 (F.p.place + 1)
      refine ⟨d3, _, ho3, (show 8 < 1000 by decide), q _ _ ?_ h4 (m2.trans (m3.trans m4))⟩
      rw [mapP_app, hps]; rfl
    | step hn2 =>
      refine ⟨rfl, ifN (nm_nr (i := .step) trivial).1 ⟨rfl, ifN (nm_nr (i := .step) trivial).2 ?_⟩⟩
      refine rdSeq ?_
      walk_at "rd"
      refine i_meth hom2 rfl ⟨A, fs, F, n, res, iv, .step, rfl, h2, hi2, hw, by omega, hn, .inr (.inl ⟨rfl, fun e => absurd e hn2, fun _ H3 h3 m3 => ?_⟩)⟩
      obtain ⟨d3, cv3, hv3, ho3, hc3, hh3⟩ := h3.topF.ob
      walk_at "rd"
      refine i_fldA T.cl_Frame T.nf_Frame_place ho3 rfl ?_
      walk_at "rd"
      obtain ⟨h4, m4⟩ := h3.setPl (dg := d3) ho3 hc3 hh3 (F.p.place + 1)
      refine ⟨d3, _, ho3, (show 8 < 1000 by decide), q _ _ ?_ h4 (m2.trans (m3.trans m4))⟩
      rw [mapP_app, hps]; rfl
    | stepG hn2 =>
      refine ⟨rfl, ifN (nm_nr (i := .step) trivial).1 ⟨rfl, ifN (nm_nr (i := .step) trivial).2 ?_⟩⟩
      refine rdSeq ?_
      walk_at "rd"
      exact i_meth hom2 rfl ⟨A, fs, F, n, res, iv, .step, rfl, h2, hi2, hw, by omega, hn, .inr (.inl ⟨rfl, fun _ => q _ _ _ h2 m2, fun e => absurd hn2 e⟩)⟩
    | @throw _ _ _ v hv =>
      refine ⟨rfl, ifN (nm_nr (i := .throw) trivial).1 ⟨rfl, ifN (nm_nr (i := .throw) trivial).2 ?_⟩⟩
      refine rdSeq ?_
      walk_at "rd"
      refine i_meth hom2 rfl ⟨A, fs, F, n, res, iv, .throw, rfl, h2, hi2, hw, by omega, hn, .inr (.inr ⟨rfl, v, hv, fun H3 dx h3 m3 hdx => ?_⟩)⟩
      exact q _ _ dx (by rw [mapP_app, hps]; rfl) h3 (m2.trans m3) hdx
/-! #### faults that are caught -/
def takesH (hds : List (Nat × Nat × Nat)) (place : Nat) : Option Nat := match hds with
  | [] => none
  | h :: hs => if h.1 ≤ place ∧ place < h.2.1 then some h.2.2 else takesH hs place
/-- the top frame first -/
def caughtR (code : Int) : List Pf → Option (List Pf)
  | [] => none
  | G :: gs => match takesH G.hds G.place with
    | some k => some ({ G with stack := [code], place := k } :: gs)
    | none => caughtR code gs
def sp_Machine__caught {K : PySem.W.Frag} {mg : Str → Option Value} (T : Txt K mg) : Sp := fun vs H Q _ => ∃ (A : MA) (fs : List Fm) (n : Nat) (res : V) (code : Int), vs = [.ref A.a, .int code] ∧ MS T H A fs n res ∧ (∀ F ∈ fs, F.p.hds.length ≤ 1000) ∧
  (∀ ps, caughtR code (mapP fs).reverse = some ps → ∀ H' gs, mapP gs = ps.reverse → MS T H' A gs n res → Mo H (ownM A fs) H' (ownM A gs) → Q (.bl true) H') ∧
  (caughtR code (mapP fs).reverse = none → ∀ H', MS T H' A [] n res → Mo H (ownM A fs) H' (ownM A []) → Q (.bl false) H')
theorem i_if2' {A B C : Prop} {x y z : Nat} (h1 : x ≤ y → y < z → A) (h2 : ¬ (x ≤ y ∧ y < z) → B) (h3 : ¬ (x ≤ y ∧ y < z) → C) : if (x : Int) ≤ (y : Int) then (∃ i : Int, V.int (y : Int) = V.int i ∧ if i < (z : Int) then A else B) else C := by
  by_cases k : x ≤ y
  · rw [if_pos (by omega)]
    refine ⟨_, rfl, ?_⟩
    by_cases k2 : y < z
    · rw [if_pos (by omega)]; exact h1 k k2
    · rw [if_neg (by omega)]; exact h2 (fun e => k2 e.2)
  · rw [if_neg (by omega)]
    exact h3 (fun e => k e.1)
theorem takesH_take : ∀ {hds : List (Nat × Nat × Nat)} {place : Nat}, (∀ h ∈ hds, ¬ (h.1 ≤ place ∧ place < h.2.1)) → takesH hds place = none
  | [], _, _ => rfl
  | h :: hs, place, hn => by
    unfold takesH
    rw [if_neg (hn h List.mem_cons_self)]
    exact takesH_take fun x hx => hn x (List.mem_cons_of_mem _ hx)
theorem takesH_at : ∀ {hds : List (Nat × Nat × Nat)} {place j : Nat} {x : Nat × Nat × Nat}, (∀ h ∈ hds.take j, ¬ (h.1 ≤ place ∧ place < h.2.1)) → hds[j]? = some x → (x.1 ≤ place ∧ place < x.2.1) → takesH hds place = some x.2.2
  | [], _, _, _, _, e, _ => by cases e
  | h :: hs, place, 0, x, _, e, hx => by
    cases e
    unfold takesH
    rw [if_pos hx]
  | h :: hs, place, j + 1, x, hn, e, hx => by
    unfold takesH
    rw [if_neg (hn h (by simp))]
    exact takesH_at (fun y hy => hn y (by rw [List.take_succ_cons]; exact List.mem_cons_of_mem _ hy)) e hx
/-- the stack is another list, the place is set -/
theorem MS.seize {T : Txt K mg} {H : Hp} {A : MA} {fs : List Fm} {F : Fm} {n : Nat} {res : V} {dg s5 : Addr} {cv hv : V} {xs : List Int} {k : Nat} (h : MS T H A (fs ++ [F]) n res) (ho : H F.f = Option.some (.ins T.c_Frame dg (ffs F cv hv))) (hcv : Fr K H cv (.tuple (F.p.code.map Ins.d))) (hhv : Fr K H hv (.tuple (F.p.hds.map hdD))) (hs5 : H s5 = none) :
    MS T (upd (upd H s5 (.lst (intsV xs))) F.f (.ins T.c_Frame dg (ffs ⟨F.f, F.sl, s5, { F.p with stack := xs, place := k }⟩ cv hv))) A (fs ++ [⟨F.f, F.sl, s5, { F.p with stack := xs, place := k }⟩]) n res ∧
      Mo H (ownM A (fs ++ [F])) (upd (upd H s5 (.lst (intsV xs))) F.f (.ins T.c_Frame dg (ffs ⟨F.f, F.sl, s5, { F.p with stack := xs, place := k }⟩ cv hv))) (ownM A (fs ++ [⟨F.f, F.sl, s5, { F.p with stack := xs, place := k }⟩])) := by
  obtain ⟨nG, w1, w2, w3⟩ := h.own3
  have hG := h.topF
  have t5 := same_new (o := .lst (intsV xs)) hs5
  have ns5f : s5 ≠ F.f := fun e => by rw [e, ho] at hs5; cases hs5
  have ns5l : s5 ≠ F.sl := fun e => by rw [e, hG.sl] at hs5; cases hs5
  have tk6 : TupK H (upd (upd H s5 (.lst (intsV xs))) F.f (.ins T.c_Frame dg (ffs ⟨F.f, F.sl, s5, { F.p with stack := xs, place := k }⟩ cv hv))) := (TupK.of t5).trans (TupK.mut (t5 _ _ ho) (fun _ h => nomatch h))
  refine h.top ((Kp.of t5).trans (Kp.set (by simp [Fm.own]))) tk6 ⟨⟨dg, cv, hv, upd_same, hcv.up tk6, hhv.up tk6⟩, ?_, ?_⟩ rfl (by simp [Fm.own, w1, ns5f.symm, ns5l.symm]) (fun y hy => ?_)
  · show upd _ _ _ F.sl = _
    rw [upd_ne w1.symm]
    exact t5 _ _ hG.sl
  · show upd _ _ _ s5 = _
    rw [upd_ne ns5f]
    exact upd_same
  · simp [Fm.own] at hy
    rcases hy with rfl | rfl | rfl
    · exact .inl (by simp [Fm.own])
    · exact .inl (by simp [Fm.own])
    · exact .inr hs5
theorem mapP_rev {gs : List Fm} {G : Fm} : (mapP (gs ++ [G])).reverse = G.p :: (mapP gs).reverse := by
  rw [mapP_app, List.reverse_append]; rfl
theorem okH_Machine__caught (T : Txt K mg) : L2H.FnH P w K mg base CX0 1 T.f_Machine__caught T.d_Machine__caught ["self", "code"] (sp_Machine__caught T) := by
  refine okH T.k_Machine__caught sc_Machine__caught (fun vs H Q E h => ?_) (fun cdv A0 outer s H vs Q E pn hot hr h => ?_)
  · obtain ⟨A, fs, n, res, code, rfl, _⟩ := h
    rfl
  · obtain ⟨A, fs, n, res, code, rfl, h, hl, q1, q2⟩ := h
    refine ⟨_, (pss_cons (ps_while (passes_of rfl) (pt_cmpR (op_nilNe (uH hr)) (pe_fldK K (pv 0) rfl) (pe_lst pa_nil) (nomark _)) (pss_cons (ps_set (i := 2) sc_Machine__caught.nd rfl (.inl rfl) (pe_ix (ix_listK K) (pe_fldK K (pv 0) rfl) (pe_un un_neg pe_int) (fun _ _ => rfl)))
      (pss_cons (L2H.ps_forH (passes_of rfl) ⟨pn, hot, List.mem_cons_self⟩ (pi_tupH (pe_fldK K (pv 2) rfl)) (pg_tupH ⟨pn, hot, List.mem_cons_self⟩ (pgs_cons (pg_name (i := 3) sc_Machine__caught.nd rfl (Or.inl rfl)) (pgs_cons (pg_name (i := 4) sc_Machine__caught.nd rfl (Or.inl rfl)) (pgs_cons (pg_name (i := 5) sc_Machine__caught.nd rfl (Or.inl rfl)) pgs_nil)))) (pss_one (ps_if (pt_chain op_le op_lt (pv 3) (pe_fldK K (pv 2) rfl) (pv 4)) (pss_cons (ps_fldK K (pv 2) (pe_lst (pa_cons (pv 1) pa_nil)) rfl)
      (pss_cons (ps_fldK K (pv 2) (pv 5) rfl)
      (pss_one (ps_ret pe_bl)))) pss_nil)))
      (pss_one (ps_expr (pe_bm0K K PySem.F.plainAttrs_list PySem.F.slot_list_pop PySem.F.type_list_pop mt_pop (pe_fldK K (pv 0) rfl)))))))
      (pss_one (ps_ret pe_bl))), ?_⟩
    walk_at "rd"
    refine rdSeq ?_
    walk_at "rd"
    refine i_while (fun m σ H' => ∃ gs, m = gs.length ∧ MS T H' A gs n res ∧ Mo H (ownM A fs) H' (ownM A gs) ∧ caughtR code (mapP gs).reverse = caughtR code (mapP fs).reverse ∧ (∀ F ∈ gs, F.p.hds.length ≤ 1000) ∧ ∃ x2 x3 x4 x5, σ = [some (.ref A.a), some (.int code), x2, x3, x4, x5]) fs.length ⟨fs, rfl, h, Mo.refl, rfl, hl, _, _, _, _, rfl⟩ ?_
    rintro m σ H1 ⟨gs, rfl, h1, m1, e1, hl1, x2, x3, x4, x5, rfl⟩
    walk_at "rd"
    obtain ⟨dm, hom⟩ := h1.ob
    refine i_fld T.cl_Machine T.nf_Machine_frames hom rfl fun p hp => ?_
    have sp := same_new (o := .lst []) hp
    have h2 := h1.same sp
    have m2 := m1.trans (Mo.same sp)
    refine i_nil (sqL_of h2.fl) (sqL_of upd_same) ?_
    have ho2 := sp _ _ hom
    generalize upd H1 p (.lst []) = H2 at *
    rcases List.eq_nil_or_concat gs with e0 | ⟨fs2, F, e0⟩
    · subst e0
      refine ⟨_, rfl, ifN (by simp) (q2 (by rw [← e1]; rfl) H2 h2 m2)⟩
    have e0 : gs = fs2 ++ [F] := by simpa using e0
    subst e0
    refine ⟨_, rfl, ifY (by simp) (i_whT ?_)⟩
    refine rdSeq ?_
    walk_at "rd"
    have hfl := h2.fl
    rw [List.map_append, List.map_singleton] at hfl
    refine i_fld T.cl_Machine T.nf_Machine_frames ho2 rfl (i_ixL (sqL_of hfl) (atI_last _ _) ?_)
    refine rdSeq ?_
    walk_at "rd"
    obtain ⟨dg, cv, hv, hoG, hcv, hhv⟩ := h2.topF.ob
    obtain ⟨t, xs, rfl, sq, fl⟩ := hhv.inv
    have hlen := fl.len
    rw [List.length_map] at hlen
    refine i_fld T.cl_Frame T.nf_Frame_handlers hoG rfl ⟨t, rfl, ⟨xs, sq.sq⟩, ?_⟩
    refine i_forG (walk_tup (K := K) (a := t) (xs := xs)) (fun j σ' H' => H' = H2 ∧ (∀ x ∈ F.p.hds.take j, ¬ (x.1 ≤ F.p.place ∧ F.p.place < x.2.1)) ∧ ∃ y3 y4 y5, σ' = [some (.ref A.a), some (.int code), some (.ref F.f), y3, y4, y5]) ⟨rfl, by simp, _, _, _, rfl⟩ (fun i σ' H' _ h => by rw [h.1]; exact sq.sq) ?_ ?_
    · rintro j x σ' H' H3 hj ⟨rfl, hno, y3, y4, y5, rfl⟩ ⟨rfl, hx⟩
      have hj2 : j < F.p.hds.length := by omega
      obtain ⟨d, hd, fx⟩ := fl.getV hx
      rw [List.getElem?_map, List.getElem?_eq_getElem hj2] at hd
      cases hd
      obtain ⟨t2, xs2, rfl, sq2, fl2⟩ := fx.inv
      cases fl2 with | cons f1 fl2 => ?_
      cases fl2 with | cons f2 fl2 => ?_
      cases fl2 with | cons f3 fl2 => ?_
      cases fl2
      cases f1
      cases f2
      cases f3
      refine i_gTup3 rfl sq2.sq ?_
      walk_at "rd"
      have more : ¬ (F.p.hds[j].1 ≤ F.p.place ∧ F.p.place < F.p.hds[j].2.1) → ∀ x ∈ F.p.hds.take (j + 1), ¬ (x.1 ≤ F.p.place ∧ F.p.place < x.2.1) := fun hn y hy => by
        rw [List.take_add_one, List.getElem?_eq_getElem hj2] at hy
        rcases List.mem_append.mp hy with k | k
        · exact hno y k
        · rw [List.mem_singleton.mp k]; exact hn
      refine i_fld T.cl_Frame T.nf_Frame_place hoG rfl ⟨_, rfl, i_if2' (fun a b => ?_) (fun hn => ⟨rfl, more hn⟩) (fun hn => ⟨rfl, more hn⟩)⟩
      have hk := takesH_at hno (List.getElem?_eq_getElem hj2) ⟨a, b⟩
      refine rdSeq ?_
      walk_at "rd"
      intro s5 hs5
      have t5 := same_new (o := .lst [.int code]) hs5
      refine i_fldS T.cl_Frame T.nf_Frame_stack (t5 _ _ hoG) (show 8 < 1000 by decide) ?_
      refine rdSeq ?_
      walk_at "rd"
      refine i_fldS T.cl_Frame T.nf_Frame_place upd_same (show 8 < 1000 by decide) ?_
      rw [upd_upd]
      walk_at "rd"
      obtain ⟨h6, m6⟩ := h2.seize (xs := [code]) (k := F.p.hds[j].2.2) hoG hcv (.tup sq fl) hs5
      refine q1 ({ F.p with stack := [code], place := F.p.hds[j].2.2 } :: (mapP fs2).reverse) ?_ _ _ ?_ h6 (m2.trans m6)
      · rw [← e1, mapP_rev]
        unfold caughtR
        rw [hk]
      · rw [mapP_app, List.reverse_cons, List.reverse_reverse]; rfl
    · rintro σ' H3 ⟨rfl, hno, y3, y4, y5, rfl⟩
      walk_at "rd"
      rw [hlen, List.take_length] at hno
      obtain ⟨h4, m4⟩ := h2.pop
      refine i_fld T.cl_Machine T.nf_Machine_frames ho2 rfl ⟨.inl ⟨rfl, _, sqL_of hfl⟩, A.fl, _, _, rfl, rfl, hfl, last_at, ?_⟩
      rw [List.dropLast_concat]
      refine ⟨fs2.length, by simp, fs2, rfl, h4, m2.trans m4, ?_, fun G hG => hl1 G (List.mem_append_left _ hG)⟩
      rw [← e1, mapP_rev]
      conv => rhs; unfold caughtR
      rw [takesH_take hno]
/-! #### machines are made -/
def sp_Machine_init {K : PySem.W.Frag} {mg : Str → Option Value} (T : Txt K mg) : Sp := fun vs H Q _ => ∃ (x dx wa h j nd : Addr) (sk : V), vs = [.ref x, .ref wa, .ref h, .ref j, sk, .ref nd] ∧ H x = some (.ins T.c_Machine dx []) ∧
  ∀ fl H', H fl = none → Kp [x] H H' → TupK H H' → MS T H' ⟨x, fl, h, j, wa, nd, sk⟩ [] 0 .non → Q .non H'
theorem ok_Machine_init (T : Txt K mg) : FnOk P w K mg base CX0 1 T.f_Machine_init T.d_Machine_init ["self", "world", "heap", "journal", "seek", "needless"] (sp_Machine_init T) := by
  refine T.k_Machine_init.ok sc_Machine_init (fun vs H Q E h => ?_) (fun cdv A outer s H vs Q E hr h => ?_)
  · obtain ⟨x, dx, wa, h, j, nd, sk, rfl, _⟩ := h
    rfl
  · obtain ⟨x, dx, wa, h, j, nd, sk, rfl, hx, q⟩ := h
    refine ⟨_, (pss_cons (ps_fldK K (pv 0) (pv 1) rfl)
      (pss_cons (ps_fldK K (pv 0) (pv 2) rfl)
      (pss_cons (ps_fldK K (pv 0) (pv 3) rfl)
      (pss_cons (ps_fldK K (pv 0) (pv 4) rfl)
      (pss_cons (ps_fldK K (pv 0) (pv 5) rfl)
      (pss_cons (ps_fldK K (pv 0) (pe_lst pa_nil) rfl)
      (pss_cons (ps_fldK K (pv 0) pe_int rfl)
      (pss_cons (ps_fldK K (pv 0) pe_int rfl)
      (pss_one (ps_fldK K (pv 0) pe_non rfl)))))))))), ?_⟩
    walk_at "rd"
    refine rdSeq ?_
    walk_at "rd"
    refine i_fldS T.cl_Machine T.nf_Machine_world hx (by decide) ?_
    refine rdSeq ?_
    walk_at "rd"
    refine i_fldS T.cl_Machine T.nf_Machine_heap upd_same (show 1 < 1000 by decide) ?_
    rw [upd_upd]
    refine rdSeq ?_
    walk_at "rd"
    refine i_fldS T.cl_Machine T.nf_Machine_journal upd_same (show 2 < 1000 by decide) ?_
    rw [upd_upd]
    refine rdSeq ?_
    walk_at "rd"
    refine i_fldS T.cl_Machine T.nf_Machine_seek upd_same (show 3 < 1000 by decide) ?_
    rw [upd_upd]
    refine rdSeq ?_
    walk_at "rd"
    refine i_fldS T.cl_Machine T.nf_Machine_needless upd_same (show 4 < 1000 by decide) ?_
    rw [upd_upd]
    refine rdSeq ?_
    walk_at "rd"
    intro fl hfl
    have nfl : fl ≠ x := fun e => by rw [e, upd_same] at hfl; cases hfl
    have hfl0 : H fl = none := by rwa [upd_ne nfl] at hfl
    refine i_fldS T.cl_Machine T.nf_Machine_frames ((upd_ne nfl.symm).trans upd_same) (show 5 < 1000 by decide) ?_
    refine rdSeq ?_
    walk_at "rd"
    refine i_fldS T.cl_Machine T.nf_Machine_steps upd_same (show 6 < 1000 by decide) ?_
    rw [upd_upd]
    refine rdSeq ?_
    walk_at "rd"
    refine i_fldS T.cl_Machine T.nf_Machine_looks upd_same (show 7 < 1000 by decide) ?_
    rw [upd_upd]
    walk_at "rd"
    refine i_fldS T.cl_Machine T.nf_Machine_result upd_same (show 8 < 1000 by decide) ?_
    rw [upd_upd]
    have kk : ∀ (f2 f3 : List (Str × V)), Kp [x] H (upd (upd (upd H x (.ins T.c_Machine dx f2)) fl (.lst [])) x (.ins T.c_Machine dx f3)) := fun f2 f3 b o nb e => by
      have nb : b ≠ x := by simpa using nb
      rw [upd_ne nb, upd_ne (ne_of_none e hfl0), upd_ne nb]
      exact e
    refine q fl _ hfl0 (kk _ _) (fun p ys e => ?_) ⟨⟨dx, by rw [upd_same]; rfl⟩, by rw [upd_ne nfl]; exact upd_same, by simp, by simp [ownM, nfl.symm]⟩
    exact kk _ _ p _ (by intro k; rw [List.mem_singleton.mp k, hx] at e; cases e) e
/-! #### run -/
inductive Fin1 where
  | ret (r : V)
  | gone
  | fault (v : Int)
structure GoodF (gs : List Pf) (F : Pf) (n : Nat) (i : Ins) : Prop where
  at_ : F.code[F.place]? = some i
  n : n ≤ 1000
  gs : gs.length ≤ 900
  wd : ∀ x ∈ F.stack, Wrd x
  st : F.stack.length ≤ 900
inductive RunR (N : MN) (f : Fin1) : Nat → List Pf → Nat → V → Prop
  | fin {k n r} (e : f = .ret r) : RunR N f k [] n r
  | st {k ps gs F n i qs n' r} (e : ps = gs ++ [F]) (g : GoodF gs F n i) (h : PerfR N gs F n i (.st qs n')) (t : RunR N f k qs n' r) : RunR N f (k + 1) ps n r
  | done {k ps gs F n i r r'} (e : ps = gs ++ [F]) (g : GoodF gs F n i) (h : PerfR N gs F n i (.done r')) (ef : f = .ret r') : RunR N f (k + 1) ps n r
  | gone {k ps gs F n i r} (e : ps = gs ++ [F]) (g : GoodF gs F n i) (h : PerfR N gs F n i .gone) (ef : f = .gone) : RunR N f (k + 1) ps n r
  | caught {k ps gs F n i v qs n' us r} (e : ps = gs ++ [F]) (g : GoodF gs F n i) (h : PerfR N gs F n i (.fault v qs n')) (hl : ∀ q ∈ qs, q.hds.length ≤ 1000) (hc : caughtR v qs.reverse = some us) (t : RunR N f k us.reverse n' r) : RunR N f (k + 1) ps n r
  | fault {k ps gs F n i v qs n' r} (e : ps = gs ++ [F]) (g : GoodF gs F n i) (h : PerfR N gs F n i (.fault v qs n')) (hl : ∀ q ∈ qs, q.hds.length ≤ 1000) (hc : caughtR v qs.reverse = none) (ef : f = .fault v) : RunR N f (k + 1) ps n r
def ContR (N : MN) (f : Fin1) (k : Nat) (r : V) : Out1 → Prop
  | .st qs n => RunR N f k qs n r
  | .done r' => f = .ret r'
  | .gone => f = .gone
  | .fault v qs n => (∀ q ∈ qs, q.hds.length ≤ 1000) ∧ ((∃ us, caughtR v qs.reverse = some us ∧ RunR N f k us.reverse n r) ∨ (caughtR v qs.reverse = none ∧ f = .fault v))
theorem RunR.inv {N : MN} {f : Fin1} {μ n : Nat} {ps gs : List Pf} {F : Pf} {r : V} (h : RunR N f μ ps n r) (e : ps = gs ++ [F]) : ∃ k i o, μ = k + 1 ∧ GoodF gs F n i ∧ PerfR N gs F n i o ∧ ContR N f k r o := by
  have sp : ∀ {gs2 : List Pf} {F2 : Pf}, ps = gs2 ++ [F2] → gs2 = gs ∧ F2 = F := fun {gs2 F2} e2 => by
    obtain ⟨h1, h2⟩ := List.append_inj' (e2.symm.trans e) rfl
    exact ⟨h1, by injection h2⟩
  cases h with
  | fin => exact absurd e (by simp)
  | st e2 g h t => obtain ⟨rfl, rfl⟩ := sp e2; exact ⟨_, _, _, rfl, g, h, t⟩
  | done e2 g h t => obtain ⟨rfl, rfl⟩ := sp e2; exact ⟨_, _, _, rfl, g, h, t⟩
  | gone e2 g h t => obtain ⟨rfl, rfl⟩ := sp e2; exact ⟨_, _, _, rfl, g, h, t⟩
  | caught e2 g h hl hc t => obtain ⟨rfl, rfl⟩ := sp e2; exact ⟨_, _, _, rfl, g, h, hl, .inl ⟨_, hc, t⟩⟩
  | fault e2 g h hl hc t => obtain ⟨rfl, rfl⟩ := sp e2; exact ⟨_, _, _, rfl, g, h, hl, .inr ⟨hc, t⟩⟩
def EndR {K : PySem.W.Frag} {mg : Str → Option Value} (T : Txt K mg) (A : MA) (X : List Addr) (H : Hp) (Q : VK) (E : XK) : Fin1 → Prop
  | .ret r => ∀ H' fl n, MS T H' { A with fl := fl } [] n r → Mo H X H' (ownM { A with fl := fl } []) → Q r H'
  | .gone => ∀ H' fl fs n r, MS T H' { A with fl := fl } fs n r → Mo H X H' (ownM { A with fl := fl } fs) → E (.ref T.c_StepsGone) none H'
  | .fault v => ∀ H' fl n r dx, MS T H' { A with fl := fl } [] n r → Mo H X H' (ownM { A with fl := fl } []) → H' dx = none → E (.ref T.c_Fault) (some dx) (upd H' dx (.xd [("code", .int v)]))
def sp_Machine_run {K : PySem.W.Frag} {mg : Str → Option Value} (T : Txt K mg) : Sp := fun vs H Q E => ∃ (A : MA) (fs : List Fm) (n : Nat) (res : V) (N : MN) (num row : Nat) (nm : Str) (v : Int) (m : Md) (k : Nat) (c : Cl) (r : Rw) (o : Ob) (g : Nat) (mt : Mt) (code : List Ins) (hds : List (Nat × Nat × Nat)) (kk : Nat) (f : Fin1),
  vs = [.ref A.a, .int num, .str nm, .int v] ∧ MS T H A fs n res ∧ (∀ H' X', Mo H (ownM A fs) H' X' → EnvM T H' A N) ∧ (num, o) ∈ N.M ∧ o.kind = g ∧ ClAt N.ws g m k c ∧ c.tb[row]? = some r ∧ c.tb.length ≤ 1000 ∧ (∀ j r2, c.tb[j]? = some r2 → r2.h.nm = nm → row ≤ j) ∧ r.h.nm = nm ∧
  m.mts[r.m]? = some mt ∧ CodeOf mt code hds ∧ mt.vars.length ≤ 1000 ∧ RunR N f kk [newP m.nm r.m code hds o.owner ((num : Int) :: [v] ++ List.replicate mt.vars.length 0)] 0 .non ∧ EndR T A (ownM A fs) H Q E f
theorem ok_Machine_run (T : Txt K mg) : FnOk P w K mg base (L2.CX P w) 10 T.f_Machine_run T.d_Machine_run ["self", "number", "name", "value"] (sp_Machine_run T) := by
  refine T.k_Machine_run.okX sc_Machine_run (fun vs H Q E h => ?_) (fun cdv A0 outer s H vs Q E hr h => ?_)
  · obtain ⟨A, fs, n, res, N, num, row, nm, v, m, k, c, r, o, g, mt, code, hds, kk, f, rfl, _⟩ := h
    rfl
  · obtain ⟨A, fs, n, res, N, num, row, nm, v, m, k, c, r, o, g, mt, code, hds, kk, f, rfl, h, hE, hob, hg, hcl, hrow, htl, hfst, hnm, hmt, hcode, hvars, hrun, q⟩ := h
    refine ⟨_, (pss_cons (ps_fldK K (pv 0) (pe_lst pa_nil) rfl)
      (pss_cons (ps_fldK K (pv 0) pe_int rfl)
      (pss_cons (ps_fldK K (pv 0) pe_non rfl)
      (pss_cons (ps_set (i := 4) sc_Machine_run.nd rfl (.inl rfl) (pe_meth (pe_fldK K (pv 0) rfl) T.cl_Heap T.me_Heap_kind (ok_Heap_kind T) (hr.mono (by decide)) T.b_Heap_kind .nil pass0 (pa_cons (pv 1) pa_nil)))
      (pss_cons (ps_set (i := 5) sc_Machine_run.nd rfl (.inl rfl) (pe_ix (ix_tupK K) (pe_ix (ix_tupK K) (pe_ix (ix_tupK K) (pe_methS (pe_fldK K (pv 0) rfl) T.cl_World T.me_World_module (ok_World_module T) (hr.mono (by decide)) T.b_World_module (fun σ => passAt (takes_of rfl rfl rfl rfl) σ) (pa_cons (pe_meth (pe_fldK K (pv 0) rfl) T.cl_World T.me_World_package (ok_World_package T) (hr.mono (by decide)) T.b_World_package .nil pass0 (pa_cons (pv 4) pa_nil)) pa_nil)) pe_int (fun _ _ => rfl)) (pe_meth (pe_fldK K (pv 0) rfl) T.cl_World T.me_World_own (ok_World_own T) (hr.mono (by decide)) T.b_World_own .nil pass0 (pa_cons (pv 4) pa_nil)) (fun _ _ => rfl)) pe_int (fun _ _ => rfl)))
      (pss_cons (ps_set (i := 6) sc_Machine_run.nd rfl (.inl rfl) (pe_ix (ix_listK K) (pe_lc (own := [("place", 9), ("found", 10)]) (g := gTup K 2 (gCons (gName 9) (gCons (gName 10) gNil))) rfl sc_Machine_run.nd (pi_enumT (by rfl) T.m_enumerate (pa_cons (pv 5) pa_nil)) (blkOk_by (own := [("place", 9), ("found", 10)]) (N := ["self", "number", "name", "value", "g", "table", "row", "frame", "fault", "place", "found"]) (sc := defScope s_Machine_run) (by decide +kernel)) (fun _ _ _ _ _ => pg_tup rfl (pgs_cons (pg_name (i := 9) sc_Machine_run.nd rfl (Or.inl rfl)) (pgs_cons (pg_name (i := 10) sc_Machine_run.nd rfl (Or.inl rfl)) pgs_nil))) (fun _ _ _ _ _ => pts_one (pt_cmpR op_eq (pe_ix (ix_tupK K) (pv 10) pe_int (fun _ _ => rfl)) (pv 2) (nomark _))) (fun _ _ _ _ _ => (pv 9))) pe_int (fun _ _ => rfl)))
      (pss_cons (ps_expr (pe_meth (pv 0) T.cl_Machine T.me_Machine__enter (ok_Machine__enter T) (hr.mono (by decide)) T.b_Machine__enter .nil pass0 (pa_cons (pv 1) (pa_cons (pv 4) (pa_cons (pv 6) (pa_cons (pe_lst (pa_cons (pv 3) pa_nil)) pa_nil))))))
      (pss_cons (ps_while (passes_of rfl) (pt_cmpR (op_nilNe hr.units) (pe_fldK K (pv 0) rfl) (pe_lst pa_nil) (nomark _)) (pss_cons (ps_set (i := 7) sc_Machine_run.nd rfl (.inl rfl) (pe_ix (ix_listK K) (pe_fldK K (pv 0) rfl) (pe_un un_neg pe_int) (fun _ _ => rfl)))
      (pss_one (ps_try_asX (i := 8) rfl rfl sc_Machine_run.nd rfl rfl ⟨rfl, by decide, .inl T.g_Fault⟩ (takes_of rfl rfl rfl rfl) (fun W pn xe tk tk2 po => (pss_one (ps_expr (pe_methS (pv 0) T.cl_Machine T.me_Machine__perform (ok_Machine__perform T) (hr.mono (by decide)) T.b_Machine__perform (fun σ => L2N.passAt tk σ) (pa_cons (pv 7) (pa_cons (pe_ix (ix_tupK K) (pe_fldK K (pv 7) rfl) (pe_fldK K (pv 7) rfl) (fun _ _ => rfl)) pa_nil)))))) (fun a oe cls d pn xe2 hz hf tks hot => (pss_one (ps_if (pt_not (pt_val (L2H.pe_methH (pv 0) T.cl_Machine T.me_Machine__caught (okH_Machine__caught T) (L2H.roomH_mark (hr.mono (by decide)) _) hot T.b_Machine__caught passH0 (pa_cons (pe_wishY (pe_xf T.xf_Fault T.on_Fault_code hz hf (pv 8) rfl)) pa_nil)))) (pss_one (L2H.ps_raiseH hot tks (L2H.PMk5.pmk (L2H.pmk5_oexH T.ox_Fault T.in_Fault T.ti_Fault (okH_Fault_init T) (L2H.roomH_mark (hr.mono (by decide)) _) hot T.b_Fault_init passH00 rfl T.g_Fault (pa_cons (pe_wishY (pe_xf T.xf_Fault T.on_Fault_code hz hf (pv 8) rfl)) pa_nil))))) pss_nil)))))))
      (pss_one (ps_ret (pe_fldK K (pv 0) rfl))))))))))), ?_⟩
    walk_at "rd"
    refine rdSeq ?_
    walk_at "rd"
    intro fl hfl
    obtain ⟨dm, hom⟩ := h.ob
    have s1 := same_new (o := .lst []) hfl
    have nfl : fl ≠ A.a := fun e => by rw [e, hom] at hfl; cases hfl
    refine i_fldS T.cl_Machine T.nf_Machine_frames (s1 _ _ hom) (show 9 < 1000 by decide) ?_
    refine rdSeq ?_
    walk_at "rd"
    refine i_fldS T.cl_Machine T.nf_Machine_steps upd_same (show 9 < 1000 by decide) ?_
    rw [upd_upd]
    refine rdSeq ?_
    walk_at "rd"
    refine i_fldS T.cl_Machine T.nf_Machine_result upd_same (show 9 < 1000 by decide) ?_
    rw [upd_upd]
    have kp2 : Kp [A.a] H (upd (upd H fl (.lst [])) A.a (.ins T.c_Machine dm (mfs { A with fl := fl } 0 .non))) := (Kp.of s1).trans (Kp.set (by simp))
    have h2 : MS T (upd (upd H fl (.lst [])) A.a (.ins T.c_Machine dm (mfs { A with fl := fl } 0 .non))) { A with fl := fl } [] 0 .non := ⟨⟨dm, upd_same⟩, (upd_ne nfl).trans upd_same, by simp, by simp [ownM, nfl.symm]⟩
    have m2 : Mo H (ownM A fs) (upd (upd H fl (.lst [])) A.a (.ins T.c_Machine dm (mfs { A with fl := fl } 0 .non))) (ownM { A with fl := fl } []) := by
      refine ⟨⟨kp2.mono (by simp [ownM]), fun x hx => ?_⟩, (TupK.of s1).trans (TupK.mut (s1 _ _ hom) (fun _ h => nomatch h))⟩
      rcases List.mem_cons.mp hx with rfl | hx
      · exact .inl (by simp [ownM])
      · rcases List.mem_cons.mp hx with rfl | hx
        · exact .inr hfl
        · simp at hx
    have eob : upd (upd H fl (.lst [])) A.a (.ins T.c_Machine dm (mfs { A with fl := fl } 0 .non)) A.a = _ := upd_same
    show tSeq _ _ _ _ (upd (upd H fl (.lst [])) A.a (.ins T.c_Machine dm (mfs { A with fl := fl } 0 .non)))
    generalize upd (upd H fl (.lst [])) A.a (.ins T.c_Machine dm (mfs { A with fl := fl } 0 .non)) = H2 at *
    have hEA : ∀ {H' : Hp} {X' : List Addr}, Mo H (ownM A fs) H' X' → EnvM T H' { A with fl := fl } N := fun m => ⟨(hE _ _ m).wd, (hE _ _ m).hh, (hE _ _ m).eh⟩
    have hE2 := hEA m2
    obtain ⟨S, b, tm, f0, pos, hold⟩ := id hE2.hh
    obtain ⟨dh, hoh⟩ := hold.at_.ob
    rw [hE2.eh] at hoh
    obtain ⟨⟨dw, how⟩, _, _⟩ := id hE2.wd
    refine rdSeq ?_
    walk_at "rd"
    refine i_fld T.cl_Machine T.nf_Machine_heap eob rfl (i_meth hoh rfl ⟨N.A, N.M, num, o, by rw [hE2.eh], hE2.hh, hob, ?_⟩)
    rw [hg]
    refine rdSeq ?_
    walk_at "rd"
    refine i_fld T.cl_Machine T.nf_Machine_world eob rfl (i_meth how rfl (i_fld T.cl_Machine T.nf_Machine_world eob rfl (i_meth how rfl ⟨A.wa, N.md, N.cl, N.ws, g, (m.nm, k), rfl, hE2.wd, hcl.hg, ⟨A.wa, N.md, N.cl, N.ws, m.nm, rfl, hE2.wd, fun m3 mv e hmv => ?_, fun e => (by rw [hcl.hm] at e; cases e)⟩⟩)))
    rw [hcl.hm] at e
    cases e
    refine i_ixF (i := 5) hmv (Md.at5 m) fun x5 hx5 => i_fld T.cl_Machine T.nf_Machine_world eob rfl (i_meth how rfl ⟨A.wa, N.md, N.cl, N.ws, g, (m.nm, k), rfl, hE2.wd, hcl.hg, i_ixF (i := k) hx5 (cls_at hcl.hc) fun xc hxc => i_ixF (i := 4) hxc rfl fun xt hxt => ?_⟩)
    refine rdSeq ?_
    walk_at "rd"
    obtain ⟨ta, xs, rfl, sq, flx⟩ := hxt.inv
    have hlen := flx.len
    rw [List.length_map] at hlen
    refine ⟨ta, rfl, xs, sq.sq, ?_⟩
    intro D hD
    refine lc_it (walk_enumT (K := K) (a := ta) (xs := xs)) (fun i H' => Same H2 H' ∧ H' D = some (.lst (((List.range i).filter fun j => decide ((c.tb[j]?).map (fun r => r.h.nm) = some nm)).map fun j => V.int (j : Nat)))) ⟨same_new hD, upd_same⟩ (fun i H' _ e => (sq.up (.of e.1)).sq) ?_ ?_
    · rintro i x H1 H3 hi ⟨e1, e2⟩ ⟨tp, y, rfl, htp, rfl, hy⟩
      have hi2 : i < c.tb.length := by omega
      have sT := same_new (o := .tup [.int (i : Nat), y]) htp
      obtain ⟨d, hd, fx⟩ := flx.getV hy
      rw [List.getElem?_map, List.getElem?_eq_getElem hi2] at hd
      cases hd
      refine i_gTup2 rfl (sqT_of upd_same) ⟨rfl, ?_⟩
      walk_at "rd"
      refine i_ixFs (i := 0) (fx.up (.of (e1.trans sT))) rfl ?_
      have er : (List.range (i + 1)).filter (fun j => decide ((c.tb[j]?).map (fun r => r.h.nm) = some nm)) = (List.range i).filter (fun j => decide ((c.tb[j]?).map (fun r => r.h.nm) = some nm)) ++ (if c.tb[i].h.nm = nm then [i] else []) := by
        rw [List.range_succ, List.filter_append]
        congr 1
        by_cases e : c.tb[i].h.nm = nm <;> simp [List.filter_cons, List.getElem?_eq_getElem hi2, e]
      refine ⟨rfl, ite2 (fun e => ?_) (fun e => ?_)⟩
      · rw [if_pos (V.str.inj e)] at er
        refine ⟨_, sT _ _ e2, ?_, fun b ob hb => ?_, ?_⟩
        · rw [List.length_map]
          have h1 := List.length_filter_le (fun j => decide ((c.tb[j]?).map (fun r => r.h.nm) = some nm)) (List.range i)
          rw [List.length_range] at h1
          omega
        · rw [upd_ne (ne_of_none hb hD)]
          exact sT _ _ (e1 _ _ hb)
        · rw [upd_same, er, List.map_append]; rfl
      · rw [if_neg (fun k => e (by rw [k]))] at er
        refine ⟨e1.trans sT, ?_⟩
        rw [er, List.append_nil]
        exact sT _ _ e2
    · rintro H1 ⟨e1, e2⟩
      rw [hlen] at e2
      have ehd : ((List.range c.tb.length).filter fun j => decide ((c.tb[j]?).map (fun r => r.h.nm) = some nm)).head? = some row := by
        rw [List.head?_filter, List.find?_range_eq_some]
        refine ⟨by rw [hrow]; simp [hnm], List.mem_range.mpr (List.getElem?_eq_some_iff.mp hrow).1, fun j hj => ?_⟩
        have hj2 : j < c.tb.length := Nat.lt_trans hj (List.getElem?_eq_some_iff.mp hrow).1
        rw [List.getElem?_eq_getElem hj2]
        simp
        intro e
        have := hfst j _ (List.getElem?_eq_getElem hj2) e
        omega
      obtain ⟨js, ejs⟩ : ∃ js, ((List.range c.tb.length).filter fun j => decide ((c.tb[j]?).map (fun r => r.h.nm) = some nm)) = row :: js := List.head?_eq_some_iff.mp ehd
      rw [ejs] at e2
      refine i_ixL (sqL_of e2) (v := .int (row : Nat)) (atI_nat (j := 0) rfl) ?_
      have h3 := h2.same e1
      have m3 := m2.trans (Mo.same (X := ownM { A with fl := fl } []) e1)
      have eob3 := e1 _ _ eob
      refine rdSeq ?_
      walk_at "rd"
      refine i_meth eob3 rfl fun lv hlv => ?_
      have s4 := same_new (o := .lst [.int v]) hlv
      have h4 := h3.same s4
      have m4 := m3.trans (Mo.same (X := ownM { A with fl := fl } []) s4)
      refine ⟨{ A with fl := fl }, [], 0, .non, N, num, g, row, lv, [v], m, k, c, r, mt, code, hds, o, rfl, h4, hEA m4, upd_same, by simp, by simp, hcl, hrow, hmt, hcode, hvars, hob, fun H5 F eF h5 m5 => ?_⟩
      have m5 := m4.trans m5
      have hrun : RunR N f kk (mapP ([] ++ [F])) 0 .non := by
        show RunR N f kk [F.p] 0 .non
        rw [eF]; exact hrun
      clear eF h4 m4 s4 hlv h3 m3 eob3 e1 e2 h2 m2 hE2
      refine rdSeq ?_
      walk_at "rd"
      refine i_while (fun μ σ H' => ∃ gs n r, RunR N f μ (mapP gs) n r ∧ MS T H' { A with fl := fl } gs n r ∧ Mo H (ownM A fs) H' (ownM { A with fl := fl } gs) ∧ ∃ x7, σ = [some (.ref A.a), some (.int num), some (.str nm), some (.int v), some (.int g), some (.ref ta), some (.int row), x7, none, none, none]) kk ⟨_, _, _, hrun, h5, m5, _, rfl⟩ ?_
      rintro μ σ H6 ⟨gs, n6, r6, hr6, h6, m6, x7, rfl⟩
      obtain ⟨dm6, hom6⟩ := h6.ob
      walk_at "rd"
      refine i_fld T.cl_Machine T.nf_Machine_frames hom6 rfl fun p hp => ?_
      have sp := same_new (o := .lst []) hp
      have h7 := h6.same sp
      have m7 := m6.trans (Mo.same (X := ownM { A with fl := fl } gs) sp)
      refine i_nil (sqL_of h7.fl) (sqL_of upd_same) ?_
      have hom7 := sp _ _ hom6
      generalize upd H6 p (.lst []) = H7 at *
      rcases List.eq_nil_or_concat gs with e0 | ⟨fs2, F2, e0⟩
      · subst e0
        refine ⟨_, rfl, ifN (by simp) ?_⟩
        cases hr6 with
        | fin e =>
          subst e
          walk_at "rd"
          exact i_fld T.cl_Machine T.nf_Machine_result hom7 rfl (q H7 fl n6 h7 m7)
        | st e => exact absurd e (by simp [mapP])
        | done e => exact absurd e (by simp [mapP])
        | gone e => exact absurd e (by simp [mapP])
        | caught e => exact absurd e (by simp [mapP])
        | fault e => exact absurd e (by simp [mapP])
      have e0 : gs = fs2 ++ [F2] := by simpa using e0
      subst e0
      refine ⟨_, rfl, ifY (by simp) (i_whT ?_)⟩
      refine rdSeq ?_
      walk_at "rd"
      have hfl7 := h7.fl
      rw [List.map_append, List.map_singleton] at hfl7
      refine i_fld T.cl_Machine T.nf_Machine_frames hom7 rfl (i_ixL (sqL_of hfl7) (atI_last _ _) ?_)
      walk_at "rd"
      obtain ⟨k2, i, o1, rfl, hgood, hperf, hcont⟩ := hr6.inv (gs := mapP fs2) (F := F2.p) (by rw [mapP_app]; rfl)
      obtain ⟨dg, cv, hv, hoG, hcv, hhv⟩ := h7.topF.ob
      refine i_meth hom7 rfl (i_fld T.cl_Frame T.nf_Frame_code hoG rfl (i_fld T.cl_Frame T.nf_Frame_place hoG rfl (i_ixF (i := F2.p.place) hcv (by rw [List.getElem?_map, hgood.at_]; rfl) fun iv hiv => ⟨{ A with fl := fl }, fs2, F2, n6, r6, N, iv, i, o1, rfl, h7, fun H' X' mo => hEA (m7.trans mo), hiv, hgood.n, by have := hgood.gs; simp [mapP] at this; omega, hgood.wd, hgood.st, hperf, ?_⟩)))
      cases o1 with
      | st qs n8 =>
        intro H8 gs8 e8 h8 m8
        exact ⟨k2, by omega, gs8, n8, r6, by rw [e8]; exact hcont, h8, m7.trans m8⟩
      | done r8 =>
        intro H8 n8 h8 m8
        exact ⟨k2, by omega, [], n8, r8, .fin hcont, h8, m7.trans m8⟩
      | gone =>
        intro H8 gs8 n8 h8 m8
        have hcont : f = .gone := hcont
        subst hcont
        exact ⟨false, T.ex_StepsGone_Fault, (fun z => nomatch z), fun _ => q H8 fl gs8 n8 r6 h8 (m7.trans m8)⟩
      | fault v8 qs n8 =>
        intro H8 gs8 dx e8 h8 m8 hdx
        refine i_catchAs T.ex_Fault_Fault fun a na => ?_
        have s9 := same_new (o := .xd [("code", .int v8)]) hdx
        have h9 := h8.same s9
        have m9 := m7.trans (m8.trans (Mo.same (X := ownM { A with fl := fl } gs8) s9))
        obtain ⟨dm9, hom9⟩ := h9.ob
        have ndx : dx ∉ ownM { A with fl := fl } gs8 := fun e => by
          obtain ⟨o, e⟩ := h8.some dx e
          rw [hdx] at e; cases e
        have hdx9 : upd H8 dx (.xd [("code", .int v8)]) dx = some (.xd [("code", .int v8)]) := upd_same
        generalize upd H8 dx (.xd [("code", .int v8)]) = H9 at *
        walk_at "rd"
        obtain ⟨hl8, hcc⟩ := hcont
        refine i_meth hom9 rfl (i_xf hdx9 rfl ⟨{ A with fl := fl }, gs8, n8, r6, v8, rfl, h9, fun G hG => hl8 G.p (by rw [← e8]; exact List.mem_map_of_mem hG), fun us hus H10 gs10 e10 h10 m10 => ?_, fun hno H10 h10 m10 => ?_⟩)
        · refine ⟨true, rfl, ifN (by simp) ⟨k2, by omega, gs10, n8, r6, ?_, h10, m9.trans m10⟩⟩
          rw [e10]
          rcases hcc with ⟨us2, c1, c2⟩ | ⟨c1, _⟩
          · rw [e8, c1] at hus; cases hus; exact c2
          · rw [e8, c1] at hus; cases hus
        · refine ⟨false, rfl, ifY rfl (i_xf (m10.mv.kp dx _ ndx hdx9) rfl (i_mkO1 fun d2 hd2 => ?_))⟩
          rcases hcc with ⟨us2, c1, c2⟩ | ⟨c1, c2⟩
          · rw [e8, c1] at hno; cases hno
          · subst c2
            exact q H10 fl n8 r6 d2 h10 (m9.trans m10) hd2

/-! ### the drawn code, run plainly -/
def RunE (N : MN) (f : Fin1) (ps : List Pf) (n : Nat) (r : V) : Prop := ∃ k, RunR N f k ps n r
def codeD (R : Int) : List Ins := [.const R, .store 2, .step, .load 2, .jumpnot 10, .load 2, .const 1, .op "-", .store 2, .jump 2, .load 1, .jumpnot 20, .load 0, .load 1, .const 1, .op "-", .callc 0 0, .const 1, .op "+", .retv, .const 100, .retv, .const 1000, .op "+", .retv]
def PF (R : Int) (hd : List (Nat × Nat × Nat)) (c x : Int) (p : Nat) (st : List Int) : Pf := ⟨"Deep", 0, codeD R, hd, 1, p, [1, c, x], st⟩
section
variable {N : MN} {f : Fin1}
theorem e_work {gs : List Pf} {F : Pf} {n : Nat} {i : Ins} {sl st : List Int} {r : V} (h : F.code[F.place]? = some i) (hw : workI i F.slots F.stack = some (sl, st)) (hn : n ≤ 1000) (hg : gs.length ≤ 900) (hs : ∀ x ∈ F.stack, Wrd x) (hl : F.stack.length ≤ 900)
    (t : RunE N f (gs ++ [{ F with slots := sl, stack := st, place := F.place + 1 }]) n r) : RunE N f (gs ++ [F]) n r := by
  obtain ⟨k, t⟩ := t
  exact ⟨k + 1, .st rfl ⟨h, hn, hg, hs, hl⟩ (.work hw) t⟩
theorem e_jump {gs : List Pf} {F : Pf} {n : Nat} {i : Ins} {p : Nat} {st : List Int} {r : V} (h : F.code[F.place]? = some i) (hw : jmpTo i F.place F.stack = some (p, st)) (hn : n ≤ 1000) (hg : gs.length ≤ 900) (hs : ∀ x ∈ F.stack, Wrd x) (hl : F.stack.length ≤ 900)
    (t : RunE N f (gs ++ [{ F with place := p, stack := st }]) n r) : RunE N f (gs ++ [F]) n r := by
  obtain ⟨k, t⟩ := t
  exact ⟨k + 1, .st rfl ⟨h, hn, hg, hs, hl⟩ (.jump hw) t⟩
theorem wrapI_id {x : Int} (h : Wrd x) : wrapI x = x := by unfold Wrd at h; unfold wrapI; omega
theorem opV_subW {l r : Int} (h : Wrd (l - r)) : opV "-" l r = .int (l - r) := by
  show V.int (wrapI (l - r)) = _
  rw [wrapI_id h]
theorem opV_addW {l r : Int} (h : Wrd (l + r)) : opV "+" l r = .int (l + r) := by
  show V.int (wrapI (l + r)) = _
  rw [wrapI_id h]
theorem work_sub {l r : Int} {sl : List Int} (h : Wrd (l - r)) : workI (.op "-") sl [l, r] = some (sl, [l - r]) := by
  show (match opV "-" l r with | .int x => some ([] ++ [x]) | _ => none).map (fun s => (sl, s)) = _
  rw [opV_subW h]; rfl
theorem work_sub3 {z l r : Int} {sl : List Int} (h : Wrd (l - r)) : workI (.op "-") sl [z, l, r] = some (sl, [z, l - r]) := by
  show (match opV "-" l r with | .int x => some ([z] ++ [x]) | _ => none).map (fun s => (sl, s)) = _
  rw [opV_subW h]; rfl
theorem work_add {l r : Int} {sl : List Int} (h : Wrd (l + r)) : workI (.op "+") sl [l, r] = some (sl, [l + r]) := by
  show (match opV "+" l r with | .int x => some ([] ++ [x]) | _ => none).map (fun s => (sl, s)) = _
  rw [opV_addW h]; rfl
/-- one round at a time -/
theorem e_loop {R : Nat} {hd : List (Nat × Nat × Nat)} {gs : List Pf} {c : Nat} (hR : R ≤ 1001) (hc : c ≤ 11) (hg : gs.length ≤ 8) {r : V} : ∀ (x n : Nat), x ≤ R → n ≤ 1000 →
    (n + x + 1 ≤ 1000 → RunE N f (gs ++ [PF R hd c 0 10 []]) (n + x + 1) r) → (1000 < n + x + 1 → f = .gone) → RunE N f (gs ++ [PF R hd c x 2 []]) n r := by
  intro x
  induction x with
  | zero =>
    intro n hx hn h1 h2
    by_cases e : n = 1000
    · exact ⟨1, .gone rfl ⟨rfl, hn, by omega, by simp [PF], by simp [PF]⟩ (.stepG e) (h2 (by omega))⟩
    obtain ⟨k, t⟩ := e_work (N := N) (f := f) (gs := gs) (F := PF R hd c 0 3 []) (n := n + 1) (r := r) rfl (show workI (.load 2) [1, (c : Int), 0] [] = some _ from rfl) (by omega) (by omega) (by simp [PF]) (by simp [PF])
      (e_jump rfl (show jmpTo (.jumpnot 10) 4 [0] = some (10, []) from rfl) (by omega) (by omega) (by simp [PF, Wrd]) (by simp [PF]) (h1 (by omega)))
    exact ⟨k + 1, .st rfl ⟨rfl, hn, by omega, by simp [PF], by simp [PF]⟩ (.step e) t⟩
  | succ x ih =>
    intro n hx hn h1 h2
    by_cases e : n = 1000
    · exact ⟨1, .gone rfl ⟨rfl, hn, by omega, by simp [PF], by simp [PF]⟩ (.stepG e) (h2 (by omega))⟩
    have ih := ih (n + 1) (by omega) (by omega) (fun h => by have := h1 (by omega); rwa [show n + 1 + x + 1 = n + (x + 1) + 1 by omega]) (fun h => h2 (by omega))
    have ex : ((x + 1 : Nat) : Int) - 1 = (x : Nat) := by omega
    have w1 : Wrd ((x + 1 : Nat) : Int) := by unfold Wrd; omega
    have w2 : Wrd (1 : Int) := by unfold Wrd; omega
    have w3 : Wrd (x : Int) := by unfold Wrd; omega
    have j : jmpTo (.jumpnot 10) 4 [((x + 1 : Nat) : Int)] = some (5, []) := by
      show some (if ((x + 1 : Nat) : Int) ≠ 0 then 5 else 10, _) = _
      rw [if_pos (by omega)]; rfl
    obtain ⟨k, t⟩ := e_work (N := N) (f := f) (gs := gs) (F := PF R hd c (x + 1 : Nat) 3 []) (n := n + 1) (r := r) rfl (show workI (.load 2) [1, (c : Int), ((x + 1 : Nat) : Int)] [] = some _ from rfl) (by omega) (by omega) (by simp [PF]) (by simp [PF])
      (e_jump rfl j (by omega) (by omega) (by simpa [PF] using w1) (by simp [PF])
      (e_work rfl (show workI (.load 2) [1, (c : Int), ((x + 1 : Nat) : Int)] [] = some _ from rfl) (by omega) (by omega) (by simp [PF]) (by simp [PF])
      (e_work rfl (show workI (.const 1) [1, (c : Int), ((x + 1 : Nat) : Int)] [((x + 1 : Nat) : Int)] = some _ from rfl) (by omega) (by omega) (by simpa [PF] using w1) (by simp [PF])
      (e_work rfl (work_sub (by rw [ex]; exact w3)) (by omega) (by omega) (by simpa [PF] using ⟨w1, w2⟩) (by simp [PF])
      (e_work rfl (show workI (.store 2) [1, (c : Int), ((x + 1 : Nat) : Int)] [((x + 1 : Nat) : Int) - 1] = some ([1, (c : Int), ((x + 1 : Nat) : Int) - 1], []) from rfl) (by omega) (by omega) (by rw [ex]; simpa [PF] using w3) (by simp [PF])
      (e_jump rfl (show jmpTo (.jump 2) 9 [] = some (2, []) from rfl) (by omega) (by omega) (by simp [PF]) (by simp [PF]) (by rw [ex]; exact ih)))))))
    exact ⟨k + 1, .st rfl ⟨rfl, hn, by omega, by simp [PF], by simp [PF]⟩ (.step e) t⟩
/-- the method from its start -/
theorem e_start {R : Nat} {hd : List (Nat × Nat × Nat)} {gs : List Pf} {c : Nat} (hR : R ≤ 1001) (hc : c ≤ 11) (hg : gs.length ≤ 8) {r : V} {n : Nat} (hn : n ≤ 1000) (h1 : n + R + 1 ≤ 1000 → RunE N f (gs ++ [PF R hd c 0 10 []]) (n + R + 1) r) (h2 : 1000 < n + R + 1 → f = .gone) :
    RunE N f (gs ++ [PF R hd c 0 0 []]) n r :=
  e_work rfl (show workI (.const (R : Int)) [1, (c : Int), 0] [] = some _ from rfl) hn (by omega) (by simp [PF]) (by simp [PF])
    (e_work rfl (show workI (.store 2) [1, (c : Int), 0] [(R : Int)] = some ([1, (c : Int), (R : Int)], []) from rfl) hn (by omega) (by simp [PF, Wrd]; omega) (by simp [PF]) (e_loop hR hc hg R n (Nat.le_refl _) hn h1 h2))
/-- the frames that wait -/
def bel (R : Nat) (hd : List (Nat × Nat × Nat)) (C : Nat) : Nat → List Pf
  | 0 => []
  | i + 1 => bel R hd C i ++ [PF R hd (C - i : Nat) 0 16 []]
theorem bel_len {R : Nat} {hd : List (Nat × Nat × Nat)} {C : Nat} : ∀ i, (bel R hd C i).length = i
  | 0 => rfl
  | i + 1 => by unfold bel; rw [List.length_append, bel_len i]; rfl
theorem bel_hd {R : Nat} {hd : List (Nat × Nat × Nat)} {C : Nat} : ∀ i, ∀ q ∈ bel R hd C i, q.hds = hd
  | 0, q, h => by cases h
  | i + 1, q, h => by
    unfold bel at h
    rcases List.mem_append.mp h with h | h
    · exact bel_hd i q h
    · rw [List.mem_singleton.mp h]; rfl
theorem e_unwind {R : Nat} {hd : List (Nat × Nat × Nat)} {C : Nat} {r : V} {n : Nat} (hn : n ≤ 1000) : ∀ (i : Nat) (v : Int) (top : Pf), i ≤ 7 → 0 ≤ v → v + i ≤ 2000 → top.code[top.place]? = some .retv → top.stack = [v] → f = .ret (.int (v + i)) → RunE N f (bel R hd C i ++ [top]) n r := by
  intro i
  induction i with
  | zero =>
    intro v top hi h0 hv ht hs hf
    refine ⟨1, .done rfl ⟨ht, hn, by simp [bel], by rw [hs]; simp [Wrd]; omega, by rw [hs]; simp⟩ (.retv0 (v := v) (by rw [hs]; rfl)) (by rw [hf]; simp)⟩
  | succ i ih =>
    intro v top hi h0 hv ht hs hf
    have hl := bel_len (R := R) (hd := hd) (C := C) i
    have wv : Wrd v := by unfold Wrd; omega
    have w1 : Wrd (1 : Int) := by unfold Wrd; omega
    have wv1 : Wrd (v + 1) := by unfold Wrd; omega
    obtain ⟨k, t⟩ := e_work (N := N) (f := f) (gs := bel R hd C i) (F := PF R hd (C - i : Nat) 0 17 [v]) (n := n) (r := r) rfl (show workI (.const 1) [1, ((C - i : Nat) : Int), 0] [v] = some _ from rfl) hn (by omega) (by simpa [PF] using wv) (by simp [PF])
      (e_work rfl (work_add wv1) hn (by omega) (by simpa [PF] using ⟨wv, w1⟩) (by simp [PF])
      (ih (v + 1) _ (by omega) (by omega) (by omega) rfl rfl (by rw [hf]; congr 2; omega)))
    exact ⟨k + 1, .st (gs := bel R hd C (i + 1)) (F := top) rfl ⟨ht, hn, by rw [bel_len]; omega, by rw [hs]; simpa using wv, by rw [hs]; simp⟩ (.retv (gs := bel R hd C i) (G := PF R hd (C - i : Nat) 0 16 []) (by simp [PF]) (by rw [hs]; rfl)) t⟩
def totS (C R : Nat) : Nat := min 8 (C + 1) * (R + 1) + min 8 C
def expF (C R : Nat) (b : Bool) : Fin1 := if 1000 < totS C R then .gone else if C + 1 ≤ 8 then .ret (.int (100 + C)) else if b = true then .ret (.int 998) else .fault (-9)
def hdsB (b : Bool) : List (Nat × Nat × Nat) := if b = true then [(10, 19, 22)] else []
theorem caught_none {v : Int} : ∀ {ps : List Pf}, (∀ q ∈ ps, q.hds = []) → caughtR v ps = none
  | [], _ => rfl
  | q :: ps, h => by
    unfold caughtR
    rw [h q List.mem_cons_self]
    exact caught_none fun x hx => h x (List.mem_cons_of_mem _ hx)
theorem e_body {R C : Nat} {b : Bool} (hR : R ≤ 1001) (hC : C ≤ 11) (hcall : ∀ c c2 : Nat, CallAt N (PF R (hdsB b) c 0 16 [1, (c2 : Int)]) 0 0 [] (PF R (hdsB b) c2 0 0 [])) (hf : f = expF C R b) {r : V} {i n : Nat} (hi : i ≤ 7) (hiC : i ≤ C) (en : n = i * (R + 1) + i + (R + 1)) (hn : n ≤ 1000)
    (next : i < 7 → i < C → n ≠ 1000 → RunE N f (bel R (hdsB b) C (i + 1) ++ [PF R (hdsB b) (C - (i + 1) : Nat) 0 0 []]) (n + 1) r) : RunE N f (bel R (hdsB b) C i ++ [PF R (hdsB b) (C - i : Nat) 0 10 []]) n r := by
  have hm : (i + 1) * (R + 1) ≤ min 8 (C + 1) * (R + 1) := Nat.mul_le_mul_right _ (by omega)
  have hs : (i + 1) * (R + 1) = i * (R + 1) + (R + 1) := Nat.succ_mul _ _
  have hl := bel_len (R := R) (hd := hdsB b) (C := C) i
  have w0 : Wrd (0 : Int) := by unfold Wrd; omega
  have w1 : Wrd (1 : Int) := by unfold Wrd; omega
  by_cases ec : C = i
  · subst ec
    have e0 : (PF R (hdsB b) (C - C : Nat) 0 10 []) = PF R (hdsB b) 0 0 10 [] := by rw [Nat.sub_self]; rfl
    rw [e0]
    refine e_work rfl (show workI (.load 1) [1, (0 : Int), 0] [] = some _ from rfl) hn (by omega) (by simp [PF]) (by simp [PF]) ?_
    refine e_jump rfl (show jmpTo (.jumpnot 20) 11 [0] = some (20, []) from rfl) hn (by omega) (by simp [PF, w0]) (by simp [PF]) ?_
    refine e_work rfl (show workI (.const 100) [1, (0 : Int), 0] [] = some _ from rfl) hn (by omega) (by simp [PF]) (by simp [PF]) ?_
    refine e_unwind hn C 100 _ hi (by omega) (by omega) rfl rfl ?_
    have em : min 8 (C + 1) = C + 1 := by omega
    rw [hf]
    unfold expF totS
    rw [em] at hm
    rw [em, if_neg (by omega), if_pos (by omega)]
  obtain ⟨c, hc⟩ : ∃ c : Nat, C - i = c + 1 := ⟨C - i - 1, by omega⟩
  rw [hc]
  have wc : Wrd ((c + 1 : Nat) : Int) := by unfold Wrd; omega
  have wc2 : Wrd ((c : Nat) : Int) := by unfold Wrd; omega
  have wc' : Wrd ((c : Int) + 1) := by unfold Wrd; omega
  have ex : ((c + 1 : Nat) : Int) - 1 = (c : Nat) := by omega
  refine e_work rfl (show workI (.load 1) [1, ((c + 1 : Nat) : Int), 0] [] = some _ from rfl) hn (by omega) (by simp [PF]) (by simp [PF]) ?_
  have j : jmpTo (.jumpnot 20) 11 [((c + 1 : Nat) : Int)] = some (12, []) := by
    show some (if ((c + 1 : Nat) : Int) ≠ 0 then 12 else 20, _) = _
    rw [if_pos (by omega)]; rfl
  refine e_jump rfl j hn (by omega) (by simpa [PF] using wc) (by simp [PF]) ?_
  refine e_work rfl (show workI (.load 0) [1, ((c + 1 : Nat) : Int), 0] [] = some _ from rfl) hn (by omega) (by simp [PF]) (by simp [PF]) ?_
  refine e_work rfl (show workI (.load 1) [1, ((c + 1 : Nat) : Int), 0] [1] = some _ from rfl) hn (by omega) (by simpa [PF] using w1) (by simp [PF]) ?_
  refine e_work rfl (show workI (.const 1) [1, ((c + 1 : Nat) : Int), 0] [1, ((c + 1 : Nat) : Int)] = some _ from rfl) hn (by omega) (by simpa [PF] using ⟨w1, wc⟩) (by simp [PF]) ?_
  refine e_work rfl (work_sub3 (by rw [ex]; exact wc2)) hn (by omega) (by simpa [PF] using ⟨w1, wc', w1⟩) (by simp [PF]) ?_
  rw [ex]
  have good : GoodF (bel R (hdsB b) C i) (PF R (hdsB b) (c + 1 : Nat) 0 16 [1, (c : Int)]) n (.callc 0 0) := ⟨rfl, hn, by omega, by simpa [PF] using ⟨w1, wc2⟩, by simp [PF]⟩
  by_cases e1000 : n = 1000
  · exact ⟨1, .gone rfl good (.callG (hcall _ _) e1000) (by rw [hf]; unfold expF totS; rw [if_pos (by omega)])⟩
  by_cases ei : i = 7
  · subst ei
    have em : min 8 (C + 1) = 8 := by omega
    have em2 : min 8 C = 8 := by omega
    have et : ¬ 1000 < totS C R := by unfold totS; rw [em, em2]; omega
    have perf : PerfR N (bel R (hdsB b) C 7) (PF R (hdsB b) (c + 1 : Nat) 0 16 [1, (c : Int)]) n (.callc 0 0) (.fault (-9) (bel R (hdsB b) C 7 ++ [PF R (hdsB b) (c + 1 : Nat) 0 16 [1, (c : Int)]]) (n + 1)) := .callD (hcall _ _) e1000 hl
    have hall : ∀ q ∈ bel R (hdsB b) C 7 ++ [PF R (hdsB b) (c + 1 : Nat) 0 16 [1, (c : Int)]], q.hds = hdsB b := fun q hq => by
      rcases List.mem_append.mp hq with h | h
      · exact bel_hd 7 q h
      · rw [List.mem_singleton.mp h]; rfl
    have hlen : ∀ q ∈ bel R (hdsB b) C 7 ++ [PF R (hdsB b) (c + 1 : Nat) 0 16 [1, (c : Int)]], q.hds.length ≤ 1000 := fun q hq => by
      rw [hall q hq]
      cases b <;> decide
    cases b with
    | false =>
      refine ⟨1, .fault rfl good perf hlen (caught_none fun q hq => hall q (List.mem_reverse.mp hq)) ?_⟩
      rw [hf]
      unfold expF
      rw [if_neg et, if_neg (by omega), if_neg (by decide)]
    | true =>
      have hcg : caughtR (-9) (bel R (hdsB true) C 7 ++ [PF R (hdsB true) (c + 1 : Nat) 0 16 [1, (c : Int)]]).reverse = some (PF R (hdsB true) (c + 1 : Nat) 0 22 [-9] :: (bel R (hdsB true) C 7).reverse) := by
        rw [List.reverse_append]; rfl
      have hn1 : n + 1 ≤ 1000 := by omega
      obtain ⟨k, t⟩ := e_work (N := N) (f := f) (gs := bel R (hdsB true) C 7) (F := PF R (hdsB true) (c + 1 : Nat) 0 22 [-9]) (n := n + 1) (r := r) rfl (show workI (.const 1000) [1, ((c + 1 : Nat) : Int), 0] [-9] = some _ from rfl) hn1 (by omega) (by simp [PF, Wrd]) (by simp [PF])
        (e_work rfl (work_add (by unfold Wrd; omega)) hn1 (by omega) (by simp [PF, Wrd]) (by simp [PF])
        (e_unwind hn1 7 991 _ (by omega) (by omega) (by omega) rfl rfl (by rw [hf]; unfold expF; rw [if_neg et, if_neg (by omega), if_pos rfl]; rfl)))
      exact ⟨k + 1, .caught rfl good perf hlen hcg (by rw [List.reverse_cons, List.reverse_reverse]; exact t)⟩
  · obtain ⟨k, t⟩ := next (by omega) (by omega) e1000
    have e2 : C - (i + 1) = c := by omega
    refine ⟨k + 1, .st rfl good (.call (hcall _ _) e1000 (by omega)) ?_⟩
    unfold bel at t
    rw [hc, e2] at t
    exact t
theorem e_main {R C : Nat} {b : Bool} (hR : R ≤ 1001) (hC : C ≤ 11) (hcall : ∀ c c2 : Nat, CallAt N (PF R (hdsB b) c 0 16 [1, (c2 : Int)]) 0 0 [] (PF R (hdsB b) c2 0 0 [])) (hf : f = expF C R b) {r : V} : ∀ (d i n : Nat), i + d = 7 → i ≤ C → n = i * (R + 1) + i → n ≤ 1000 →
    RunE N f (bel R (hdsB b) C i ++ [PF R (hdsB b) (C - i : Nat) 0 0 []]) n r := by
  intro d
  induction d with
  | zero =>
    intro i n hi hiC en hn
    have hm : (i + 1) * (R + 1) ≤ min 8 (C + 1) * (R + 1) := Nat.mul_le_mul_right _ (by omega)
    have hs : (i + 1) * (R + 1) = i * (R + 1) + (R + 1) := Nat.succ_mul _ _
    have hl := bel_len (R := R) (hd := hdsB b) (C := C) i
    refine e_start hR (by omega) (by omega) hn (fun h => ?_) (fun h => by rw [hf]; unfold expF totS; rw [if_pos (by omega)])
    exact e_body hR hC hcall hf (by omega) hiC (by omega) h (fun h7 => absurd h7 (by omega))
  | succ d ih =>
    intro i n hi hiC en hn
    have hm : (i + 1) * (R + 1) ≤ min 8 (C + 1) * (R + 1) := Nat.mul_le_mul_right _ (by omega)
    have hs : (i + 1) * (R + 1) = i * (R + 1) + (R + 1) := Nat.succ_mul _ _
    have hl := bel_len (R := R) (hd := hdsB b) (C := C) i
    refine e_start hR (by omega) (by omega) hn (fun h => ?_) (fun h => by rw [hf]; unfold expF totS; rw [if_pos (by omega)])
    exact e_body hR hC hcall hf (by omega) hiC (by omega) h (fun h7 hc2 hne => ih (i + 1) _ (by omega) (by omega) (by rw [hs]; omega) (by omega))
/-- the two other methods -/
def restD : List Ins := [.load 1, .jumpnot 3, .ret, .ret]
def toldD : List Ins := [.load 1, .const 5, .op "*", .retv]
theorem e_rest {x : Nat} (hx : x ≤ 1001) {r : V} (hf : f = .ret .non) : RunE N f [⟨"Deep", 1, restD, [], 1, 0, [1, (x : Int)], []⟩] 0 r := by
  have wx : Wrd (x : Int) := by unfold Wrd; omega
  refine e_work (gs := []) rfl (show workI (.load 1) [1, (x : Int)] [] = some _ from rfl) (by omega) (by simp) (by simp) (by simp) ?_
  by_cases e : x = 0
  · subst e
    refine e_jump (gs := []) rfl (show jmpTo (.jumpnot 3) 1 [0] = some (3, []) from rfl) (by omega) (by simp) (by simpa using wx) (by simp) ?_
    exact ⟨1, .done (gs := []) rfl ⟨rfl, by omega, by simp, by simp, by simp⟩ .ret0 hf⟩
  · have j : jmpTo (.jumpnot 3) 1 [(x : Int)] = some (2, []) := by
      show some (if (x : Int) ≠ 0 then 2 else 3, _) = _
      rw [if_pos (by omega)]; rfl
    refine e_jump (gs := []) rfl j (by omega) (by simp) (by simpa using wx) (by simp) ?_
    exact ⟨1, .done (gs := []) rfl ⟨rfl, by omega, by simp, by simp, by simp⟩ .ret0 hf⟩
theorem work_mul {l r : Int} {sl : List Int} (h : Wrd (l * r)) : workI (.op "*") sl [l, r] = some (sl, [l * r]) := by
  show (match V.int (wrapI (l * r)) with | .int x => some ([] ++ [x]) | _ => none).map (fun s => (sl, s)) = _
  rw [wrapI_id h]; rfl
theorem e_told {x : Nat} (hx : x ≤ 11) {r : V} (hf : f = .ret (.int (x * 5))) : RunE N f [⟨"Deep", 2, toldD, [], 1, 0, [1, (x : Int)], []⟩] 0 r := by
  have wx : Wrd (x : Int) := by unfold Wrd; omega
  have w5 : Wrd (5 : Int) := by unfold Wrd; omega
  have wm : Wrd ((x : Int) * 5) := by unfold Wrd; omega
  refine e_work (gs := []) rfl (show workI (.load 1) [1, (x : Int)] [] = some _ from rfl) (by omega) (by simp) (by simp) (by simp) ?_
  refine e_work (gs := []) rfl (show workI (.const 5) [1, (x : Int)] [(x : Int)] = some _ from rfl) (by omega) (by simp) (by simpa using wx) (by simp) ?_
  refine e_work (gs := []) rfl (work_mul wm) (by omega) (by simp) (by simpa using ⟨wx, w5⟩) (by simp) ?_
  exact ⟨1, .done (gs := []) rfl ⟨rfl, by omega, by simp, by simpa using wm, by simp⟩ (.retv0 (v := (x : Int) * 5) rfl) hf⟩
end

/-! ### written tuples: frozen data out of displays -/
theorem codeD_len {R : Int} : (codeD R).length = 25 := rfl
section
variable {K : PySem.W.Frag} {σ : L2.St} {H0 : Hp}
def LtE (K : PySem.W.Frag) (σ : L2.St) (H0 : Hp) (te : TE) (d : PyData) : Prop := ∀ (H : Hp) (Q : VK), Same H0 H → (∀ v H', Same H H' → Fr K H' v d → Q v H') → te σ H Q
def LtA (K : PySem.W.Frag) (σ : L2.St) (H0 : Hp) (ta : TA) (ds : List PyData) : Prop := ∀ (H : Hp) (Q : List V → Hp → Prop), Same H0 H → (∀ vs H', Same H H' → FrL K H' vs ds → Q vs H') → ta σ H Q
theorem lt_int {i : Int} : LtE K σ H0 (tC (.int i)) (.int i) := fun H Q _ k => k _ H (Same.refl H) (.int _)
theorem lt_str {s : Str} : LtE K σ H0 (tC (.str s)) (.str s) := fun H Q _ k => k _ H (Same.refl H) (.str _)
theorem lt_neg {i : Int} : LtE K σ H0 (tUn (rU fun i => V.int (-i)) (tC (.int i))) (.int (-i)) := fun H Q _ k => ⟨i, rfl, k _ H (Same.refl H) (.int _)⟩
theorem lt_var {j : Nat} {v : V} {d : PyData} (h : σ[j]? = some (some v)) (f : Fr K H0 v d) : LtE K σ H0 (tVar j) d := fun H Q s k => ⟨v, h, k v H (Same.refl H) (f.up (.of s))⟩
theorem lt_nil : LtA K σ H0 tNil [] := fun H Q _ k => k [] H (Same.refl H) .nil
theorem lt_cons {te : TE} {ta : TA} {d : PyData} {ds : List PyData} (h : LtE K σ H0 te d) (t : LtA K σ H0 ta ds) : LtA K σ H0 (tCons te ta) (d :: ds) := fun H Q s k =>
  h H _ s fun v H1 s1 f => t H1 _ (s.trans s1) fun vs H2 s2 fl => k (v :: vs) H2 (s1.trans s2) (.cons (f.up (.of s2)) fl)
theorem lt_tup {ta : TA} {ds : List PyData} (h : LtA K σ H0 ta ds) (hl : ds.length ≤ sizeLine := by first | exact Nat.le_of_ble_eq_true rfl | decide | (show _ ≤ 16777216; simp only [List.length_map, List.length_take, List.length_drop, codeD_len, List.length_cons, List.length_nil]; omega)) : LtE K σ H0 (tTup ta) (.tuple ds) := fun H Q s k =>
  h H _ s fun vs H1 s1 fl => ⟨by rw [fl.len]; exact hl, fun p hp => k (.ref p) _ (s1.trans (same_new hp)) (Fr.new (fl.up (.of (same_new hp))))⟩
theorem lt_cat {te tf : TE} {ds es : List PyData} (h : LtE K σ H0 te (.tuple ds)) (g : LtE K σ H0 tf (.tuple es)) (hl : ds.length + es.length ≤ sizeLine := by first | exact Nat.le_of_ble_eq_true rfl | decide | (show _ ≤ 16777216; simp only [List.length_map, List.length_take, List.length_drop, codeD_len]; omega)) : LtE K σ H0 (tOp (rCatA K) te tf) (.tuple (ds ++ es)) := fun H Q s k =>
  h H _ s fun v H1 s1 f => g H1 _ (s.trans s1) fun w H2 s2 f2 => i_catF (f.up (.of s2)) f2 hl fun x H3 s3 f3 => k x H3 (s1.trans (s2.trans s3)) f3
theorem i_lit {te : TE} {d : PyData} {j : Nat} {D : Ends} (h : LtE K σ H0 te d) (k : ∀ v H', Same H0 H' → Fr K H' v d → D.nx (σ.set j (some v)) H') : tAsg te (gName j) D σ H0 := h H0 _ (Same.refl H0) fun v H' s f => k v H' s f
theorem i_litR {te : TE} {d : PyData} {D : Ends} (h : LtE K σ H0 te d) (k : ∀ v H', Same H0 H' → Fr K H' v d → D.rt v H') : tRet te D σ H0 := h H0 _ (Same.refl H0) fun v H' s f => k v H' s f
/-- o.m(written) as a statement -/
theorem i_litM {C a dx : Addr} {m : Str} {sp : Sp} {E : XK} {fs : List (Str × V)} {j : Nat} {ta : TA} {ds : List PyData} {D : Ends} (hj : σ[j]? = some (some (.ref a))) (ho : H0 a = some (.ins C dx fs)) (hl : fs.lookup m = none) (h : LtA K σ H0 ta ds)
    (k : ∀ vs H', Same H0 H' → FrL K H' vs ds → sp (.ref a :: vs) H' (fun _ H2 => D.nx σ H2) E) : tDrop (tMeth C m sp [] E (tVar j) ta) D σ H0 :=
  ⟨.ref a, hj, a, dx, fs, rfl, ho, hl, h H0 _ (Same.refl H0) fun vs H' s f => by rw [List.append_nil]; exact k vs H' s f⟩
end
local macro_rules | `(tactic| walk_at "lits") => `(tactic| repeat first | exact lt_nil | refine lt_cons ?_ ?_ | exact lt_str | exact lt_int | exact lt_neg | exact lt_var rfl (by assumption) | refine lt_tup ?_)

/-! ### k80: the law's own functions -/
def sp_law_cell {K : PySem.W.Frag} {mg : Str → Option Value} (_ : Txt K mg) : Sp := fun vs H Q _ => ∃ (a : Addr) (ns : List Int) (k : Nat), vs = [.ref a, .int k] ∧ SqL K H a (ns.map V.int) ∧ ns.length ≤ 63 ∧ ∀ i : Int, Q (.int i) H
theorem ok_law_cell (T : Txt K mg) : FnOk P w K mg base CX0 1 T.f_law_cell T.d_law_cell ["_law_script", "_law_k"] (sp_law_cell T) := by
  refine T.k_law_cell.ok sc_law_cell (fun vs H Q E h => ?_) (fun cdv A outer s H vs Q E hr h => ?_)
  · obtain ⟨a, ns, k, rfl, _⟩ := h
    rfl
  · obtain ⟨a, ns, k, rfl, hS, hl, q⟩ := h
    refine ⟨_, (pss_cons (ps_if (pt_cmpR op_lt (pv 1) (pe_callB (lenLK K) (by rfl) T.m_len (by decide +kernel) (pa_cons (pv 0) pa_nil)) (nomark _)) (pss_one (ps_ret (pe_callTy call_intI (by rfl) T.m_int (by decide +kernel) (pa_cons (pe_ix (ix_listK K) (pv 0) (pv 1) (fun _ _ => rfl)) pa_nil)))) pss_nil)
      (pss_one (ps_ret pe_int))), ?_⟩
    walk_at "rd"
    refine rdSeq ?_
    walk_at "rd"
    refine i_lenL hS ?_
    rw [List.length_map]
    walk_at "rd"
    refine ite2 (fun h => ?_) (fun h => q _)
    have hk : k < ns.length := by omega
    refine i_ixL hS (atI_nat (j := k) (v := .int ns[k]) (by rw [List.getElem?_map, List.getElem?_eq_getElem hk]; rfl)) ?_
    walk_at "rd"
    exact q _
def sp_law_code {K : PySem.W.Frag} {mg : Str → Option Value} (_ : Txt K mg) : Sp := fun vs H Q _ => ∃ (R : Int), vs = [.int R] ∧ ∀ v H', Same H H' → Fr K H' v (.tuple ((codeD R).map Ins.d)) → Q v H'
theorem ok_law_code (T : Txt K mg) : FnOk P w K mg base CX0 1 T.f_law_code T.d_law_code ["_law_rounds"] (sp_law_code T) := by
  refine T.k_law_code.ok sc_law_code (fun vs H Q E h => ?_) (fun cdv A outer s H vs Q E hr h => ?_)
  · obtain ⟨R, rfl, _⟩ := h
    rfl
  · obtain ⟨R, rfl, q⟩ := h
    refine ⟨_, (pss_cons (ps_set (i := 1) sc_law_code.nd rfl (.inl rfl) (pe_tup (pa_cons (pe_tup (pa_cons pe_str (pa_cons (pv 0) pa_nil))) (pa_cons (pe_tup (pa_cons pe_str (pa_cons pe_int pa_nil))) (pa_cons (pe_tup (pa_cons pe_str pa_nil)) (pa_cons (pe_tup (pa_cons pe_str (pa_cons pe_int pa_nil))) (pa_cons (pe_tup (pa_cons pe_str (pa_cons pe_int pa_nil))) pa_nil)))))))
      (pss_cons (ps_set (i := 1) sc_law_code.nd rfl (.inl rfl) (pe_op (op_catAK K) (pv 1) (pe_tup (pa_cons (pe_tup (pa_cons pe_str (pa_cons pe_int pa_nil))) (pa_cons (pe_tup (pa_cons pe_str (pa_cons pe_int pa_nil))) (pa_cons (pe_tup (pa_cons pe_str (pa_cons pe_str pa_nil))) (pa_cons (pe_tup (pa_cons pe_str (pa_cons pe_int pa_nil))) (pa_cons (pe_tup (pa_cons pe_str (pa_cons pe_int pa_nil))) pa_nil))))))))
      (pss_cons (ps_set (i := 2) sc_law_code.nd rfl (.inl rfl) (pe_tup (pa_cons (pe_tup (pa_cons pe_str (pa_cons pe_int pa_nil))) (pa_cons (pe_tup (pa_cons pe_str (pa_cons pe_int pa_nil))) (pa_cons (pe_tup (pa_cons pe_str (pa_cons pe_int pa_nil))) (pa_cons (pe_tup (pa_cons pe_str (pa_cons pe_int pa_nil))) (pa_cons (pe_tup (pa_cons pe_str (pa_cons pe_int pa_nil))) (pa_cons (pe_tup (pa_cons pe_str (pa_cons pe_str pa_nil))) (pa_cons (pe_tup (pa_cons pe_str (pa_cons pe_int (pa_cons pe_int pa_nil)))) pa_nil)))))))))
      (pss_cons (ps_set (i := 2) sc_law_code.nd rfl (.inl rfl) (pe_op (op_catAK K) (pv 2) (pe_tup (pa_cons (pe_tup (pa_cons pe_str (pa_cons pe_int pa_nil))) (pa_cons (pe_tup (pa_cons pe_str (pa_cons pe_str pa_nil))) (pa_cons (pe_tup (pa_cons pe_str pa_nil)) (pa_cons (pe_tup (pa_cons pe_str (pa_cons pe_int pa_nil))) (pa_cons (pe_tup (pa_cons pe_str pa_nil)) pa_nil))))))))
      (pss_one (ps_ret (pe_op (op_catAK K) (pe_op (op_catAK K) (pv 1) (pv 2)) (pe_tup (pa_cons (pe_tup (pa_cons pe_str (pa_cons pe_int pa_nil))) (pa_cons (pe_tup (pa_cons pe_str (pa_cons pe_str pa_nil))) (pa_cons (pe_tup (pa_cons pe_str pa_nil)) pa_nil))))))))))), ?_⟩
    refine rdSeq ?_
    refine i_lit (K := K) (d := .tuple (((codeD R).take 5).map Ins.d)) (lt_tup ?_) fun v H1 s1 f1 => ?_
    · repeat first | exact lt_nil | refine lt_cons ?_ ?_ | exact lt_str | exact lt_int | exact lt_var rfl (.int _) | refine lt_tup ?_
    dsimp only
    refine rdSeq ?_
    refine i_lit (K := K) (d := .tuple (((codeD R).take 10).map Ins.d)) (lt_cat (ds := ((codeD R).take 5).map Ins.d) (es := (((codeD R).drop 5).take 5).map Ins.d) (lt_var rfl f1) (lt_tup ?_)) fun v H2 s2 f2 => ?_
    · repeat first | exact lt_nil | refine lt_cons ?_ ?_ | exact lt_str | exact lt_int | refine lt_tup ?_
    dsimp only
    refine rdSeq ?_
    refine i_lit (K := K) (d := .tuple ((((codeD R).drop 10).take 7).map Ins.d)) (lt_tup ?_) fun v H3 s3 f3 => ?_
    · repeat first | exact lt_nil | refine lt_cons ?_ ?_ | exact lt_str | exact lt_int | refine lt_tup ?_
    dsimp only
    refine rdSeq ?_
    refine i_lit (K := K) (d := .tuple ((((codeD R).drop 10).take 12).map Ins.d)) (lt_cat (ds := (((codeD R).drop 10).take 7).map Ins.d) (es := (((codeD R).drop 17).take 5).map Ins.d) (lt_var rfl f3) (lt_tup ?_)) fun v H4 s4 f4 => ?_
    · repeat first | exact lt_nil | refine lt_cons ?_ ?_ | exact lt_str | exact lt_int | refine lt_tup ?_
    dsimp only
    refine i_litR (K := K) (d := .tuple ((codeD R).map Ins.d)) (lt_cat (ds := ((codeD R).take 22).map Ins.d) (es := ((codeD R).drop 22).map Ins.d) (lt_cat (ds := ((codeD R).take 10).map Ins.d) (es := (((codeD R).drop 10).take 12).map Ins.d) (lt_var rfl (f2.up (.of (s3.trans s4)))) (lt_var rfl f4)) (lt_tup ?_)) fun v H5 s5 f5 => ?_
    · repeat first | exact lt_nil | refine lt_cons ?_ ?_ | exact lt_str | exact lt_int | refine lt_tup ?_
    exact q v H5 (s1.trans (s2.trans (s3.trans (s4.trans s5)))) f5
def sp_law_seek {K : PySem.W.Frag} {mg : Str → Option Value} (_ : Txt K mg) : Sp := fun vs H Q _ => ∃ x : V, vs = [x] ∧ Q (.int 0) H
theorem ok_law_seek (T : Txt K mg) : FnOk P w K mg base CX0 1 T.f_law_seek T.d_law_seek ["_law_name"] (sp_law_seek T) := by
  refine T.k_law_seek.ok sc_law_seek (fun vs H Q E h => ?_) (fun cdv A outer s H vs Q E hr h => ?_)
  · obtain ⟨x, rfl, _⟩ := h
    rfl
  · obtain ⟨x, rfl, q⟩ := h
    refine ⟨_, (pss_one (ps_ret pe_int)), ?_⟩
    walk_at "rd"
    exact q
def finV : Fin1 → List V
  | .ret r => [.str "ok", r]
  | .fault v => [.str "fault", .int v]
  | .gone => [.str "gone"]
def sp_law_expected {K : PySem.W.Frag} {mg : Str → Option Value} (_ : Txt K mg) : Sp := fun vs H Q _ => ∃ (R C : Nat) (b : Bool), vs = [.int R, .int C, .bl b] ∧ ∀ p, H p = none → Q (.ref p) (upd H p (.tup (finV (expF C R b))))
theorem ok_law_expected (T : Txt K mg) : FnOk P w K mg base CX0 1 T.f_law_expected T.d_law_expected ["_law_rounds", "_law_calls", "_law_caught"] (sp_law_expected T) := by
  refine T.k_law_expected.ok sc_law_expected (fun vs H Q E h => ?_) (fun cdv A outer s H vs Q E hr h => ?_)
  · obtain ⟨R, C, b, rfl, _⟩ := h
    rfl
  · obtain ⟨R, C, b, rfl, q⟩ := h
    refine ⟨_, (pss_cons (ps_set (i := 3) sc_law_expected.nd rfl (.inl rfl) (pe_callB (call_min2 rfl) (by rfl) T.m_min (by decide +kernel) (pa_cons pe_int (pa_cons (pe_op op_add (pv 1) pe_int) pa_nil))))
      (pss_cons (ps_set (i := 4) sc_law_expected.nd rfl (.inl rfl) (pe_op op_add (pe_op op_mul (pv 3) (pe_op op_add (pv 0) pe_int)) (pe_callB (call_min2 rfl) (by rfl) T.m_min (by decide +kernel) (pa_cons pe_int (pa_cons (pv 1) pa_nil)))))
      (pss_cons (ps_if (pt_cmpR op_gt (pv 4) pe_int (nomark _)) (pss_one (ps_ret (pe_tup (pa_cons pe_str pa_nil)))) pss_nil)
      (pss_cons (ps_if (pt_cmpR op_le (pe_op op_add (pv 1) pe_int) pe_int (nomark _)) (pss_one (ps_ret (pe_tup (pa_cons pe_str (pa_cons (pe_op op_add pe_int (pv 1)) pa_nil))))) pss_nil)
      (pss_cons (ps_if (pt_val (pv 2)) (pss_one (ps_ret (pe_tup (pa_cons pe_str (pa_cons (pe_op op_add pe_int pe_int) pa_nil))))) pss_nil)
      (pss_one (ps_ret (pe_tup (pa_cons pe_str (pa_cons (pe_un un_neg pe_int) pa_nil)))))))))), ?_⟩
    walk_at "rd"
    refine rdSeq ?_
    walk_at "rd"
    have eF : (if (C : Int) + 1 < 8 then (C : Int) + 1 else 8) = ((min 8 (C + 1) : Nat) : Int) := by split <;> omega
    have eM : (if (C : Int) < 8 then (C : Int) else 8) = ((min 8 C : Nat) : Int) := by split <;> omega
    have eT : ((min 8 (C + 1) : Nat) : Int) * ((R : Int) + 1) + ((min 8 C : Nat) : Int) = (totS C R : Nat) := by unfold totS; push_cast; rfl
    rw [eF]
    refine rdSeq ?_
    walk_at "rd"
    refine ⟨.inl ⟨by omega, by omega⟩, ?_⟩
    rw [eM, eT]
    refine rdSeq ?_
    walk_at "rd"
    refine ite2 (fun h1 => fun p hp => ?_) (fun h1 => ?_)
    · have := q p hp
      unfold expF at this
      rwa [if_pos (by omega)] at this
    refine rdSeq ?_
    walk_at "rd"
    refine ite2 (fun h2 => fun p hp => ?_) (fun h2 => ?_)
    · have := q p hp
      unfold expF at this
      rwa [if_neg (by omega), if_pos (by omega)] at this
    refine rdSeq ?_
    walk_at "rd"
    cases b with
    | true =>
      refine ifY rfl fun p hp => ?_
      have := q p hp
      unfold expF at this
      rwa [if_neg (by omega), if_neg (by omega), if_pos rfl] at this
    | false =>
      refine ifN (by decide) fun p hp => ?_
      have := q p hp
      unfold expF at this
      rwa [if_neg (by omega), if_neg (by omega), if_neg (by decide)] at this
theorem run_mono {T : Txt K mg} {vs : List V} {H : Hp} {Q Q' : VK} {E E' : XK} (h : sp_Machine_run T vs H Q E) (hq : ∀ v H', Q v H' → Q' v H') (he : ∀ c d H', E c d H' → E' c d H') : sp_Machine_run T vs H Q' E' := by
  obtain ⟨A, fs, n, res, N, num, row, nm, v, m, k, c, r, o, g, mt, code, hds, kk, f, h1, h2, h3, h4, h5, h6, h7, h8, h9, h10, h11, h12, h13, h14, q⟩ := h
  refine ⟨A, fs, n, res, N, num, row, nm, v, m, k, c, r, o, g, mt, code, hds, kk, f, h1, h2, h3, h4, h5, h6, h7, h8, h9, h10, h11, h12, h13, h14, ?_⟩
  cases f with
  | ret r => exact fun H' fl n a b => hq _ _ (q H' fl n a b)
  | gone => exact fun H' fl fs n r a b => he _ _ _ (q H' fl fs n r a b)
  | fault v => exact fun H' fl n r dx a b c => he _ _ _ (q H' fl n r dx a b c)
def PlayE {K : PySem.W.Frag} {mg : Str → Option Value} (T : Txt K mg) (Q : VK) : XK := fun cls d H1 =>
  (cls = .ref T.c_StepsGone ∧ ∀ p, H1 p = none → Q (.ref p) (upd H1 p (.tup [.str "gone"]))) ∨ (∃ dx v, cls = .ref T.c_Fault ∧ d = some dx ∧ H1 dx = some (.xd [("code", .int v)]) ∧ ∀ p, H1 p = none → Q (.ref p) (upd H1 p (.tup [.str "fault", .int v])))
def sp_law_played {K : PySem.W.Frag} {mg : Str → Option Value} (T : Txt K mg) : Sp := fun vs H Q _ => ∃ (a : Addr) (v : Int), vs = [.ref a, .int v] ∧ sp_Machine_run T [.ref a, .int 1, .str "run", .int v] H (fun x H1 => ∀ p, H1 p = none → Q (.ref p) (upd H1 p (.tup [.str "ok", x]))) (PlayE T Q)
theorem ok_law_played (T : Txt K mg) : FnOk P w K mg base CX0 11 T.f_law_played T.d_law_played ["_law_machine", "_law_value"] (sp_law_played T) := by
  refine T.k_law_played.ok sc_law_played (fun vs H Q E h => ?_) (fun cdv A0 outer s H vs Q E hr h => ?_)
  · obtain ⟨a, v, rfl, _⟩ := h
    rfl
  · obtain ⟨a, v, rfl, h⟩ := h
    refine ⟨_, (pss_one (ps_try_two (i := 2) rfl rfl sc_law_played.nd rfl rfl ⟨rfl, by decide, .inl T.g_Fault⟩ ⟨rfl, by decide, .inl T.g_StepsGone⟩ takes0 (fun W pn xe tk po => (pss_one (ps_ret (pe_tup (pa_cons pe_str (pa_cons (pe_methS (pv 0) T.cl_Machine T.me_Machine_run (ok_Machine_run T) (hr.mono (by decide)) T.b_Machine_run (fun σ => passAt tk σ) (pa_cons pe_int (pa_cons pe_str (pa_cons (pv 1) pa_nil)))) pa_nil)))))) (fun a oe cls d pn hz hf => (pss_one (ps_ret (pe_tup (pa_cons pe_str (pa_cons (pe_xf T.xf_Fault T.on_Fault_code hz hf (pv 2) rfl) pa_nil)))))) (fun a oe cls d pn hz hf => (pss_one (ps_ret (pe_tup (pa_cons pe_str pa_nil))))))), ?_⟩
    have hob : ∃ dm fs, H a = some (.ins T.c_Machine dm fs) ∧ fs.lookup (Str.ofString "run") = none := by
      obtain ⟨A, fs, n, res, N, num, row, nm, v, m, k, c, r, o, g, mt, code, hds, kk, f, h1, h2, _⟩ := h
      obtain ⟨dm, hom⟩ := h2.ob
      have e : V.ref a = V.ref A.a := (List.cons.inj h1).1
      cases e
      exact ⟨dm, _, hom, rfl⟩
    obtain ⟨dm, fs, hom, hl⟩ := hob
    walk_at "rd"
    refine i_meth hom hl (run_mono h (fun _ _ q => q) fun cls d H1 q => ?_)
    rcases q with ⟨rfl, q⟩ | ⟨dx, v, rfl, rfl, hdx, q⟩
    · refine ⟨false, T.ex_StepsGone_Fault, (fun z => nomatch z), fun _ => i_catch T.ex_StepsGone_StepsGone fun a na => ?_⟩
      walk_at "rd"
      exact q
    · refine i_catchAs T.ex_Fault_Fault fun a na => ?_
      walk_at "rd"
      exact i_xf hdx rfl q
def mtRun (R : Nat) (b : Bool) : Mt := ⟨0, ⟨"run", [.int], .int⟩, [.int], [.int 3, .tuple ((codeD R).map Ins.d), .tuple ((hdsB b).map hdD)]⟩
def mtRest : Mt := ⟨0, ⟨"rest", [.int], .nothing⟩, [], [.int 1, .tuple (restD.map Ins.d), .tuple []]⟩
def mtTold : Mt := ⟨0, ⟨"told", [.int], .int⟩, [], [.int 2, .tuple (toldD.map Ins.d), .tuple []]⟩
def rowsD : List Rw := [⟨⟨"run", [.int], .int⟩, 0⟩, ⟨⟨"rest", [.int], .nothing⟩, 1⟩, ⟨⟨"told", [.int], .int⟩, 2⟩]
def clW : Cl := ⟨"W", -1, [], [], rowsD⟩
def mdD (R : Nat) (b : Bool) : Md := ⟨"Deep", 1, [], [], [clW], [mtRun R b, mtRest, mtTold], []⟩
theorem lt_code {K : PySem.W.Frag} {mg : Str → Option Value} {T : Txt K mg} {σ : L2.St} {H0 : Hp} {j : Nat} {R : Int} (h : σ[j]? = some (some (.int R))) : LtE K σ H0 (tCall (sp_law_code T) [] E0 (tCons (tVar j) tNil)) (.tuple ((codeD R).map Ins.d)) := fun H Q s k =>
  ⟨.int R, h, R, rfl, fun v H' s f => k v H' s f⟩
theorem mdD_chk {R : Nat} {b : Bool} : chk [] (mdD R b) = true := rfl
structure MI (T : Txt K mg) (H0 H : Hp) (A : MA) (fs : List Fm) (n : Nat) (r : V) : Prop where
  s : Same H0 H
  fr : ∀ x ∈ ownM A fs, H0 x = none
  ms : MS T H A fs n r
theorem MI.mo {T : Txt K mg} {H0 H H' : Hp} {A A' : MA} {fs fs' : List Fm} {n n' : Nat} {r r' : V} (h : MI T H0 H A fs n r) (m : Mo H (ownM A fs) H' (ownM A' fs')) (h' : MS T H' A' fs' n' r') : MI T H0 H' A' fs' n' r' :=
  ⟨m.mv.kp.same h.s h.fr, fun x hx => (m.mv.nw x hx).elim (h.fr x) (fun e => Same.free h.s e), h'⟩
theorem MI.same {T : Txt K mg} {H0 H H' : Hp} {A : MA} {fs : List Fm} {n : Nat} {r : V} (h : MI T H0 H A fs n r) (s : Same H H') : MI T H0 H' A fs n r := ⟨h.s.trans s, h.fr, h.ms.same s⟩
/-- the world and the heap of the law -/
structure NOk (N : MN) (R : Nat) (b : Bool) : Prop where
  ws : N.ws = [mdD R b]
  ob : (1, newOb 0 1 0) ∈ N.M
theorem NOk.cl {N : MN} {R : Nat} {b : Bool} (h : NOk N R b) : ClAt N.ws 0 (mdD R b) 0 clW := by
  rw [h.ws]
  exact ⟨rfl, by simp [findM], rfl⟩
theorem NOk.call {N : MN} {R : Nat} {b : Bool} (h : NOk N R b) (c c2 : Nat) : CallAt N (PF R (hdsB b) c 0 16 [1, (c2 : Int)]) 0 0 [] (PF R (hdsB b) c2 0 0 []) :=
  ⟨mdD R b, clW, ⟨⟨"run", [.int], .int⟩, 0⟩, 1, 0, [(c2 : Int)], mdD R b, 0, clW, ⟨⟨"run", [.int], .int⟩, 0⟩, mtRun R b, codeD R, hdsB b, newOb 0 1 0, h.cl.hm, rfl, rfl, rfl, rfl, by decide, h.ob, rfl, h.cl, rfl, rfl, ⟨3, rfl⟩, (by show 1 ≤ 1000; decide), rfl⟩
def EndI {K : PySem.W.Frag} {mg : Str → Option Value} (T : Txt K mg) (H0 H : Hp) (A : MA) (Q : VK) (E : XK) : Fin1 → Prop
  | .ret r => ∀ H' fl n, MI T H0 H' { A with fl := fl } [] n r → TupK H H' → Q r H'
  | .gone => ∀ H' fl fs n r, MI T H0 H' { A with fl := fl } fs n r → TupK H H' → E (.ref T.c_StepsGone) none H'
  | .fault v => ∀ H' fl n r dx, MI T H0 H' { A with fl := fl } [] n r → TupK H H' → H' dx = none → E (.ref T.c_Fault) (some dx) (upd H' dx (.xd [("code", .int v)]))
theorem run_at {T : Txt K mg} {H0 H : Hp} {A : MA} {N : MN} {fs : List Fm} {n : Nat} {res : V} {R : Nat} {b : Bool} (hN : NOk N R b) (hE : EnvM T H0 A N) (h : MI T H0 H A fs n res) {row : Nat} {r : Rw} {mt : Mt} {code : List Ins} {hds : List (Nat × Nat × Nat)} {v : Int} {f : Fin1} {Q : VK} {E : XK}
    (hr : rowsD[row]? = some r) (hf : ∀ j r2, rowsD[j]? = some r2 → r2.h.nm = r.h.nm → row ≤ j) (hm : (mdD R b).mts[r.m]? = some mt) (hc : CodeOf mt code hds) (hv : mt.vars.length ≤ 1000) (hrun : RunE N f [newP "Deep" r.m code hds 1 ((1 : Int) :: [v] ++ List.replicate mt.vars.length 0)] 0 .non) (q : EndI T H0 H A Q E f) :
    sp_Machine_run T [.ref A.a, .int 1, .str r.h.nm, .int v] H Q E := by
  obtain ⟨k, hrun⟩ := hrun
  refine ⟨A, fs, n, res, N, 1, row, r.h.nm, v, mdD R b, 0, clW, r, newOb 0 1 0, 0, mt, code, hds, k, f, rfl, h.ms, fun H' X' m => hE.same (m.mv.kp.same h.s h.fr), hN.ob, rfl, hN.cl, hr, by decide, hf, rfl, hm, hc, hv, hrun, ?_⟩
  cases f with
  | ret r => exact fun H' fl n' a m => q H' fl n' (h.mo m a) m.tk
  | gone => exact fun H' fl fs n' r a m => q H' fl fs n' r (h.mo m a) m.tk
  | fault v => exact fun H' fl n' r dx a m hdx => q H' fl n' r dx (h.mo m a) m.tk hdx
theorem rows_first {row : Nat} {r : Rw} (hr : rowsD[row]? = some r) : ∀ j r2, rowsD[j]? = some r2 → r2.h.nm = r.h.nm → row ≤ j := by
  intro j r2 h2 e
  have hj : j < 3 := (List.getElem?_eq_some_iff.mp h2).1
  have hi : row < 3 := (List.getElem?_eq_some_iff.mp hr).1
  have c1 : row = 0 ∨ row = 1 ∨ row = 2 := by omega
  have c2 : j = 0 ∨ j = 1 ∨ j = 2 := by omega
  rcases c1 with rfl | rfl | rfl <;> rcases c2 with rfl | rfl | rfl <;> first | omega | (cases hr; cases h2; exact absurd e (by decide +kernel))
def finOk (f : Fin1) : Prop := (∃ i, f = .ret (.int i)) ∨ f = .gone ∨ ∃ v, f = .fault v
theorem expF_ok {C R : Nat} {b : Bool} : finOk (expF C R b) := by
  unfold expF finOk
  split
  · exact .inr (.inl rfl)
  · split
    · exact .inl ⟨_, rfl⟩
    · split
      · exact .inl ⟨_, rfl⟩
      · exact .inr (.inr ⟨_, rfl⟩)
theorem shp2 {x : Str} {i : Int} (h : PyData.strOk x = true) : SeqAt.shaped (.tuple [.str x, .int i]) = true := by
  refine Bool.and_eq_true_iff.mpr ⟨?_, rfl⟩
  show (PyData.strOk x && (true && true)) = true
  rw [h]; rfl
/-- two tuples of one end -/
theorem fin_dp {K : PySem.W.Frag} {f : Fin1} (h : finOk f) : ∃ d, SeqAt.shaped d = true ∧ ∀ (H : Hp) p, H p = some (.tup (finV f)) → Dp K H (.ref p) d := by
  rcases h with ⟨i, rfl⟩ | rfl | ⟨v, rfl⟩
  · exact ⟨.tuple [.str "ok", .int i], shp2 (by decide +kernel), fun H p hp => Fr.dp (.tup (.inl hp) (.cons (.str _) (.cons (.int _) .nil)))⟩
  · exact ⟨.tuple [.str "gone"], by decide +kernel, fun H p hp => Fr.dp (.tup (.inl hp) (.cons (.str _) .nil))⟩
  · exact ⟨.tuple [.str "fault", .int v], shp2 (by decide +kernel), fun H p hp => Fr.dp (.tup (.inl hp) (.cons (.str _) (.cons (.int _) .nil)))⟩
/-- a play: its answer -/
theorem play_at {T : Txt K mg} {H0 H : Hp} {A : MA} {N : MN} {fs : List Fm} {n : Nat} {res : V} {R C : Nat} {b : Bool} (hR : R ≤ 1001) (hC : C ≤ 11) (hN : NOk N R b) (hE : EnvM T H0 A N) (h : MI T H0 H A fs n res) {Q : VK} {E : XK}
    (q : ∀ H' p fl fs n r, MI T H0 H' { A with fl := fl } fs n r → H' p = some (.tup (finV (expF C R b))) → TupK H H' → Q (.ref p) H') : sp_law_played T [.ref A.a, .int (C : Nat)] H Q E := by
  refine ⟨A.a, C, rfl, ?_⟩
  have e := e_main (N := N) hR hC hN.call (f := expF C R b) rfl (r := .non) 7 0 0 (by omega) (by omega) (by omega) (by omega)
  refine run_at (row := 0) (mt := mtRun R b) (code := codeD R) (hds := hdsB b) (f := expF C R b) hN hE h rfl (rows_first rfl) rfl ⟨3, rfl⟩ (by show 1 ≤ 1000; decide) e ?_
  rcases expF_ok (C := C) (R := R) (b := b) with ⟨i, ei⟩ | ei | ⟨v, ei⟩
  · rw [ei] at q ⊢
    exact fun H' fl n' m tk p hp => q _ p fl [] n' _ (m.same (same_new hp)) upd_same (tk.trans (.of (same_new hp)))
  · rw [ei] at q ⊢
    exact fun H' fl fs n' r m tk => .inl ⟨rfl, fun p hp => q _ p fl fs n' r (m.same (same_new hp)) upd_same (tk.trans (.of (same_new hp)))⟩
  · rw [ei] at q ⊢
    exact fun H' fl n' r dx m tk hdx => .inr ⟨dx, v, rfl, rfl, upd_same, fun p hp => q _ p fl [] n' r ((m.same (same_new hdx)).same (same_new hp)) upd_same ((tk.trans (.of (same_new hdx))).trans (.of (same_new hp)))⟩
def M0 : List (Nat × Ob) := [(61, ⟨-2, 0, List.replicate 64 0⟩)]
theorem rep0 {bf : Addr} : Rep (List.replicate 1002 0) 0 (fun _ => 0) M0 [(61, bf, List.replicate 64 0)] := by
  have z : ∀ i, (List.replicate 1002 (0 : Int)).getD i 0 = 0 := fun i => by rw [List.getD_eq_getElem?_getD, List.getElem?_replicate]; split <;> rfl
  have one : ∀ n o, (n, o) ∈ M0 → n = 61 ∧ o = ⟨-2, 0, List.replicate 64 0⟩ := fun n o h => by
    have := List.mem_singleton.mp h
    exact ⟨(Prod.mk.inj this).1, (Prod.mk.inj this).2⟩
  refine ⟨by decide, z _, by simp [M0], fun n o h => by have := (one n o h).1; omega, ⟨_, List.mem_singleton.mpr rfl, List.length_replicate⟩, fun n _ _ _ => z _, fun n o h hn => by have := (one n o h).1; omega, fun n o h _ => ?_, fun n o h hn => by have := (one n o h).1; omega, fun n o m u h _ hn => by have := (one n o h).1; omega, by show 0 ≤ 400; omega⟩
  obtain ⟨rfl, rfl⟩ := one n o h
  rfl
theorem least1 {n : Nat} (h : Least M0 n) : n = 1 := by
  have lo := h.lo
  by_cases e : n = 1
  · exact e
  · obtain ⟨o, ho⟩ := h.le 1 (by omega) (by omega)
    have := (Prod.mk.inj (List.mem_singleton.mp ho)).1
    omega
theorem mdD_z {R : Nat} {b : Bool} : Mz (mdD R b) := by
  have one : ∀ c ∈ (mdD R b).cls, c = clW := fun c hc => List.mem_singleton.mp hc
  refine ⟨⟨fun k c h => ?_, (by show 1 ≤ 500; decide), fun c hc => ?_, fun c hc => ?_, (by show PyData.strOk "Deep" = true; decide +kernel), fun c hc f hf => ?_, (fun k hk => nomatch hk)⟩, fun c hc r hr => ?_, (fun f hf => nomatch hf), fun t ht => ?_, fun c hc => ?_⟩
  · have hk : k < 1 := (List.getElem?_eq_some_iff.mp h).1
    obtain rfl : k = 0 := by omega
    cases h
    exact ⟨by decide, by decide⟩
  · rw [one c hc]; decide
  · rw [one c hc]; decide
  · rw [one c hc] at hf; exact nomatch hf
  · rw [one c hc] at hr
    have hr : r = ⟨⟨"run", [.int], .int⟩, 0⟩ ∨ r = ⟨⟨"rest", [.int], .nothing⟩, 1⟩ ∨ r = ⟨⟨"told", [.int], .int⟩, 2⟩ := by
      rcases List.mem_cons.mp hr with h | hr
      · exact .inl h
      · rcases List.mem_cons.mp hr with h | hr
        · exact .inr (.inl h)
        · exact .inr (.inr (List.mem_singleton.mp hr))
    have ki : ∀ k ∈ [Kd.int], KdOk k := fun k hk => by rw [List.mem_singleton.mp hk]; trivial
    rcases hr with rfl | rfl | rfl
    · exact ⟨⟨by decide +kernel, ki, trivial⟩, by decide⟩
    · exact ⟨⟨by decide +kernel, ki, trivial⟩, by decide⟩
    · exact ⟨⟨by decide +kernel, ki, trivial⟩, by decide⟩
  · rcases List.mem_cons.mp ht with rfl | ht
    · exact ⟨(by show 1 ≤ 1000; decide), (by show 1 ≤ 1000; decide)⟩
    · rcases List.mem_cons.mp ht with rfl | ht
      · exact ⟨by decide, by decide⟩
      · rw [List.mem_singleton.mp ht]; exact ⟨by decide, by decide⟩
  · rw [one c hc]; decide
def sp_law (K : PySem.W.Frag) : Sp := fun vs H Q _ => ∃ (a : Addr) (ns : List Int), vs = [.ref a] ∧ SqL K H a (ns.map V.int) ∧ ns.length ≤ 63 ∧ ∀ H', Q (.bl true) H'
theorem ok_law (T : Txt K mg) : FnOk P w K mg base CX0 12 T.f_law T.d_law ["_law_script"] (sp_law K) := by
  refine T.k_law.ok sc_law (fun vs H Q E h => ?_) (fun cdv A outer s H vs Q E hr h => ?_)
  · obtain ⟨a, ns, rfl, _⟩ := h
    rfl
  · obtain ⟨a, ns, rfl, hS, hl, q⟩ := h
    refine ⟨_, (pss_cons (ps_set (i := 1) sc_law.nd rfl (.inl rfl) (pe_op op_modP (pe_call (ok_law_cell T) (hr.mono (by decide)) (by rfl) T.g_law_cell T.k_law_cell.kp T.b_law_cell .nil pass0 (pa_cons (pv 0) (pa_cons pe_int pa_nil))) pe_int))
      (pss_cons (ps_set (i := 2) sc_law.nd rfl (.inl rfl) (pe_op op_modP (pe_callTy call_intI (by rfl) T.m_int (by decide +kernel) (pa_cons (pe_call (ok_law_cell T) (hr.mono (by decide)) (by rfl) T.g_law_cell T.k_law_cell.kp T.b_law_cell .nil pass0 (pa_cons (pv 0) (pa_cons pe_int pa_nil))) pa_nil)) pe_int))
      (C8.pss_cut (ps_if (pt_cmpR op_eq (pe_op op_modP (pe_call (ok_law_cell T) (hr.mono (by decide)) (by rfl) T.g_law_cell T.k_law_cell.kp T.b_law_cell .nil pass0 (pa_cons (pv 0) (pa_cons pe_int pa_nil))) pe_int) pe_int (nomark _)) (pss_cons (ps_set (i := 3) sc_law.nd rfl (.inl rfl) (pe_callB (call_min2 rfl) (by rfl) T.m_min (by decide +kernel) (pa_cons pe_int (pa_cons (pe_op op_add (pv 1) pe_int) pa_nil))))
      (pss_one (ps_set (i := 2) sc_law.nd rfl (.inl rfl) (pe_op op_add (pe_op op_sub (pe_op op_fdivW (pe_op op_sub pe_int (pe_callB (call_min2 rfl) (by rfl) T.m_min (by decide +kernel) (pa_cons pe_int (pa_cons (pv 1) pa_nil)))) (pv 3)) pe_int) (pe_op op_modP (pe_call (ok_law_cell T) (hr.mono (by decide)) (by rfl) T.g_law_cell T.k_law_cell.kp T.b_law_cell .nil pass0 (pa_cons (pv 0) (pa_cons pe_int pa_nil))) pe_int))))) pss_nil)
      (pss_cons (ps_set (i := 4) sc_law.nd rfl (.inl rfl) (pe_cmpR op_eq (pe_op op_modP (pe_call (ok_law_cell T) (hr.mono (by decide)) (by rfl) T.g_law_cell T.k_law_cell.kp T.b_law_cell .nil pass0 (pa_cons (pv 0) (pa_cons pe_int pa_nil))) pe_int) pe_int (nomark _)))
      (pss_cons (ps_set (i := 5) sc_law.nd rfl (.inl rfl) (pe_callTy call_tuple_of (by rfl) T.m_tuple (by decide +kernel) (pa_cons (pe_lc (own := [("_law_k", 16)]) (g := gName 16) (tt := tYes) rfl sc_law.nd (pi_range1 (by rfl) T.m_range (pa_cons (pe_callTy call_intI (by rfl) T.m_int (by decide +kernel) (pa_cons (pv 4) pa_nil)) pa_nil)) (blkOk_by (own := [("_law_k", 16)]) (N := ["_law_script", "_law_calls", "_law_rounds", "_law_frames", "_law_caught", "_law_handlers", "_law_rows", "_law_method", "_law_rest", "_law_told", "_law_world", "_law_cells", "_law_journal", "_law_heap", "_law_machine", "_law_expected_here", "_law_k"]) (sc := defScope s_law) (by decide +kernel)) (fun _ _ _ _ _ => pg_name (i := 16) sc_law.nd rfl (Or.inl rfl)) (fun _ _ _ _ _ => pts_nil) (fun _ _ _ _ _ => (pe_tup (pa_cons pe_int (pa_cons pe_int (pa_cons pe_int pa_nil)))))) pa_nil)))
      (pss_cons (ps_set (i := 6) sc_law.nd rfl (.inl rfl) (pe_tup (pa_cons (pe_tup (pa_cons pe_str (pa_cons (pe_tup (pa_cons (pe_tup (pa_cons pe_str pa_nil)) pa_nil)) (pa_cons (pe_tup (pa_cons pe_str pa_nil)) (pa_cons pe_int pa_nil))))) (pa_cons (pe_tup (pa_cons pe_str (pa_cons (pe_tup (pa_cons (pe_tup (pa_cons pe_str pa_nil)) pa_nil)) (pa_cons (pe_tup (pa_cons pe_str pa_nil)) (pa_cons pe_int pa_nil))))) (pa_cons (pe_tup (pa_cons pe_str (pa_cons (pe_tup (pa_cons (pe_tup (pa_cons pe_str pa_nil)) pa_nil)) (pa_cons (pe_tup (pa_cons pe_str pa_nil)) (pa_cons pe_int pa_nil))))) pa_nil)))))
      (pss_cons (ps_set (i := 7) sc_law.nd rfl (.inl rfl) (pe_tup (pa_cons pe_int (pa_cons pe_str (pa_cons (pe_tup (pa_cons (pe_tup (pa_cons pe_str pa_nil)) pa_nil)) (pa_cons (pe_tup (pa_cons pe_str pa_nil)) (pa_cons (pe_tup (pa_cons (pe_tup (pa_cons pe_str pa_nil)) pa_nil)) (pa_cons pe_int (pa_cons (pe_call (ok_law_code T) (hr.mono (by decide)) (by rfl) T.g_law_code T.k_law_code.kp T.b_law_code .nil pass0 (pa_cons (pv 2) pa_nil)) (pa_cons (pv 5) pa_nil))))))))))
      (pss_cons (ps_set (i := 8) sc_law.nd rfl (.inl rfl) (pe_tup (pa_cons pe_int (pa_cons pe_str (pa_cons (pe_tup (pa_cons (pe_tup (pa_cons pe_str pa_nil)) pa_nil)) (pa_cons (pe_tup (pa_cons pe_str pa_nil)) (pa_cons (pe_tup pa_nil) (pa_cons pe_int (pa_cons (pe_tup (pa_cons (pe_tup (pa_cons pe_str (pa_cons pe_int pa_nil))) (pa_cons (pe_tup (pa_cons pe_str (pa_cons pe_int pa_nil))) (pa_cons (pe_tup (pa_cons pe_str pa_nil)) (pa_cons (pe_tup (pa_cons pe_str pa_nil)) pa_nil))))) (pa_cons (pe_tup pa_nil) pa_nil))))))))))
      (pss_cons (ps_set (i := 9) sc_law.nd rfl (.inl rfl) (pe_tup (pa_cons pe_int (pa_cons pe_str (pa_cons (pe_tup (pa_cons (pe_tup (pa_cons pe_str pa_nil)) pa_nil)) (pa_cons (pe_tup (pa_cons pe_str pa_nil)) (pa_cons (pe_tup pa_nil) (pa_cons pe_int (pa_cons (pe_tup (pa_cons (pe_tup (pa_cons pe_str (pa_cons pe_int pa_nil))) (pa_cons (pe_tup (pa_cons pe_str (pa_cons pe_int pa_nil))) (pa_cons (pe_tup (pa_cons pe_str (pa_cons pe_str pa_nil))) (pa_cons (pe_tup (pa_cons pe_str pa_nil)) pa_nil))))) (pa_cons (pe_tup pa_nil) pa_nil))))))))))
      (pss_cons (ps_set (i := 10) sc_law.nd rfl (.inl rfl) (pe_make0 T.mk_World (ok_World_init T) (hr.mono (by decide)) rfl T.g_World T.b_World_init .nil pass0))
      (pss_cons (ps_expr (pe_meth (pv 10) T.cl_World T.me_World_add (ok_World_add T) (hr.mono (by decide)) T.b_World_add .nil passL (pa_cons (pe_tup (pa_cons pe_str (pa_cons pe_str (pa_cons pe_int (pa_cons (pe_tup pa_nil) (pa_cons (pe_tup pa_nil) (pa_cons (pe_tup (pa_cons (pe_tup (pa_cons pe_str (pa_cons (pe_un un_neg pe_int) (pa_cons (pe_tup pa_nil) (pa_cons (pe_tup pa_nil) (pa_cons (pv 6) pa_nil)))))) pa_nil)) (pa_cons (pe_tup (pa_cons (pv 7) (pa_cons (pv 8) (pa_cons (pv 9) pa_nil)))) (pa_cons (pe_tup pa_nil) pa_nil))))))))) pa_nil)))
      (pss_cons (ps_set (i := 11) sc_law.nd rfl (.inl rfl) (pe_make T.mk_Cells (ok_Cells_init T) (hr.mono (by decide)) (by rfl) T.g_Cells T.b_Cells_init .nil pass0 (pa_cons pe_int pa_nil)))
      (pss_cons (ps_set (i := 12) sc_law.nd rfl (.inl rfl) (pe_make T.mk_Journal (ok_Journal_init T) (hr.mono (by decide)) (by rfl) T.g_Journal T.b_Journal_init .nil pass0 (pa_cons (pv 11) (pa_cons pe_int pa_nil))))
      (pss_cons (ps_set (i := 13) sc_law.nd rfl (.inl rfl) (pe_make T.mk_Heap (ok_Heap_init T) (hr.mono (by decide)) (by rfl) T.g_Heap T.b_Heap_init .nil pass0 (pa_cons (pv 11) (pa_cons (pv 12) (pa_cons pe_int pa_nil)))))
      (pss_cons (ps_expr (pe_meth (pv 13) T.cl_Heap T.me_Heap_make (ok_Heap_make T) (hr.mono (by decide)) T.b_Heap_make .nil passL (pa_cons pe_int (pa_cons pe_int (pa_cons pe_int pa_nil)))))
      (pss_cons (ps_set (i := 14) sc_law.nd rfl (.inl rfl) (pe_make T.mk_Machine (ok_Machine_init T) (hr.mono (by decide)) (by rfl) T.g_Machine T.b_Machine_init .nil pass0 (pa_cons (pv 10) (pa_cons (pv 13) (pa_cons (pv 12) (pa_cons (pe_glob (v := .ref T.f_law_seek) rfl T.g_law_seek rfl) (pa_cons pe_dnewK pa_nil)))))))
      (pss_cons (ps_set (i := 15) sc_law.nd rfl (.inl rfl) (pe_call (ok_law_expected T) (hr.mono (by decide)) (by rfl) T.g_law_expected T.k_law_expected.kp T.b_law_expected .nil pass0 (pa_cons (pv 2) (pa_cons (pv 1) (pa_cons (pv 4) pa_nil)))))
      (pss_cons (ps_if (PW.pt (pw_or (pt_cmpR (op_neD hr.units) (pe_call (ok_law_played T) (hr.mono (by decide)) (by rfl) T.g_law_played T.k_law_played.kp T.b_law_played .nil pass0 (pa_cons (pv 14) (pa_cons (pv 1) pa_nil))) (pv 15) (nomark _)) (pw_or1 (pt_cmpR op_notN (pe_meth (pv 14) T.cl_Machine T.me_Machine_run (ok_Machine_run T) (hr.mono (by decide)) T.b_Machine_run .nil passL (pa_cons pe_int (pa_cons pe_str (pa_cons (pv 2) pa_nil)))) pe_non (nomark _))))) (pss_one (ps_ret pe_bl)) pss_nil)
      (pss_one (ps_ret (pe_and (pe_cmpR op_eq (pe_meth (pv 14) T.cl_Machine T.me_Machine_run (ok_Machine_run T) (hr.mono (by decide)) T.b_Machine_run .nil passL (pa_cons pe_int (pa_cons pe_str (pa_cons (pv 1) pa_nil)))) (pe_op op_mul pe_int (pv 1)) (nomark _)) (pe_one (pe_cmpR (op_eqD hr.units) (pe_call (ok_law_played T) (hr.mono (by decide)) (by rfl) T.g_law_played T.k_law_played.kp T.b_law_played .nil pass0 (pa_cons (pv 14) (pa_cons (pv 1) pa_nil))) (pv 15) (nomark _)))))))))))))))))))))))), ?_⟩
    refine rdSeq ?_
    walk_at "rd"
    refine ⟨a, ns, 0, rfl, hS, hl, fun x0 => ⟨_, rfl, ?_⟩⟩
    obtain ⟨C, eC, hC⟩ : ∃ C : Nat, x0 % 12 = (C : Int) ∧ C ≤ 11 := ⟨(x0 % 12).toNat, by omega, by omega⟩
    rw [eC]
    refine rdSeq ?_
    walk_at "rd"
    refine ⟨a, ns, 1, rfl, hS, hl, fun x1 => ?_⟩
    dsimp only
    refine rdCut (fun σ' H' => H' = H ∧ ∃ R : Nat, R ≤ 1001 ∧ ∃ y3, σ' = [some (.ref a), some (.int (C : Nat)), some (.int (R : Nat)), y3, none, none, none, none, none, none, none, none, none, none, none, none, none]) ?_ ?_
    · walk_at "rd"
      refine ⟨a, ns, 2, rfl, hS, hl, fun x2 => ⟨x2, rfl, ite2 (fun _ => ?_) (fun _ => ⟨rfl, (x1 % 12).toNat, by omega, by omega⟩)⟩⟩
      refine rdSeq ?_
      walk_at "rd"
      have eF : ∃ F : Nat, (if (C : Int) + 1 < 8 then (C : Int) + 1 else 8) = (F : Int) ∧ 1 ≤ F ∧ F ≤ 8 := ⟨min 8 (C + 1), by split <;> omega, by omega, by omega⟩
      have eM : ∃ M : Nat, (if (C : Int) < 8 then (C : Int) else 8) = (M : Int) ∧ M ≤ 8 := ⟨min 8 C, by split <;> omega, by omega⟩
      obtain ⟨F, e1, f1, f8⟩ := eF
      obtain ⟨M, e2, m8⟩ := eM
      rw [e1, e2]
      refine ⟨⟨by omega, ?_⟩, a, ns, 1, rfl, hS, hl, fun x4 => ⟨x4, rfl, rfl, ?_⟩⟩
      · rw [Int.natAbs_natCast]
        exact Nat.lt_of_le_of_lt (Nat.log2_le_self _) (by omega)
      · have hq : 0 ≤ (1000 - (M : Int)) / (F : Int) - 2 + x4 % 4 ∧ (1000 - (M : Int)) / (F : Int) - 2 + x4 % 4 ≤ 1001 := by
          have : F = 1 ∨ F = 2 ∨ F = 3 ∨ F = 4 ∨ F = 5 ∨ F = 6 ∨ F = 7 ∨ F = 8 := by omega
          rcases this with rfl | rfl | rfl | rfl | rfl | rfl | rfl | rfl <;> omega
        exact ⟨((1000 - (M : Int)) / (F : Int) - 2 + x4 % 4).toNat, by omega, by omega⟩
    rintro σ' H1 ⟨rfl, R, hR, y3, rfl⟩
    refine rdSeq ?_
    walk_at "rd"
    refine ⟨a, ns, 3, rfl, hS, hl, fun x3 => ⟨x3, rfl, ?_⟩⟩
    generalize decide (x3 % 2 = 1) = b
    refine rdSeq ?_
    walk_at "rd"
    have en : ∃ n : Nat, (if b = true then (1 : Int) else 0) = (n : Int) ∧ (if b = true then (1 : Int) else 0).toNat = n ∧ (hdsB b).map hdD = List.replicate n (hdD (10, 19, 22)) ∧ n ≤ 1 := by cases b <;> exact ⟨_, rfl, rfl, rfl, by decide⟩
    obtain ⟨n, en1, en2, en3, hn1⟩ := en
    rw [en2, en1]
    refine ⟨by omega, by omega, ?_⟩
    intro D hD
    refine lc_it walk_range (fun i H' => Same H1 H' ∧ ∃ vs, H' D = some (.lst vs) ∧ FrL K H' vs (List.replicate i (hdD (10, 19, 22)))) ⟨same_new hD, [], upd_same, .nil⟩ (fun _ _ _ _ => trivial) ?_ ?_
    · rintro i x H2 Hx hi ⟨e1, vs, e2, e3⟩ ⟨e0, ex⟩
      subst ex
      have e0 : Hx = H2 := e0
      rw [e0]
      refine ⟨rfl, ?_⟩
      walk_at "rd"
      intro t ht
      have st := same_new (o := .tup [.int 10, .int 19, .int 22]) ht
      have hlen := e3.len
      rw [List.length_replicate] at hlen
      have hDt : upd H2 t (.tup [.int 10, .int 19, .int 22]) D = some (.lst vs) := st _ _ e2
      have ft : Fr K (upd H2 t (.tup [.int 10, .int 19, .int 22])) (.ref t) (hdD (10, 19, 22)) := Fr.new (.cons (.int _) (.cons (.int _) (.cons (.int _) .nil)))
      have tk : TupK (upd H2 t (.tup [.int 10, .int 19, .int 22])) (upd (upd H2 t (.tup [.int 10, .int 19, .int 22])) D (.lst (vs ++ [.ref t]))) := TupK.mut hDt (fun _ h => nomatch h)
      refine ⟨vs, hDt, by omega, fun x o hx => ?_, vs ++ [.ref t], upd_same, ?_⟩
      · rw [upd_ne (ne_of_none hx hD)]
        exact st _ _ (e1 _ _ hx)
      · have er : hdD (10, 19, 22) :: List.replicate i (hdD (10, 19, 22)) = List.replicate i (hdD (10, 19, 22)) ++ [hdD (10, 19, 22)] := by rw [← List.replicate_succ, List.replicate_succ']
        rw [er]
        exact ((e3.up (.of st)).up tk).app (.cons (ft.up tk) .nil)
    rintro H2 ⟨e1, vs, e2, e3⟩
    refine ⟨D, rfl, vs, .inl ⟨sqL_of e2, fun p hp => ?_⟩⟩
    have s3 := same_new (o := .tup vs) hp
    have fh : Fr K (upd H2 p (.tup vs)) (.ref p) (.tuple ((hdsB b).map hdD)) := by
      rw [en3]
      exact Fr.new (e3.up (.of s3))
    have s13 : Same H1 (upd H2 p (.tup vs)) := e1.trans s3
    generalize upd H2 p (.tup vs) = H3 at *
    refine rdSeq ?_
    refine i_lit (K := K) (d := .tuple (rowsD.map Rw.d)) ?_ fun vr H4 s4 fr => ?_
    · walk_at "lits"
    dsimp only
    have fh := fh.up (.of s4)
    refine rdSeq ?_
    refine i_lit (K := K) (d := (mtRun R b).d) ?_ fun vm H5 s5 fm => ?_
    · refine lt_tup ?_
      walk_at "lits"
      · exact lt_code rfl
      · exact lt_cons (lt_var rfl fh) lt_nil
    dsimp only
    have fr := fr.up (.of s5)
    refine rdSeq ?_
    refine i_lit (K := K) (d := mtRest.d) ?_ fun vq H6 s6 fq => ?_
    · refine lt_tup ?_
      walk_at "lits"
    dsimp only
    have fr := fr.up (.of s6)
    have fm := fm.up (.of s6)
    refine rdSeq ?_
    refine i_lit (K := K) (d := mtTold.d) ?_ fun vt H7 s7 ft => ?_
    · refine lt_tup ?_
      walk_at "lits"
    dsimp only
    have fr := fr.up (.of s7)
    have fm := fm.up (.of s7)
    have fq := fq.up (.of s7)
    refine rdSeq ?_
    walk_at "rd"
    intro wa dw hwa hdw ndw
    have s8 : Same H7 (upd (upd H7 dw (.own wa)) wa (.ins T.c_World dw [])) := (same_new hdw).trans (same_new (by rw [upd_ne (Ne.symm ndw)]; exact hwa))
    refine ⟨wa, dw, rfl, upd_same, fun H8 md cl hW hmd hcl nmc k8 => ⟨rfl, rdSeq ?_⟩⟩
    have s78 : Same H7 H8 := k8.same s8 (by simp [hwa])
    have fr := fr.up (.of s78)
    have fm := fm.up (.of s78)
    have fq := fq.up (.of s78)
    have ft := ft.up (.of s78)
    obtain ⟨⟨dw8, how8⟩, _, _⟩ := id hW
    refine i_litM (K := K) (ds := [(mdD R b).d]) rfl how8 rfl ?_ fun vs H9 s9 fl => ?_
    · refine lt_cons (lt_tup ?_) lt_nil
      walk_at "lits"
    cases fl with | cons fv fl => ?_
    cases fl
    refine ⟨wa, md, cl, [], mdD R b, _, rfl, hW.same s9, fv, ?_, ?_, (fun _ h => nomatch h), fun _ H10 hW10 k10 t10 => ?_, fun h => absurd (mdD_chk.symm.trans h) (by decide)⟩
    · exact ⟨by simp, by simp, by simp⟩
    · exact mdD_z
    walk_at "rd"
    refine rdSeq ?_
    walk_at "rd"
    intro c dx hc hdx ndx
    have s11 : Same H10 (upd (upd H10 dx (.own c)) c (.ins T.c_Cells dx [])) := (same_new hdx).trans (same_new (by rw [upd_ne (Ne.symm ndx)]; exact hc))
    refine ⟨c, dx, 1002, rfl, upd_same, by omega, fun H11 l hCe hle k11 => ⟨rfl, ?_⟩⟩
    have s11 : Same H10 H11 := k11.same s11 (by simp [hc])
    have hl10 : H10 l = none := Same.free ((same_new hdx).trans (same_new (by rw [upd_ne (Ne.symm ndx)]; exact hc))) hle
    have own11 : H10 c = none ∧ H10 l = none := ⟨hc, hl10⟩
    refine rdSeq ?_
    walk_at "rd"
    intro j dj hj hdj ndj
    have s12 : Same H11 (upd (upd H11 dj (.own j)) j (.ins T.c_Journal dj [])) := (same_new hdj).trans (same_new (by rw [upd_ne (Ne.symm ndj)]; exact hj))
    have hCe1 := hCe.keep (Kp.of s12 (X := [])) (by simp) (by simp)
    refine ⟨j, dj, c, 0, rfl, upd_same, fun H12 hJ k12 => ⟨rfl, ?_⟩⟩
    have s12 : Same H11 H12 := k12.same s12 (by simp [hj])
    have hCe2 := hCe.keep (Kp.of s12 (X := [])) (by simp) (by simp)
    have hj10 : H10 j = none := Same.free s11 hj
    refine rdSeq ?_
    walk_at "rd"
    intro h dh hh hdh ndh
    have s13 : Same H12 (upd (upd H12 dh (.own h)) h (.ins T.c_Heap dh [])) := (same_new hdh).trans (same_new (by rw [upd_ne (Ne.symm ndh)]; exact hh))
    refine ⟨h, c, l, j, dh, _, false, rfl, upd_same, hCe2.keep (Kp.of s13 (X := [])) (by simp) (by simp), hJ.keep (Kp.of s13 (X := [])) (by simp), by simp, fun H13 dt bf hHp hdt hbf k13 => ⟨rfl, ?_⟩⟩
    have s13' : Same H12 H13 := k13.same s13 (by simp [hh])
    have hh10 : H10 h = none := Same.free (s11.trans s12) hh
    have hdt10 : H10 dt = none := Same.free ((s11.trans s12).trans s13) hdt
    have hbf10 : H10 bf = none := Same.free ((s11.trans s12).trans s13) hbf
    have s1013 : Same H10 H13 := s11.trans (s12.trans s13')
    refine rdSeq ?_
    walk_at "rd"
    obtain ⟨dh2, hoh⟩ := hHp.ob
    refine i_meth hoh rfl ⟨⟨h, c, l, j, dt⟩, ⟨List.replicate 1002 0, none, true⟩, false, [(61, bf, List.replicate 64 0)], 0, fun _ => 0, M0, 0, 1, 0, rfl, ⟨hHp, rep0, rfl⟩, fun hx => absurd hx (by decide), fun _ H14 tm' n hL hAt mv => ?_⟩
    obtain rfl := least1 hL
    rw [wlog_up] at hAt ⊢
    refine ⟨fun _ etm => ?_, fun e => nomatch e⟩
    subst etm
    have hold : HoldX T H14 ⟨h, c, l, j, dt⟩ (M0 ++ [(1, newOb 0 1 0)]) := ⟨_, _, _, _, _, ⟨hAt, rep0.make (by simp) hL (by decide), rfl⟩⟩
    have s1014 : Same H10 H14 := mv.kp.same s1013 (by
      intro x hx
      simp [own] at hx
      rcases hx with rfl | rfl | rfl | rfl
      · exact own11.1
      · exact own11.2
      · exact hdt10
      · exact hbf10)
    have hW14 := hW10.same s1014
    refine rdSeq ?_
    walk_at "rd"
    intro nd hnd
    have s15 := same_new (o := .dK []) hnd
    have hE15 : EnvM T (upd H14 nd (.dK [])) ⟨nd, nd, h, j, wa, nd, .non⟩ ⟨md, cl, [mdD R b], ⟨h, c, l, j, dt⟩, M0 ++ [(1, newOb 0 1 0)]⟩ := ⟨hW14.same s15, hold.same s15, rfl⟩
    generalize upd H14 nd (.dK []) = H15 at *
    intro x dx hx hdx ndx
    have s16 : Same H15 (upd (upd H15 dx (.own x)) x (.ins T.c_Machine dx [])) := (same_new hdx).trans (same_new (by rw [upd_ne (Ne.symm ndx)]; exact hx))
    refine ⟨x, dx, wa, h, j, nd, _, rfl, upd_same, fun fl H16 hfl kp16 tk16 hms => ⟨rfl, ?_⟩⟩
    have mi : MI T H15 H16 ⟨x, fl, h, j, wa, nd, .ref T.f_law_seek⟩ [] 0 .non := ⟨kp16.same s16 (by simp [hx]), fun y hy => by
      rcases List.mem_cons.mp hy with rfl | hy
      · exact hx
      · rcases List.mem_cons.mp hy with rfl | hy
        · exact Same.free s16 hfl
        · simp at hy, hms⟩
    have hE : ∀ fl, EnvM T H15 ⟨x, fl, h, j, wa, nd, .ref T.f_law_seek⟩ ⟨md, cl, [mdD R b], ⟨h, c, l, j, dt⟩, M0 ++ [(1, newOb 0 1 0)]⟩ := fun fl => ⟨hE15.wd, hE15.hh, rfl⟩
    have hN : NOk ⟨md, cl, [mdD R b], ⟨h, c, l, j, dt⟩, M0 ++ [(1, newOb 0 1 0)]⟩ R b := ⟨rfl, by simp⟩
    obtain ⟨dd, hsh, hdp⟩ := fin_dp (K := K) (expF_ok (C := C) (R := R) (b := b))
    refine rdSeq ?_
    walk_at "rd"
    refine ⟨R, C, b, rfl, fun pe hpe => ?_⟩
    have mi := mi.same (same_new (o := .tup (finV (expF C R b))) hpe)
    have he : upd H16 pe (.tup (finV (expF C R b))) pe = some (.tup (finV (expF C R b))) := upd_same
    generalize upd H16 pe (.tup (finV (expF C R b))) = H17 at *
    refine rdSeq ?_
    walk_at "rd"
    refine play_at hR hC hN (hE _) mi fun H18 p18 fl18 fs18 n18 r18 m18 hp18 t18 => ?_
    have he18 := t18 _ _ he
    refine i_neD (hdp H18 p18 hp18) (hdp H18 pe he18) hsh ?_
    refine ⟨false, rfl, ifN (by decide) ?_⟩
    obtain ⟨dm18, hom18⟩ := m18.ms.ob
    refine i_meth hom18 rfl (run_at (row := 1) (r := ⟨⟨"rest", [.int], .nothing⟩, 1⟩) (mt := mtRest) (code := restD) (hds := []) (f := .ret .non) hN (hE _) m18 rfl (rows_first rfl) rfl ⟨1, rfl⟩ (by decide) (e_rest hR rfl) fun H19 fl19 n19 m19 t19 => ?_)
    refine ifN (by simp) ?_
    have he19 := t19 _ _ he18
    obtain ⟨dm19, hom19⟩ := m19.ms.ob
    refine i_meth hom19 rfl (run_at (row := 2) (r := ⟨⟨"told", [.int], .int⟩, 2⟩) (mt := mtTold) (code := toldD) (hds := []) (f := .ret (.int ((C : Int) * 5))) hN (hE _) m19 rfl (rows_first rfl) rfl ⟨2, rfl⟩ (by decide) (e_told hC rfl) fun H20 fl20 n20 m20 t20 => ?_)
    have he20 := t20 _ _ he19
    refine ⟨.inl ⟨by omega, by omega⟩, rfl, ifY (by rw [Int.mul_comm]) ?_⟩
    refine play_at hR hC hN (hE _) m20 fun H21 p21 fl21 fs21 n21 r21 m21 hp21 t21 => ?_
    exact i_eqD (hdp H21 p21 hp21) (hdp H21 pe (t21 _ _ he20)) hsh (q H21)

theorem all_mk {l : PySem.W.OpenLaw} {w : World} {K : PySem.W.Frag} {h : Heap} {mg : Str → Option Value} {fa : Addr} (X : K.In h) (G : h.Ns mainGlobals mg) (hfa : mg "law" = some (.ref fa))
    {f0 : Addr} {od0 an0 : Option Addr} {sl0 : Array (Option Value)} {oc0 kV0 dc0 pm0 cd0 ct0 : Value}
    {f1 : Addr} {od1 an1 : Option Addr} {sl1 : Array (Option Value)} {oc1 kV1 dc1 pm1 cd1 ct1 : Value}
    {f2 : Addr} {od2 an2 : Option Addr} {sl2 : Array (Option Value)} {oc2 kV2 dc2 pm2 cd2 ct2 : Value}
    {f3 : Addr} {od3 an3 : Option Addr} {sl3 : Array (Option Value)} {oc3 kV3 dc3 pm3 cd3 ct3 : Value}
    {f4 : Addr} {od4 an4 : Option Addr} {sl4 : Array (Option Value)} {oc4 kV4 dc4 pm4 cd4 ct4 : Value}
    {f5 : Addr} {od5 an5 : Option Addr} {sl5 : Array (Option Value)} {oc5 kV5 dc5 pm5 cd5 ct5 : Value}
    {f6 : Addr} {od6 an6 : Option Addr} {sl6 : Array (Option Value)} {oc6 kV6 dc6 pm6 cd6 ct6 : Value}
    {f7 : Addr} {od7 an7 : Option Addr} {sl7 : Array (Option Value)} {oc7 kV7 dc7 pm7 cd7 ct7 : Value}
    {f8 : Addr} {od8 an8 : Option Addr} {sl8 : Array (Option Value)} {oc8 kV8 dc8 pm8 cd8 ct8 : Value}
    {f9 : Addr} {od9 an9 : Option Addr} {sl9 : Array (Option Value)} {oc9 kV9 dc9 pm9 cd9 ct9 : Value}
    {f10 : Addr} {od10 an10 : Option Addr} {sl10 : Array (Option Value)} {oc10 kV10 dc10 pm10 cd10 ct10 : Value}
    {f11 : Addr} {od11 an11 : Option Addr} {sl11 : Array (Option Value)} {oc11 kV11 dc11 pm11 cd11 ct11 : Value}
    {f12 : Addr} {od12 an12 : Option Addr} {sl12 : Array (Option Value)} {oc12 kV12 dc12 pm12 cd12 ct12 : Value}
    {f13 : Addr} {od13 an13 : Option Addr} {sl13 : Array (Option Value)} {oc13 kV13 dc13 pm13 cd13 ct13 : Value}
    {f14 : Addr} {od14 an14 : Option Addr} {sl14 : Array (Option Value)} {oc14 kV14 dc14 pm14 cd14 ct14 : Value}
    {f15 : Addr} {od15 an15 : Option Addr} {sl15 : Array (Option Value)} {oc15 kV15 dc15 pm15 cd15 ct15 : Value}
    {f16 : Addr} {od16 an16 : Option Addr} {sl16 : Array (Option Value)} {oc16 kV16 dc16 pm16 cd16 ct16 : Value}
    {f17 : Addr} {od17 an17 : Option Addr} {sl17 : Array (Option Value)} {oc17 kV17 dc17 pm17 cd17 ct17 : Value}
    {f18 : Addr} {od18 an18 : Option Addr} {sl18 : Array (Option Value)} {oc18 kV18 dc18 pm18 cd18 ct18 : Value}
    {f19 : Addr} {od19 an19 : Option Addr} {sl19 : Array (Option Value)} {oc19 kV19 dc19 pm19 cd19 ct19 : Value}
    {f20 : Addr} {od20 an20 : Option Addr} {sl20 : Array (Option Value)} {oc20 kV20 dc20 pm20 cd20 ct20 : Value}
    {f21 : Addr} {od21 an21 : Option Addr} {sl21 : Array (Option Value)} {oc21 kV21 dc21 pm21 cd21 ct21 : Value}
    {f22 : Addr} {od22 an22 : Option Addr} {sl22 : Array (Option Value)} {oc22 kV22 dc22 pm22 cd22 ct22 : Value}
    {f23 : Addr} {od23 an23 : Option Addr} {sl23 : Array (Option Value)} {oc23 kV23 dc23 pm23 cd23 ct23 : Value}
    {f24 : Addr} {od24 an24 : Option Addr} {sl24 : Array (Option Value)} {oc24 kV24 dc24 pm24 cd24 ct24 : Value}
    {f25 : Addr} {od25 an25 : Option Addr} {sl25 : Array (Option Value)} {oc25 kV25 dc25 pm25 cd25 ct25 : Value}
    {f26 : Addr} {od26 an26 : Option Addr} {sl26 : Array (Option Value)} {oc26 kV26 dc26 pm26 cd26 ct26 : Value}
    {f27 : Addr} {od27 an27 : Option Addr} {sl27 : Array (Option Value)} {oc27 kV27 dc27 pm27 cd27 ct27 : Value}
    {f28 : Addr} {od28 an28 : Option Addr} {sl28 : Array (Option Value)} {oc28 kV28 dc28 pm28 cd28 ct28 : Value}
    {f29 : Addr} {od29 an29 : Option Addr} {sl29 : Array (Option Value)} {oc29 kV29 dc29 pm29 cd29 ct29 : Value}
    {f30 : Addr} {od30 an30 : Option Addr} {sl30 : Array (Option Value)} {oc30 kV30 dc30 pm30 cd30 ct30 : Value}
    {f31 : Addr} {od31 an31 : Option Addr} {sl31 : Array (Option Value)} {oc31 kV31 dc31 pm31 cd31 ct31 : Value}
    {f32 : Addr} {od32 an32 : Option Addr} {sl32 : Array (Option Value)} {oc32 kV32 dc32 pm32 cd32 ct32 : Value}
    {f33 : Addr} {od33 an33 : Option Addr} {sl33 : Array (Option Value)} {oc33 kV33 dc33 pm33 cd33 ct33 : Value}
    {f34 : Addr} {od34 an34 : Option Addr} {sl34 : Array (Option Value)} {oc34 kV34 dc34 pm34 cd34 ct34 : Value}
    {f35 : Addr} {od35 an35 : Option Addr} {sl35 : Array (Option Value)} {oc35 kV35 dc35 pm35 cd35 ct35 : Value}
    {f36 : Addr} {od36 an36 : Option Addr} {sl36 : Array (Option Value)} {oc36 kV36 dc36 pm36 cd36 ct36 : Value}
    {f37 : Addr} {od37 an37 : Option Addr} {sl37 : Array (Option Value)} {oc37 kV37 dc37 pm37 cd37 ct37 : Value}
    {f38 : Addr} {od38 an38 : Option Addr} {sl38 : Array (Option Value)} {oc38 kV38 dc38 pm38 cd38 ct38 : Value}
    {f39 : Addr} {od39 an39 : Option Addr} {sl39 : Array (Option Value)} {oc39 kV39 dc39 pm39 cd39 ct39 : Value}
    {f40 : Addr} {od40 an40 : Option Addr} {sl40 : Array (Option Value)} {oc40 kV40 dc40 pm40 cd40 ct40 : Value}
    {f41 : Addr} {od41 an41 : Option Addr} {sl41 : Array (Option Value)} {oc41 kV41 dc41 pm41 cd41 ct41 : Value}
    {f42 : Addr} {od42 an42 : Option Addr} {sl42 : Array (Option Value)} {oc42 kV42 dc42 pm42 cd42 ct42 : Value}
    {f43 : Addr} {od43 an43 : Option Addr} {sl43 : Array (Option Value)} {oc43 kV43 dc43 pm43 cd43 ct43 : Value}
    {f44 : Addr} {od44 an44 : Option Addr} {sl44 : Array (Option Value)} {oc44 kV44 dc44 pm44 cd44 ct44 : Value}
    {f45 : Addr} {od45 an45 : Option Addr} {sl45 : Array (Option Value)} {oc45 kV45 dc45 pm45 cd45 ct45 : Value}
    {f46 : Addr} {od46 an46 : Option Addr} {sl46 : Array (Option Value)} {oc46 kV46 dc46 pm46 cd46 ct46 : Value}
    {f47 : Addr} {od47 an47 : Option Addr} {sl47 : Array (Option Value)} {oc47 kV47 dc47 pm47 cd47 ct47 : Value}
    {f48 : Addr} {od48 an48 : Option Addr} {sl48 : Array (Option Value)} {oc48 kV48 dc48 pm48 cd48 ct48 : Value}
    {f49 : Addr} {od49 an49 : Option Addr} {sl49 : Array (Option Value)} {oc49 kV49 dc49 pm49 cd49 ct49 : Value}
    {f50 : Addr} {od50 an50 : Option Addr} {sl50 : Array (Option Value)} {oc50 kV50 dc50 pm50 cd50 ct50 : Value}
    {f51 : Addr} {od51 an51 : Option Addr} {sl51 : Array (Option Value)} {oc51 kV51 dc51 pm51 cd51 ct51 : Value}
    {f52 : Addr} {od52 an52 : Option Addr} {sl52 : Array (Option Value)} {oc52 kV52 dc52 pm52 cd52 ct52 : Value}
    {f53 : Addr} {od53 an53 : Option Addr} {sl53 : Array (Option Value)} {oc53 kV53 dc53 pm53 cd53 ct53 : Value}
    {f54 : Addr} {od54 an54 : Option Addr} {sl54 : Array (Option Value)} {oc54 kV54 dc54 pm54 cd54 ct54 : Value}
    {f55 : Addr} {od55 an55 : Option Addr} {sl55 : Array (Option Value)} {oc55 kV55 dc55 pm55 cd55 ct55 : Value}
    {f56 : Addr} {od56 an56 : Option Addr} {sl56 : Array (Option Value)} {oc56 kV56 dc56 pm56 cd56 ct56 : Value}
    {f57 : Addr} {od57 an57 : Option Addr} {sl57 : Array (Option Value)} {oc57 kV57 dc57 pm57 cd57 ct57 : Value}
    {f58 : Addr} {od58 an58 : Option Addr} {sl58 : Array (Option Value)} {oc58 kV58 dc58 pm58 cd58 ct58 : Value}
    {c_CardError : Addr}
    {c_BadLink : Addr}
    {c_Fault : Addr}
    {em0_Fault em1_Fault : Str} {em2_Fault : Addr} {em3_Fault em4_Fault : List Value} {em5_Fault : List Str} {em6_Fault : List Value} {em7_Fault : Bool} {em8_Fault : Option Bool} {em9_Fault : Option Addr} {em10_Fault em11_Fault em12_Fault em13_Fault em14_Fault : Option Value}
    {c_StepsGone : Addr}
    {c_PowerCut : Addr}
    {c_Heap : Addr}
    {c_Frame : Addr}
    {c_Machine : Addr}
    {c_Cells : Addr}
    {c_Journal : Addr}
    {c_Draft : Addr}
    {c_World : Addr}
    {tk0 : Tok}
    {tk1 : Tok}
    {tk2 : Tok}
    {tk3 : Tok}
    {tk4 : Tok}
    {tk5 : Tok}
    {tk6 : Tok}
    {tk7 : Tok}
    {tk8 : Tok}
    {tk9 : Tok}
    {tk10 : Tok}
    {tk11 : Tok}
    {tk12 : Tok}
    {tk13 : Tok}
    {qa14 : Addr} {qd14 : Option Addr} {qn14 : Nat} {qs14 : Array (Option Value)} {tq14_0 : Tok}
    {qa15 : Addr} {qd15 : Option Addr} {qn15 : Nat} {qs15 : Array (Option Value)} {tq15_0 : Tok}
    (a0 : PySem.W.nsIn K mainGlobals "_wall" = some (some (.ref f0)))
    (l0 : K.lookup f0 = some ⟨oc0, od0, .func (PySem.W.fnOf "_wall" "_wall" (defArgs s_wall) (defBody s_wall) (defScope s_wall) .none kV0 dc0 pm0 an0 cd0 ct0), sl0⟩) (c0 : PySem.W.codeIn K cd0 "_wall" = true) (k0 : PySem.W.keepIn K (.ref f0) = true)
    (l1 : K.lookup f1 = some ⟨oc1, od1, .func (PySem.W.fnOf "__init__" "Fault.__init__" (defArgs s_Fault_init) (defBody s_Fault_init) (defScope s_Fault_init) .none kV1 dc1 pm1 an1 cd1 ct1), sl1⟩) (c1 : PySem.W.codeIn K cd1 "Fault.__init__" = true) (k1 : PySem.W.keepIn K (.ref f1) = true)
    (l2 : K.lookup f2 = some ⟨oc2, od2, .func (PySem.W.fnOf "__init__" "Heap.__init__" (defArgs s_Heap_init) (defBody s_Heap_init) (defScope s_Heap_init) .none kV2 dc2 pm2 an2 cd2 ct2), sl2⟩) (c2 : PySem.W.codeIn K cd2 "Heap.__init__" = true) (k2 : PySem.W.keepIn K (.ref f2) = true)
    (l3 : K.lookup f3 = some ⟨oc3, od3, .func (PySem.W.fnOf "numbers" "Heap.numbers" (defArgs s_Heap_numbers) (defBody s_Heap_numbers) (defScope s_Heap_numbers) .none kV3 dc3 pm3 an3 cd3 ct3), sl3⟩) (c3 : PySem.W.codeIn K cd3 "Heap.numbers" = true) (k3 : PySem.W.keepIn K (.ref f3) = true)
    (l4 : K.lookup f4 = some ⟨oc4, od4, .func (PySem.W.fnOf "used" "Heap.used" (defArgs s_Heap_used) (defBody s_Heap_used) (defScope s_Heap_used) .none kV4 dc4 pm4 an4 cd4 ct4), sl4⟩) (c4 : PySem.W.codeIn K cd4 "Heap.used" = true) (k4 : PySem.W.keepIn K (.ref f4) = true)
    (l5 : K.lookup f5 = some ⟨oc5, od5, .func (PySem.W.fnOf "kind" "Heap.kind" (defArgs s_Heap_kind) (defBody s_Heap_kind) (defScope s_Heap_kind) .none kV5 dc5 pm5 an5 cd5 ct5), sl5⟩) (c5 : PySem.W.codeIn K cd5 "Heap.kind" = true) (k5 : PySem.W.keepIn K (.ref f5) = true)
    (l6 : K.lookup f6 = some ⟨oc6, od6, .func (PySem.W.fnOf "owner" "Heap.owner" (defArgs s_Heap_owner) (defBody s_Heap_owner) (defScope s_Heap_owner) .none kV6 dc6 pm6 an6 cd6 ct6), sl6⟩) (c6 : PySem.W.codeIn K cd6 "Heap.owner" = true) (k6 : PySem.W.keepIn K (.ref f6) = true)
    (l7 : K.lookup f7 = some ⟨oc7, od7, .func (PySem.W.fnOf "size" "Heap.size" (defArgs s_Heap_size) (defBody s_Heap_size) (defScope s_Heap_size) .none kV7 dc7 pm7 an7 cd7 ct7), sl7⟩) (c7 : PySem.W.codeIn K cd7 "Heap.size" = true) (k7 : PySem.W.keepIn K (.ref f7) = true)
    (l8 : K.lookup f8 = some ⟨oc8, od8, .func (PySem.W.fnOf "make" "Heap.make" (defArgs s_Heap_make) (defBody s_Heap_make) (defScope s_Heap_make) .none kV8 dc8 pm8 an8 cd8 ct8), sl8⟩) (c8 : PySem.W.codeIn K cd8 "Heap.make" = true) (k8 : PySem.W.keepIn K (.ref f8) = true)
    (l9 : K.lookup f9 = some ⟨oc9, od9, .func (PySem.W.fnOf "_half" "Heap._half" (defArgs s_Heap__half) (defBody s_Heap__half) (defScope s_Heap__half) .none kV9 dc9 pm9 an9 cd9 ct9), sl9⟩) (c9 : PySem.W.codeIn K cd9 "Heap._half" = true) (k9 : PySem.W.keepIn K (.ref f9) = true)
    (l10 : K.lookup f10 = some ⟨oc10, od10, .func (PySem.W.fnOf "_table" "Heap._table" (defArgs s_Heap__table) (defBody s_Heap__table) (defScope s_Heap__table) .none kV10 dc10 pm10 an10 cd10 ct10), sl10⟩) (c10 : PySem.W.codeIn K cd10 "Heap._table" = true) (k10 : PySem.W.keepIn K (.ref f10) = true)
    (l11 : K.lookup f11 = some ⟨oc11, od11, .func (PySem.W.fnOf "_room" "Heap._room" (defArgs s_Heap__room) (defBody s_Heap__room) (defScope s_Heap__room) .none kV11 dc11 pm11 an11 cd11 ct11), sl11⟩) (c11 : PySem.W.codeIn K cd11 "Heap._room" = true) (k11 : PySem.W.keepIn K (.ref f11) = true)
    (l12 : K.lookup f12 = some ⟨oc12, od12, .func (PySem.W.fnOf "_place" "Heap._place" (defArgs s_Heap__place) (defBody s_Heap__place) (defScope s_Heap__place) .none kV12 dc12 pm12 an12 cd12 ct12), sl12⟩) (c12 : PySem.W.codeIn K cd12 "Heap._place" = true) (k12 : PySem.W.keepIn K (.ref f12) = true)
    (a13 : PySem.W.nsIn K mainGlobals "wrap" = some (some (.ref f13)))
    (l13 : K.lookup f13 = some ⟨oc13, od13, .func (PySem.W.fnOf "wrap" "wrap" (defArgs s_wrap) (defBody s_wrap) (defScope s_wrap) .none kV13 dc13 pm13 an13 cd13 ct13), sl13⟩) (c13 : PySem.W.codeIn K cd13 "wrap" = true) (k13 : PySem.W.keepIn K (.ref f13) = true)
    (a14 : PySem.W.nsIn K mainGlobals "divided" = some (some (.ref f14)))
    (l14 : K.lookup f14 = some ⟨oc14, od14, .func (PySem.W.fnOf "divided" "divided" (defArgs s_divided) (defBody s_divided) (defScope s_divided) .none kV14 dc14 pm14 an14 cd14 ct14), sl14⟩) (c14 : PySem.W.codeIn K cd14 "divided" = true) (k14 : PySem.W.keepIn K (.ref f14) = true)
    (a15 : PySem.W.nsIn K mainGlobals "arithmetic" = some (some (.ref f15)))
    (l15 : K.lookup f15 = some ⟨oc15, od15, .func (PySem.W.fnOf "arithmetic" "arithmetic" (defArgs s_arithmetic) (defBody s_arithmetic) (defScope s_arithmetic) .none kV15 dc15 pm15 an15 cd15 ct15), sl15⟩) (c15 : PySem.W.codeIn K cd15 "arithmetic" = true) (k15 : PySem.W.keepIn K (.ref f15) = true)
    (a16 : PySem.W.nsIn K mainGlobals "compared" = some (some (.ref f16)))
    (l16 : K.lookup f16 = some ⟨oc16, od16, .func (PySem.W.fnOf "compared" "compared" (defArgs s_compared) (defBody s_compared) (defScope s_compared) .none kV16 dc16 pm16 an16 cd16 ct16), sl16⟩) (c16 : PySem.W.codeIn K cd16 "compared" = true) (k16 : PySem.W.keepIn K (.ref f16) = true)
    (a17 : PySem.W.nsIn K mainGlobals "op" = some (some (.ref f17)))
    (l17 : K.lookup f17 = some ⟨oc17, od17, .func (PySem.W.fnOf "op" "op" (defArgs s_op) (defBody s_op) (defScope s_op) .none kV17 dc17 pm17 an17 cd17 ct17), sl17⟩) (c17 : PySem.W.codeIn K cd17 "op" = true) (k17 : PySem.W.keepIn K (.ref f17) = true)
    (l18 : K.lookup f18 = some ⟨oc18, od18, .func (PySem.W.fnOf "__init__" "Frame.__init__" (defArgs s_Frame_init) (defBody s_Frame_init) (defScope s_Frame_init) .none kV18 dc18 pm18 an18 cd18 ct18), sl18⟩) (c18 : PySem.W.codeIn K cd18 "Frame.__init__" = true) (k18 : PySem.W.keepIn K (.ref f18) = true)
    (l19 : K.lookup f19 = some ⟨oc19, od19, .func (PySem.W.fnOf "__init__" "Machine.__init__" (defArgs s_Machine_init) (defBody s_Machine_init) (defScope s_Machine_init) .none kV19 dc19 pm19 an19 cd19 ct19), sl19⟩) (c19 : PySem.W.codeIn K cd19 "Machine.__init__" = true) (k19 : PySem.W.keepIn K (.ref f19) = true)
    (l20 : K.lookup f20 = some ⟨oc20, od20, .func (PySem.W.fnOf "run" "Machine.run" (defArgs s_Machine_run) (defBody s_Machine_run) (defScope s_Machine_run) .none kV20 dc20 pm20 an20 cd20 ct20), sl20⟩) (c20 : PySem.W.codeIn K cd20 "Machine.run" = true) (k20 : PySem.W.keepIn K (.ref f20) = true)
    (l21 : K.lookup f21 = some ⟨oc21, od21, .func (PySem.W.fnOf "_enter" "Machine._enter" (defArgs s_Machine__enter) (defBody s_Machine__enter) (defScope s_Machine__enter) .none kV21 dc21 pm21 an21 cd21 ct21), sl21⟩) (c21 : PySem.W.codeIn K cd21 "Machine._enter" = true) (k21 : PySem.W.keepIn K (.ref f21) = true)
    (l22 : K.lookup f22 = some ⟨oc22, od22, .func (PySem.W.fnOf "_leave" "Machine._leave" (defArgs s_Machine__leave) (defBody s_Machine__leave) (defScope s_Machine__leave) .none kV22 dc22 pm22 an22 cd22 ct22), sl22⟩) (c22 : PySem.W.codeIn K cd22 "Machine._leave" = true) (k22 : PySem.W.keepIn K (.ref f22) = true)
    (l23 : K.lookup f23 = some ⟨oc23, od23, .func (PySem.W.fnOf "_caught" "Machine._caught" (defArgs s_Machine__caught) (defBody s_Machine__caught) (defScope s_Machine__caught) .none kV23 dc23 pm23 an23 cd23 ct23), sl23⟩) (c23 : PySem.W.codeIn K cd23 "Machine._caught" = true) (k23 : PySem.W.keepIn K (.ref f23) = true)
    (l24 : K.lookup f24 = some ⟨oc24, od24, .func (PySem.W.fnOf "_step" "Machine._step" (defArgs s_Machine__step) (defBody s_Machine__step) (defScope s_Machine__step) .none kV24 dc24 pm24 an24 cd24 ct24), sl24⟩) (c24 : PySem.W.codeIn K cd24 "Machine._step" = true) (k24 : PySem.W.keepIn K (.ref f24) = true)
    (l25 : K.lookup f25 = some ⟨oc25, od25, .func (PySem.W.fnOf "_perform" "Machine._perform" (defArgs s_Machine__perform) (defBody s_Machine__perform) (defScope s_Machine__perform) .none kV25 dc25 pm25 an25 cd25 ct25), sl25⟩) (c25 : PySem.W.codeIn K cd25 "Machine._perform" = true) (k25 : PySem.W.keepIn K (.ref f25) = true)
    (l26 : K.lookup f26 = some ⟨oc26, od26, .func (PySem.W.fnOf "_jump" "Machine._jump" (defArgs s_Machine__jump) (defBody s_Machine__jump) (defScope s_Machine__jump) .none kV26 dc26 pm26 an26 cd26 ct26), sl26⟩) (c26 : PySem.W.codeIn K cd26 "Machine._jump" = true) (k26 : PySem.W.keepIn K (.ref f26) = true)
    (l27 : K.lookup f27 = some ⟨oc27, od27, .func (PySem.W.fnOf "_call" "Machine._call" (defArgs s_Machine__call) (defBody s_Machine__call) (defScope s_Machine__call) .none kV27 dc27 pm27 an27 cd27 ct27), sl27⟩) (c27 : PySem.W.codeIn K cd27 "Machine._call" = true) (k27 : PySem.W.keepIn K (.ref f27) = true)
    (l28 : K.lookup f28 = some ⟨oc28, od28, .func (PySem.W.fnOf "_work" "Machine._work" (defArgs s_Machine__work) (defBody s_Machine__work) (defScope s_Machine__work) .none kV28 dc28 pm28 an28 cd28 ct28), sl28⟩) (c28 : PySem.W.codeIn K cd28 "Machine._work" = true) (k28 : PySem.W.keepIn K (.ref f28) = true)
    (l29 : K.lookup f29 = some ⟨oc29, od29, .func (PySem.W.fnOf "_reckon" "Machine._reckon" (defArgs s_Machine__reckon) (defBody s_Machine__reckon) (defScope s_Machine__reckon) .none kV29 dc29 pm29 an29 cd29 ct29), sl29⟩) (c29 : PySem.W.codeIn K cd29 "Machine._reckon" = true) (k29 : PySem.W.keepIn K (.ref f29) = true)
    (l30 : K.lookup f30 = some ⟨oc30, od30, .func (PySem.W.fnOf "__init__" "Cells.__init__" (defArgs s_Cells_init) (defBody s_Cells_init) (defScope s_Cells_init) .none kV30 dc30 pm30 an30 cd30 ct30), sl30⟩) (c30 : PySem.W.codeIn K cd30 "Cells.__init__" = true) (k30 : PySem.W.keepIn K (.ref f30) = true)
    (l31 : K.lookup f31 = some ⟨oc31, od31, .func (PySem.W.fnOf "read" "Cells.read" (defArgs s_Cells_read) (defBody s_Cells_read) (defScope s_Cells_read) .none kV31 dc31 pm31 an31 cd31 ct31), sl31⟩) (c31 : PySem.W.codeIn K cd31 "Cells.read" = true) (k31 : PySem.W.keepIn K (.ref f31) = true)
    (l32 : K.lookup f32 = some ⟨oc32, od32, .func (PySem.W.fnOf "write" "Cells.write" (defArgs s_Cells_write) (defBody s_Cells_write) (defScope s_Cells_write) .none kV32 dc32 pm32 an32 cd32 ct32), sl32⟩) (c32 : PySem.W.codeIn K cd32 "Cells.write" = true) (k32 : PySem.W.keepIn K (.ref f32) = true)
    (l33 : K.lookup f33 = some ⟨oc33, od33, .func (PySem.W.fnOf "__init__" "Journal.__init__" (defArgs s_Journal_init) (defBody s_Journal_init) (defScope s_Journal_init) .none kV33 dc33 pm33 an33 cd33 ct33), sl33⟩) (c33 : PySem.W.codeIn K cd33 "Journal.__init__" = true) (k33 : PySem.W.keepIn K (.ref f33) = true)
    (a34 : PySem.W.nsIn K mainGlobals "must" = some (some (.ref f34)))
    (l34 : K.lookup f34 = some ⟨oc34, od34, .func (PySem.W.fnOf "must" "must" (defArgs s_must) (defBody s_must) (defScope s_must) .none kV34 dc34 pm34 an34 cd34 ct34), sl34⟩) (c34 : PySem.W.codeIn K cd34 "must" = true) (k34 : PySem.W.keepIn K (.ref f34) = true)
    (a35 : PySem.W.nsIn K mainGlobals "is_face" = some (some (.ref f35)))
    (l35 : K.lookup f35 = some ⟨oc35, od35, .func (PySem.W.fnOf "is_face" "is_face" (defArgs s_is_face) (defBody s_is_face) (defScope s_is_face) .none kV35 dc35 pm35 an35 cd35 ct35), sl35⟩) (c35 : PySem.W.codeIn K cd35 "is_face" = true) (k35 : PySem.W.keepIn K (.ref f35) = true)
    (a36 : PySem.W.nsIn K mainGlobals "ancestors_of" = some (some (.ref f36)))
    (l36 : K.lookup f36 = some ⟨oc36, od36, .func (PySem.W.fnOf "ancestors_of" "ancestors_of" (defArgs s_ancestors_of) (defBody s_ancestors_of) (defScope s_ancestors_of) .none kV36 dc36 pm36 an36 cd36 ct36), sl36⟩) (c36 : PySem.W.codeIn K cd36 "ancestors_of" = true) (k36 : PySem.W.keepIn K (.ref f36) = true)
    (a37 : PySem.W.nsIn K mainGlobals "faces_of" = some (some (.ref f37)))
    (l37 : K.lookup f37 = some ⟨oc37, od37, .func (PySem.W.fnOf "faces_of" "faces_of" (defArgs s_faces_of) (defBody s_faces_of) (defScope s_faces_of) .none kV37 dc37 pm37 an37 cd37 ct37), sl37⟩) (c37 : PySem.W.codeIn K cd37 "faces_of" = true) (k37 : PySem.W.keepIn K (.ref f37) = true)
    (l38 : K.lookup f38 = some ⟨oc38, od38, .func (PySem.W.fnOf "__init__" "Draft.__init__" (defArgs s_Draft_init) (defBody s_Draft_init) (defScope s_Draft_init) .none kV38 dc38 pm38 an38 cd38 ct38), sl38⟩) (c38 : PySem.W.codeIn K cd38 "Draft.__init__" = true) (k38 : PySem.W.keepIn K (.ref f38) = true)
    (l39 : K.lookup f39 = some ⟨oc39, od39, .func (PySem.W.fnOf "check" "Draft.check" (defArgs s_Draft_check) (defBody s_Draft_check) (defScope s_Draft_check) .none kV39 dc39 pm39 an39 cd39 ct39), sl39⟩) (c39 : PySem.W.codeIn K cd39 "Draft.check" = true) (k39 : PySem.W.keepIn K (.ref f39) = true)
    (l40 : K.lookup f40 = some ⟨oc40, od40, .func (PySem.W.fnOf "_face" "Draft._face" (defArgs s_Draft__face) (defBody s_Draft__face) (defScope s_Draft__face) .none kV40 dc40 pm40 an40 cd40 ct40), sl40⟩) (c40 : PySem.W.codeIn K cd40 "Draft._face" = true) (k40 : PySem.W.keepIn K (.ref f40) = true)
    (l41 : K.lookup f41 = some ⟨oc41, od41, .func (PySem.W.fnOf "_check_kinds" "Draft._check_kinds" (defArgs s_Draft__check_kinds) (defBody s_Draft__check_kinds) (defScope s_Draft__check_kinds) .none kV41 dc41 pm41 an41 cd41 ct41), sl41⟩) (c41 : PySem.W.codeIn K cd41 "Draft._check_kinds" = true) (k41 : PySem.W.keepIn K (.ref f41) = true)
    (l42 : K.lookup f42 = some ⟨oc42, od42, .func (PySem.W.fnOf "_check_heads" "Draft._check_heads" (defArgs s_Draft__check_heads) (defBody s_Draft__check_heads) (defScope s_Draft__check_heads) .none kV42 dc42 pm42 an42 cd42 ct42), sl42⟩) (c42 : PySem.W.codeIn K cd42 "Draft._check_heads" = true) (k42 : PySem.W.keepIn K (.ref f42) = true)
    (l43 : K.lookup f43 = some ⟨oc43, od43, .func (PySem.W.fnOf "_check_faces" "Draft._check_faces" (defArgs s_Draft__check_faces) (defBody s_Draft__check_faces) (defScope s_Draft__check_faces) .none kV43 dc43 pm43 an43 cd43 ct43), sl43⟩) (c43 : PySem.W.codeIn K cd43 "Draft._check_faces" = true) (k43 : PySem.W.keepIn K (.ref f43) = true)
    (l44 : K.lookup f44 = some ⟨oc44, od44, .func (PySem.W.fnOf "__init__" "World.__init__" (defArgs s_World_init) (defBody s_World_init) (defScope s_World_init) .none kV44 dc44 pm44 an44 cd44 ct44), sl44⟩) (c44 : PySem.W.codeIn K cd44 "World.__init__" = true) (k44 : PySem.W.keepIn K (.ref f44) = true)
    (l45 : K.lookup f45 = some ⟨oc45, od45, .func (PySem.W.fnOf "add" "World.add" (defArgs s_World_add) (defBody s_World_add) (defScope s_World_add) .none kV45 dc45 pm45 an45 cd45 ct45), sl45⟩) (c45 : PySem.W.codeIn K cd45 "World.add" = true) (k45 : PySem.W.keepIn K (.ref f45) = true)
    (l46 : K.lookup f46 = some ⟨oc46, od46, .func (PySem.W.fnOf "names" "World.names" (defArgs s_World_names) (defBody s_World_names) (defScope s_World_names) .none kV46 dc46 pm46 an46 cd46 ct46), sl46⟩) (c46 : PySem.W.codeIn K cd46 "World.names" = true) (k46 : PySem.W.keepIn K (.ref f46) = true)
    (l47 : K.lookup f47 = some ⟨oc47, od47, .func (PySem.W.fnOf "module" "World.module" (defArgs s_World_module) (defBody s_World_module) (defScope s_World_module) .none kV47 dc47 pm47 an47 cd47 ct47), sl47⟩) (c47 : PySem.W.codeIn K cd47 "World.module" = true) (k47 : PySem.W.keepIn K (.ref f47) = true)
    (l48 : K.lookup f48 = some ⟨oc48, od48, .func (PySem.W.fnOf "face" "World.face" (defArgs s_World_face) (defBody s_World_face) (defScope s_World_face) .none kV48 dc48 pm48 an48 cd48 ct48), sl48⟩) (c48 : PySem.W.codeIn K cd48 "World.face" = true) (k48 : PySem.W.keepIn K (.ref f48) = true)
    (l49 : K.lookup f49 = some ⟨oc49, od49, .func (PySem.W.fnOf "package" "World.package" (defArgs s_World_package) (defBody s_World_package) (defScope s_World_package) .none kV49 dc49 pm49 an49 cd49 ct49), sl49⟩) (c49 : PySem.W.codeIn K cd49 "World.package" = true) (k49 : PySem.W.keepIn K (.ref f49) = true)
    (l50 : K.lookup f50 = some ⟨oc50, od50, .func (PySem.W.fnOf "own" "World.own" (defArgs s_World_own) (defBody s_World_own) (defScope s_World_own) .none kV50 dc50 pm50 an50 cd50 ct50), sl50⟩) (c50 : PySem.W.codeIn K cd50 "World.own" = true) (k50 : PySem.W.keepIn K (.ref f50) = true)
    (l51 : K.lookup f51 = some ⟨oc51, od51, .func (PySem.W.fnOf "method" "World.method" (defArgs s_World_method) (defBody s_World_method) (defScope s_World_method) .none kV51 dc51 pm51 an51 cd51 ct51), sl51⟩) (c51 : PySem.W.codeIn K cd51 "World.method" = true) (k51 : PySem.W.keepIn K (.ref f51) = true)
    (l52 : K.lookup f52 = some ⟨oc52, od52, .func (PySem.W.fnOf "_row" "World._row" (defArgs s_World__row) (defBody s_World__row) (defScope s_World__row) .none kV52 dc52 pm52 an52 cd52 ct52), sl52⟩) (c52 : PySem.W.codeIn K cd52 "World._row" = true) (k52 : PySem.W.keepIn K (.ref f52) = true)
    (a53 : PySem.W.nsIn K mainGlobals "_law_cell" = some (some (.ref f53)))
    (l53 : K.lookup f53 = some ⟨oc53, od53, .func (PySem.W.fnOf "_law_cell" "_law_cell" (defArgs s_law_cell) (defBody s_law_cell) (defScope s_law_cell) .none kV53 dc53 pm53 an53 cd53 ct53), sl53⟩) (c53 : PySem.W.codeIn K cd53 "_law_cell" = true) (k53 : PySem.W.keepIn K (.ref f53) = true)
    (a54 : PySem.W.nsIn K mainGlobals "_law_code" = some (some (.ref f54)))
    (l54 : K.lookup f54 = some ⟨oc54, od54, .func (PySem.W.fnOf "_law_code" "_law_code" (defArgs s_law_code) (defBody s_law_code) (defScope s_law_code) .none kV54 dc54 pm54 an54 cd54 ct54), sl54⟩) (c54 : PySem.W.codeIn K cd54 "_law_code" = true) (k54 : PySem.W.keepIn K (.ref f54) = true)
    (a55 : PySem.W.nsIn K mainGlobals "_law_seek" = some (some (.ref f55)))
    (l55 : K.lookup f55 = some ⟨oc55, od55, .func (PySem.W.fnOf "_law_seek" "_law_seek" (defArgs s_law_seek) (defBody s_law_seek) (defScope s_law_seek) .none kV55 dc55 pm55 an55 cd55 ct55), sl55⟩) (c55 : PySem.W.codeIn K cd55 "_law_seek" = true) (k55 : PySem.W.keepIn K (.ref f55) = true)
    (a56 : PySem.W.nsIn K mainGlobals "_law_played" = some (some (.ref f56)))
    (l56 : K.lookup f56 = some ⟨oc56, od56, .func (PySem.W.fnOf "_law_played" "_law_played" (defArgs s_law_played) (defBody s_law_played) (defScope s_law_played) .none kV56 dc56 pm56 an56 cd56 ct56), sl56⟩) (c56 : PySem.W.codeIn K cd56 "_law_played" = true) (k56 : PySem.W.keepIn K (.ref f56) = true)
    (a57 : PySem.W.nsIn K mainGlobals "_law_expected" = some (some (.ref f57)))
    (l57 : K.lookup f57 = some ⟨oc57, od57, .func (PySem.W.fnOf "_law_expected" "_law_expected" (defArgs s_law_expected) (defBody s_law_expected) (defScope s_law_expected) .none kV57 dc57 pm57 an57 cd57 ct57), sl57⟩) (c57 : PySem.W.codeIn K cd57 "_law_expected" = true) (k57 : PySem.W.keepIn K (.ref f57) = true)
    (a58 : PySem.W.nsIn K mainGlobals "law" = some (some (.ref f58)))
    (l58 : K.lookup f58 = some ⟨oc58, od58, .func (PySem.W.fnOf "law" "law" (defArgs s_law) (defBody s_law) (defScope s_law) .none kV58 dc58 pm58 an58 cd58 ct58), sl58⟩) (c58 : PySem.W.codeIn K cd58 "law" = true) (k58 : PySem.W.keepIn K (.ref f58) = true)
    (aC_CardError : PySem.W.nsIn K mainGlobals "CardError" = some (some (.ref c_CardError)))
    (aC_BadLink : PySem.W.nsIn K mainGlobals "BadLink" = some (some (.ref c_BadLink)))
    (aC_Fault : PySem.W.nsIn K mainGlobals "Fault" = some (some (.ref c_Fault)))
    (aC_StepsGone : PySem.W.nsIn K mainGlobals "StepsGone" = some (some (.ref c_StepsGone)))
    (aC_PowerCut : PySem.W.nsIn K mainGlobals "PowerCut" = some (some (.ref c_PowerCut)))
    (aC_Heap : PySem.W.nsIn K mainGlobals "Heap" = some (some (.ref c_Heap)))
    (aC_Frame : PySem.W.nsIn K mainGlobals "Frame" = some (some (.ref c_Frame)))
    (aC_Machine : PySem.W.nsIn K mainGlobals "Machine" = some (some (.ref c_Machine)))
    (aC_Cells : PySem.W.nsIn K mainGlobals "Cells" = some (some (.ref c_Cells)))
    (aC_Journal : PySem.W.nsIn K mainGlobals "Journal" = some (some (.ref c_Journal)))
    (aC_Draft : PySem.W.nsIn K mainGlobals "Draft" = some (some (.ref c_Draft)))
    (aC_World : PySem.W.nsIn K mainGlobals "World" = some (some (.ref c_World)))
    (w1x : PySem.W.excIn K c_BadLink [.type "ValueError", .type "Exception", .type "BaseException", .type "object"] "ValueError.__new__" = true)
    (w2kx : PySem.W.keepIn K (.ref c_BadLink) = true)
    (w3be : PySem.W.subIn K (.ref c_BadLink) (.type "BaseException") = some true)
    (w4ty : PySem.W.typeIn K (.ref c_BadLink) = some (.type "type"))
    (w5oe : K.lookup c_Fault = some (excClassObj em0_Fault em1_Fault c_Fault em2_Fault em3_Fault em4_Fault true em5_Fault em6_Fault em7_Fault em8_Fault em9_Fault em10_Fault em11_Fault em12_Fault em13_Fault em14_Fault "ValueError.__new__"))
    (w6rv : PySem.HandSPX.refsVE em4_Fault = true)
    (w7os : PySem.W.findIn K (.ref c_Fault) "__setattr__" = some (some (.builtin "object.__setattr__")))
    (w8ob : PySem.W.subIn K (.ref c_Fault) (.type "BaseException") = some true)
    (w9ot : PySem.W.typeIn K (.ref c_Fault) = some (.type "type"))
    (w10ok : PySem.W.keepIn K (.ref c_Fault) = true)
    (w11in : PySem.W.findIn K (.ref c_Fault) "__init__" = some (some (.ref f1)))
    (w12ti : PySem.W.typeIn K (.ref f1) = some (.type "function"))
    (w13on : PySem.W.findIn K (.ref c_Fault) "code" = some none)
    (w14xg : PySem.W.findIn K (.ref c_Fault) "__getattribute__" = some (some (.builtin "BaseException.__getattribute__")))
    (w15xh : PySem.W.findIn K (.ref c_Fault) "__getattr__" = some none)
    (w16xe : PySem.W.subIn K (.ref c_Fault) (.type "BaseException") = some true)
    (w17xd : PySem.W.hasDictIn K c_Fault = true)
    (w18eb : PySem.W.subIn K (.ref c_Fault) (.type "BaseException") = some true)
    (w19ei : PySem.W.isClsIn K c_Fault = true)
    (w20et : PySem.W.typeIn K (.ref c_Fault) = some (.type "type"))
    (w21es : PySem.W.subIn K (.ref c_Fault) (.ref c_Fault) = some true)
    (w22eb : PySem.W.subIn K (.ref c_Fault) (.type "BaseException") = some true)
    (w23ei : PySem.W.isClsIn K c_Fault = true)
    (w24et : PySem.W.typeIn K (.ref c_Fault) = some (.type "type"))
    (w25es : PySem.W.subIn K (.ref c_StepsGone) (.ref c_Fault) = some false)
    (w26eb : PySem.W.subIn K (.ref c_Fault) (.type "BaseException") = some true)
    (w27ei : PySem.W.isClsIn K c_Fault = true)
    (w28et : PySem.W.typeIn K (.ref c_Fault) = some (.type "type"))
    (w29es : PySem.W.subIn K (.ref c_PowerCut) (.ref c_Fault) = some false)
    (w30eb : PySem.W.subIn K (.ref c_Fault) (.type "BaseException") = some true)
    (w31ei : PySem.W.isClsIn K c_Fault = true)
    (w32et : PySem.W.typeIn K (.ref c_Fault) = some (.type "type"))
    (w33es : PySem.W.subIn K (.ref c_BadLink) (.ref c_Fault) = some false)
    (w34x : PySem.W.excIn K c_StepsGone [.type "ValueError", .type "Exception", .type "BaseException", .type "object"] "ValueError.__new__" = true)
    (w35kx : PySem.W.keepIn K (.ref c_StepsGone) = true)
    (w36be : PySem.W.subIn K (.ref c_StepsGone) (.type "BaseException") = some true)
    (w37ty : PySem.W.typeIn K (.ref c_StepsGone) = some (.type "type"))
    (w38eb : PySem.W.subIn K (.ref c_StepsGone) (.type "BaseException") = some true)
    (w39ei : PySem.W.isClsIn K c_StepsGone = true)
    (w40et : PySem.W.typeIn K (.ref c_StepsGone) = some (.type "type"))
    (w41es : PySem.W.subIn K (.ref c_Fault) (.ref c_StepsGone) = some false)
    (w42eb : PySem.W.subIn K (.ref c_StepsGone) (.type "BaseException") = some true)
    (w43ei : PySem.W.isClsIn K c_StepsGone = true)
    (w44et : PySem.W.typeIn K (.ref c_StepsGone) = some (.type "type"))
    (w45es : PySem.W.subIn K (.ref c_StepsGone) (.ref c_StepsGone) = some true)
    (w46eb : PySem.W.subIn K (.ref c_StepsGone) (.type "BaseException") = some true)
    (w47ei : PySem.W.isClsIn K c_StepsGone = true)
    (w48et : PySem.W.typeIn K (.ref c_StepsGone) = some (.type "type"))
    (w49es : PySem.W.subIn K (.ref c_PowerCut) (.ref c_StepsGone) = some false)
    (w50eb : PySem.W.subIn K (.ref c_StepsGone) (.type "BaseException") = some true)
    (w51ei : PySem.W.isClsIn K c_StepsGone = true)
    (w52et : PySem.W.typeIn K (.ref c_StepsGone) = some (.type "type"))
    (w53es : PySem.W.subIn K (.ref c_BadLink) (.ref c_StepsGone) = some false)
    (w54x : PySem.W.excIn K c_PowerCut [.type "ValueError", .type "Exception", .type "BaseException", .type "object"] "ValueError.__new__" = true)
    (w55kx : PySem.W.keepIn K (.ref c_PowerCut) = true)
    (w56be : PySem.W.subIn K (.ref c_PowerCut) (.type "BaseException") = some true)
    (w57ty : PySem.W.typeIn K (.ref c_PowerCut) = some (.type "type"))
    (w58pg : PySem.W.plainGet K c_Heap Str.empty = true)
    (w59hd : PySem.W.hasDictIn K c_Heap = true)
    (w60po : PySem.W.plainOver K c_Heap = true)
    (w61sa : PySem.W.findIn K (.ref c_Heap) "__setattr__" = some (some (.builtin "object.__setattr__")))
    (w62mk : PySem.W.makesIn K c_Heap = true)
    (w63in : PySem.W.findIn K (.ref c_Heap) "__init__" = some (some (.ref f2)))
    (w64fi : PySem.W.isFn K (.ref f2) = true)
    (w65kc : PySem.W.keepIn K (.ref c_Heap) = true)
    (w66at : PySem.W.findIn K (.ref c_Heap) "numbers" = some (some (.ref f3)))
    (w67fn : PySem.W.isFn K (.ref f3) = true)
    (w68km : PySem.W.keepIn K (.ref f3) = true)
    (w69at : PySem.W.findIn K (.ref c_Heap) "used" = some (some (.ref f4)))
    (w70fn : PySem.W.isFn K (.ref f4) = true)
    (w71km : PySem.W.keepIn K (.ref f4) = true)
    (w72at : PySem.W.findIn K (.ref c_Heap) "kind" = some (some (.ref f5)))
    (w73fn : PySem.W.isFn K (.ref f5) = true)
    (w74km : PySem.W.keepIn K (.ref f5) = true)
    (w75at : PySem.W.findIn K (.ref c_Heap) "owner" = some (some (.ref f6)))
    (w76fn : PySem.W.isFn K (.ref f6) = true)
    (w77km : PySem.W.keepIn K (.ref f6) = true)
    (w78at : PySem.W.findIn K (.ref c_Heap) "size" = some (some (.ref f7)))
    (w79fn : PySem.W.isFn K (.ref f7) = true)
    (w80km : PySem.W.keepIn K (.ref f7) = true)
    (w81at : PySem.W.findIn K (.ref c_Heap) "make" = some (some (.ref f8)))
    (w82fn : PySem.W.isFn K (.ref f8) = true)
    (w83km : PySem.W.keepIn K (.ref f8) = true)
    (w84at : PySem.W.findIn K (.ref c_Heap) "_half" = some (some (.ref f9)))
    (w85fn : PySem.W.isFn K (.ref f9) = true)
    (w86km : PySem.W.keepIn K (.ref f9) = true)
    (w87at : PySem.W.findIn K (.ref c_Heap) "_table" = some (some (.ref f10)))
    (w88fn : PySem.W.isFn K (.ref f10) = true)
    (w89km : PySem.W.keepIn K (.ref f10) = true)
    (w90at : PySem.W.findIn K (.ref c_Heap) "_room" = some (some (.ref f11)))
    (w91fn : PySem.W.isFn K (.ref f11) = true)
    (w92km : PySem.W.keepIn K (.ref f11) = true)
    (w93at : PySem.W.findIn K (.ref c_Heap) "_place" = some (some (.ref f12)))
    (w94fn : PySem.W.isFn K (.ref f12) = true)
    (w95km : PySem.W.keepIn K (.ref f12) = true)
    (w96na : PySem.W.findIn K (.ref c_Heap) "_cells" = some none)
    (w97na : PySem.W.findIn K (.ref c_Heap) "_journal" = some none)
    (w98na : PySem.W.findIn K (.ref c_Heap) "_start" = some none)
    (w99na : PySem.W.findIn K (.ref c_Heap) "_temps" = some none)
    (w100pg : PySem.W.plainGet K c_Frame Str.empty = true)
    (w101hd : PySem.W.hasDictIn K c_Frame = true)
    (w102po : PySem.W.plainOver K c_Frame = true)
    (w103sa : PySem.W.findIn K (.ref c_Frame) "__setattr__" = some (some (.builtin "object.__setattr__")))
    (w104mk : PySem.W.makesIn K c_Frame = true)
    (w105in : PySem.W.findIn K (.ref c_Frame) "__init__" = some (some (.ref f18)))
    (w106fi : PySem.W.isFn K (.ref f18) = true)
    (w107kc : PySem.W.keepIn K (.ref c_Frame) = true)
    (w108na : PySem.W.findIn K (.ref c_Frame) "package" = some none)
    (w109na : PySem.W.findIn K (.ref c_Frame) "number" = some none)
    (w110na : PySem.W.findIn K (.ref c_Frame) "code" = some none)
    (w111na : PySem.W.findIn K (.ref c_Frame) "handlers" = some none)
    (w112na : PySem.W.findIn K (.ref c_Frame) "slots" = some none)
    (w113na : PySem.W.findIn K (.ref c_Frame) "owner" = some none)
    (w114na : PySem.W.findIn K (.ref c_Frame) "place" = some none)
    (w115na : PySem.W.findIn K (.ref c_Frame) "stack" = some none)
    (w116pg : PySem.W.plainGet K c_Machine Str.empty = true)
    (w117hd : PySem.W.hasDictIn K c_Machine = true)
    (w118po : PySem.W.plainOver K c_Machine = true)
    (w119sa : PySem.W.findIn K (.ref c_Machine) "__setattr__" = some (some (.builtin "object.__setattr__")))
    (w120mk : PySem.W.makesIn K c_Machine = true)
    (w121in : PySem.W.findIn K (.ref c_Machine) "__init__" = some (some (.ref f19)))
    (w122fi : PySem.W.isFn K (.ref f19) = true)
    (w123kc : PySem.W.keepIn K (.ref c_Machine) = true)
    (w124at : PySem.W.findIn K (.ref c_Machine) "run" = some (some (.ref f20)))
    (w125fn : PySem.W.isFn K (.ref f20) = true)
    (w126km : PySem.W.keepIn K (.ref f20) = true)
    (w127at : PySem.W.findIn K (.ref c_Machine) "_enter" = some (some (.ref f21)))
    (w128fn : PySem.W.isFn K (.ref f21) = true)
    (w129km : PySem.W.keepIn K (.ref f21) = true)
    (w130at : PySem.W.findIn K (.ref c_Machine) "_leave" = some (some (.ref f22)))
    (w131fn : PySem.W.isFn K (.ref f22) = true)
    (w132km : PySem.W.keepIn K (.ref f22) = true)
    (w133at : PySem.W.findIn K (.ref c_Machine) "_caught" = some (some (.ref f23)))
    (w134fn : PySem.W.isFn K (.ref f23) = true)
    (w135km : PySem.W.keepIn K (.ref f23) = true)
    (w136at : PySem.W.findIn K (.ref c_Machine) "_step" = some (some (.ref f24)))
    (w137fn : PySem.W.isFn K (.ref f24) = true)
    (w138km : PySem.W.keepIn K (.ref f24) = true)
    (w139at : PySem.W.findIn K (.ref c_Machine) "_perform" = some (some (.ref f25)))
    (w140fn : PySem.W.isFn K (.ref f25) = true)
    (w141km : PySem.W.keepIn K (.ref f25) = true)
    (w142at : PySem.W.findIn K (.ref c_Machine) "_jump" = some (some (.ref f26)))
    (w143fn : PySem.W.isFn K (.ref f26) = true)
    (w144km : PySem.W.keepIn K (.ref f26) = true)
    (w145at : PySem.W.findIn K (.ref c_Machine) "_call" = some (some (.ref f27)))
    (w146fn : PySem.W.isFn K (.ref f27) = true)
    (w147km : PySem.W.keepIn K (.ref f27) = true)
    (w148at : PySem.W.findIn K (.ref c_Machine) "_work" = some (some (.ref f28)))
    (w149fn : PySem.W.isFn K (.ref f28) = true)
    (w150km : PySem.W.keepIn K (.ref f28) = true)
    (w151at : PySem.W.findIn K (.ref c_Machine) "_reckon" = some (some (.ref f29)))
    (w152fn : PySem.W.isFn K (.ref f29) = true)
    (w153km : PySem.W.keepIn K (.ref f29) = true)
    (w154na : PySem.W.findIn K (.ref c_Machine) "_world" = some none)
    (w155na : PySem.W.findIn K (.ref c_Machine) "_heap" = some none)
    (w156na : PySem.W.findIn K (.ref c_Machine) "_journal" = some none)
    (w157na : PySem.W.findIn K (.ref c_Machine) "_seek" = some none)
    (w158na : PySem.W.findIn K (.ref c_Machine) "_needless" = some none)
    (w159na : PySem.W.findIn K (.ref c_Machine) "_frames" = some none)
    (w160na : PySem.W.findIn K (.ref c_Machine) "_steps" = some none)
    (w161na : PySem.W.findIn K (.ref c_Machine) "_looks" = some none)
    (w162na : PySem.W.findIn K (.ref c_Machine) "_result" = some none)
    (w163pg : PySem.W.plainGet K c_Cells Str.empty = true)
    (w164hd : PySem.W.hasDictIn K c_Cells = true)
    (w165po : PySem.W.plainOver K c_Cells = true)
    (w166sa : PySem.W.findIn K (.ref c_Cells) "__setattr__" = some (some (.builtin "object.__setattr__")))
    (w167mk : PySem.W.makesIn K c_Cells = true)
    (w168in : PySem.W.findIn K (.ref c_Cells) "__init__" = some (some (.ref f30)))
    (w169fi : PySem.W.isFn K (.ref f30) = true)
    (w170kc : PySem.W.keepIn K (.ref c_Cells) = true)
    (w171at : PySem.W.findIn K (.ref c_Cells) "read" = some (some (.ref f31)))
    (w172fn : PySem.W.isFn K (.ref f31) = true)
    (w173km : PySem.W.keepIn K (.ref f31) = true)
    (w174at : PySem.W.findIn K (.ref c_Cells) "write" = some (some (.ref f32)))
    (w175fn : PySem.W.isFn K (.ref f32) = true)
    (w176km : PySem.W.keepIn K (.ref f32) = true)
    (w177na : PySem.W.findIn K (.ref c_Cells) "_words" = some none)
    (w178na : PySem.W.findIn K (.ref c_Cells) "_left" = some none)
    (w179na : PySem.W.findIn K (.ref c_Cells) "_on" = some none)
    (w180pg : PySem.W.plainGet K c_Journal Str.empty = true)
    (w181hd : PySem.W.hasDictIn K c_Journal = true)
    (w182po : PySem.W.plainOver K c_Journal = true)
    (w183sa : PySem.W.findIn K (.ref c_Journal) "__setattr__" = some (some (.builtin "object.__setattr__")))
    (w184mk : PySem.W.makesIn K c_Journal = true)
    (w185in : PySem.W.findIn K (.ref c_Journal) "__init__" = some (some (.ref f33)))
    (w186fi : PySem.W.isFn K (.ref f33) = true)
    (w187kc : PySem.W.keepIn K (.ref c_Journal) = true)
    (w188na : PySem.W.findIn K (.ref c_Journal) "_cells" = some none)
    (w189na : PySem.W.findIn K (.ref c_Journal) "_start" = some none)
    (w190na : PySem.W.findIn K (.ref c_Journal) "_open" = some none)
    (w191pg : PySem.W.plainGet K c_Draft Str.empty = true)
    (w192hd : PySem.W.hasDictIn K c_Draft = true)
    (w193po : PySem.W.plainOver K c_Draft = true)
    (w194sa : PySem.W.findIn K (.ref c_Draft) "__setattr__" = some (some (.builtin "object.__setattr__")))
    (w195mk : PySem.W.makesIn K c_Draft = true)
    (w196in : PySem.W.findIn K (.ref c_Draft) "__init__" = some (some (.ref f38)))
    (w197fi : PySem.W.isFn K (.ref f38) = true)
    (w198kc : PySem.W.keepIn K (.ref c_Draft) = true)
    (w199at : PySem.W.findIn K (.ref c_Draft) "check" = some (some (.ref f39)))
    (w200fn : PySem.W.isFn K (.ref f39) = true)
    (w201km : PySem.W.keepIn K (.ref f39) = true)
    (w202at : PySem.W.findIn K (.ref c_Draft) "_face" = some (some (.ref f40)))
    (w203fn : PySem.W.isFn K (.ref f40) = true)
    (w204km : PySem.W.keepIn K (.ref f40) = true)
    (w205at : PySem.W.findIn K (.ref c_Draft) "_check_kinds" = some (some (.ref f41)))
    (w206fn : PySem.W.isFn K (.ref f41) = true)
    (w207km : PySem.W.keepIn K (.ref f41) = true)
    (w208at : PySem.W.findIn K (.ref c_Draft) "_check_heads" = some (some (.ref f42)))
    (w209fn : PySem.W.isFn K (.ref f42) = true)
    (w210km : PySem.W.keepIn K (.ref f42) = true)
    (w211at : PySem.W.findIn K (.ref c_Draft) "_check_faces" = some (some (.ref f43)))
    (w212fn : PySem.W.isFn K (.ref f43) = true)
    (w213km : PySem.W.keepIn K (.ref f43) = true)
    (w214na : PySem.W.findIn K (.ref c_Draft) "_world" = some none)
    (w215na : PySem.W.findIn K (.ref c_Draft) "_module" = some none)
    (w216pg : PySem.W.plainGet K c_World Str.empty = true)
    (w217hd : PySem.W.hasDictIn K c_World = true)
    (w218po : PySem.W.plainOver K c_World = true)
    (w219sa : PySem.W.findIn K (.ref c_World) "__setattr__" = some (some (.builtin "object.__setattr__")))
    (w220mk : PySem.W.makesIn K c_World = true)
    (w221in : PySem.W.findIn K (.ref c_World) "__init__" = some (some (.ref f44)))
    (w222fi : PySem.W.isFn K (.ref f44) = true)
    (w223kc : PySem.W.keepIn K (.ref c_World) = true)
    (w224at : PySem.W.findIn K (.ref c_World) "add" = some (some (.ref f45)))
    (w225fn : PySem.W.isFn K (.ref f45) = true)
    (w226km : PySem.W.keepIn K (.ref f45) = true)
    (w227at : PySem.W.findIn K (.ref c_World) "names" = some (some (.ref f46)))
    (w228fn : PySem.W.isFn K (.ref f46) = true)
    (w229km : PySem.W.keepIn K (.ref f46) = true)
    (w230at : PySem.W.findIn K (.ref c_World) "module" = some (some (.ref f47)))
    (w231fn : PySem.W.isFn K (.ref f47) = true)
    (w232km : PySem.W.keepIn K (.ref f47) = true)
    (w233at : PySem.W.findIn K (.ref c_World) "face" = some (some (.ref f48)))
    (w234fn : PySem.W.isFn K (.ref f48) = true)
    (w235km : PySem.W.keepIn K (.ref f48) = true)
    (w236at : PySem.W.findIn K (.ref c_World) "package" = some (some (.ref f49)))
    (w237fn : PySem.W.isFn K (.ref f49) = true)
    (w238km : PySem.W.keepIn K (.ref f49) = true)
    (w239at : PySem.W.findIn K (.ref c_World) "own" = some (some (.ref f50)))
    (w240fn : PySem.W.isFn K (.ref f50) = true)
    (w241km : PySem.W.keepIn K (.ref f50) = true)
    (w242at : PySem.W.findIn K (.ref c_World) "method" = some (some (.ref f51)))
    (w243fn : PySem.W.isFn K (.ref f51) = true)
    (w244km : PySem.W.keepIn K (.ref f51) = true)
    (w245at : PySem.W.findIn K (.ref c_World) "_row" = some (some (.ref f52)))
    (w246fn : PySem.W.isFn K (.ref f52) = true)
    (w247km : PySem.W.keepIn K (.ref f52) = true)
    (w248na : PySem.W.findIn K (.ref c_World) "_modules" = some none)
    (w249na : PySem.W.findIn K (.ref c_World) "_classes" = some none)
    (z0 : PySem.W.nsIn K mainGlobals "abs" = some none)
    (z1 : PySem.W.nsIn K mainGlobals "enumerate" = some none)
    (z2 : PySem.W.nsIn K mainGlobals "int" = some none)
    (z3 : PySem.W.nsIn K mainGlobals "len" = some none)
    (z4 : PySem.W.nsIn K mainGlobals "list" = some none)
    (z5 : PySem.W.nsIn K mainGlobals "min" = some none)
    (z6 : PySem.W.nsIn K mainGlobals "range" = some none)
    (z7 : PySem.W.nsIn K mainGlobals "sum" = some none)
    (z8 : PySem.W.nsIn K mainGlobals "tuple" = some none)
    (y0 : PySem.W.nsIn K mainGlobals "MOST_BUFFER" = some (some (.int (64) tk0)))
    (y1 : PySem.W.nsIn K mainGlobals "MOST_CELLS" = some (some (.int (400) tk1)))
    (y2 : PySem.W.nsIn K mainGlobals "MOST_OBJECTS" = some (some (.int (60) tk2)))
    (y3 : PySem.W.nsIn K mainGlobals "MOST_DEPTH" = some (some (.int (8) tk3)))
    (y4 : PySem.W.nsIn K mainGlobals "MOST_STEPS" = some (some (.int (1000) tk4)))
    (y5 : PySem.W.nsIn K mainGlobals "NULL_limits" = some (some (.int (-1) tk5)))
    (y6 : PySem.W.nsIn K mainGlobals "DIVIDED" = some (some (.int (-3) tk6)))
    (y7 : PySem.W.nsIn K mainGlobals "ROOM" = some (some (.int (-6) tk7)))
    (y8 : PySem.W.nsIn K mainGlobals "DEPTH" = some (some (.int (-9) tk8)))
    (y9 : PySem.W.nsIn K mainGlobals "TEMP" = some (some (.int (-2) tk9)))
    (y10 : PySem.W.nsIn K mainGlobals "BUFFER" = some (some (.int (61) tk10)))
    (y11 : PySem.W.nsIn K mainGlobals "HEAD_CELLS" = some (some (.int (3) tk11)))
    (y12 : PySem.W.nsIn K mainGlobals "HALF_CELLS" = some (some (.int (460) tk12)))
    (y13 : PySem.W.nsIn K mainGlobals "LEAST" = some (some (.int (-32768) tk13)))
    (y14 : PySem.W.nsIn K mainGlobals "INT" = some (some (.ref qa14))) (u14 : K.lookup qa14 = some ⟨.type "tuple", qd14, .seq #[.str "int" tq14_0] qn14, qs14⟩)
    (y15 : PySem.W.nsIn K mainGlobals "NOTHING" = some (some (.ref qa15))) (u15 : K.lookup qa15 = some ⟨.type "tuple", qd15, .seq #[.str "nothing" tq15_0] qn15, qs15⟩) :
    ∃ fd : FuncData, (∀ (s : Shared) (v : Value), BindsTo s fd ⟨[v], []⟩ [("_law_script", v)]) ∧ ∀ base : Heap, K.In base → base.Ns mainGlobals mg → FnOk l.prog w K mg base CX0 12 fa fd ["_law_script"] (sp_law K) := by
  have e := hfa.symm.trans (PySem.W.mg_of X G a58)
  cases e
  let T : Txt K mg := {
    f_wall := f0,
    d_wall := _,
    k_wall := (fun_mk (st := s_wall) l0 c0 k0),
    b_wall := (Fun.binds (ps := ["k"]) (fun_mk (st := s_wall) l0 c0 k0) fun _ _ _ _ _ _ us hl => match us, hl with | [_], _ => rfl),
    g_wall := PySem.W.mg_of X G a0,
    f_Fault_init := f1,
    d_Fault_init := _,
    k_Fault_init := (fun_mk (st := s_Fault_init) l1 c1 k1),
    b_Fault_init := (Fun.binds (ps := ["self", "code"]) (fun_mk (st := s_Fault_init) l1 c1 k1) fun _ _ _ _ _ _ us hl => match us, hl with | [_, _], _ => rfl),
    f_Heap_init := f2,
    d_Heap_init := _,
    k_Heap_init := (fun_mk (st := s_Heap_init) l2 c2 k2),
    b_Heap_init := (Fun.binds (ps := ["self", "cells", "journal", "start"]) (fun_mk (st := s_Heap_init) l2 c2 k2) fun _ _ _ _ _ _ us hl => match us, hl with | [_, _, _, _], _ => rfl),
    f_Heap_numbers := f3,
    d_Heap_numbers := _,
    k_Heap_numbers := (fun_mk (st := s_Heap_numbers) l3 c3 k3),
    b_Heap_numbers := (Fun.binds (ps := ["self"]) (fun_mk (st := s_Heap_numbers) l3 c3 k3) fun _ _ _ _ _ _ us hl => match us, hl with | [_], _ => rfl),
    f_Heap_used := f4,
    d_Heap_used := _,
    k_Heap_used := (fun_mk (st := s_Heap_used) l4 c4 k4),
    b_Heap_used := (Fun.binds (ps := ["self"]) (fun_mk (st := s_Heap_used) l4 c4 k4) fun _ _ _ _ _ _ us hl => match us, hl with | [_], _ => rfl),
    f_Heap_kind := f5,
    d_Heap_kind := _,
    k_Heap_kind := (fun_mk (st := s_Heap_kind) l5 c5 k5),
    b_Heap_kind := (Fun.binds (ps := ["self", "number"]) (fun_mk (st := s_Heap_kind) l5 c5 k5) fun _ _ _ _ _ _ us hl => match us, hl with | [_, _], _ => rfl),
    f_Heap_owner := f6,
    d_Heap_owner := _,
    k_Heap_owner := (fun_mk (st := s_Heap_owner) l6 c6 k6),
    b_Heap_owner := (Fun.binds (ps := ["self", "number"]) (fun_mk (st := s_Heap_owner) l6 c6 k6) fun _ _ _ _ _ _ us hl => match us, hl with | [_, _], _ => rfl),
    f_Heap_size := f7,
    d_Heap_size := _,
    k_Heap_size := (fun_mk (st := s_Heap_size) l7 c7 k7),
    b_Heap_size := (Fun.binds (ps := ["self", "number"]) (fun_mk (st := s_Heap_size) l7 c7 k7) fun _ _ _ _ _ _ us hl => match us, hl with | [_, _], _ => rfl),
    f_Heap_make := f8,
    d_Heap_make := _,
    k_Heap_make := (fun_mk (st := s_Heap_make) l8 c8 k8),
    b_Heap_make := (Fun.binds (ps := ["self", "kind", "owner", "size"]) (fun_mk (st := s_Heap_make) l8 c8 k8) fun _ _ _ _ _ _ us hl => match us, hl with | [_, _, _, _], _ => rfl),
    f_Heap__half := f9,
    d_Heap__half := _,
    k_Heap__half := (fun_mk (st := s_Heap__half) l9 c9 k9),
    b_Heap__half := (Fun.binds (ps := ["self"]) (fun_mk (st := s_Heap__half) l9 c9 k9) fun _ _ _ _ _ _ us hl => match us, hl with | [_], _ => rfl),
    f_Heap__table := f10,
    d_Heap__table := _,
    k_Heap__table := (fun_mk (st := s_Heap__table) l10 c10 k10),
    b_Heap__table := (Fun.binds (ps := ["self", "half"]) (fun_mk (st := s_Heap__table) l10 c10 k10) fun _ _ _ _ _ _ us hl => match us, hl with | [_, _], _ => rfl),
    f_Heap__room := f11,
    d_Heap__room := _,
    k_Heap__room := (fun_mk (st := s_Heap__room) l11 c11 k11),
    b_Heap__room := (Fun.binds (ps := ["self", "half"]) (fun_mk (st := s_Heap__room) l11 c11 k11) fun _ _ _ _ _ _ us hl => match us, hl with | [_, _], _ => rfl),
    f_Heap__place := f12,
    d_Heap__place := _,
    k_Heap__place := (fun_mk (st := s_Heap__place) l12 c12 k12),
    b_Heap__place := (Fun.binds (ps := ["self", "number"]) (fun_mk (st := s_Heap__place) l12 c12 k12) fun _ _ _ _ _ _ us hl => match us, hl with | [_, _], _ => rfl),
    f_wrap := f13,
    d_wrap := _,
    k_wrap := (fun_mk (st := s_wrap) l13 c13 k13),
    b_wrap := (Fun.binds (ps := ["number"]) (fun_mk (st := s_wrap) l13 c13 k13) fun _ _ _ _ _ _ us hl => match us, hl with | [_], _ => rfl),
    g_wrap := PySem.W.mg_of X G a13,
    f_divided := f14,
    d_divided := _,
    k_divided := (fun_mk (st := s_divided) l14 c14 k14),
    b_divided := (Fun.binds (ps := ["left", "right"]) (fun_mk (st := s_divided) l14 c14 k14) fun _ _ _ _ _ _ us hl => match us, hl with | [_, _], _ => rfl),
    g_divided := PySem.W.mg_of X G a14,
    f_arithmetic := f15,
    d_arithmetic := _,
    k_arithmetic := (fun_mk (st := s_arithmetic) l15 c15 k15),
    b_arithmetic := (Fun.binds (ps := ["sign", "left", "right"]) (fun_mk (st := s_arithmetic) l15 c15 k15) fun _ _ _ _ _ _ us hl => match us, hl with | [_, _, _], _ => rfl),
    g_arithmetic := PySem.W.mg_of X G a15,
    f_compared := f16,
    d_compared := _,
    k_compared := (fun_mk (st := s_compared) l16 c16 k16),
    b_compared := (Fun.binds (ps := ["sign", "left", "right"]) (fun_mk (st := s_compared) l16 c16 k16) fun _ _ _ _ _ _ us hl => match us, hl with | [_, _, _], _ => rfl),
    g_compared := PySem.W.mg_of X G a16,
    f_op := f17,
    d_op := _,
    k_op := (fun_mk (st := s_op) l17 c17 k17),
    b_op := (Fun.binds (ps := ["sign", "left", "right"]) (fun_mk (st := s_op) l17 c17 k17) fun _ _ _ _ _ _ us hl => match us, hl with | [_, _, _], _ => rfl),
    g_op := PySem.W.mg_of X G a17,
    f_Frame_init := f18,
    d_Frame_init := _,
    k_Frame_init := (fun_mk (st := s_Frame_init) l18 c18 k18),
    b_Frame_init := (Fun.binds (ps := ["self", "package", "number", "method", "slots", "owner"]) (fun_mk (st := s_Frame_init) l18 c18 k18) fun _ _ _ _ _ _ us hl => match us, hl with | [_, _, _, _, _, _], _ => rfl),
    f_Machine_init := f19,
    d_Machine_init := _,
    k_Machine_init := (fun_mk (st := s_Machine_init) l19 c19 k19),
    b_Machine_init := (Fun.binds (ps := ["self", "world", "heap", "journal", "seek", "needless"]) (fun_mk (st := s_Machine_init) l19 c19 k19) fun _ _ _ _ _ _ us hl => match us, hl with | [_, _, _, _, _, _], _ => rfl),
    f_Machine_run := f20,
    d_Machine_run := _,
    k_Machine_run := (fun_mk (st := s_Machine_run) l20 c20 k20),
    b_Machine_run := (Fun.binds (ps := ["self", "number", "name", "value"]) (fun_mk (st := s_Machine_run) l20 c20 k20) fun _ _ _ _ _ _ us hl => match us, hl with | [_, _, _, _], _ => rfl),
    f_Machine__enter := f21,
    d_Machine__enter := _,
    k_Machine__enter := (fun_mk (st := s_Machine__enter) l21 c21 k21),
    b_Machine__enter := (Fun.binds (ps := ["self", "number", "g", "row", "values"]) (fun_mk (st := s_Machine__enter) l21 c21 k21) fun _ _ _ _ _ _ us hl => match us, hl with | [_, _, _, _, _], _ => rfl),
    f_Machine__leave := f22,
    d_Machine__leave := _,
    k_Machine__leave := (fun_mk (st := s_Machine__leave) l22 c22 k22),
    b_Machine__leave := (Fun.binds (ps := ["self", "values"]) (fun_mk (st := s_Machine__leave) l22 c22 k22) fun _ _ _ _ _ _ us hl => match us, hl with | [_, _], _ => rfl),
    f_Machine__caught := f23,
    d_Machine__caught := _,
    k_Machine__caught := (fun_mk (st := s_Machine__caught) l23 c23 k23),
    b_Machine__caught := (Fun.binds (ps := ["self", "code"]) (fun_mk (st := s_Machine__caught) l23 c23 k23) fun _ _ _ _ _ _ us hl => match us, hl with | [_, _], _ => rfl),
    f_Machine__step := f24,
    d_Machine__step := _,
    k_Machine__step := (fun_mk (st := s_Machine__step) l24 c24 k24),
    b_Machine__step := (Fun.binds (ps := ["self"]) (fun_mk (st := s_Machine__step) l24 c24 k24) fun _ _ _ _ _ _ us hl => match us, hl with | [_], _ => rfl),
    f_Machine__perform := f25,
    d_Machine__perform := _,
    k_Machine__perform := (fun_mk (st := s_Machine__perform) l25 c25 k25),
    b_Machine__perform := (Fun.binds (ps := ["self", "frame", "instruction"]) (fun_mk (st := s_Machine__perform) l25 c25 k25) fun _ _ _ _ _ _ us hl => match us, hl with | [_, _, _], _ => rfl),
    f_Machine__jump := f26,
    d_Machine__jump := _,
    k_Machine__jump := (fun_mk (st := s_Machine__jump) l26 c26 k26),
    b_Machine__jump := (Fun.binds (ps := ["self", "frame", "instruction"]) (fun_mk (st := s_Machine__jump) l26 c26 k26) fun _ _ _ _ _ _ us hl => match us, hl with | [_, _, _], _ => rfl),
    f_Machine__call := f27,
    d_Machine__call := _,
    k_Machine__call := (fun_mk (st := s_Machine__call) l27 c27 k27),
    b_Machine__call := (Fun.binds (ps := ["self", "frame", "instruction"]) (fun_mk (st := s_Machine__call) l27 c27 k27) fun _ _ _ _ _ _ us hl => match us, hl with | [_, _, _], _ => rfl),
    f_Machine__work := f28,
    d_Machine__work := _,
    k_Machine__work := (fun_mk (st := s_Machine__work) l28 c28 k28),
    b_Machine__work := (Fun.binds (ps := ["self", "frame", "instruction"]) (fun_mk (st := s_Machine__work) l28 c28 k28) fun _ _ _ _ _ _ us hl => match us, hl with | [_, _, _], _ => rfl),
    f_Machine__reckon := f29,
    d_Machine__reckon := _,
    k_Machine__reckon := (fun_mk (st := s_Machine__reckon) l29 c29 k29),
    b_Machine__reckon := (Fun.binds (ps := ["self", "stack", "instruction"]) (fun_mk (st := s_Machine__reckon) l29 c29 k29) fun _ _ _ _ _ _ us hl => match us, hl with | [_, _, _], _ => rfl),
    f_Cells_init := f30,
    d_Cells_init := _,
    k_Cells_init := (fun_mk (st := s_Cells_init) l30 c30 k30),
    b_Cells_init := (Fun.binds (ps := ["self", "count"]) (fun_mk (st := s_Cells_init) l30 c30 k30) fun _ _ _ _ _ _ us hl => match us, hl with | [_, _], _ => rfl),
    f_Cells_read := f31,
    d_Cells_read := _,
    k_Cells_read := (fun_mk (st := s_Cells_read) l31 c31 k31),
    b_Cells_read := (Fun.binds (ps := ["self", "place"]) (fun_mk (st := s_Cells_read) l31 c31 k31) fun _ _ _ _ _ _ us hl => match us, hl with | [_, _], _ => rfl),
    f_Cells_write := f32,
    d_Cells_write := _,
    k_Cells_write := (fun_mk (st := s_Cells_write) l32 c32 k32),
    b_Cells_write := (Fun.binds (ps := ["self", "place", "word"]) (fun_mk (st := s_Cells_write) l32 c32 k32) fun _ _ _ _ _ _ us hl => match us, hl with | [_, _, _], _ => rfl),
    f_Journal_init := f33,
    d_Journal_init := _,
    k_Journal_init := (fun_mk (st := s_Journal_init) l33 c33 k33),
    b_Journal_init := (Fun.binds (ps := ["self", "cells", "start"]) (fun_mk (st := s_Journal_init) l33 c33 k33) fun _ _ _ _ _ _ us hl => match us, hl with | [_, _, _], _ => rfl),
    f_must := f34,
    d_must := _,
    k_must := (fun_mk (st := s_must) l34 c34 k34),
    b_must := (Fun.binds (ps := ["condition"]) (fun_mk (st := s_must) l34 c34 k34) fun _ _ _ _ _ _ us hl => match us, hl with | [_], _ => rfl),
    g_must := PySem.W.mg_of X G a34,
    f_is_face := f35,
    d_is_face := _,
    k_is_face := (fun_mk (st := s_is_face) l35 c35 k35),
    b_is_face := (Fun.binds (ps := ["kind"]) (fun_mk (st := s_is_face) l35 c35 k35) fun _ _ _ _ _ _ us hl => match us, hl with | [_], _ => rfl),
    g_is_face := PySem.W.mg_of X G a35,
    f_ancestors_of := f36,
    d_ancestors_of := _,
    k_ancestors_of := (fun_mk (st := s_ancestors_of) l36 c36 k36),
    b_ancestors_of := (Fun.binds (ps := ["module", "k"]) (fun_mk (st := s_ancestors_of) l36 c36 k36) fun _ _ _ _ _ _ us hl => match us, hl with | [_, _], _ => rfl),
    g_ancestors_of := PySem.W.mg_of X G a36,
    f_faces_of := f37,
    d_faces_of := _,
    k_faces_of := (fun_mk (st := s_faces_of) l37 c37 k37),
    b_faces_of := (Fun.binds (ps := ["module", "k"]) (fun_mk (st := s_faces_of) l37 c37 k37) fun _ _ _ _ _ _ us hl => match us, hl with | [_, _], _ => rfl),
    g_faces_of := PySem.W.mg_of X G a37,
    f_Draft_init := f38,
    d_Draft_init := _,
    k_Draft_init := (fun_mk (st := s_Draft_init) l38 c38 k38),
    b_Draft_init := (Fun.binds (ps := ["self", "world", "module"]) (fun_mk (st := s_Draft_init) l38 c38 k38) fun _ _ _ _ _ _ us hl => match us, hl with | [_, _, _], _ => rfl),
    f_Draft_check := f39,
    d_Draft_check := _,
    k_Draft_check := (fun_mk (st := s_Draft_check) l39 c39 k39),
    b_Draft_check := (Fun.binds (ps := ["self"]) (fun_mk (st := s_Draft_check) l39 c39 k39) fun _ _ _ _ _ _ us hl => match us, hl with | [_], _ => rfl),
    f_Draft__face := f40,
    d_Draft__face := _,
    k_Draft__face := (fun_mk (st := s_Draft__face) l40 c40 k40),
    b_Draft__face := (Fun.binds (ps := ["self", "package", "name"]) (fun_mk (st := s_Draft__face) l40 c40 k40) fun _ _ _ _ _ _ us hl => match us, hl with | [_, _, _], _ => rfl),
    f_Draft__check_kinds := f41,
    d_Draft__check_kinds := _,
    k_Draft__check_kinds := (fun_mk (st := s_Draft__check_kinds) l41 c41 k41),
    b_Draft__check_kinds := (Fun.binds (ps := ["self", "kinds"]) (fun_mk (st := s_Draft__check_kinds) l41 c41 k41) fun _ _ _ _ _ _ us hl => match us, hl with | [_, _], _ => rfl),
    f_Draft__check_heads := f42,
    d_Draft__check_heads := _,
    k_Draft__check_heads := (fun_mk (st := s_Draft__check_heads) l42 c42 k42),
    b_Draft__check_heads := (Fun.binds (ps := ["self", "heads"]) (fun_mk (st := s_Draft__check_heads) l42 c42 k42) fun _ _ _ _ _ _ us hl => match us, hl with | [_, _], _ => rfl),
    f_Draft__check_faces := f43,
    d_Draft__check_faces := _,
    k_Draft__check_faces := (fun_mk (st := s_Draft__check_faces) l43 c43 k43),
    b_Draft__check_faces := (Fun.binds (ps := ["self", "k", "table"]) (fun_mk (st := s_Draft__check_faces) l43 c43 k43) fun _ _ _ _ _ _ us hl => match us, hl with | [_, _, _], _ => rfl),
    f_World_init := f44,
    d_World_init := _,
    k_World_init := (fun_mk (st := s_World_init) l44 c44 k44),
    b_World_init := (Fun.binds (ps := ["self"]) (fun_mk (st := s_World_init) l44 c44 k44) fun _ _ _ _ _ _ us hl => match us, hl with | [_], _ => rfl),
    f_World_add := f45,
    d_World_add := _,
    k_World_add := (fun_mk (st := s_World_add) l45 c45 k45),
    b_World_add := (Fun.binds (ps := ["self", "module"]) (fun_mk (st := s_World_add) l45 c45 k45) fun _ _ _ _ _ _ us hl => match us, hl with | [_, _], _ => rfl),
    f_World_names := f46,
    d_World_names := _,
    k_World_names := (fun_mk (st := s_World_names) l46 c46 k46),
    b_World_names := (Fun.binds (ps := ["self"]) (fun_mk (st := s_World_names) l46 c46 k46) fun _ _ _ _ _ _ us hl => match us, hl with | [_], _ => rfl),
    f_World_module := f47,
    d_World_module := _,
    k_World_module := (fun_mk (st := s_World_module) l47 c47 k47),
    b_World_module := (Fun.binds (ps := ["self", "name"]) (fun_mk (st := s_World_module) l47 c47 k47) fun _ _ _ _ _ _ us hl => match us, hl with | [_, _], _ => rfl),
    f_World_face := f48,
    d_World_face := _,
    k_World_face := (fun_mk (st := s_World_face) l48 c48 k48),
    b_World_face := (Fun.binds (ps := ["self", "package", "name"]) (fun_mk (st := s_World_face) l48 c48 k48) fun _ _ _ _ _ _ us hl => match us, hl with | [_, _, _], _ => rfl),
    f_World_package := f49,
    d_World_package := _,
    k_World_package := (fun_mk (st := s_World_package) l49 c49 k49),
    b_World_package := (Fun.binds (ps := ["self", "g"]) (fun_mk (st := s_World_package) l49 c49 k49) fun _ _ _ _ _ _ us hl => match us, hl with | [_, _], _ => rfl),
    f_World_own := f50,
    d_World_own := _,
    k_World_own := (fun_mk (st := s_World_own) l50 c50 k50),
    b_World_own := (Fun.binds (ps := ["self", "g"]) (fun_mk (st := s_World_own) l50 c50 k50) fun _ _ _ _ _ _ us hl => match us, hl with | [_, _], _ => rfl),
    f_World_method := f51,
    d_World_method := _,
    k_World_method := (fun_mk (st := s_World_method) l51 c51 k51),
    b_World_method := (Fun.binds (ps := ["self", "g", "row"]) (fun_mk (st := s_World_method) l51 c51 k51) fun _ _ _ _ _ _ us hl => match us, hl with | [_, _, _], _ => rfl),
    f_World__row := f52,
    d_World__row := _,
    k_World__row := (fun_mk (st := s_World__row) l52 c52 k52),
    b_World__row := (Fun.binds (ps := ["self", "g"]) (fun_mk (st := s_World__row) l52 c52 k52) fun _ _ _ _ _ _ us hl => match us, hl with | [_, _], _ => rfl),
    f_law_cell := f53,
    d_law_cell := _,
    k_law_cell := (fun_mk (st := s_law_cell) l53 c53 k53),
    b_law_cell := (Fun.binds (ps := ["_law_script", "_law_k"]) (fun_mk (st := s_law_cell) l53 c53 k53) fun _ _ _ _ _ _ us hl => match us, hl with | [_, _], _ => rfl),
    g_law_cell := PySem.W.mg_of X G a53,
    f_law_code := f54,
    d_law_code := _,
    k_law_code := (fun_mk (st := s_law_code) l54 c54 k54),
    b_law_code := (Fun.binds (ps := ["_law_rounds"]) (fun_mk (st := s_law_code) l54 c54 k54) fun _ _ _ _ _ _ us hl => match us, hl with | [_], _ => rfl),
    g_law_code := PySem.W.mg_of X G a54,
    f_law_seek := f55,
    d_law_seek := _,
    k_law_seek := (fun_mk (st := s_law_seek) l55 c55 k55),
    b_law_seek := (Fun.binds (ps := ["_law_name"]) (fun_mk (st := s_law_seek) l55 c55 k55) fun _ _ _ _ _ _ us hl => match us, hl with | [_], _ => rfl),
    g_law_seek := PySem.W.mg_of X G a55,
    f_law_played := f56,
    d_law_played := _,
    k_law_played := (fun_mk (st := s_law_played) l56 c56 k56),
    b_law_played := (Fun.binds (ps := ["_law_machine", "_law_value"]) (fun_mk (st := s_law_played) l56 c56 k56) fun _ _ _ _ _ _ us hl => match us, hl with | [_, _], _ => rfl),
    g_law_played := PySem.W.mg_of X G a56,
    f_law_expected := f57,
    d_law_expected := _,
    k_law_expected := (fun_mk (st := s_law_expected) l57 c57 k57),
    b_law_expected := (Fun.binds (ps := ["_law_rounds", "_law_calls", "_law_caught"]) (fun_mk (st := s_law_expected) l57 c57 k57) fun _ _ _ _ _ _ us hl => match us, hl with | [_, _, _], _ => rfl),
    g_law_expected := PySem.W.mg_of X G a57,
    f_law := fa,
    d_law := _,
    k_law := (fun_mk (st := s_law) l58 c58 k58),
    b_law := (Fun.binds (ps := ["_law_script"]) (fun_mk (st := s_law) l58 c58 k58) fun _ _ _ _ _ _ us hl => match us, hl with | [_], _ => rfl),
    g_law := PySem.W.mg_of X G a58,
    c_CardError := c_CardError,
    g_CardError := PySem.W.mg_of X G aC_CardError,
    c_BadLink := c_BadLink,
    g_BadLink := PySem.W.mg_of X G aC_BadLink,
    c_Fault := c_Fault,
    g_Fault := PySem.W.mg_of X G aC_Fault,
    c_StepsGone := c_StepsGone,
    g_StepsGone := PySem.W.mg_of X G aC_StepsGone,
    c_PowerCut := c_PowerCut,
    g_PowerCut := PySem.W.mg_of X G aC_PowerCut,
    c_Heap := c_Heap,
    g_Heap := PySem.W.mg_of X G aC_Heap,
    c_Frame := c_Frame,
    g_Frame := PySem.W.mg_of X G aC_Frame,
    c_Machine := c_Machine,
    g_Machine := PySem.W.mg_of X G aC_Machine,
    c_Cells := c_Cells,
    g_Cells := PySem.W.mg_of X G aC_Cells,
    c_Journal := c_Journal,
    g_Journal := PySem.W.mg_of X G aC_Journal,
    c_Draft := c_Draft,
    g_Draft := PySem.W.mg_of X G aC_Draft,
    c_World := c_World,
    g_World := PySem.W.mg_of X G aC_World,
    x_BadLink := ⟨w1x, w2kx, w3be, w4ty⟩,
    ox_Fault := ⟨⟨_, _, _, _, _, _, _, _, _, _, _, _, _, _, _, w5oe, w6rv⟩, w7os, w8ob, w9ot, w10ok⟩,
    in_Fault := w11in,
    ti_Fault := w12ti,
    on_Fault_code := w13on,
    xf_Fault := ⟨w14xg, w15xh, w16xe, w17xd⟩,
    ex_Fault_Fault := exm_two w18eb w19ei w20et w21es,
    ex_StepsGone_Fault := exm_two w22eb w23ei w24et w25es,
    ex_PowerCut_Fault := exm_two w26eb w27ei w28et w29es,
    ex_BadLink_Fault := exm_two w30eb w31ei w32et w33es,
    x_StepsGone := ⟨w34x, w35kx, w36be, w37ty⟩,
    ex_Fault_StepsGone := exm_two w38eb w39ei w40et w41es,
    ex_StepsGone_StepsGone := exm_two w42eb w43ei w44et w45es,
    ex_PowerCut_StepsGone := exm_two w46eb w47ei w48et w49es,
    ex_BadLink_StepsGone := exm_two w50eb w51ei w52et w53es,
    x_PowerCut := ⟨w54x, w55kx, w56be, w57ty⟩,
    cl_Heap := ⟨w58pg, w59hd, w60po, w61sa⟩,
    mk_Heap := ⟨w62mk, w63in, w64fi, w65kc⟩,
    me_Heap_numbers := ⟨w66at, w67fn, w68km⟩,
    me_Heap_used := ⟨w69at, w70fn, w71km⟩,
    me_Heap_kind := ⟨w72at, w73fn, w74km⟩,
    me_Heap_owner := ⟨w75at, w76fn, w77km⟩,
    me_Heap_size := ⟨w78at, w79fn, w80km⟩,
    me_Heap_make := ⟨w81at, w82fn, w83km⟩,
    me_Heap__half := ⟨w84at, w85fn, w86km⟩,
    me_Heap__table := ⟨w87at, w88fn, w89km⟩,
    me_Heap__room := ⟨w90at, w91fn, w92km⟩,
    me_Heap__place := ⟨w93at, w94fn, w95km⟩,
    nf_Heap_cells := w96na,
    nf_Heap_journal := w97na,
    nf_Heap_start := w98na,
    nf_Heap_temps := w99na,
    cl_Frame := ⟨w100pg, w101hd, w102po, w103sa⟩,
    mk_Frame := ⟨w104mk, w105in, w106fi, w107kc⟩,
    nf_Frame_package := w108na,
    nf_Frame_number := w109na,
    nf_Frame_code := w110na,
    nf_Frame_handlers := w111na,
    nf_Frame_slots := w112na,
    nf_Frame_owner := w113na,
    nf_Frame_place := w114na,
    nf_Frame_stack := w115na,
    cl_Machine := ⟨w116pg, w117hd, w118po, w119sa⟩,
    mk_Machine := ⟨w120mk, w121in, w122fi, w123kc⟩,
    me_Machine_run := ⟨w124at, w125fn, w126km⟩,
    me_Machine__enter := ⟨w127at, w128fn, w129km⟩,
    me_Machine__leave := ⟨w130at, w131fn, w132km⟩,
    me_Machine__caught := ⟨w133at, w134fn, w135km⟩,
    me_Machine__step := ⟨w136at, w137fn, w138km⟩,
    me_Machine__perform := ⟨w139at, w140fn, w141km⟩,
    me_Machine__jump := ⟨w142at, w143fn, w144km⟩,
    me_Machine__call := ⟨w145at, w146fn, w147km⟩,
    me_Machine__work := ⟨w148at, w149fn, w150km⟩,
    me_Machine__reckon := ⟨w151at, w152fn, w153km⟩,
    nf_Machine_world := w154na,
    nf_Machine_heap := w155na,
    nf_Machine_journal := w156na,
    nf_Machine_seek := w157na,
    nf_Machine_needless := w158na,
    nf_Machine_frames := w159na,
    nf_Machine_steps := w160na,
    nf_Machine_looks := w161na,
    nf_Machine_result := w162na,
    cl_Cells := ⟨w163pg, w164hd, w165po, w166sa⟩,
    mk_Cells := ⟨w167mk, w168in, w169fi, w170kc⟩,
    me_Cells_read := ⟨w171at, w172fn, w173km⟩,
    me_Cells_write := ⟨w174at, w175fn, w176km⟩,
    nf_Cells_words := w177na,
    nf_Cells_left := w178na,
    nf_Cells_on := w179na,
    cl_Journal := ⟨w180pg, w181hd, w182po, w183sa⟩,
    mk_Journal := ⟨w184mk, w185in, w186fi, w187kc⟩,
    nf_Journal_cells := w188na,
    nf_Journal_start := w189na,
    nf_Journal_open := w190na,
    cl_Draft := ⟨w191pg, w192hd, w193po, w194sa⟩,
    mk_Draft := ⟨w195mk, w196in, w197fi, w198kc⟩,
    me_Draft_check := ⟨w199at, w200fn, w201km⟩,
    me_Draft__face := ⟨w202at, w203fn, w204km⟩,
    me_Draft__check_kinds := ⟨w205at, w206fn, w207km⟩,
    me_Draft__check_heads := ⟨w208at, w209fn, w210km⟩,
    me_Draft__check_faces := ⟨w211at, w212fn, w213km⟩,
    nf_Draft_world := w214na,
    nf_Draft_module := w215na,
    cl_World := ⟨w216pg, w217hd, w218po, w219sa⟩,
    mk_World := ⟨w220mk, w221in, w222fi, w223kc⟩,
    me_World_add := ⟨w224at, w225fn, w226km⟩,
    me_World_names := ⟨w227at, w228fn, w229km⟩,
    me_World_module := ⟨w230at, w231fn, w232km⟩,
    me_World_face := ⟨w233at, w234fn, w235km⟩,
    me_World_package := ⟨w236at, w237fn, w238km⟩,
    me_World_own := ⟨w239at, w240fn, w241km⟩,
    me_World_method := ⟨w242at, w243fn, w244km⟩,
    me_World__row := ⟨w245at, w246fn, w247km⟩,
    nf_World_modules := w248na,
    nf_World_classes := w249na,
    m_abs := PySem.W.mg_none_of X G z0,
    m_enumerate := PySem.W.mg_none_of X G z1,
    m_int := PySem.W.mg_none_of X G z2,
    m_len := PySem.W.mg_none_of X G z3,
    m_list := PySem.W.mg_none_of X G z4,
    m_min := PySem.W.mg_none_of X G z5,
    m_range := PySem.W.mg_none_of X G z6,
    m_sum := PySem.W.mg_none_of X G z7,
    m_tuple := PySem.W.mg_none_of X G z8,
    t_MOST_BUFFER := tk0,
    g_MOST_BUFFER := PySem.W.mg_of X G y0,
    t_MOST_CELLS := tk1,
    g_MOST_CELLS := PySem.W.mg_of X G y1,
    t_MOST_OBJECTS := tk2,
    g_MOST_OBJECTS := PySem.W.mg_of X G y2,
    t_MOST_DEPTH := tk3,
    g_MOST_DEPTH := PySem.W.mg_of X G y3,
    t_MOST_STEPS := tk4,
    g_MOST_STEPS := PySem.W.mg_of X G y4,
    t_NULL_limits := tk5,
    g_NULL_limits := PySem.W.mg_of X G y5,
    t_DIVIDED := tk6,
    g_DIVIDED := PySem.W.mg_of X G y6,
    t_ROOM := tk7,
    g_ROOM := PySem.W.mg_of X G y7,
    t_DEPTH := tk8,
    g_DEPTH := PySem.W.mg_of X G y8,
    t_TEMP := tk9,
    g_TEMP := PySem.W.mg_of X G y9,
    t_BUFFER := tk10,
    g_BUFFER := PySem.W.mg_of X G y10,
    t_HEAD_CELLS := tk11,
    g_HEAD_CELLS := PySem.W.mg_of X G y11,
    t_HALF_CELLS := tk12,
    g_HALF_CELLS := PySem.W.mg_of X G y12,
    t_LEAST := tk13,
    g_LEAST := PySem.W.mg_of X G y13,
    a_INT := qa14,
    g_INT := PySem.W.mg_of X G y14,
    s_INT := fun H => .inr ⟨_, _, _, u14, rfl, rfl, by show 1 ≤ sizeLine; decide, (.cons ⟨_, rfl⟩ .nil)⟩,
    y_INT := ⟨_, u14, rfl⟩,
    a_NOTHING := qa15,
    g_NOTHING := PySem.W.mg_of X G y15,
    s_NOTHING := fun H => .inr ⟨_, _, _, u15, rfl, rfl, by show 1 ≤ sizeLine; decide, (.cons ⟨_, rfl⟩ .nil)⟩,
    y_NOTHING := ⟨_, u15, rfl⟩ }
  exact ⟨T.d_law, fun s v => .of_eq rfl, fun base _ _ => ok_law T⟩
theorem factsX {l : PySem.W.OpenLaw} {w : World} {K : PySem.W.Frag} {h : Heap} {mg : Str → Option Value} {fa : Addr} (X : K.In h) (G : h.Ns mainGlobals mg) (hfa : mg "law" = some (.ref fa)) (c : SaysX K) :
    ∃ fd : FuncData, (∀ (s : Shared) (v : Value), BindsTo s fd ⟨[v], []⟩ [("_law_script", v)]) ∧ ∀ base : Heap, K.In base → base.Ns mainGlobals mg → FnOk l.prog w K mg base CX0 12 fa fd ["_law_script"] (sp_law K) := by
  obtain ⟨oc0, od0, sl0, kV0, dc0, pm0, an0, cd0, ct0, l0, c0⟩ := c.def_ 0 (d := ⟨("_wall", none), "_wall", "_wall", defArgs s_wall, defBody s_wall, defScope s_wall⟩) rfl
  obtain ⟨oc1, od1, sl1, kV1, dc1, pm1, an1, cd1, ct1, l1, c1⟩ := c.def_ 1 (d := ⟨("Fault", some "__init__"), "__init__", "Fault.__init__", defArgs s_Fault_init, defBody s_Fault_init, defScope s_Fault_init⟩) rfl
  obtain ⟨oc2, od2, sl2, kV2, dc2, pm2, an2, cd2, ct2, l2, c2⟩ := c.def_ 2 (d := ⟨("Heap", some "__init__"), "__init__", "Heap.__init__", defArgs s_Heap_init, defBody s_Heap_init, defScope s_Heap_init⟩) rfl
  obtain ⟨oc3, od3, sl3, kV3, dc3, pm3, an3, cd3, ct3, l3, c3⟩ := c.def_ 3 (d := ⟨("Heap", some "numbers"), "numbers", "Heap.numbers", defArgs s_Heap_numbers, defBody s_Heap_numbers, defScope s_Heap_numbers⟩) rfl
  obtain ⟨oc4, od4, sl4, kV4, dc4, pm4, an4, cd4, ct4, l4, c4⟩ := c.def_ 4 (d := ⟨("Heap", some "used"), "used", "Heap.used", defArgs s_Heap_used, defBody s_Heap_used, defScope s_Heap_used⟩) rfl
  obtain ⟨oc5, od5, sl5, kV5, dc5, pm5, an5, cd5, ct5, l5, c5⟩ := c.def_ 5 (d := ⟨("Heap", some "kind"), "kind", "Heap.kind", defArgs s_Heap_kind, defBody s_Heap_kind, defScope s_Heap_kind⟩) rfl
  obtain ⟨oc6, od6, sl6, kV6, dc6, pm6, an6, cd6, ct6, l6, c6⟩ := c.def_ 6 (d := ⟨("Heap", some "owner"), "owner", "Heap.owner", defArgs s_Heap_owner, defBody s_Heap_owner, defScope s_Heap_owner⟩) rfl
  obtain ⟨oc7, od7, sl7, kV7, dc7, pm7, an7, cd7, ct7, l7, c7⟩ := c.def_ 7 (d := ⟨("Heap", some "size"), "size", "Heap.size", defArgs s_Heap_size, defBody s_Heap_size, defScope s_Heap_size⟩) rfl
  obtain ⟨oc8, od8, sl8, kV8, dc8, pm8, an8, cd8, ct8, l8, c8⟩ := c.def_ 8 (d := ⟨("Heap", some "make"), "make", "Heap.make", defArgs s_Heap_make, defBody s_Heap_make, defScope s_Heap_make⟩) rfl
  obtain ⟨oc9, od9, sl9, kV9, dc9, pm9, an9, cd9, ct9, l9, c9⟩ := c.def_ 9 (d := ⟨("Heap", some "_half"), "_half", "Heap._half", defArgs s_Heap__half, defBody s_Heap__half, defScope s_Heap__half⟩) rfl
  obtain ⟨oc10, od10, sl10, kV10, dc10, pm10, an10, cd10, ct10, l10, c10⟩ := c.def_ 10 (d := ⟨("Heap", some "_table"), "_table", "Heap._table", defArgs s_Heap__table, defBody s_Heap__table, defScope s_Heap__table⟩) rfl
  obtain ⟨oc11, od11, sl11, kV11, dc11, pm11, an11, cd11, ct11, l11, c11⟩ := c.def_ 11 (d := ⟨("Heap", some "_room"), "_room", "Heap._room", defArgs s_Heap__room, defBody s_Heap__room, defScope s_Heap__room⟩) rfl
  obtain ⟨oc12, od12, sl12, kV12, dc12, pm12, an12, cd12, ct12, l12, c12⟩ := c.def_ 12 (d := ⟨("Heap", some "_place"), "_place", "Heap._place", defArgs s_Heap__place, defBody s_Heap__place, defScope s_Heap__place⟩) rfl
  obtain ⟨oc13, od13, sl13, kV13, dc13, pm13, an13, cd13, ct13, l13, c13⟩ := c.def_ 13 (d := ⟨("wrap", none), "wrap", "wrap", defArgs s_wrap, defBody s_wrap, defScope s_wrap⟩) rfl
  obtain ⟨oc14, od14, sl14, kV14, dc14, pm14, an14, cd14, ct14, l14, c14⟩ := c.def_ 14 (d := ⟨("divided", none), "divided", "divided", defArgs s_divided, defBody s_divided, defScope s_divided⟩) rfl
  obtain ⟨oc15, od15, sl15, kV15, dc15, pm15, an15, cd15, ct15, l15, c15⟩ := c.def_ 15 (d := ⟨("arithmetic", none), "arithmetic", "arithmetic", defArgs s_arithmetic, defBody s_arithmetic, defScope s_arithmetic⟩) rfl
  obtain ⟨oc16, od16, sl16, kV16, dc16, pm16, an16, cd16, ct16, l16, c16⟩ := c.def_ 16 (d := ⟨("compared", none), "compared", "compared", defArgs s_compared, defBody s_compared, defScope s_compared⟩) rfl
  obtain ⟨oc17, od17, sl17, kV17, dc17, pm17, an17, cd17, ct17, l17, c17⟩ := c.def_ 17 (d := ⟨("op", none), "op", "op", defArgs s_op, defBody s_op, defScope s_op⟩) rfl
  obtain ⟨oc18, od18, sl18, kV18, dc18, pm18, an18, cd18, ct18, l18, c18⟩ := c.def_ 18 (d := ⟨("Frame", some "__init__"), "__init__", "Frame.__init__", defArgs s_Frame_init, defBody s_Frame_init, defScope s_Frame_init⟩) rfl
  obtain ⟨oc19, od19, sl19, kV19, dc19, pm19, an19, cd19, ct19, l19, c19⟩ := c.def_ 19 (d := ⟨("Machine", some "__init__"), "__init__", "Machine.__init__", defArgs s_Machine_init, defBody s_Machine_init, defScope s_Machine_init⟩) rfl
  obtain ⟨oc20, od20, sl20, kV20, dc20, pm20, an20, cd20, ct20, l20, c20⟩ := c.def_ 20 (d := ⟨("Machine", some "run"), "run", "Machine.run", defArgs s_Machine_run, defBody s_Machine_run, defScope s_Machine_run⟩) rfl
  obtain ⟨oc21, od21, sl21, kV21, dc21, pm21, an21, cd21, ct21, l21, c21⟩ := c.def_ 21 (d := ⟨("Machine", some "_enter"), "_enter", "Machine._enter", defArgs s_Machine__enter, defBody s_Machine__enter, defScope s_Machine__enter⟩) rfl
  obtain ⟨oc22, od22, sl22, kV22, dc22, pm22, an22, cd22, ct22, l22, c22⟩ := c.def_ 22 (d := ⟨("Machine", some "_leave"), "_leave", "Machine._leave", defArgs s_Machine__leave, defBody s_Machine__leave, defScope s_Machine__leave⟩) rfl
  obtain ⟨oc23, od23, sl23, kV23, dc23, pm23, an23, cd23, ct23, l23, c23⟩ := c.def_ 23 (d := ⟨("Machine", some "_caught"), "_caught", "Machine._caught", defArgs s_Machine__caught, defBody s_Machine__caught, defScope s_Machine__caught⟩) rfl
  obtain ⟨oc24, od24, sl24, kV24, dc24, pm24, an24, cd24, ct24, l24, c24⟩ := c.def_ 24 (d := ⟨("Machine", some "_step"), "_step", "Machine._step", defArgs s_Machine__step, defBody s_Machine__step, defScope s_Machine__step⟩) rfl
  obtain ⟨oc25, od25, sl25, kV25, dc25, pm25, an25, cd25, ct25, l25, c25⟩ := c.def_ 25 (d := ⟨("Machine", some "_perform"), "_perform", "Machine._perform", defArgs s_Machine__perform, defBody s_Machine__perform, defScope s_Machine__perform⟩) rfl
  obtain ⟨oc26, od26, sl26, kV26, dc26, pm26, an26, cd26, ct26, l26, c26⟩ := c.def_ 26 (d := ⟨("Machine", some "_jump"), "_jump", "Machine._jump", defArgs s_Machine__jump, defBody s_Machine__jump, defScope s_Machine__jump⟩) rfl
  obtain ⟨oc27, od27, sl27, kV27, dc27, pm27, an27, cd27, ct27, l27, c27⟩ := c.def_ 27 (d := ⟨("Machine", some "_call"), "_call", "Machine._call", defArgs s_Machine__call, defBody s_Machine__call, defScope s_Machine__call⟩) rfl
  obtain ⟨oc28, od28, sl28, kV28, dc28, pm28, an28, cd28, ct28, l28, c28⟩ := c.def_ 28 (d := ⟨("Machine", some "_work"), "_work", "Machine._work", defArgs s_Machine__work, defBody s_Machine__work, defScope s_Machine__work⟩) rfl
  obtain ⟨oc29, od29, sl29, kV29, dc29, pm29, an29, cd29, ct29, l29, c29⟩ := c.def_ 29 (d := ⟨("Machine", some "_reckon"), "_reckon", "Machine._reckon", defArgs s_Machine__reckon, defBody s_Machine__reckon, defScope s_Machine__reckon⟩) rfl
  obtain ⟨oc30, od30, sl30, kV30, dc30, pm30, an30, cd30, ct30, l30, c30⟩ := c.def_ 30 (d := ⟨("Cells", some "__init__"), "__init__", "Cells.__init__", defArgs s_Cells_init, defBody s_Cells_init, defScope s_Cells_init⟩) rfl
  obtain ⟨oc31, od31, sl31, kV31, dc31, pm31, an31, cd31, ct31, l31, c31⟩ := c.def_ 31 (d := ⟨("Cells", some "read"), "read", "Cells.read", defArgs s_Cells_read, defBody s_Cells_read, defScope s_Cells_read⟩) rfl
  obtain ⟨oc32, od32, sl32, kV32, dc32, pm32, an32, cd32, ct32, l32, c32⟩ := c.def_ 32 (d := ⟨("Cells", some "write"), "write", "Cells.write", defArgs s_Cells_write, defBody s_Cells_write, defScope s_Cells_write⟩) rfl
  obtain ⟨oc33, od33, sl33, kV33, dc33, pm33, an33, cd33, ct33, l33, c33⟩ := c.def_ 33 (d := ⟨("Journal", some "__init__"), "__init__", "Journal.__init__", defArgs s_Journal_init, defBody s_Journal_init, defScope s_Journal_init⟩) rfl
  obtain ⟨oc34, od34, sl34, kV34, dc34, pm34, an34, cd34, ct34, l34, c34⟩ := c.def_ 34 (d := ⟨("must", none), "must", "must", defArgs s_must, defBody s_must, defScope s_must⟩) rfl
  obtain ⟨oc35, od35, sl35, kV35, dc35, pm35, an35, cd35, ct35, l35, c35⟩ := c.def_ 35 (d := ⟨("is_face", none), "is_face", "is_face", defArgs s_is_face, defBody s_is_face, defScope s_is_face⟩) rfl
  obtain ⟨oc36, od36, sl36, kV36, dc36, pm36, an36, cd36, ct36, l36, c36⟩ := c.def_ 36 (d := ⟨("ancestors_of", none), "ancestors_of", "ancestors_of", defArgs s_ancestors_of, defBody s_ancestors_of, defScope s_ancestors_of⟩) rfl
  obtain ⟨oc37, od37, sl37, kV37, dc37, pm37, an37, cd37, ct37, l37, c37⟩ := c.def_ 37 (d := ⟨("faces_of", none), "faces_of", "faces_of", defArgs s_faces_of, defBody s_faces_of, defScope s_faces_of⟩) rfl
  obtain ⟨oc38, od38, sl38, kV38, dc38, pm38, an38, cd38, ct38, l38, c38⟩ := c.def_ 38 (d := ⟨("Draft", some "__init__"), "__init__", "Draft.__init__", defArgs s_Draft_init, defBody s_Draft_init, defScope s_Draft_init⟩) rfl
  obtain ⟨oc39, od39, sl39, kV39, dc39, pm39, an39, cd39, ct39, l39, c39⟩ := c.def_ 39 (d := ⟨("Draft", some "check"), "check", "Draft.check", defArgs s_Draft_check, defBody s_Draft_check, defScope s_Draft_check⟩) rfl
  obtain ⟨oc40, od40, sl40, kV40, dc40, pm40, an40, cd40, ct40, l40, c40⟩ := c.def_ 40 (d := ⟨("Draft", some "_face"), "_face", "Draft._face", defArgs s_Draft__face, defBody s_Draft__face, defScope s_Draft__face⟩) rfl
  obtain ⟨oc41, od41, sl41, kV41, dc41, pm41, an41, cd41, ct41, l41, c41⟩ := c.def_ 41 (d := ⟨("Draft", some "_check_kinds"), "_check_kinds", "Draft._check_kinds", defArgs s_Draft__check_kinds, defBody s_Draft__check_kinds, defScope s_Draft__check_kinds⟩) rfl
  obtain ⟨oc42, od42, sl42, kV42, dc42, pm42, an42, cd42, ct42, l42, c42⟩ := c.def_ 42 (d := ⟨("Draft", some "_check_heads"), "_check_heads", "Draft._check_heads", defArgs s_Draft__check_heads, defBody s_Draft__check_heads, defScope s_Draft__check_heads⟩) rfl
  obtain ⟨oc43, od43, sl43, kV43, dc43, pm43, an43, cd43, ct43, l43, c43⟩ := c.def_ 43 (d := ⟨("Draft", some "_check_faces"), "_check_faces", "Draft._check_faces", defArgs s_Draft__check_faces, defBody s_Draft__check_faces, defScope s_Draft__check_faces⟩) rfl
  obtain ⟨oc44, od44, sl44, kV44, dc44, pm44, an44, cd44, ct44, l44, c44⟩ := c.def_ 44 (d := ⟨("World", some "__init__"), "__init__", "World.__init__", defArgs s_World_init, defBody s_World_init, defScope s_World_init⟩) rfl
  obtain ⟨oc45, od45, sl45, kV45, dc45, pm45, an45, cd45, ct45, l45, c45⟩ := c.def_ 45 (d := ⟨("World", some "add"), "add", "World.add", defArgs s_World_add, defBody s_World_add, defScope s_World_add⟩) rfl
  obtain ⟨oc46, od46, sl46, kV46, dc46, pm46, an46, cd46, ct46, l46, c46⟩ := c.def_ 46 (d := ⟨("World", some "names"), "names", "World.names", defArgs s_World_names, defBody s_World_names, defScope s_World_names⟩) rfl
  obtain ⟨oc47, od47, sl47, kV47, dc47, pm47, an47, cd47, ct47, l47, c47⟩ := c.def_ 47 (d := ⟨("World", some "module"), "module", "World.module", defArgs s_World_module, defBody s_World_module, defScope s_World_module⟩) rfl
  obtain ⟨oc48, od48, sl48, kV48, dc48, pm48, an48, cd48, ct48, l48, c48⟩ := c.def_ 48 (d := ⟨("World", some "face"), "face", "World.face", defArgs s_World_face, defBody s_World_face, defScope s_World_face⟩) rfl
  obtain ⟨oc49, od49, sl49, kV49, dc49, pm49, an49, cd49, ct49, l49, c49⟩ := c.def_ 49 (d := ⟨("World", some "package"), "package", "World.package", defArgs s_World_package, defBody s_World_package, defScope s_World_package⟩) rfl
  obtain ⟨oc50, od50, sl50, kV50, dc50, pm50, an50, cd50, ct50, l50, c50⟩ := c.def_ 50 (d := ⟨("World", some "own"), "own", "World.own", defArgs s_World_own, defBody s_World_own, defScope s_World_own⟩) rfl
  obtain ⟨oc51, od51, sl51, kV51, dc51, pm51, an51, cd51, ct51, l51, c51⟩ := c.def_ 51 (d := ⟨("World", some "method"), "method", "World.method", defArgs s_World_method, defBody s_World_method, defScope s_World_method⟩) rfl
  obtain ⟨oc52, od52, sl52, kV52, dc52, pm52, an52, cd52, ct52, l52, c52⟩ := c.def_ 52 (d := ⟨("World", some "_row"), "_row", "World._row", defArgs s_World__row, defBody s_World__row, defScope s_World__row⟩) rfl
  obtain ⟨oc53, od53, sl53, kV53, dc53, pm53, an53, cd53, ct53, l53, c53⟩ := c.def_ 53 (d := ⟨("_law_cell", none), "_law_cell", "_law_cell", defArgs s_law_cell, defBody s_law_cell, defScope s_law_cell⟩) rfl
  obtain ⟨oc54, od54, sl54, kV54, dc54, pm54, an54, cd54, ct54, l54, c54⟩ := c.def_ 54 (d := ⟨("_law_code", none), "_law_code", "_law_code", defArgs s_law_code, defBody s_law_code, defScope s_law_code⟩) rfl
  obtain ⟨oc55, od55, sl55, kV55, dc55, pm55, an55, cd55, ct55, l55, c55⟩ := c.def_ 55 (d := ⟨("_law_seek", none), "_law_seek", "_law_seek", defArgs s_law_seek, defBody s_law_seek, defScope s_law_seek⟩) rfl
  obtain ⟨oc56, od56, sl56, kV56, dc56, pm56, an56, cd56, ct56, l56, c56⟩ := c.def_ 56 (d := ⟨("_law_played", none), "_law_played", "_law_played", defArgs s_law_played, defBody s_law_played, defScope s_law_played⟩) rfl
  obtain ⟨oc57, od57, sl57, kV57, dc57, pm57, an57, cd57, ct57, l57, c57⟩ := c.def_ 57 (d := ⟨("_law_expected", none), "_law_expected", "_law_expected", defArgs s_law_expected, defBody s_law_expected, defScope s_law_expected⟩) rfl
  obtain ⟨oc58, od58, sl58, kV58, dc58, pm58, an58, cd58, ct58, l58, c58⟩ := c.def_ 58 (d := ⟨("law", none), "law", "law", defArgs s_law, defBody s_law, defScope s_law⟩) rfl
  obtain ⟨em0_Fault, em1_Fault, em2_Fault, em3_Fault, em4_Fault, em5_Fault, em6_Fault, em7_Fault, em8_Fault, em9_Fault, em10_Fault, em11_Fault, em12_Fault, em13_Fault, em14_Fault, w5oe, rv_Fault⟩ := exc_x (c.fact 91 rfl)
  obtain ⟨tk0, y0⟩ := int_x (c.fact 344 rfl)
  obtain ⟨tk1, y1⟩ := int_x (c.fact 345 rfl)
  obtain ⟨tk2, y2⟩ := int_x (c.fact 346 rfl)
  obtain ⟨tk3, y3⟩ := int_x (c.fact 347 rfl)
  obtain ⟨tk4, y4⟩ := int_x (c.fact 348 rfl)
  obtain ⟨tk5, y5⟩ := int_x (c.fact 349 rfl)
  obtain ⟨tk6, y6⟩ := int_x (c.fact 350 rfl)
  obtain ⟨tk7, y7⟩ := int_x (c.fact 351 rfl)
  obtain ⟨tk8, y8⟩ := int_x (c.fact 352 rfl)
  obtain ⟨tk9, y9⟩ := int_x (c.fact 353 rfl)
  obtain ⟨tk10, y10⟩ := int_x (c.fact 354 rfl)
  obtain ⟨tk11, y11⟩ := int_x (c.fact 355 rfl)
  obtain ⟨tk12, y12⟩ := int_x (c.fact 356 rfl)
  obtain ⟨tk13, y13⟩ := int_x (c.fact 357 rfl)
  obtain ⟨qd14, qn14, qs14, us14, u14, r14⟩ := tup_x (c.fact 359 rfl)
  cases r14 with | cons e14_0 r14 => ?_
  obtain ⟨tq14_0, rfl⟩ := e14_0
  cases r14
  obtain ⟨qd15, qn15, qs15, us15, u15, r15⟩ := tup_x (c.fact 361 rfl)
  cases r15 with | cons e15_0 r15 => ?_
  obtain ⟨tq15_0, rfl⟩ := e15_0
  cases r15
  exact all_mk X G hfa (He.eqO_ok (c.fact 0 rfl)) l0 c0 (c.fact 1 rfl) l1 c1 (c.fact 2 rfl) l2 c2 (c.fact 3 rfl) l3 c3 (c.fact 4 rfl) l4 c4 (c.fact 5 rfl) l5 c5 (c.fact 6 rfl) l6 c6 (c.fact 7 rfl) l7 c7 (c.fact 8 rfl) l8 c8 (c.fact 9 rfl) l9 c9 (c.fact 10 rfl) l10 c10 (c.fact 11 rfl) l11 c11 (c.fact 12 rfl) l12 c12 (c.fact 13 rfl) (He.eqO_ok (c.fact 14 rfl)) l13 c13 (c.fact 15 rfl) (He.eqO_ok (c.fact 16 rfl)) l14 c14 (c.fact 17 rfl) (He.eqO_ok (c.fact 18 rfl)) l15 c15 (c.fact 19 rfl) (He.eqO_ok (c.fact 20 rfl)) l16 c16 (c.fact 21 rfl) (He.eqO_ok (c.fact 22 rfl)) l17 c17 (c.fact 23 rfl) l18 c18 (c.fact 24 rfl) l19 c19 (c.fact 25 rfl) l20 c20 (c.fact 26 rfl) l21 c21 (c.fact 27 rfl) l22 c22 (c.fact 28 rfl) l23 c23 (c.fact 29 rfl) l24 c24 (c.fact 30 rfl) l25 c25 (c.fact 31 rfl) l26 c26 (c.fact 32 rfl) l27 c27 (c.fact 33 rfl) l28 c28 (c.fact 34 rfl) l29 c29 (c.fact 35 rfl) l30 c30 (c.fact 36 rfl) l31 c31 (c.fact 37 rfl) l32 c32 (c.fact 38 rfl) l33 c33 (c.fact 39 rfl) (He.eqO_ok (c.fact 40 rfl)) l34 c34 (c.fact 41 rfl) (He.eqO_ok (c.fact 42 rfl)) l35 c35 (c.fact 43 rfl) (He.eqO_ok (c.fact 44 rfl)) l36 c36 (c.fact 45 rfl) (He.eqO_ok (c.fact 46 rfl)) l37 c37 (c.fact 47 rfl) l38 c38 (c.fact 48 rfl) l39 c39 (c.fact 49 rfl) l40 c40 (c.fact 50 rfl) l41 c41 (c.fact 51 rfl) l42 c42 (c.fact 52 rfl) l43 c43 (c.fact 53 rfl) l44 c44 (c.fact 54 rfl) l45 c45 (c.fact 55 rfl) l46 c46 (c.fact 56 rfl) l47 c47 (c.fact 57 rfl) l48 c48 (c.fact 58 rfl) l49 c49 (c.fact 59 rfl) l50 c50 (c.fact 60 rfl) l51 c51 (c.fact 61 rfl) l52 c52 (c.fact 62 rfl) (He.eqO_ok (c.fact 63 rfl)) l53 c53 (c.fact 64 rfl) (He.eqO_ok (c.fact 65 rfl)) l54 c54 (c.fact 66 rfl) (He.eqO_ok (c.fact 67 rfl)) l55 c55 (c.fact 68 rfl) (He.eqO_ok (c.fact 69 rfl)) l56 c56 (c.fact 70 rfl) (He.eqO_ok (c.fact 71 rfl)) l57 c57 (c.fact 72 rfl) (He.eqO_ok (c.fact 73 rfl)) l58 c58 (c.fact 74 rfl) (He.eqO_ok (c.fact 75 rfl)) (He.eqO_ok (c.fact 76 rfl)) (He.eqO_ok (c.fact 77 rfl)) (He.eqO_ok (c.fact 78 rfl)) (He.eqO_ok (c.fact 79 rfl)) (He.eqO_ok (c.fact 80 rfl)) (He.eqO_ok (c.fact 81 rfl)) (He.eqO_ok (c.fact 82 rfl)) (He.eqO_ok (c.fact 83 rfl)) (He.eqO_ok (c.fact 84 rfl)) (He.eqO_ok (c.fact 85 rfl)) (He.eqO_ok (c.fact 86 rfl)) (c.fact 87 rfl) (c.fact 88 rfl) (of_decide_eq_true (c.fact 89 rfl)) (of_decide_eq_true (c.fact 90 rfl)) w5oe rv_Fault (He.eqO_ok (c.fact 92 rfl)) (of_decide_eq_true (c.fact 93 rfl)) (of_decide_eq_true (c.fact 94 rfl)) (c.fact 95 rfl) (He.eqO_ok (c.fact 96 rfl)) (of_decide_eq_true (c.fact 97 rfl)) (He.eqO_ok (c.fact 98 rfl)) (He.eqO_ok (c.fact 99 rfl)) (He.eqO_ok (c.fact 100 rfl)) (of_decide_eq_true (c.fact 101 rfl)) (c.fact 102 rfl) (of_decide_eq_true (c.fact 103 rfl)) (c.fact 104 rfl) (of_decide_eq_true (c.fact 105 rfl)) (of_decide_eq_true (c.fact 106 rfl)) (of_decide_eq_true (c.fact 107 rfl)) (c.fact 108 rfl) (of_decide_eq_true (c.fact 109 rfl)) (of_decide_eq_true (c.fact 110 rfl)) (of_decide_eq_true (c.fact 111 rfl)) (c.fact 112 rfl) (of_decide_eq_true (c.fact 113 rfl)) (of_decide_eq_true (c.fact 114 rfl)) (of_decide_eq_true (c.fact 115 rfl)) (c.fact 116 rfl) (of_decide_eq_true (c.fact 117 rfl)) (of_decide_eq_true (c.fact 118 rfl)) (c.fact 119 rfl) (c.fact 120 rfl) (of_decide_eq_true (c.fact 121 rfl)) (of_decide_eq_true (c.fact 122 rfl)) (of_decide_eq_true (c.fact 123 rfl)) (c.fact 124 rfl) (of_decide_eq_true (c.fact 125 rfl)) (of_decide_eq_true (c.fact 126 rfl)) (of_decide_eq_true (c.fact 127 rfl)) (c.fact 128 rfl) (of_decide_eq_true (c.fact 129 rfl)) (of_decide_eq_true (c.fact 130 rfl)) (of_decide_eq_true (c.fact 131 rfl)) (c.fact 132 rfl) (of_decide_eq_true (c.fact 133 rfl)) (of_decide_eq_true (c.fact 134 rfl)) (of_decide_eq_true (c.fact 135 rfl)) (c.fact 136 rfl) (of_decide_eq_true (c.fact 137 rfl)) (of_decide_eq_true (c.fact 138 rfl)) (c.fact 139 rfl) (c.fact 140 rfl) (of_decide_eq_true (c.fact 141 rfl)) (of_decide_eq_true (c.fact 142 rfl)) (c.fact 143 rfl) (c.fact 144 rfl) (c.fact 145 rfl) (He.eqO_ok (c.fact 146 rfl)) (c.fact 147 rfl) (He.eqO_ok (c.fact 148 rfl)) (c.fact 149 rfl) (c.fact 150 rfl) (He.eqO_ok (c.fact 151 rfl)) (c.fact 152 rfl) (c.fact 153 rfl) (He.eqO_ok (c.fact 154 rfl)) (c.fact 155 rfl) (c.fact 156 rfl) (He.eqO_ok (c.fact 157 rfl)) (c.fact 158 rfl) (c.fact 159 rfl) (He.eqO_ok (c.fact 160 rfl)) (c.fact 161 rfl) (c.fact 162 rfl) (He.eqO_ok (c.fact 163 rfl)) (c.fact 164 rfl) (c.fact 165 rfl) (He.eqO_ok (c.fact 166 rfl)) (c.fact 167 rfl) (c.fact 168 rfl) (He.eqO_ok (c.fact 169 rfl)) (c.fact 170 rfl) (c.fact 171 rfl) (He.eqO_ok (c.fact 172 rfl)) (c.fact 173 rfl) (c.fact 174 rfl) (He.eqO_ok (c.fact 175 rfl)) (c.fact 176 rfl) (c.fact 177 rfl) (He.eqO_ok (c.fact 178 rfl)) (c.fact 179 rfl) (c.fact 180 rfl) (He.eqO_ok (c.fact 181 rfl)) (He.eqO_ok (c.fact 182 rfl)) (He.eqO_ok (c.fact 183 rfl)) (He.eqO_ok (c.fact 184 rfl)) (c.fact 185 rfl) (c.fact 186 rfl) (c.fact 187 rfl) (He.eqO_ok (c.fact 188 rfl)) (c.fact 189 rfl) (He.eqO_ok (c.fact 190 rfl)) (c.fact 191 rfl) (c.fact 192 rfl) (He.eqO_ok (c.fact 193 rfl)) (He.eqO_ok (c.fact 194 rfl)) (He.eqO_ok (c.fact 195 rfl)) (He.eqO_ok (c.fact 196 rfl)) (He.eqO_ok (c.fact 197 rfl)) (He.eqO_ok (c.fact 198 rfl)) (He.eqO_ok (c.fact 199 rfl)) (He.eqO_ok (c.fact 200 rfl)) (c.fact 201 rfl) (c.fact 202 rfl) (c.fact 203 rfl) (He.eqO_ok (c.fact 204 rfl)) (c.fact 205 rfl) (He.eqO_ok (c.fact 206 rfl)) (c.fact 207 rfl) (c.fact 208 rfl) (He.eqO_ok (c.fact 209 rfl)) (c.fact 210 rfl) (c.fact 211 rfl) (He.eqO_ok (c.fact 212 rfl)) (c.fact 213 rfl) (c.fact 214 rfl) (He.eqO_ok (c.fact 215 rfl)) (c.fact 216 rfl) (c.fact 217 rfl) (He.eqO_ok (c.fact 218 rfl)) (c.fact 219 rfl) (c.fact 220 rfl) (He.eqO_ok (c.fact 221 rfl)) (c.fact 222 rfl) (c.fact 223 rfl) (He.eqO_ok (c.fact 224 rfl)) (c.fact 225 rfl) (c.fact 226 rfl) (He.eqO_ok (c.fact 227 rfl)) (c.fact 228 rfl) (c.fact 229 rfl) (He.eqO_ok (c.fact 230 rfl)) (c.fact 231 rfl) (c.fact 232 rfl) (He.eqO_ok (c.fact 233 rfl)) (c.fact 234 rfl) (c.fact 235 rfl) (He.eqO_ok (c.fact 236 rfl)) (c.fact 237 rfl) (c.fact 238 rfl) (He.eqO_ok (c.fact 239 rfl)) (He.eqO_ok (c.fact 240 rfl)) (He.eqO_ok (c.fact 241 rfl)) (He.eqO_ok (c.fact 242 rfl)) (He.eqO_ok (c.fact 243 rfl)) (He.eqO_ok (c.fact 244 rfl)) (He.eqO_ok (c.fact 245 rfl)) (He.eqO_ok (c.fact 246 rfl)) (He.eqO_ok (c.fact 247 rfl)) (c.fact 248 rfl) (c.fact 249 rfl) (c.fact 250 rfl) (He.eqO_ok (c.fact 251 rfl)) (c.fact 252 rfl) (He.eqO_ok (c.fact 253 rfl)) (c.fact 254 rfl) (c.fact 255 rfl) (He.eqO_ok (c.fact 256 rfl)) (c.fact 257 rfl) (c.fact 258 rfl) (He.eqO_ok (c.fact 259 rfl)) (c.fact 260 rfl) (c.fact 261 rfl) (He.eqO_ok (c.fact 262 rfl)) (He.eqO_ok (c.fact 263 rfl)) (He.eqO_ok (c.fact 264 rfl)) (c.fact 265 rfl) (c.fact 266 rfl) (c.fact 267 rfl) (He.eqO_ok (c.fact 268 rfl)) (c.fact 269 rfl) (He.eqO_ok (c.fact 270 rfl)) (c.fact 271 rfl) (c.fact 272 rfl) (He.eqO_ok (c.fact 273 rfl)) (He.eqO_ok (c.fact 274 rfl)) (He.eqO_ok (c.fact 275 rfl)) (c.fact 276 rfl) (c.fact 277 rfl) (c.fact 278 rfl) (He.eqO_ok (c.fact 279 rfl)) (c.fact 280 rfl) (He.eqO_ok (c.fact 281 rfl)) (c.fact 282 rfl) (c.fact 283 rfl) (He.eqO_ok (c.fact 284 rfl)) (c.fact 285 rfl) (c.fact 286 rfl) (He.eqO_ok (c.fact 287 rfl)) (c.fact 288 rfl) (c.fact 289 rfl) (He.eqO_ok (c.fact 290 rfl)) (c.fact 291 rfl) (c.fact 292 rfl) (He.eqO_ok (c.fact 293 rfl)) (c.fact 294 rfl) (c.fact 295 rfl) (He.eqO_ok (c.fact 296 rfl)) (c.fact 297 rfl) (c.fact 298 rfl) (He.eqO_ok (c.fact 299 rfl)) (He.eqO_ok (c.fact 300 rfl)) (c.fact 301 rfl) (c.fact 302 rfl) (c.fact 303 rfl) (He.eqO_ok (c.fact 304 rfl)) (c.fact 305 rfl) (He.eqO_ok (c.fact 306 rfl)) (c.fact 307 rfl) (c.fact 308 rfl) (He.eqO_ok (c.fact 309 rfl)) (c.fact 310 rfl) (c.fact 311 rfl) (He.eqO_ok (c.fact 312 rfl)) (c.fact 313 rfl) (c.fact 314 rfl) (He.eqO_ok (c.fact 315 rfl)) (c.fact 316 rfl) (c.fact 317 rfl) (He.eqO_ok (c.fact 318 rfl)) (c.fact 319 rfl) (c.fact 320 rfl) (He.eqO_ok (c.fact 321 rfl)) (c.fact 322 rfl) (c.fact 323 rfl) (He.eqO_ok (c.fact 324 rfl)) (c.fact 325 rfl) (c.fact 326 rfl) (He.eqO_ok (c.fact 327 rfl)) (c.fact 328 rfl) (c.fact 329 rfl) (He.eqO_ok (c.fact 330 rfl)) (c.fact 331 rfl) (c.fact 332 rfl) (He.eqO_ok (c.fact 333 rfl)) (He.eqO_ok (c.fact 334 rfl)) (He.eqO_ok (c.fact 335 rfl)) (He.eqO_ok (c.fact 336 rfl)) (He.eqO_ok (c.fact 337 rfl)) (He.eqO_ok (c.fact 338 rfl)) (He.eqO_ok (c.fact 339 rfl)) (He.eqO_ok (c.fact 340 rfl)) (He.eqO_ok (c.fact 341 rfl)) (He.eqO_ok (c.fact 342 rfl)) (He.eqO_ok (c.fact 343 rfl)) y0 y1 y2 y3 y4 y5 y6 y7 y8 y9 y10 y11 y12 y13 (He.eqO_ok (c.fact 358 rfl)) u14 (He.eqO_ok (c.fact 360 rfl)) u15
end
end My
open PySem PySem.W PySem.Calls PyProof.Rows
set_option maxHeartbeats 0 in
theorem PySem.Challenge.cw_warycard_k80_steps_and_depth_holds : PySem.Challenge.rw_warycard_k80_steps_and_depth.Holds := by
  w_on; o_law
  refine HandSHeadRun.head_any (r := OpenLaw.row PySem.Challenge.rw_warycard_k80_steps_and_depth) (q := view (OpenLaw.row PySem.Challenge.rw_warycard_k80_steps_and_depth).prog [63]) (H := My.hookX) (ob := My.obS) (M := 6200) (loose := My.looseX) (d := HandSHeadRun.topDef (OpenLaw.row PySem.Challenge.rw_warycard_k80_steps_and_depth).prog 63) (kwd := []) My.obS_eq
    (by kernel_rfl) (fun s => by kernel_rfl) My.runX (by kernel_rfl) (by kernel_rfl) (by kernel_rfl) (by rfl) (by first | assumption | decide +kernel) (by decide +kernel) ⟨rfl, rfl, rfl, rfl, rfl, by decide +kernel⟩ ?hw ?hc
  case hw => w_witness2
  case hc =>
    refine L2.walk_ofE (l := PySem.Challenge.rw_warycard_k80_steps_and_depth) (n := 63) (k := 12) (x := "_law_script") (CX := L2.CX0) rfl (by decide) (by kernel_rfl) ⟨rfl, by decide, by decide⟩ ?F (fun _ _ _ _ z => z)
    intro w mg fa h Y G hmg0
    obtain ⟨K, KX, c⟩ := Y
    have hmg : mg ("law" : PySem.Str) = some (.ref fa) := by
      have e : (HandSHeadRun.topDef (OpenLaw.row PySem.Challenge.rw_warycard_k80_steps_and_depth).prog 63).name = ("law" : PySem.Str) := by kernel_rfl
      rw [← e]
      exact hmg0
    obtain ⟨fd, hb, hF⟩ := My.factsX (l := PySem.Challenge.rw_warycard_k80_steps_and_depth) (w := w) KX G hmg c
    exact ⟨K, fd, My.sp_law K, KX, hb, fun H a ns hl _ hS => ⟨a, ns, rfl, hS, hl, fun _ => rfl⟩, hF⟩
#print axioms PySem.Challenge.cw_warycard_k80_steps_and_depth_holds
