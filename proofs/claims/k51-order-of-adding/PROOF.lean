import PyProof.Rows.All
import Wide.All
import OpenK.AllK
import Wide.FinOn
import HandS.ForMost
import HandS.Wide
import HandS.IsInst
import HandS.Walk
import HandS.Codes
import HandS.ForExc
import HandS.Style
import HandS.ExcInit
import HandS.ExcField
import HandS.RevRange
import HandS.Conv
import HandS.Deep
import HandS.Text
import HandS.StrMore
import HandS.More
import HandS.Iter
import HandS.CallLocal
import HandS.SortInts
import HandS.WordsDict
import HandS.Replace
import HandS.TupAny
import KE.GoesMore
import PyProof.EnumMake
import PySem.Challenge.RW_warycard_k51_whole_order_of_adding
set_option Elab.async false
set_option maxRecDepth 100000
set_option maxHeartbeats 4000000
namespace My
open PySem PySem.Spec PyProof.Rows L2
/-! ### readings -/
theorem OpR.imp' {X : Cx} {f : Value → Value → Sem Value} {r r' : R2} (h : OpR X f r) (i : ∀ x y H Q, r' x y H Q → r x y H Q) : OpR X f r' := fun pins s σ H x y u v Q I rx ry q => h pins s σ H x y u v Q I rx ry (i _ _ _ _ q)
theorem op_modP {X : Cx} : OpR X (binaryOp .Mod) (rI (fun _ j => 0 < j) fun i j => .int (i % j)) := OpR.imp' op_modN fun x y H Q ⟨i, j, e1, e2, hj, q⟩ => ⟨i, j, e1, e2, by have hj : 0 < j := hj; show j ≠ 0; omega, by
  have hj : 0 < j := hj
  have e : i.fmod j = i % j := Int.fmod_eq_emod_of_nonneg i (by omega)
  show Q (V.int (i.fmod j)) H
  rw [e]; exact q⟩
theorem rdSeq {t u : TS} {D : Ends} {σ : L2.St} {H : Hp} (h : t { D with nx := u D } σ H) : tSeq t u D σ H := h
/-- all that was tracked is kept but the list at a, which holds three ints -/
def Bag (H : Hp) (a : Addr) : Prop := ∃ x y z : Int, H a = some (.lst [.int x, .int y, .int z])
structure Mv (a : Addr) (H H' : Hp) : Prop where
  bag : Bag H' a
  old : ∀ b o, b ≠ a → H b = some o → H' b = some o
theorem Mv.refl {a : Addr} {H : Hp} (h : Bag H a) : Mv a H H := ⟨h, fun _ _ _ e => e⟩
theorem Mv.trans {a : Addr} {H H1 H2 : Hp} (h : Mv a H H1) (k : Mv a H1 H2) : Mv a H H2 := ⟨k.bag, fun b o n e => k.old b o n (h.old b o n e)⟩
theorem Mv.new {a p : Addr} {o : HO} {H H1 : Hp} (h : Mv a H H1) (n : H1 p = none) : Mv a H (upd H1 p o) := by
  obtain ⟨x, y, z, e⟩ := h.bag
  have ne : a ≠ p := fun q => by subst q; rw [n] at e; cases e
  exact ⟨⟨x, y, z, by rw [upd_ne ne]; exact e⟩, fun b u hb hu => by
    have := h.old b u hb hu
    rw [upd_ne (ne_of_none this n)]; exact this⟩
theorem Mv.ne {a p : Addr} {H H1 : Hp} (h : Mv a H H1) (n : H1 p = none) : p ≠ a := fun q => by
  obtain ⟨x, y, z, e⟩ := h.bag
  subst q; rw [n] at e; cases e
theorem Mv.free {a p : Addr} {H H1 : Hp} (h : Mv a H H1) (n : H1 p = none) : H p = none := by
  cases e : H p with
  | none => rfl
  | some o => rw [h.old p o (h.ne n) e] at n; cases n
theorem bag_ne {a p : Addr} {H : Hp} (h : Bag H a) (n : H p = none) : p ≠ a := fun q => by
  obtain ⟨x, y, z, e⟩ := h
  subst q; rw [n] at e; cases e
theorem sqL_of {K : PySem.W.Frag} {H : Hp} {a : Addr} {xs : List V} (h : H a = some (.lst xs)) : SqL K H a xs := .inl (.inl h)
theorem sqT_of {K : PySem.W.Frag} {H : Hp} {a : Addr} {xs : List V} (h : H a = some (.tup xs)) : SqT K H a xs := .inl (.inl h)
def rIntA : List V → Hp → VK → Prop := fun xs H Q => ∃ x, xs = [x] ∧ match x with
  | .int i => Q (.int i) H
  | .bl k => Q (.int (if k = true then 1 else 0)) H
  | _ => False
theorem call_intI {X : Cx} : CallR X (.type "int") rIntA := fun pins s σ H xs us Q I r ⟨x, e, q⟩ => by
  cases x with
  | int i => exact call_int1 pins s σ H xs us Q I r (.inl ⟨i, e, q⟩)
  | bl k => exact call_int1 pins s σ H xs us Q I r (.inr ⟨k, e, q⟩)
  | _ => exact False.elim q
/-- len of a list, of a tuple -/
def rLenL (K : PySem.W.Frag) : List V → Hp → VK → Prop := fun xs H Q => ∃ p ys, xs = [.ref p] ∧ SqL K H p ys ∧ Q (.int ys.length) H
def rLenT (K : PySem.W.Frag) : List V → Hp → VK → Prop := fun xs H Q => ∃ p ys, xs = [.ref p] ∧ SqT K H p ys ∧ Q (.int ys.length) H
theorem call_lenL {X : Cx} : CallR X (.builtin "len") (rLenL X.K) := fun pins s σ H xs us Q I r ⟨p, ys, e, h, q⟩ => call_len_seq pins s σ H xs us Q I r ⟨p, ys, e, .inl h, q⟩
theorem call_lenT {X : Cx} : CallR X (.builtin "len") (rLenT X.K) := fun pins s σ H xs us Q I r ⟨p, ys, e, h, q⟩ => call_len_seq pins s σ H xs us Q I r ⟨p, ys, e, .inr h, q⟩
theorem i_lenL {K : PySem.W.Frag} {H : Hp} {Q : VK} {p : Addr} {ys : List V} (h : SqL K H p ys) (q : Q (.int ys.length) H) : rLenL K [.ref p] H Q := ⟨p, ys, rfl, h, q⟩
theorem i_lenT {K : PySem.W.Frag} {H : Hp} {Q : VK} {p : Addr} {ys : List V} (h : SqT K H p ys) (q : Q (.int ys.length) H) : rLenT K [.ref p] H Q := ⟨p, ys, rfl, h, q⟩
theorem i_ixL {K : PySem.W.Frag} {H : Hp} {Q : VK} {p : Addr} {xs : List V} {i : Int} {v : V} (h : SqL K H p xs) (e : atI xs i = some v) (q : Q v H) : rIxL K (.ref p) (.int i) H Q := ⟨p, xs, i, v, rfl, rfl, h, e, q⟩
theorem i_ixT {K : PySem.W.Frag} {H : Hp} {Q : VK} {p : Addr} {xs : List V} {i : Int} {v : V} (h : SqT K H p xs) (e : atI xs i = some v) (q : Q v H) : rIxT K (.ref p) (.int i) H Q := ⟨p, xs, i, v, rfl, rfl, h, e, q⟩
theorem i_setL {H : Hp} {p : Addr} {xs : List V} {i : Int} {j : Nat} {v : V} {Q : Hp → Prop} (h : H p = some (.lst xs)) (e : ixN xs.length i = some j) (q : Q (upd H p (.lst (xs.set j v)))) : rSetL (.ref p) (.int i) v H Q := ⟨p, xs, i, j, rfl, rfl, h, e, q⟩
theorem i_lst {H : Hp} {xs : List V} {Q : VK} (hl : xs.length ≤ sizeLine) (q : ∀ p, H p = none → Q (.ref p) (upd H p (.lst xs))) : xs.length ≤ sizeLine ∧ ∀ p, H p = none → Q (.ref p) (upd H p (.lst xs)) := ⟨hl, q⟩
/-- an item at a drawn place of a written list -/
theorem at_of {α : Type} {xs : List α} {i : Int} (h0 : 0 ≤ i) (h1 : i < xs.length) : ∃ v, atI xs i = some v ∧ v ∈ xs := by
  obtain ⟨j, rfl⟩ := Int.eq_ofNat_of_zero_le h0
  have hi : j < xs.length := by omega
  exact ⟨xs[j], atI_nat (List.getElem?_eq_getElem hi), List.getElem_mem hi⟩
theorem pow18 : CPow 10 18 := ⟨by decide, by decide, by decide⟩
theorem cm_r {i j : Int} (h : decide (-(2 ^ 64) < j) && decide (j < 2 ^ 64) = true) : CMul i j := by
  simp only [Bool.and_eq_true, decide_eq_true_eq] at h
  exact .inr h
theorem cm_l {i j : Int} (h : decide (-(2 ^ 64) < i) && decide (i < 2 ^ 64) = true) : CMul i j := by
  simp only [Bool.and_eq_true, decide_eq_true_eq] at h
  exact .inl h
theorem i_isi {K : PySem.W.Frag} {H : Hp} {Q : VK} {x : V} {t c : String} {b : Bool} (ty : TyX K H x (.type t)) (hk : kitB t c = some b) (q : Q (.bl b) H) : rIsi K [x, .ty c] H Q := ⟨x, .ty c, .type t, .type c, b, rfl, .ty c, ty, kit_ty hk, q⟩
theorem ty_int {K : PySem.W.Frag} {H : Hp} {i : Int} : TyX K H (.int i) (.type "int") := .base (.int _)
theorem ty_bl {K : PySem.W.Frag} {H : Hp} {i : Bool} : TyX K H (.bl i) (.type "bool") := .base (.bl _)
theorem ty_str {K : PySem.W.Frag} {H : Hp} {i : Str} : TyX K H (.str i) (.type "str") := .base (.str _)
theorem ty_non {K : PySem.W.Frag} {H : Hp} : TyX K H .non (.type "NoneType") := .base .non
theorem kb_ii : kitB "int" "int" = some true := by decide +kernel
theorem kb_bi : kitB "bool" "int" = some true := by decide +kernel
theorem kb_ib : kitB "int" "bool" = some false := by decide +kernel
theorem kb_bb : kitB "bool" "bool" = some true := by decide +kernel
theorem pow17 : CPow 10 17 := ⟨by decide, by decide, by decide⟩
/-- for over range(n) -/
def rForR (lo : Int) (n : Nat) (g : TG) (tb : TS) : TS := fun D σ H => ∃ W : Nat → Nat → L2.St → Hp → Prop, (∃ m, W 0 m σ H) ∧ ∀ i m σ H, W i m σ H →
  ((Itr lo n).stop i H ∧ D.nx σ H) ∨ ((Itr lo n).go i H ∧ ∃ Nx : L2.St → Hp → Prop, (∀ σ' H', Nx σ' H' → ∃ m', m' < m ∧ W (i + 1) m' σ' H') ∧ ∀ x H', (Itr lo n).yld i H x H' → g x σ H' fun σ2 H2 => tb { D with nx := Nx, ct := Nx, bk := D.nx } σ2 H2)
theorem i_forR1 {ta : TA} {g : TG} {tb : TS} {D : Ends} {σ : L2.St} {H : Hp} (h : ta σ H fun vs H1 => ∃ j : Int, vs = [.int j] ∧ -(2 ^ 62) ≤ j ∧ j < 2 ^ 62 ∧ rForR 0 j.toNat g tb D σ H1) : tFor (iRng1 ta) g tb D σ H := h
theorem i_forR2 {ta : TA} {g : TG} {tb : TS} {D : Ends} {σ : L2.St} {H : Hp} (h : ta σ H fun vs H1 => ∃ i j : Int, vs = [.int i, .int j] ∧ (-(2 ^ 62) ≤ i ∧ i < 2 ^ 62 ∧ -(2 ^ 62) ≤ j ∧ j < 2 ^ 62) ∧ rForR i (j - i).toNat g tb D σ H1) : tFor (iRng2 ta) g tb D σ H := h
theorem i_loopR {lo : Int} {n : Nat} {j : Nat} {tb : TS} {D : Ends} {σ : L2.St} {H : Hp} (Pv : Nat → L2.St → Hp → Prop) (h0 : Pv 0 σ H)
    (hs : ∀ (i : Nat) σ H, i < n → Pv i σ H → tb { D with nx := Pv (i + 1), ct := Pv (i + 1), bk := D.nx } (σ.set j (some (.int (lo + i)))) H) (hd : ∀ σ H, Pv n σ H → D.nx σ H) : rForR lo n (gName j) tb D σ H := for_range Pv h0 hs hd
theorem i_else {c A B : Prop} [Decidable c] (h : ¬ c) (b : B) : if c then A else B := by rw [if_neg h]; exact b
theorem i_then {c A B : Prop} [Decidable c] (h : c) (a : A) : if c then A else B := by rw [if_pos h]; exact a
/-- two ways that meet -/
theorem i_both {c A B T : Prop} [Decidable c] (t : T) (h1 : c → T → A) (h2 : ¬ c → T → B) : if c then A else B := ite2 (fun h => h1 h t) (fun h => h2 h t)
theorem ty_tup {K : PySem.W.Frag} {H : Hp} {p : Addr} {xs : List V} (h : H p = some (.tup xs)) : TyX K H (.ref p) (.type "tuple") := .base (.tup h)
theorem ty_lst {K : PySem.W.Frag} {H : Hp} {p : Addr} {xs : List V} (h : H p = some (.lst xs)) : TyX K H (.ref p) (.type "list") := .base (.lst h)
theorem kb_ni : kitB "NoneType" "int" = some false := by decide +kernel
theorem kb_si : kitB "str" "int" = some false := by decide +kernel
theorem kb_li : kitB "list" "int" = some false := by decide +kernel
theorem kb_ti : kitB "tuple" "int" = some false := by decide +kernel
theorem kb_di : kitB "dict" "int" = some false := by decide +kernel
/-! ### loops by what is walked -/
def rForJ (J : It) (g : TG) (tb : TS) : TS := fun D σ H => ∃ W : Nat → Nat → L2.St → Hp → Prop, (∃ m, W 0 m σ H) ∧ ∀ i m σ H, W i m σ H →
  (J.stop i H ∧ D.nx σ H) ∨ (J.go i H ∧ ∃ Nx : L2.St → Hp → Prop, (∀ σ' H', Nx σ' H' → ∃ m', m' < m ∧ W (i + 1) m' σ' H') ∧ ∀ x H', J.yld i H x H' → g x σ H' fun σ2 H2 => tb { D with nx := Nx, ct := Nx, bk := D.nx } σ2 H2)
theorem tFor_J {wi : TI} {g : TG} {tb : TS} {D : Ends} {σ : L2.St} {H : Hp} : tFor wi g tb D σ H = wi σ H fun J H1 => rForJ J g tb D σ H1 := rfl
def rLcJ (J : It) (g : TG) (tt : TT) (te : TE) (vs : List Nat) : TE := fun σ H1 Q => ∀ D, H1 D = none → ∃ W : Nat → Nat → Hp → Prop, (∃ m, W 0 m (upd H1 D (.lst []))) ∧ ∀ i m H, W i m H →
  (J.stop i H ∧ Q (.ref D) H) ∨ (J.go i H ∧ ∃ Nx : Hp → Prop, (∀ H', Nx H' → ∃ m', m' < m ∧ W (i + 1) m' H') ∧ ∀ x H', J.yld i H x H' → g x (wipe σ vs) H' fun σ2 H2 => wipe σ2 vs = wipe σ vs ∧ tt σ2 H2 fun b H3 =>
    if b = true then te σ2 H3 fun y H4 => ∃ acc, H4 D = some (.lst acc) ∧ acc.length < sizeLine ∧ Nx (upd H4 D (.lst (acc ++ [y]))) else Nx H3)
theorem tLc_J {wi : TI} {g : TG} {tt : TT} {te : TE} {vs : List Nat} {σ : L2.St} {H : Hp} {Q : VK} : tLc wi g tt te vs σ H Q = wi σ H fun J H1 => rLcJ J g tt te vs σ H1 Q := rfl
theorem i_for {J : It} {n : Nat} {G : Hp → Prop} {Y : Nat → Hp → V → Hp → Prop} (w : Walk J n G Y) {j : Nat} {tb : TS} {D : Ends} {σ : L2.St} {H : Hp} (Pv : Nat → L2.St → Hp → Prop) (h0 : Pv 0 σ H) (hG : ∀ i σ H, i ≤ n → Pv i σ H → G H)
    (hs : ∀ i x σ H H', i < n → Pv i σ H → Y i H x H' → tb { D with nx := Pv (i + 1), ct := Pv (i + 1), bk := D.nx } (σ.set j (some x)) H') (hd : ∀ σ H, Pv n σ H → D.nx σ H) : rForJ J (gName j) tb D σ H := for_it w Pv h0 hG hs hd
theorem wipe_one {σ : L2.St} {j : Nat} {x : V} : wipe ((wipe σ [j]).set j (some x)) [j] = wipe σ [j] := by
  show ((σ.set j none).set j (some x)).set j none = σ.set j none
  rw [List.set_set, List.set_set]
def YL {α : Type} (l : List α) (r : α → V) : Nat → Hp → V → Hp → Prop := fun i H v H' => H' = H ∧ ∃ c, l[i]? = some c ∧ v = r c
/-- [e for x in ..], e without an effect -/
theorem i_lcL {α : Type} {J : It} {l : List α} {r : α → V} {G : Hp → Prop} (w : Walk J l.length G (YL l r)) {j : Nat} {te : TE} {σ : L2.St} {H : Hp} {Q : VK} (g : α → V) (hn : l.length < sizeLine) (hG : ∀ D ys, H D = none → G (upd H D (.lst ys)))
    (hs : ∀ c ∈ l, ∀ H1 (Q' : VK), Same H H1 → Q' (g c) H1 → te ((wipe σ [j]).set j (some (r c))) H1 Q') (q : ∀ D, H D = none → Q (.ref D) (upd H D (.lst (l.map g)))) : rLcJ J (gName j) tYes te [j] σ H Q := by
  intro D hD
  refine lc_it w (fun i H' => H' = upd H D (.lst ((l.take i).map g))) rfl (fun i H' _ e => by subst e; exact hG D _ hD) (fun i x H1 H2 hi e y => ?_) (fun H' e => by subst e; rw [List.take_length]; exact q D hD)
  obtain ⟨e2, c, hc, rfl⟩ := y
  subst e2
  refine ⟨wipe_one, hs c (List.mem_of_getElem? hc) H2 (fun y H4 => ∃ acc, H4 D = some (.lst acc) ∧ acc.length < sizeLine ∧ upd H4 D (.lst (acc ++ [y])) = upd H D (.lst ((l.take (i + 1)).map g))) (by subst e; intro b o h; rw [upd_ne (ne_of_none h hD)]; exact h) ?_⟩
  subst e
  refine ⟨_, upd_same, by rw [List.length_map, List.length_take]; omega, ?_⟩
  rw [upd_upd, List.take_add_one, hc, List.map_append]; rfl
/-- for x in ..: if not p: return False -/
theorem i_forall {α : Type} {J : It} {l : List α} {r : α → V} {G : Hp → Prop} (w : Walk J l.length G (YL l r)) {j : Nat} {tb : TS} {D : Ends} {σ : L2.St} {H : Hp} (p : α → Bool) (v : V) (hG : G H)
    (hs : ∀ c ∈ l, ∀ D' : Ends, (p c = true → D'.nx (σ.set j (some (r c))) H) → (p c = false → D'.rt v H) → tb D' (σ.set j (some (r c))) H) (h1 : l.all p = true → D.nx σ H ∧ ∀ u, D.nx (σ.set j u) H) (h2 : l.all p = false → D.rt v H) : rForJ J (gName j) tb D σ H := by
  refine i_for w (fun i σ' H' => H' = H ∧ (σ' = σ ∨ ∃ u, σ' = σ.set j u) ∧ ∀ c ∈ l.take i, p c = true) ⟨rfl, .inl rfl, by simp⟩ (fun i σ' H' _ h => by rw [h.1]; exact hG) ?_ ?_
  · rintro i x σ' H' H2 hi ⟨rfl, hσ, hp⟩ ⟨rfl, c, hc, rfl⟩
    have hm := List.mem_of_getElem? hc
    have es : σ'.set j (some (r c)) = σ.set j (some (r c)) := by
      rcases hσ with rfl | ⟨u, rfl⟩
      · rfl
      · rw [List.set_set]
    rw [es]
    refine hs c hm _ (fun hpc => ⟨rfl, .inr ⟨_, rfl⟩, fun d hd => ?_⟩) (fun hpc => h2 ?_)
    · rw [List.take_add_one, hc] at hd
      rcases List.mem_append.mp hd with h | h
      · exact hp d h
      · rw [List.mem_singleton.mp h]; exact hpc
    · rw [List.all_eq_false]
      exact ⟨c, hm, by rw [hpc]; simp⟩
  · rintro σ' H' ⟨rfl, hσ, hp⟩
    rw [List.take_length] at hp
    have h := h1 (List.all_eq_true.mpr hp)
    rcases hσ with rfl | ⟨u, rfl⟩
    · exact h.1
    · exact h.2 u
/-- [e for x in ..], e draws from the bag at a -/
theorem i_lcD {J : It} {n : Nat} {G : Hp → Prop} {Y : Nat → Hp → V → Hp → Prop} (w : Walk J n G Y) {a : Addr} {j : Nat} {te : TE} {σ : L2.St} {H : Hp} {Q : VK} (hB : Bag H a) (P : V → Prop) (hn : n < sizeLine) (hG : ∀ H', Mv a H H' → G H') (hY : ∀ i H x H', Y i H x H' → H' = H)
    (hs : ∀ i x H1 (Q' : VK), i < n → Y i H1 x H1 → Mv a H H1 → (∀ y H2, P y → Mv a H1 H2 → Q' y H2) → te ((wipe σ [j]).set j (some x)) H1 Q') (q : ∀ D H' ys, H D = none → Mv a H H' → H' D = some (.lst ys) → ys.length = n → (∀ y ∈ ys, P y) → Q (.ref D) H') : rLcJ J (gName j) tYes te [j] σ H Q := by
  intro D hD
  have nD := bag_ne hB hD
  refine lc_it w (fun i H' => Mv a H H' ∧ ∃ ys, H' D = some (.lst ys) ∧ ys.length = i ∧ ∀ y ∈ ys, P y) ⟨(Mv.refl hB).new hD, [], upd_same, rfl, fun _ h => nomatch h⟩ (fun i H' _ e => hG H' e.1) (fun i x H1 H2 hi e y => ?_) (fun H' e => ?_)
  · have e2 := hY i H1 x H2 y
    subst e2
    obtain ⟨mv, ys, e1, e2, e3⟩ := e
    refine ⟨wipe_one, hs i x H2 (fun y H4 => ∃ acc, H4 D = some (.lst acc) ∧ acc.length < sizeLine ∧ (Mv a H (upd H4 D (.lst (acc ++ [y]))) ∧ ∃ ys, upd H4 D (.lst (acc ++ [y])) D = some (.lst ys) ∧ ys.length = i + 1 ∧ ∀ y ∈ ys, P y)) hi y mv fun v H3 hv mv3 => ?_⟩
    refine ⟨ys, mv3.old D _ nD e1, by omega, ?_⟩
    have m3 := mv.trans mv3
    refine ⟨⟨?_, fun b o hb e => ?_⟩, ys ++ [v], upd_same, by simp [e2], fun y hy => ?_⟩
    · obtain ⟨x1, x2, x3, hx⟩ := m3.bag
      exact ⟨x1, x2, x3, by rw [upd_ne nD.symm]; exact hx⟩
    · rw [upd_ne (ne_of_none e hD)]; exact m3.old b o hb e
    · rcases List.mem_append.mp hy with h | h
      · exact e3 y h
      · rw [List.mem_singleton.mp h]; exact hv
  · obtain ⟨mv, ys, e1, e2, e3⟩ := e
    exact q D H' ys hD mv e1 e2 e3
theorem rdCut {t u : TS} {D : Ends} {σ : L2.St} {H : Hp} (Mid : L2.St → Hp → Prop) (h : t { D with nx := Mid } σ H) (k : ∀ σ' H', Mid σ' H' → u D σ' H') : C8.tCut t u D σ H := ⟨Mid, h, k⟩
theorem pow9 : CPow 10 9 := ⟨by decide, by decide, by decide⟩
theorem pow8 : CPow 10 8 := ⟨by decide, by decide, by decide⟩
theorem pow12 : CPow 10 12 := ⟨by decide, by decide, by decide⟩
theorem walk_rangeL {lo : Int} {n : Nat} : Walk (Itr lo n) (List.range n).length (fun _ => True) (YL (List.range n) fun i => .int (lo + i)) := by
  rw [List.length_range]
  exact walk_range.mono (fun _ h => h) fun i H x H' hi _ y => ⟨y.1, i, by rw [List.getElem?_range hi], y.2⟩
theorem i_app {H : Hp} {l : Addr} {xs : List V} {v : V} {Q : VK} (h : H l = some (.lst xs)) (hz : xs.length < sizeLine) (q : Q .non (upd H l (.lst (xs ++ [v])))) : rAppend (.ref l) [v] H Q := ⟨l, xs, v, rfl, rfl, h, hz, q⟩
theorem ty_app {K : PySem.W.Frag} {H : Hp} {l : Addr} {xs : List V} (h : SqL K H l xs) : tyV K "list" (.ref l) H := .inl ⟨rfl, xs, h⟩
theorem i_slL {K : PySem.W.Frag} {H : Hp} {a : Addr} {xs : List V} {lo hi : Option Int} {Q : VK} (h : SqL K H a xs) (q : ∀ p, H p = none → Q (.ref p) (upd H p (.lst (cutV xs lo hi)))) : rSlL K (.ref a) lo hi H Q := ⟨a, xs, rfl, h, q⟩
theorem i_cat {H : Hp} {l b : Addr} {xs zs : List V} {Q : VK} (h1 : H l = some (.lst xs)) (h2 : H b = some (.lst zs)) (hz : xs.length + zs.length ≤ sizeLine) (q : ∀ p, H p = none → Q (.ref p) (upd H p (.lst (xs ++ zs)))) : rCat (.ref l) (.ref b) H Q := ⟨l, b, xs, zs, rfl, rfl, h1, h2, hz, q⟩
theorem i_inL {K : PySem.W.Frag} {neg : Bool} {x : V} {H : Hp} {p : Addr} {xs : List V} {Q : VK} (h : SqL K H p xs ∨ SqT K H p xs) (h1 : flatV x = true) (h2 : xs.all flatV = true) (q : Q (.bl (if neg then !inV x xs else inV x xs)) H) : rIn K neg x (.ref p) H Q := ⟨p, xs, rfl, h, h1, h2, q⟩
theorem cut_take {xs : List V} {n : Nat} : cutV xs none (some (n : Int)) = xs.take n := by
  unfold cutV
  rw [HT.sIx_none, HT.sIx_nat]
  simp only [List.drop_zero, Nat.sub_zero]
  rw [Nat.min_comm, ← List.take_take, List.take_of_length_le (by rw [List.length_take]; omega)]
theorem cut_drop {xs : List V} {n : Nat} : cutV xs (some (n : Int)) none = xs.drop n := by
  unfold cutV
  rw [HT.sIx_none, HT.sIx_nat]
  by_cases h : n ≤ xs.length
  · rw [Nat.min_eq_left h, List.take_of_length_le (by rw [List.length_drop]; omega)]
  · rw [Nat.min_eq_right (by omega), List.drop_of_length_le (by omega), List.drop_of_length_le (by omega)]; simp
theorem line5 {n : Nat} (h : n ≤ 100000) : n ≤ sizeLine := Nat.le_trans h (by decide)
theorem line5' {n : Nat} (h : n ≤ 100000) : n < sizeLine := Nat.lt_of_le_of_lt h (by decide)
/-! ### the same rules with the written part named (for a comprehension's block) -/
theorem ix_listK (K : PySem.W.Frag) {X : Cx} (h : X.K = K := by rfl) : IxR X (rIxL K) := h ▸ ix_list
theorem ix_tupK (K : PySem.W.Frag) {X : Cx} (h : X.K = K := by rfl) : IxR X (rIxT K) := h ▸ ix_tup
theorem sl_listK (K : PySem.W.Frag) {X : Cx} (h : X.K = K := by rfl) : SlR X (rSlL K) := h ▸ sl_list
theorem sl_tupK (K : PySem.W.Frag) {X : Cx} (h : X.K = K := by rfl) : SlR X (rSlT K) := h ▸ sl_tup
theorem lenLK (K : PySem.W.Frag) {X : Cx} (h : X.K = K := by rfl) : CallR X (.builtin "len") (rLenL K) := h ▸ call_lenL
theorem lenTK (K : PySem.W.Frag) {X : Cx} (h : X.K = K := by rfl) : CallR X (.builtin "len") (rLenT K) := h ▸ call_lenT
theorem isiK (K : PySem.W.Frag) {X : Cx} (h : X.K = K := by rfl) : CallR X (.builtin "isinstance") (rIsi K) := h ▸ call_isi
theorem isiTK (K : PySem.W.Frag) {X : Cx} (h : X.K = K := by rfl) : CallR X (.builtin "isinstance") (rIsiT K) := h ▸ call_isiT
theorem in_seqK (K : PySem.W.Frag) {X : Cx} (h : X.K = K := by rfl) : OpR X (compareOp .In) (rIn K false) := h ▸ op_in_seq
theorem notIn_seqK (K : PySem.W.Frag) {X : Cx} (h : X.K = K := by rfl) : OpR X (compareOp .NotIn) (rIn K true) := h ▸ op_notIn_seq
theorem i_indexS {K : PySem.W.Frag} {H : Hp} {Q : VK} {p : Addr} {l : List Str} {s : Str} {j : Nat} (h : SqL K H p (l.map V.str)) (hj : l[j]? = some s) (hn : s ∉ l.take j) (q : Q (.int (j : Nat)) H) : rIndex K (.ref p) [.str s] H Q := by
  refine ⟨p, _, .str s, j, .str s, rfl, rfl, h, rfl, ?_, by rw [List.getElem?_map, hj]; rfl, by simp [eqV], ?_, q⟩
  · rw [List.all_map, List.all_eq_true]; intro x _; rfl
  · intro m z hm hz
    rw [List.getElem?_map] at hz
    cases e : l[m]? with
    | none => rw [e] at hz; cases hz
    | some t =>
      rw [e] at hz
      have hz : V.str t = z := Option.some.inj hz
      subst hz
      show (t == s) = false
      rw [beq_eq_false_iff_ne]
      intro et; subst et
      exact hn (List.mem_of_getElem? (by rw [List.getElem?_take_of_lt hm]; exact e))
theorem walk_listL {K : PySem.W.Frag} {a : Addr} {α : Type} {l : List α} {r : α → V} : Walk (Itl K a) l.length (fun H => SqL K H a (l.map r)) (YL l r) := by
  have w := walk_list (K := K) (a := a) (xs := l.map r)
  rw [List.length_map] at w
  exact w.mono (fun _ h => h) fun i H x H' hi _ y => ⟨y.1, l[i], List.getElem?_eq_getElem hi, by
    have := y.2
    rw [List.getElem?_map, List.getElem?_eq_getElem hi] at this
    exact (Option.some.inj this).symm⟩
theorem walk_tupL {K : PySem.W.Frag} {a : Addr} {α : Type} {l : List α} {r : α → V} : Walk (Itt K a) l.length (fun H => SqT K H a (l.map r)) (YL l r) := by
  have w := walk_tup (K := K) (a := a) (xs := l.map r)
  rw [List.length_map] at w
  exact w.mono (fun _ h => h) fun i H x H' hi _ y => ⟨y.1, l[i], List.getElem?_eq_getElem hi, by
    have := y.2
    rw [List.getElem?_map, List.getElem?_eq_getElem hi] at this
    exact (Option.some.inj this).symm⟩
theorem dpStrs {K : PySem.W.Frag} {H : Hp} : ∀ l : List Str, DpAll K H (l.map V.str) (l.map PyData.str)
  | [] => .nil
  | x :: l => .cons (.str x) (dpStrs l)
theorem dpInts {K : PySem.W.Frag} {H : Hp} : ∀ l : List Int, DpAll K H (l.map V.int) (l.map PyData.int)
  | [] => .nil
  | x :: l => .cons (.int x) (dpInts l)
theorem kb_tt : kitB "tuple" "tuple" = some true := by decide +kernel
theorem pow15 : CPow 10 15 := ⟨by decide, by decide, by decide⟩
theorem sc_ii {a b : Int} : scal (.int a) (.int b) = true := rfl
theorem sc_ss {a b : Str} : scal (.str a) (.str b) = true := rfl
theorem sc_bb {a b : Bool} : scal (.bl a) (.bl b) = true := rfl
theorem sc_in {a : Int} : scal (.int a) .non = true := rfl
theorem sc_ni {a : Int} : scal .non (.int a) = true := rfl
theorem sc_nn : scal .non .non = true := rfl
theorem sc_is {a : Int} {b : Str} : scal (.int a) (.str b) = true := rfl
theorem sc_si {a : Int} {b : Str} : scal (.str b) (.int a) = true := rfl
theorem sc_ns {b : Str} : scal .non (.str b) = true := rfl
theorem sc_sn {b : Str} : scal (.str b) .non = true := rfl
theorem sc_bn {b : Bool} : scal (.bl b) .non = true := rfl
theorem sc_nb {b : Bool} : scal .non (.bl b) = true := rfl
theorem sc_sb {b : Bool} {a : Str} : scal (.str a) (.bl b) = true := rfl
theorem sc_bs {b : Bool} {a : Str} : scal (.bl b) (.str a) = true := rfl
/-- a new list at p, all else kept -/
structure NewL (H H' : Hp) (p : Addr) (xs : List V) : Prop where
  free : H p = none
  same : Same H H'
  at_ : H' p = some (.lst xs)
theorem NewL.sq {K : PySem.W.Frag} {H H' : Hp} {p : Addr} {xs : List V} (n : NewL H H' p xs) : SqL K H' p xs := sqL_of n.at_
theorem NewL.set {H H' : Hp} {p : Addr} {xs ys : List V} (n : NewL H H' p xs) : NewL H (upd H' p (.lst ys)) p ys := ⟨n.free, fun b o e => by rw [upd_ne (ne_of_none e n.free)]; exact n.same b o e, upd_same⟩
theorem NewL.more {H H' H2 : Hp} {p : Addr} {xs : List V} (n : NewL H H' p xs) (s : Same H' H2) : NewL H H2 p xs := ⟨n.free, n.same.trans s, s _ _ n.at_⟩
theorem same_new {H : Hp} {p : Addr} {o : HO} (n : H p = none) : Same H (upd H p o) := fun b u e => by rw [upd_ne (ne_of_none e n)]; exact e
theorem cut_all {xs : List V} : cutV xs (some 0) none = xs := cut_drop (n := 0)
theorem pow14 : CPow 10 14 := ⟨by decide, by decide, by decide⟩
theorem ixN_of {n j : Nat} (h : j < n) : ixN n (j : Int) = some j := by
  unfold ixN
  rw [if_pos (by omega), if_pos (by omega)]; simp

/-! ### texts -/
def chr1 (c : Nat) : Str := ⟨#[c]⟩
def rLeC : R2 := fun x y H Q => ∃ c d, x = .str ⟨#[c]⟩ ∧ y = .str ⟨#[d]⟩ ∧ Q (.bl (decide (c ≤ d))) H
theorem op_leC {X : Cx} : OpR X (compareOp .LtE) rLeC := OpR.imp' op_le_str fun x y H Q ⟨c, d, e1, e2, q⟩ => ⟨⟨#[c]⟩, ⟨#[d]⟩, e1, e2, by
  have e : (!decide ((⟨#[d]⟩ : Str).cps.toList < (⟨#[c]⟩ : Str).cps.toList)) = decide (c ≤ d) := by
    show (!decide ([d] < [c])) = decide (c ≤ d)
    have h : ([d] < [c]) ↔ d < c := by
      rw [List.cons_lt_cons_iff]
      constructor
      · rintro (h | ⟨_, h⟩)
        · exact h
        · exact absurd h (by simp)
      · exact fun h => .inl h
    by_cases hc : c ≤ d
    · have : ¬ ([d] < [c]) := fun k => by have := h.mp k; omega
      rw [decide_eq_true hc, decide_eq_false this]; rfl
    · have : [d] < [c] := h.mpr (by omega)
      rw [decide_eq_false hc, decide_eq_true this]; rfl
  show Q (V.bl _) H
  rw [e]; exact q⟩
theorem i_leC {x y : V} {c d : Nat} {H : Hp} {Q : VK} (e1 : x = .str ⟨#[c]⟩) (e2 : y = .str ⟨#[d]⟩) (q : Q (.bl (decide (c ≤ d))) H) : rLeC x y H Q := ⟨c, d, e1, e2, q⟩
def rOrdC : List V → Hp → VK → Prop := fun xs H Q => ∃ c : Nat, xs = [.str ⟨#[c]⟩] ∧ Q (.int c) H
theorem call_ordC {X : Cx} : CallR X (.builtin "ord") rOrdC := fun pins s σ H xs us Q I r ⟨c, e, q⟩ => call_ord pins s σ H xs us Q I r ⟨⟨#[c]⟩, e, rfl, q⟩
theorem i_ordC {x : V} {c : Nat} {H : Hp} {Q : VK} (e1 : x = .str ⟨#[c]⟩) (q : Q (.int c) H) : rOrdC [x] H Q := ⟨c, by rw [e1], q⟩
def rInC (neg : Bool) : R2 := fun x y H Q => ∃ (c : Nat) (z : Str), x = .str ⟨#[c]⟩ ∧ y = .str z ∧ Q (.bl (if neg then !decide (c ∈ z.cps.toList) else decide (c ∈ z.cps.toList))) H
theorem op_inC {X : Cx} : OpR X (compareOp .In) (rInC false) := op_in_sign
theorem op_notInC {X : Cx} : OpR X (compareOp .NotIn) (rInC true) := op_notIn_sign
theorem i_inC {x y : V} {neg : Bool} {c : Nat} {z : Str} {H : Hp} {Q : VK} (e1 : x = .str ⟨#[c]⟩) (e2 : y = .str z) (q : Q (.bl (if neg then !decide (c ∈ z.cps.toList) else decide (c ∈ z.cps.toList))) H) : rInC neg x y H Q := ⟨c, z, e1, e2, q⟩
def rLenS' : List V → Hp → VK → Prop := fun xs H Q => ∃ z : Str, xs = [.str z] ∧ z.length ≤ sizeLine ∧ Q (.int z.length) H
theorem call_lenS {X : Cx} : CallR X (.builtin "len") rLenS' := call_len_str
theorem i_lenS {x : V} {z : Str} {H : Hp} {Q : VK} (e1 : x = .str z) (hz : z.length ≤ sizeLine) (q : Q (.int z.length) H) : rLenS' [x] H Q := ⟨z, by rw [e1], hz, q⟩
theorem i_ixS {z : Str} {i : Int} {c : Nat} {H : Hp} {Q : VK} (hz : z.length ≤ sizeLine) (e : atI z.cps.toList i = some c) (q : Q (.str ⟨#[c]⟩) H) : rIxS (.str z) (.int i) H Q := ⟨z, i, c, rfl, rfl, hz, e, q⟩
/-- a sign at a drawn place -/
theorem at_chr {z : Str} {i : Int} (h0 : 0 ≤ i) (h1 : i < z.length) : ∃ c, atI z.cps.toList i = some c ∧ c ∈ z.cps.toList := at_of h0 (by rw [Array.length_toList]; exact h1)
theorem walk_chars {z : Str} : Walk (Its z) z.cps.toList.length (fun _ => True) (YL z.cps.toList fun c => .str ⟨#[c]⟩) := by
  rw [Array.length_toList]
  exact walk_str.mono (fun _ h => h) fun i H x H' _ _ ⟨e, c, h, hv⟩ => ⟨e, c, by rw [Array.getElem?_toList]; exact h, hv⟩
def rJoin (K : PySem.W.Frag) : V → List V → Hp → VK → Prop := fun x xs H Q => ∃ a p, ∃ ys : List Str, x = .str a ∧ xs = [.ref p] ∧ (SqL K H p (ys.map V.str) ∨ SqT K H p (ys.map V.str)) ∧
      (ys.map (·.length)).sum + ys.length * a.length ≤ 16777216 ∧ Q (.str (Txt.join a ys)) H
theorem pe_joinR {X : Cx} {o e : Expr} {to te : TE} {apos pos : Pos} (ho : PE X o to) (he : PE X e te) (hs : starEach [e] X.env = [(false, eval e X.env)] := by rfl) (hbase : attributeBase o "join" X.env (eval o X.env) = eval o X.env := by rfl) (hline : (apos.endLine == pos.line) = true := by rfl) :
    PE X (.Call (.Attribute o "join" apos) [e] [] pos) (tM1 (rJoin X.K) to te) := pe_join ho he hs hbase hline
theorem kb_ss : kitB "str" "str" = some true := by decide +kernel
theorem kb_bs : kitB "bool" "str" = some false := by decide +kernel
theorem kb_ns : kitB "NoneType" "str" = some false := by decide +kernel
theorem kb_is : kitB "int" "str" = some false := by decide +kernel
theorem kb_ls : kitB "list" "str" = some false := by decide +kernel
theorem kb_ts : kitB "tuple" "str" = some false := by decide +kernel
theorem kb_ds : kitB "dict" "str" = some false := by decide +kernel
theorem i_all {K : PySem.W.Frag} {H : Hp} {Q : VK} {p : Addr} {bs : List Bool} (h : H p = some (.lst (bs.map V.bl))) (q : Q (.bl (bs.all id)) H) : rAll K [.ref p] H Q := ⟨p, bs, rfl, sqL_of h, q⟩
theorem strs_of {P : Str → Prop} : ∀ {ys : List V}, (∀ y ∈ ys, ∃ s, y = .str s ∧ P s) → ∃ zs : List Str, ys = zs.map V.str ∧ ∀ s ∈ zs, P s
  | [], _ => ⟨[], rfl, fun _ h => nomatch h⟩
  | y :: ys, h => by
    obtain ⟨s, rfl, hs⟩ := h y List.mem_cons_self
    obtain ⟨zs, rfl, hz⟩ := strs_of (ys := ys) fun y hy => h y (List.mem_cons_of_mem _ hy)
    exact ⟨s :: zs, rfl, fun t ht => by
      rcases List.mem_cons.mp ht with rfl | ht
      · exact hs
      · exact hz t ht⟩
theorem joinL_nil : ∀ ps : List (List Nat), TL.joinL [] ps = ps.flatten
  | [] => rfl
  | [p] => by simp [TL.joinL]
  | p :: q :: r => by
    show p ++ ([] ++ TL.joinL [] (q :: r)) = _
    rw [joinL_nil (q :: r)]; simp
theorem join_cl (ys : List Str) : (Txt.join Str.empty ys).cps.toList = (ys.map fun s => s.cps.toList).flatten := by
  rw [TL.join_eq]
  have e := TL.tl_join Str.empty ys
  have e2 : TL.tl Str.empty = [] := rfl
  rw [e2, joinL_nil] at e
  exact e
theorem cl_append (a b : Str) : (a ++ b).cps.toList = a.cps.toList ++ b.cps.toList := TL.tl_append a b
theorem cl_length (a : Str) : a.cps.toList.length = a.length := Array.length_toList
theorem len_append (a b : Str) : (a ++ b).length = a.length + b.length := by rw [← cl_length, cl_append, List.length_append, cl_length, cl_length]
theorem mem_cut {z : Str} {lo hi : Option Int} {c : Nat} (h : c ∈ (cutS z lo hi).cps.toList) : c ∈ z.cps.toList := by
  unfold cutS at h
  exact List.mem_of_mem_drop (List.mem_of_mem_take (by simpa using h))
theorem i_slS {z : Str} {lo hi : Option Int} {H : Hp} {Q : VK} (hz : z.length ≤ sizeLine) (q : Q (.str (cutS z lo hi)) H) : rSlS (.str z) lo hi H Q := ⟨z, rfl, hz, q⟩

/-! ### fields, methods and exceptions, the written part named -/
section
variable {X : Cx} {K : PySem.W.Frag}
theorem pe_fldK (K : PySem.W.Frag) {e : Expr} {ta : TE} {f : Str} {pos : Pos} (he : PE X e ta) (hb : attributeBase e f X.env (eval e X.env) = eval e X.env) (hK : X.K = K := by rfl) : PE X (.Attribute e f pos) (tFld K ta f) := by
  have h := pe_fld (pos := pos) he hb
  rw [hK] at h
  exact h
theorem ps_fldK (K : PySem.W.Frag) {o value : Expr} {ta tv : TE} {f : Str} {pos pos' : Pos} (ha : PE X o ta) (hv : PE X value tv) (hs : swapsWith value (some (.Attribute o f pos')) pos.line X.env = pure false) (hK : X.K = K := by rfl) : PS X (.Assign [.Attribute o f pos'] value pos) (sFld K ta tv f) := by
  have h := ps_fld (pos := pos) ha hv hs
  rw [hK] at h
  exact h
theorem ps_fldaugK (K : PySem.W.Frag) {o value : Expr} {ta tv : TE} {f : Str} {pos tpos : Pos} {op : Operator} {rd : V → V → Hp → VK → Prop} (ha : PE X o ta) (hv : PE X value tv) (hop : InOp X op rd) (hK : X.K = K := by rfl) : PS X (.AugAssign (.Attribute o f tpos) op value pos) (sFldAug K ta tv rd f) := by
  have h := ps_fldaug (f := f) (pos := pos) (tpos := tpos) ha hv hop
  rw [hK] at h
  exact h
theorem pe_bmK (K : PySem.W.Frag) {T id : String} {name : Str} {r : V → List V → Hp → VK → Prop} {o e : Expr} {es : List Expr} {to : TE} {t : TA} {apos cpos : Pos} (pa : PlainAttrs T) (slot : Slot T name id) (hty : typeOf (.builtin id) = pure (.type "method_descriptor")) (hm : MtR X id r) (ho : PE X o to) (ha : PA X (e :: es) t)
    (hbase : attributeBase o name X.env (eval o X.env) = eval o X.env := by rfl)
    (hfew : ((backTo cpos (starEach (e :: es) X.env)).all (fun x => !x.1) && (backToKw cpos (keywordEach [] X.env)).all (fun x => x.1.isSome)
      && decide ((e :: es).length + ([] : List Keyword).length + (if ([] : List Keyword).isEmpty then 0 else 1) < 30)) = true := by rfl)
    (hline : (apos.endLine == cpos.line) = true := by rfl) (hs : starEach (e :: es) X.env = (false, eval e X.env) :: starEach es X.env := by rfl) (hplain : (backTo cpos (starEach es X.env)).any (·.1) = false := by rfl) (hK : X.K = K := by rfl) :
    PE X (.Call (.Attribute o name apos) (e :: es) [] cpos) (tBM K T r to t) := by
  have h := pe_bm pa slot hty hm ho ha hbase hfew hline hs hplain
  rw [hK] at h
  exact h
theorem pe_bm0K (K : PySem.W.Frag) {T id : String} {name : Str} {r : V → List V → Hp → VK → Prop} {o : Expr} {to : TE} {apos cpos : Pos} (pa : PlainAttrs T) (slot : Slot T name id) (hty : typeOf (.builtin id) = pure (.type "method_descriptor")) (hm : MtR X id r) (ho : PE X o to)
    (hbase : attributeBase o name X.env (eval o X.env) = eval o X.env := by rfl) (hline : (apos.endLine == cpos.line) = true := by rfl) (hK : X.K = K := by rfl) : PE X (.Call (.Attribute o name apos) [] [] cpos) (tBM0 K T r to) := by
  have h := pe_bm0 pa slot hty hm ho hbase hline
  rw [hK] at h
  exact h
/-- o.m(..) that may raise, what is raised wished for at the caller's slots -/
def tMethS (C : Addr) (m : Str) (sp : Sp) (E : L2.St → XK) (ta : TE) (t : TA) : TE := fun σ H Q => ta σ H fun x H1 => ∃ a dx fs, x = .ref a ∧ H1 a = some (.ins C dx fs) ∧ fs.lookup m = none ∧ t σ H1 fun vs H2 => sp (x :: vs) H2 Q (E σ)
variable {CX : CXT} {k : Nat} {f C : Addr} {fd : FuncData} {ps : List Str} {sp : Sp} {E : L2.St → XK} {m : Str} {pos apos : Pos} {e o : Expr} {es : List Expr} {ta : TE} {t : TA}
theorem pe_methS {pl : Sem Bool} (he : PE X o ta) (c : Cls X.K C) (hm : Meth X.K C m f) (F : FnOk X.prog X.w X.K X.mg X.base CX k f fd ps sp) (hr : Room k X.A) (hb : Binds X.K fd ps []) (hx : ∀ σ, PassesAt CX X σ (E σ)) (ha : PA X (e :: es) t)
    (hst : starEach (e :: es) X.env = (false, eval e X.env) :: starEach es X.env := by rfl) (hpl : (backTo pos (starEach es X.env)).any (·.1) = false := by rfl)
    (ht : eval (.Call (.Attribute o m apos) (e :: es) [] pos) X.env = (do
      let ov ← eval o X.env
      standAt apos.atName
      let (f, first) ← holding [ov] (getMethod ov m pl)
      callWith pos f first (backTo pos (starEach (e :: es) X.env)) (backToKw pos (keywordEach [] X.env))) := by rfl) :
    PE X (.Call (.Attribute o m apos) (e :: es) [] pos) (tMethS C m sp E ta t) := by
  refine ⟨fun pins s σ H Q I h => ?_⟩
  refine PySem.W.methodCall_KW (pl := pl) (thn (he.run pins s σ H _ I h) fun u s1 ⟨x, H1, I1, rx, a, dx, fs, ex, ea, l, q⟩ => ?_) ht
  subst ex
  obtain rfl : u = Value.ref a := rx
  refine getmeth_ok I1 ea c hm l ?_
  refine PySem.W.callWith_K (first := [.ref a]) (h₀ := X.base) I.ok.mod.kin hm.kp (thn (ha.run pos pins s1 σ H1 _ I1 q) fun us s2 ⟨vs, H2, I2, r, q2⟩ => ⟨I2.kIn, ?_⟩) hst hpl
  exact run_fnS (us := .ref a :: us) (vs := .ref a :: vs) F hr hb (hx σ) I2 (.cons rfl r) q2
theorem pe_meth0S {pl : Sem Bool} (he : PE X o ta) (c : Cls X.K C) (hm : Meth X.K C m f) (F : FnOk X.prog X.w X.K X.mg X.base CX k f fd ps sp) (hr : Room k X.A) (hb : Binds X.K fd ps []) (hx : ∀ σ, PassesAt CX X σ (E σ))
    (ht : eval (.Call (.Attribute o m apos) [] [] pos) X.env = (do
      let ov ← eval o X.env
      standAt apos.atName
      let (f, first) ← holding [ov] (getMethod ov m pl)
      callWith pos f first (backTo pos (starEach [] X.env)) (backToKw pos (keywordEach [] X.env))) := by rfl) :
    PE X (.Call (.Attribute o m apos) [] [] pos) (tMethS C m sp E ta tNil) := by
  refine ⟨fun pins s σ H Q I h => ?_⟩
  refine PySem.W.methodCall_KW (pl := pl) (thn (he.run pins s σ H _ I h) fun u s1 ⟨x, H1, I1, rx, a, dx, fs, ex, ea, l, q⟩ => ?_) ht
  subst ex
  obtain rfl : u = Value.ref a := rx
  refine getmeth_ok I1 ea c hm l ?_
  exact PySem.W.callWith_K0 (first := [.ref a]) I1.kIn hm.kp (run_fnS (us := [.ref a]) (vs := [.ref a]) F hr hb (hx σ) I1 (.cons rfl .nil) q)
theorem pe_call0S {x : Str} {p : Pos} (F : FnOk X.prog X.w X.K X.mg X.base CX k f fd ps sp) (hr : Room k X.A) (hg : Gl X x) (hm : X.mg x = some (.ref f)) (hk : PySem.W.keepIn X.K (.ref f) = true) (hb : Binds X.K fd ps []) (hx : ∀ σ, PassesAt CX X σ (E σ))
    (hdb : (x == ("__debug__" : Str)) = false := by decide) : PE X (.Call (.Name x p) [] [] pos) (tCallS sp E tNil) := by
  refine ⟨fun pins s σ H Q I h => ?_⟩
  refine wpAny_Call_Name_kw (ld_glob I hg hm ?_ hdb)
  exact PySem.W.callWith_K0 I.kIn hk (run_fnS (us := []) F hr hb (hx σ) I .nil h)
/-- X(), X an own exception class without own __init__ -/
theorem pmk_own0 {C : Addr} {bmB : List Value} {B newId initId : String} {x : Str} {p pos : Pos} (F : ExcBaseFacts B newId initId bmB) (q : PySem.W.excIn X.K C bmB newId = true) (gC : X.mg x = some (.ref C))
    (kC : PySem.W.keepIn X.K (.ref C) = true) (r : Raises X (.ref C)) (hg : Gl X x) (hdb : (x == ("__debug__" : Str)) = false := by decide) :
    PMk X (.Call (.Name x p) [] [] pos) (fun _ H Q => Q (.ref C) none H) := by
  intro pins s σ H Q I h
  refine wpAny_Call_Name_kw (ld_glob I hg gC ?_ hdb)
  refine PySem.W.callWith_K0 I.kIn kC ?_
  show wpAny _ _ (call (.ref C) []) _ _ _
  obtain ⟨bm, N, nm, qn, bs, hdct, sn, sub, ab, col, dd, k0, k1, k2, k3, k5, mN, hC, hN, hni, T⟩ := exc_obj I.kIn q
  refine wpAny_call_exc_subT F T hC hN hni (fun h' e hm => ?_) (Nat.zero_le _)
  exact mk_of I hm r h (I.hok.gone hm.new)
end
/-- an error of the class at B met by «except A» -/
theorem exm_two {K : PySem.W.Frag} {B A : Addr} {b : Bool} (h1 : PySem.W.subIn K (.ref A) (.type "BaseException") = some true) (h2 : PySem.W.isClsIn K A = true) (h3 : PySem.W.typeIn K (.ref A) = some (.type "type")) (h4 : PySem.W.subIn K (.ref B) (.ref A) = some b) :
    PySem.W.exmOne K (.ref B) (.ref A) = some b := by
  have e1 : (PySem.W.subIn K (.ref A) (.type "BaseException") == some true) = true := by rw [h1] <;> rfl
  have e2 : ((PySem.W.clsIn K A).isSome && PySem.W.typeIn K (.ref A) == some (.type "type")) = true := by
    have h2' : (PySem.W.clsIn K A).isSome = true := h2
    rw [h2', h3] <;> rfl
  show (if (PySem.W.subIn K (.ref A) (.type "BaseException") == some true) = true then (if ((PySem.W.clsIn K A).isSome && PySem.W.typeIn K (.ref A) == some (.type "type")) = true then PySem.W.subIn K (.ref B) (.ref A) else none) else none) = some b
  rw [if_pos e1, if_pos e2]
  exact h4
/-- a class of exceptions without own __init__, raised -/
structure Exc (K : PySem.W.Frag) (C : Addr) : Prop where
  x : PySem.W.excIn K C [.type "ValueError", .type "Exception", .type "BaseException", .type "object"] "ValueError.__new__" = true
  kp : PySem.W.keepIn K (.ref C) = true
  be : PySem.W.subIn K (.ref C) (.type "BaseException") = some true
  ty : PySem.W.typeIn K (.ref C) = some (.type "type")
/-! ### dicts with written keys -/
def rDGet : R2 := fun x y H Q => ∃ a v, x = .ref a ∧ DGet H a y (some v) ∧ Q v H
theorem tDGet_eq {td ty : TE} {σ : L2.St} {H : Hp} {Q : VK} : tDGet td ty σ H Q = td σ H fun x H1 => ty σ H1 fun y H2 => rDGet x y H2 Q := rfl
def rDPut : V → V → V → Hp → (Hp → Prop) → Prop := fun x y v H Q => ∃ a H4, x = .ref a ∧ DPut H a y v H4 ∧ Q H4
theorem sDPut_eq {td ty tv : TE} {D : Ends} {σ : L2.St} {H : Hp} : sDPut td ty tv D σ H = tv σ H fun v H1 => td σ H1 fun x H2 => ty σ H2 fun y H3 => rDPut x y v H3 fun H4 => D.nx σ H4 := rfl
theorem i_dget {H : Hp} {a : Addr} {kvs : List (Key × V)} {k : Str} {v : V} {Q : VK} (h : H a = some (.dK kvs)) (e : valV kvs (.inr k) = some v) (q : Q v H) : rDGet (.ref a) (.str k) H Q := ⟨a, v, rfl, by rw [← e]; exact DGet.k (k := .inr k) h, q⟩
theorem i_dput {H : Hp} {a : Addr} {kvs : List (Key × V)} {k : Str} {v : V} {Q : Hp → Prop} (h : H a = some (.dK kvs)) (hl : kvs.length < sizeLine) (q : Q (upd H a (.dK (putK kvs (.inr k) v)))) : rDPut (.ref a) (.str k) v H Q := ⟨a, _, rfl, DPut.k (k := .inr k) h hl, q⟩
/-! ### what is kept but for some objects -/
def Kp (X : List Addr) (H H' : Hp) : Prop := ∀ b o, b ∉ X → H b = some o → H' b = some o
theorem Kp.refl (X : List Addr) (H : Hp) : Kp X H H := fun _ _ _ e => e
theorem Kp.trans {X : List Addr} {H H1 H2 : Hp} (a : Kp X H H1) (b : Kp X H1 H2) : Kp X H H2 := fun c o n e => b c o n (a c o n e)
theorem Kp.mono {X Y : List Addr} {H H1 : Hp} (a : Kp X H H1) (h : ∀ b ∈ X, b ∈ Y) : Kp Y H H1 := fun c o n e => a c o (fun k => n (h c k)) e
theorem Kp.set {X : List Addr} {H : Hp} {a : Addr} {o : HO} (h : a ∈ X) : Kp X H (upd H a o) := fun b u n e => by
  rw [upd_ne (fun k => n (by rw [k]; exact h))]; exact e
theorem Kp.new {X : List Addr} {H : Hp} {a : Addr} {o : HO} (h : H a = none) : Kp X H (upd H a o) := fun b u n e => by
  rw [upd_ne (ne_of_none e h)]; exact e
theorem Kp.of {X : List Addr} {H H' : Hp} (s : Same H H') : Kp X H H' := fun b u _ e => s b u e
theorem Kp.same {X : List Addr} {H H' H0 : Hp} (k : Kp X H H') (s : Same H0 H) (n : ∀ a ∈ X, H0 a = none) : Same H0 H' := fun b o e => k b o (fun h => by rw [n b h] at e; cases e) (s b o e)
/-! ### fields -/
def rFld (K : PySem.W.Frag) (f : Str) : V → Hp → VK → Prop := fun x H1 Q => ∃ a C dx fs v, x = .ref a ∧ H1 a = some (.ins C dx fs) ∧ Cls K C ∧ NoAttr K C f ∧ fs.lookup f = some v ∧ Q v H1
theorem tFld_eq {K : PySem.W.Frag} {ta : TE} {f : Str} {σ : L2.St} {H : Hp} {Q : VK} : tFld K ta f σ H Q = ta σ H fun x H1 => rFld K f x H1 Q := rfl
def rFldS (K : PySem.W.Frag) (f : Str) : V → V → Hp → (Hp → Prop) → Prop := fun x y H2 Q => ∃ a C dx fs, x = .ref a ∧ H2 a = some (.ins C dx fs) ∧ Cls K C ∧ NoAttr K C f ∧ fs.length < 1000 ∧ Q (upd H2 a (.ins C dx (putF f y fs)))
theorem sFld_eq {K : PySem.W.Frag} {ta tv : TE} {f : Str} {D : Ends} {σ : L2.St} {H : Hp} : sFld K ta tv f D σ H = tv σ H fun y H1 => ta σ H1 fun x H2 => rFldS K f x y H2 fun H3 => D.nx σ H3 := rfl
theorem i_fld {K : PySem.W.Frag} {a C dx : Addr} {fs : List (Str × V)} {f : Str} {v : V} {H : Hp} {Q : VK} (c : Cls K C) (n : NoAttr K C f) (h : H a = some (.ins C dx fs)) (l : fs.lookup f = some v) (q : Q v H) : rFld K f (.ref a) H Q := ⟨a, C, dx, fs, v, rfl, h, c, n, l, q⟩
theorem i_fldS {K : PySem.W.Frag} {a C dx : Addr} {fs : List (Str × V)} {f : Str} {y : V} {H : Hp} {Q : Hp → Prop} (c : Cls K C) (n : NoAttr K C f) (h : H a = some (.ins C dx fs)) (l : fs.length < 1000) (q : Q (upd H a (.ins C dx (putF f y fs)))) : rFldS K f (.ref a) y H Q := ⟨a, C, dx, fs, rfl, h, c, n, l, q⟩
theorem i_rep {H : Hp} {l : Addr} {k : Int} {xs : List V} {Q : VK} (h : H l = some (.lst xs)) (h1 : -(2 ^ 63) ≤ k) (h2 : k < 2 ^ 63) (hz : xs.length * k.toNat ≤ sizeLine) (q : ∀ p, H p = none → Q (.ref p) (upd H p (.lst (List.replicate k.toNat xs).flatten))) : rRep (.ref l) (.int k) H Q := ⟨l, k, xs, rfl, rfl, h, h1, h2, hz, q⟩
theorem rep1 {n : Nat} {v : V} : (List.replicate n [v]).flatten = List.replicate n v := by
  induction n with
  | zero => rfl
  | succ n ih => rw [List.replicate_succ, List.flatten_cons, ih, List.replicate_succ]; rfl
/-- a call of a method -/
def rMeth (C : Addr) (m : Str) (sp : Sp) (E : XK) (t : (List V → Hp → Prop) → Hp → Prop) : V → Hp → VK → Prop := fun x H1 Q => ∃ a dx fs, x = .ref a ∧ H1 a = some (.ins C dx fs) ∧ fs.lookup m = none ∧ t (fun vs H2 => sp (x :: vs) H2 Q E) H1
theorem tMeth_eq {C : Addr} {m : Str} {sp : Sp} {dvs : List V} {E : XK} {ta : TE} {t : TA} {σ : L2.St} {H : Hp} {Q : VK} : tMeth C m sp dvs E ta t σ H Q = ta σ H fun x H1 => rMeth C m sp E (fun k H => t σ H fun vs H2 => k (vs ++ dvs) H2) x H1 Q := rfl
theorem tMethS_eq {C : Addr} {m : Str} {sp : Sp} {E : L2.St → XK} {ta : TE} {t : TA} {σ : L2.St} {H : Hp} {Q : VK} : tMethS C m sp E ta t σ H Q = ta σ H fun x H1 => rMeth C m sp (E σ) (fun k H => t σ H k) x H1 Q := rfl
theorem i_meth {C : Addr} {m : Str} {sp : Sp} {E : XK} {t : (List V → Hp → Prop) → Hp → Prop} {a dx : Addr} {fs : List (Str × V)} {H : Hp} {Q : VK} (h : H a = some (.ins C dx fs)) (l : fs.lookup m = none) (q : t (fun vs H2 => sp (.ref a :: vs) H2 Q E) H) : rMeth C m sp E t (.ref a) H Q := ⟨a, dx, fs, rfl, h, l, q⟩
def rFldA (K : PySem.W.Frag) (f : Str) (tv : (V → Hp → Prop) → Hp → Prop) (rd : V → V → Hp → VK → Prop) : V → Hp → (Hp → Prop) → Prop := fun x H1 Q => ∃ a C dx fs v, x = .ref a ∧ H1 a = some (.ins C dx fs) ∧ Cls K C ∧ NoAttr K C f ∧ fs.lookup f = some v ∧
  tv (fun y H2 => rd v y H2 fun z H3 => ∃ dx' fs', H3 a = some (.ins C dx' fs') ∧ fs'.length < 1000 ∧ Q (upd H3 a (.ins C dx' (putF f z fs')))) H1
theorem sFldAug_eq {K : PySem.W.Frag} {ta tv : TE} {rd : V → V → Hp → VK → Prop} {f : Str} {D : Ends} {σ : L2.St} {H : Hp} : sFldAug K ta tv rd f D σ H = ta σ H fun x H1 => rFldA K f (fun k H => tv σ H k) rd x H1 fun H3 => D.nx σ H3 := rfl
theorem i_fldA {K : PySem.W.Frag} {f : Str} {tv : (V → Hp → Prop) → Hp → Prop} {rd : V → V → Hp → VK → Prop} {a C dx : Addr} {fs : List (Str × V)} {v : V} {H : Hp} {Q : Hp → Prop} (c : Cls K C) (n : NoAttr K C f) (h : H a = some (.ins C dx fs)) (l : fs.lookup f = some v)
    (q : tv (fun y H2 => rd v y H2 fun z H3 => ∃ dx' fs', H3 a = some (.ins C dx' fs') ∧ fs'.length < 1000 ∧ Q (upd H3 a (.ins C dx' (putF f z fs')))) H) : rFldA K f tv rd (.ref a) H Q := ⟨a, C, dx, fs, v, rfl, h, c, n, l, q⟩
/-! ### == and != of data that is the same -/
theorem shaped_lay {d : PyData} (h : SeqAt.shaped d = true) : d.canLay0 = true := by
  unfold SeqAt.shaped at h
  simp only [Bool.and_eq_true] at h
  exact h.1
theorem i_neD {K : PySem.W.Frag} {x y : V} {d : PyData} {H : Hp} {Q : VK} (h1 : Dp K H x d) (h2 : Dp K H y d) (hs : SeqAt.shaped d = true) (q : Q (.bl false) H) : rNeD K x y H Q :=
  ⟨d, d, h1, h2, hs, hs, by rw [SeqAt.eqv_refl d (shaped_lay hs)]; exact q⟩
theorem i_eqD {K : PySem.W.Frag} {x y : V} {d : PyData} {H : Hp} {Q : VK} (h1 : Dp K H x d) (h2 : Dp K H y d) (hs : SeqAt.shaped d = true) (q : Q (.bl true) H) : rEqD K x y H Q :=
  ⟨d, d, h1, h2, hs, hs, by rw [SeqAt.eqv_refl d (shaped_lay hs)]; exact q⟩

/-! ### own exceptions with an __init__ that keeps its arguments -/
def rMkO (C : Addr) (sp : Sp) (dvs : List V) : List V → Hp → XK → Prop := fun vs H1 Q => vs.length ≤ 1000 ∧ ∀ a, H1 a = none → sp (.ref a :: (vs ++ dvs)) (upd H1 a (exo a C none))
  (fun v H2 => v = .non ∧ ∃ (d : Addr) (fs : List (Str × V)), H2 a = some (exo a C (some d)) ∧ H2 d = some (exd d fs) ∧ H1 d = none ∧ Q (.ref C) (some d) (upd (del H2 a) d (.xd fs))) (fun _ _ _ => False)
theorem tMkO_eq {C : Addr} {sp : Sp} {dvs : List V} {ta : TA} {σ : L2.St} {H : Hp} {Q : XK} : tMkO C sp dvs ta σ H Q = ta σ H fun vs H1 => rMkO C sp dvs vs H1 Q := rfl
def spX1 (C : Addr) (f : Str) : Sp := fun vs H Q _ => ∃ (a : Addr) (v : V), vs = [.ref a, v] ∧ H a = some (exo a C none) ∧ ∀ dx, H dx = none → dx ≠ a → Q .non (upd (upd H dx (exd dx [(f, v)])) a (exo a C (some dx)))
theorem i_mkO1 {C : Addr} {f : Str} {v : V} {H : Hp} {Q : XK} (q : ∀ dx, H dx = none → Q (.ref C) (some dx) (upd H dx (.xd [(f, v)]))) : rMkO C (spX1 C f) [] [v] H Q := by
  refine ⟨by show 1 ≤ 1000; decide, fun a ha => ⟨a, v, rfl, upd_same, fun dx hd hne => ⟨rfl, dx, [(f, v)], upd_same, by rw [upd_ne hne, upd_same], by rw [upd_ne hne] at hd; exact hd, ?_⟩⟩⟩
  have hd : H dx = none := by rw [upd_ne hne] at hd; exact hd
  have e : upd (del (upd (upd (upd H a (exo a C none)) dx (exd dx [(f, v)])) a (exo a C (some dx))) a) dx (.xd [(f, v)]) = upd H dx (.xd [(f, v)]) := by
    funext b
    by_cases hb : b = dx
    · subst hb; rw [upd_same, upd_same]
    · rw [upd_ne hb, upd_ne hb]
      by_cases hb2 : b = a
      · subst hb2; rw [del_same, ha]
      · rw [del_ne hb2, upd_ne hb2, upd_ne hb, upd_ne hb2]
  rw [e]
  exact q dx hd
def rOst (K : PySem.W.Frag) (f : Str) : V → V → Hp → (Hp → Prop) → Prop := fun x y H2 Q => ∃ a C : Addr, x = .ref a ∧ OexC K C ∧ PySem.W.findIn K (.ref C) f = some none ∧
  ((H2 a = some (exo a C none) ∧ ∀ dx, H2 dx = none → dx ≠ a → Q (upd (upd H2 dx (exd dx [(f, y)])) a (exo a C (some dx)))) ∨
    ∃ (dx : Addr) (fs : List (Str × V)), H2 a = some (exo a C (some dx)) ∧ H2 dx = some (exd dx fs) ∧ fs.length ≤ 900 ∧ Q (upd H2 dx (exd dx ((f, y) :: fs))))
theorem tOst_eq {K : PySem.W.Frag} {f : Str} {to te : TE} {D : Ends} {σ : L2.St} {H : Hp} : tOst K f to te D σ H = te σ H fun y H1 => to σ H1 fun x H2 => rOst K f x y H2 fun H3 => D.nx σ H3 := rfl
theorem i_ost {K : PySem.W.Frag} {C a : Addr} {f : Str} {y : V} {H : Hp} {Q : Hp → Prop} (T : OexC K C) (n : PySem.W.findIn K (.ref C) f = some none) (h : H a = some (exo a C none)) (q : ∀ dx, H dx = none → dx ≠ a → Q (upd (upd H dx (exd dx [(f, y)])) a (exo a C (some dx)))) : rOst K f (.ref a) y H Q := ⟨a, C, rfl, T, n, .inl ⟨h, q⟩⟩
theorem i_catchAs {K : PySem.W.Frag} {c cls : Value} {i : Nat} {ts : Addr → Value → Option Addr → TS} {Wout : WX} {D : Ends} {d : Option Addr} {σ : L2.St} {H : Hp} (h : PySem.W.exmOne K cls c = some true)
    (q : ∀ a, H a = none → ts a cls d { nx := fun σ' H' => D.nx (σ'.set i none) H', rt := D.rt, bk := fun σ' H' => D.bk (σ'.set i none) H', ct := fun σ' H' => D.ct (σ'.set i none) H' } (σ.set i (some (.ref a))) H) : wAs K c i ts Wout D cls d σ H := ⟨true, h, fun _ a n => q a n, fun z => nomatch z⟩
theorem i_catch {K : PySem.W.Frag} {c cls : Value} {ts : Addr → Value → Option Addr → TS} {Wout : WX} {D : Ends} {d : Option Addr} {σ : L2.St} {H : Hp} (h : PySem.W.exmOne K cls c = some true) (q : ∀ a, H a = none → ts a cls d D σ H) : wOnly K c ts Wout D cls d σ H := ⟨true, h, fun _ a n => q a n, fun z => nomatch z⟩
theorem i_ost2 {K : PySem.W.Frag} {C a dx : Addr} {f : Str} {y : V} {fs : List (Str × V)} {H : Hp} {Q : Hp → Prop} (T : OexC K C) (n : PySem.W.findIn K (.ref C) f = some none) (h : H a = some (exo a C (some dx))) (hd : H dx = some (exd dx fs)) (hl : fs.length ≤ 900) (q : Q (upd H dx (exd dx ((f, y) :: fs)))) : rOst K f (.ref a) y H Q := ⟨a, C, rfl, T, n, .inr ⟨dx, fs, h, hd, hl, q⟩⟩
/-- told.f -/
def rXf (a : Addr) (cls : Value) (d : Option Addr) (C : Addr) (f : Str) : V → Hp → VK → Prop := fun x H1 Q => x = .ref a ∧ cls = .ref C ∧ ∃ (dd : Addr) (fs : List (Str × V)) (v : V), d = some dd ∧ H1 dd = some (.xd fs) ∧ fs.lookup f = some v ∧ Q v H1
theorem tXf_eq {a : Addr} {cls : Value} {d : Option Addr} {C : Addr} {f : Str} {te : TE} {σ : L2.St} {H : Hp} {Q : VK} : tXf a cls d C f te σ H Q = te σ H fun x H1 => rXf a cls d C f x H1 Q := rfl
theorem i_xf {a dd C : Addr} {f : Str} {fs : List (Str × V)} {v : V} {H : Hp} {Q : VK} (h : H dd = some (.xd fs)) (l : fs.lookup f = some v) (q : Q v H) : rXf a (.ref C) (some dd) C f (.ref a) H Q := ⟨rfl, rfl, dd, fs, v, rfl, h, l, q⟩
theorem iRevR_eq {tr : L2.St → Hp → (Int → Int → Hp → Prop) → Prop} {σ : L2.St} {H : Hp} {R : It → Hp → Prop} : iRevR tr σ H R = tr σ H fun a b H1 => -(2 ^ 62) ≤ a ∧ a < 2 ^ 62 ∧ -(2 ^ 62) ≤ b ∧ b < 2 ^ 62 ∧ R (Itc (a + (((b - a).toNat : Nat) : Int) - 1) (-1) (b - a).toNat) H1 := rfl
theorem tRg1_eq {ta : TE} {σ : L2.St} {H : Hp} {Q : Int → Int → Hp → Prop} : tRg1 ta σ H Q = ta σ H fun x H1 => ∃ n, x = .int n ∧ Q 0 n H1 := rfl
theorem tRg2_eq {ta tb : TE} {σ : L2.St} {H : Hp} {Q : Int → Int → Hp → Prop} : tRg2 ta tb σ H Q = ta σ H fun x H1 => tb σ H1 fun y H2 => ∃ i j, x = .int i ∧ y = .int j ∧ Q i j H2 := rfl
theorem tLstRg_eq {te : L2.St → Hp → (Int → Int → Hp → Prop) → Prop} {σ : L2.St} {H : Hp} {Q : VK} : tLstRg te σ H Q = te σ H fun a b H1 => RgOk a b ∧ ∀ q, H1 q = none → Q (.ref q) (upd H1 q (.lst (rgV a b))) := rfl
def rRevL (K : PySem.W.Frag) : V → Hp → VK → Prop := fun x H1 Q => ∃ a xs, x = .ref a ∧ SqL K H1 a xs ∧ ∀ p, H1 p = none → Q (.ref p) (upd H1 p (.lst xs.reverse))
theorem tRevL_eq {K : PySem.W.Frag} {te : TE} {σ : L2.St} {H : Hp} {Q : VK} : tRevL K te σ H Q = te σ H fun x H1 => rRevL K x H1 Q := rfl
theorem i_revL {K : PySem.W.Frag} {H : Hp} {Q : VK} {a : Addr} {xs : List V} (h : SqL K H a xs) (q : ∀ p, H p = none → Q (.ref p) (upd H p (.lst xs.reverse))) : rRevL K (.ref a) H Q := ⟨a, xs, rfl, h, q⟩
theorem room65 {k : Nat} {A : Around} (r : Room k A) : A.units + 65 < cLine := by have := r.un; omega
theorem i_forPost {J : It} {g : TG} {tb : TS} {D : Ends} {σ : L2.St} {H : Hp} (Post : L2.St → Hp → Prop) (h1 : (∀ σ' H', Post σ' H' → D.nx σ' H') → rForJ J g tb D σ H) (h2 : ∀ σ' H', Post σ' H' → D.nx σ' H') : rForJ J g tb D σ H := h1 h2

/-! ### dicts with int keys, text.index, sorted(d) -/
def rSidx : V → List V → Hp → VK → Prop := fun x xs H Q => ∃ a b i rest, x = .str a ∧ xs = [.str b] ∧ Builtin.Str.occurrences a b 0 a.length 1 = i :: rest ∧ Q (.int (i : Nat)) H
theorem mt_sidx {X : Cx} : MtR X "str.index" rSidx := mt_sindex
def rSortedDI : List V → Hp → VK → Prop := fun xs H Q => ∃ (a : Addr) (kvs : List (Key × V)) (ks : List Int), xs = [.ref a] ∧ Rd H a (.dK kvs) ∧ kvs.map (·.1) = ks.map Sum.inl ∧ ks.length < 64 ∧
    ∀ (ys : List Int) (p : Addr), ys.Perm ks → ys.Pairwise (· ≤ ·) → H p = none → Q (.ref p) (upd H p (.lst (ys.map V.int)))
theorem cr_sortedDI {X : Cx} (h : X.calm = true) : CallR X (.builtin "sorted") rSortedDI := call_sortedDI h
def rDIn : R2 := fun y x H2 Q => ∃ a o, x = .ref a ∧ DGet H2 a y o ∧ Q (.bl o.isSome) H2
theorem tDIn_eq {td ty : TE} {σ : L2.St} {H : Hp} {Q : VK} : tDIn ty td σ H Q = ty σ H fun y H1 => td σ H1 fun x H2 => rDIn y x H2 Q := rfl
theorem i_din {H : Hp} {a : Addr} {kvs : List (Key × V)} {k : Key} {Q : VK} (h : H a = some (.dK kvs)) (q : Q (.bl (valV kvs k).isSome) H) : rDIn (kV k) (.ref a) H Q := ⟨a, _, rfl, DGet.k h, q⟩
def rDPop2 : V → V → V → Hp → VK → Prop := fun x y z H3 Q => ∃ a kvs k, x = .ref a ∧ H3 a = some (.dK kvs) ∧ y = kV k ∧ (∀ v, valV kvs k = some v → Q v (upd H3 a (.dK (dropK kvs k)))) ∧ (valV kvs k = none → Q z H3)
theorem iEnum_eq {K : PySem.W.Frag} {ta : TA} {σ : L2.St} {H : Hp} {R : It → Hp → Prop} : iEnum K ta σ H R = ta σ H fun vs H1 => ∃ a xs, vs = [.ref a] ∧ SqL K H1 a xs ∧ R (Ite K a) H1 := rfl
theorem i_gTup2 {K : PySem.W.Frag} {n i j : Nat} {a : Addr} {x y : V} {σ : L2.St} {H : Hp} {Q : L2.St → Hp → Prop} (hn : n = 2) (h : SqT K H a [x, y]) (q : Q ((σ.set i (some x)).set j (some y)) H) : gTup K n (gCons (gName i) (gCons (gName j) gNil)) (.ref a) σ H Q :=
  ⟨a, [x, y], rfl, h, hn.symm, x, [y], rfl, y, [], rfl, rfl, q⟩
theorem i_forG {J : It} {n : Nat} {G : Hp → Prop} {Y : Nat → Hp → V → Hp → Prop} (w : Walk J n G Y) {g : TG} {tb : TS} {D : Ends} {σ : L2.St} {H : Hp} (Pv : Nat → L2.St → Hp → Prop) (h0 : Pv 0 σ H) (hG : ∀ i σ H, i ≤ n → Pv i σ H → G H)
    (hs : ∀ i x σ H H', i < n → Pv i σ H → Y i H x H' → g x σ H' fun σ2 H2 => tb { D with nx := Pv (i + 1), ct := Pv (i + 1), bk := D.nx } σ2 H2) (hd : ∀ σ H, Pv n σ H → D.nx σ H) : rForJ J g tb D σ H := for_it w Pv h0 hG hs hd
theorem log_small {j : Int} (h : j.natAbs < 2 ^ 200) : j.natAbs.log2 < 9000 := by
  by_cases h0 : j.natAbs = 0
  · rw [h0]; decide
  · have := (Nat.log2_lt h0).mpr h
    omega

/-! ### while -/
def rWhT (Pv : Nat → L2.St → Hp → Prop) (m : Nat) (tb : TS) (D : Ends) (σ : L2.St) (H : Hp) : Prop := ∃ N : L2.St → Hp → Prop, (∀ σ' H', N σ' H' → ∃ m', m' < m ∧ Pv m' σ' H') ∧ tb { D with nx := N, ct := N, bk := D.nx } σ H
theorem i_while {c : TT} {tb : TS} {D : Ends} {σ : L2.St} {H : Hp} (Pv : Nat → L2.St → Hp → Prop) (m0 : Nat) (h0 : Pv m0 σ H) (hs : ∀ m σ H, Pv m σ H → c σ H fun b H1 => if b = true then rWhT Pv m tb D σ H1 else D.nx σ H1) : tWhile c tb D σ H := ⟨Pv, ⟨m0, h0⟩, hs⟩
theorem i_whT {Pv : Nat → L2.St → Hp → Prop} {m : Nat} {tb : TS} {D : Ends} {σ : L2.St} {H : Hp} (h : tb { D with nx := fun σ' H' => ∃ m', m' < m ∧ Pv m' σ' H', ct := fun σ' H' => ∃ m', m' < m ∧ Pv m' σ' H', bk := D.nx } σ H) : rWhT Pv m tb D σ H := ⟨_, fun _ _ h => h, h⟩

/-! ### enumerate(tuple), list.extend(tuple): the kit has both for lists only -/
section
set_option maxHeartbeats 4000000 in
/-- the new cells of enumerate(v), v told by how its walk begins -/
theorem enum1_new {v : Value} {o : Obj} {G : Heap → Prop} (B : Begins v o G) : Meets (Builtin.«enumerate.__new__» ⟨[.type "enumerate", v], []⟩) fun _ R s =>
    G s.heap ∧ R (.ok (.ret (.ref (s.heap.push o).objs.size))) { s with heap := (s.heap.push o).push { cls := .type "enumerate", data := .fields #[.none, .bool false, .ref s.heap.objs.size, rawInt 0, .none, .none] } } := by
  refine .of_wp fun pr wo A R s hs => ?_
  rcases s with ⟨H0, g, d, tk, os⟩
  obtain ⟨hG, hR⟩ := hs
  have _se := sub_enumerate
  have step : ∀ {A' : Around} {E Q : Value → Shared → Prop}, Q (.ref H0.objs.size) ⟨H0.push o, g, d, tk, os⟩ → wpAny (model pr wo) A' (pyIter v) Q E ⟨H0, g, d, tk, os⟩ := fun {A' E Q} => B.iter pr wo A' E ⟨H0, g, d, tk, os⟩ Q hG
  wp_walk using step
  refine wpAny_stack_any fun _ => wpAny_pure ?_
  split
  · rename_i c _ _ _ _ _
    rcases Bool.eq_false_or_eq_true (c == Value.type "enumerate") with e | e
    all_goals
      rw [e]
      wp_walk using step
      exact ⟨_, rfl, hR⟩
  · wp_walk using step
    exact ⟨_, rfl, hR⟩
variable {prog : Program} {w : World} {A : Around} {E : Value → Shared → Prop} {s : Shared}
theorem enum1_call {v : Value} {o : Obj} {G : Heap → Prop} {Q : Value → Shared → Prop} (B : Begins v o G) (hG : G s.heap)
    (q : ∀ h', IsEnum h' (s.heap.objs.size + 1) s.heap.objs.size 0 .none → h'.get? s.heap.objs.size = some o → (∀ b u, s.heap.get? b = some u → h'.get? b = some u) → Q (.ref (s.heap.objs.size + 1)) { s with heap := h' }) :
    wpAny (model prog w) A (call (.type "enumerate") [v]) Q E s := by
  refine callType_new F.called_enumerate (by decide) (F.typeCall_enumerate_1 v) (F.newCall_enumerate_1 v) (fun u => F.args_object_init_2 u v) F.entry_enumerate_new (enum1_new B) ⟨hG, ?_⟩
  have sz := Heap.size_push s.heap o
  have at1 := Heap.get?_push_size (s.heap.push o) (o := { cls := .type "enumerate", data := .fields #[.none, .bool false, .ref s.heap.objs.size, rawInt 0, .none, .none] }) rfl
  rw [sz] at at1
  show _ ∧ _
  rw [sz]
  exact ⟨⟨_, at1, rfl⟩, q _ at1 (Heap.get?_push_of_some _ (Heap.get?_push_size _ B.free)) fun b u e => Heap.get?_push_of_some _ (Heap.get?_push_of_some _ e)⟩
theorem draws_tup (hh : A.handled = none) (it l : Addr) (hne : l ≠ it) (items : Array Value) :
    Draws prog w A it [it, l] items.size (fun i v => items[i]? = some v) (fun i h => h.IsTupleIter it l i ∧ h.IsTuple l items) where
  live := fun _ _ st => let ⟨o, ho, _⟩ := st.1; ⟨o, ho⟩
  frame := fun _ _ _ st hk => ⟨let ⟨o, ho, r⟩ := st.1; ⟨o, hk it (by simp) o ho, r⟩, let ⟨o, ho, r⟩ := st.2; ⟨o, hk l (by simp) o ho, r⟩⟩
  item := fun i s Q E hi st hQ => by
    refine wpAny_nextOf_tuple_item st.1 st.2 (x := items[i]) (by simp [hi]) fun h' hit' hs' => ?_
    exact hQ _ h' s.toks (by simp [hi]) ⟨hit', st.2.extBut hs'.extBut hne⟩ hs'
  done := fun s Q E st hE => wpAny_nextOf_tuple_end hh st.1 st.2 (by simp) hE
end
/-- the tuple at a, each item in a new pair -/
def IteT (K : PySem.W.Frag) (a : Addr) : It :=
  ⟨fun i H => ∃ (xs : List V) (x : V), SqT K H a xs ∧ xs[i]? = some x, fun i H v H' => ∃ T x, v = .ref T ∧ H T = none ∧ H' = upd H T (.tup [.int (i : Nat), x]) ∧ ∀ xs, SqT K H a xs → xs[i]? = some x, fun i H => ∃ xs : List V, SqT K H a xs ∧ xs.length = i⟩
theorem turn_enumT {P : Program} {w : World} {K : PySem.W.Frag} {elts : List Expr} {kk : Nat} {tpos : Pos} (a e it : Addr) :
    Turn P w K (.Tuple elts kk tpos) (IteT K a) [e, it] e (fun i h => (∃ old, IsEnum h e it ((i : Nat) : Int) old) ∧ h.IsTupleIter it a i ∧ e ≠ it ∧ a ≠ it ∧ a ≠ e) where
  mem := by simp
  obj := fun i h st b hb => by
    obtain ⟨⟨old, he⟩, ⟨o, ho, hc, hd⟩, _⟩ := st
    have e' : b = e ∨ b = it := by simpa using hb
    rcases e' with z | z
    · rw [z]; exact ⟨_, he, fun v q => nomatch q⟩
    · rw [z]; exact ⟨o, ho, fun v q => by rw [hd] at q; cases q⟩
  keep := fun i h h' st k => let ⟨⟨old, he⟩, ⟨o, ho, r⟩, hne⟩ := st; ⟨⟨old, k e (by simp) _ he⟩, ⟨o, k it (by simp) o ho, r⟩, hne⟩
  item := by
    intro X hP hw hK hc i pins s σ H E I hf st hg
    subst hP hw hK
    obtain ⟨⟨old, he⟩, hit, hne, ha1, ha2⟩ := st
    obtain ⟨xs, x, hq, hx⟩ := hg
    obtain ⟨its, rv, p, hz⟩ := I.tuple hq
    obtain ⟨u, hu, ru⟩ := rv.get hx
    have p' : s.heap.IsTuple a its.toArray := p
    have hel : e < s.heap.objs.size := Heap.lt_size he
    have hil : it < s.heap.objs.size := by obtain ⟨_, q, _⟩ := hit; exact Heap.lt_size q
    have hul : i < its.toArray.size := by
      obtain ⟨hl, _⟩ := List.getElem?_eq_some_iff.mp hu
      simpa using hl
    refine wpAny_pyNext_enum_itemD (draws_tup (A := X.A.in1) (I.ok.hd hc) it a ha1 its.toArray) he ⟨hit, p'⟩ hul hne (by simp [hne, Ne.symm ha2]) fun y h' tk hy ho st' hT hsz hk => ?_
    have hyu : y = u := by
      rw [List.getElem?_toArray, hu] at hy
      exact (Option.some.inj hy).symm
    subst hyu
    refine ⟨_, rfl, wpAny_letOwnedTupleGo_enum (s := { s with heap := h', toks := tk + 1 }) ho fun h'' he' sb => ?_⟩
    have hT2 : h''.get? s.heap.objs.size = some { cls := .type "tuple", data := .seq #[.int i tk, y] } := (sb.2 _ (Nat.ne_of_gt hel)).trans hT
    have new : ObjOk X.prog X.w (upd H s.heap.objs.size (.tup [.int (i : Nat), x])) h'' s.heap.objs.size (.tup [.int (i : Nat), x]) :=
      ⟨by show 2 ≤ sizeLine; decide, [.int i tk, y], .cons ⟨_, rfl⟩ (.cons ru .nil), ⟨_, hT2, rfl, _, rfl⟩⟩
    have I1 : Inv X pins σ (upd H s.heap.objs.size (.tup [.int (i : Nat), x])) { s with heap := h'', toks := tk + 1 } :=
      I.turnedNew (ch := [e, it]) (fun b ob hb q => (sb.2 b (fun z => hb (by simp [z]))).trans (hk b ob (fun z => hb (by simp [z])) (fun z => hb (by simp [z])) q)) hf (Nat.le_refl _) new
    refine ⟨.ref s.heap.objs.size, _, I1, rfl, ⟨_, x, rfl, I.hok.fresh (Nat.le_refl _), rfl, fun ys hy => by rw [I.tuple_inj hy hq]; exact hx⟩, ⟨⟨y, ?_⟩, ?_, hne, ha1, ha2⟩, fun b hb => ?_⟩
    · have e1 : ((i + 1 : Nat) : Int) = (i : Int) + 1 := by omega
      rw [e1]; exact he'
    · obtain ⟨o, q, r⟩ := st'.1
      exact ⟨o, (sb.2 it (Ne.symm hne)).trans q, r⟩
    · have hb' : b < s.heap.objs.size := by
        have e' : b = e ∨ b = it := by simpa using hb
        rcases e' with z | z
        · rw [z]; exact hel
        · rw [z]; exact hil
      rw [upd_ne (Nat.ne_of_lt hb')]
      exact (hf b hb).1
  done := by
    intro X hP hw hK hc i pins s σ H E I hf st hg
    subst hP hw hK
    obtain ⟨⟨old, he⟩, hit, hne, ha1, ha2⟩ := st
    obtain ⟨xs, hq, hx⟩ := hg
    obtain ⟨its, rv, p, hz⟩ := I.tuple hq
    obtain ⟨f0, f1, f2, f3, f4, f5⟩ := hf it (by simp)
    have hn : its.toArray.size = i := by rw [List.size_toArray, ← rv.length, hx]
    have p' : s.heap.IsTuple a its.toArray := p
    exact wpAny_pyNext_enum_endD (draws_tup (A := X.A.in1) (I.ok.hd hc) it a ha1 its.toArray) he ⟨by rw [hn]; exact hit, p'⟩ fun h' eb => ⟨rfl, I.turned (t' := s.toks) (fun b o hb q => eb b o hb q) f0 f1 f3 f4 f5⟩
  self := fun A i s Q E st h => let ⟨⟨_, he⟩, _⟩ := st; wpAny_pyIter_enum he h
def iEnumT (K : PySem.W.Frag) (ta : TA) : TI := fun σ H R => ta σ H fun vs H1 => ∃ a xs, vs = [.ref a] ∧ SqT K H1 a xs ∧ R (IteT K a) H1
theorem pi_enumT {X : Cx} {e : Expr} {ta : TA} {p pos tpos : Pos} {elts : List Expr} {kk : Nat} (hg : Gl X "enumerate") (hm : X.mg "enumerate" = none) (ha : PA X [e] ta) (hs : starEach [e] X.env = [(false, eval e X.env)] := by rfl) :
    PI X (.Tuple elts kk tpos) (.Call (.Name "enumerate" p) [e] [] pos) (iEnumT X.K ta) := by
  refine ⟨fun pins s σ H R I h => ?_⟩
  refine Call_ (ld_blt I hg hm boot_enumerate (PyProof.Rows.callWith_type1 (thn (ha.run pos pins s σ H _ I h) fun us s1 ⟨vs, H1, I1, r1, q1⟩ => ?_) hs rfl))
  obtain ⟨a, xs, ex, hq, q⟩ := q1
  subst ex
  cases r1 with
  | cons r rr =>
    cases rr
    cases r
    obtain ⟨its, rv, p', hz⟩ := I1.tuple hq
    have p2 : s1.heap.IsTuple a its.toArray := p'
    have hal : a < s1.heap.objs.size := by obtain ⟨o, q, _⟩ := p2; exact Heap.lt_size q
    refine enum1_call (begins_tuple a its.toArray) p2 fun h' he hit0 hk => wpAny_pyIter_enum he ?_
    have hit : h'.IsTupleIter s1.heap.objs.size a 0 := ⟨_, hit0, rfl, rfl⟩
    have I2 : Inv X pins σ H1 { s1 with heap := h' } := I1.kept (t' := s1.toks) hk
    refine ⟨s1.heap.objs.size + 1, [s1.heap.objs.size + 1, s1.heap.objs.size], _, _, H1, rfl, I2, turn_enumT a (s1.heap.objs.size + 1) s1.heap.objs.size, ⟨⟨.none, he⟩, hit, Nat.succ_ne_self _, Nat.ne_of_lt hal, Nat.ne_of_lt (Nat.lt_succ_of_lt hal)⟩, fun b hb => ?_, q⟩
    have e' : b = s1.heap.objs.size + 1 ∨ b = s1.heap.objs.size := by simpa using hb
    have hle : s1.heap.objs.size ≤ b := by
      rcases e' with z | z
      · rw [z]; exact Nat.le_add_right _ _
      · rw [z]; exact Nat.le_refl _
    exact I1.fpOk hle (I1.hok.fresh hle)
/-- the turns of enumerate(tuple) -/
theorem walk_enumT {K : PySem.W.Frag} {a : Addr} {xs : List V} : Walk (IteT K a) xs.length (fun H => SqT K H a xs) (fun i H v H' => ∃ T x, v = .ref T ∧ H T = none ∧ H' = upd H T (.tup [.int (i : Nat), x]) ∧ xs[i]? = some x) where
  goes := fun i _ hi q => ⟨xs, xs[i], q, List.getElem?_eq_getElem hi⟩
  stops := fun _ q => ⟨xs, q, rfl⟩
  yields := fun i H v H' _ q y => by
    obtain ⟨T, x, e1, e2, e3, e4⟩ := y
    exact ⟨T, x, e1, e2, e3, e4 xs q⟩
theorem extT_meets (l b : Addr) (xs ys : Array Value) (n m : Nat) (dct : Option Addr) (sl : Array (Option Value)) (h0 : ¬ (!xs.isEmpty && Builtin.List.listTooLong (xs.size + ys.size)) = true) (h1 : xs.size ≤ sizeLine) (h2 : xs.size + ys.size ≤ sizeLine + 1) :
    Meets (Builtin.«list.extend» ⟨[.ref l, .ref b], []⟩) fun _ R s => s.heap.get? l = some { cls := .type "list", data := .seq xs n } ∧ s.heap.get? b = some { cls := .type "tuple", dict := dct, data := .seq ys m, slots := sl } ∧
      R (.ok (.ret Value.none)) { s with heap := s.heap.update l (Obj.mapSeq fun x => x ++ ys), toks := s.toks } := by
  refine .of_wp fun pr wo A R s hs => ?_
  rcases s with ⟨H0, g, d, tk, os⟩
  obtain ⟨ho, hb, hR⟩ := hs
  have _a := AutoSeq1.idx_int
  have _b := AutoSeq1.sub_tuple_tuple
  have _c := AutoSeq1.sub_list_list
  have _d := AutoSeq1.sub_tuple_list
  have _e := AutoSeq1.sub_list_tuple
  have zz : (xs ++ ys).size ≤ sizeLine + 1 := Array.size_append ▸ h2
  wp_walk using (wpAny_updateSeq ho rfl (hz := h1) (_hz' := zz)), AutoSeq1.wpAny_loadPart' ho, AutoSeq1.wpAny_loadPart' hb
  exact ⟨_, rfl, hR⟩
def rExtT (K : PySem.W.Frag) : V → List V → Hp → VK → Prop := fun x vs H Q => ∃ l b xs zs, x = .ref l ∧ vs = [.ref b] ∧ H l = some (.lst xs) ∧ SqT K H b zs ∧ xs.length + zs.length ≤ sizeLine ∧ Q .non (upd H l (.lst (xs ++ zs)))
theorem mt_extT {X : Cx} : MtM X "list.extend" (rExtT X.K) := by
  intro pins s σ H x vs v us Q I rx rv h
  obtain ⟨l, b, xs, zs, rfl, rfl, hl, hb, hz, q⟩ := h
  cases rx
  obtain ⟨u, rfl, ru⟩ := rv.one
  cases ru
  obtain ⟨_, its, n, r1, len1, e1⟩ := I.lstM hl
  obtain ⟨jts, r2, ⟨⟨cl, dd, da, sl⟩, e2, hc, m, hd⟩, _⟩ := I.tuple hb
  replace hc : cl = .type "tuple" := hc
  replace hd : da = .seq jts.toArray m := hd
  subst hc hd
  have len2 := r2.length
  have tot : its.toArray.size + jts.toArray.size ≤ sizeLine := by simp only [List.size_toArray]; omega
  have small : Builtin.List.listTooLong (its.toArray.size + jts.toArray.size) = false := notLongL tot
  refine call_meets F.slot_list_extend ⟨_, e1, rfl⟩ F.entry_list_extend (F.args_list_extend_2 _ _)
    (extT_meets l b its.toArray jts.toArray n m dd sl (by rw [small, Bool.and_false]; decide) (by omega) (by omega)) ⟨e1, e2, .non, _, I.lset (its' := its ++ jts) hl e1 (by simp) (r1.append r2) (by rw [List.length_append]; omega), rfl, q⟩
theorem iEnumT_eq {K : PySem.W.Frag} {ta : TA} {σ : L2.St} {H : Hp} {R : It → Hp → Prop} : iEnumT K ta σ H R = ta σ H fun vs H1 => ∃ a xs, vs = [.ref a] ∧ SqT K H1 a xs ∧ R (IteT K a) H1 := rfl
def rDNotIn : R2 := fun y x H2 Q => ∃ a o, x = .ref a ∧ DGet H2 a y o ∧ Q (.bl (!o.isSome)) H2
theorem rDNotIn_eq {td ty : TE} {σ : L2.St} {H : Hp} {Q : VK} : tDNotIn ty td σ H Q = ty σ H fun y H1 => td σ H1 fun x H2 => rDNotIn y x H2 Q := rfl
theorem i_dnotin {H : Hp} {a : Addr} {kvs : List (Key × V)} {k : Key} {Q : VK} (h : H a = some (.dK kvs)) (q : Q (.bl (!(valV kvs k).isSome)) H) : rDNotIn (kV k) (.ref a) H Q := ⟨a, _, rfl, DGet.k h, q⟩
theorem op_catAK (K : PySem.W.Frag) {X : Cx} (h : X.K = K := by rfl) : OpR X (binaryOp .Add) (rCatA K) := h ▸ op_catA
theorem sl_tupAK (K : PySem.W.Frag) {X : Cx} (h : X.K = K := by rfl) : SlR X (rSlA K) := h ▸ sl_tupA

/-- [x for x in .. if p x] -/
theorem i_lcF {α : Type} {J : It} {l : List α} {r : α → V} {G : Hp → Prop} (w : Walk J l.length G (YL l r)) {j : Nat} {tt : TT} {te : TE} {σ : L2.St} {H : Hp} {Q : VK} (p : α → Bool) (hn : l.length < sizeLine) (hG : ∀ D ys, H D = none → G (upd H D (.lst ys)))
    (ht : ∀ c ∈ l, ∀ H1 (Q' : Bool → Hp → Prop), Same H H1 → Q' (p c) H1 → tt ((wipe σ [j]).set j (some (r c))) H1 Q')
    (hs : ∀ c ∈ l, ∀ H1 (Q' : VK), Same H H1 → Q' (r c) H1 → te ((wipe σ [j]).set j (some (r c))) H1 Q') (q : ∀ D, H D = none → Q (.ref D) (upd H D (.lst ((l.filter p).map r)))) : rLcJ J (gName j) tt te [j] σ H Q := by
  intro D hD
  have ss : ∀ ys, Same H (upd H D (.lst ys)) := fun ys b o h => by rw [upd_ne (ne_of_none h hD)]; exact h
  refine lc_it w (fun i H' => H' = upd H D (.lst (((l.take i).filter p).map r))) rfl (fun i H' _ e => by subst e; exact hG D _ hD) (fun i x H1 H2 hi e y => ?_) (fun H' e => by subst e; rw [List.take_length]; exact q D hD)
  obtain ⟨e2, c, hc, rfl⟩ := y
  subst e2
  subst e
  have hm := List.mem_of_getElem? hc
  have et : (l.take (i + 1)).filter p = (l.take i).filter p ++ (if p c = true then [c] else []) := by
    rw [List.take_add_one, hc, List.filter_append]
    cases h : p c <;> simp [h]
  refine ⟨wipe_one, ht c hm _ _ (ss _) ?_⟩
  by_cases h : p c = true
  · rw [if_pos h] at et ⊢
    refine hs c hm _ _ (ss _) ⟨_, upd_same, ?_, ?_⟩
    · rw [List.length_map]
      have h1 := List.length_filter_le p (l.take i)
      rw [List.length_take] at h1
      omega
    · rw [upd_upd, et, List.map_append]; rfl
  · rw [if_neg h] at et ⊢
    rw [et, List.append_nil]
theorem i_if2 {A B X Y : Prop} [Decidable A] [Decidable B] (h1 : A → B → X) (h2 : ¬ (A ∧ B) → Y) : if A then (if B then X else Y) else Y := ite2 (fun a => ite2 (h1 a) (fun nb => h2 fun k => nb k.2)) (fun na => h2 fun k => na k.1)
/-- [e for x in ..], e leaves what was and a pure value -/
theorem i_lcS {α : Type} {J : It} {l : List α} {r : α → V} {G : Hp → Prop} (w : Walk J l.length G (YL l r)) {j : Nat} {te : TE} {σ : L2.St} {H : Hp} {Q : VK} (g : α → V) (hn : l.length < sizeLine) (hG : ∀ H', Same H H' → G H')
    (hs : ∀ c ∈ l, ∀ H1 (Q' : VK), Same H H1 → (∀ H2, Same H1 H2 → Q' (g c) H2) → te ((wipe σ [j]).set j (some (r c))) H1 Q') (q : ∀ D H', H D = none → Same H H' → H' D = some (.lst (l.map g)) → Q (.ref D) H') : rLcJ J (gName j) tYes te [j] σ H Q := by
  intro D hD
  refine lc_it w (fun i H' => Same H H' ∧ H' D = some (.lst ((l.take i).map g))) ⟨same_new hD, upd_same⟩ (fun i H' _ e => hG H' e.1) (fun i x H1 H2 hi e y => ?_) (fun H' e => by obtain ⟨e1, e2⟩ := e; rw [List.take_length] at e2; exact q D H' hD e1 e2)
  obtain ⟨e2, c, hc, rfl⟩ := y
  subst e2
  obtain ⟨e1, e2⟩ := e
  refine ⟨wipe_one, hs c (List.mem_of_getElem? hc) H2 (fun y H4 => ∃ acc, H4 D = some (.lst acc) ∧ acc.length < sizeLine ∧ (Same H (upd H4 D (.lst (acc ++ [y]))) ∧ (upd H4 D (.lst (acc ++ [y]))) D = some (.lst ((l.take (i + 1)).map g)))) e1 fun H4 s4 => ?_⟩
  refine ⟨_, s4 D _ e2, by rw [List.length_map, List.length_take]; omega, fun b o hb => by rw [upd_ne (ne_of_none hb hD)]; exact s4 b o (e1 b o hb), ?_⟩
  rw [upd_same, List.take_add_one, hc, List.map_append]; rfl

/-! ### frozen data: tuples all the way down -/
section
variable (K : PySem.W.Frag)
def SqC (H : Hp) (a : Addr) (xs : List V) : Prop := H a = some (.tup xs) ∨ ∀ G, SqT K G a xs
mutual
inductive Fr (H : Hp) : V → PyData → Prop
  | non : Fr H .non .none
  | bl (b : Bool) : Fr H (.bl b) (.bool b)
  | int (i : Int) : Fr H (.int i) (.int i)
  | str (x : Str) : Fr H (.str x) (.str x)
  | tup {a : Addr} {xs : List V} {ds : List PyData} : SqC K H a xs → FrL H xs ds → Fr H (.ref a) (.tuple ds)
inductive FrL (H : Hp) : List V → List PyData → Prop
  | nil : FrL H [] []
  | cons {v : V} {vs : List V} {d : PyData} {ds : List PyData} : Fr H v d → FrL H vs ds → FrL H (v :: vs) (d :: ds)
end
end
def TupK (H H' : Hp) : Prop := ∀ (p : Addr) (xs : List V), H p = some (.tup xs) → H' p = some (.tup xs)
theorem TupK.of {H H' : Hp} (s : Same H H') : TupK H H' := fun p _ h => s p _ h
theorem TupK.trans {H H1 H2 : Hp} (s : TupK H H1) (t : TupK H1 H2) : TupK H H2 := fun p xs h => t p xs (s p xs h)
theorem TupK.refl (H : Hp) : TupK H H := fun _ _ h => h
theorem TupK.mut {H : Hp} {l : Addr} {o u : HO} (h : H l = some u) (n : ∀ xs, u ≠ .tup xs) : TupK H (upd H l o) := fun p ys k => by
  have : p ≠ l := fun e => by rw [e, h] at k; exact n _ (Option.some.inj k)
  rw [upd_ne this]; exact k
section
variable {K : PySem.W.Frag} {H H' : Hp}
theorem SqC.sq {a : Addr} {xs : List V} (h : SqC K H a xs) : SqT K H a xs := h.elim sqT_of fun g => g H
theorem SqC.up {a : Addr} {xs : List V} (s : TupK H H') (h : SqC K H a xs) : SqC K H' a xs := h.imp (s a xs) id
mutual
theorem Fr.up (s : TupK H H') : ∀ {v : V} {d : PyData}, Fr K H v d → Fr K H' v d
  | _, _, .non => .non
  | _, _, .bl b => .bl b
  | _, _, .int i => .int i
  | _, _, .str x => .str x
  | _, _, .tup h t => .tup (h.up s) (FrL.up s t)
theorem FrL.up (s : TupK H H') : ∀ {vs : List V} {ds : List PyData}, FrL K H vs ds → FrL K H' vs ds
  | _, _, .nil => .nil
  | _, _, .cons h t => .cons (Fr.up s h) (FrL.up s t)
end
mutual
theorem Fr.dp : ∀ {v : V} {d : PyData}, Fr K H v d → Dp K H v d
  | _, _, .non => .non
  | _, _, .bl b => .bl b
  | _, _, .int i => .int i
  | _, _, .str x => .str x
  | _, _, .tup h t => .tup h.sq (FrL.dp t)
theorem FrL.dp : ∀ {vs : List V} {ds : List PyData}, FrL K H vs ds → DpAll K H vs ds
  | _, _, .nil => .nil
  | _, _, .cons h t => .cons (Fr.dp h) (FrL.dp t)
end
theorem FrL.len : ∀ {vs : List V} {ds : List PyData}, FrL K H vs ds → vs.length = ds.length
  | _, _, .nil => rfl
  | _, _, .cons _ t => congrArg (· + 1) (FrL.len t)
theorem FrL.get : ∀ {vs : List V} {ds : List PyData}, FrL K H vs ds → ∀ {i : Nat} {d : PyData}, ds[i]? = some d → ∃ v, vs[i]? = some v ∧ Fr K H v d
  | _, _, .nil, _, _, e => by simp at e
  | _, _, .cons h t, 0, _, e => by simp at e; subst e; exact ⟨_, rfl, h⟩
  | _, _, .cons h t, i + 1, d, e => by
    obtain ⟨v, h1, h2⟩ := FrL.get t (i := i) (d := d) (by simpa using e)
    exact ⟨v, by simpa using h1, h2⟩
theorem FrL.getV {vs : List V} {ds : List PyData} (h : FrL K H vs ds) {i : Nat} {v : V} (e : vs[i]? = some v) : ∃ d, ds[i]? = some d ∧ Fr K H v d := by
  have hl := h.len
  obtain ⟨hi, _⟩ := List.getElem?_eq_some_iff.mp e
  have hi2 : i < ds.length := by omega
  obtain ⟨u, hu, hf⟩ := h.get (List.getElem?_eq_getElem hi2)
  rw [e] at hu
  cases hu
  exact ⟨_, List.getElem?_eq_getElem hi2, hf⟩
theorem FrL.app : ∀ {vs ws : List V} {ds es : List PyData}, FrL K H vs ds → FrL K H ws es → FrL K H (vs ++ ws) (ds ++ es)
  | _, _, _, _, .nil, k => k
  | _, _, _, _, .cons h t, k => .cons h (FrL.app t k)
theorem FrL.take : ∀ {vs : List V} {ds : List PyData} (n : Nat), FrL K H vs ds → FrL K H (vs.take n) (ds.take n)
  | _, _, 0, _ => by simp; exact .nil
  | _, _, _ + 1, .nil => .nil
  | _, _, n + 1, .cons h t => by simp; exact .cons h (FrL.take n t)
/-- what stands for a tuple -/
theorem Fr.inv {v : V} {ds : List PyData} (h : Fr K H v (.tuple ds)) : ∃ a xs, v = .ref a ∧ SqC K H a xs ∧ FrL K H xs ds := by
  cases h with
  | tup h t => exact ⟨_, _, rfl, h, t⟩
theorem Fr.strI {v : V} {x : Str} (h : Fr K H v (.str x)) : v = .str x := by cases h; rfl
theorem Fr.intI {v : V} {i : Int} (h : Fr K H v (.int i)) : v = .int i := by cases h; rfl
theorem Fr.new {p : Addr} {xs : List V} {ds : List PyData} (h : FrL K (upd H p (.tup xs)) xs ds) : Fr K (upd H p (.tup xs)) (.ref p) (.tuple ds) := .tup (.inl upd_same) h
/-- v[i] of a frozen tuple -/
theorem i_ixF {v : V} {ds : List PyData} {i : Nat} {d : PyData} {Q : VK} (h : Fr K H v (.tuple ds)) (e : ds[i]? = some d) (q : ∀ x, Fr K H x d → Q x H) : rIxT K v (.int i) H Q := by
  obtain ⟨a, xs, rfl, sq, fl⟩ := h.inv
  obtain ⟨x, hx, fx⟩ := fl.get e
  exact i_ixT sq.sq (atI_nat hx) (q x fx)
theorem i_ixFs {v : V} {ds : List PyData} {i : Nat} {s : Str} {Q : VK} (h : Fr K H v (.tuple ds)) (e : ds[i]? = some (.str s)) (q : Q (.str s) H) : rIxT K v (.int i) H Q := i_ixF h e fun x fx => by rw [fx.strI]; exact q
theorem i_ixFi {v : V} {ds : List PyData} {i : Nat} {n : Int} {Q : VK} (h : Fr K H v (.tuple ds)) (e : ds[i]? = some (.int n)) (q : Q (.int n) H) : rIxT K v (.int i) H Q := i_ixF h e fun x fx => by rw [fx.intI]; exact q
theorem i_lenF {v : V} {ds : List PyData} {Q : VK} (h : Fr K H v (.tuple ds)) (q : Q (.int ds.length) H) : rLenT K [v] H Q := by
  obtain ⟨a, xs, rfl, sq, fl⟩ := h.inv
  exact i_lenT sq.sq (by rw [fl.len]; exact q)
end
/-! ### types, heads, modules -/
inductive Kd where
  | int | bytes | nothing | null
  | cls (k : Nat)
  | fac (p f : Str)
  deriving DecidableEq
def Kd.d : Kd → PyData
  | .int => .tuple [.str "int"]
  | .bytes => .tuple [.str "bytes"]
  | .nothing => .tuple [.str "nothing"]
  | .null => .tuple [.str "null"]
  | .cls k => .tuple [.str "class", .int k]
  | .fac p f => .tuple [.str "face", .str p, .str f]
structure Hd where
  nm : Str
  ps : List Kd
  rs : Kd
  deriving DecidableEq
def Hd.ds (h : Hd) : List PyData := [.str h.nm, .tuple (h.ps.map Kd.d), h.rs.d]
def Hd.d (h : Hd) : PyData := .tuple h.ds
structure Rw where
  h : Hd
  m : Nat
  deriving DecidableEq
def Rw.d (r : Rw) : PyData := .tuple (r.h.ds ++ [.int r.m])
structure Cl where
  nm : Str
  par : Int
  fcs : List (Str × Str)
  fds : List Kd
  tb : List Rw
def fcD (f : Str × Str) : PyData := .tuple [.str "face", .str f.1, .str f.2]
def Cl.d (c : Cl) : PyData := .tuple [.str c.nm, .int c.par, .tuple (c.fcs.map fcD), .tuple (c.fds.map Kd.d), .tuple (c.tb.map Rw.d)]
structure Mt where
  k : Int
  h : Hd
  vars : List Kd
  rest : List PyData
def Mt.d (m : Mt) : PyData := .tuple (.int m.k :: m.h.ds ++ .tuple (m.vars.map Kd.d) :: m.rest)
structure Md where
  nm : Str
  ver : Int
  uses : List (Str × Int)
  fcs : List (Str × List Hd)
  cls : List Cl
  mts : List Mt
  apps : List Nat
def useD (u : Str × Int) : PyData := .tuple [.str u.1, .int u.2]
def faceD (f : Str × List Hd) : PyData := .tuple [.str f.1, .tuple (f.2.map Hd.d)]
def Md.ds (m : Md) : List PyData := [.str "module", .str m.nm, .int m.ver, .tuple (m.uses.map useD), .tuple (m.fcs.map faceD), .tuple (m.cls.map Cl.d), .tuple (m.mts.map Mt.d), .tuple (m.apps.map fun k : Nat => .int k)]
def Md.d (m : Md) : PyData := .tuple m.ds
def faceKd (f : Str × Str) : Kd := .fac f.1 f.2
theorem fcD_eq (f : Str × Str) : fcD f = (faceKd f).d := rfl
/-! ancestors -/
def parOf (cs : List Cl) (k : Int) : Int := match cs[k.toNat]? with
  | some c => c.par
  | none => -1
def anc (cs : List Cl) : Nat → Int → List Int
  | 0, _ => []
  | n + 1, k => if k < 0 then [] else k :: anc cs n (parOf cs k)
/-- each parent stands ahead of its heirs -/
def Ahead (cs : List Cl) : Prop := ∀ (k : Nat) (c : Cl), cs[k]? = some c → -1 ≤ c.par ∧ c.par < k
def ancs (cs : List Cl) (k : Int) : List Int := anc cs (k + 1).toNat k
theorem anc_more {cs : List Cl} (w : Ahead cs) : ∀ (n : Nat) (k : Int), k < n → -1 ≤ k → k < cs.length → anc cs n k = ancs cs k := by
  intro n
  induction n using Nat.strongRecOn with
  | ind n ih =>
    intro k h1 h2 h3
    cases n with
    | zero =>
      have : k = -1 := by omega
      subst this; rfl
    | succ n =>
      unfold ancs
      by_cases hk : k < 0
      · have : k = -1 := by omega
        subst this; rfl
      · obtain ⟨j, rfl⟩ := Int.eq_ofNat_of_zero_le (show 0 ≤ k by omega)
        have hj : j < cs.length := by omega
        have e1 : ((j : Int) + 1).toNat = j + 1 := by omega
        have hp := w j cs[j] (List.getElem?_eq_getElem hj)
        have ep : parOf cs (j : Int) = cs[j].par := by
          unfold parOf
          rw [Int.toNat_natCast, List.getElem?_eq_getElem hj]
        rw [e1]
        show (if (j : Int) < 0 then [] else (j : Int) :: anc cs n (parOf cs j)) = (if (j : Int) < 0 then [] else (j : Int) :: anc cs j (parOf cs j))
        rw [if_neg hk, if_neg hk, ep, ih n (by omega) cs[j].par (by omega) hp.1 (by omega), ih j (by omega) cs[j].par hp.2 hp.1 (by omega)]
theorem ancs_neg {cs : List Cl} {k : Int} (h : k < 0) : ancs cs k = [] := by
  unfold ancs
  cases e : (k + 1).toNat with
  | zero => rfl
  | succ n => show (if k < 0 then _ else _) = _; rw [if_pos h]
theorem ancs_step {cs : List Cl} (w : Ahead cs) {k : Nat} {c : Cl} (h : cs[k]? = some c) : ancs cs k = (k : Int) :: ancs cs c.par := by
  have hk : k < cs.length := (List.getElem?_eq_some_iff.mp h).1
  have hp := w k c h
  unfold ancs
  rw [show ((k : Int) + 1).toNat = k + 1 by omega]
  show (if (k : Int) < 0 then [] else (k : Int) :: anc cs k (parOf cs k)) = _
  rw [if_neg (by omega)]
  have ep : parOf cs (k : Int) = c.par := by
    unfold parOf
    rw [Int.toNat_natCast, h]
  rw [ep, anc_more w k c.par hp.2 hp.1 (by omega)]
  rfl
theorem ancs_len {cs : List Cl} (w : Ahead cs) : ∀ (n : Nat) (k : Int), k < n → -1 ≤ k → k < cs.length → (ancs cs k).length ≤ n ∧ ∀ j ∈ ancs cs k, 0 ≤ j ∧ j ≤ k := by
  intro n
  induction n with
  | zero => intro k h1 h2 h3; rw [ancs_neg (by omega)]; exact ⟨Nat.zero_le _, fun _ h => nomatch h⟩
  | succ n ih =>
    intro k h1 h2 h3
    by_cases hk : k < 0
    · rw [ancs_neg hk]; exact ⟨Nat.zero_le _, fun _ h => nomatch h⟩
    · obtain ⟨j, rfl⟩ := Int.eq_ofNat_of_zero_le (show 0 ≤ k by omega)
      have hj : j < cs.length := by omega
      have hp := w j cs[j] (List.getElem?_eq_getElem hj)
      rw [ancs_step w (List.getElem?_eq_getElem hj)]
      obtain ⟨i1, i2⟩ := ih cs[j].par (by omega) hp.1 (by omega)
      refine ⟨by rw [List.length_cons]; omega, fun x hx => ?_⟩
      rcases List.mem_cons.mp hx with rfl | hx
      · omega
      · have := i2 x hx; omega

/-! ### for .. in a list or a tuple, told only by the run -/
def iLT (K : PySem.W.Frag) (tl : TE) : TI := fun σ H R => tl σ H fun x H1 => ∃ a, x = .ref a ∧ (((∃ xs, SqL K H1 a xs) ∧ R (Itl K a) H1) ∨ ((∃ xs, SqT K H1 a xs) ∧ R (Itt K a) H1))
theorem pi_lt {X : Cx} {tg : Expr} {l : Expr} {tl : TE} (hl : PE X l tl) : PI X tg l (iLT X.K tl) := by
  refine ⟨fun pins s σ H R I h => ?_⟩
  refine thn (hl.run pins s σ H _ I h) fun v s1 ⟨x, H1, I1, r1, q1⟩ => ?_
  obtain ⟨a, e, q⟩ := q1
  subst e
  cases r1
  rcases q with ⟨⟨xs, hq⟩, q⟩ | ⟨⟨xs, hq⟩, q⟩
  · obtain ⟨its, rv, p, hz⟩ := I1.list hq
    refine wpAny_pyIter_list p.isList ?_
    refine ⟨s1.heap.objs.size, [s1.heap.objs.size], _, _, H1, rfl, I1.kept (t' := s1.toks) fun b o e => Heap.get?_push_of_some _ e, turn_list a _, ⟨_, Heap.get?_push_size _ rfl, rfl, rfl⟩, fun b hb => ?_, q⟩
    have e : b = s1.heap.objs.size := by simpa using hb
    subst e
    exact I1.fpOk (Nat.le_refl _) (I1.hok.fresh (Nat.le_refl _))
  · obtain ⟨its, rv, p, hz⟩ := I1.tuple hq
    refine wpAny_pyIter_tuple (show s1.heap.IsTuple a its.toArray from p) ?_
    refine ⟨s1.heap.objs.size, [s1.heap.objs.size], _, _, H1, rfl, I1.kept (t' := s1.toks) fun b o e => Heap.get?_push_of_some _ e, turn_tuple a _, ⟨_, Heap.get?_push_size _ rfl, rfl, rfl⟩, fun b hb => ?_, q⟩
    have e : b = s1.heap.objs.size := by simpa using hb
    subst e
    exact I1.fpOk (Nat.le_refl _) (I1.hok.fresh (Nat.le_refl _))
/-- a list that nothing changes, or a tuple that was made once -/
def SqX (K : PySem.W.Frag) (H : Hp) (a : Addr) (xs : List V) : Prop := H a = some (.lst xs) ∨ SqC K H a xs
theorem SqX.same {K : PySem.W.Frag} {H H' : Hp} {a : Addr} {xs : List V} (h : SqX K H a xs) (s : Same H H') : SqX K H' a xs := h.imp (s _ _) (SqC.up (.of s))
theorem i_forLT {K : PySem.W.Frag} {a : Addr} {xs : List V} {j : Nat} {tb : TS} {D : Ends} {σ : L2.St} {H : Hp} (h : SqX K H a xs) (Pv : Nat → L2.St → Hp → Prop) (h0 : Pv 0 σ H) (hG : ∀ i σ' H', Pv i σ' H' → Same H H')
    (hs : ∀ i x σ H, i < xs.length → Pv i σ H → xs[i]? = some x → tb { D with nx := Pv (i + 1), ct := Pv (i + 1), bk := D.nx } (σ.set j (some x)) H) (hd : ∀ σ H, Pv xs.length σ H → D.nx σ H) :
    ((∃ xs, SqL K H a xs) ∧ rForJ (Itl K a) (gName j) tb D σ H) ∨ ((∃ xs, SqT K H a xs) ∧ rForJ (Itt K a) (gName j) tb D σ H) := by
  rcases h with h | h
  · refine .inl ⟨⟨_, sqL_of h⟩, i_for (walk_list (K := K) (a := a) (xs := xs)) Pv h0 (fun i σ' H' _ q => sqL_of (hG _ _ _ q _ _ h)) ?_ hd⟩
    rintro i x σ' H1 H2 hi q ⟨rfl, hx⟩
    exact hs i x σ' _ hi q hx
  · refine .inr ⟨⟨_, h.sq⟩, i_for (walk_tup (K := K) (a := a) (xs := xs)) Pv h0 (fun i σ' H' _ q => (h.up (.of (hG _ _ _ q))).sq) ?_ hd⟩
    rintro i x σ' H1 H2 hi q ⟨rfl, hx⟩
    exact hs i x σ' _ hi q hx

local macro_rules | `(tactic| walk_at "rd") => `(tactic| try simp only [L2.start, cxOf, tVar, tC, tOp, tUn, rI0, rI, rU, tCB, tCons, tNil, tAsg, tAug, ipI, gName, gSub, tDrop, tSub, tAdd, tMul, tCmp, t2I, tIsN, tNotN, tRet, tDGet_eq, sDPut_eq, tMeth_eq, tMethS_eq, tMkO_eq, tOst_eq, tXf_eq, iRevR_eq, tRg1_eq, tRg2_eq, tLstRg_eq, tRevL_eq, tMake, tFld_eq, sFld_eq, sFldAug_eq, rSub, rAdd, tCallS, tDisp, tPairs, rIntA, tDNewK, wipe, tFor_J, tLc_J, iRng1, iRng2, iList, iLT, iTup, iStr, tM1, tM0, tBM, tBM0, tSl, tPart, tNoPart, tLst, tTup, sizeLine_eq, Nat.reduceLeDiff, true_and, tIfS, tTest, tB, tAnd, tOr, tNot, tAndV, tOrV, tNotV, tChain, rEq, rNe, rNotB, rIsB, sc_ii, sc_ss, sc_bb, sc_in, sc_ni, sc_nn, sc_is, sc_si, sc_ns, sc_sn, sc_bn, sc_nb, sc_sb, sc_bs, tCall, iEnum_eq, iEnumT_eq, rDNotIn_eq, tDPop1, tDPop2, tCallL, tLock, tLockE, tDNotIn, tDIn, iKeys, tNext,  List.map, List.length, List.replicate, List.cons_append, List.nil_append, List.append_nil, List.getElem?_cons_zero, List.getElem?_cons_succ, List.set_cons_zero, List.set_cons_succ, Option.some.injEq, exists_eq_left', exists_eq_left, exists_eq', V.int.injEq, V.str.injEq, V.ref.injEq, V.bl.injEq, List.cons.injEq, and_true, true_and, and_assoc, exists_and_left, Int.reduceLT, Int.reduceNeg, Int.reduceLE, ↓reduceIte, Bool.false_eq_true, Bool.not_true, Bool.not_false, reduceCtorEq, false_and, and_false, exists_false, or_false, false_or, Nat.reduceAdd, Nat.reduceSub, decide_eq_true_eq, decide_true, decide_false])

def topS (i : Nat) : Stmt := PySem.Challenge.pw_warycard_k51_whole_order_of_adding.main.body.getD i (.Pass ⟨0, 0, 0, 0⟩)
abbrev s_must : Stmt := topS 8
theorem sc_must : FnScope ["condition"] ["condition"] (defScope s_must) := ⟨rfl, rfl, rfl, by decide +kernel, rfl, by decide +kernel, by decide +kernel⟩
abbrev s_is_class : Stmt := topS 9
theorem sc_is_class : FnScope ["kind"] ["kind"] (defScope s_is_class) := ⟨rfl, rfl, rfl, by decide +kernel, rfl, by decide +kernel, by decide +kernel⟩
abbrev s_is_face : Stmt := topS 10
theorem sc_is_face : FnScope ["kind"] ["kind"] (defScope s_is_face) := ⟨rfl, rfl, rfl, by decide +kernel, rfl, by decide +kernel, by decide +kernel⟩
abbrev s_ancestors_of : Stmt := topS 11
theorem sc_ancestors_of : FnScope ["module", "k", "found"] ["module", "k"] (defScope s_ancestors_of) := ⟨rfl, rfl, rfl, by decide +kernel, rfl, by decide +kernel, by decide +kernel⟩
abbrev s_faces_of : Stmt := topS 12
theorem sc_faces_of : FnScope ["module", "k", "found", "ancestor"] ["module", "k"] (defScope s_faces_of) := ⟨rfl, rfl, rfl, by decide +kernel, rfl, by decide +kernel, by decide +kernel⟩
abbrev s_row_of : Stmt := topS 13
theorem sc_row_of : FnScope ["table", "name", "place", "row"] ["table", "name"] (defScope s_row_of) := ⟨rfl, rfl, rfl, by decide +kernel, rfl, by decide +kernel, by decide +kernel⟩
abbrev s_Draft_init : Stmt := inClass (topS 14) 0
theorem sc_Draft_init : FnScope ["self", "world", "module"] ["self", "world", "module"] (defScope s_Draft_init) := ⟨rfl, rfl, rfl, by decide +kernel, rfl, by decide +kernel, by decide +kernel⟩
abbrev s_Draft_check : Stmt := inClass (topS 14) 1
theorem sc_Draft_check : FnScope ["self", "_", "name", "uses", "faces", "classes", "methods", "applets", "used", "version", "heads", "method", "k", "row", "head"] ["self"] (defScope s_Draft_check) := ⟨rfl, rfl, rfl, by decide +kernel, rfl, by decide +kernel, by decide +kernel⟩
abbrev s_Draft__face : Stmt := inClass (topS 14) 2
theorem sc_Draft__face : FnScope ["self", "package", "name", "face"] ["self", "package", "name"] (defScope s_Draft__face) := ⟨rfl, rfl, rfl, by decide +kernel, rfl, by decide +kernel, by decide +kernel⟩
abbrev s_Draft__check_kinds : Stmt := inClass (topS 14) 3
theorem sc_Draft__check_kinds : FnScope ["self", "kinds", "kind"] ["self", "kinds"] (defScope s_Draft__check_kinds) := ⟨rfl, rfl, rfl, by decide +kernel, rfl, by decide +kernel, by decide +kernel⟩
abbrev s_Draft__check_heads : Stmt := inClass (topS 14) 4
theorem sc_Draft__check_heads : FnScope ["self", "heads", "_", "params", "result"] ["self", "heads"] (defScope s_Draft__check_heads) := ⟨rfl, rfl, rfl, by decide +kernel, rfl, by decide +kernel, by decide +kernel⟩
abbrev s_Draft__check_faces : Stmt := inClass (topS 14) 5
theorem sc_Draft__check_faces : FnScope ["self", "k", "table", "rows", "face", "head", "row"] ["self", "k", "table"] (defScope s_Draft__check_faces) := ⟨rfl, rfl, rfl, by decide +kernel, rfl, by decide +kernel, by decide +kernel⟩
abbrev s_World_init : Stmt := inClass (topS 15) 0
theorem sc_World_init : FnScope ["self"] ["self"] (defScope s_World_init) := ⟨rfl, rfl, rfl, by decide +kernel, rfl, by decide +kernel, by decide +kernel⟩
abbrev s_World_add : Stmt := inClass (topS 15) 1
theorem sc_World_add : FnScope ["self", "module", "k"] ["self", "module"] (defScope s_World_add) := ⟨rfl, rfl, rfl, by decide +kernel, rfl, by decide +kernel, by decide +kernel⟩
abbrev s_World_names : Stmt := inClass (topS 15) 2
theorem sc_World_names : FnScope ["self"] ["self"] (defScope s_World_names) := ⟨rfl, rfl, rfl, by decide +kernel, rfl, by decide +kernel, by decide +kernel⟩
abbrev s_World_module : Stmt := inClass (topS 15) 3
theorem sc_World_module : FnScope ["self", "name"] ["self", "name"] (defScope s_World_module) := ⟨rfl, rfl, rfl, by decide +kernel, rfl, by decide +kernel, by decide +kernel⟩
abbrev s_World_face : Stmt := inClass (topS 15) 4
theorem sc_World_face : FnScope ["self", "package", "name", "face"] ["self", "package", "name"] (defScope s_World_face) := ⟨rfl, rfl, rfl, by decide +kernel, rfl, by decide +kernel, by decide +kernel⟩
abbrev s_World_count : Stmt := inClass (topS 15) 5
theorem sc_World_count : FnScope ["self"] ["self"] (defScope s_World_count) := ⟨rfl, rfl, rfl, by decide +kernel, rfl, by decide +kernel, by decide +kernel⟩
abbrev s_World_number : Stmt := inClass (topS 15) 6
theorem sc_World_number : FnScope ["self", "package", "k"] ["self", "package", "k"] (defScope s_World_number) := ⟨rfl, rfl, rfl, by decide +kernel, rfl, by decide +kernel, by decide +kernel⟩
abbrev s_World_package : Stmt := inClass (topS 15) 7
theorem sc_World_package : FnScope ["self", "g"] ["self", "g"] (defScope s_World_package) := ⟨rfl, rfl, rfl, by decide +kernel, rfl, by decide +kernel, by decide +kernel⟩
abbrev s_World_own : Stmt := inClass (topS 15) 8
theorem sc_World_own : FnScope ["self", "g"] ["self", "g"] (defScope s_World_own) := ⟨rfl, rfl, rfl, by decide +kernel, rfl, by decide +kernel, by decide +kernel⟩
abbrev s_World_fields : Stmt := inClass (topS 15) 9
theorem sc_World_fields : FnScope ["self", "g"] ["self", "g"] (defScope s_World_fields) := ⟨rfl, rfl, rfl, by decide +kernel, rfl, by decide +kernel, by decide +kernel⟩
abbrev s_World_method : Stmt := inClass (topS 15) 10
theorem sc_World_method : FnScope ["self", "g", "row"] ["self", "g", "row"] (defScope s_World_method) := ⟨rfl, rfl, rfl, by decide +kernel, rfl, by decide +kernel, by decide +kernel⟩
abbrev s_World_row : Stmt := inClass (topS 15) 11
theorem sc_World_row : FnScope ["self", "g", "package", "face", "number"] ["self", "g", "package", "face", "number"] (defScope s_World_row) := ⟨rfl, rfl, rfl, by decide +kernel, rfl, by decide +kernel, by decide +kernel⟩
abbrev s_World_is_kind : Stmt := inClass (topS 15) 12
theorem sc_World_is_kind : FnScope ["self", "g", "package", "kind", "module"] ["self", "g", "package", "kind"] (defScope s_World_is_kind) := ⟨rfl, rfl, rfl, by decide +kernel, rfl, by decide +kernel, by decide +kernel⟩
abbrev s_World_fits : Stmt := inClass (topS 15) 13
theorem sc_World_fits : FnScope ["self", "package", "one", "other"] ["self", "package", "one", "other"] (defScope s_World_fits) := ⟨rfl, rfl, rfl, by decide +kernel, rfl, by decide +kernel, by decide +kernel⟩
abbrev s_World_applet : Stmt := inClass (topS 15) 14
theorem sc_World_applet : FnScope ["self", "package", "name", "k"] ["self", "package", "name"] (defScope s_World_applet) := ⟨rfl, rfl, rfl, by decide +kernel, rfl, by decide +kernel, by decide +kernel⟩
abbrev s_World__row : Stmt := inClass (topS 15) 15
theorem sc_World__row : FnScope ["self", "g", "package", "k"] ["self", "g"] (defScope s_World__row) := ⟨rfl, rfl, rfl, by decide +kernel, rfl, by decide +kernel, by decide +kernel⟩
abbrev s_law_bag : Stmt := topS 17
theorem sc_law_bag : FnScope ["_law_script", "_law_k", "_law_cell"] ["_law_script", "_law_k"] (defScope s_law_bag) := ⟨rfl, rfl, rfl, by decide +kernel, rfl, by decide +kernel, by decide +kernel⟩
abbrev s_law_draw : Stmt := topS 18
theorem sc_law_draw : FnScope ["_law_bag_here", "_law_many", "_law_seed", "_law_rest"] ["_law_bag_here", "_law_many"] (defScope s_law_draw) := ⟨rfl, rfl, rfl, by decide +kernel, rfl, by decide +kernel, by decide +kernel⟩
abbrev s_law_types : Stmt := topS 19
theorem sc_law_types : FnScope ["_law_bag_here", "_law_known_here", "_law_classes", "_law_choice"] ["_law_bag_here", "_law_known_here", "_law_classes"] (defScope s_law_types) := ⟨rfl, rfl, rfl, by decide +kernel, rfl, by decide +kernel, by decide +kernel⟩
abbrev s_law_head : Stmt := topS 20
theorem sc_law_head : FnScope ["_law_bag_here", "_law_name", "_law_known_here", "_law_params", "_law_result", "_law_k"] ["_law_bag_here", "_law_name", "_law_known_here"] (defScope s_law_head) := ⟨rfl, rfl, rfl, by decide +kernel, rfl, by decide +kernel, by decide +kernel⟩
abbrev s_law_method : Stmt := topS 21
theorem sc_law_method : FnScope ["_law_methods", "_law_k", "_law_head_here"] ["_law_methods", "_law_k", "_law_head_here"] (defScope s_law_method) := ⟨rfl, rfl, rfl, by decide +kernel, rfl, by decide +kernel, by decide +kernel⟩
abbrev s_law_table : Stmt := topS 22
theorem sc_law_table : FnScope ["_law_bag_here", "_law_k", "_law_parent", "_law_heads", "_law_methods", "_law_applet", "_law_known_here", "_law_table_here", "_law_row", "_law_names", "_law_j", "_law_head_here"] ["_law_bag_here", "_law_k", "_law_parent", "_law_heads", "_law_methods", "_law_applet", "_law_known_here"] (defScope s_law_table) := ⟨rfl, rfl, rfl, by decide +kernel, rfl, by decide +kernel, by decide +kernel⟩
abbrev s_law_heads_of : Stmt := topS 23
theorem sc_law_heads_of : FnScope ["_law_faces_here", "_law_used", "_law_name", "_law_faces_named", "_law_heads", "_law_face", "_law_rows", "_law_one", "_law_head_here"] ["_law_faces_here", "_law_used", "_law_name", "_law_faces_named"] (defScope s_law_heads_of) := ⟨rfl, rfl, rfl, by decide +kernel, rfl, by decide +kernel, by decide +kernel⟩
abbrev s_law_module : Stmt := topS 24
theorem sc_law_module : FnScope ["_law_bag_here", "_law_name", "_law_version", "_law_uses", "_law_used", "_law_known_here", "_law_package", "_law_number", "_law_face", "_law_k", "_law_own", "_law_faces_here", "_law_heads", "_law_classes", "_law_methods", "_law_applets", "_law_many", "_law_parent", "_law_fields", "_law_rows", "_law_named", "_law_applet", "_law_table_here", "_law_j"] ["_law_bag_here", "_law_name", "_law_version", "_law_uses", "_law_used"] (defScope s_law_module) := ⟨rfl, rfl, rfl, by decide +kernel, rfl, by decide +kernel, by decide +kernel⟩
abbrev s_law_known : Stmt := topS 30
theorem sc_law_known : FnScope ["_law_modules_here", "_law_module_here", "_law_kinds", "_law_uses", "_law_other", "_law_k", "_law_row", "_law_face"] ["_law_modules_here", "_law_module_here"] (defScope s_law_known) := ⟨rfl, rfl, rfl, by decide +kernel, rfl, by decide +kernel, by decide +kernel⟩
abbrev s_law_told : Stmt := topS 31
theorem sc_law_told : FnScope ["_law_world", "_law_modules_here", "_law_rows", "_law_module_here", "_law_face", "_law_kinds", "_law_kind_here", "_law_other", "_law_k", "_law_g", "_law_place", "_law_number"] ["_law_world", "_law_modules_here"] (defScope s_law_told) := ⟨rfl, rfl, rfl, by decide +kernel, rfl, by decide +kernel, by decide +kernel⟩
abbrev s_law_refused : Stmt := topS 32
theorem sc_law_refused : FnScope ["_law_world", "_law_module_here"] ["_law_world", "_law_module_here"] (defScope s_law_refused) := ⟨rfl, rfl, rfl, by decide +kernel, rfl, by decide +kernel, by decide +kernel⟩
abbrev s_law_made : Stmt := topS 33
theorem sc_law_made : FnScope ["_law_modules_here", "_law_refused_here", "_law_world", "_law_module_here", "_law_one"] ["_law_modules_here", "_law_refused_here"] (defScope s_law_made) := ⟨rfl, rfl, rfl, by decide +kernel, rfl, by decide +kernel, by decide +kernel⟩
abbrev s_law : Stmt := topS 34
theorem sc_law : FnScope ["_law_script", "_law_bag_here", "_law_one", "_law_other", "_law_uses", "_law_last", "_law_modules_here", "_law_other_uses", "_law_refused_here", "_law_first", "_law_second"] ["_law_script"] (defScope s_law) := ⟨rfl, rfl, rfl, by decide +kernel, rfl, by decide +kernel, by decide +kernel⟩
/-- what the top has left -/
structure Txt (K : PySem.W.Frag) (mg : Str → Option Value) where
  f_must : Addr
  d_must : FuncData
  k_must : Fun K "must" "must" s_must f_must d_must
  b_must : Binds K d_must ["condition"] []
  g_must : mg "must" = some (.ref f_must)
  f_is_class : Addr
  d_is_class : FuncData
  k_is_class : Fun K "is_class" "is_class" s_is_class f_is_class d_is_class
  b_is_class : Binds K d_is_class ["kind"] []
  g_is_class : mg "is_class" = some (.ref f_is_class)
  f_is_face : Addr
  d_is_face : FuncData
  k_is_face : Fun K "is_face" "is_face" s_is_face f_is_face d_is_face
  b_is_face : Binds K d_is_face ["kind"] []
  g_is_face : mg "is_face" = some (.ref f_is_face)
  f_ancestors_of : Addr
  d_ancestors_of : FuncData
  k_ancestors_of : Fun K "ancestors_of" "ancestors_of" s_ancestors_of f_ancestors_of d_ancestors_of
  b_ancestors_of : Binds K d_ancestors_of ["module", "k"] []
  g_ancestors_of : mg "ancestors_of" = some (.ref f_ancestors_of)
  f_faces_of : Addr
  d_faces_of : FuncData
  k_faces_of : Fun K "faces_of" "faces_of" s_faces_of f_faces_of d_faces_of
  b_faces_of : Binds K d_faces_of ["module", "k"] []
  g_faces_of : mg "faces_of" = some (.ref f_faces_of)
  f_row_of : Addr
  d_row_of : FuncData
  k_row_of : Fun K "row_of" "row_of" s_row_of f_row_of d_row_of
  b_row_of : Binds K d_row_of ["table", "name"] []
  g_row_of : mg "row_of" = some (.ref f_row_of)
  f_Draft_init : Addr
  d_Draft_init : FuncData
  k_Draft_init : Fun K "__init__" "Draft.__init__" s_Draft_init f_Draft_init d_Draft_init
  b_Draft_init : Binds K d_Draft_init ["self", "world", "module"] []
  f_Draft_check : Addr
  d_Draft_check : FuncData
  k_Draft_check : Fun K "check" "Draft.check" s_Draft_check f_Draft_check d_Draft_check
  b_Draft_check : Binds K d_Draft_check ["self"] []
  f_Draft__face : Addr
  d_Draft__face : FuncData
  k_Draft__face : Fun K "_face" "Draft._face" s_Draft__face f_Draft__face d_Draft__face
  b_Draft__face : Binds K d_Draft__face ["self", "package", "name"] []
  f_Draft__check_kinds : Addr
  d_Draft__check_kinds : FuncData
  k_Draft__check_kinds : Fun K "_check_kinds" "Draft._check_kinds" s_Draft__check_kinds f_Draft__check_kinds d_Draft__check_kinds
  b_Draft__check_kinds : Binds K d_Draft__check_kinds ["self", "kinds"] []
  f_Draft__check_heads : Addr
  d_Draft__check_heads : FuncData
  k_Draft__check_heads : Fun K "_check_heads" "Draft._check_heads" s_Draft__check_heads f_Draft__check_heads d_Draft__check_heads
  b_Draft__check_heads : Binds K d_Draft__check_heads ["self", "heads"] []
  f_Draft__check_faces : Addr
  d_Draft__check_faces : FuncData
  k_Draft__check_faces : Fun K "_check_faces" "Draft._check_faces" s_Draft__check_faces f_Draft__check_faces d_Draft__check_faces
  b_Draft__check_faces : Binds K d_Draft__check_faces ["self", "k", "table"] []
  f_World_init : Addr
  d_World_init : FuncData
  k_World_init : Fun K "__init__" "World.__init__" s_World_init f_World_init d_World_init
  b_World_init : Binds K d_World_init ["self"] []
  f_World_add : Addr
  d_World_add : FuncData
  k_World_add : Fun K "add" "World.add" s_World_add f_World_add d_World_add
  b_World_add : Binds K d_World_add ["self", "module"] []
  f_World_names : Addr
  d_World_names : FuncData
  k_World_names : Fun K "names" "World.names" s_World_names f_World_names d_World_names
  b_World_names : Binds K d_World_names ["self"] []
  f_World_module : Addr
  d_World_module : FuncData
  k_World_module : Fun K "module" "World.module" s_World_module f_World_module d_World_module
  b_World_module : Binds K d_World_module ["self", "name"] []
  f_World_face : Addr
  d_World_face : FuncData
  k_World_face : Fun K "face" "World.face" s_World_face f_World_face d_World_face
  b_World_face : Binds K d_World_face ["self", "package", "name"] []
  f_World_count : Addr
  d_World_count : FuncData
  k_World_count : Fun K "count" "World.count" s_World_count f_World_count d_World_count
  b_World_count : Binds K d_World_count ["self"] []
  f_World_number : Addr
  d_World_number : FuncData
  k_World_number : Fun K "number" "World.number" s_World_number f_World_number d_World_number
  b_World_number : Binds K d_World_number ["self", "package", "k"] []
  f_World_package : Addr
  d_World_package : FuncData
  k_World_package : Fun K "package" "World.package" s_World_package f_World_package d_World_package
  b_World_package : Binds K d_World_package ["self", "g"] []
  f_World_own : Addr
  d_World_own : FuncData
  k_World_own : Fun K "own" "World.own" s_World_own f_World_own d_World_own
  b_World_own : Binds K d_World_own ["self", "g"] []
  f_World_fields : Addr
  d_World_fields : FuncData
  k_World_fields : Fun K "fields" "World.fields" s_World_fields f_World_fields d_World_fields
  b_World_fields : Binds K d_World_fields ["self", "g"] []
  f_World_method : Addr
  d_World_method : FuncData
  k_World_method : Fun K "method" "World.method" s_World_method f_World_method d_World_method
  b_World_method : Binds K d_World_method ["self", "g", "row"] []
  f_World_row : Addr
  d_World_row : FuncData
  k_World_row : Fun K "row" "World.row" s_World_row f_World_row d_World_row
  b_World_row : Binds K d_World_row ["self", "g", "package", "face", "number"] []
  f_World_is_kind : Addr
  d_World_is_kind : FuncData
  k_World_is_kind : Fun K "is_kind" "World.is_kind" s_World_is_kind f_World_is_kind d_World_is_kind
  b_World_is_kind : Binds K d_World_is_kind ["self", "g", "package", "kind"] []
  f_World_fits : Addr
  d_World_fits : FuncData
  k_World_fits : Fun K "fits" "World.fits" s_World_fits f_World_fits d_World_fits
  b_World_fits : Binds K d_World_fits ["self", "package", "one", "other"] []
  f_World_applet : Addr
  d_World_applet : FuncData
  k_World_applet : Fun K "applet" "World.applet" s_World_applet f_World_applet d_World_applet
  b_World_applet : Binds K d_World_applet ["self", "package", "name"] []
  f_World__row : Addr
  d_World__row : FuncData
  k_World__row : Fun K "_row" "World._row" s_World__row f_World__row d_World__row
  b_World__row : Binds K d_World__row ["self", "g"] []
  f_law_bag : Addr
  d_law_bag : FuncData
  k_law_bag : Fun K "_law_bag" "_law_bag" s_law_bag f_law_bag d_law_bag
  b_law_bag : Binds K d_law_bag ["_law_script", "_law_k"] []
  g_law_bag : mg "_law_bag" = some (.ref f_law_bag)
  f_law_draw : Addr
  d_law_draw : FuncData
  k_law_draw : Fun K "_law_draw" "_law_draw" s_law_draw f_law_draw d_law_draw
  b_law_draw : Binds K d_law_draw ["_law_bag_here", "_law_many"] []
  g_law_draw : mg "_law_draw" = some (.ref f_law_draw)
  f_law_types : Addr
  d_law_types : FuncData
  k_law_types : Fun K "_law_types" "_law_types" s_law_types f_law_types d_law_types
  b_law_types : Binds K d_law_types ["_law_bag_here", "_law_known_here", "_law_classes"] []
  g_law_types : mg "_law_types" = some (.ref f_law_types)
  f_law_head : Addr
  d_law_head : FuncData
  k_law_head : Fun K "_law_head" "_law_head" s_law_head f_law_head d_law_head
  b_law_head : Binds K d_law_head ["_law_bag_here", "_law_name", "_law_known_here"] []
  g_law_head : mg "_law_head" = some (.ref f_law_head)
  f_law_method : Addr
  d_law_method : FuncData
  k_law_method : Fun K "_law_method" "_law_method" s_law_method f_law_method d_law_method
  b_law_method : Binds K d_law_method ["_law_methods", "_law_k", "_law_head_here"] []
  g_law_method : mg "_law_method" = some (.ref f_law_method)
  f_law_table : Addr
  d_law_table : FuncData
  k_law_table : Fun K "_law_table" "_law_table" s_law_table f_law_table d_law_table
  b_law_table : Binds K d_law_table ["_law_bag_here", "_law_k", "_law_parent", "_law_heads", "_law_methods", "_law_applet", "_law_known_here"] []
  g_law_table : mg "_law_table" = some (.ref f_law_table)
  f_law_heads_of : Addr
  d_law_heads_of : FuncData
  k_law_heads_of : Fun K "_law_heads_of" "_law_heads_of" s_law_heads_of f_law_heads_of d_law_heads_of
  b_law_heads_of : Binds K d_law_heads_of ["_law_faces_here", "_law_used", "_law_name", "_law_faces_named"] []
  g_law_heads_of : mg "_law_heads_of" = some (.ref f_law_heads_of)
  f_law_module : Addr
  d_law_module : FuncData
  k_law_module : Fun K "_law_module" "_law_module" s_law_module f_law_module d_law_module
  b_law_module : Binds K d_law_module ["_law_bag_here", "_law_name", "_law_version", "_law_uses", "_law_used"] []
  g_law_module : mg "_law_module" = some (.ref f_law_module)
  f_law_known : Addr
  d_law_known : FuncData
  k_law_known : Fun K "_law_known" "_law_known" s_law_known f_law_known d_law_known
  b_law_known : Binds K d_law_known ["_law_modules_here", "_law_module_here"] []
  g_law_known : mg "_law_known" = some (.ref f_law_known)
  f_law_told : Addr
  d_law_told : FuncData
  k_law_told : Fun K "_law_told" "_law_told" s_law_told f_law_told d_law_told
  b_law_told : Binds K d_law_told ["_law_world", "_law_modules_here"] []
  g_law_told : mg "_law_told" = some (.ref f_law_told)
  f_law_refused : Addr
  d_law_refused : FuncData
  k_law_refused : Fun K "_law_refused" "_law_refused" s_law_refused f_law_refused d_law_refused
  b_law_refused : Binds K d_law_refused ["_law_world", "_law_module_here"] []
  g_law_refused : mg "_law_refused" = some (.ref f_law_refused)
  f_law_made : Addr
  d_law_made : FuncData
  k_law_made : Fun K "_law_made" "_law_made" s_law_made f_law_made d_law_made
  b_law_made : Binds K d_law_made ["_law_modules_here", "_law_refused_here"] []
  g_law_made : mg "_law_made" = some (.ref f_law_made)
  f_law : Addr
  d_law : FuncData
  k_law : Fun K "law" "law" s_law f_law d_law
  b_law : Binds K d_law ["_law_script"] []
  g_law : mg "law" = some (.ref f_law)
  c_CardError : Addr
  g_CardError : mg "CardError" = some (.ref c_CardError)
  c_BadLink : Addr
  g_BadLink : mg "BadLink" = some (.ref c_BadLink)
  c_Draft : Addr
  g_Draft : mg "Draft" = some (.ref c_Draft)
  c_World : Addr
  g_World : mg "World" = some (.ref c_World)
  x_BadLink : Exc K c_BadLink
  ex_BadLink_BadLink : PySem.W.exmOne K (.ref c_BadLink) (.ref c_BadLink) = some true
  cl_Draft : Cls K c_Draft
  mk_Draft : Mk K c_Draft f_Draft_init
  me_Draft_check : Meth K c_Draft "check" f_Draft_check
  me_Draft__face : Meth K c_Draft "_face" f_Draft__face
  me_Draft__check_kinds : Meth K c_Draft "_check_kinds" f_Draft__check_kinds
  me_Draft__check_heads : Meth K c_Draft "_check_heads" f_Draft__check_heads
  me_Draft__check_faces : Meth K c_Draft "_check_faces" f_Draft__check_faces
  nf_Draft_world : NoAttr K c_Draft "_world"
  nf_Draft_module : NoAttr K c_Draft "_module"
  cl_World : Cls K c_World
  mk_World : Mk K c_World f_World_init
  me_World_add : Meth K c_World "add" f_World_add
  me_World_names : Meth K c_World "names" f_World_names
  me_World_module : Meth K c_World "module" f_World_module
  me_World_face : Meth K c_World "face" f_World_face
  me_World_count : Meth K c_World "count" f_World_count
  me_World_number : Meth K c_World "number" f_World_number
  me_World_package : Meth K c_World "package" f_World_package
  me_World_own : Meth K c_World "own" f_World_own
  me_World_fields : Meth K c_World "fields" f_World_fields
  me_World_method : Meth K c_World "method" f_World_method
  me_World_row : Meth K c_World "row" f_World_row
  me_World_is_kind : Meth K c_World "is_kind" f_World_is_kind
  me_World_fits : Meth K c_World "fits" f_World_fits
  me_World_applet : Meth K c_World "applet" f_World_applet
  me_World__row : Meth K c_World "_row" f_World__row
  nf_World_modules : NoAttr K c_World "_modules"
  nf_World_classes : NoAttr K c_World "_classes"
  m_enumerate : mg "enumerate" = none
  m_int : mg "int" = none
  m_len : mg "len" = none
  m_list : mg "list" = none
  m_range : mg "range" = none
  m_sorted : mg "sorted" = none
  m_str : mg "str" = none
  m_tuple : mg "tuple" = none
  a_INT : Addr
  g_INT : mg "INT" = some (.ref a_INT)
  s_INT : ∀ H, SqT K H a_INT [.str "int"]
  y_INT : ∃ o, K.lookup a_INT = some o ∧ o.cls = .type "tuple"
  a_BYTES : Addr
  g_BYTES : mg "BYTES" = some (.ref a_BYTES)
  s_BYTES : ∀ H, SqT K H a_BYTES [.str "bytes"]
  y_BYTES : ∃ o, K.lookup a_BYTES = some o ∧ o.cls = .type "tuple"
  a_NOTHING : Addr
  g_NOTHING : mg "NOTHING" = some (.ref a_NOTHING)
  s_NOTHING : ∀ H, SqT K H a_NOTHING [.str "nothing"]
  y_NOTHING : ∃ o, K.lookup a_NOTHING = some o ∧ o.cls = .type "tuple"
  a_NULL : Addr
  g_NULL : mg "NULL" = some (.ref a_NULL)
  s_NULL : ∀ H, SqT K H a_NULL [.str "null"]
  y_NULL : ∃ o, K.lookup a_NULL = some o ∧ o.cls = .type "tuple"
section
variable {P : Program} {w : World} {K : PySem.W.Frag} {mg : Str → Option Value} {base : Heap}
/-! ### the draws -/
def sp_law_bag (K : PySem.W.Frag) : Sp := fun vs H Q _ => ∃ (a : Addr) (ns : List Int) (k : Nat), vs = [.ref a, .int k] ∧ SqL K H a (ns.map V.int) ∧ ∀ (p : Addr) (H' : Hp), H p = none → Bag H' p → Same H H' → Q (.ref p) H'
theorem bag_new {H : Hp} {p : Addr} {x y z : Int} : Bag (upd H p (.lst [.int x, .int y, .int z])) p := ⟨x, y, z, upd_same⟩
theorem ok_law_bag (T : Txt K mg) : FnOk P w K mg base CX0 1 T.f_law_bag T.d_law_bag ["_law_script", "_law_k"] (sp_law_bag K) := by
  refine T.k_law_bag.ok sc_law_bag (fun vs H Q E h => ?_) (fun cdv A outer s H vs Q E hr h => ?_)
  · obtain ⟨a, ns, k, rfl, _⟩ := h
    rfl
  · obtain ⟨a, ns, k, rfl, hS, q⟩ := h
    refine ⟨_, (pss_cons (ps_set (i := 2) sc_law_bag.nd rfl (.inl rfl) pe_int)
      (C8.pss_cut (ps_if (pt_cmpR op_lt (pv 1) (pe_callB (lenLK K) (by rfl) T.m_len (by decide +kernel) (pa_cons (pv 0) pa_nil)) (nomark _)) (pss_one (ps_set (i := 2) sc_law_bag.nd rfl (.inl rfl) (pe_callTy call_intI (by rfl) T.m_int (by decide +kernel) (pa_cons (pe_ix (ix_listK K) (pv 0) (pv 1) (fun _ _ => rfl)) pa_nil)))) pss_nil)
      (pss_cons (ps_if (pt_cmpR op_ge (pv 2) (pe_op op_pow pe_int pe_int) (nomark _)) (pss_one (ps_ret (pe_lst (pa_cons (pv 2) (pa_cons (pv 2) (pa_cons (pv 1) pa_nil)))))) pss_nil)
      (pss_one (ps_ret (pe_lst (pa_cons pe_int (pa_cons (pv 2) (pa_cons (pv 1) pa_nil))))))))), ?_⟩
    walk_at "rd"
    refine rdSeq ?_
    walk_at "rd"
    refine rdCut (fun σ H' => H' = H ∧ ∃ c : Int, σ = [some (V.ref a), some (V.int (k : Int)), some (V.int c)]) ?_ ?_
    · walk_at "rd"
      refine i_lenL hS ?_
      walk_at "rd"
      refine ite2 (fun hk => ?_) (fun _ => trivial)
      rw [List.length_map] at hk
      have hk : k < ns.length := by omega
      refine i_ixL hS (atI_nat (j := k) (by rw [List.getElem?_map, List.getElem?_eq_getElem hk]; rfl)) ?_
      walk_at "rd"
    · rintro σ H' ⟨rfl, c, rfl⟩
      refine rdSeq ?_
      walk_at "rd"
      refine ⟨pow18, ite2 (fun _ => ?_) (fun _ => ?_)⟩
      · exact fun p hp => q p _ hp bag_new (same_new hp)
      · walk_at "rd"
        exact fun p hp => q p _ hp bag_new (same_new hp)
def sp_law_draw (K : PySem.W.Frag) : Sp := fun vs H Q _ => ∃ (a : Addr) (m : Int), vs = [.ref a, .int m] ∧ Bag H a ∧ 0 < m ∧ m.natAbs < 2 ^ 200 ∧ ∀ (r : Int) (H' : Hp), 0 ≤ r → r < m → Mv a H H' → Q (.int r) H'
theorem mv_set {H : Hp} {a : Addr} {x y z : Int} : Mv a H (upd H a (.lst [.int x, .int y, .int z])) := ⟨bag_new, fun b o n e => by rw [upd_ne n]; exact e⟩
theorem draw_size {m : Int} (h0 : 0 < m) (h : m.natAbs < 2 ^ 200) : CDivW x m := wide_div h0 h (by decide) (by decide)
theorem ok_law_draw (T : Txt K mg) : FnOk P w K mg base CX0 1 T.f_law_draw T.d_law_draw ["_law_bag_here", "_law_many"] (sp_law_draw K) := by
  refine T.k_law_draw.ok sc_law_draw (fun vs H Q E h => ?_) (fun cdv A outer s H vs Q E hr h => ?_)
  · obtain ⟨a, m, rfl, _⟩ := h
    rfl
  · obtain ⟨a, m, rfl, ⟨x, y, z, hB⟩, hm, hm2, q⟩ := h
    refine ⟨_, (C8.pss_cut (ps_if (pt_cmpR op_eq (pe_ix (ix_listK K) (pv 0) pe_int (fun _ _ => rfl)) pe_int (nomark _)) (pss_cons (ps_set (i := 2) sc_law_draw.nd rfl (.inl rfl) (pe_op op_modP (pe_callTy call_intI (by rfl) T.m_int (by decide +kernel) (pa_cons (pe_op op_add (pe_op op_add (pe_op op_mul (pe_ix (ix_listK K) (pv 0) pe_int (fun _ _ => rfl)) pe_int) (pe_op op_mul (pe_ix (ix_listK K) (pv 0) pe_int (fun _ _ => rfl)) pe_int)) pe_int) pa_nil)) pe_int))
      (pss_cons (ps_asg (pe_op op_add (pe_op op_mul (pv 2) pe_int) (pe_op op_modP (pe_callTy call_intI (by rfl) T.m_int (by decide +kernel) (pa_cons (pe_op op_add (pe_op op_mul (pv 2) (pv 2)) (pe_op op_mul (pe_ix (ix_listK K) (pv 0) pe_int (fun _ _ => rfl)) pe_int)) pa_nil)) pe_int)) (pg_sub (pv 0) pe_int set_list))
      (pss_one (ps_asg (pv 2) (pg_sub (pv 0) pe_int set_list))))) pss_nil)
      (pss_cons (ps_set (i := 3) sc_law_draw.nd rfl (.inl rfl) (pe_ix (ix_listK K) (pv 0) pe_int (fun _ _ => rfl)))
      (pss_cons (ps_asg (pe_op op_fdivW (pv 3) (pv 1)) (pg_sub (pv 0) pe_int set_list))
      (pss_one (ps_ret (pe_op op_modP (pe_callTy call_intI (by rfl) T.m_int (by decide +kernel) (pa_cons (pv 3) pa_nil)) (pv 1))))))), ?_⟩
    refine rdCut (fun σ H' => ∃ (x1 y1 z1 : Int) (u : Option V), H' a = some (.lst [.int x1, .int y1, .int z1]) ∧ Mv a H H' ∧ σ = [some (V.ref a), some (V.int m), u, none]) ?_ ?_
    · walk_at "rd"
      refine i_ixL (sqL_of hB) (v := .int x) rfl ?_
      walk_at "rd"
      refine ite2 (fun _ => ?_) (fun _ => ⟨x, y, z, hB, Mv.refl ⟨x, y, z, hB⟩⟩)
      refine rdSeq ?_
      walk_at "rd"
      refine i_ixL (sqL_of hB) (v := .int y) rfl ?_
      walk_at "rd"
      refine ⟨cm_r (by decide), i_ixL (sqL_of hB) (v := .int z) rfl ?_⟩
      walk_at "rd"
      refine ⟨cm_r (by decide), ?_⟩
      have h0 := Int.emod_nonneg (y * 48271 + z * 69621 + 11) (show (2147483647 : Int) ≠ 0 by decide)
      have h1 := Int.emod_lt_of_pos (y * 48271 + z * 69621 + 11) (show (0 : Int) < 2147483647 by decide)
      generalize (y * 48271 + z * 69621 + 11) % 2147483647 = sd at h0 h1
      refine rdSeq ?_
      walk_at "rd"
      refine ⟨cm_r (by decide), .inl ⟨by omega, by omega⟩, i_ixL (sqL_of hB) (v := .int z) rfl ?_⟩
      walk_at "rd"
      refine ⟨cm_r (by decide), i_setL hB (j := 0) rfl ?_⟩
      walk_at "rd"
      refine i_setL upd_same (j := 1) rfl ?_
      walk_at "rd"
      rw [upd_upd]
      exact ⟨_, _, _, upd_same, mv_set⟩
    · rintro σ H1 ⟨x1, y1, z1, u, h1, mv, rfl⟩
      refine rdSeq ?_
      walk_at "rd"
      refine i_ixL (sqL_of h1) (v := .int x1) rfl ?_
      refine rdSeq ?_
      walk_at "rd"
      refine ⟨draw_size hm hm2, i_setL h1 (j := 0) rfl ?_⟩
      walk_at "rd"
      refine ⟨hm, q _ _ (Int.emod_nonneg _ (by omega)) (Int.emod_lt_of_pos _ hm) (mv.trans mv_set)⟩
theorem i_draw {K : PySem.W.Frag} {H0 H : Hp} {a : Addr} {m : Int} {Q : VK} {E : XK} (mv : Mv a H0 H) (hm : 0 < m) (hs : m.natAbs < 2 ^ 200) (q : ∀ (r : Int) (H' : Hp), 0 ≤ r → r < m → Mv a H H' → Mv a H0 H' → Q (.int r) H') : sp_law_draw K [.ref a, .int m] H Q E :=
  ⟨a, m, rfl, mv.bag, hm, hs, fun r H' h0 h1 mv' => q r H' h0 h1 mv' (mv.trans mv')⟩
theorem at_int {ns : List Int} {i : Int} (h0 : 0 ≤ i) (h1 : i < ns.length) : ∃ v, atI (ns.map V.int) i = some (.int v) ∧ v ∈ ns := by
  obtain ⟨j, rfl⟩ := Int.eq_ofNat_of_zero_le h0
  have hi : j < ns.length := by omega
  exact ⟨ns[j], atI_nat (by rw [List.getElem?_map, List.getElem?_eq_getElem hi]; rfl), List.getElem_mem hi⟩

/-! ### linking.py: the helpers -/
/-- BadLink comes out -/
def ErrL (C : Addr) (H : Hp) (E : XK) : Prop := ∀ H' : Hp, Same H H' → E (.ref C) none H'
theorem ErrL.same {C : Addr} {H H' : Hp} {E : XK} (h : ErrL C H E) (s : Same H H') : ErrL C H' E := fun H2 s2 => h H2 (s.trans s2)
def sp_must {K : PySem.W.Frag} {mg : Str → Option Value} (T : Txt K mg) : Sp := fun vs H Q E => ∃ c : Bool, vs = [.bl c] ∧ (c = true → Q .non H) ∧ (c = false → ErrL T.c_BadLink H E)
theorem ok_must (T : Txt K mg) : FnOk P w K mg base (L2.CX P w) 1 T.f_must T.d_must ["condition"] (sp_must T) := by
  refine T.k_must.okX sc_must (fun vs H Q E h => ?_) (fun cdv A outer s H vs Q E hr h => ?_)
  · obtain ⟨c, rfl, _⟩ := h
    rfl
  · obtain ⟨c, rfl, q1, q2⟩ := h
    refine ⟨_, (pss_one (ps_if (pt_not (pt_val (pv 0))) (pss_one (ps_raise rfl (takes_of rfl rfl rfl rfl) (pmk_own0 PySem.F.excBase_ValueError T.x_BadLink.x T.g_BadLink T.x_BadLink.kp (raises_own T.x_BadLink.be T.x_BadLink.ty) (by exact rfl)))) pss_nil)), ?_⟩
    walk_at "rd"
    cases c with
    | true => walk_at "rd"; exact q1 rfl
    | false => walk_at "rd"; exact q2 rfl H (Same.refl H)
theorem i_must {T : Txt K mg} {c : Bool} {H : Hp} {Q : VK} {E : XK} (h1 : c = true → Q .non H) (h2 : c = false → ErrL T.c_BadLink H E) : sp_must T [.bl c] H Q E := ⟨c, rfl, h1, h2⟩
def kdN : Kd → Str
  | .int => "int"
  | .bytes => "bytes"
  | .nothing => "nothing"
  | .null => "null"
  | .cls _ => "class"
  | .fac _ _ => "face"
theorem kd_at0 (k : Kd) : ∃ r, k.d = .tuple (.str (kdN k) :: r) := by cases k <;> exact ⟨_, rfl⟩
def isCls : Kd → Bool
  | .cls _ => true
  | _ => false
def isFac : Kd → Bool
  | .fac _ _ => true
  | _ => false
theorem kdN_cls : ∀ k : Kd, decide (V.str (kdN k) = V.str (Str.ofString "class")) = isCls k
  | .int | .bytes | .nothing | .null => by decide +kernel
  | .cls _ => show decide (V.str (Str.ofString "class") = V.str (Str.ofString "class")) = true by decide +kernel
  | .fac _ _ => show decide (V.str (Str.ofString "face") = V.str (Str.ofString "class")) = false by decide +kernel
theorem kdN_fac : ∀ k : Kd, decide (V.str (kdN k) = V.str (Str.ofString "face")) = isFac k
  | .int | .bytes | .nothing | .null => by decide +kernel
  | .cls _ => show decide (V.str (Str.ofString "class") = V.str (Str.ofString "face")) = false by decide +kernel
  | .fac _ _ => show decide (V.str (Str.ofString "face") = V.str (Str.ofString "face")) = true by decide +kernel
def sp_is_class {K : PySem.W.Frag} {mg : Str → Option Value} (_ : Txt K mg) : Sp := fun vs H Q _ => ∃ (v : V) (k : Kd), vs = [v] ∧ Fr K H v k.d ∧ Q (.bl (isCls k)) H
theorem ok_is_class (T : Txt K mg) : FnOk P w K mg base CX0 1 T.f_is_class T.d_is_class ["kind"] (sp_is_class T) := by
  refine T.k_is_class.ok sc_is_class (fun vs H Q E h => ?_) (fun cdv A outer s H vs Q E hr h => ?_)
  · obtain ⟨v, k, rfl, _⟩ := h
    rfl
  · obtain ⟨v, k, rfl, hv, q⟩ := h
    refine ⟨_, (pss_one (ps_ret (pe_cmpR op_eq (pe_ix (ix_tupK K) (pv 0) pe_int (fun _ _ => rfl)) pe_str (nomark _)))), ?_⟩
    walk_at "rd"
    obtain ⟨r, er⟩ := kd_at0 k
    rw [er] at hv
    refine i_ixFs (i := 0) hv rfl ⟨rfl, ?_⟩
    rw [kdN_cls]; exact q
def sp_is_face {K : PySem.W.Frag} {mg : Str → Option Value} (_ : Txt K mg) : Sp := fun vs H Q _ => ∃ (v : V) (k : Kd), vs = [v] ∧ Fr K H v k.d ∧ Q (.bl (isFac k)) H
theorem ok_is_face (T : Txt K mg) : FnOk P w K mg base CX0 1 T.f_is_face T.d_is_face ["kind"] (sp_is_face T) := by
  refine T.k_is_face.ok sc_is_face (fun vs H Q E h => ?_) (fun cdv A outer s H vs Q E hr h => ?_)
  · obtain ⟨v, k, rfl, _⟩ := h
    rfl
  · obtain ⟨v, k, rfl, hv, q⟩ := h
    refine ⟨_, (pss_one (ps_ret (pe_cmpR op_eq (pe_ix (ix_tupK K) (pv 0) pe_int (fun _ _ => rfl)) pe_str (nomark _)))), ?_⟩
    walk_at "rd"
    obtain ⟨r, er⟩ := kd_at0 k
    rw [er] at hv
    refine i_ixFs (i := 0) hv rfl ⟨rfl, ?_⟩
    rw [kdN_fac]; exact q
theorem Md.at5 (m : Md) : m.ds[5]? = some (.tuple (m.cls.map Cl.d)) := rfl
theorem Md.at4 (m : Md) : m.ds[4]? = some (.tuple (m.fcs.map faceD)) := rfl
theorem Md.at1 (m : Md) : m.ds[1]? = some (.str m.nm) := rfl
theorem Md.at7 (m : Md) : m.ds[7]? = some (.tuple (m.apps.map fun k : Nat => .int k)) := rfl
/-- classes at a place -/
theorem cls_at {m : Md} {k : Nat} {c : Cl} (h : m.cls[k]? = some c) : (m.cls.map Cl.d)[k]? = some c.d := by rw [List.getElem?_map, h]; rfl
def intsV (l : List Int) : List V := l.map V.int
inductive WA (m : Md) (v : V) (k0 : Int) (H0 : Hp) (p : Addr) (n : Nat) (σ : L2.St) (H : Hp) : Prop
  | mk (k : Int) (l : List Int) (hk : -1 ≤ k) (hk2 : k < m.cls.length) (hn : n = (k + 1).toNat) (hl : H p = some (.lst (intsV l))) (hs : Same H0 H) (he : l ++ ancs m.cls k = ancs m.cls k0) (es : σ = [some v, some (.int k), some (.ref p)])
def sp_ancestors_of {K : PySem.W.Frag} {mg : Str → Option Value} (_ : Txt K mg) : Sp := fun vs H Q _ => ∃ (v : V) (m : Md) (k : Int), vs = [v, .int k] ∧ Fr K H v m.d ∧ Ahead m.cls ∧ m.cls.length ≤ 1000 ∧ -1 ≤ k ∧ k < m.cls.length ∧
  ∀ p H', H p = none → Same H H' → H' p = some (.lst (intsV (ancs m.cls k))) → Q (.ref p) H'
theorem ok_ancestors_of (T : Txt K mg) : FnOk P w K mg base CX0 1 T.f_ancestors_of T.d_ancestors_of ["module", "k"] (sp_ancestors_of T) := by
  refine T.k_ancestors_of.ok sc_ancestors_of (fun vs H Q E h => ?_) (fun cdv A outer s H vs Q E hr h => ?_)
  · obtain ⟨v, m, k, rfl, _⟩ := h
    rfl
  · obtain ⟨v, m, k, rfl, hv, hw, hsz, h1, h2, q⟩ := h
    refine ⟨_, (pss_cons (ps_set (i := 2) sc_ancestors_of.nd rfl (.inl rfl) (pe_lst pa_nil))
      (pss_cons (ps_while PassesOwn.never (pt_cmpR op_ge (pv 1) pe_int (nomark _)) (pss_cons (ps_expr (pe_bmK K PySem.F.plainAttrs_list PySem.F.slot_list_append PySem.F.type_list_append mt_append (pv 2) (pa_cons (pv 1) pa_nil)))
      (pss_one (ps_set (i := 1) sc_ancestors_of.nd rfl (.inl rfl) (pe_ix (ix_tupK K) (pe_ix (ix_tupK K) (pe_ix (ix_tupK K) (pv 0) pe_int (fun _ _ => rfl)) (pv 1) (fun _ _ => rfl)) pe_int (fun _ _ => rfl))))))
      (pss_one (ps_ret (pv 2))))), ?_⟩
    walk_at "rd"
    refine rdSeq ?_
    walk_at "rd"
    intro p hp
    refine rdSeq ?_
    refine i_while (WA m v k H p) (k + 1).toNat ⟨k, [], h1, h2, rfl, upd_same, same_new hp, rfl, rfl⟩ ?_
    rintro n σ H1 ⟨j, l, j1, j2, hn, hl, hs, he, rfl⟩
    walk_at "rd"
    refine ite2 (fun hj => i_whT ?_) (fun hj => ?_)
    · obtain ⟨i, rfl⟩ := Int.eq_ofNat_of_zero_le hj
      have hi : i < m.cls.length := by omega
      have hc := List.getElem?_eq_getElem hi
      obtain ⟨p1, p2⟩ := hw i _ hc
      have hv1 : Fr K H1 v m.d := hv.up (.of hs)
      rw [ancs_step hw hc] at he
      have hlen : l.length + 1 ≤ (ancs m.cls k).length := by rw [← he]; simp
      have hb := (ancs_len hw m.cls.length k h2 h1 h2).1
      refine rdSeq ?_
      walk_at "rd"
      refine ⟨.inl ⟨rfl, _, sqL_of hl⟩, i_app hl (line5' (by rw [intsV, List.length_map]; omega)) ?_⟩
      have tk : TupK H1 (upd H1 p (.lst (intsV l ++ [.int (i : Nat)]))) := TupK.mut hl (fun _ h => nomatch h)
      refine i_ixF (i := 5) (hv1.up tk) (Md.at5 m) fun x hx => i_ixF (i := i) hx (cls_at hc) fun y hy => i_ixFi (i := 1) hy rfl ?_
      refine ⟨(m.cls[i].par + 1).toNat, by omega, ⟨m.cls[i].par, l ++ [(i : Int)], p1, by omega, rfl, by rw [upd_same]; simp [intsV], fun b o e => by rw [upd_ne (ne_of_none e hp)]; exact hs b o e, by rw [← he]; simp, rfl⟩⟩
    · refine q p H1 hp hs ?_
      rw [ancs_neg (by omega), List.append_nil] at he
      rw [← he]; exact hl
def facesOf (m : Md) (k : Int) : List (Str × Str) := (ancs m.cls k).flatMap fun j => match m.cls[j.toNat]? with
  | some c => c.fcs
  | none => []
/-- sizes -/
structure Sz (m : Md) : Prop where
  ah : Ahead m.cls
  cl : m.cls.length ≤ 500
  fc : ∀ c ∈ m.cls, c.fcs.length ≤ 100
  tb : ∀ c ∈ m.cls, c.tb.length ≤ 1000
  nm : PyData.strOk m.nm = true
  fo : ∀ c ∈ m.cls, ∀ f ∈ c.fcs, PyData.strOk f.1 = true ∧ PyData.strOk f.2 = true
  ap : ∀ k ∈ m.apps, k < m.cls.length
theorem flat_len {α β : Type} {f : α → List β} {n : Nat} : ∀ {l : List α}, (∀ x ∈ l, (f x).length ≤ n) → (l.flatMap f).length ≤ l.length * n
  | [], _ => Nat.zero_le _
  | x :: l, h => by
    have ih := flat_len (f := f) (n := n) (l := l) fun y hy => h y (List.mem_cons_of_mem _ hy)
    have h0 := h x List.mem_cons_self
    rw [List.flatMap_cons, List.length_append, List.length_cons, Nat.succ_mul]; omega
def fcsOf (m : Md) (j : Int) : List (Str × Str) := match m.cls[j.toNat]? with
  | some c => c.fcs
  | none => []
theorem fcsOf_len {m : Md} (z : Sz m) (j : Int) : (fcsOf m j).length ≤ 100 := by
  unfold fcsOf
  cases e : m.cls[j.toNat]? with
  | none => exact Nat.zero_le _
  | some c => exact z.fc c (List.mem_of_getElem? e)
theorem sz_big : 100000 ≤ sizeLine := by decide
inductive WF (K : PySem.W.Frag) (m : Md) (v : V) (k0 : Int) (H0 : Hp) (p q : Addr) (i : Nat) (σ : L2.St) (H : Hp) : Prop
  | mk (vs : List V) (hp : H p = some (.lst vs)) (hq : H q = some (.lst (intsV (ancs m.cls k0)))) (fl : FrL K H vs (((ancs m.cls k0).take i).flatMap fun j => (fcsOf m j).map fcD)) (hs : Same H0 H) (es : ∃ u, σ = [some v, some (.int k0), some (.ref p), u])
def sp_faces_of {K : PySem.W.Frag} {mg : Str → Option Value} (_ : Txt K mg) : Sp := fun vs H Q _ => ∃ (v : V) (m : Md) (k : Int), vs = [v, .int k] ∧ Fr K H v m.d ∧ Sz m ∧ -1 ≤ k ∧ k < m.cls.length ∧
  ∀ p ws H', H p = none → Same H H' → H' p = some (.lst ws) → FrL K H' ws ((facesOf m k).map fcD) → Q (.ref p) H'
theorem ok_faces_of (T : Txt K mg) : FnOk P w K mg base CX0 2 T.f_faces_of T.d_faces_of ["module", "k"] (sp_faces_of T) := by
  refine T.k_faces_of.ok sc_faces_of (fun vs H Q E h => ?_) (fun cdv A outer s H vs Q E hr h => ?_)
  · obtain ⟨v, m, k, rfl, _⟩ := h
    rfl
  · obtain ⟨v, m, k, rfl, hv, z, h1, h2, q⟩ := h
    refine ⟨_, (pss_cons (ps_set (i := 2) sc_faces_of.nd rfl (.inl rfl) (pe_lst pa_nil))
      (pss_cons (ps_for PassesOwn.never rfl (pi_list (pe_call (ok_ancestors_of T) (hr.mono (by decide)) (by rfl) T.g_ancestors_of T.k_ancestors_of.kp T.b_ancestors_of .nil pass0 (pa_cons (pv 0) (pa_cons (pv 1) pa_nil)))) (pg_name (i := 3) sc_faces_of.nd rfl (Or.inl rfl)) (pss_one (ps_expr (pe_bmK K PySem.F.plainAttrs_list PySem.F.slot_list_extend PySem.F.type_list_extend mt_extT (pv 2) (pa_cons (pe_ix (ix_tupK K) (pe_ix (ix_tupK K) (pe_ix (ix_tupK K) (pv 0) pe_int (fun _ _ => rfl)) (pv 3) (fun _ _ => rfl)) pe_int (fun _ _ => rfl)) pa_nil)))))
      (pss_one (ps_ret (pv 2))))), ?_⟩
    have zc := z.cl
    obtain ⟨bn, bk⟩ := ancs_len z.ah m.cls.length k h2 h1 h2
    have efl : (facesOf m k).map fcD = (ancs m.cls k).flatMap fun j => (fcsOf m j).map fcD := by
      unfold facesOf
      rw [List.map_flatMap]; rfl
    walk_at "rd"
    refine rdSeq ?_
    walk_at "rd"
    intro p hp
    refine rdSeq ?_
    walk_at "rd"
    refine ⟨v, m, k, rfl, hv.up (.of (same_new hp)), z.ah, by omega, h1, h2, fun l H1 hl s1 hl1 => ⟨l, rfl, ⟨_, sqL_of hl1⟩, ?_⟩⟩
    have npl : p ≠ l := ne_of_none (show upd H p (.lst []) p = some (.lst []) from upd_same) hl
    refine i_for (walk_listL (K := K) (a := l) (l := ancs m.cls k) (r := V.int)) (WF K m v k H p l) ⟨[], s1 p _ upd_same, hl1, .nil, (same_new hp).trans s1, none, rfl⟩ (fun i σ H' _ h => by obtain ⟨_, _, hq, _⟩ := h; exact sqL_of hq) ?_ ?_
    · rintro i x σ H2 H3 hi ⟨vs, hp2, hq2, fl, hs, u, rfl⟩ ⟨rfl, j, hj, rfl⟩
      have hjm := List.mem_of_getElem? hj
      obtain ⟨j0, j1⟩ := bk j hjm
      obtain ⟨jn, rfl⟩ := Int.eq_ofNat_of_zero_le j0
      have hjl : jn < m.cls.length := by omega
      have hc := List.getElem?_eq_getElem hjl
      have ef : fcsOf m jn = m.cls[jn].fcs := by unfold fcsOf; rw [Int.toNat_natCast, hc]
      walk_at "rd"
      refine ⟨.inl ⟨rfl, _, sqL_of hp2⟩, i_ixF (i := 5) (hv.up (.of hs)) (Md.at5 m) fun x hx => i_ixF (i := jn) hx (cls_at hc) fun y hy => i_ixF (i := 2) hy rfl fun w hw => ?_⟩
      obtain ⟨a, xs, rfl, sq, fl2⟩ := hw.inv
      have tk : TupK H3 (upd H3 p (.lst (vs ++ xs))) := TupK.mut hp2 (fun _ h => nomatch h)
      have l1 := fl.len
      have l2 := fl2.len
      have l3 : (((ancs m.cls k).take i).flatMap fun j => (fcsOf m j).map fcD).length ≤ ((ancs m.cls k).take i).length * 100 := flat_len fun x _ => by rw [List.length_map]; exact fcsOf_len z x
      have l4 : ((ancs m.cls k).take i).length ≤ i := by rw [List.length_take]; omega
      have l5 := z.fc _ (List.getElem_mem hjl)
      rw [List.length_map] at l2
      have := sz_big
      refine ⟨p, a, vs, xs, rfl, rfl, hp2, sq.sq, by omega, ?_⟩
      refine ⟨vs ++ xs, upd_same, by rw [upd_ne npl.symm]; exact hq2, ?_, fun b o e => by rw [upd_ne (ne_of_none e hp)]; exact hs b o e, _, rfl⟩
      rw [List.take_add_one, hj]
      show FrL K _ _ (List.flatMap _ (List.take i (ancs m.cls k) ++ [(jn : Int)]))
      rw [List.flatMap_append, List.flatMap_singleton, ef]
      exact (fl.up tk).app (fl2.up tk)
    · rintro σ H2 ⟨vs, hp2, hq2, fl, hs, u, rfl⟩
      walk_at "rd"
      rw [List.take_length] at fl
      exact q p vs H2 hp hs hp2 (by rw [efl]; exact fl)
def rowIx (rows : List Rw) (n : Str) : Int := match rows.findIdx? (fun r => decide (r.h.nm = n)) with
  | some i => (i : Int)
  | none => -1
theorem rowIx_some {rows : List Rw} {n : Str} {i : Nat} {r : Rw} (h : rows[i]? = some r) (hn : r.h.nm = n) (hno : ∀ x ∈ rows.take i, ¬ x.h.nm = n) : rowIx rows n = i := by
  obtain ⟨hi1, hi2⟩ := List.getElem?_eq_some_iff.mp h
  have : rows.findIdx? (fun r => decide (r.h.nm = n)) = some i := by
    rw [List.findIdx?_eq_some_iff_getElem]
    refine ⟨hi1, by rw [hi2]; exact decide_eq_true hn, fun j hj => ?_⟩
    have hm : rows[j] ∈ rows.take i := by
      rw [List.mem_take_iff_getElem]
      exact ⟨j, by omega, rfl⟩
    simpa using hno _ hm
  unfold rowIx
  rw [this]
theorem rowIx_none {rows : List Rw} {n : Str} (h : ∀ x ∈ rows, ¬ x.h.nm = n) : rowIx rows n = -1 := by
  have : rows.findIdx? (fun r => decide (r.h.nm = n)) = none := by
    rw [List.findIdx?_eq_none_iff]
    intro x hx
    simpa using h x hx
  unfold rowIx
  rw [this]
def sp_row_of {K : PySem.W.Frag} {mg : Str → Option Value} (_ : Txt K mg) : Sp := fun vs H Q _ => ∃ (v : V) (rows : List Rw) (n : Str), vs = [v, .str n] ∧ Fr K H v (.tuple (rows.map Rw.d)) ∧ ∀ H', Same H H' → Q (.int (rowIx rows n)) H'
theorem ok_row_of (T : Txt K mg) : FnOk P w K mg base CX0 1 T.f_row_of T.d_row_of ["table", "name"] (sp_row_of T) := by
  refine T.k_row_of.ok sc_row_of (fun vs H Q E h => ?_) (fun cdv A outer s H vs Q E hr h => ?_)
  · obtain ⟨v, rows, n, rfl, _⟩ := h
    rfl
  · obtain ⟨v, rows, n, rfl, hv, q⟩ := h
    refine ⟨_, (pss_cons (ps_for PassesOwn.never rfl (pi_enumT (by rfl) T.m_enumerate (pa_cons (pv 0) pa_nil)) (pg_tup rfl (pgs_cons (pg_name (i := 2) sc_row_of.nd rfl (Or.inl rfl)) (pgs_cons (pg_name (i := 3) sc_row_of.nd rfl (Or.inl rfl)) pgs_nil))) (pss_one (ps_if (pt_cmpR op_eq (pe_ix (ix_tupK K) (pv 3) pe_int (fun _ _ => rfl)) (pv 1) (nomark _)) (pss_one (ps_ret (pv 2))) pss_nil)))
      (pss_one (ps_ret (pe_un un_neg pe_int)))), ?_⟩
    obtain ⟨a, xs, rfl, sq, fl⟩ := hv.inv
    have hlen := fl.len
    rw [List.length_map] at hlen
    walk_at "rd"
    refine rdSeq ?_
    walk_at "rd"
    refine ⟨xs, sq.sq, ?_⟩
    refine i_forG (walk_enumT (K := K) (a := a) (xs := xs)) (fun i σ H' => Same H H' ∧ (∀ x ∈ rows.take i, ¬ x.h.nm = n) ∧ ∃ u w, σ = [some (.ref a), some (.str n), u, w]) ⟨Same.refl H, by simp, _, _, rfl⟩ (fun i σ H' _ h => (sq.up (.of h.1)).sq) ?_ ?_
    · rintro i x σ H1 H2 hi ⟨s1, hno, u, w, rfl⟩ ⟨t, y, rfl, ht, rfl, hy⟩
      refine i_gTup2 rfl (sqT_of upd_same) ?_
      obtain ⟨d, hd, fy⟩ := fl.getV hy
      rw [List.getElem?_map] at hd
      have hir : i < rows.length := by omega
      rw [List.getElem?_eq_getElem hir] at hd
      cases hd
      have s2 := s1.trans (same_new (o := .tup [.int (i : Nat), y]) ht)
      walk_at "rd"
      refine i_ixFs (i := 0) (fy.up (.of s2)) rfl ⟨rfl, ite2 (fun h => ?_) (fun h => ?_)⟩
      · have := q _ s2
        rw [rowIx_some (List.getElem?_eq_getElem hir) (V.str.inj h) hno] at this
        exact this
      · refine ⟨s2, fun x hx => ?_⟩
        rw [List.take_add_one, List.getElem?_eq_getElem hir] at hx
        rcases List.mem_append.mp hx with k | k
        · exact hno x k
        · rw [List.mem_singleton.mp k]; exact fun e => h (by rw [e])
    · rintro σ H1 ⟨s1, hno, u, w, rfl⟩
      walk_at "rd"
      rw [hlen, List.take_length] at hno
      have := q _ s1
      rw [rowIx_none hno] at this
      exact this

/-! ### World -/
def wfs (md cl : Addr) : List (Str × V) := [("_modules", .ref md), ("_classes", .ref cl)]
def clsOf (ms : List Md) : List (Str × Nat) := ms.flatMap fun m => (List.range m.cls.length).map fun k => (m.nm, k)
def cpD (x : Str × Nat) : PyData := .tuple [.str x.1, .int x.2]
def kvsOf : List Md → List V → List (Key × V)
  | m :: ms, v :: vs => (.inr m.nm, v) :: kvsOf ms vs
  | _, _ => []
/-- a World object stands at a and knows ms -/
structure Wd (K : PySem.W.Frag) (C : Addr) (H : Hp) (a md cl : Addr) (ms : List Md) : Prop where
  ob : ∃ dx, H a = some (.ins C dx (wfs md cl))
  mo : ∃ vs, H md = some (.dK (kvsOf ms vs)) ∧ FrL K H vs (ms.map Md.d)
  cs : ∃ ws, H cl = some (.lst ws) ∧ FrL K H ws ((clsOf ms).map cpD)
theorem Wd.same {K : PySem.W.Frag} {C : Addr} {H H' : Hp} {a md cl : Addr} {ms : List Md} (w : Wd K C H a md cl ms) (s : Same H H') : Wd K C H' a md cl ms := by
  obtain ⟨⟨dx, h1⟩, ⟨vs, h2, f2⟩, ⟨ws, h3, f3⟩⟩ := w
  exact ⟨⟨dx, s _ _ h1⟩, ⟨vs, s _ _ h2, f2.up (.of s)⟩, ⟨ws, s _ _ h3, f3.up (.of s)⟩⟩
/-- what is known of the modules -/
structure Ms (ms : List Md) : Prop where
  nd : (ms.map Md.nm).Nodup
  sz : ∀ m ∈ ms, Sz m
  ln : ms.length ≤ 100
def findM (ms : List Md) (n : Str) : Option Md := ms.find? fun m => decide (m.nm = n)
theorem find_kvs {K : PySem.W.Frag} {H : Hp} {n : Str} : ∀ {ms : List Md} {vs : List V}, FrL K H vs (ms.map Md.d) →
    (∃ m v, findM ms n = some m ∧ valV (kvsOf ms vs) (.inr n) = some v ∧ Fr K H v m.d) ∨ (findM ms n = none ∧ valV (kvsOf ms vs) (.inr n) = none)
  | [], [], _ => .inr ⟨rfl, rfl⟩
  | m :: ms, v :: vs, .cons h t => by
    unfold findM
    by_cases e : m.nm = n
    · refine .inl ⟨m, v, by rw [List.find?_cons, decide_eq_true e], valV_pos (congrArg Sum.inr e), h⟩
    · rw [List.find?_cons, decide_eq_false e]
      have ev : valV (kvsOf (m :: ms) (v :: vs)) (.inr n) = valV (kvsOf ms vs) (.inr n) := valV_neg (fun q => e (Sum.inr.inj q))
      rw [ev]
      exact find_kvs t
theorem keys_kvs : ∀ {ms : List Md} {vs : List V}, vs.length = ms.length → (kvsOf ms vs).map (fun kv => kV kv.1) = ms.map fun m => V.str m.nm
  | [], [], _ => rfl
  | m :: ms, v :: vs, h => by
    show V.str m.nm :: _ = _
    rw [keys_kvs (Nat.succ.inj h)]; rfl
def sp_World_init {K : PySem.W.Frag} {mg : Str → Option Value} (T : Txt K mg) : Sp := fun vs H Q _ => ∃ (x dx : Addr), vs = [.ref x] ∧ H x = some (.ins T.c_World dx []) ∧
  ∀ H' md cl, Wd K T.c_World H' x md cl [] → H md = none → H cl = none → md ≠ cl → Kp [x] H H' → Q .non H'
theorem ok_World_init (T : Txt K mg) : FnOk P w K mg base CX0 1 T.f_World_init T.d_World_init ["self"] (sp_World_init T) := by
  refine T.k_World_init.ok sc_World_init (fun vs H Q E h => ?_) (fun cdv A outer s H vs Q E hr h => ?_)
  · obtain ⟨x, dx, rfl, _⟩ := h
    rfl
  · obtain ⟨x, dx, rfl, hx, q⟩ := h
    refine ⟨_, (pss_cons (ps_fldK K (pv 0) pe_dnewK rfl)
      (pss_one (ps_fldK K (pv 0) (pe_lst pa_nil) rfl))), ?_⟩
    walk_at "rd"
    refine rdSeq ?_
    walk_at "rd"
    intro md hmd
    have xm : x ≠ md := ne_of_none hx hmd
    refine i_fldS T.cl_World T.nf_World_modules (same_new hmd _ _ hx) (by decide) fun cl hcl => ?_
    have h3 : upd (upd H md (.dK [])) x (.ins T.c_World dx (putF "_modules" (.ref md) [])) x = some (.ins T.c_World dx (putF "_modules" (.ref md) [])) := upd_same
    have xc : x ≠ cl := ne_of_none h3 hcl
    have hcl0 : H cl = none := by
      rw [upd_ne xc.symm] at hcl
      exact (same_new hmd).free hcl
    have mc : md ≠ cl := ne_of_none (show upd (upd H md (.dK [])) x (.ins T.c_World dx (putF "_modules" (.ref md) [])) md = some (.dK []) by rw [upd_ne xm.symm, upd_same]) hcl
    refine i_fldS T.cl_World T.nf_World_classes (same_new hcl _ _ h3) (by show 1 < 1000; decide) ?_
    refine q _ md cl ⟨⟨dx, by rw [upd_same]; rfl⟩, ⟨[], ?_, .nil⟩, ⟨[], ?_, .nil⟩⟩ hmd hcl0 mc ?_
    · rw [upd_ne xm.symm, upd_ne mc, upd_ne xm.symm, upd_same]; rfl
    · rw [upd_ne xc.symm, upd_same]
    · intro b o hb e
      have hb : b ≠ x := by simpa using hb
      rw [upd_ne hb, upd_ne (ne_of_none e hcl0), upd_ne hb]
      exact same_new hmd b o e
def sp_World_names {K : PySem.W.Frag} {mg : Str → Option Value} (T : Txt K mg) : Sp := fun vs H Q _ => ∃ (a md cl : Addr) (ms : List Md), vs = [.ref a] ∧ Wd K T.c_World H a md cl ms ∧ ∀ p H', H p = none → Same H H' → H' p = some (.lst (ms.map fun m => V.str m.nm)) → Q (.ref p) H'
theorem ok_World_names (T : Txt K mg) : FnOk P w K mg base CX0 1 T.f_World_names T.d_World_names ["self"] (sp_World_names T) := by
  refine T.k_World_names.ok sc_World_names (fun vs H Q E h => ?_) (fun cdv A outer s H vs Q E hr h => ?_)
  · obtain ⟨a, md, cl, ms, rfl, _⟩ := h
    rfl
  · obtain ⟨a, md, cl, ms, rfl, w, q⟩ := h
    obtain ⟨⟨dx, h1⟩, ⟨vs, h2, f2⟩, _⟩ := w
    refine ⟨_, (pss_one (ps_ret (pe_callTy (call_list_dK rfl) (by rfl) T.m_list (by decide +kernel) (pa_cons (pe_fldK K (pv 0) rfl) pa_nil)))), ?_⟩
    walk_at "rd"
    refine i_fld T.cl_World T.nf_World_modules h1 rfl ⟨md, _, rfl, h2, fun p hp => q p _ hp (same_new hp) ?_⟩
    rw [upd_same, keys_kvs (by have := f2.len; rw [List.length_map] at this; exact this)]
def sp_World_module {K : PySem.W.Frag} {mg : Str → Option Value} (T : Txt K mg) : Sp := fun vs H Q E => ∃ (a md cl : Addr) (ms : List Md) (n : Str), vs = [.ref a, .str n] ∧ Wd K T.c_World H a md cl ms ∧
  (∀ m v, findM ms n = some m → Fr K H v m.d → Q v H) ∧ (findM ms n = none → ErrL T.c_BadLink H E)
theorem ok_World_module (T : Txt K mg) : FnOk P w K mg base (L2.CX P w) 1 T.f_World_module T.d_World_module ["self", "name"] (sp_World_module T) := by
  refine T.k_World_module.okX sc_World_module (fun vs H Q E h => ?_) (fun cdv A outer s H vs Q E hr h => ?_)
  · obtain ⟨a, md, cl, ms, n, rfl, _⟩ := h
    rfl
  · obtain ⟨a, md, cl, ms, n, rfl, w, q1, q2⟩ := h
    obtain ⟨⟨dx, h1⟩, ⟨vs, h2, f2⟩, _⟩ := w
    refine ⟨_, (pss_cons (ps_if (pt_cmp (pc_dnotin (hu_of hr) (pv 1) (pe_fldK K (pv 0) rfl)) rfl) (pss_one (ps_raise rfl (takes_of rfl rfl rfl rfl) (pmk_own0 PySem.F.excBase_ValueError T.x_BadLink.x T.g_BadLink T.x_BadLink.kp (raises_own T.x_BadLink.be T.x_BadLink.ty) (by exact rfl)))) pss_nil)
      (pss_one (ps_ret (pe_dget (hu_of hr) (pe_fldK K (pv 0) rfl) (pv 1) (fun _ _ => rfl))))), ?_⟩
    walk_at "rd"
    refine rdSeq ?_
    walk_at "rd"
    refine i_fld T.cl_World T.nf_World_modules h1 rfl ?_
    refine ⟨md, rfl, _, DGet.k (k := .inr n) h2, ?_⟩
    rcases find_kvs (n := n) f2 with ⟨m, v, e1, e2, fv⟩ | ⟨e1, e2⟩
    · rw [e2]
      refine i_else (by simp) ?_
      exact i_fld T.cl_World T.nf_World_modules h1 rfl (i_dget h2 e2 (q1 m v e1 fv))
    · rw [e2]
      exact i_then rfl (q2 e1 H (Same.refl H))
def faceM (ms : List Md) (p f : Str) : Option (List Hd) := (findM ms p).bind fun m => (m.fcs.find? fun x => decide (x.1 = f)).map (·.2)
theorem face_loop {K : PySem.W.Frag} {H : Hp} {f : Str} {fcs : List (Str × List Hd)} {xs : List V} (fl : FrL K H xs (fcs.map faceD)) {a : Addr} (sq : SqC K H a xs) {D : Ends} {j : Nat} {σ : L2.St} {tb : TS}
    (hb : ∀ (i : Nat) (x : Str × List Hd) (v : V), fcs[i]? = some x → Fr K H v (faceD x) → ∀ D' : Ends, D'.rt = D.rt → (x.1 = f → ∀ w, Fr K H w (.tuple (x.2.map Hd.d)) → D.rt w H) → (x.1 ≠ f → D'.nx (σ.set j (some v)) H) → tb D' (σ.set j (some v)) H)
    (h1 : ∀ x, fcs.find? (fun x => decide (x.1 = f)) = some x → ∀ w, Fr K H w (.tuple (x.2.map Hd.d)) → D.rt w H) (h2 : fcs.find? (fun x => decide (x.1 = f)) = none → D.nx σ H ∧ ∀ u, D.nx (σ.set j u) H) : rForJ (Itt K a) (gName j) tb D σ H := by
  have hlen := fl.len
  rw [List.length_map] at hlen
  refine i_for (walk_tup (K := K) (a := a) (xs := xs)) (fun i σ' H' => H' = H ∧ (σ' = σ ∨ ∃ u, σ' = σ.set j u) ∧ ∀ x ∈ fcs.take i, ¬ x.1 = f) ⟨rfl, .inl rfl, by simp⟩ (fun i σ' H' _ h => by rw [h.1]; exact sq.sq) ?_ ?_
  · rintro i x σ' H' H2 hi ⟨rfl, hσ, hno⟩ ⟨rfl, hx⟩
    have hi2 : i < fcs.length := by omega
    obtain ⟨d, hd, fx⟩ := fl.getV hx
    rw [List.getElem?_map, List.getElem?_eq_getElem hi2] at hd
    cases hd
    have es : σ'.set j (some x) = σ.set j (some x) := by
      rcases hσ with rfl | ⟨u, rfl⟩
      · rfl
      · rw [List.set_set]
    rw [es]
    refine hb i fcs[i] x (List.getElem?_eq_getElem hi2) fx _ rfl (fun e w hw => h1 fcs[i] ?_ w hw) (fun e => ⟨rfl, .inr ⟨_, rfl⟩, fun y hy => ?_⟩)
    · rw [List.find?_eq_some_iff_getElem]
      refine ⟨decide_eq_true e, i, hi2, rfl, fun k hk => ?_⟩
      have hm : fcs[k] ∈ fcs.take i := by
        rw [List.mem_take_iff_getElem]
        exact ⟨k, by omega, rfl⟩
      simpa using hno _ hm
    · rw [List.take_add_one, List.getElem?_eq_getElem hi2] at hy
      rcases List.mem_append.mp hy with k | k
      · exact hno y k
      · rw [List.mem_singleton.mp k]; exact e
  · rintro σ' H' ⟨rfl, hσ, hno⟩
    rw [hlen, List.take_length] at hno
    have h3 := h2 (by rw [List.find?_eq_none]; intro x hx; simpa using hno x hx)
    rcases hσ with rfl | ⟨u, rfl⟩
    · exact h3.1
    · exact h3.2 u
def sp_World_face {K : PySem.W.Frag} {mg : Str → Option Value} (T : Txt K mg) : Sp := fun vs H Q _ => ∃ (a md cl : Addr) (ms : List Md) (p f : Str), vs = [.ref a, .str p, .str f] ∧ Wd K T.c_World H a md cl ms ∧
  (∀ hs v, faceM ms p f = some hs → Fr K H v (.tuple (hs.map Hd.d)) → Q v H) ∧ (faceM ms p f = none → Q .non H)
theorem ok_World_face (T : Txt K mg) : FnOk P w K mg base CX0 1 T.f_World_face T.d_World_face ["self", "package", "name"] (sp_World_face T) := by
  refine T.k_World_face.ok sc_World_face (fun vs H Q E h => ?_) (fun cdv A outer s H vs Q E hr h => ?_)
  · obtain ⟨a, md, cl, ms, p, f, rfl, _⟩ := h
    rfl
  · obtain ⟨a, md, cl, ms, p, f, rfl, w, q1, q2⟩ := h
    obtain ⟨⟨dx, h1⟩, ⟨vs, h2, f2⟩, _⟩ := w
    refine ⟨_, (pss_cons (ps_if (pt_cmp (pc_dnotin (hu_of hr) (pv 1) (pe_fldK K (pv 0) rfl)) rfl) (pss_one (ps_ret pe_non)) pss_nil)
      (pss_cons (ps_for PassesOwn.never rfl (pi_tup (pe_ix (ix_tupK K) (pe_dget (hu_of hr) (pe_fldK K (pv 0) rfl) (pv 1) (fun _ _ => rfl)) pe_int (fun _ _ => rfl))) (pg_name (i := 3) sc_World_face.nd rfl (Or.inl rfl)) (pss_one (ps_if (pt_cmpR op_eq (pe_ix (ix_tupK K) (pv 3) pe_int (fun _ _ => rfl)) (pv 2) (nomark _)) (pss_one (ps_ret (pe_ix (ix_tupK K) (pv 3) pe_int (fun _ _ => rfl)))) pss_nil)))
      (pss_one (ps_ret pe_non)))), ?_⟩
    walk_at "rd"
    refine rdSeq ?_
    walk_at "rd"
    refine i_fld T.cl_World T.nf_World_modules h1 rfl ⟨md, rfl, _, DGet.k (k := .inr p) h2, ?_⟩
    unfold faceM at q1 q2
    rcases find_kvs (n := p) f2 with ⟨m, v, e1, e2, fv⟩ | ⟨e1, e2⟩
    · rw [e1] at q1 q2
      rw [e2]
      refine i_else (by simp) (rdSeq ?_)
      walk_at "rd"
      refine i_fld T.cl_World T.nf_World_modules h1 rfl (i_dget h2 e2 (i_ixF (i := 4) fv (Md.at4 m) fun x hx => ?_))
      obtain ⟨t, xs, rfl, sq, fl⟩ := hx.inv
      refine ⟨t, rfl, ⟨_, sq.sq⟩, ?_⟩
      refine face_loop (f := f) fl sq (fun i x v hix fx D' e1 e2 e3 => ?_) (fun x hx w hw => q1 x.2 w (by show Option.map _ _ = _; rw [hx]; rfl) hw) (fun hn => ?_)
      · walk_at "rd"
        refine i_ixFs (i := 0) fx rfl ⟨rfl, ite2 (fun h => i_ixF (i := 1) fx rfl fun w hw => ?_) (fun h => e3 fun e => h (by rw [e]))⟩
        rw [e1]; exact e2 (V.str.inj h) w hw
      · have q3 := q2 (by show Option.map _ _ = _; rw [hn]; rfl)
        exact ⟨by walk_at "rd"; exact q3, fun u => by walk_at "rd"; exact q3⟩
    · rw [e1] at q2
      rw [e2]
      exact i_then rfl (q2 rfl)
def sp_World_count {K : PySem.W.Frag} {mg : Str → Option Value} (T : Txt K mg) : Sp := fun vs H Q _ => ∃ (a md cl : Addr) (ms : List Md), vs = [.ref a] ∧ Wd K T.c_World H a md cl ms ∧ Q (.int (clsOf ms).length) H
theorem ok_World_count (T : Txt K mg) : FnOk P w K mg base CX0 1 T.f_World_count T.d_World_count ["self"] (sp_World_count T) := by
  refine T.k_World_count.ok sc_World_count (fun vs H Q E h => ?_) (fun cdv A outer s H vs Q E hr h => ?_)
  · obtain ⟨a, md, cl, ms, rfl, _⟩ := h
    rfl
  · obtain ⟨a, md, cl, ms, rfl, w, q⟩ := h
    obtain ⟨⟨dx, h1⟩, _, ⟨ws, h3, f3⟩⟩ := w
    refine ⟨_, (pss_one (ps_ret (pe_callB (lenLK K) (by rfl) T.m_len (by decide +kernel) (pa_cons (pe_fldK K (pv 0) rfl) pa_nil)))), ?_⟩
    walk_at "rd"
    refine i_fld T.cl_World T.nf_World_classes h1 rfl (i_lenL (sqL_of h3) ?_)
    rw [f3.len, List.length_map]; exact q
def sp_World_package {K : PySem.W.Frag} {mg : Str → Option Value} (T : Txt K mg) : Sp := fun vs H Q _ => ∃ (a md cl : Addr) (ms : List Md) (g : Nat) (x : Str × Nat), vs = [.ref a, .int g] ∧ Wd K T.c_World H a md cl ms ∧ (clsOf ms)[g]? = some x ∧ Q (.str x.1) H
theorem ok_World_package (T : Txt K mg) : FnOk P w K mg base CX0 1 T.f_World_package T.d_World_package ["self", "g"] (sp_World_package T) := by
  refine T.k_World_package.ok sc_World_package (fun vs H Q E h => ?_) (fun cdv A outer s H vs Q E hr h => ?_)
  · obtain ⟨a, md, cl, ms, g, x, rfl, _⟩ := h
    rfl
  · obtain ⟨a, md, cl, ms, g, x, rfl, w, hg, q⟩ := h
    obtain ⟨⟨dx, h1⟩, _, ⟨ws, h3, f3⟩⟩ := w
    refine ⟨_, (pss_one (ps_ret (pe_ix (ix_tupK K) (pe_ix (ix_listK K) (pe_fldK K (pv 0) rfl) (pv 1) (fun _ _ => rfl)) pe_int (fun _ _ => rfl)))), ?_⟩
    walk_at "rd"
    obtain ⟨v, hv, fv⟩ := f3.get (i := g) (d := cpD x) (by rw [List.getElem?_map, hg]; rfl)
    exact i_fld T.cl_World T.nf_World_classes h1 rfl (i_ixL (sqL_of h3) (atI_nat hv) (i_ixFs (i := 0) fv rfl q))
def sp_World_own {K : PySem.W.Frag} {mg : Str → Option Value} (T : Txt K mg) : Sp := fun vs H Q _ => ∃ (a md cl : Addr) (ms : List Md) (g : Nat) (x : Str × Nat), vs = [.ref a, .int g] ∧ Wd K T.c_World H a md cl ms ∧ (clsOf ms)[g]? = some x ∧ Q (.int x.2) H
theorem ok_World_own (T : Txt K mg) : FnOk P w K mg base CX0 1 T.f_World_own T.d_World_own ["self", "g"] (sp_World_own T) := by
  refine T.k_World_own.ok sc_World_own (fun vs H Q E h => ?_) (fun cdv A outer s H vs Q E hr h => ?_)
  · obtain ⟨a, md, cl, ms, g, x, rfl, _⟩ := h
    rfl
  · obtain ⟨a, md, cl, ms, g, x, rfl, w, hg, q⟩ := h
    obtain ⟨⟨dx, h1⟩, _, ⟨ws, h3, f3⟩⟩ := w
    refine ⟨_, (pss_one (ps_ret (pe_ix (ix_tupK K) (pe_ix (ix_listK K) (pe_fldK K (pv 0) rfl) (pv 1) (fun _ _ => rfl)) pe_int (fun _ _ => rfl)))), ?_⟩
    walk_at "rd"
    obtain ⟨v, hv, fv⟩ := f3.get (i := g) (d := cpD x) (by rw [List.getElem?_map, hg]; rfl)
    exact i_fld T.cl_World T.nf_World_classes h1 rfl (i_ixL (sqL_of h3) (atI_nat hv) (i_ixFi (i := 1) fv rfl q))
/-- the g-th class -/
structure ClAt (ms : List Md) (g : Nat) (m : Md) (k : Nat) (c : Cl) : Prop where
  hg : (clsOf ms)[g]? = some (m.nm, k)
  hm : findM ms m.nm = some m
  hc : m.cls[k]? = some c
def sp_World__row {K : PySem.W.Frag} {mg : Str → Option Value} (T : Txt K mg) : Sp := fun vs H Q _ => ∃ (a md cl : Addr) (ms : List Md) (g : Nat) (m : Md) (k : Nat) (c : Cl), vs = [.ref a, .int g] ∧ Wd K T.c_World H a md cl ms ∧ ClAt ms g m k c ∧ ∀ v, Fr K H v c.d → Q v H
theorem ok_World__row (T : Txt K mg) : FnOk P w K mg base CX0 1 T.f_World__row T.d_World__row ["self", "g"] (sp_World__row T) := by
  refine T.k_World__row.ok sc_World__row (fun vs H Q E h => ?_) (fun cdv A outer s H vs Q E hr h => ?_)
  · obtain ⟨a, md, cl, ms, g, m, k, c, rfl, _⟩ := h
    rfl
  · obtain ⟨a, md, cl, ms, g, m, k, c, rfl, w, hc, q⟩ := h
    obtain ⟨⟨dx, h1⟩, ⟨vs, h2, f2⟩, ⟨ws, h3, f3⟩⟩ := w
    refine ⟨_, (pss_cons (ps_asg (pe_ix (ix_listK K) (pe_fldK K (pv 0) rfl) (pv 1) (fun _ _ => rfl)) (pg_tup rfl (pgs_cons (pg_name (i := 2) sc_World__row.nd rfl (Or.inl rfl)) (pgs_cons (pg_name (i := 3) sc_World__row.nd rfl (Or.inl rfl)) pgs_nil))))
      (pss_one (ps_ret (pe_ix (ix_tupK K) (pe_ix (ix_tupK K) (pe_dget (hu_of hr) (pe_fldK K (pv 0) rfl) (pv 2) (fun _ _ => rfl)) pe_int (fun _ _ => rfl)) (pv 3) (fun _ _ => rfl))))), ?_⟩
    walk_at "rd"
    refine rdSeq ?_
    walk_at "rd"
    obtain ⟨v, hv, fv⟩ := f3.get (i := g) (d := cpD (m.nm, k)) (by rw [List.getElem?_map, hc.hg]; rfl)
    obtain ⟨t, xs, rfl, sq, fl⟩ := fv.inv
    refine i_fld T.cl_World T.nf_World_classes h1 rfl (i_ixL (sqL_of h3) (atI_nat hv) ?_)
    cases fl with
    | cons n1 fl => cases fl with
      | cons n2 fl =>
        cases fl
        rw [n1.strI, n2.intI] at sq
        refine i_gTup2 rfl sq.sq ?_
        walk_at "rd"
        rcases find_kvs (n := m.nm) f2 with ⟨m', v, e1, e2, fv⟩ | ⟨e1, e2⟩
        · rw [hc.hm] at e1
          cases e1
          exact i_fld T.cl_World T.nf_World_modules h1 rfl (i_dget h2 e2 (i_ixF (i := 5) fv (Md.at5 m) fun x hx => i_ixF (i := k) hx (cls_at hc.hc) fun y hy => q y hy))
        · rw [hc.hm] at e1; cases e1
def sp_World_fields {K : PySem.W.Frag} {mg : Str → Option Value} (T : Txt K mg) : Sp := fun vs H Q _ => ∃ (a md cl : Addr) (ms : List Md) (g : Nat) (m : Md) (k : Nat) (c : Cl), vs = [.ref a, .int g] ∧ Wd K T.c_World H a md cl ms ∧ ClAt ms g m k c ∧ ∀ v, Fr K H v (.tuple (c.fds.map Kd.d)) → Q v H
theorem ok_World_fields (T : Txt K mg) : FnOk P w K mg base CX0 2 T.f_World_fields T.d_World_fields ["self", "g"] (sp_World_fields T) := by
  refine T.k_World_fields.ok sc_World_fields (fun vs H Q E h => ?_) (fun cdv A outer s H vs Q E hr h => ?_)
  · obtain ⟨a, md, cl, ms, g, m, k, c, rfl, _⟩ := h
    rfl
  · obtain ⟨a, md, cl, ms, g, m, k, c, rfl, w, hc, q⟩ := h
    have w0 := w
    obtain ⟨⟨dx, h1⟩, _, _⟩ := w0
    refine ⟨_, (pss_one (ps_ret (pe_ix (ix_tupK K) (pe_meth (pv 0) T.cl_World T.me_World__row (ok_World__row T) (hr.mono (by decide)) T.b_World__row .nil pass0 (pa_cons (pv 1) pa_nil)) pe_int (fun _ _ => rfl)))), ?_⟩
    walk_at "rd"
    exact i_meth h1 rfl ⟨a, md, cl, ms, g, m, k, c, rfl, w, hc, fun v hv => i_ixF (i := 3) hv rfl fun y hy => q y hy⟩
def sp_World_method {K : PySem.W.Frag} {mg : Str → Option Value} (T : Txt K mg) : Sp := fun vs H Q _ => ∃ (a md cl : Addr) (ms : List Md) (g : Nat) (m : Md) (k : Nat) (c : Cl) (j : Nat) (r : Rw), vs = [.ref a, .int g, .int j] ∧ Wd K T.c_World H a md cl ms ∧ ClAt ms g m k c ∧ c.tb[j]? = some r ∧ Q (.int r.m) H
theorem ok_World_method (T : Txt K mg) : FnOk P w K mg base CX0 2 T.f_World_method T.d_World_method ["self", "g", "row"] (sp_World_method T) := by
  refine T.k_World_method.ok sc_World_method (fun vs H Q E h => ?_) (fun cdv A outer s H vs Q E hr h => ?_)
  · obtain ⟨a, md, cl, ms, g, m, k, c, j, r, rfl, _⟩ := h
    rfl
  · obtain ⟨a, md, cl, ms, g, m, k, c, j, r, rfl, w, hc, hj, q⟩ := h
    have w0 := w
    obtain ⟨⟨dx, h1⟩, _, _⟩ := w0
    refine ⟨_, (pss_one (ps_ret (pe_ix (ix_tupK K) (pe_ix (ix_tupK K) (pe_ix (ix_tupK K) (pe_meth (pv 0) T.cl_World T.me_World__row (ok_World__row T) (hr.mono (by decide)) T.b_World__row .nil pass0 (pa_cons (pv 1) pa_nil)) pe_int (fun _ _ => rfl)) (pv 2) (fun _ _ => rfl)) pe_int (fun _ _ => rfl)))), ?_⟩
    walk_at "rd"
    refine i_meth h1 rfl ?_
    walk_at "rd"
    exact ⟨a, md, cl, ms, g, m, k, c, rfl, w, hc, fun v hv => i_ixF (i := 4) hv rfl fun y hy => i_ixF (i := j) hy (by rw [List.getElem?_map, hj]; rfl) fun u hu => i_ixFi (i := 3) hu rfl q⟩

/-! ### equality of types, numbers of classes -/
def KdOk : Kd → Prop
  | .fac a b => PyData.strOk a = true ∧ PyData.strOk b = true
  | _ => True
theorem kd_lay {k : Kd} (h : KdOk k) : PyData.canLay0 k.d = true ∧ PyData.depth k.d ≤ 2 := by
  cases k with
  | int => exact ⟨by decide +kernel, by decide⟩
  | bytes => exact ⟨by decide +kernel, by decide⟩
  | nothing => exact ⟨by decide +kernel, by decide⟩
  | null => exact ⟨by decide +kernel, by decide⟩
  | cls k =>
    refine ⟨?_, by simp [Kd.d, PyData.depth, PyData.depthAll]⟩
    show (PyData.strOk "class" && (true && true)) = true
    decide +kernel
  | fac a b =>
    refine ⟨?_, by simp [Kd.d, PyData.depth, PyData.depthAll]⟩
    show (PyData.strOk "face" && (PyData.strOk a && (PyData.strOk b && true))) = true
    rw [h.1, h.2]; decide +kernel
theorem kd_shaped {k : Kd} (h : KdOk k) : SeqAt.shaped k.d = true := by
  obtain ⟨h1, h2⟩ := kd_lay h
  unfold SeqAt.shaped
  rw [h1, Bool.true_and]
  exact decide_eq_true (by omega)
theorem strL_eqv {a b : Str} {xs ys : List PyData} : PyData.eqv (.tuple (.str a :: xs)) (.tuple (.str b :: ys)) = ((a == b) && PyData.eqv (.tuple xs) (.tuple ys)) := rfl
theorem kdN_ne {a b : Kd} (h : kdN a ≠ kdN b) : PyData.eqv a.d b.d = false := by
  obtain ⟨r1, e1⟩ := kd_at0 a
  obtain ⟨r2, e2⟩ := kd_at0 b
  rw [e1, e2, strL_eqv, beq_eq_false_iff_ne.mpr h]; rfl
def kTag : Kd → Nat
  | .int => 0 | .bytes => 1 | .nothing => 2 | .null => 3 | .cls _ => 4 | .fac _ _ => 5
def tagS (n : Nat) : Str := (["int", "bytes", "nothing", "null", "class", "face"] : List Str).getD n ""
theorem kdN_tag (k : Kd) : kdN k = tagS (kTag k) ∧ kTag k < 6 := by cases k <;> exact ⟨rfl, by simp [kTag]⟩
theorem tag_of {a b : Kd} (h : kdN a = kdN b) : kTag a = kTag b := by
  obtain ⟨e1, l1⟩ := kdN_tag a
  obtain ⟨e2, l2⟩ := kdN_tag b
  rw [e1, e2] at h
  have := (show ∀ i < 6, ∀ j < 6, tagS i = tagS j → i = j by decide +kernel) _ l1 _ l2 h
  exact this
theorem kd_eqv (a b : Kd) : PyData.eqv a.d b.d = decide (a = b) := by
  by_cases hn : kdN a = kdN b
  · have ht := tag_of hn
    cases a with
    | int => cases b <;> first | decide +kernel | (exfalso; simp [kTag] at ht)
    | bytes => cases b <;> first | decide +kernel | (exfalso; simp [kTag] at ht)
    | nothing => cases b <;> first | decide +kernel | (exfalso; simp [kTag] at ht)
    | null => cases b <;> first | decide +kernel | (exfalso; simp [kTag] at ht)
    | cls k =>
      cases b with
      | cls j =>
        show ((("class" : Str) == "class") && ((k : Int) == (j : Int) && true)) = _
        by_cases h : k = j
        · subst h; simp
        · have hk : ((k : Int) == (j : Int)) = false := by rw [beq_eq_false_iff_ne]; exact fun q => h (Int.ofNat.inj q)
          rw [hk, decide_eq_false (fun q => h (by injection q))]; simp
      | _ => exfalso; exact absurd ht (by simp [kTag])
    | fac p f =>
      cases b with
      | fac p2 f2 =>
        show ((("face" : Str) == "face") && ((p == p2) && ((f == f2) && true))) = _
        by_cases h1 : p = p2
        · by_cases h2 : f = f2
          · subst h1; subst h2; simp
          · rw [beq_eq_false_iff_ne.mpr h2, decide_eq_false (fun q => h2 (by injection q))]; simp
        · rw [beq_eq_false_iff_ne.mpr h1, decide_eq_false (fun q => h1 (by injection q))]; simp
      | _ => exfalso; exact absurd ht (by simp [kTag])
  · rw [kdN_ne hn, decide_eq_false (fun q => hn (by rw [q]))]
theorem cp_eqv (x y : Str × Nat) : PyData.eqv (cpD x) (cpD y) = decide (x = y) := by
  show ((x.1 == y.1) && (((x.2 : Nat) : Int) == ((y.2 : Nat) : Int) && true)) = _
  by_cases h1 : x.1 = y.1
  · by_cases h2 : x.2 = y.2
    · have : x = y := Prod.ext h1 h2
      rw [decide_eq_true this, h1, h2]; simp
    · have hk : ((((x.2 : Nat) : Int)) == ((y.2 : Nat) : Int)) = false := by rw [beq_eq_false_iff_ne]; exact fun q => h2 (Int.ofNat.inj q)
      rw [decide_eq_false (fun q => h2 (by rw [q])), hk]; simp
  · rw [decide_eq_false (fun q => h1 (by rw [q])), beq_eq_false_iff_ne.mpr h1]; rfl
theorem clsOf_cons (m : Md) (ms : List Md) : clsOf (m :: ms) = ((List.range m.cls.length).map fun k => (m.nm, k)) ++ clsOf ms := rfl
theorem clsOf_mem {ms : List Md} {x : Str × Nat} (h : x ∈ clsOf ms) : ∃ m ∈ ms, m.nm = x.1 ∧ x.2 < m.cls.length := by
  unfold clsOf at h
  obtain ⟨m, hm, h⟩ := List.mem_flatMap.mp h
  obtain ⟨k, hk, rfl⟩ := List.mem_map.mp h
  exact ⟨m, hm, rfl, List.mem_range.mp hk⟩
theorem clsOf_nd : ∀ {ms : List Md}, (ms.map Md.nm).Nodup → (clsOf ms).Nodup
  | [], _ => List.nodup_nil
  | m :: ms, h => by
    rw [List.map_cons, List.nodup_cons] at h
    rw [clsOf_cons, List.nodup_append]
    refine ⟨?_, clsOf_nd h.2, ?_⟩
    · rw [List.nodup_iff_pairwise_ne, List.pairwise_map]
      exact (List.nodup_iff_pairwise_ne.mp List.nodup_range).imp fun hne e => hne (Prod.mk.inj e).2
    · intro a ha b hb e
      obtain ⟨k, _, rfl⟩ := List.mem_map.mp ha
      obtain ⟨m2, hm2, e2, _⟩ := clsOf_mem hb
      rw [← e] at e2
      exact h.1 (List.mem_map.mpr ⟨m2, hm2, e2⟩)
theorem cps_lay : ∀ {xs : List (Str × Nat)}, (∀ x ∈ xs, PyData.strOk x.1 = true) → PyData.canLayAll0 (xs.map cpD) = true ∧ PyData.depthAll (xs.map cpD) ≤ 2
  | [], _ => by simp [PyData.canLayAll0, PyData.depthAll]
  | x :: xs, h => by
    have ih := cps_lay (xs := xs) fun y hy => h y (List.mem_cons_of_mem _ hy)
    have e1 : PyData.canLay0 (cpD x) = true := by
      show (PyData.strOk x.1 && (true && true)) = true
      rw [h x List.mem_cons_self]; rfl
    have e2 : PyData.depth (cpD x) ≤ 2 := by simp [cpD, PyData.depth, PyData.depthAll]
    simp [PyData.canLayAll0, PyData.depthAll, ih.1, e1]
    omega
theorem shaped_of {ds : List PyData} (h : PyData.canLayAll0 ds = true ∧ PyData.depthAll ds ≤ 60) : SeqAt.shaped (.list ds) = true ∧ SeqAt.shaped (.tuple ds) = true := by
  refine ⟨?_, ?_⟩ <;>
  · unfold SeqAt.shaped
    rw [Bool.and_eq_true]
    refine ⟨h.1, decide_eq_true ?_⟩
    show PyData.depthAll ds + 1 ≤ 64
    omega
def sp_World_number {K : PySem.W.Frag} {mg : Str → Option Value} (T : Txt K mg) : Sp := fun vs H Q _ => ∃ (a md cl : Addr) (ms : List Md) (x : Str × Nat) (j : Nat), vs = [.ref a, .str x.1, .int x.2] ∧ Wd K T.c_World H a md cl ms ∧ Ms ms ∧ (clsOf ms)[j]? = some x ∧ ∀ H', Same H H' → Q (.int j) H'
theorem ok_World_number (T : Txt K mg) : FnOk P w K mg base CX0 1 T.f_World_number T.d_World_number ["self", "package", "k"] (sp_World_number T) := by
  refine T.k_World_number.ok sc_World_number (fun vs H Q E h => ?_) (fun cdv A outer s H vs Q E hr h => ?_)
  · obtain ⟨a, md, cl, ms, x, j, rfl, _⟩ := h
    rfl
  · obtain ⟨a, md, cl, ms, x, j, rfl, w, hM, hj, q⟩ := h
    obtain ⟨⟨dx, h1⟩, _, ⟨ws, h3, f3⟩⟩ := w
    refine ⟨_, (pss_one (ps_ret (pe_bmK K PySem.F.plainAttrs_list PySem.F.slot_list_index PySem.F.type_list_index (mt_indexD (room65 hr)) (pe_fldK K (pv 0) rfl) (pa_cons (pe_tup (pa_cons (pv 1) (pa_cons (pv 2) pa_nil))) pa_nil)))), ?_⟩
    walk_at "rd"
    refine i_fld T.cl_World T.nf_World_classes h1 rfl ⟨.inl ⟨rfl, _, sqL_of h3⟩, fun t ht => ?_⟩
    have st := same_new (o := .tup [.str x.1, .int x.2]) ht
    have hok : ∀ y ∈ clsOf ms, PyData.strOk y.1 = true := fun y hy => by
      obtain ⟨m, hm, e, _⟩ := clsOf_mem hy
      rw [← e]; exact (hM.sz m hm).nm
    have l1 := cps_lay hok
    have l2 := cps_lay (xs := [x]) fun y hy => by rw [List.mem_singleton.mp hy]; exact hok x (List.mem_of_getElem? hj)
    refine ⟨cl, .ref t, cpD x, (clsOf ms).map cpD, j, cpD x, rfl, rfl, .lst (sqL_of (st _ _ h3)) (f3.up (.of st)).dp, .tup (sqT_of upd_same) (.cons (.str _) (.cons (.int _) .nil)), (shaped_of ⟨l1.1, by omega⟩).1, ?_, by rw [List.getElem?_map, hj]; rfl, by rw [cp_eqv]; exact decide_eq_true rfl, ?_, q _ st⟩
    · have : PyData.canLay0 (cpD x) = true := by
        show (PyData.strOk x.1 && (true && true)) = true
        rw [hok x (List.mem_of_getElem? hj)]; rfl
      unfold SeqAt.shaped
      rw [this, Bool.true_and]
      exact decide_eq_true (by simp [cpD, PyData.depth, PyData.depthAll])
    · intro m z' hm hz
      rw [List.getElem?_map] at hz
      cases e : (clsOf ms)[m]? with
      | none => rw [e] at hz; cases hz
      | some y =>
        rw [e] at hz
        have hz : cpD y = z' := Option.some.inj hz
        subst hz
        rw [cp_eqv]
        refine decide_eq_false fun q2 => ?_
        subst q2
        obtain ⟨b1, b2⟩ := List.getElem?_eq_some_iff.mp e
        obtain ⟨b3, b4⟩ := List.getElem?_eq_some_iff.mp hj
        exact List.pairwise_iff_getElem.mp (List.nodup_iff_pairwise_ne.mp (clsOf_nd hM.nd)) m j b1 b3 hm (by rw [b2, b4])
/-! ### kinds -/
def isKind (m : Md) (k : Nat) (p : Str) : Kd → Bool
  | .cls j => decide (p = m.nm) && decide ((j : Int) ∈ ancs m.cls k)
  | .fac a b => decide ((a, b) ∈ facesOf m k)
  | _ => false
theorem isKind_cls {m : Md} {k : Nat} {p : Str} {j : Nat} : isKind m k p (.cls j) = (decide (p = m.nm) && decide ((j : Int) ∈ ancs m.cls k)) := rfl
theorem inV_ints {j : Int} : ∀ {l : List Int}, inV (.int j) (intsV l) = decide (j ∈ l)
  | [] => rfl
  | x :: l => by
    have ih := inV_ints (j := j) (l := l)
    show ((x == j) || inV (.int j) (intsV l)) = _
    rw [ih]
    by_cases e : x = j
    · subst e; simp
    · rw [beq_eq_false_iff_ne.mpr e]
      by_cases h : j ∈ l <;> simp [h, Ne.symm e]
theorem ints_flat {l : List Int} : (intsV l).all flatV = true := by
  rw [List.all_eq_true]
  intro v hv
  obtain ⟨_, _, rfl⟩ := List.mem_map.mp hv
  rfl
theorem any_fc {a b : Str} : ∀ {l : List (Str × Str)}, ((l.map fcD).any fun z => PyData.eqv z (Kd.fac a b).d) = decide ((a, b) ∈ l)
  | [] => rfl
  | x :: l => by
    have ih := any_fc (a := a) (b := b) (l := l)
    rw [List.map_cons, List.any_cons, ih, fcD_eq, kd_eqv]
    by_cases e : x = (a, b)
    · subst e
      rw [decide_eq_true (show faceKd (a, b) = Kd.fac a b from rfl)]
      simp
    · rw [decide_eq_false (show ¬ faceKd x = Kd.fac a b from fun q => e (by
        obtain ⟨x1, x2⟩ := x
        have q : Kd.fac x1 x2 = Kd.fac a b := q
        injection q with q1 q2
        rw [q1, q2]))]
      by_cases h : (a, b) ∈ l <;> simp [h, Ne.symm e]
theorem faces_ok {m : Md} (z : Sz m) {k : Int} : ∀ f ∈ facesOf m k, PyData.strOk f.1 = true ∧ PyData.strOk f.2 = true := by
  intro f hf
  obtain ⟨j, _, hf⟩ := List.mem_flatMap.mp hf
  cases e : m.cls[j.toNat]? with
  | none => rw [e] at hf; cases hf
  | some c => rw [e] at hf; exact z.fo c (List.mem_of_getElem? e) f hf
theorem kds_lay : ∀ {xs : List Kd}, (∀ x ∈ xs, KdOk x) → PyData.canLayAll0 (xs.map Kd.d) = true ∧ PyData.depthAll (xs.map Kd.d) ≤ 2
  | [], _ => by simp [PyData.canLayAll0, PyData.depthAll]
  | x :: xs, h => by
    have ih := kds_lay (xs := xs) fun y hy => h y (List.mem_cons_of_mem _ hy)
    have h0 := kd_lay (h x List.mem_cons_self)
    simp [PyData.canLayAll0, PyData.depthAll, ih.1, h0.1]
    omega
theorem fcs_map (l : List (Str × Str)) : l.map fcD = (l.map faceKd).map Kd.d := by rw [List.map_map]; rfl
def sp_World_is_kind {K : PySem.W.Frag} {mg : Str → Option Value} (T : Txt K mg) : Sp := fun vs H Q _ => ∃ (a md cl : Addr) (ms : List Md) (g : Nat) (m : Md) (k : Nat) (c : Cl) (p : Str) (v : V) (kd : Kd), vs = [.ref a, .int g, .str p, v] ∧ Wd K T.c_World H a md cl ms ∧ Ms ms ∧ ClAt ms g m k c ∧ Fr K H v kd.d ∧ KdOk kd ∧
  ∀ H', Same H H' → Q (.bl (isKind m k p kd)) H'
theorem ok_World_is_kind (T : Txt K mg) : FnOk P w K mg base CX0 3 T.f_World_is_kind T.d_World_is_kind ["self", "g", "package", "kind"] (sp_World_is_kind T) := by
  refine T.k_World_is_kind.ok sc_World_is_kind (fun vs H Q E h => ?_) (fun cdv A outer s H vs Q E hr h => ?_)
  · obtain ⟨a, md, cl, ms, g, m, k, c, p, v, kd, rfl, _⟩ := h
    rfl
  · obtain ⟨a, md, cl, ms, g, m, k, c, p, v, kd, rfl, w, hM, hc, hv, hk, q⟩ := h
    refine ⟨_, (pss_cons (ps_set (i := 4) sc_World_is_kind.nd rfl (.inl rfl) (pe_dget (hu_of hr) (pe_fldK K (pv 0) rfl) (pe_meth (pv 0) T.cl_World T.me_World_package (ok_World_package T) (hr.mono (by decide)) T.b_World_package .nil pass0 (pa_cons (pv 1) pa_nil)) (fun _ _ => rfl)))
      (pss_cons (ps_if (pt_val (pe_call (ok_is_class T) (hr.mono (by decide)) (by rfl) T.g_is_class T.k_is_class.kp T.b_is_class .nil pass0 (pa_cons (pv 3) pa_nil))) (pss_one (ps_ret (pe_and (pe_cmpR op_eq (pv 2) (pe_meth (pv 0) T.cl_World T.me_World_package (ok_World_package T) (hr.mono (by decide)) T.b_World_package .nil pass0 (pa_cons (pv 1) pa_nil)) (nomark _)) (pe_one (pe_cmpR (in_seqK K) (pe_ix (ix_tupK K) (pv 3) pe_int (fun _ _ => rfl)) (pe_call (ok_ancestors_of T) (hr.mono (by decide)) (by rfl) T.g_ancestors_of T.k_ancestors_of.kp T.b_ancestors_of .nil pass0 (pa_cons (pv 4) (pa_cons (pe_meth (pv 0) T.cl_World T.me_World_own (ok_World_own T) (hr.mono (by decide)) T.b_World_own .nil pass0 (pa_cons (pv 1) pa_nil)) pa_nil))) rfl))))) pss_nil)
      (pss_one (ps_ret (pe_and (pe_call (ok_is_face T) (hr.mono (by decide)) (by rfl) T.g_is_face T.k_is_face.kp T.b_is_face .nil pass0 (pa_cons (pv 3) pa_nil)) (pe_one (pe_cmpR (op_inD (room65 hr)) (pv 3) (pe_call (ok_faces_of T) (hr.mono (by decide)) (by rfl) T.g_faces_of T.k_faces_of.kp T.b_faces_of .nil pass0 (pa_cons (pv 4) (pa_cons (pe_meth (pv 0) T.cl_World T.me_World_own (ok_World_own T) (hr.mono (by decide)) T.b_World_own .nil pass0 (pa_cons (pv 1) pa_nil)) pa_nil))) rfl))))))), ?_⟩
    have w0 := w
    obtain ⟨⟨dx, h1⟩, ⟨us, h2, f2⟩, _⟩ := w0
    have hmem : m ∈ ms := List.mem_of_find?_eq_some hc.hm
    have z := hM.sz m hmem
    have hkl := (List.getElem?_eq_some_iff.mp hc.hc).1
    walk_at "rd"
    refine rdSeq ?_
    walk_at "rd"
    refine i_fld T.cl_World T.nf_World_modules h1 rfl (i_meth h1 rfl ⟨a, md, cl, ms, g, _, rfl, w, hc.hg, ?_⟩)
    rcases find_kvs (n := m.nm) f2 with ⟨m', mv, e1, e2, fv⟩ | ⟨e1, e2⟩
    rotate_left
    · rw [hc.hm] at e1; cases e1
    rw [hc.hm] at e1
    cases e1
    refine i_dget h2 e2 ?_
    refine rdSeq ?_
    walk_at "rd"
    refine ⟨v, kd, rfl, hv, _, rfl, ite2 (fun hcl => ?_) (fun hcl => ?_)⟩
    · cases kd with
      | cls j =>
        refine i_meth h1 rfl ⟨a, md, cl, ms, g, _, rfl, w, hc.hg, rfl, ite2 (fun hp => ?_) (fun hp => ?_)⟩
        · refine i_ixFi (i := 1) hv rfl (i_meth h1 rfl ⟨a, md, cl, ms, g, _, rfl, w, hc.hg, ?_⟩)
          refine ⟨mv, m, k, rfl, fv, z.ah, by have := z.cl; omega, by omega, by omega, fun l H1 hl s1 hl1 => ⟨l, _, rfl, .inl (sqL_of hl1), rfl, ints_flat, ?_⟩⟩
          rw [inV_ints]
          have := q H1 s1
          rw [isKind_cls, decide_eq_true (V.str.inj hp), Bool.true_and] at this
          exact this
        · have := q H (Same.refl H)
          rw [isKind_cls, decide_eq_false (fun e => hp (by rw [e])), Bool.false_and] at this
          exact this
      | _ => cases hcl
    · walk_at "rd"
      refine ⟨v, kd, rfl, hv, _, rfl, ite2 (fun hf => ?_) (fun hf => ?_)⟩
      · cases kd with
        | fac x y =>
          refine i_meth h1 rfl ⟨a, md, cl, ms, g, _, rfl, w, hc.hg, ?_⟩
          refine ⟨mv, m, k, rfl, fv, z, by omega, by omega, fun l ws H1 hl s1 hl1 fl => ?_⟩
          have fk := faces_ok z (k := (k : Int))
          have lay := kds_lay (xs := (facesOf m k).map faceKd) fun y hy => by
            obtain ⟨f, hf, rfl⟩ := List.mem_map.mp hy
            exact fk f hf
          rw [← fcs_map] at lay
          refine ⟨(Kd.fac x y).d, (facesOf m k).map fcD, (hv.up (.of s1)).dp, .lst (sqL_of hl1) fl.dp, kd_shaped hk, (shaped_of ⟨lay.1, by omega⟩).1, ?_⟩
          rw [any_fc]
          exact q H1 s1
        | _ => cases hf
      · have := q H (Same.refl H)
        cases kd with
        | fac x y => exact absurd rfl hf
        | cls j => exact absurd rfl hcl
        | _ => exact this

/-- what row tells -/
def rowF (m : Md) (k : Nat) (c : Cl) (p f : Str) (h : Hd) : Int := if (p, f) ∈ facesOf m k then rowIx c.tb h.nm else -1
def sp_World_row {K : PySem.W.Frag} {mg : Str → Option Value} (T : Txt K mg) : Sp := fun vs H Q _ => ∃ (a md cl : Addr) (ms : List Md) (g : Nat) (m : Md) (k : Nat) (c : Cl) (p f : Str) (n : Nat) (hs : List Hd) (h : Hd), vs = [.ref a, .int g, .str p, .str f, .int n] ∧ Wd K T.c_World H a md cl ms ∧ Ms ms ∧ ClAt ms g m k c ∧
  PyData.strOk p = true ∧ PyData.strOk f = true ∧ faceM ms p f = some hs ∧ hs[n]? = some h ∧ ∀ H', Same H H' → Q (.int (rowF m k c p f h)) H'
theorem ok_World_row (T : Txt K mg) : FnOk P w K mg base CX0 4 T.f_World_row T.d_World_row ["self", "g", "package", "face", "number"] (sp_World_row T) := by
  refine T.k_World_row.ok sc_World_row (fun vs H Q E h => ?_) (fun cdv A outer s H vs Q E hr h => ?_)
  · obtain ⟨a, md, cl, ms, g, m, k, c, p, f, n, hs, hh, rfl, _⟩ := h
    rfl
  · obtain ⟨a, md, cl, ms, g, m, k, c, p, f, n, hs, hh, rfl, w, hM, hc, o1, o2, hf, hn, q⟩ := h
    refine ⟨_, (pss_cons (ps_if (pt_not (pt_val (pe_meth (pv 0) T.cl_World T.me_World_is_kind (ok_World_is_kind T) (hr.mono (by decide)) T.b_World_is_kind .nil pass0 (pa_cons (pv 1) (pa_cons (pe_meth (pv 0) T.cl_World T.me_World_package (ok_World_package T) (hr.mono (by decide)) T.b_World_package .nil pass0 (pa_cons (pv 1) pa_nil)) (pa_cons (pe_tup (pa_cons pe_str (pa_cons (pv 2) (pa_cons (pv 3) pa_nil)))) pa_nil)))))) (pss_one (ps_ret (pe_un un_neg pe_int))) pss_nil)
      (pss_one (ps_ret (pe_call (ok_row_of T) (hr.mono (by decide)) (by rfl) T.g_row_of T.k_row_of.kp T.b_row_of .nil pass0 (pa_cons (pe_ix (ix_tupK K) (pe_meth (pv 0) T.cl_World T.me_World__row (ok_World__row T) (hr.mono (by decide)) T.b_World__row .nil pass0 (pa_cons (pv 1) pa_nil)) pe_int (fun _ _ => rfl)) (pa_cons (pe_ix (ix_tupK K) (pe_ix (ix_tupK K) (pe_meth (pv 0) T.cl_World T.me_World_face (ok_World_face T) (hr.mono (by decide)) T.b_World_face .nil pass0 (pa_cons (pv 2) (pa_cons (pv 3) pa_nil))) (pv 4) (fun _ _ => rfl)) pe_int (fun _ _ => rfl)) pa_nil)))))), ?_⟩
    have w0 := w
    obtain ⟨⟨dx, h1⟩, _, _⟩ := w0
    walk_at "rd"
    refine rdSeq ?_
    walk_at "rd"
    refine i_meth h1 rfl ?_
    walk_at "rd"
    refine i_meth h1 rfl ⟨a, md, cl, ms, g, _, rfl, w, hc.hg, fun t ht => ?_⟩
    have st := same_new (o := .tup [.str "face", .str p, .str f]) ht
    have w1 := w.same st
    refine ⟨a, md, cl, ms, g, m, k, c, m.nm, .ref t, .fac p f, rfl, w1, hM, hc, .tup (.inl upd_same) (.cons (.str _) (.cons (.str _) (.cons (.str _) .nil))), ⟨o1, o2⟩, fun H1 s1 => ⟨_, rfl, ?_⟩⟩
    have s2 := st.trans s1
    have w2 := w.same s2
    have h2 := s2 _ _ h1
    refine ite2 (fun hk => ?_) (fun hk => ?_)
    · have hk : ¬ (p, f) ∈ facesOf m k := fun e => by
        have e2 : isKind m k m.nm (.fac p f) = true := decide_eq_true e
        rw [e2] at hk; cases hk
      have := q H1 s2
      unfold rowF at this
      rw [if_neg hk] at this
      walk_at "rd"
      exact this
    · have hk : (p, f) ∈ facesOf m k := by
        cases e2 : isKind m k m.nm (.fac p f) with
        | true => exact of_decide_eq_true e2
        | false => rw [e2] at hk; exact absurd rfl hk
      walk_at "rd"
      refine i_meth h2 rfl ⟨a, md, cl, ms, g, m, k, c, rfl, w2, hc, fun v hv => i_ixF (i := 4) hv rfl fun y hy => i_meth h2 rfl ?_⟩
      refine ⟨a, md, cl, ms, p, f, rfl, w2, fun hs' v' e hv' => ?_, fun e => by rw [hf] at e; cases e⟩
      rw [hf] at e
      cases e
      refine i_ixF (i := n) hv' (by rw [List.getElem?_map, hn]; rfl) fun u hu => i_ixFs (i := 0) hu rfl ⟨y, c.tb, hh.nm, rfl, hy, fun H2 s3 => ?_⟩
      have := q H2 (s2.trans s3)
      unfold rowF at this
      rw [if_pos hk] at this
      exact this
theorem i_eqKd {K : PySem.W.Frag} {H : Hp} {u v : V} {x y : Kd} {Q : VK} (hu : Fr K H u x.d) (hv : Fr K H v y.d) (ox : KdOk x) (oy : KdOk y) (q : Q (.bl (decide (x = y))) H) : rEqD K u v H Q :=
  ⟨x.d, y.d, hu.dp, hv.dp, kd_shaped ox, kd_shaped oy, by rw [kd_eqv]; exact q⟩
theorem i_neKd {K : PySem.W.Frag} {H : Hp} {u v : V} {x y : Kd} {Q : VK} (hu : Fr K H u x.d) (hv : Fr K H v y.d) (ox : KdOk x) (oy : KdOk y) (q : Q (.bl (!decide (x = y))) H) : rNeD K u v H Q :=
  ⟨x.d, y.d, hu.dp, hv.dp, kd_shaped ox, kd_shaped oy, by rw [kd_eqv]; exact q⟩
def fitsP (m : Md) (a b : Kd) : Bool := if a = b then !decide (a = .nothing) else if a = .null then (decide (b = .bytes) || (isCls b || isFac b)) else match a with
  | .cls j => isKind m j m.nm b
  | _ => false
def sp_World_fits {K : PySem.W.Frag} {mg : Str → Option Value} (T : Txt K mg) : Sp := fun vs H Q _ => ∃ (a md cl : Addr) (ms : List Md) (m : Md) (u v : V) (x y : Kd), vs = [.ref a, .str m.nm, u, v] ∧ Wd K T.c_World H a md cl ms ∧ Ms ms ∧ findM ms m.nm = some m ∧ Fr K H u x.d ∧ Fr K H v y.d ∧ KdOk x ∧ KdOk y ∧
  (∀ j, x = .cls j → ∃ c g, ClAt ms g m j c) ∧ ∀ H', Same H H' → Q (.bl (fitsP m x y)) H'
theorem ok_World_fits (T : Txt K mg) : FnOk P w K mg base CX0 4 T.f_World_fits T.d_World_fits ["self", "package", "one", "other"] (sp_World_fits T) := by
  refine T.k_World_fits.ok sc_World_fits (fun vs H Q E h => ?_) (fun cdv A outer s H vs Q E hr h => ?_)
  · obtain ⟨a, md, cl, ms, m, u, v, x, y, rfl, _⟩ := h
    rfl
  · obtain ⟨a, md, cl, ms, m, u, v, x, y, rfl, w, hM, hm, hu, hv, ox, oy, hx, q⟩ := h
    refine ⟨_, (pss_cons (ps_if (pt_cmpR (op_eqD hr.units) (pv 2) (pv 3) (nomark _)) (pss_one (ps_ret (pe_cmpR (op_neD hr.units) (pv 2) (pe_glob (v := .ref T.a_NOTHING) rfl T.g_NOTHING rfl) (nomark _)))) pss_nil)
      (pss_cons (ps_if (pt_cmpR (op_eqD hr.units) (pv 2) (pe_glob (v := .ref T.a_NULL) rfl T.g_NULL rfl) (nomark _)) (pss_one (ps_ret (pe_or (pe_cmpR (op_eqD hr.units) (pv 3) (pe_glob (v := .ref T.a_BYTES) rfl T.g_BYTES rfl) (nomark _)) (pe_or (pe_call (ok_is_class T) (hr.mono (by decide)) (by rfl) T.g_is_class T.k_is_class.kp T.b_is_class .nil pass0 (pa_cons (pv 3) pa_nil)) (pe_one (pe_call (ok_is_face T) (hr.mono (by decide)) (by rfl) T.g_is_face T.k_is_face.kp T.b_is_face .nil pass0 (pa_cons (pv 3) pa_nil))))))) pss_nil)
      (pss_one (ps_ret (pe_and (pe_call (ok_is_class T) (hr.mono (by decide)) (by rfl) T.g_is_class T.k_is_class.kp T.b_is_class .nil pass0 (pa_cons (pv 2) pa_nil)) (pe_one (pe_meth (pv 0) T.cl_World T.me_World_is_kind (ok_World_is_kind T) (hr.mono (by decide)) T.b_World_is_kind .nil pass0 (pa_cons (pe_meth (pv 0) T.cl_World T.me_World_number (ok_World_number T) (hr.mono (by decide)) T.b_World_number .nil pass0 (pa_cons (pv 1) (pa_cons (pe_ix (ix_tupK K) (pv 2) pe_int (fun _ _ => rfl)) pa_nil))) (pa_cons (pv 1) (pa_cons (pv 3) pa_nil)))))))))), ?_⟩
    have w0 := w
    obtain ⟨⟨dx, h1⟩, _, _⟩ := w0
    walk_at "rd"
    refine rdSeq ?_
    walk_at "rd"
    have fN : ∀ G, Fr K G (.ref T.a_NOTHING) Kd.nothing.d := fun G => .tup (.inr T.s_NOTHING) (.cons (.str _) .nil)
    have fL : ∀ G, Fr K G (.ref T.a_NULL) Kd.null.d := fun G => .tup (.inr T.s_NULL) (.cons (.str _) .nil)
    have fB : ∀ G, Fr K G (.ref T.a_BYTES) Kd.bytes.d := fun G => .tup (.inr T.s_BYTES) (.cons (.str _) .nil)
    have q0 := q H (Same.refl H)
    unfold fitsP at q0
    refine i_eqKd hu hv ox oy ⟨_, rfl, ite2 (fun e1 => ?_) (fun e1 => ?_)⟩
    · rw [if_pos (of_decide_eq_true e1)] at q0
      exact i_neKd hu (fN H) ox trivial q0
    rw [if_neg (fun k => e1 (decide_eq_true k))] at q0
    refine rdSeq ?_
    walk_at "rd"
    refine i_eqKd hu (fL H) ox trivial ⟨_, rfl, ite2 (fun e2 => ?_) (fun e2 => ?_)⟩
    · rw [if_pos (of_decide_eq_true e2)] at q0
      refine i_eqKd hv (fB H) oy trivial ?_
      refine ⟨_, rfl, ite2 (fun h => ?_) (fun h => ⟨v, y, rfl, hv, _, rfl, ite2 (fun h2 => ?_) (fun h2 => ⟨v, y, rfl, hv, ?_⟩)⟩)⟩
      · rw [h] at q0; exact q0
      · rw [h2, Bool.eq_false_iff.mpr h] at q0; exact q0
      · rw [Bool.eq_false_iff.mpr h2, Bool.eq_false_iff.mpr h] at q0; exact q0
    rw [if_neg (fun k => e2 (decide_eq_true k))] at q0
    walk_at "rd"
    refine ⟨u, x, rfl, hu, _, rfl, ite2 (fun e3 => ?_) (fun e3 => ?_)⟩
    · cases x with
      | cls j =>
        obtain ⟨c, g, hc⟩ := hx j rfl
        refine i_meth h1 rfl ?_
        walk_at "rd"
        refine i_meth h1 rfl ?_
        walk_at "rd"
        refine i_ixFi (i := 1) hu rfl ⟨a, md, cl, ms, (m.nm, j), g, rfl, w, hM, hc.hg, fun H1 s1 => ?_⟩
        exact ⟨a, md, cl, ms, g, m, j, c, m.nm, v, y, rfl, w.same s1, hM, hc, hv.up (.of s1), oy, fun H2 s2 => by
          have := q H2 (s1.trans s2)
          unfold fitsP at this
          rw [if_neg (fun k => e1 (decide_eq_true k)), if_neg (fun k => e2 (decide_eq_true k))] at this
          exact this⟩
      | _ => cases e3
    · cases x with
      | cls j => exact absurd rfl e3
      | _ => exact q0
def appK (m : Md) (n : Str) : Option Nat := m.apps.find? fun k => match m.cls[k]? with
  | some c => decide (c.nm = n)
  | none => false

theorem cls_num {ms : List Md} {m : Md} {k : Nat} (h : m ∈ ms) (hk : k < m.cls.length) : ∃ j : Nat, (clsOf ms)[j]? = some (m.nm, k) := by
  have : (m.nm, k) ∈ clsOf ms := List.mem_flatMap.mpr ⟨m, h, List.mem_map.mpr ⟨k, List.mem_range.mpr hk, rfl⟩⟩
  obtain ⟨j, hj, e⟩ := List.mem_iff_getElem.mp this
  exact ⟨j, by rw [List.getElem?_eq_getElem hj, e]⟩
theorem findM_nm {ms : List Md} {p : Str} {m : Md} (h : findM ms p = some m) : m.nm = p := by
  have := List.find?_some h
  exact of_decide_eq_true this
def sp_World_applet {K : PySem.W.Frag} {mg : Str → Option Value} (T : Txt K mg) : Sp := fun vs H Q _ => ∃ (a md cl : Addr) (ms : List Md) (p n : Str), vs = [.ref a, .str p, .str n] ∧ Wd K T.c_World H a md cl ms ∧ Ms ms ∧
  (findM ms p = none → Q (.int (-1)) H) ∧ ∀ m, findM ms p = some m → (appK m n = none → Q (.int (-1)) H) ∧ ∀ k j : Nat, appK m n = some k → (clsOf ms)[j]? = some (m.nm, k) → ∀ H', Same H H' → Q (.int j) H'
theorem ok_World_applet (T : Txt K mg) : FnOk P w K mg base CX0 2 T.f_World_applet T.d_World_applet ["self", "package", "name"] (sp_World_applet T) := by
  refine T.k_World_applet.ok sc_World_applet (fun vs H Q E h => ?_) (fun cdv A outer s H vs Q E hr h => ?_)
  · obtain ⟨a, md, cl, ms, p, n, rfl, _⟩ := h
    rfl
  · obtain ⟨a, md, cl, ms, p, n, rfl, w, hM, q1, q2⟩ := h
    have w0 := w
    obtain ⟨⟨dx, h1⟩, ⟨vs, h2, f2⟩, _⟩ := w0
    refine ⟨_, (pss_cons (ps_if (pt_cmp (pc_dnotin (hu_of hr) (pv 1) (pe_fldK K (pv 0) rfl)) rfl) (pss_one (ps_ret (pe_un un_neg pe_int))) pss_nil)
      (pss_cons (ps_for PassesOwn.never rfl (pi_tup (pe_ix (ix_tupK K) (pe_dget (hu_of hr) (pe_fldK K (pv 0) rfl) (pv 1) (fun _ _ => rfl)) pe_int (fun _ _ => rfl))) (pg_name (i := 3) sc_World_applet.nd rfl (Or.inl rfl)) (pss_one (ps_if (pt_cmpR op_eq (pe_ix (ix_tupK K) (pe_ix (ix_tupK K) (pe_ix (ix_tupK K) (pe_dget (hu_of hr) (pe_fldK K (pv 0) rfl) (pv 1) (fun _ _ => rfl)) pe_int (fun _ _ => rfl)) (pv 3) (fun _ _ => rfl)) pe_int (fun _ _ => rfl)) (pv 2) (nomark _)) (pss_one (ps_ret (pe_meth (pv 0) T.cl_World T.me_World_number (ok_World_number T) (hr.mono (by decide)) T.b_World_number .nil pass0 (pa_cons (pv 1) (pa_cons (pv 3) pa_nil))))) pss_nil)))
      (pss_one (ps_ret (pe_un un_neg pe_int))))), ?_⟩
    walk_at "rd"
    refine rdSeq ?_
    walk_at "rd"
    refine i_fld T.cl_World T.nf_World_modules h1 rfl ⟨md, rfl, _, DGet.k (k := .inr p) h2, ?_⟩
    rcases find_kvs (n := p) f2 with ⟨m, v, e1, e2, fv⟩ | ⟨e1, e2⟩
    · have q2 := q2 m e1
      have hmem : m ∈ ms := List.mem_of_find?_eq_some e1
      have z := hM.sz m hmem
      have hnm := findM_nm e1
      rw [e2]
      refine i_else (by simp) (rdSeq ?_)
      walk_at "rd"
      refine i_fld T.cl_World T.nf_World_modules h1 rfl (i_dget h2 e2 (i_ixF (i := 7) fv (Md.at7 m) fun x hx7 => ?_))
      obtain ⟨t, xs, rfl, sq, fl⟩ := hx7.inv
      clear hx7
      have hlen := fl.len
      rw [List.length_map] at hlen
      refine ⟨t, rfl, ⟨_, sq.sq⟩, ?_⟩
      refine i_for (walk_tup (K := K) (a := t) (xs := xs)) (fun i σ' H' => H' = H ∧ (∃ u, σ' = [some (.ref a), some (.str p), some (.str n), u]) ∧ ∀ k ∈ m.apps.take i, ¬ (match m.cls[k]? with | some c => decide (c.nm = n) | none => false) = true) ⟨rfl, ⟨_, rfl⟩, by simp⟩ (fun i σ' H' _ h => by rw [h.1]; exact sq.sq) ?_ ?_
      · rintro i x σ' H' H2 hi ⟨rfl, ⟨u, rfl⟩, hno⟩ ⟨rfl, hx⟩
        have hi2 : i < m.apps.length := by omega
        obtain ⟨d, hd, fx⟩ := fl.getV hx
        rw [List.getElem?_map, List.getElem?_eq_getElem hi2] at hd
        cases hd
        rw [fx.intI]
        have hk := z.ap _ (List.getElem_mem hi2)
        have hc := List.getElem?_eq_getElem hk
        walk_at "rd"
        refine i_fld T.cl_World T.nf_World_modules h1 rfl (i_dget h2 e2 (i_ixF (i := 5) fv (Md.at5 m) fun x hx => i_ixF (i := m.apps[i]) hx (cls_at hc) fun y hy => i_ixFs (i := 0) hy rfl ⟨rfl, ite2 (fun h => ?_) (fun h => ?_)⟩))
        · obtain ⟨j, hj⟩ := cls_num hmem hk
          refine i_meth h1 rfl ?_
          walk_at "rd"
          refine ⟨a, md, cl, ms, (m.nm, m.apps[i]), j, by rw [hnm], w, hM, hj, fun H' s' => q2.2 _ j ?_ hj H' s'⟩
          unfold appK
          rw [List.find?_eq_some_iff_getElem]
          refine ⟨by rw [hc]; exact decide_eq_true (V.str.inj h), i, hi2, rfl, fun k hk2 => ?_⟩
          have hm : m.apps[k] ∈ m.apps.take i := by
            rw [List.mem_take_iff_getElem]
            exact ⟨k, by omega, rfl⟩
          simpa using hno _ hm
        · refine ⟨rfl, fun k hk2 => ?_⟩
          rw [List.take_add_one, List.getElem?_eq_getElem hi2] at hk2
          rcases List.mem_append.mp hk2 with k3 | k3
          · exact hno k k3
          · rw [List.mem_singleton.mp k3, hc]
            intro k4
            exact h (by rw [of_decide_eq_true k4])
      · rintro σ' H' ⟨rfl, ⟨u, rfl⟩, hno⟩
        walk_at "rd"
        rw [hlen, List.take_length] at hno
        refine q2.1 ?_
        unfold appK
        rw [List.find?_eq_none]
        exact hno
    · rw [e2]
      exact i_then rfl (q1 e1)
/-! ### Draft -/
def dfs (a : Addr) (v : V) : List (Str × V) := [("_world", .ref a), ("_module", v)]
structure Dr (K : PySem.W.Frag) (CD CW : Addr) (H : Hp) (d a md cl : Addr) (ms : List Md) (m : Md) (v : V) : Prop where
  ob : ∃ dx, H d = some (.ins CD dx (dfs a v))
  wd : Wd K CW H a md cl ms
  fr : Fr K H v m.d
theorem Dr.same {K : PySem.W.Frag} {CD CW : Addr} {H H' : Hp} {d a md cl : Addr} {ms : List Md} {m : Md} {v : V} (w : Dr K CD CW H d a md cl ms m v) (s : Same H H') : Dr K CD CW H' d a md cl ms m v := by
  obtain ⟨⟨dx, h1⟩, h2, h3⟩ := w
  exact ⟨⟨dx, s _ _ h1⟩, h2.same s, h3.up (.of s)⟩
def sp_Draft_init {K : PySem.W.Frag} {mg : Str → Option Value} (T : Txt K mg) : Sp := fun vs H Q _ => ∃ (x dx : Addr) (u v : V), vs = [.ref x, u, v] ∧ H x = some (.ins T.c_Draft dx []) ∧ Q .non (upd H x (.ins T.c_Draft dx [("_world", u), ("_module", v)]))
theorem ok_Draft_init (T : Txt K mg) : FnOk P w K mg base CX0 1 T.f_Draft_init T.d_Draft_init ["self", "world", "module"] (sp_Draft_init T) := by
  refine T.k_Draft_init.ok sc_Draft_init (fun vs H Q E h => ?_) (fun cdv A outer s H vs Q E hr h => ?_)
  · obtain ⟨x, dx, u, v, rfl, _⟩ := h
    rfl
  · obtain ⟨x, dx, u, v, rfl, hx, q⟩ := h
    refine ⟨_, (pss_cons (ps_fldK K (pv 0) (pv 1) rfl)
      (pss_one (ps_fldK K (pv 0) (pv 2) rfl))), ?_⟩
    walk_at "rd"
    refine rdSeq ?_
    walk_at "rd"
    refine i_fldS T.cl_Draft T.nf_Draft_world hx (by decide) ?_
    refine i_fldS T.cl_Draft T.nf_Draft_module upd_same (by show 1 < 1000; decide) ?_
    rw [upd_upd]
    exact q
def faceX (ms : List Md) (m : Md) (p f : Str) : Option (List Hd) := if p ≠ m.nm then faceM ms p f else (m.fcs.find? fun x => decide (x.1 = f)).map (·.2)
def sp_Draft__face {K : PySem.W.Frag} {mg : Str → Option Value} (T : Txt K mg) : Sp := fun vs H Q _ => ∃ (d a md cl : Addr) (ms : List Md) (m : Md) (v : V) (p f : Str), vs = [.ref d, .str p, .str f] ∧ Dr K T.c_Draft T.c_World H d a md cl ms m v ∧
  (∀ hs v, faceX ms m p f = some hs → Fr K H v (.tuple (hs.map Hd.d)) → Q v H) ∧ (faceX ms m p f = none → Q .non H)
theorem ok_Draft__face (T : Txt K mg) : FnOk P w K mg base CX0 2 T.f_Draft__face T.d_Draft__face ["self", "package", "name"] (sp_Draft__face T) := by
  refine T.k_Draft__face.ok sc_Draft__face (fun vs H Q E h => ?_) (fun cdv A outer s H vs Q E hr h => ?_)
  · obtain ⟨d, a, md, cl, ms, m, v, p, f, rfl, _⟩ := h
    rfl
  · obtain ⟨d, a, md, cl, ms, m, v, p, f, rfl, w, q1, q2⟩ := h
    obtain ⟨⟨dx, h1⟩, hw, fv⟩ := w
    refine ⟨_, (pss_cons (ps_if (pt_cmpR op_ne (pv 1) (pe_ix (ix_tupK K) (pe_fldK K (pv 0) rfl) pe_int (fun _ _ => rfl)) (nomark _)) (pss_one (ps_ret (pe_meth (pe_fldK K (pv 0) rfl) T.cl_World T.me_World_face (ok_World_face T) (hr.mono (by decide)) T.b_World_face .nil pass0 (pa_cons (pv 1) (pa_cons (pv 2) pa_nil))))) pss_nil)
      (pss_cons (ps_for PassesOwn.never rfl (pi_tup (pe_ix (ix_tupK K) (pe_fldK K (pv 0) rfl) pe_int (fun _ _ => rfl))) (pg_name (i := 3) sc_Draft__face.nd rfl (Or.inl rfl)) (pss_one (ps_if (pt_cmpR op_eq (pe_ix (ix_tupK K) (pv 3) pe_int (fun _ _ => rfl)) (pv 2) (nomark _)) (pss_one (ps_ret (pe_ix (ix_tupK K) (pv 3) pe_int (fun _ _ => rfl)))) pss_nil)))
      (pss_one (ps_ret pe_non)))), ?_⟩
    unfold faceX at q1 q2
    walk_at "rd"
    refine rdSeq ?_
    walk_at "rd"
    refine i_fld T.cl_Draft T.nf_Draft_module h1 rfl (i_ixFs (i := 1) fv (Md.at1 m) ⟨rfl, ite2 (fun h => ?_) (fun h => ?_)⟩)
    · have hn : p ≠ m.nm := fun e => by rw [decide_eq_true (show V.str p = V.str m.nm by rw [e])] at h; cases h
      rw [if_pos hn] at q1 q2
      have hw0 := hw
      obtain ⟨⟨dx2, h2⟩, _, _⟩ := hw0
      exact i_fld T.cl_Draft T.nf_Draft_world h1 rfl (i_meth h2 rfl ⟨a, md, cl, ms, p, f, rfl, hw, q1, q2⟩)
    · have hn : ¬ p ≠ m.nm := fun e => h (by rw [decide_eq_false (fun k => e (V.str.inj k))]; rfl)
      rw [if_neg hn] at q1 q2
      refine rdSeq ?_
      walk_at "rd"
      refine i_fld T.cl_Draft T.nf_Draft_module h1 rfl (i_ixF (i := 4) fv (Md.at4 m) fun x hx => ?_)
      obtain ⟨t, xs, rfl, sq, fl⟩ := hx.inv
      refine ⟨t, rfl, ⟨_, sq.sq⟩, ?_⟩
      refine face_loop (f := f) fl sq (fun i x v hix fx D' e1 e2 e3 => ?_) (fun x hx w hw => q1 x.2 w (by rw [hx]; rfl) hw) (fun hn => ?_)
      · walk_at "rd"
        refine i_ixFs (i := 0) fx rfl ⟨rfl, ite2 (fun h => i_ixF (i := 1) fx rfl fun w hw => ?_) (fun h => e3 fun e => h (by rw [e]))⟩
        rw [e1]; exact e2 (V.str.inj h) w hw
      · have q3 := q2 (by rw [hn]; rfl)
        exact ⟨by walk_at "rd"; exact q3, fun u => by walk_at "rd"; exact q3⟩
theorem all_next {α : Type} {p : α → Bool} {l : List α} {i : Nat} (h : i < l.length) (ha : (l.take i).all p = true) (hp : p l[i] = true) : (l.take (i + 1)).all p = true := by
  rw [List.take_add_one, List.getElem?_eq_getElem h, List.all_append, ha]
  simp [hp]
theorem all_bad {α : Type} {p : α → Bool} {l : List α} {i : Nat} (h : i < l.length) (hp : p l[i] = false) : l.all p = false :=
  List.all_eq_false.mpr ⟨l[i], List.getElem_mem h, by rw [hp]; simp⟩
def kOk (ms : List Md) (m : Md) : Kd → Bool
  | .fac p f => (faceX ms m p f).isSome
  | _ => true
def sp_Draft__check_kinds {K : PySem.W.Frag} {mg : Str → Option Value} (T : Txt K mg) : Sp := fun vs H Q E => ∃ (d a md cl : Addr) (ms : List Md) (m : Md) (v u : V) (ks : List Kd), vs = [.ref d, u] ∧ Dr K T.c_Draft T.c_World H d a md cl ms m v ∧ Fr K H u (.tuple (ks.map Kd.d)) ∧
  (ks.all (kOk ms m) = true → Q .non H) ∧ (ks.all (kOk ms m) = false → ErrL T.c_BadLink H E)
theorem ok_Draft__check_kinds (T : Txt K mg) : FnOk P w K mg base (L2.CX P w) 3 T.f_Draft__check_kinds T.d_Draft__check_kinds ["self", "kinds"] (sp_Draft__check_kinds T) := by
  refine T.k_Draft__check_kinds.okX sc_Draft__check_kinds (fun vs H Q E h => ?_) (fun cdv A outer s H vs Q E hr h => ?_)
  · obtain ⟨d, a, md, cl, ms, m, v, u, ks, rfl, _⟩ := h
    rfl
  · obtain ⟨d, a, md, cl, ms, m, v, u, ks, rfl, w, hu, q1, q2⟩ := h
    obtain ⟨t, xs, rfl, sq, fl⟩ := hu.inv
    have hlen := fl.len
    rw [List.length_map] at hlen
    have w0 := w
    obtain ⟨⟨dx, h1⟩, _, _⟩ := w0
    refine ⟨_, (pss_one (ps_for (passes_of rfl) rfl (pi_tup (pv 1)) (pg_name (i := 2) sc_Draft__check_kinds.nd rfl (Or.inl rfl)) (pss_one (ps_expr (pe_callS (ok_must T) (hr.mono (by decide)) (by rfl) T.g_must T.k_must.kp T.b_must (fun σ => passAt (takes_of rfl rfl rfl rfl) σ) (pa_cons (pe_or (pe_not (pe_call (ok_is_face T) (hr.mono (by decide)) (by rfl) T.g_is_face T.k_is_face.kp T.b_is_face .nil pass0 (pa_cons (pv 2) pa_nil))) (pe_one (pe_cmpR op_notN (pe_meth (pv 0) T.cl_Draft T.me_Draft__face (ok_Draft__face T) (hr.mono (by decide)) T.b_Draft__face .nil pass0 (pa_cons (pe_ix (ix_tupK K) (pv 2) pe_int (fun _ _ => rfl)) (pa_cons (pe_ix (ix_tupK K) (pv 2) pe_int (fun _ _ => rfl)) pa_nil))) pe_non (nomark _)))) pa_nil)))))), ?_⟩
    walk_at "rd"
    refine ⟨⟨_, sq.sq⟩, ?_⟩
    refine i_for (walk_tup (K := K) (a := t) (xs := xs)) (fun i σ' H' => H' = H ∧ (∃ y, σ' = [some (.ref d), some (.ref t), y]) ∧ (ks.take i).all (kOk ms m) = true) ⟨rfl, ⟨_, rfl⟩, rfl⟩ (fun i σ' H' _ h => by rw [h.1]; exact sq.sq) ?_ ?_
    · rintro i x σ' H' H2 hi ⟨rfl, ⟨y, rfl⟩, hall⟩ ⟨rfl, hx⟩
      have hi2 : i < ks.length := by omega
      obtain ⟨dd, hd, fx⟩ := fl.getV hx
      rw [List.getElem?_map, List.getElem?_eq_getElem hi2] at hd
      cases hd
      walk_at "rd"
      have nxt : kOk ms m ks[i] = true → (ks.take (i + 1)).all (kOk ms m) = true := fun h => all_next hi2 hall h
      have bad : kOk ms m ks[i] = false → ErrL T.c_BadLink H2 E := fun h => q2 (all_bad hi2 h)
      generalize ks[i] = kd at *
      refine ⟨x, kd, rfl, fx, _, rfl, ite2 (fun hf => i_must (fun _ => ⟨rfl, nxt ?_⟩) (fun h => by cases h)) (fun hf => ?_)⟩
      · cases kd with
        | fac p f => cases hf
        | _ => rfl
      · cases kd with
        | fac p f =>
          refine i_meth h1 rfl (i_ixFs (i := 1) fx rfl (i_ixFs (i := 2) fx rfl ⟨d, a, md, cl, ms, m, v, p, f, rfl, w, fun hs u e hu => ?_, fun e => ?_⟩))
          · obtain ⟨t2, xs2, rfl, _, _⟩ := hu.inv
            exact i_must (fun _ => ⟨rfl, nxt (by show (faceX ms m p f).isSome = true; rw [e]; rfl)⟩) (fun h => by simp at h)
          · exact i_must (fun h => by simp at h) (fun _ => bad (by show (faceX ms m p f).isSome = false; rw [e]; rfl))
        | _ => exact absurd rfl hf
    · rintro σ' H' ⟨rfl, ⟨y, rfl⟩, hall⟩
      rw [hlen, List.take_length] at hall
      exact q1 hall
def hOk (ms : List Md) (m : Md) (h : Hd) : Bool := (h.ps ++ [h.rs]).all (kOk ms m)
/-- a + b of frozen tuples -/
theorem i_catF {K : PySem.W.Frag} {H : Hp} {u v : V} {ds es : List PyData} {Q : VK} (hu : Fr K H u (.tuple ds)) (hv : Fr K H v (.tuple es)) (hl : ds.length + es.length ≤ sizeLine) (q : ∀ w H', Same H H' → Fr K H' w (.tuple (ds ++ es)) → Q w H') : rCatA K u v H Q := by
  obtain ⟨a, xs, rfl, s1, f1⟩ := hu.inv
  obtain ⟨b, ys, rfl, s2, f2⟩ := hv.inv
  have l1 := f1.len
  have l2 := f2.len
  refine ⟨a, b, xs, ys, rfl, rfl, s1.sq, s2.sq, by omega, fun h => ?_, fun _ h => ?_, fun _ _ p hp => ?_⟩
  · subst h
    cases f1
    exact q _ H (Same.refl H) (.tup s2 f2)
  · subst h
    cases f2
    refine q _ H (Same.refl H) ?_
    rw [List.append_nil]
    exact .tup s1 f1
  · exact q _ _ (same_new hp) (.tup (.inl upd_same) ((f1.app f2).up (.of (same_new hp))))
def sp_Draft__check_heads {K : PySem.W.Frag} {mg : Str → Option Value} (T : Txt K mg) : Sp := fun vs H Q E => ∃ (d a md cl : Addr) (ms : List Md) (m : Md) (v : V) (t : Addr) (xs : List V) (hs : List Hd), vs = [.ref d, .ref t] ∧ Dr K T.c_Draft T.c_World H d a md cl ms m v ∧ (SqC K H t xs ∨ H t = some (.lst xs)) ∧ FrL K H xs (hs.map Hd.d) ∧ (∀ h ∈ hs, h.ps.length ≤ 1000) ∧
  (hs.all (hOk ms m) = true → ∀ H', Same H H' → Q .non H') ∧ (hs.all (hOk ms m) = false → ErrL T.c_BadLink H E)
theorem i_gT3 {K : PySem.W.Frag} {n i j k : Nat} {v x y z : V} {a : Addr} {σ : L2.St} {H : Hp} {Q : L2.St → Hp → Prop} (hn : n = 3) (hv : v = .ref a) (h : SqT K H a [x, y, z]) (q : Q (((σ.set i (some x)).set j (some y)).set k (some z)) H) : gTup K n (gCons (gName i) (gCons (gName j) (gCons (gName k) gNil))) v σ H Q := by
  subst hv
  exact ⟨a, [x, y, z], rfl, h, hn.symm, x, [y, z], rfl, y, [z], rfl, z, [], rfl, rfl, q⟩
theorem ok_Draft__check_heads (T : Txt K mg) : FnOk P w K mg base (L2.CX P w) 4 T.f_Draft__check_heads T.d_Draft__check_heads ["self", "heads"] (sp_Draft__check_heads T) := by
  refine T.k_Draft__check_heads.okX sc_Draft__check_heads (fun vs H Q E h => ?_) (fun cdv A outer s H vs Q E hr h => ?_)
  · obtain ⟨d, a, md, cl, ms, m, v, t, xs, hs, rfl, _⟩ := h
    rfl
  · obtain ⟨d, a, md, cl, ms, m, v, t, xs, hs, rfl, w, hsq, fl, hps, q1, q2⟩ := h
    have hlen := fl.len
    rw [List.length_map] at hlen
    have w0 := w
    obtain ⟨⟨dx, h1⟩, _, _⟩ := w0
    rcases hsq with sq | hl
    · refine ⟨_, (pss_one (ps_for (passes_of rfl) rfl (pi_tup (pv 1)) (pg_tup rfl (pgs_cons (pg_name (i := 2) sc_Draft__check_heads.nd rfl (Or.inl rfl)) (pgs_cons (pg_name (i := 3) sc_Draft__check_heads.nd rfl (Or.inl rfl)) (pgs_cons (pg_name (i := 4) sc_Draft__check_heads.nd rfl (Or.inl rfl)) pgs_nil)))) (pss_one (ps_expr (pe_methS (pv 0) T.cl_Draft T.me_Draft__check_kinds (ok_Draft__check_kinds T) (hr.mono (by decide)) T.b_Draft__check_kinds (fun σ => passAt (takes_of rfl rfl rfl rfl) σ) (pa_cons (pe_op (op_catAK K) (pv 3) (pe_tup (pa_cons (pv 4) pa_nil))) pa_nil)))))), ?_⟩
      walk_at "rd"
      refine ⟨⟨_, sq.sq⟩, ?_⟩
      refine i_forG (walk_tup (K := K) (a := t) (xs := xs)) (fun i σ' H' => Same H H' ∧ (∃ y1 y2 y3, σ' = [some (.ref d), some (.ref t), y1, y2, y3]) ∧ (hs.take i).all (hOk ms m) = true) ⟨Same.refl H, ⟨_, _, _, rfl⟩, rfl⟩ (fun i σ' H' _ h => (sq.up (.of h.1)).sq) ?_ ?_
      · rintro i x σ' H' H2 hi ⟨s1, ⟨y1, y2, y3, rfl⟩, hall⟩ ⟨rfl, hx⟩
        have hi2 : i < hs.length := by omega
        obtain ⟨dd, hd, fx⟩ := fl.getV hx
        rw [List.getElem?_map, List.getElem?_eq_getElem hi2] at hd
        cases hd
        have fx := fx.up (.of s1)
        have hpl := hps _ (List.getElem_mem hi2)
        have nxt : hOk ms m hs[i] = true → (hs.take (i + 1)).all (hOk ms m) = true := fun h => all_next hi2 hall h
        have bad : hOk ms m hs[i] = false → ErrL T.c_BadLink H E := fun h => q2 (all_bad hi2 h)
        generalize hs[i] = hh at *
        obtain ⟨b, zs, rfl, sqx, flx⟩ := fx.inv
        cases flx with
        | cons f1 flx => cases flx with
          | cons f2 flx => cases flx with
            | cons f3 flx =>
              cases flx
              refine i_gT3 rfl rfl sqx.sq ?_
              walk_at "rd"
              refine i_meth (s1 _ _ h1) rfl ?_
              walk_at "rd"
              intro p hp
              refine i_catF (f2.up (.of (same_new hp))) (.tup (.inl upd_same) (.cons (f3.up (.of (same_new hp))) .nil)) (by rw [List.length_map]; exact line5 (by simp; omega)) fun u H3 s3 fu => ?_
              have s13 := s1.trans ((same_new hp).trans s3)
              refine ⟨d, a, md, cl, ms, m, v, u, hh.ps ++ [hh.rs], rfl, w.same s13, by rw [List.map_append]; exact fu, fun h => ⟨s13, nxt h⟩, fun h => (bad h).same s13⟩
      · rintro σ' H' ⟨s1, _, hall⟩
        rw [hlen, List.take_length] at hall
        exact q1 hall _ s1
    · refine ⟨_, (pss_one (ps_for (passes_of rfl) rfl (pi_list (pv 1)) (pg_tup rfl (pgs_cons (pg_name (i := 2) sc_Draft__check_heads.nd rfl (Or.inl rfl)) (pgs_cons (pg_name (i := 3) sc_Draft__check_heads.nd rfl (Or.inl rfl)) (pgs_cons (pg_name (i := 4) sc_Draft__check_heads.nd rfl (Or.inl rfl)) pgs_nil)))) (pss_one (ps_expr (pe_methS (pv 0) T.cl_Draft T.me_Draft__check_kinds (ok_Draft__check_kinds T) (hr.mono (by decide)) T.b_Draft__check_kinds (fun σ => passAt (takes_of rfl rfl rfl rfl) σ) (pa_cons (pe_op (op_catAK K) (pv 3) (pe_tup (pa_cons (pv 4) pa_nil))) pa_nil)))))), ?_⟩
      walk_at "rd"
      refine ⟨⟨_, sqL_of hl⟩, ?_⟩
      refine i_forG (walk_list (K := K) (a := t) (xs := xs)) (fun i σ' H' => Same H H' ∧ (∃ y1 y2 y3, σ' = [some (.ref d), some (.ref t), y1, y2, y3]) ∧ (hs.take i).all (hOk ms m) = true) ⟨Same.refl H, ⟨_, _, _, rfl⟩, rfl⟩ (fun i σ' H' _ h => sqL_of (h.1 _ _ hl)) ?_ ?_
      · rintro i x σ' H' H2 hi ⟨s1, ⟨y1, y2, y3, rfl⟩, hall⟩ ⟨rfl, hx⟩
        have hi2 : i < hs.length := by omega
        obtain ⟨dd, hd, fx⟩ := fl.getV hx
        rw [List.getElem?_map, List.getElem?_eq_getElem hi2] at hd
        cases hd
        have fx := fx.up (.of s1)
        have hpl := hps _ (List.getElem_mem hi2)
        have nxt : hOk ms m hs[i] = true → (hs.take (i + 1)).all (hOk ms m) = true := fun h => all_next hi2 hall h
        have bad : hOk ms m hs[i] = false → ErrL T.c_BadLink H E := fun h => q2 (all_bad hi2 h)
        generalize hs[i] = hh at *
        obtain ⟨b, zs, rfl, sqx, flx⟩ := fx.inv
        cases flx with
        | cons f1 flx => cases flx with
          | cons f2 flx => cases flx with
            | cons f3 flx =>
              cases flx
              refine i_gT3 rfl rfl sqx.sq ?_
              walk_at "rd"
              refine i_meth (s1 _ _ h1) rfl ?_
              walk_at "rd"
              intro p hp
              refine i_catF (f2.up (.of (same_new hp))) (.tup (.inl upd_same) (.cons (f3.up (.of (same_new hp))) .nil)) (by rw [List.length_map]; exact line5 (by simp; omega)) fun u H3 s3 fu => ?_
              have s13 := s1.trans ((same_new hp).trans s3)
              refine ⟨d, a, md, cl, ms, m, v, u, hh.ps ++ [hh.rs], rfl, w.same s13, by rw [List.map_append]; exact fu, fun h => ⟨s13, nxt h⟩, fun h => (bad h).same s13⟩
      · rintro σ' H' ⟨s1, _, hall⟩
        rw [hlen, List.take_length] at hall
        exact q1 hall _ s1

/-! lists of new tuples -/
theorem i_lcFr {K : PySem.W.Frag} {J : It} {n : Nat} {G : Hp → Prop} {Y : Nat → Hp → V → Hp → Prop} (w : Walk J n G Y) {j : Nat} {te : TE} {σ : L2.St} {H : Hp} {Q : VK} (ds : List PyData) (hl : ds.length = n) (hn : n < sizeLine) (hG : ∀ H', Same H H' → G H') (hY : ∀ i H x H', Y i H x H' → H' = H)
    (hs : ∀ i x H1 (Q' : VK) d, ds[i]? = some d → Same H H1 → Y i H1 x H1 → (∀ y H2, Same H1 H2 → Fr K H2 y d → Q' y H2) → te ((wipe σ [j]).set j (some x)) H1 Q')
    (q : ∀ D H' ys, H D = none → Same H H' → H' D = some (.lst ys) → FrL K H' ys ds → Q (.ref D) H') : rLcJ J (gName j) tYes te [j] σ H Q := by
  intro D hD
  refine lc_it w (fun i H' => Same H H' ∧ ∃ ys, H' D = some (.lst ys) ∧ FrL K H' ys (ds.take i)) ⟨same_new hD, [], upd_same, .nil⟩ (fun i H' _ e => hG H' e.1) (fun i x H1 H2 hi e y => ?_) (fun H' e => ?_)
  · have e2 := hY i H1 x H2 y
    subst e2
    obtain ⟨s1, ys, h1, f1⟩ := e
    have hd : ds[i]? = some (ds[i]'(by omega)) := List.getElem?_eq_getElem (by omega)
    refine ⟨wipe_one, hs i x H2 (fun y H4 => ∃ acc, H4 D = some (.lst acc) ∧ acc.length < sizeLine ∧ (Same H (upd H4 D (.lst (acc ++ [y]))) ∧ ∃ ys, (upd H4 D (.lst (acc ++ [y]))) D = some (.lst ys) ∧ FrL K (upd H4 D (.lst (acc ++ [y]))) ys (ds.take (i + 1)))) _ hd s1 y fun u H3 s3 fu => ?_⟩
    have l1 := f1.len
    rw [List.length_take] at l1
    have hD3 := s3 D _ h1
    have tk : TupK H3 (upd H3 D (.lst (ys ++ [u]))) := TupK.mut hD3 (fun _ h => nomatch h)
    refine ⟨ys, hD3, by omega, fun b o hb => by rw [upd_ne (ne_of_none hb hD)]; exact s3 b o (s1 b o hb), ys ++ [u], upd_same, ?_⟩
    rw [List.take_add_one, hd]
    exact ((f1.up (.of s3)).up tk).app (.cons (fu.up tk) .nil)
  · obtain ⟨s1, ys, h1, f1⟩ := e
    rw [List.take_of_length_le (by omega)] at f1
    exact q D H' ys hD s1 h1 f1
theorem cut_front {xs : List V} {n : Nat} : cutV xs none (some (n : Int)) = xs.take n := cut_take
/-- v[:n] of a frozen tuple with more items -/
theorem i_frontF {K : PySem.W.Frag} {H : Hp} {v : V} {ds : List PyData} {n : Nat} {Q : VK} (hv : Fr K H v (.tuple ds)) (hn : n < ds.length) (q : ∀ w H', Same H H' → Fr K H' w (.tuple (ds.take n)) → Q w H') : rSlA K v none (some (n : Int)) H Q := by
  obtain ⟨a, xs, rfl, sq, fl⟩ := hv.inv
  have l1 := fl.len
  refine ⟨a, xs, rfl, sq.sq, fun h => ?_, fun _ p hp => ?_⟩
  · obtain ⟨_, h2⟩ := h
    rw [HT.sIx_nat] at h2
    omega
  · rw [cut_take]
    exact q _ _ (same_new hp) (.tup (.inl upd_same) ((fl.take n).up (.of (same_new hp))))
theorem hd_eqvL : ∀ (xs ys : List Kd), PyData.eqvAll (xs.map Kd.d) (ys.map Kd.d) = decide (xs = ys)
  | [], [] => rfl
  | [], _ :: _ => rfl
  | _ :: _, [] => rfl
  | x :: xs, y :: ys => by
    show (PyData.eqv x.d y.d && PyData.eqvAll (xs.map Kd.d) (ys.map Kd.d)) = _
    rw [kd_eqv, hd_eqvL xs ys]
    by_cases h1 : x = y <;> by_cases h2 : xs = ys <;> simp [h1, h2]
theorem hd_eqv (a b : Hd) : PyData.eqv a.d b.d = decide (a = b) := by
  show ((a.nm == b.nm) && (PyData.eqvAll (a.ps.map Kd.d) (b.ps.map Kd.d) && (PyData.eqv a.rs.d b.rs.d && true))) = _
  rw [hd_eqvL, kd_eqv]
  obtain ⟨n1, p1, r1⟩ := a
  obtain ⟨n2, p2, r2⟩ := b
  by_cases h1 : n1 = n2 <;> by_cases h2 : p1 = p2 <;> by_cases h3 : r1 = r2 <;> simp [h1, h2, h3]
def HdOk (h : Hd) : Prop := PyData.strOk h.nm = true ∧ (∀ k ∈ h.ps, KdOk k) ∧ KdOk h.rs
theorem hd_lay {h : Hd} (o : HdOk h) : PyData.canLay0 h.d = true ∧ PyData.depth h.d ≤ 4 := by
  obtain ⟨o1, o2, o3⟩ := o
  have l1 := kds_lay o2
  have l2 := kd_lay o3
  refine ⟨?_, ?_⟩
  · show (PyData.strOk h.nm && (PyData.canLayAll0 (h.ps.map Kd.d) && (PyData.canLay0 h.rs.d && true))) = true
    rw [o1, l1.1, l2.1]; rfl
  · show max (PyData.depth (.str h.nm)) (max (PyData.depthAll (h.ps.map Kd.d) + 1) (max (PyData.depth h.rs.d) 0)) + 1 ≤ 4
    have : PyData.depth (.str h.nm) ≤ 1 := by simp [PyData.depth]
    omega
theorem hds_lay : ∀ {xs : List Hd}, (∀ x ∈ xs, HdOk x) → PyData.canLayAll0 (xs.map Hd.d) = true ∧ PyData.depthAll (xs.map Hd.d) ≤ 4
  | [], _ => by simp [PyData.canLayAll0, PyData.depthAll]
  | x :: xs, h => by
    have ih := hds_lay (xs := xs) fun y hy => h y (List.mem_cons_of_mem _ hy)
    have h0 := hd_lay (h x List.mem_cons_self)
    simp [PyData.canLayAll0, PyData.depthAll, ih.1, h0.1]
    omega
theorem any_hd {h : Hd} : ∀ {l : List Hd}, ((l.map Hd.d).any fun z => PyData.eqv z h.d) = decide (h ∈ l)
  | [] => rfl
  | x :: l => by
    have ih := any_hd (h := h) (l := l)
    rw [List.map_cons, List.any_cons, ih, hd_eqv]
    by_cases e : x = h
    · subst e; simp
    · rw [decide_eq_false e]
      by_cases h2 : h ∈ l <;> simp [h2, Ne.symm e]
/-- h in a list of heads -/
theorem i_inHds {K : PySem.W.Frag} {H : Hp} {v : V} {h : Hd} {l : Addr} {xs : List V} {hs : List Hd} {Q : VK} (hv : Fr K H v h.d) (hl : H l = some (.lst xs)) (fl : FrL K H xs (hs.map Hd.d)) (o : HdOk h) (os : ∀ x ∈ hs, HdOk x) (q : Q (.bl (decide (h ∈ hs))) H) : rInD K v (.ref l) H Q := by
  have l1 := hd_lay o
  have l2 := hds_lay os
  refine ⟨h.d, hs.map Hd.d, hv.dp, .lst (sqL_of hl) fl.dp, ?_, (shaped_of ⟨l2.1, by omega⟩).1, by rw [any_hd]; exact q⟩
  unfold SeqAt.shaped
  rw [l1.1, Bool.true_and]
  exact decide_eq_true (by omega)

/-! ### Draft, the rest -/
structure Mz (m : Md) : Prop where
  sz : Sz m
  ho : ∀ c ∈ m.cls, ∀ r ∈ c.tb, HdOk r.h ∧ r.h.ps.length ≤ 1000
  hf : ∀ f ∈ m.fcs, ∀ h ∈ f.2, HdOk h ∧ h.ps.length ≤ 1000
  mt : ∀ t ∈ m.mts, t.h.ps.length ≤ 1000 ∧ t.vars.length ≤ 1000
  fd : ∀ c ∈ m.cls, c.fds.length ≤ 1000
theorem faceM_ok {ms : List Md} (hz : ∀ m ∈ ms, Mz m) {p f : Str} {hs : List Hd} (e : faceM ms p f = some hs) : ∀ h ∈ hs, HdOk h ∧ h.ps.length ≤ 1000 := by
  unfold faceM at e
  cases hm : findM ms p with
  | none => rw [hm] at e; cases e
  | some m =>
    rw [hm] at e
    have e : (m.fcs.find? fun x => decide (x.1 = f)).map (·.2) = some hs := e
    cases hx : m.fcs.find? fun x => decide (x.1 = f) with
    | none => rw [hx] at e; cases e
    | some x =>
      rw [hx] at e
      cases e
      exact (hz m (List.mem_of_find?_eq_some hm)).hf x (List.mem_of_find?_eq_some hx)
theorem faceX_ok {ms : List Md} {m : Md} (hz : ∀ m ∈ ms, Mz m) (z : Mz m) {p f : Str} {hs : List Hd} (e : faceX ms m p f = some hs) : ∀ h ∈ hs, HdOk h ∧ h.ps.length ≤ 1000 := by
  unfold faceX at e
  split at e
  · exact faceM_ok hz e
  · cases hx : m.fcs.find? fun x => decide (x.1 = f) with
    | none => rw [hx] at e; cases e
    | some x =>
      rw [hx] at e
      cases e
      exact z.hf x (List.mem_of_find?_eq_some hx)
def hdsOf (c : Cl) : List Hd := c.tb.map Rw.h
def fOk (ms : List Md) (m : Md) (c : Cl) (f : Str × Str) : Bool := match faceX ms m f.1 f.2 with
  | some hs => hs.all fun h => decide (h ∈ hdsOf c)
  | none => true
def fcOk (ms : List Md) (m : Md) (k : Nat) (c : Cl) : Bool := (facesOf m k).all (fOk ms m c)
theorem rw_take (r : Rw) : (r.h.ds ++ [PyData.int r.m]).take 3 = r.h.ds := rfl
def sp_Draft__check_faces {K : PySem.W.Frag} {mg : Str → Option Value} (T : Txt K mg) : Sp := fun vs H Q E => ∃ (d a md cl : Addr) (ms : List Md) (m : Md) (v u : V) (k : Nat) (c : Cl), vs = [.ref d, .int k, u] ∧ Dr K T.c_Draft T.c_World H d a md cl ms m v ∧ Fr K H u (.tuple (c.tb.map Rw.d)) ∧
  m.cls[k]? = some c ∧ Mz m ∧ (∀ x ∈ ms, Mz x) ∧ (∀ f ∈ facesOf m k, (faceX ms m f.1 f.2).isSome = true) ∧
  (fcOk ms m k c = true → ∀ H', Same H H' → Q .non H') ∧ (fcOk ms m k c = false → ErrL T.c_BadLink H E)
theorem ok_Draft__check_faces (T : Txt K mg) : FnOk P w K mg base (L2.CX P w) 3 T.f_Draft__check_faces T.d_Draft__check_faces ["self", "k", "table"] (sp_Draft__check_faces T) := by
  refine T.k_Draft__check_faces.okX sc_Draft__check_faces (fun vs H Q E h => ?_) (fun cdv A outer s H vs Q E hr h => ?_)
  · obtain ⟨d, a, md, cl, ms, m, v, u, k, c, rfl, _⟩ := h
    rfl
  · obtain ⟨d, a, md, cl, ms, m, v, u, k, c, rfl, w, hu, hc, z, zs, hex, q1, q2⟩ := h
    have hcm := List.mem_of_getElem? hc
    have hkl := (List.getElem?_eq_some_iff.mp hc).1
    have zc := z.sz.cl
    have ztb := z.sz.tb c hcm
    obtain ⟨t, xs, rfl, sq, fl⟩ := hu.inv
    have hlen := fl.len
    rw [List.length_map] at hlen
    have w0 := w
    obtain ⟨⟨dx, h1⟩, _, _⟩ := w0
    refine ⟨_, (pss_cons (ps_setLc (i := 3) (own := [("row", 6)]) (g := gName 6) (tt := tYes) rfl sc_Draft__check_faces.nd rfl rfl (sw_true rfl rfl rfl (by decide +kernel)) (pi_tup (pv 2)) (blkOk_by (own := [("row", 6)]) (N := ["self", "k", "table", "rows", "face", "head", "row"]) (sc := defScope s_Draft__check_faces) (by decide +kernel)) (fun _ _ _ _ _ => pg_name (i := 6) sc_Draft__check_faces.nd rfl (Or.inl rfl)) (fun _ _ _ _ _ => pts_nil) (fun _ _ _ _ _ => (pe_slice (sl_tupAK K) (pv 6) po_none (po_some pe_int))))
      (pss_one (ps_for (passes_of rfl) rfl (pi_list (pe_call (ok_faces_of T) (hr.mono (by decide)) (by rfl) T.g_faces_of T.k_faces_of.kp T.b_faces_of .nil pass0 (pa_cons (pe_fldK K (pv 0) rfl) (pa_cons (pv 1) pa_nil)))) (pg_name (i := 4) sc_Draft__check_faces.nd rfl (Or.inl rfl)) (pss_one (ps_for (passes_of rfl) rfl (pi_tup (pe_meth (pv 0) T.cl_Draft T.me_Draft__face (ok_Draft__face T) (hr.mono (by decide)) T.b_Draft__face .nil pass0 (pa_cons (pe_ix (ix_tupK K) (pv 4) pe_int (fun _ _ => rfl)) (pa_cons (pe_ix (ix_tupK K) (pv 4) pe_int (fun _ _ => rfl)) pa_nil)))) (pg_name (i := 5) sc_Draft__check_faces.nd rfl (Or.inl rfl)) (pss_one (ps_expr (pe_callS (ok_must T) (hr.mono (by decide)) (by rfl) T.g_must T.k_must.kp T.b_must (fun σ => passAt (takes_of rfl rfl rfl rfl) σ) (pa_cons (pe_cmpR (op_inD (room65 hr)) (pv 5) (pv 3) rfl) pa_nil))))))))), ?_⟩
    walk_at "rd"
    refine rdSeq ?_
    walk_at "rd"
    refine ⟨⟨_, sq.sq⟩, ?_⟩
    refine i_lcFr (K := K) (walk_tup (K := K) (a := t) (xs := xs)) ((hdsOf c).map Hd.d) (by simp [hdsOf, hlen]) (line5' (by omega)) (fun H' s' => (sq.up (.of s')).sq) (fun _ _ _ _ y => y.1) (fun i x H1 Q' dd hdd s1 hy qq => ?_) (fun D H2 ys hD s2 hD2 fD => ?_)
    · obtain ⟨_, hx⟩ := hy
      have hi : i < c.tb.length := by rw [← hlen]; exact (List.getElem?_eq_some_iff.mp hx).1
      obtain ⟨d2, hd2, fx⟩ := fl.getV hx
      rw [List.getElem?_map, List.getElem?_eq_getElem hi] at hd2
      cases hd2
      unfold hdsOf at hdd
      rw [List.map_map, List.getElem?_map, List.getElem?_eq_getElem hi] at hdd
      cases hdd
      walk_at "rd"
      refine i_frontF (n := 3) (fx.up (.of s1)) (by simp [Hd.ds]) fun y H3 s3 fy => qq y H3 s3 ?_
      rw [rw_take] at fy
      exact fy
    · walk_at "rd"
      refine i_fld T.cl_Draft T.nf_Draft_module (s2 _ _ h1) rfl ⟨v, m, k, rfl, w.fr.up (.of s2), z.sz, by omega, by omega, fun p ws H3 hp s3 hp3 fw => ?_⟩
      have s23 := s2.trans s3
      refine ⟨p, rfl, ⟨_, sqL_of hp3⟩, ?_⟩
      have hD3 := s3 _ _ hD2
      have fD3 := fD.up (.of s3)
      have wl := fw.len
      rw [List.length_map] at wl
      refine i_for (walk_list (K := K) (a := p) (xs := ws)) (fun i σ' H' => Same H3 H' ∧ (∃ y1 y2, σ' = [some (.ref d), some (.int k), some (.ref t), some (.ref D), y1, y2, none]) ∧ ((facesOf m k).take i).all (fOk ms m c) = true) ⟨Same.refl H3, ⟨_, _, rfl⟩, rfl⟩ (fun i σ' H' _ h => sqL_of (h.1 _ _ hp3)) ?_ ?_
      · rintro i x σ' H4 H5 hi ⟨s4, ⟨y1, y2, rfl⟩, hall⟩ ⟨rfl, hx⟩
        have hi2 : i < (facesOf m k).length := by omega
        obtain ⟨dd, hd, fx⟩ := fw.getV hx
        rw [List.getElem?_map, List.getElem?_eq_getElem hi2] at hd
        cases hd
        have fx := fx.up (.of s4)
        have hexi := hex _ (List.getElem_mem hi2)
        have nxt : fOk ms m c (facesOf m k)[i] = true → ((facesOf m k).take (i + 1)).all (fOk ms m c) = true := fun h => all_next hi2 hall h
        have bad : fOk ms m c (facesOf m k)[i] = false → ErrL T.c_BadLink H E := fun h => q2 (all_bad hi2 h)
        generalize (facesOf m k)[i] = f at *
        have s34 := s23.trans s4
        walk_at "rd"
        refine i_meth (s34 _ _ h1) rfl (i_ixFs (i := 1) fx rfl (i_ixFs (i := 2) fx rfl ⟨d, a, md, cl, ms, m, v, f.1, f.2, rfl, w.same s34, fun hs u e hu => ?_, fun e => by rw [e] at hexi; cases hexi⟩))
        have hok := faceX_ok zs z e
        obtain ⟨t2, xs2, rfl, sq2, fl2⟩ := hu.inv
        have hlen2 := fl2.len
        rw [List.length_map] at hlen2
        have efo : fOk ms m c f = hs.all fun h => decide (h ∈ hdsOf c) := by unfold fOk; rw [e]
        refine ⟨t2, rfl, ⟨_, sq2.sq⟩, ?_⟩
        refine i_for (walk_tup (K := K) (a := t2) (xs := xs2)) (fun i σ' H' => H' = H5 ∧ (∃ y2, σ' = [some (.ref d), some (.int k), some (.ref t), some (.ref D), some x, y2, none]) ∧ (hs.take i).all (fun h => decide (h ∈ hdsOf c)) = true) ⟨rfl, ⟨_, rfl⟩, rfl⟩ (fun i σ' H' _ h => by rw [h.1]; exact sq2.sq) ?_ ?_
        · rintro i2 x2 σ' H6 H7 hi2 ⟨rfl, ⟨y2, rfl⟩, hall2⟩ ⟨rfl, hx2⟩
          have hi3 : i2 < hs.length := by omega
          obtain ⟨dd, hd, fx2⟩ := fl2.getV hx2
          rw [List.getElem?_map, List.getElem?_eq_getElem hi3] at hd
          cases hd
          walk_at "rd"
          refine i_inHds fx2 (s4 _ _ hD3) (fD3.up (.of s4)) (hok _ (List.getElem_mem hi3)).1 (fun h hh => ?_) (i_must (fun h => ?_) (fun h => ?_))
          · obtain ⟨r, hr, rfl⟩ := List.mem_map.mp hh
            exact (z.ho c hcm r hr).1
          · exact ⟨rfl, all_next hi3 hall2 h⟩
          · exact (bad (by rw [efo]; exact all_bad hi3 h)).same s34
        · rintro σ' H6 ⟨rfl, ⟨y2, rfl⟩, hall2⟩
          rw [hlen2, List.take_length] at hall2
          exact ⟨s4, ⟨_, _, rfl⟩, nxt (by rw [efo]; exact hall2)⟩
      · rintro σ' H4 ⟨s4, _, hall⟩
        rw [wl, List.take_length] at hall
        exact q1 hall _ (s23.trans s4)
theorem i_gT8 {K : PySem.W.Frag} {n i0 i1 i2 i3 i4 i5 i6 i7 : Nat} {v x0 x1 x2 x3 x4 x5 x6 x7 : V} {a : Addr} {σ : L2.St} {H : Hp} {Q : L2.St → Hp → Prop} (hn : n = 8) (hv : v = .ref a) (h : SqT K H a [x0, x1, x2, x3, x4, x5, x6, x7])
    (q : Q ((((((((σ.set i0 (some x0)).set i1 (some x1)).set i2 (some x2)).set i3 (some x3)).set i4 (some x4)).set i5 (some x5)).set i6 (some x6)).set i7 (some x7)) H) :
    gTup K n (gCons (gName i0) (gCons (gName i1) (gCons (gName i2) (gCons (gName i3) (gCons (gName i4) (gCons (gName i5) (gCons (gName i6) (gCons (gName i7) gNil)))))))) v σ H Q := by
  subst hv
  exact ⟨a, [x0, x1, x2, x3, x4, x5, x6, x7], rfl, h, hn.symm, x0, _, rfl, x1, _, rfl, x2, _, rfl, x3, _, rfl, x4, _, rfl, x5, _, rfl, x6, _, rfl, x7, [], rfl, rfl, q⟩
def useOk (ms : List Md) (u : Str × Int) : Bool := match findM ms u.1 with
  | some m => decide (m.ver = u.2)
  | none => false
def clOk (ms : List Md) (m : Md) (k : Nat) (c : Cl) : Bool := (c.fcs.map faceKd ++ c.fds).all (kOk ms m) && ((hdsOf c).all (hOk ms m) && fcOk ms m k c)
def clOkAt (ms : List Md) (m : Md) (k : Nat) : Bool := match m.cls[k]? with
  | some c => clOk ms m k c
  | none => true
def madeH : Hd := ⟨"made", [.int], .nothing⟩
def procH : Hd := ⟨"process", [.int], .int⟩
def apOk (m : Md) (k : Nat) : Bool := match m.cls[k]? with
  | some c => decide (madeH ∈ hdsOf c) && decide (procH ∈ hdsOf c)
  | none => true
def mtKds (t : Mt) : List Kd := t.h.ps ++ t.vars ++ [t.h.rs]
def chk (ms : List Md) (m : Md) : Bool := !decide (m.nm ∈ ms.map Md.nm) && (m.uses.all (useOk ms) && (m.fcs.all (fun f => f.2.all (hOk ms m)) && (m.mts.all (fun t => (mtKds t).all (kOk ms m)) && ((List.range m.cls.length).all (clOkAt ms m) && m.apps.all (apOk m)))))
theorem inV_names {n : Str} : ∀ {ms : List Md}, inV (.str n) (ms.map fun m => V.str m.nm) = decide (n ∈ ms.map Md.nm)
  | [] => rfl
  | m :: ms => by
    have ih := inV_names (n := n) (ms := ms)
    show ((m.nm == n) || inV (.str n) (ms.map fun m => V.str m.nm)) = _
    rw [ih]
    by_cases e : m.nm = n
    · subst e; simp
    · rw [beq_eq_false_iff_ne.mpr e]
      by_cases h : n ∈ ms.map Md.nm
      · rw [decide_eq_true h, decide_eq_true (by rw [List.map_cons]; exact List.mem_cons_of_mem _ h)]; rfl
      · rw [decide_eq_false h, decide_eq_false (by rw [List.map_cons]; exact fun k => (List.mem_cons.mp k).elim (fun k => e k.symm) h)]; rfl
theorem names_flat {ms : List Md} : (ms.map fun m => V.str m.nm).all flatV = true := by
  rw [List.all_eq_true]
  intro v hv
  obtain ⟨_, _, rfl⟩ := List.mem_map.mp hv
  rfl
theorem findM_in {ms : List Md} {n : Str} (h : n ∈ ms.map Md.nm) : ∃ m, findM ms n = some m := by
  obtain ⟨m, hm, e⟩ := List.mem_map.mp h
  cases q : findM ms n with
  | some m2 => exact ⟨m2, rfl⟩
  | none =>
    unfold findM at q
    rw [List.find?_eq_none] at q
    exact absurd (decide_eq_true e) (q m hm)
theorem findM_mem {ms : List Md} {n : Str} {m : Md} (h : findM ms n = some m) : n ∈ ms.map Md.nm := List.mem_map.mpr ⟨m, List.mem_of_find?_eq_some h, findM_nm h⟩
def sp_Draft_check {K : PySem.W.Frag} {mg : Str → Option Value} (T : Txt K mg) : Sp := fun vs H Q E => ∃ (d a md cl : Addr) (ms : List Md) (m : Md) (v : V), vs = [.ref d] ∧ Dr K T.c_Draft T.c_World H d a md cl ms m v ∧ Ms ms ∧ Mz m ∧ (∀ x ∈ ms, Mz x) ∧
  (chk ms m = true → ∀ H', Same H H' → Q .non H') ∧ (chk ms m = false → ErrL T.c_BadLink H E)
theorem ok_Draft_check (T : Txt K mg) : FnOk P w K mg base (L2.CX P w) 5 T.f_Draft_check T.d_Draft_check ["self"] (sp_Draft_check T) := by
  refine T.k_Draft_check.okX sc_Draft_check (fun vs H Q E h => ?_) (fun cdv A outer s H vs Q E hr h => ?_)
  · obtain ⟨d, a, md, cl, ms, m, v, rfl, _⟩ := h
    rfl
  · obtain ⟨d, a, md, cl, ms, m, v, rfl, w, hM, z, zs, q1, q2⟩ := h
    have w0 := w
    obtain ⟨⟨dx, h1⟩, hw, fv⟩ := w0
    have hw0 := hw
    obtain ⟨⟨dx2, h2⟩, _, _⟩ := hw0
    obtain ⟨mt, mxs, rfl, msq, mfl⟩ := fv.inv
    refine ⟨_, (pss_cons (ps_asg (pe_fldK K (pv 0) rfl) (pg_tup rfl (pgs_cons (pg_name (i := 1) sc_Draft_check.nd rfl (Or.inl rfl)) (pgs_cons (pg_name (i := 2) sc_Draft_check.nd rfl (Or.inl rfl)) (pgs_cons (pg_name (i := 1) sc_Draft_check.nd rfl (Or.inl rfl)) (pgs_cons (pg_name (i := 3) sc_Draft_check.nd rfl (Or.inl rfl)) (pgs_cons (pg_name (i := 4) sc_Draft_check.nd rfl (Or.inl rfl)) (pgs_cons (pg_name (i := 5) sc_Draft_check.nd rfl (Or.inl rfl)) (pgs_cons (pg_name (i := 6) sc_Draft_check.nd rfl (Or.inl rfl)) (pgs_cons (pg_name (i := 7) sc_Draft_check.nd rfl (Or.inl rfl)) pgs_nil))))))))))
      (pss_cons (ps_expr (pe_callS (ok_must T) (hr.mono (by decide)) (by rfl) T.g_must T.k_must.kp T.b_must (fun σ => passAt (takes_of rfl rfl rfl rfl) σ) (pa_cons (pe_cmpR (notIn_seqK K) (pv 2) (pe_meth0 (pe_fldK K (pv 0) rfl) T.cl_World T.me_World_names (ok_World_names T) (hr.mono (by decide)) T.b_World_names .nil pass0) rfl) pa_nil)))
      (pss_cons (ps_for (passes_of rfl) rfl (pi_tup (pv 3)) (pg_tup rfl (pgs_cons (pg_name (i := 8) sc_Draft_check.nd rfl (Or.inl rfl)) (pgs_cons (pg_name (i := 9) sc_Draft_check.nd rfl (Or.inl rfl)) pgs_nil))) (pss_one (ps_expr (pe_callS (ok_must T) (hr.mono (by decide)) (by rfl) T.g_must T.k_must.kp T.b_must (fun σ => passAt (takes_of rfl rfl rfl rfl) σ) (pa_cons (pe_and (pe_cmpR (in_seqK K) (pv 8) (pe_meth0 (pe_fldK K (pv 0) rfl) T.cl_World T.me_World_names (ok_World_names T) (hr.mono (by decide)) T.b_World_names .nil pass0) rfl) (pe_one (pe_cmpR op_eq (pe_ix (ix_tupK K) (pe_methS (pe_fldK K (pv 0) rfl) T.cl_World T.me_World_module (ok_World_module T) (hr.mono (by decide)) T.b_World_module (fun σ => passAt (takes_of rfl rfl rfl rfl) σ) (pa_cons (pv 8) pa_nil)) pe_int (fun _ _ => rfl)) (pv 9) (nomark _)))) pa_nil)))))
      (pss_cons (ps_for (passes_of rfl) rfl (pi_tup (pv 4)) (pg_tup rfl (pgs_cons (pg_name (i := 1) sc_Draft_check.nd rfl (Or.inl rfl)) (pgs_cons (pg_name (i := 10) sc_Draft_check.nd rfl (Or.inl rfl)) pgs_nil))) (pss_one (ps_expr (pe_methS (pv 0) T.cl_Draft T.me_Draft__check_heads (ok_Draft__check_heads T) (hr.mono (by decide)) T.b_Draft__check_heads (fun σ => passAt (takes_of rfl rfl rfl rfl) σ) (pa_cons (pv 10) pa_nil)))))
      (pss_cons (ps_for (passes_of rfl) rfl (pi_tup (pv 6)) (pg_name (i := 11) sc_Draft_check.nd rfl (Or.inl rfl)) (pss_one (ps_expr (pe_methS (pv 0) T.cl_Draft T.me_Draft__check_kinds (ok_Draft__check_kinds T) (hr.mono (by decide)) T.b_Draft__check_kinds (fun σ => passAt (takes_of rfl rfl rfl rfl) σ) (pa_cons (pe_op (op_catAK K) (pe_op (op_catAK K) (pe_ix (ix_tupK K) (pv 11) pe_int (fun _ _ => rfl)) (pe_ix (ix_tupK K) (pv 11) pe_int (fun _ _ => rfl))) (pe_tup (pa_cons (pe_ix (ix_tupK K) (pv 11) pe_int (fun _ _ => rfl)) pa_nil))) pa_nil)))))
      (pss_cons (ps_for (passes_of rfl) rfl (pi_enumT (by rfl) T.m_enumerate (pa_cons (pv 5) pa_nil)) (pg_tup rfl (pgs_cons (pg_name (i := 12) sc_Draft_check.nd rfl (Or.inl rfl)) (pgs_cons (pg_name (i := 13) sc_Draft_check.nd rfl (Or.inl rfl)) pgs_nil))) (pss_cons (ps_expr (pe_methS (pv 0) T.cl_Draft T.me_Draft__check_kinds (ok_Draft__check_kinds T) (hr.mono (by decide)) T.b_Draft__check_kinds (fun σ => passAt (takes_of rfl rfl rfl rfl) σ) (pa_cons (pe_op (op_catAK K) (pe_ix (ix_tupK K) (pv 13) pe_int (fun _ _ => rfl)) (pe_ix (ix_tupK K) (pv 13) pe_int (fun _ _ => rfl))) pa_nil)))
      (pss_cons (ps_expr (pe_methS (pv 0) T.cl_Draft T.me_Draft__check_heads (ok_Draft__check_heads T) (hr.mono (by decide)) T.b_Draft__check_heads (fun σ => passAt (takes_of rfl rfl rfl rfl) σ) (pa_cons (pe_lc (own := [("head", 14)]) (g := gName 14) (tt := tYes) rfl sc_Draft_check.nd (pi_tup (pe_ix (ix_tupK K) (pv 13) pe_int (fun _ _ => rfl))) (blkOk_by (own := [("head", 14)]) (N := ["self", "_", "name", "uses", "faces", "classes", "methods", "applets", "used", "version", "heads", "method", "k", "row", "head"]) (sc := defScope s_Draft_check) (by decide +kernel)) (fun _ _ _ _ _ => pg_name (i := 14) sc_Draft_check.nd rfl (Or.inl rfl)) (fun _ _ _ _ _ => pts_nil) (fun _ _ _ _ _ => (pe_slice (sl_tupAK K) (pv 14) po_none (po_some pe_int)))) pa_nil)))
      (pss_one (ps_expr (pe_methS (pv 0) T.cl_Draft T.me_Draft__check_faces (ok_Draft__check_faces T) (hr.mono (by decide)) T.b_Draft__check_faces (fun σ => passAt (takes_of rfl rfl rfl rfl) σ) (pa_cons (pv 12) (pa_cons (pe_ix (ix_tupK K) (pv 13) pe_int (fun _ _ => rfl)) pa_nil))))))))
      (pss_one (ps_for (passes_of rfl) rfl (pi_tup (pv 7)) (pg_name (i := 12) sc_Draft_check.nd rfl (Or.inl rfl)) (pss_cons (ps_setLc (i := 10) (own := [("row", 13)]) (g := gName 13) (tt := tYes) rfl sc_Draft_check.nd rfl rfl (sw_true rfl rfl rfl (by decide +kernel)) (pi_tup (pe_ix (ix_tupK K) (pe_ix (ix_tupK K) (pv 5) (pv 12) (fun _ _ => rfl)) pe_int (fun _ _ => rfl))) (blkOk_by (own := [("row", 13)]) (N := ["self", "_", "name", "uses", "faces", "classes", "methods", "applets", "used", "version", "heads", "method", "k", "row", "head"]) (sc := defScope s_Draft_check) (by decide +kernel)) (fun _ _ _ _ _ => pg_name (i := 13) sc_Draft_check.nd rfl (Or.inl rfl)) (fun _ _ _ _ _ => pts_nil) (fun _ _ _ _ _ => (pe_slice (sl_tupAK K) (pv 13) po_none (po_some pe_int))))
      (pss_one (ps_expr (pe_callS (ok_must T) (hr.mono (by decide)) (by rfl) T.g_must T.k_must.kp T.b_must (fun σ => passAt (takes_of rfl rfl rfl rfl) σ) (pa_cons (pe_and (pe_cmpR (op_inD (room65 hr)) (pe_tup (pa_cons pe_str (pa_cons (pe_tup (pa_cons (pe_glob (v := .ref T.a_INT) rfl T.g_INT rfl) pa_nil)) (pa_cons (pe_glob (v := .ref T.a_NOTHING) rfl T.g_NOTHING rfl) pa_nil)))) (pv 10) rfl) (pe_one (pe_cmpR (op_inD (room65 hr)) (pe_tup (pa_cons pe_str (pa_cons (pe_tup (pa_cons (pe_glob (v := .ref T.a_INT) rfl T.g_INT rfl) pa_nil)) (pa_cons (pe_glob (v := .ref T.a_INT) rfl T.g_INT rfl) pa_nil)))) (pv 10) rfl))) pa_nil))))))))))))), ?_⟩
    walk_at "rd"
    refine rdSeq ?_
    walk_at "rd"
    refine i_fld T.cl_Draft T.nf_Draft_module h1 rfl ?_
    unfold Md.ds at mfl
    obtain ⟨x0, x1, x2, x3, x4, x5, x6, x7, rfl, f3, f4, f5, f6, f7, rfl⟩ : ∃ x0 x1 x2 x3 x4 x5 x6 x7, mxs = [x0, x1, x2, x3, x4, x5, x6, x7] ∧ Fr K H x3 (.tuple (m.uses.map useD)) ∧ Fr K H x4 (.tuple (m.fcs.map faceD)) ∧ Fr K H x5 (.tuple (m.cls.map Cl.d)) ∧ Fr K H x6 (.tuple (m.mts.map Mt.d)) ∧
        Fr K H x7 (.tuple (m.apps.map fun k : Nat => .int k)) ∧ x1 = .str m.nm := by
      cases mfl with
      | cons g0 mfl => cases mfl with
        | cons g1 mfl => cases mfl with
          | cons g2 mfl => cases mfl with
            | cons g3 mfl => cases mfl with
              | cons g4 mfl => cases mfl with
                | cons g5 mfl => cases mfl with
                  | cons g6 mfl => cases mfl with
                    | cons g7 mfl =>
                      cases mfl
                      exact ⟨_, _, _, _, _, _, _, _, rfl, g3, g4, g5, g6, g7, g1.strI⟩
    refine i_gT8 rfl rfl msq.sq ?_
    refine rdSeq ?_
    walk_at "rd"
    refine i_fld T.cl_Draft T.nf_Draft_world h1 rfl (i_meth h2 rfl ⟨a, md, cl, ms, rfl, hw, fun p1 H1 hp1 s1 hn1 => ⟨p1, _, rfl, .inl (sqL_of hn1), rfl, names_flat, ?_⟩⟩)
    rw [inV_names]
    refine i_must (fun c1 => ?_) (fun c1 => (q2 ?_).same s1)
    rotate_left
    · have c1 : (!decide (m.nm ∈ ms.map Md.nm)) = false := c1
      unfold chk; rw [c1]; rfl
    have c1 : (!decide (m.nm ∈ ms.map Md.nm)) = true := c1
    -- uses
    obtain ⟨t3, u3, rfl, sq3, fl3⟩ := f3.inv
    have l3 := fl3.len
    rw [List.length_map] at l3
    refine rdSeq ?_
    walk_at "rd"
    refine ⟨⟨_, (sq3.up (.of s1)).sq⟩, ?_⟩
    refine i_forG (walk_tup (K := K) (a := t3) (xs := u3)) (fun i σ' H' => Same H H' ∧ (∃ y0 y8 y9, σ' = [some (.ref d), y0, some (.str m.nm), some (.ref t3), some x4, some x5, some x6, some x7, y8, y9, none, none, none, none, none]) ∧ (m.uses.take i).all (useOk ms) = true) ⟨s1, ⟨_, _, _, rfl⟩, rfl⟩ (fun i σ' H' _ h => (sq3.up (.of h.1)).sq) ?_ ?_
    · rintro i x σ' H2 H3 hi ⟨s2, ⟨y0, y8, y9, rfl⟩, hall⟩ ⟨rfl, hx⟩
      have hi2 : i < m.uses.length := by omega
      obtain ⟨dd, hd, fx⟩ := fl3.getV hx
      rw [List.getElem?_map, List.getElem?_eq_getElem hi2] at hd
      cases hd
      have fx := fx.up (.of s2)
      have nxt : useOk ms m.uses[i] = true → (m.uses.take (i + 1)).all (useOk ms) = true := fun h => all_next hi2 hall h
      have bad : useOk ms m.uses[i] = false → ErrL T.c_BadLink H E := fun h => q2 (by unfold chk; rw [all_bad hi2 h]; simp)
      generalize m.uses[i] = us at *
      obtain ⟨b, zs2, rfl, sqx, flx⟩ := fx.inv
      cases flx with
      | cons g1 flx => cases flx with
        | cons g2 flx =>
          cases flx
          rw [g1.strI, g2.intI] at sqx
          refine i_gTup2 rfl sqx.sq ?_
          walk_at "rd"
          refine i_fld T.cl_Draft T.nf_Draft_world (s2 _ _ h1) rfl (i_meth (s2 _ _ h2) rfl ⟨a, md, cl, ms, rfl, hw.same s2, fun p4 H4 hp4 s4 hn4 => ⟨p4, _, rfl, .inl (sqL_of hn4), rfl, names_flat, ?_⟩⟩)
          rw [inV_names]
          have s24 := s2.trans s4
          refine ⟨_, rfl, ite2 (fun hin => ?_) (fun hin => i_must (fun h => by cases h) (fun _ => (bad ?_).same s24))⟩
          · have hin : us.1 ∈ ms.map Md.nm := of_decide_eq_true hin
            obtain ⟨m2, hm2⟩ := findM_in hin
            refine i_fld T.cl_Draft T.nf_Draft_world (s24 _ _ h1) rfl (i_meth (s24 _ _ h2) rfl ⟨a, md, cl, ms, us.1, rfl, hw.same s24, fun m3 v3 e3 f3' => ?_, fun e3 => by rw [hm2] at e3; cases e3⟩)
            rw [hm2] at e3
            cases e3
            refine i_ixFi (i := 2) f3' rfl ⟨rfl, i_must (fun h => ⟨s24, nxt ?_⟩) (fun h => (bad ?_).same s24)⟩
            · unfold useOk; rw [hm2]
              exact decide_eq_true (V.int.inj (of_decide_eq_true h))
            · unfold useOk; rw [hm2]
              exact decide_eq_false fun e => of_decide_eq_false h (by rw [e])
          · unfold useOk
            cases e : findM ms us.1 with
            | none => rfl
            | some m2 => exact absurd (decide_eq_true (findM_mem e)) hin
    rintro σ' H2 ⟨s2, ⟨y0, y8, y9, rfl⟩, hall⟩
    rw [l3, List.take_length] at hall
    have c2 := hall
    -- faces
    obtain ⟨t4, u4, rfl, sq4, fl4⟩ := f4.inv
    have l4 := fl4.len
    rw [List.length_map] at l4
    dsimp only
    refine rdSeq ?_
    walk_at "rd"
    refine ⟨⟨_, (sq4.up (.of s2)).sq⟩, ?_⟩
    refine i_forG (walk_tup (K := K) (a := t4) (xs := u4)) (fun i σ' H' => Same H H' ∧ (∃ y0 y8 y9 y10, σ' = [some (.ref d), y0, some (.str m.nm), some (.ref t3), some (.ref t4), some x5, some x6, some x7, y8, y9, y10, none, none, none, none]) ∧ (m.fcs.take i).all (fun f => f.2.all (hOk ms m)) = true) ⟨s2, ⟨_, _, _, _, rfl⟩, rfl⟩ (fun i σ' H' _ h => (sq4.up (.of h.1)).sq) ?_ ?_
    · rintro i x σ' H3 H4 hi ⟨s3, ⟨y0, y8, y9, y10, rfl⟩, hall⟩ ⟨rfl, hx⟩
      have hi2 : i < m.fcs.length := by omega
      obtain ⟨dd, hd, fx⟩ := fl4.getV hx
      rw [List.getElem?_map, List.getElem?_eq_getElem hi2] at hd
      cases hd
      have fx := fx.up (.of s3)
      have nxt : m.fcs[i].2.all (hOk ms m) = true → (m.fcs.take (i + 1)).all (fun f => f.2.all (hOk ms m)) = true := fun h => all_next (p := fun f : Str × List Hd => f.2.all (hOk ms m)) hi2 hall h
      have bad : m.fcs[i].2.all (hOk ms m) = false → ErrL T.c_BadLink H E := fun h => q2 (by unfold chk; rw [all_bad (p := fun f : Str × List Hd => f.2.all (hOk ms m)) hi2 h]; simp)
      have hfz := z.hf _ (List.getElem_mem hi2)
      generalize m.fcs[i] = fc at *
      obtain ⟨b, zs2, rfl, sqx, flx⟩ := fx.inv
      cases flx with
      | cons g1 flx => cases flx with
        | cons g2 flx =>
          cases flx
          rw [g1.strI] at sqx
          obtain ⟨t5, u5, rfl, sq5, fl5⟩ := g2.inv
          refine i_gTup2 rfl sqx.sq ?_
          walk_at "rd"
          refine i_meth (s3 _ _ h1) rfl ?_
          walk_at "rd"
          exact ⟨d, a, md, cl, ms, m, _, t5, u5, fc.2, rfl, w.same s3, .inl sq5, fl5, fun h hh => (hfz h hh).2, fun h H' s' => ⟨s3.trans s', nxt h⟩, fun h => (bad h).same s3⟩
    rintro σ' H3 ⟨s3, ⟨y0, y8, y9, y10, rfl⟩, hall⟩
    rw [l4, List.take_length] at hall
    have c3 := hall
    -- methods
    obtain ⟨t6, u6, rfl, sq6, fl6⟩ := f6.inv
    have l6 := fl6.len
    rw [List.length_map] at l6
    dsimp only
    refine rdSeq ?_
    walk_at "rd"
    refine ⟨⟨_, (sq6.up (.of s3)).sq⟩, ?_⟩
    refine i_for (walk_tup (K := K) (a := t6) (xs := u6)) (fun i σ' H' => Same H H' ∧ (∃ y0 y8 y9 y10 y11, σ' = [some (.ref d), y0, some (.str m.nm), some (.ref t3), some (.ref t4), some x5, some (.ref t6), some x7, y8, y9, y10, y11, none, none, none]) ∧ (m.mts.take i).all (fun t => (mtKds t).all (kOk ms m)) = true) ⟨s3, ⟨_, _, _, _, _, rfl⟩, rfl⟩ (fun i σ' H' _ h => (sq6.up (.of h.1)).sq) ?_ ?_
    · rintro i x σ' H4 H5 hi ⟨s4, ⟨y0, y8, y9, y10, y11, rfl⟩, hall⟩ ⟨rfl, hx⟩
      have hi2 : i < m.mts.length := by omega
      obtain ⟨dd, hd, fx⟩ := fl6.getV hx
      rw [List.getElem?_map, List.getElem?_eq_getElem hi2] at hd
      cases hd
      have fx := fx.up (.of s4)
      have nxt : (mtKds m.mts[i]).all (kOk ms m) = true → (m.mts.take (i + 1)).all (fun t => (mtKds t).all (kOk ms m)) = true := fun h => all_next (p := fun t => (mtKds t).all (kOk ms m)) hi2 hall h
      have bad : (mtKds m.mts[i]).all (kOk ms m) = false → ErrL T.c_BadLink H E := fun h => q2 (by unfold chk; rw [all_bad (p := fun t => (mtKds t).all (kOk ms m)) hi2 h]; simp)
      have hmz := z.mt _ (List.getElem_mem hi2)
      generalize m.mts[i] = mt at *
      walk_at "rd"
      refine i_meth (s4 _ _ h1) rfl ?_
      walk_at "rd"
      refine i_ixF (i := 2) fx rfl fun g2 hg2 => i_ixF (i := 4) fx rfl fun g4 hg4 => i_catF hg2 hg4 (by rw [List.length_map, List.length_map]; exact line5 (by omega)) fun g5 H6 s6 hg5 => ?_
      refine i_ixF (i := 3) (fx.up (.of s6)) rfl fun g3 hg3 => ?_
      intro p7 hp7
      refine i_catF (hg5.up (.of (same_new hp7))) (.tup (.inl upd_same) (.cons (hg3.up (.of (same_new hp7))) .nil)) (by simp; exact line5 (by omega)) fun g8 H8 s8 hg8 => ?_
      have s48 := s4.trans (s6.trans ((same_new hp7).trans s8))
      refine ⟨d, a, md, cl, ms, m, _, g8, mtKds mt, rfl, w.same s48, by unfold mtKds; rw [List.map_append, List.map_append]; exact hg8, fun h => ⟨s48, nxt h⟩, fun h => (bad h).same s48⟩
    rintro σ' H4 ⟨s4, ⟨y0, y8, y9, y10, y11, rfl⟩, hall⟩
    rw [l6, List.take_length] at hall
    have c4 := hall
    -- classes
    obtain ⟨t5, u5, rfl, sq5, fl5⟩ := f5.inv
    have l5 := fl5.len
    rw [List.length_map] at l5
    dsimp only
    refine rdSeq ?_
    walk_at "rd"
    obtain ⟨t7, u7, rfl, sq7, fl7⟩ := f7.inv
    have l7 := fl7.len
    rw [List.length_map] at l7
    refine ⟨_, (sq5.up (.of s4)).sq, ?_⟩
    refine i_forG (walk_enumT (K := K) (a := t5) (xs := u5)) (fun i σ' H' => Same H H' ∧ (∃ y0 y8 y9 y10 y11 y12 y13, σ' = [some (.ref d), y0, some (.str m.nm), some (.ref t3), some (.ref t4), some (.ref t5), some (.ref t6), some (.ref t7), y8, y9, y10, y11, y12, y13, none]) ∧ ((List.range m.cls.length).take i).all (clOkAt ms m) = true) ⟨s4, ⟨_, _, _, _, _, _, _, rfl⟩, rfl⟩ (fun i σ' H' _ h => (sq5.up (.of h.1)).sq) ?_ ?_
    · rintro i x σ' H5 H6 hi ⟨s5, ⟨y0, y8, y9, y10, y11, y12, y13, rfl⟩, hall⟩ ⟨tt, y, rfl, htt, rfl, hy⟩
      have hi2 : i < m.cls.length := by omega
      obtain ⟨dd, hd, fx⟩ := fl5.getV hy
      rw [List.getElem?_map, List.getElem?_eq_getElem hi2] at hd
      cases hd
      have s6 := s5.trans (same_new (o := .tup [.int (i : Nat), y]) htt)
      refine i_gTup2 rfl (sqT_of upd_same) ?_
      generalize upd H5 tt (.tup [.int (i : Nat), y]) = H6 at *
      have fx := fx.up (.of s6)
      have hc := List.getElem?_eq_getElem hi2
      have hir : i < (List.range m.cls.length).length := by rw [List.length_range]; exact hi2
      have hri : (List.range m.cls.length)[i] = i := List.getElem_range hir
      have ecl : clOkAt ms m i = clOk ms m i m.cls[i] := by unfold clOkAt; rw [hc]
      have nxt : clOk ms m i m.cls[i] = true → ((List.range m.cls.length).take (i + 1)).all (clOkAt ms m) = true := fun h => all_next hir hall (by rw [hri, ecl]; exact h)
      have bad : clOk ms m i m.cls[i] = false → ErrL T.c_BadLink H E := fun h => q2 (by unfold chk; rw [all_bad hir (by rw [hri, ecl]; exact h)]; simp)
      have hcm := List.getElem_mem hi2
      have prev : ∀ (j : Nat) (hj : j < i), (m.cls[j]'(by omega)).fcs.all (fun f => (faceX ms m f.1 f.2).isSome) = true := fun j hj => by
        have h1 := List.all_eq_true.mp hall j (by
          rw [List.mem_take_iff_getElem]
          exact ⟨j, by rw [List.length_range]; omega, List.getElem_range (by rw [List.length_range]; omega)⟩)
        unfold clOkAt at h1
        rw [List.getElem?_eq_getElem (show j < m.cls.length by omega)] at h1
        unfold clOk at h1
        simp only [Bool.and_eq_true, List.all_append] at h1
        have h2 := h1.1.1
        rw [List.all_map] at h2
        exact h2
      have zfd := z.fd _ hcm
      have zfc := z.sz.fc _ hcm
      have ztb := z.sz.tb _ hcm
      have zho := z.ho _ hcm
      have hanc := ancs_len z.sz.ah m.cls.length (i : Int) (by omega) (by omega) (by omega)
      generalize hgc : m.cls[i] = c at *
      refine rdSeq ?_
      walk_at "rd"
      refine i_meth (s6 _ _ h1) rfl ?_
      walk_at "rd"
      refine i_ixF (i := 2) fx rfl fun g2 hg2 => i_ixF (i := 3) fx rfl fun g3 hg3 => i_catF hg2 hg3 (by rw [List.length_map, List.length_map]; exact line5 (by omega)) fun g5 H7 s7 hg5 => ?_
      have s67 := s6.trans s7
      refine ⟨d, a, md, cl, ms, m, _, g5, c.fcs.map faceKd ++ c.fds, rfl, w.same s67, by rw [List.map_append, ← fcs_map]; exact hg5, fun k1 => ?_, fun k1 => (bad (by unfold clOk; rw [k1]; rfl)).same s67⟩
      refine rdSeq ?_
      walk_at "rd"
      refine i_meth (s67 _ _ h1) rfl ?_
      walk_at "rd"
      refine i_ixF (i := 4) (fx.up (.of s7)) rfl fun g4 hg4 => ?_
      obtain ⟨t8, u8, rfl, sq8, fl8⟩ := hg4.inv
      have l8 := fl8.len
      rw [List.length_map] at l8
      refine ⟨t8, rfl, ⟨_, sq8.sq⟩, ?_⟩
      refine i_lcFr (K := K) (walk_tup (K := K) (a := t8) (xs := u8)) ((hdsOf c).map Hd.d) (by simp [hdsOf, l8]) (line5' (by omega)) (fun H' s' => (sq8.up (.of s')).sq) (fun _ _ _ _ y => y.1) (fun i2 x2 H8 Q' dd hdd s8 hy8 qq => ?_) (fun D H8 ys hD s8 hD8 fD => ?_)
      · obtain ⟨_, hx8⟩ := hy8
        have hi8 : i2 < c.tb.length := by rw [← l8]; exact (List.getElem?_eq_some_iff.mp hx8).1
        obtain ⟨d2, hd2, fx8⟩ := fl8.getV hx8
        rw [List.getElem?_map, List.getElem?_eq_getElem hi8] at hd2
        cases hd2
        unfold hdsOf at hdd
        rw [List.map_map, List.getElem?_map, List.getElem?_eq_getElem hi8] at hdd
        cases hdd
        walk_at "rd"
        refine i_frontF (n := 3) (fx8.up (.of s8)) (by simp [Hd.ds]) fun y H3 s3 fy => qq y H3 s3 ?_
        rw [rw_take] at fy
        exact fy
      have s68 := s67.trans s8
      refine ⟨d, a, md, cl, ms, m, _, D, ys, hdsOf c, rfl, w.same s68, .inr hD8, fD, fun h hh => ?_, fun k2 H9 s9 => ?_, fun k2 => (bad (by unfold clOk; rw [k2]; simp)).same s68⟩
      · obtain ⟨r, hr, rfl⟩ := List.mem_map.mp hh
        exact (zho r hr).2
      have s69 := s68.trans s9
      refine i_meth (s69 _ _ h1) rfl ?_
      walk_at "rd"
      refine i_ixF (i := 4) (fx.up (.of (s7.trans (s8.trans s9)))) rfl fun g4 hg4 => ?_
      refine ⟨d, a, md, cl, ms, m, _, g4, i, c, rfl, w.same s69, hg4, hc, z, zs, fun f hf => ?_, fun k3 H10 s10 => ?_, fun k3 => (bad (by unfold clOk; rw [k3]; simp)).same s69⟩
      · obtain ⟨j, hj, hfj⟩ := List.mem_flatMap.mp hf
        clear hf
        have hf := hfj
        clear hfj
        obtain ⟨j0, j1⟩ := hanc.2 j hj
        obtain ⟨jn, rfl⟩ := Int.eq_ofNat_of_zero_le j0
        have hjl : jn < m.cls.length := by omega
        rw [Int.toNat_natCast, List.getElem?_eq_getElem hjl] at hf
        by_cases e : jn = i
        · subst e
          rw [hgc] at hf
          have k1 : (c.fcs.map faceKd ++ c.fds).all (kOk ms m) = true := k1
          rw [List.all_append, Bool.and_eq_true, List.all_map] at k1
          exact List.all_eq_true.mp k1.1 f hf
        · exact List.all_eq_true.mp (prev jn (by omega)) f hf
      · refine ⟨s69.trans s10, nxt ?_⟩
        have k1 : (c.fcs.map faceKd ++ c.fds).all (kOk ms m) = true := k1
        have k2 : (hdsOf c).all (hOk ms m) = true := k2
        have k3 : fcOk ms m i c = true := k3
        unfold clOk
        rw [k1, k2, k3]; rfl
    rintro σ' H5 ⟨s5, ⟨y0, y8, y9, y10, y11, y12, y13, rfl⟩, hall⟩
    rw [l5, List.take_of_length_le (by rw [List.length_range]; exact Nat.le_refl _)] at hall
    have c5 := hall
    -- applets
    dsimp only
    walk_at "rd"
    refine ⟨⟨_, (sq7.up (.of s5)).sq⟩, ?_⟩
    refine i_for (walk_tup (K := K) (a := t7) (xs := u7)) (fun i σ' H' => Same H H' ∧ (∃ y0 y8 y9 y10 y11 y12 y13, σ' = [some (.ref d), y0, some (.str m.nm), some (.ref t3), some (.ref t4), some (.ref t5), some (.ref t6), some (.ref t7), y8, y9, y10, y11, y12, y13, none]) ∧ (m.apps.take i).all (apOk m) = true) ⟨s5, ⟨_, _, _, _, _, _, _, rfl⟩, rfl⟩ (fun i σ' H' _ h => (sq7.up (.of h.1)).sq) ?_ ?_
    · rintro i x σ' H6 H7 hi ⟨s6, ⟨y0, y8, y9, y10, y11, y12, y13, rfl⟩, hall⟩ ⟨rfl, hx⟩
      have hi2 : i < m.apps.length := by omega
      obtain ⟨dd, hd, fx⟩ := fl7.getV hx
      rw [List.getElem?_map, List.getElem?_eq_getElem hi2] at hd
      cases hd
      rw [fx.intI]
      have hk := z.sz.ap _ (List.getElem_mem hi2)
      have nxt : apOk m m.apps[i] = true → (m.apps.take (i + 1)).all (apOk m) = true := fun h => all_next hi2 hall h
      have bad : apOk m m.apps[i] = false → ErrL T.c_BadLink H E := fun h => q2 (by unfold chk; rw [all_bad hi2 h]; simp)
      generalize m.apps[i] = k at *
      have hc := List.getElem?_eq_getElem hk
      have hcm := List.getElem_mem hk
      have eap : apOk m k = (decide (madeH ∈ hdsOf m.cls[k]) && decide (procH ∈ hdsOf m.cls[k])) := by unfold apOk; rw [hc]
      have ztb := z.sz.tb _ hcm
      have zho := z.ho _ hcm
      have f5' : Fr K H7 (.ref t5) (.tuple (m.cls.map Cl.d)) := (Fr.tup sq5 fl5).up (.of s6)
      have hcd := cls_at hc
      generalize m.cls[k] = c at *
      refine rdSeq ?_
      walk_at "rd"
      refine i_ixF (i := k) f5' hcd fun g1 hg1 => i_ixF (i := 4) hg1 rfl fun g4 hg4 => ?_
      obtain ⟨t8, u8, rfl, sq8, fl8⟩ := hg4.inv
      have l8 := fl8.len
      rw [List.length_map] at l8
      refine ⟨t8, rfl, ⟨_, sq8.sq⟩, ?_⟩
      refine i_lcFr (K := K) (walk_tup (K := K) (a := t8) (xs := u8)) ((hdsOf c).map Hd.d) (by simp [hdsOf, l8]) (line5' (by omega)) (fun H' s' => (sq8.up (.of s')).sq) (fun _ _ _ _ y => y.1) (fun i2 x2 H8 Q' dd hdd s8 hy8 qq => ?_) (fun D H8 ys hD s8 hD8 fD => ?_)
      · obtain ⟨_, hx8⟩ := hy8
        have hi8 : i2 < c.tb.length := by rw [← l8]; exact (List.getElem?_eq_some_iff.mp hx8).1
        obtain ⟨d2, hd2, fx8⟩ := fl8.getV hx8
        rw [List.getElem?_map, List.getElem?_eq_getElem hi8] at hd2
        cases hd2
        unfold hdsOf at hdd
        rw [List.map_map, List.getElem?_map, List.getElem?_eq_getElem hi8] at hdd
        cases hdd
        walk_at "rd"
        refine i_frontF (n := 3) (fx8.up (.of s8)) (by simp [Hd.ds]) fun y H3 s3 fy => qq y H3 s3 ?_
        rw [rw_take] at fy
        exact fy
      have s68 := s6.trans s8
      have fI : ∀ G, Fr K G (.ref T.a_INT) Kd.int.d := fun G => .tup (.inr T.s_INT) (.cons (.str _) .nil)
      have fN : ∀ G, Fr K G (.ref T.a_NOTHING) Kd.nothing.d := fun G => .tup (.inr T.s_NOTHING) (.cons (.str _) .nil)
      have hho : ∀ h ∈ hdsOf c, HdOk h := fun h hh => by
        obtain ⟨r, hr, rfl⟩ := List.mem_map.mp hh
        exact (zho r hr).1
      have oM : HdOk madeH := ⟨by decide +kernel, fun k hk => by rw [List.mem_singleton.mp hk]; trivial, trivial⟩
      have oP : HdOk procH := ⟨by decide +kernel, fun k hk => by rw [List.mem_singleton.mp hk]; trivial, trivial⟩
      walk_at "rd"
      intro p1 hp1 p2 hp2
      have v1 : Fr K (upd (upd H8 p1 (.tup [.ref T.a_INT])) p2 (.tup [.str (Str.ofString "made"), .ref p1, .ref T.a_NOTHING])) (.ref p2) madeH.d :=
        .tup (.inl upd_same) (.cons (.str _) (.cons (.tup (.inl (same_new hp2 _ _ upd_same)) (.cons (fI _) .nil)) (.cons (fN _) .nil)))
      have s12 := (same_new (o := .tup [.ref T.a_INT]) hp1).trans (same_new (o := .tup [.str (Str.ofString "made"), .ref p1, .ref T.a_NOTHING]) hp2)
      generalize upd (upd H8 p1 (.tup [.ref T.a_INT])) p2 (.tup [.str (Str.ofString "made"), .ref p1, .ref T.a_NOTHING]) = H9 at *
      refine i_inHds v1 (s12 _ _ hD8) (fD.up (.of s12)) oM hho ⟨_, rfl, ite2 (fun hA => ?_) (fun hA => ?_)⟩
      · intro p3 hp3 p4 hp4
        have v2 : Fr K (upd (upd H9 p3 (.tup [.ref T.a_INT])) p4 (.tup [.str (Str.ofString "process"), .ref p3, .ref T.a_INT])) (.ref p4) procH.d :=
          .tup (.inl upd_same) (.cons (.str _) (.cons (.tup (.inl (same_new hp4 _ _ upd_same)) (.cons (fI _) .nil)) (.cons (fI _) .nil)))
        have s34 := s12.trans ((same_new (o := .tup [.ref T.a_INT]) hp3).trans (same_new (o := .tup [.str (Str.ofString "process"), .ref p3, .ref T.a_INT]) hp4))
        generalize upd (upd H9 p3 (.tup [.ref T.a_INT])) p4 (.tup [.str (Str.ofString "process"), .ref p3, .ref T.a_INT]) = H10 at *
        refine i_inHds v2 (s34 _ _ hD8) (fD.up (.of s34)) oP hho (i_must (fun hB => ⟨s68.trans s34, nxt (by rw [eap, hA, hB]; rfl)⟩) (fun hB => (bad (by rw [eap, hB, Bool.and_false])).same (s68.trans s34)))
      · exact i_must (fun h => by cases h) (fun _ => (bad (by rw [eap, Bool.eq_false_iff.mpr hA]; rfl)).same (s68.trans s12))
    · rintro σ' H6 ⟨s6, _, hall⟩
      rw [l7, List.take_length] at hall
      refine q1 ?_ _ s6
      unfold chk
      rw [c1, c2, c3, c4, c5, hall]; rfl
theorem kvs_app {m : Md} {v : V} : ∀ {ms : List Md} {vs : List V}, vs.length = ms.length → kvsOf (ms ++ [m]) (vs ++ [v]) = kvsOf ms vs ++ [(.inr m.nm, v)]
  | [], [], _ => rfl
  | x :: ms, y :: vs, h => by
    show (_, _) :: kvsOf (ms ++ [m]) (vs ++ [v]) = _
    rw [kvs_app (Nat.succ.inj h)]; rfl
theorem kvs_len : ∀ {ms : List Md} {vs : List V}, vs.length = ms.length → (kvsOf ms vs).length = ms.length
  | [], [], _ => rfl
  | x :: ms, y :: vs, h => congrArg (· + 1) (kvs_len (Nat.succ.inj h))
theorem clsOf_len {ms : List Md} (h : ∀ m ∈ ms, m.cls.length ≤ 500) : (clsOf ms).length ≤ ms.length * 500 := flat_len fun m hm => by rw [List.length_map, List.length_range]; exact h m hm
def sp_World_add {K : PySem.W.Frag} {mg : Str → Option Value} (T : Txt K mg) : Sp := fun vs H Q E => ∃ (a md cl : Addr) (ms : List Md) (m : Md) (v : V), vs = [.ref a, v] ∧ Wd K T.c_World H a md cl ms ∧ Fr K H v m.d ∧ Ms ms ∧ Mz m ∧ (∀ x ∈ ms, Mz x) ∧
  (chk ms m = true → ∀ H', Wd K T.c_World H' a md cl (ms ++ [m]) → Kp [md, cl] H H' → TupK H H' → Q .non H') ∧ (chk ms m = false → ErrL T.c_BadLink H E)
theorem ok_World_add (T : Txt K mg) : FnOk P w K mg base (L2.CX P w) 6 T.f_World_add T.d_World_add ["self", "module"] (sp_World_add T) := by
  refine T.k_World_add.okX sc_World_add (fun vs H Q E h => ?_) (fun cdv A outer s H vs Q E hr h => ?_)
  · obtain ⟨a, md, cl, ms, m, v, rfl, _⟩ := h
    rfl
  · obtain ⟨a, md, cl, ms, m, v, rfl, w, fv, hM, z, zs, q1, q2⟩ := h
    have w0 := w
    obtain ⟨⟨dx, h1⟩, ⟨us, h2, f2⟩, ⟨ws, h3, f3⟩⟩ := w0
    have l2 := f2.len
    have l3 := f3.len
    rw [List.length_map] at l2 l3
    refine ⟨_, (pss_cons (ps_expr (pe_meth0S (pe_make T.mk_Draft (ok_Draft_init T) (hr.mono (by decide)) (by rfl) T.g_Draft T.b_Draft_init .nil pass0 (pa_cons (pv 0) (pa_cons (pv 1) pa_nil))) T.cl_Draft T.me_Draft_check (ok_Draft_check T) (hr.mono (by decide)) T.b_Draft_check (fun σ => passAt (takes_of rfl rfl rfl rfl) σ)))
      (pss_cons (ps_dput (hu_of hr) (pe_fldK K (pv 0) rfl) (pe_ix (ix_tupK K) (pv 1) pe_int (fun _ _ => rfl)) (pv 1) rfl)
      (pss_one (ps_expr (pe_bmK K PySem.F.plainAttrs_list PySem.F.slot_list_extend PySem.F.type_list_extend mt_extend (pe_fldK K (pv 0) rfl) (pa_cons (pe_lc (own := [("k", 2)]) (g := gName 2) (tt := tYes) rfl sc_World_add.nd (pi_range1 (by rfl) T.m_range (pa_cons (pe_callB (lenTK K) (by rfl) T.m_len (by decide +kernel) (pa_cons (pe_ix (ix_tupK K) (pv 1) pe_int (fun _ _ => rfl)) pa_nil)) pa_nil)) (blkOk_by (own := [("k", 2)]) (N := ["self", "module", "k"]) (sc := defScope s_World_add) (by decide +kernel)) (fun _ _ _ _ _ => pg_name (i := 2) sc_World_add.nd rfl (Or.inl rfl)) (fun _ _ _ _ _ => pts_nil) (fun _ _ _ _ _ => (pe_tup (pa_cons (pe_ix (ix_tupK K) (pv 1) pe_int (fun _ _ => rfl)) (pa_cons (pv 2) pa_nil))))) pa_nil)))))), ?_⟩
    walk_at "rd"
    refine rdSeq ?_
    walk_at "rd"
    intro x dy hx hdy ndx
    have nxa : x ≠ a := fun e => by rw [e, h1] at hx; cases hx
    have s1 : Same H (upd (upd H dy (.own x)) x (.ins T.c_Draft dy [])) := (same_new hdy).trans (same_new (by rw [upd_ne (Ne.symm ndx)]; exact hx))
    refine ⟨x, dy, .ref a, v, rfl, upd_same, rfl, ?_⟩
    rw [upd_upd]
    have s2 : Same H (upd (upd H dy (.own x)) x (.ins T.c_Draft dy [("_world", .ref a), ("_module", v)])) := (same_new hdy).trans (same_new (by rw [upd_ne (Ne.symm ndx)]; exact hx))
    refine i_meth upd_same rfl ⟨x, a, md, cl, ms, m, v, rfl, ⟨⟨dy, upd_same⟩, w.same s2, fv.up (.of s2)⟩, hM, z, zs, fun hc H3 s3 => ?_, fun hc => (q2 hc).same s2⟩
    have s23 := s2.trans s3
    have q1 := q1 hc
    generalize upd (upd H dy (.own x)) x (.ins T.c_Draft dy [("_world", .ref a), ("_module", v)]) = Hx at *
    refine rdSeq ?_
    walk_at "rd"
    have h1' := s23 _ _ h1
    have h2' := s23 _ _ h2
    have h3' := s23 _ _ h3
    have fv3 := fv.up (.of s23)
    have nam : a ≠ md := ne_of h1 h2 (by intro z; cases z)
    have nac : a ≠ cl := ne_of h1 h3 (by intro z; cases z)
    have nmc : md ≠ cl := ne_of h2 h3 (by intro z; cases z)
    have hnew : findM ms m.nm = none := by
      cases e : findM ms m.nm with
      | none => rfl
      | some m2 =>
        have h5 := findM_mem e
        unfold chk at hc
        rw [decide_eq_true h5] at hc
        cases hc
    have hval : valV (kvsOf ms us) (.inr m.nm) = none := by
      rcases find_kvs (n := m.nm) f2 with ⟨m2, v2, e1, _⟩ | ⟨_, e2⟩
      · rw [hnew] at e1; cases e1
      · exact e2
    have lnm := hM.ln
    have lcl := clsOf_len fun m hm => (hM.sz m hm).cl
    have lms : (clsOf ms).length ≤ 50000 := Nat.le_trans lcl (Nat.mul_le_mul_right 500 lnm)
    have lmc := z.sz.cl
    refine i_fld T.cl_World T.nf_World_modules h1' rfl (i_ixFs (i := 1) fv3 (Md.at1 m) (i_dput h2' (by rw [kvs_len l2]; exact line5' (by omega)) ?_))
    rw [putK_new v hval, ← kvs_app l2]
    have tk1 : TupK H3 (upd H3 md (.dK (kvsOf (ms ++ [m]) (us ++ [v])))) := TupK.mut h2' (fun _ h => nomatch h)
    have k1 : Kp [md, cl] H3 (upd H3 md (.dK (kvsOf (ms ++ [m]) (us ++ [v])))) := Kp.set (by simp)
    have h1'' : upd H3 md (.dK (kvsOf (ms ++ [m]) (us ++ [v]))) a = _ := (upd_ne nam).trans h1'
    have h2'' : upd H3 md (.dK (kvsOf (ms ++ [m]) (us ++ [v]))) md = some (.dK (kvsOf (ms ++ [m]) (us ++ [v]))) := upd_same
    have h3'' : upd H3 md (.dK (kvsOf (ms ++ [m]) (us ++ [v]))) cl = _ := (upd_ne nmc.symm).trans h3'
    generalize upd H3 md (.dK (kvsOf (ms ++ [m]) (us ++ [v]))) = H4 at *
    have fv4 := fv3.up tk1
    refine i_fld T.cl_World T.nf_World_classes h1'' rfl ⟨.inl ⟨rfl, _, sqL_of h3''⟩, i_ixF (i := 5) fv4 (Md.at5 m) fun c5 hc5 => i_lenF hc5 ?_⟩
    rw [List.length_map]
    refine ⟨_, rfl, by omega, by omega, ?_⟩
    rw [Int.toNat_natCast]
    refine i_lcFr (K := K) (walk_range (lo := 0) (n := m.cls.length)) ((List.range m.cls.length).map fun k => cpD (m.nm, k)) (by simp) (line5' (by omega)) (fun _ _ => trivial) (fun _ _ _ _ y => y.1) (fun i x H5 Q' dd hdd s5 hy qq => ?_) (fun D H5 ys hD s5 hD5 fD => ?_)
    · obtain ⟨_, rfl⟩ := hy
      rw [List.getElem?_map] at hdd
      cases er : (List.range m.cls.length)[i]? with
      | none => rw [er] at hdd; cases hdd
      | some j =>
        rw [er] at hdd
        cases hdd
        obtain ⟨hi, hj⟩ := List.getElem?_eq_some_iff.mp er
        rw [List.getElem_range] at hj
        subst hj
        walk_at "rd"
        refine i_ixFs (i := 1) (fv4.up (.of s5)) (Md.at1 m) fun p hp => qq _ _ (same_new hp) (.tup (.inl upd_same) (.cons (.str _) (.cons ?_ .nil)))
        rw [Int.zero_add]
        exact .int _
    · have h3c := s5 _ _ h3''
      have fDl := fD.len
      rw [List.length_map, List.length_range] at fDl
      have tk2 : TupK H5 (upd H5 cl (.lst (ws ++ ys))) := TupK.mut h3c (fun _ h => nomatch h)
      have tkAll : TupK H (upd H5 cl (.lst (ws ++ ys))) := ((TupK.of s23).trans tk1).trans ((TupK.of s5).trans tk2)
      refine ⟨cl, D, ws, ys, rfl, rfl, h3c, hD5, line5 (by omega), q1 _ ⟨⟨dx, ?_⟩, ⟨us ++ [v], ?_, ?_⟩, ⟨ws ++ ys, upd_same, ?_⟩⟩ ?_ tkAll⟩
      · rw [upd_ne nac]; exact s5 _ _ h1''
      · rw [upd_ne nmc]; exact s5 _ _ h2''
      · rw [List.map_append]
        exact (f2.up tkAll).app (.cons (fv.up tkAll) .nil)
      · have : clsOf (ms ++ [m]) = clsOf ms ++ (List.range m.cls.length).map fun k => (m.nm, k) := by unfold clsOf; rw [List.flatMap_append, List.flatMap_singleton]
        rw [this, List.map_append, List.map_map]
        exact (f3.up tkAll).app (fD.up tk2)
      · exact ((Kp.of s23).trans k1).trans ((Kp.of s5).trans (Kp.set (by simp)))

/-! ### drawn modules -/
def pfD (x : Str × Str) : PyData := .tuple [.str x.1, .str x.2]
/-- a drawn type -/
def GoodK (kn : List (Str × Str)) (n : Nat) : Kd → Prop
  | .int => True
  | .bytes => True
  | .cls j => j < n
  | .fac p f => (p, f) ∈ kn
  | _ => False
theorem GoodK.mono {kn kn' : List (Str × Str)} {n n' : Nat} {k : Kd} (h : GoodK kn n k) (s : ∀ x ∈ kn, x ∈ kn') (hn : n ≤ n') : GoodK kn' n' k := by
  cases k with
  | int => trivial
  | bytes => trivial
  | cls j => exact Nat.lt_of_lt_of_le h hn
  | fac p f => exact s _ h
  | nothing => exact h.elim
  | null => exact h.elim
theorem TupK.mv {b : Addr} {H H' : Hp} (h : Bag H b) (m : Mv b H H') : TupK H H' := fun p xs e => m.old p _ (fun q => by
  obtain ⟨x, y, z, hb⟩ := h
  rw [q, hb] at e; cases e) e
/-- a list of frozen data -/
structure LsF (K : PySem.W.Frag) (H : Hp) (l : Addr) (ds : List PyData) : Prop where
  ex : ∃ vs, H l = some (.lst vs) ∧ FrL K H vs ds
theorem LsF.same {K : PySem.W.Frag} {H H' : Hp} {l : Addr} {ds : List PyData} (h : LsF K H l ds) (s : Same H H') : LsF K H' l ds := by
  obtain ⟨vs, h1, h2⟩ := h.ex
  exact ⟨vs, s _ _ h1, h2.up (.of s)⟩
theorem LsF.mv {K : PySem.W.Frag} {H H' : Hp} {b l : Addr} {ds : List PyData} (h : LsF K H l ds) (hb : Bag H b) (m : Mv b H H') (n : l ≠ b) : LsF K H' l ds := by
  obtain ⟨vs, h1, h2⟩ := h.ex
  exact ⟨vs, m.old _ _ n h1, h2.up (.mv hb m)⟩
def sp_law_types {K : PySem.W.Frag} {mg : Str → Option Value} (_ : Txt K mg) : Sp := fun vs H Q _ => ∃ (b l : Addr) (kn : List (Str × Str)) (n : Nat), vs = [.ref b, .ref l, .int n] ∧ Bag H b ∧ LsF K H l (kn.map pfD) ∧ l ≠ b ∧ kn.length ≤ 1000 ∧ n ≤ 1000 ∧
  ∀ v H' k, Mv b H H' → Fr K H' v k.d → GoodK kn n k → Q v H'
theorem ok_law_types (T : Txt K mg) : FnOk P w K mg base CX0 2 T.f_law_types T.d_law_types ["_law_bag_here", "_law_known_here", "_law_classes"] (sp_law_types T) := by
  refine T.k_law_types.ok sc_law_types (fun vs H Q E h => ?_) (fun cdv A outer s H vs Q E hr h => ?_)
  · obtain ⟨b, l, kn, n, rfl, _⟩ := h
    rfl
  · obtain ⟨b, l, kn, n, rfl, hB, hk, hlb, hkl, hn, q⟩ := h
    refine ⟨_, (pss_cons (ps_set (i := 3) sc_law_types.nd rfl (.inl rfl) (pe_call (ok_law_draw T) (hr.mono (by decide)) (by rfl) T.g_law_draw T.k_law_draw.kp T.b_law_draw .nil pass0 (pa_cons (pv 0) (pa_cons pe_int pa_nil))))
      (pss_cons (ps_if (PW.pt (pw_or (pt_cmpR op_eq (pv 3) pe_int (nomark _)) (pw_or (PW.pt (pw_and (pt_cmpR op_eq (pv 3) pe_int (nomark _)) (pw_and1 (pt_cmpR op_eq (pe_callB (lenLK K) (by rfl) T.m_len (by decide +kernel) (pa_cons (pv 1) pa_nil)) pe_int (nomark _))))) (pw_or1 (PW.pt (pw_and (pt_cmpR op_gt (pv 3) pe_int (nomark _)) (pw_and1 (pt_cmpR op_eq (pv 2) pe_int (nomark _))))))))) (pss_one (ps_ret (pe_tup (pa_cons pe_str pa_nil)))) pss_nil)
      (pss_cons (ps_if (pt_cmpR op_eq (pv 3) pe_int (nomark _)) (pss_one (ps_ret (pe_op (op_catAK K) (pe_tup (pa_cons pe_str pa_nil)) (pe_ix (ix_listK K) (pv 1) (pe_call (ok_law_draw T) (hr.mono (by decide)) (by rfl) T.g_law_draw T.k_law_draw.kp T.b_law_draw .nil pass0 (pa_cons (pv 0) (pa_cons (pe_callB (lenLK K) (by rfl) T.m_len (by decide +kernel) (pa_cons (pv 1) pa_nil)) pa_nil))) (fun _ _ => rfl))))) pss_nil)
      (pss_cons (ps_if (pt_cmpR op_eq (pv 3) pe_int (nomark _)) (pss_one (ps_ret (pe_tup (pa_cons pe_str pa_nil)))) pss_nil)
      (pss_one (ps_ret (pe_tup (pa_cons pe_str (pa_cons (pe_call (ok_law_draw T) (hr.mono (by decide)) (by rfl) T.g_law_draw T.k_law_draw.kp T.b_law_draw .nil pass0 (pa_cons (pv 0) (pa_cons (pv 2) pa_nil))) pa_nil))))))))), ?_⟩
    walk_at "rd"
    refine rdSeq ?_
    walk_at "rd"
    refine i_draw (Mv.refl hB) (by decide) (by decide) fun r H1 r0 r1 _ mv1 => ?_
    have hk1 := hk.mv hB mv1 hlb
    obtain ⟨us, h1, f1⟩ := hk1.ex
    have hlen := f1.len
    rw [List.length_map] at hlen
    have int : ∀ p, H1 p = none → Q (.ref p) (upd H1 p (.tup [.str (Str.ofString "int")])) := fun p hp => q _ _ .int (mv1.new hp) (.tup (.inl upd_same) (.cons (.str _) .nil)) trivial
    refine rdSeq ?_
    walk_at "rd"
    refine ite2 (fun _ => int) (fun h0 => ite2 (fun e1 => ?_) (fun e1 => ite2 (fun e2 => ite2 (fun _ => int) (fun en => ?_)) (fun e2 => ?_)))
    · refine i_lenL (sqL_of h1) ⟨rfl, ite2 (fun _ => int) (fun hz => i_else (by omega) ?_)⟩
      have hz : us.length ≠ 0 := fun e => hz (by rw [e]; rfl)
      refine rdSeq ?_
      walk_at "rd"
      refine i_then e1 fun p hp => i_lenL (sqL_of (same_new hp _ _ h1)) (i_draw (mv1.new hp) (by omega) (by omega) fun r2 H2 k0 k1 mv2 mv3 => ?_)
      obtain ⟨j, rfl⟩ := Int.eq_ofNat_of_zero_le k0
      have hj : j < us.length := by omega
      have hj2 : j < kn.length := by omega
      have hk2 := (hk1.same (same_new (o := .tup [.str (Str.ofString "face")]) hp)).mv (mv1.new (o := .tup [.str (Str.ofString "face")]) hp).bag mv2 hlb
      obtain ⟨ws, h2, f2⟩ := hk2.ex
      obtain ⟨x, hx, fx⟩ := f2.get (i := j) (d := pfD kn[j]) (by rw [List.getElem?_map, List.getElem?_eq_getElem hj2]; rfl)
      have npb := mv1.ne hp
      refine i_ixL (sqL_of h2) (atI_nat hx) ?_
      refine i_catF (ds := [.str (Str.ofString "face")]) (.tup (.inl (mv2.old _ _ npb upd_same)) (.cons (.str _) .nil)) fx (line5 (by show 1 + 2 ≤ 100000; decide)) fun w H3 s3 fw => ?_
      refine q w H3 (.fac kn[j].1 kn[j].2) (mv3.trans ⟨?_, fun c o _ e => s3 c o e⟩) fw (List.getElem_mem hj2)
      obtain ⟨b1, b2, b3, hb⟩ := mv3.bag
      exact ⟨b1, b2, b3, s3 _ _ hb⟩
    · have en : n ≠ 0 := fun e => en (by rw [e]; rfl)
      refine rdSeq ?_
      walk_at "rd"
      refine i_else e1 (rdSeq ?_)
      walk_at "rd"
      refine i_else (by omega) ?_
      refine i_draw mv1 (by omega) (by omega) fun r2 H2 k0 k1 mv2 mv3 p hp => ?_
      obtain ⟨j, rfl⟩ := Int.eq_ofNat_of_zero_le k0
      exact q _ _ (.cls j) (mv3.new hp) (.tup (.inl upd_same) (.cons (.str _) (.cons (.int _) .nil))) (show j < n by omega)
    · refine rdSeq ?_
      walk_at "rd"
      refine i_else e1 (rdSeq ?_)
      walk_at "rd"
      refine i_then (by omega) fun p hp => q _ _ .bytes (mv1.new hp) (.tup (.inl upd_same) (.cons (.str _) .nil)) trivial
theorem Mv.then {b : Addr} {H H1 H2 : Hp} (m : Mv b H H1) (s : Same H1 H2) : Mv b H H2 := by
  obtain ⟨b1, b2, b3, hb⟩ := m.bag
  exact ⟨⟨b1, b2, b3, s _ _ hb⟩, fun c o n e => s c o (m.old c o n e)⟩
/-- lists of drawn frozen data -/
theorem i_lcDF {K : PySem.W.Frag} {J : It} {n : Nat} {G : Hp → Prop} {Y : Nat → Hp → V → Hp → Prop} (w : Walk J n G Y) {α : Type} (f : α → PyData) (P : Nat → α → Prop) {b : Addr} {j : Nat} {te : TE} {σ : L2.St} {H : Hp} {Q : VK} (hB : Bag H b) (hn : n < sizeLine) (hG : ∀ H', Mv b H H' → G H') (hY : ∀ i H x H', Y i H x H' → H' = H)
    (hs : ∀ i x H1 (Q' : VK), i < n → Y i H1 x H1 → Mv b H H1 → (∀ y H2 k, Fr K H2 y (f k) → P i k → Mv b H1 H2 → Q' y H2) → te ((wipe σ [j]).set j (some x)) H1 Q')
    (q : ∀ D H' (ks : List α), H D = none → Mv b H H' → LsF K H' D (ks.map f) → ks.length = n → (∀ (i : Nat) k, ks[i]? = some k → P i k) → Q (.ref D) H') : rLcJ J (gName j) tYes te [j] σ H Q := by
  intro D hD
  have nD := bag_ne hB hD
  refine lc_it w (fun i H' => Mv b H H' ∧ ∃ ys, ∃ ks : List α, H' D = some (.lst ys) ∧ FrL K H' ys (ks.map f) ∧ ks.length = i ∧ ∀ (i : Nat) k, ks[i]? = some k → P i k) ⟨(Mv.refl hB).new hD, [], [], upd_same, .nil, rfl, fun _ _ h => by simp at h⟩ (fun i H' _ e => hG H' e.1) (fun i x H1 H2 hi e y => ?_) (fun H' e => ?_)
  · have e2 := hY i H1 x H2 y
    subst e2
    obtain ⟨mv, ys, ks, e1, e2, e3, e4⟩ := e
    refine ⟨wipe_one, hs i x H2 (fun y H4 => ∃ acc, H4 D = some (.lst acc) ∧ acc.length < sizeLine ∧ (Mv b H (upd H4 D (.lst (acc ++ [y]))) ∧ ∃ ys, ∃ ks : List α, upd H4 D (.lst (acc ++ [y])) D = some (.lst ys) ∧ FrL K (upd H4 D (.lst (acc ++ [y]))) ys (ks.map f) ∧ ks.length = i + 1 ∧ ∀ (i : Nat) k, ks[i]? = some k → P i k)) hi y mv fun v H3 k hv hp mv3 => ?_⟩
    have hl := e2.len
    rw [List.length_map] at hl
    have hD3 := mv3.old D _ nD e1
    have tk : TupK H3 (upd H3 D (.lst (ys ++ [v]))) := TupK.mut hD3 (fun _ h => nomatch h)
    have m3 := mv.trans mv3
    refine ⟨ys, hD3, by omega, ⟨?_, fun c o hc e => ?_⟩, ys ++ [v], ks ++ [k], upd_same, ?_, by simp [e3], fun m u hu => ?_⟩
    · obtain ⟨b1, b2, b3, hb⟩ := m3.bag
      exact ⟨b1, b2, b3, by rw [upd_ne nD.symm]; exact hb⟩
    · rw [upd_ne (ne_of_none e hD)]; exact m3.old c o hc e
    · rw [List.map_append]
      exact ((e2.up (.mv mv.bag mv3)).up tk).app (.cons (hv.up tk) .nil)
    · by_cases hm : m < ks.length
      · rw [List.getElem?_append_left hm] at hu; exact e4 m u hu
      · rw [List.getElem?_append_right (by omega)] at hu
        by_cases h0 : m - ks.length = 0
        · rw [h0] at hu
          have : k = u := by simpa using hu
          subst this
          rw [show m = i by omega]; exact hp
        · rw [List.getElem?_eq_none (by simp; omega)] at hu; cases hu
  · obtain ⟨mv, ys, ks, e1, e2, e3, e4⟩ := e
    exact q D H' ks hD mv ⟨ys, e1, e2⟩ e3 e4
/-- tuple(list) of frozen data -/
theorem i_tupF {K : PySem.W.Frag} {H : Hp} {l : Addr} {ds : List PyData} {R : Addr → Hp → Prop} {Y : Prop} (h : LsF K H l ds) (q : ∀ p H', Same H H' → Fr K H' (.ref p) (.tuple ds) → R p H') : ∃ x, (SqL K H l x ∧ ∀ (p : Addr), H p = none → R p (upd H p (.tup x))) ∨ SqT K H l x ∧ Y := by
  obtain ⟨vs, h1, h2⟩ := h.ex
  exact ⟨vs, .inl ⟨sqL_of h1, fun p hp => q p _ (same_new hp) (.tup (.inl upd_same) (h2.up (.of (same_new hp))))⟩⟩
/-- a drawn head -/
structure GoodH (kn : List (Str × Str)) (h : Hd) : Prop where
  ps : ∀ k ∈ h.ps, GoodK kn 0 k
  rs : GoodK kn 0 h.rs ∨ h.rs = .nothing
  ln : h.ps.length ≤ 2
def sp_law_head {K : PySem.W.Frag} {mg : Str → Option Value} (_ : Txt K mg) : Sp := fun vs H Q _ => ∃ (b l : Addr) (nm : Str) (kn : List (Str × Str)), vs = [.ref b, .str nm, .ref l] ∧ Bag H b ∧ LsF K H l (kn.map pfD) ∧ l ≠ b ∧ kn.length ≤ 1000 ∧
  ∀ v H' h, Mv b H H' → Fr K H' v h.d → GoodH kn h → h.nm = nm → Q v H'
theorem ok_law_head (T : Txt K mg) : FnOk P w K mg base CX0 3 T.f_law_head T.d_law_head ["_law_bag_here", "_law_name", "_law_known_here"] (sp_law_head T) := by
  refine T.k_law_head.ok sc_law_head (fun vs H Q E h => ?_) (fun cdv A outer s H vs Q E hr h => ?_)
  · obtain ⟨b, l, nm, kn, rfl, _⟩ := h
    rfl
  · obtain ⟨b, l, nm, kn, rfl, hB, hk, hlb, hkl, q⟩ := h
    refine ⟨_, (pss_cons (ps_set (i := 3) sc_law_head.nd rfl (.inl rfl) (pe_callTy call_tuple_of (by rfl) T.m_tuple (by decide +kernel) (pa_cons (pe_lc (own := [("_law_k", 5)]) (g := gName 5) (tt := tYes) rfl sc_law_head.nd (pi_range1 (by rfl) T.m_range (pa_cons (pe_call (ok_law_draw T) (hr.mono (by decide)) (by rfl) T.g_law_draw T.k_law_draw.kp T.b_law_draw .nil pass0 (pa_cons (pv 0) (pa_cons pe_int pa_nil))) pa_nil)) (blkOk_by (own := [("_law_k", 5)]) (N := ["_law_bag_here", "_law_name", "_law_known_here", "_law_params", "_law_result", "_law_k"]) (sc := defScope s_law_head) (by decide +kernel)) (fun _ _ _ _ _ => pg_name (i := 5) sc_law_head.nd rfl (Or.inl rfl)) (fun _ _ _ _ _ => pts_nil) (fun _ _ _ _ _ => (pe_call (ok_law_types T) (hr.mono (by decide)) (by rfl) T.g_law_types T.k_law_types.kp T.b_law_types .nil pass0 (pa_cons (pv 0) (pa_cons (pv 2) (pa_cons pe_int pa_nil)))))) pa_nil)))
      (pss_cons (ps_set (i := 4) sc_law_head.nd rfl (.inl rfl) (pe_call (ok_law_types T) (hr.mono (by decide)) (by rfl) T.g_law_types T.k_law_types.kp T.b_law_types .nil pass0 (pa_cons (pv 0) (pa_cons (pv 2) (pa_cons pe_int pa_nil)))))
      (C8.pss_cut (ps_if (pt_cmpR op_eq (pe_call (ok_law_draw T) (hr.mono (by decide)) (by rfl) T.g_law_draw T.k_law_draw.kp T.b_law_draw .nil pass0 (pa_cons (pv 0) (pa_cons pe_int pa_nil))) pe_int (nomark _)) (pss_one (ps_set (i := 4) sc_law_head.nd rfl (.inl rfl) (pe_tup (pa_cons pe_str pa_nil)))) pss_nil)
      (pss_one (ps_ret (pe_tup (pa_cons (pv 1) (pa_cons (pv 3) (pa_cons (pv 4) pa_nil))))))))), ?_⟩
    walk_at "rd"
    refine rdSeq ?_
    walk_at "rd"
    refine i_draw (Mv.refl hB) (by decide) (by decide) fun r H1 r0 r1 _ mv1 => ?_
    obtain ⟨n, rfl⟩ := Int.eq_ofNat_of_zero_le r0
    refine ⟨_, rfl, by omega, by omega, ?_⟩
    rw [Int.toNat_natCast]
    refine i_lcDF (K := K) (walk_range (lo := 0) (n := n)) Kd.d (fun _ k => GoodK kn 0 k) mv1.bag (line5' (by omega)) (fun _ _ => trivial) (fun _ _ _ _ y => y.1) (fun i x H2 Q' hi hy mv qq => ?_) (fun D H2 ks hD mv2 hD2 hl hP => ?_)
    · walk_at "rd"
      have mm := mv1.trans mv
      exact ⟨b, l, kn, 0, rfl, mm.bag, hk.mv hB mm hlb, hlb, hkl, by decide, fun v H3 k mv3 fv gk => qq v H3 k fv gk mv3⟩
    · have mv3 := mv1.trans mv2
      walk_at "rd"
      refine i_tupF hD2 fun p H3 s3 fp => ?_
      have mv4 := mv3.then s3
      refine rdSeq ?_
      walk_at "rd"
      refine ⟨b, l, kn, 0, rfl, mv4.bag, hk.mv hB mv4 hlb, hlb, hkl, by decide, fun v H4 k mv5 fv gk => ?_⟩
      have mv6 := mv4.trans mv5
      have fp := fp.up (.mv mv4.bag mv5)
      refine rdCut (fun σ H' => Mv b H H' ∧ ∃ v k u, Fr K H' v k.d ∧ (GoodK kn 0 k ∨ k = .nothing) ∧ Fr K H' (.ref p) (.tuple (ks.map Kd.d)) ∧ σ = [some (.ref b), some (.str nm), some (.ref l), some (.ref p), some v, u]) ?_ ?_
      · walk_at "rd"
        refine i_draw mv6 (by decide) (by decide) fun r5 H5 k0 k1 mv7 mv8 => ⟨rfl, ite2 (fun h5 => ?_) (fun h5 => ?_)⟩
        · intro t ht
          exact ⟨mv8.new ht, _, .nothing, .tup (.inl upd_same) (.cons (.str _) .nil), .inr rfl, (fp.up (.mv mv6.bag mv7)).up (.of (same_new ht)), rfl⟩
        · exact ⟨mv8, _, k, fv.up (.mv mv6.bag mv7), .inl gk, fp.up (.mv mv6.bag mv7), rfl⟩
      · rintro σ H5 ⟨mv7, v, k, u, fv, gk, fp, rfl⟩
        walk_at "rd"
        intro t ht
        have sn := same_new (o := .tup [.str nm, .ref p, v]) ht
        refine q _ _ ⟨nm, ks, k⟩ (mv7.new ht) (.tup (.inl upd_same) (.cons (.str _) (.cons (fp.up (.of sn)) (.cons (fv.up (.of sn)) .nil)))) ⟨fun k hk => ?_, gk, by show ks.length ≤ 2; omega⟩ rfl
        obtain ⟨i, hi, rfl⟩ := List.mem_iff_getElem.mp hk
        exact hP i _ (List.getElem?_eq_getElem hi)
def mtRest : List PyData := [.int 1, .tuple [.tuple [.str "const", .int 0], .tuple [.str "throw"]], .tuple []]
def mkMt (k : Nat) (h : Hd) : Mt := ⟨k, h, [], mtRest⟩
def sp_law_method {K : PySem.W.Frag} {mg : Str → Option Value} (_ : Txt K mg) : Sp := fun vs H Q _ => ∃ (l : Addr) (k : Nat) (v : V) (mts : List Mt) (h : Hd), vs = [.ref l, .int k, v] ∧ LsF K H l (mts.map Mt.d) ∧ Fr K H v h.d ∧ mts.length ≤ 100000 ∧
  ∀ w H', Kp [l] H H' → TupK H H' → LsF K H' l ((mts ++ [mkMt k h]).map Mt.d) → Fr K H' w (Rw.mk h mts.length).d → Q w H'
theorem ok_law_method (T : Txt K mg) : FnOk P w K mg base CX0 1 T.f_law_method T.d_law_method ["_law_methods", "_law_k", "_law_head_here"] (sp_law_method T) := by
  refine T.k_law_method.ok sc_law_method (fun vs H Q E h => ?_) (fun cdv A outer s H vs Q E hr h => ?_)
  · obtain ⟨l, k, v, mts, h, rfl, _⟩ := h
    rfl
  · obtain ⟨l, k, v, mts, h, rfl, hl, hv, hz, q⟩ := h
    refine ⟨_, (pss_cons (ps_expr (pe_bmK K PySem.F.plainAttrs_list PySem.F.slot_list_append PySem.F.type_list_append mt_append (pv 0) (pa_cons (pe_op (op_catAK K) (pe_op (op_catAK K) (pe_tup (pa_cons (pv 1) pa_nil)) (pv 2)) (pe_tup (pa_cons (pe_tup pa_nil) (pa_cons pe_int (pa_cons (pe_tup (pa_cons (pe_tup (pa_cons pe_str (pa_cons pe_int pa_nil))) (pa_cons (pe_tup (pa_cons pe_str pa_nil)) pa_nil))) (pa_cons (pe_tup pa_nil) pa_nil)))))) pa_nil)))
      (pss_one (ps_ret (pe_op (op_catAK K) (pv 2) (pe_tup (pa_cons (pe_op op_sub (pe_callB (lenLK K) (by rfl) T.m_len (by decide +kernel) (pa_cons (pv 0) pa_nil)) pe_int) pa_nil)))))), ?_⟩
    walk_at "rd"
    refine rdSeq ?_
    walk_at "rd"
    obtain ⟨us, hl1, fl1⟩ := hl.ex
    have hlen := fl1.len
    rw [List.length_map] at hlen
    refine ⟨.inl ⟨rfl, _, sqL_of hl1⟩, fun p hp => ?_⟩
    have s0 := same_new (o := .tup [.int (k : Nat)]) hp
    have f0 : Fr K (upd H p (.tup [.int (k : Nat)])) (.ref p) (.tuple [.int k]) := .tup (.inl upd_same) (.cons (.int _) .nil)
    generalize upd H p (.tup [.int (k : Nat)]) = H0 at *
    refine i_catF f0 (hv.up (.of s0)) (by show 1 + 3 ≤ _; exact line5 (by decide)) fun x H1 s1 fx => ?_
    have s01 := s0.trans s1
    intro p1 hp1
    have t1 := same_new (o := .tup []) hp1
    have f1 : Fr K (upd H1 p1 (.tup [])) (.ref p1) (.tuple []) := .tup (.inl upd_same) .nil
    generalize upd H1 p1 (.tup []) = G1 at *
    intro p2 hp2
    have t2 := same_new (o := .tup [.str (Str.ofString "const"), .int 0]) hp2
    have f2 : Fr K (upd G1 p2 (.tup [.str (Str.ofString "const"), .int 0])) (.ref p2) (.tuple [.str "const", .int 0]) := .tup (.inl upd_same) (.cons (.str _) (.cons (.int _) .nil))
    generalize upd G1 p2 (.tup [.str (Str.ofString "const"), .int 0]) = G2 at *
    intro p3 hp3
    have t3 := same_new (o := .tup [.str (Str.ofString "throw")]) hp3
    have f3 : Fr K (upd G2 p3 (.tup [.str (Str.ofString "throw")])) (.ref p3) (.tuple [.str "throw"]) := .tup (.inl upd_same) (.cons (.str _) .nil)
    generalize upd G2 p3 (.tup [.str (Str.ofString "throw")]) = G3 at *
    intro p4 hp4
    have t4 := same_new (o := .tup [.ref p2, .ref p3]) hp4
    have f4 : Fr K (upd G3 p4 (.tup [.ref p2, .ref p3])) (.ref p4) (.tuple [.tuple [.str "const", .int 0], .tuple [.str "throw"]]) := .tup (.inl upd_same) (.cons ((f2.up (.of t3)).up (.of t4)) (.cons (f3.up (.of t4)) .nil))
    generalize upd G3 p4 (.tup [.ref p2, .ref p3]) = G4 at *
    intro p5 hp5
    have t5 := same_new (o := .tup []) hp5
    have f5 : Fr K (upd G4 p5 (.tup [])) (.ref p5) (.tuple []) := .tup (.inl upd_same) .nil
    generalize upd G4 p5 (.tup []) = G5 at *
    intro p6 hp6
    have t6 := same_new (o := .tup [.ref p1, .int 1, .ref p4, .ref p5]) hp6
    have t26 := (t2.trans (t3.trans (t4.trans (t5.trans t6))))
    have f6 : Fr K (upd G5 p6 (.tup [.ref p1, .int 1, .ref p4, .ref p5])) (.ref p6) (.tuple (.tuple [] :: mtRest)) := .tup (.inl upd_same) (.cons (f1.up (.of t26)) (.cons (.int _) (.cons (f4.up (.of (t5.trans t6))) (.cons (f5.up (.of t6)) .nil))))
    generalize upd G5 p6 (.tup [.ref p1, .int 1, .ref p4, .ref p5]) = G6 at *
    have t16 := t1.trans t26
    refine i_catF (fx.up (.of t16)) f6 (by show 4 + 4 ≤ _; exact line5 (by decide)) fun y H2 s2 fy => ?_
    have sA := s01.trans (t16.trans s2)
    have hl2 := sA _ _ hl1
    have tk : TupK H2 (upd H2 l (.lst (us ++ [y]))) := TupK.mut hl2 (fun _ h => nomatch h)
    refine i_app hl2 (line5' (by omega)) (i_lenL (sqL_of upd_same) ⟨_, rfl, fun p7 hp7 => ?_⟩)
    have hlA : LsF K (upd H2 l (.lst (us ++ [y]))) l ((mts ++ [mkMt k h]).map Mt.d) := ⟨_, upd_same, by
      rw [List.map_append]
      exact (fl1.up ((TupK.of sA).trans tk)).app (.cons (fy.up tk) .nil)⟩
    have kpA : Kp [l] H (upd H2 l (.lst (us ++ [y]))) := (Kp.of sA).trans (Kp.set (by simp))
    have tkA := (TupK.of sA).trans tk
    have hn7 : ((us ++ [y]).length : Int) - 1 = (mts.length : Nat) := by rw [List.length_append]; simp; omega
    rw [hn7] at *
    have s7 := same_new (o := .tup [.int (mts.length : Nat)]) hp7
    have f7 : Fr K (upd (upd H2 l (.lst (us ++ [y]))) p7 (.tup [.int (mts.length : Nat)])) (.ref p7) (.tuple [.int (mts.length : Nat)]) := .tup (.inl upd_same) (.cons (.int _) .nil)
    refine i_catF ((hv.up tkA).up (.of s7)) f7 (by show 3 + 1 ≤ _; exact line5 (by decide)) fun w H3 s3 fw => ?_
    have s73 := s7.trans s3
    exact q w H3 (kpA.trans (Kp.of s73)) (tkA.trans (.of s73)) (hlA.same s73) fw
/-! ### tables -/
/-- the bag at b and the list at lm may change -/
structure Ms2 (b lm : Addr) (H H' : Hp) : Prop where
  bag : Bag H' b
  kp : Kp [b, lm] H H'
  tk : TupK H H'
theorem Ms2.refl {b lm : Addr} {H : Hp} (h : Bag H b) : Ms2 b lm H H := ⟨h, Kp.refl _ _, TupK.refl _⟩
theorem Ms2.trans {b lm : Addr} {H H1 H2 : Hp} (x : Ms2 b lm H H1) (y : Ms2 b lm H1 H2) : Ms2 b lm H H2 := ⟨y.bag, x.kp.trans y.kp, x.tk.trans y.tk⟩
theorem Ms2.mv {b lm : Addr} {H H1 H2 : Hp} (x : Ms2 b lm H H1) (m : Mv b H1 H2) : Ms2 b lm H H2 :=
  x.trans ⟨m.bag, fun c o hc e => m.old c o (fun q => hc (by rw [q]; simp)) e, .mv x.bag m⟩
theorem bag_same {b : Addr} {H H' : Hp} (h : Bag H b) (s : Same H H') : Bag H' b := by
  obtain ⟨b1, b2, b3, hb⟩ := h
  exact ⟨b1, b2, b3, s _ _ hb⟩
theorem Ms2.same {b lm : Addr} {H H1 H2 : Hp} (x : Ms2 b lm H H1) (s : Same H1 H2) : Ms2 b lm H H2 := x.trans ⟨bag_same x.bag s, Kp.of s, .of s⟩
theorem Ms2.setm {b lm : Addr} {H H1 H2 : Hp} (x : Ms2 b lm H H1) (n : lm ≠ b) (k : Kp [lm] H1 H2) (t : TupK H1 H2) : Ms2 b lm H H2 := by
  refine x.trans ⟨?_, k.mono (by simp), t⟩
  obtain ⟨b1, b2, b3, hb⟩ := x.bag
  exact ⟨b1, b2, b3, k _ _ (by simpa using n.symm) hb⟩
/-- a list of its own is set -/
theorem Ms2.own {b lm D : Addr} {H H1 : Hp} {o u : HO} (x : Ms2 b lm H H1) (hD : H D = none) (h1 : H1 D = some u) (nt : ∀ xs, u ≠ .tup xs) (n : D ≠ b) : Ms2 b lm H (upd H1 D o) := by
  refine ⟨?_, fun c w hc e => ?_, x.tk.trans (TupK.mut h1 nt)⟩
  · obtain ⟨b1, b2, b3, hb⟩ := x.bag
    exact ⟨b1, b2, b3, by rw [upd_ne n.symm]; exact hb⟩
  · rw [upd_ne (ne_of_none e hD)]; exact x.kp c w hc e
theorem LsF.ms {K : PySem.W.Frag} {b lm : Addr} {H H' : Hp} {l : Addr} {ds : List PyData} (h : LsF K H l ds) (m : Ms2 b lm H H') (n1 : l ≠ b) (n2 : l ≠ lm) : LsF K H' l ds := by
  obtain ⟨vs, h1, h2⟩ := h.ex
  exact ⟨vs, m.kp _ _ (by simp [n1, n2]) h1, h2.up m.tk⟩
theorem LsF.kpm {K : PySem.W.Frag} {lm : Addr} {H H' : Hp} {l : Addr} {ds : List PyData} (h : LsF K H l ds) (k : Kp [lm] H H') (t : TupK H H') (n : l ≠ lm) : LsF K H' l ds := by
  obtain ⟨vs, h1, h2⟩ := h.ex
  exact ⟨vs, k _ _ (by simpa using n) h1, h2.up t⟩
theorem LsF.set {K : PySem.W.Frag} {D : Addr} {H : Hp} {l : Addr} {ds : List PyData} {o u : HO} (h : LsF K H l ds) (hD : H D = some u) (nt : ∀ xs, u ≠ .tup xs) (n : l ≠ D) : LsF K (upd H D o) l ds := by
  obtain ⟨vs, h1, h2⟩ := h.ex
  exact ⟨vs, by rw [upd_ne n]; exact h1, h2.up (TupK.mut hD nt)⟩
theorem LsF.app {K : PySem.W.Frag} {H : Hp} {l : Addr} {ds : List PyData} {v : V} {d : PyData} {Q : VK} (h : LsF K H l ds) (hv : Fr K H v d) (hz : ds.length < sizeLine) (q : ∀ o, (∃ vs, H l = some (.lst vs)) → LsF K (upd H l o) l (ds ++ [d]) → Q .non (upd H l o)) : rAppend (.ref l) [v] H Q := by
  obtain ⟨vs, h1, h2⟩ := h.ex
  have tk : TupK H (upd H l (.lst (vs ++ [v]))) := TupK.mut h1 (fun _ h => nomatch h)
  exact i_app h1 (by rw [h2.len]; exact hz) (q _ ⟨vs, h1⟩ ⟨_, upd_same, (h2.up tk).app (.cons (hv.up tk) .nil)⟩)
theorem FrL.strs {K : PySem.W.Frag} {H : Hp} : ∀ {vs : List V} {ns : List Str}, FrL K H vs (ns.map .str) → vs = ns.map V.str
  | [], [], _ => rfl
  | v :: vs, n :: ns, .cons h t => by rw [h.strI, FrL.strs t]; rfl
theorem FrL.ofStrs {K : PySem.W.Frag} {H : Hp} : ∀ {ns : List Str}, FrL K H (ns.map V.str) (ns.map .str)
  | [] => .nil
  | n :: ns => .cons (.str n) FrL.ofStrs
theorem inV_strs {n : Str} : ∀ {ns : List Str}, inV (.str n) (ns.map V.str) = decide (n ∈ ns)
  | [] => rfl
  | m :: ns => by
    have ih := inV_strs (n := n) (ns := ns)
    show ((m == n) || inV (.str n) (ns.map V.str)) = _
    rw [ih]
    by_cases e : m = n
    · subst e; simp
    · rw [beq_eq_false_iff_ne.mpr e]
      by_cases h : n ∈ ns <;> simp [h, Ne.symm e]
theorem strs_flat {ns : List Str} : (ns.map V.str).all flatV = true := by
  rw [List.all_eq_true]
  intro v hv
  obtain ⟨_, _, rfl⟩ := List.mem_map.mp hv
  rfl
theorem log_s {j : Int} (h : j.natAbs < 2 ^ 200) : j.natAbs.log2 < 1920 := by
  by_cases h0 : j.natAbs = 0
  · rw [h0]; decide
  · have := (Nat.log2_lt h0).mpr h
    omega
theorem num4 {n : Nat} (h : n ≤ 1000) : (Str.ofString (toString (n : Int))).length ≤ 4 := by
  have := List.all_eq_true.mp (show ((List.range 1001).all fun n => decide ((Str.ofString (toString ((n : Nat) : Int))).length ≤ 4)) = true by decide +kernel) n (List.mem_range.mpr (by omega))
  exact of_decide_eq_true this
def ownN (k j : Nat) : Str := Str.ofString "own" ++ Str.ofString (toString (k : Int)) ++ Str.ofString "x" ++ Str.ofString (toString (j : Int))
/-- where the heads of a table may come from -/
def TbSrc (kn : List (Str × Str)) (k : Nat) (heads : List Hd) (app : Bool) (h : Hd) : Prop := h ∈ heads ∨ (app = true ∧ (h = madeH ∨ h = procH)) ∨ (GoodH kn h ∧ ∃ j < 2, h.nm = ownN k j)
structure TbOk (kn : List (Str × Str)) (k : Nat) (par : List Rw) (heads : List Hd) (app : Bool) (mts : List Mt) (tb : List Rw) (mts' : List Mt) : Prop where
  pre : (tb.map Rw.h).take par.length = par.map Rw.h
  src : ∀ r ∈ tb, r.h ∈ par.map Rw.h ∨ TbSrc kn k heads app r.h
  has : ∀ h, (h ∈ heads ∨ (app = true ∧ (h = madeH ∨ h = procH))) → ∃ r ∈ tb, r.h.nm = h.nm
  len : tb.length ≤ par.length + heads.length + 4
  mt : ∀ t ∈ mts', t ∈ mts ∨ ∃ r ∈ tb, t = mkMt k r.h
  ml : mts'.length ≤ mts.length + tb.length
def sp_law_table {K : PySem.W.Frag} {mg : Str → Option Value} (_ : Txt K mg) : Sp := fun vs H Q _ => ∃ (b : Addr) (k : Nat) (pv : V) (par : List Rw) (lh : Addr) (heads : List Hd) (lm : Addr) (mts : List Mt) (app : Bool) (lk : Addr) (kn : List (Str × Str)),
  vs = [.ref b, .int k, pv, .ref lh, .ref lm, .bl app, .ref lk] ∧ Bag H b ∧ Fr K H pv (.tuple (par.map Rw.d)) ∧ LsF K H lh (heads.map Hd.d) ∧ LsF K H lm (mts.map Mt.d) ∧ LsF K H lk (kn.map pfD) ∧ lh ≠ b ∧ lm ≠ b ∧ lk ≠ b ∧ lh ≠ lm ∧ lk ≠ lm ∧ lh ≠ lk ∧
  par.length ≤ 500 ∧ heads.length ≤ 400 ∧ mts.length ≤ 10000 ∧ kn.length ≤ 1000 ∧ k ≤ 100 ∧
  ∀ w H' tb mts', Ms2 b lm H H' → Fr K H' w (.tuple (tb.map Rw.d)) → LsF K H' lm (mts'.map Mt.d) → TbOk kn k par heads app mts tb mts' → Q w H'
theorem ok_law_table (T : Txt K mg) : FnOk P w K mg base CX0 4 T.f_law_table T.d_law_table ["_law_bag_here", "_law_k", "_law_parent", "_law_heads", "_law_methods", "_law_applet", "_law_known_here"] (sp_law_table T) := by
  refine T.k_law_table.ok sc_law_table (fun vs H Q E h => ?_) (fun cdv A outer s H vs Q E hr h => ?_)
  · obtain ⟨b, k, pv, par, lh, heads, lm, mts, app, lk, kn, rfl, _⟩ := h
    rfl
  · obtain ⟨b, k, pv, par, lh, heads, lm, mts, app, lk, kn, rfl, hB, hp, hh, hm, hk, n1, n2, n3, n4, n5, n6, z1, z2, z3, z4, z5, q⟩ := h
    obtain ⟨pt, pxs, rfl, psq, pfl⟩ := hp.inv
    have plen := pfl.len
    rw [List.length_map] at plen
    refine ⟨_, (pss_cons (ps_set (i := 7) sc_law_table.nd rfl (.inl rfl) (pe_lst pa_nil))
      (pss_cons (ps_for PassesOwn.never rfl (pi_tup (pv 2)) (pg_name (i := 8) sc_law_table.nd rfl (Or.inl rfl)) (C8.pss_cut (ps_if (pt_cmpR op_eq (pe_call (ok_law_draw T) (hr.mono (by decide)) (by rfl) T.g_law_draw T.k_law_draw.kp T.b_law_draw .nil pass0 (pa_cons (pv 0) (pa_cons pe_int pa_nil))) pe_int (nomark _)) (pss_one (ps_set (i := 8) sc_law_table.nd rfl (.inl rfl) (pe_call (ok_law_method T) (hr.mono (by decide)) (by rfl) T.g_law_method T.k_law_method.kp T.b_law_method .nil pass0 (pa_cons (pv 4) (pa_cons (pv 1) (pa_cons (pe_slice (sl_tupAK K) (pv 8) po_none (po_some pe_int)) pa_nil)))))) pss_nil)
      (pss_one (ps_expr (pe_bmK K PySem.F.plainAttrs_list PySem.F.slot_list_append PySem.F.type_list_append mt_append (pv 7) (pa_cons (pv 8) pa_nil))))))
      (pss_cons (ps_setLc (i := 9) (own := [("_law_row", 8)]) (g := gName 8) (tt := tYes) rfl sc_law_table.nd rfl rfl (sw_true rfl rfl rfl (by decide +kernel)) (pi_list (pv 7)) (blkOk_by (own := [("_law_row", 8)]) (N := ["_law_bag_here", "_law_k", "_law_parent", "_law_heads", "_law_methods", "_law_applet", "_law_known_here", "_law_table_here", "_law_row", "_law_names", "_law_j", "_law_head_here"]) (sc := defScope s_law_table) (by decide +kernel)) (fun _ _ _ _ _ => pg_name (i := 8) sc_law_table.nd rfl (Or.inl rfl)) (fun _ _ _ _ _ => pts_nil) (fun _ _ _ _ _ => (pe_ix (ix_tupK K) (pv 8) pe_int (fun _ _ => rfl))))
      (C8.pss_cut (ps_if (pt_val (pv 5)) (pss_one (ps_set (i := 3) sc_law_table.nd rfl (.inl rfl) (pe_op op_cat (pv 3) (pe_lst (pa_cons (pe_tup (pa_cons pe_str (pa_cons (pe_tup (pa_cons (pe_tup (pa_cons pe_str pa_nil)) pa_nil)) (pa_cons (pe_tup (pa_cons pe_str pa_nil)) pa_nil)))) (pa_cons (pe_tup (pa_cons pe_str (pa_cons (pe_tup (pa_cons (pe_tup (pa_cons pe_str pa_nil)) pa_nil)) (pa_cons (pe_tup (pa_cons pe_str pa_nil)) pa_nil)))) pa_nil)))))) pss_nil)
      (pss_cons (ps_for PassesOwn.never rfl (pi_range1 (by rfl) T.m_range (pa_cons (pe_call (ok_law_draw T) (hr.mono (by decide)) (by rfl) T.g_law_draw T.k_law_draw.kp T.b_law_draw .nil pass0 (pa_cons (pv 0) (pa_cons pe_int pa_nil))) pa_nil)) (pg_name (i := 10) sc_law_table.nd rfl (Or.inl rfl)) (pss_one (ps_set (i := 3) sc_law_table.nd rfl (.inl rfl) (pe_op op_cat (pv 3) (pe_lst (pa_cons (pe_call (ok_law_head T) (hr.mono (by decide)) (by rfl) T.g_law_head T.k_law_head.kp T.b_law_head .nil pass0 (pa_cons (pv 0) (pa_cons (pe_op op_add_str (pe_op op_add_str (pe_op op_add_str pe_str (pe_callTy call_str_int (by rfl) T.m_str (by decide +kernel) (pa_cons (pv 1) pa_nil))) pe_str) (pe_callTy call_str_int (by rfl) T.m_str (by decide +kernel) (pa_cons (pv 10) pa_nil))) (pa_cons (pv 6) pa_nil)))) pa_nil))))))
      (pss_cons (ps_for PassesOwn.never rfl (pi_list (pv 3)) (pg_name (i := 11) sc_law_table.nd rfl (Or.inl rfl)) (pss_one (ps_if (pt_cmpR (notIn_seqK K) (pe_ix (ix_tupK K) (pv 11) pe_int (fun _ _ => rfl)) (pv 9) rfl) (pss_cons (ps_expr (pe_bmK K PySem.F.plainAttrs_list PySem.F.slot_list_append PySem.F.type_list_append mt_append (pv 7) (pa_cons (pe_call (ok_law_method T) (hr.mono (by decide)) (by rfl) T.g_law_method T.k_law_method.kp T.b_law_method .nil pass0 (pa_cons (pv 4) (pa_cons (pv 1) (pa_cons (pv 11) pa_nil)))) pa_nil)))
      (pss_one (ps_expr (pe_bmK K PySem.F.plainAttrs_list PySem.F.slot_list_append PySem.F.type_list_append mt_append (pv 9) (pa_cons (pe_ix (ix_tupK K) (pv 11) pe_int (fun _ _ => rfl)) pa_nil))))) pss_nil)))
      (pss_one (ps_ret (pe_callTy call_tuple_of (by rfl) T.m_tuple (by decide +kernel) (pa_cons (pv 7) pa_nil)))))))))), ?_⟩
    walk_at "rd"
    refine rdSeq ?_
    walk_at "rd"
    intro D hD
    have nDb := bag_ne hB hD
    have nDm : D ≠ lm := by
      obtain ⟨_, h1, _⟩ := hm.ex
      exact fun e => by rw [e, h1] at hD; cases hD
    refine rdSeq ?_
    walk_at "rd"
    refine ⟨⟨_, (psq.up (.of (same_new hD))).sq⟩, ?_⟩
    refine i_for (walk_tup (K := K) (a := pt) (xs := pxs)) (fun i σ' H' => Ms2 b lm H H' ∧ ∃ (rows : List Rw) (ms : List Mt) (u : Option V), LsF K H' D (rows.map Rw.d) ∧ LsF K H' lm (ms.map Mt.d) ∧ rows.map Rw.h = (par.take i).map Rw.h ∧ (∀ t ∈ ms, t ∈ mts ∨ ∃ r ∈ rows, t = mkMt k r.h) ∧ ms.length ≤ mts.length + i ∧
      σ' = [some (.ref b), some (.int k), some (.ref pt), some (.ref lh), some (.ref lm), some (.bl app), some (.ref lk), some (.ref D), u, none, none, none]) ⟨(Ms2.refl hB).same (same_new hD), [], mts, none, ⟨[], upd_same, .nil⟩, hm.same (same_new hD), rfl, fun t ht => .inl ht, by omega, rfl⟩ (fun i σ' H' _ h => (psq.up h.1.tk).sq) ?_ ?_
    · rintro i x σ' H1 H2 hi ⟨m1, rows, ms, u, hD1, hm1, er, mt1, ml1, rfl⟩ ⟨rfl, hx⟩
      have hi2 : i < par.length := by omega
      obtain ⟨dd, hd, fx⟩ := pfl.getV hx
      rw [List.getElem?_map, List.getElem?_eq_getElem hi2] at hd
      cases hd
      have fx := fx.up m1.tk
      have lrows : rows.length = i := by
        have := congrArg List.length er
        rw [List.length_map, List.length_map, List.length_take] at this
        omega
      refine rdCut (fun σ' H' => Ms2 b lm H H' ∧ ∃ (r : Rw) (w : V) (ms' : List Mt), LsF K H' D (rows.map Rw.d) ∧ LsF K H' lm (ms'.map Mt.d) ∧ Fr K H' w r.d ∧ r.h = par[i].h ∧ (∀ t ∈ ms', t ∈ ms ∨ t = mkMt k r.h) ∧ ms'.length ≤ ms.length + 1 ∧
        σ' = [some (.ref b), some (.int k), some (.ref pt), some (.ref lh), some (.ref lm), some (.bl app), some (.ref lk), some (.ref D), some w, none, none, none]) ?_ ?_
      · walk_at "rd"
        refine i_draw (Mv.refl m1.bag) (by decide) (by decide) fun r H3 r0 r1 mv _ => ⟨rfl, ite2 (fun h => ?_) (fun h => ?_)⟩
        · have fx3 := fx.up (.mv m1.bag mv)
          refine i_frontF (n := 3) fx3 (by simp [Hd.ds]) fun y H4 s4 fy => ?_
          rw [rw_take] at fy
          have m4 := (m1.mv mv).same s4
          refine ⟨lm, k, y, ms, par[i].h, rfl, (hm1.mv m1.bag mv n2).same s4, fy, by omega, fun w H5 kp tk hl fw => ?_⟩
          have hD5 : LsF K H5 D (rows.map Rw.d) := ((hD1.mv m1.bag mv nDb).same s4).kpm kp tk nDm
          exact ⟨m4.setm n2 kp tk, hD5, ⟨par[i].h, ms.length⟩, w, ms ++ [mkMt k par[i].h], hl, fw, rfl, fun t ht => (List.mem_append.mp ht).imp id fun e => List.mem_singleton.mp e, by simp, rfl⟩
        · exact ⟨m1.mv mv, hD1.mv m1.bag mv nDb, par[i], x, ms, hm1.mv m1.bag mv n2, fx.up (.mv m1.bag mv), rfl, fun t ht => .inl ht, by omega, rfl⟩
      · rintro σ' H3 ⟨m3, r, w, ms', hD3, hm3, fw, eh, mt3, ml3, rfl⟩
        walk_at "rd"
        obtain ⟨dvs, hdv, _⟩ := hD3.ex
        refine ⟨.inl ⟨rfl, _, sqL_of hdv⟩, hD3.app fw (by rw [List.length_map]; exact line5' (by omega)) fun o _ hD' => ?_⟩
        refine ⟨m3.own hD hdv (fun _ h => nomatch h) nDb, rows ++ [r], by rw [List.map_append]; exact hD', ms', hm3.set hdv (fun _ h => nomatch h) nDm.symm, ?_, fun t ht => ?_, by omega⟩
        · rw [List.map_append, er, List.take_add_one, List.getElem?_eq_getElem hi2, List.map_append, List.map_singleton, eh]; rfl
        · rcases mt3 t ht with h | h
          · rcases mt1 t h with h | ⟨r2, hr2, e2⟩
            · exact .inl h
            · exact .inr ⟨r2, List.mem_append_left _ hr2, e2⟩
          · exact .inr ⟨r, by simp, h⟩
    · rintro σ' H1 ⟨m1, rows, ms, u, hD1, hm1, er, mt1, ml1, rfl⟩
      rw [plen, List.take_length] at er
      have lrows : rows.length = par.length := by
        have := congrArg List.length er
        rwa [List.length_map, List.length_map] at this
      dsimp only
      refine rdSeq ?_
      walk_at "rd"
      obtain ⟨dvs, hdv, fdv⟩ := hD1.ex
      have dlen := fdv.len
      rw [List.length_map] at dlen
      refine ⟨⟨_, sqL_of hdv⟩, ?_⟩
      refine i_lcFr (K := K) (walk_list (K := K) (a := D) (xs := dvs)) ((rows.map fun r => r.h.nm).map .str) (by simp [dlen]) (line5' (by omega)) (fun H' s' => sqL_of (s' _ _ hdv)) (fun _ _ _ _ y => y.1) (fun i x H2 Q' dd hdd s2 hy qq => ?_) (fun N H2 ys hN s2 hN2 fN => ?_)
      · obtain ⟨_, hx⟩ := hy
        have hi : i < rows.length := by rw [← dlen]; exact (List.getElem?_eq_some_iff.mp hx).1
        obtain ⟨d2, hd2, fx⟩ := fdv.getV hx
        rw [List.getElem?_map, List.getElem?_eq_getElem hi] at hd2
        cases hd2
        rw [List.map_map, List.getElem?_map, List.getElem?_eq_getElem hi] at hdd
        cases hdd
        walk_at "rd"
        exact i_ixFs (i := 0) (fx.up (.of s2)) rfl (qq _ _ (Same.refl _) (.str _))
      have hNe := fN.strs
      subst hNe
      have m2 := m1.same s2
      have hD2 := hD1.same s2
      have hm2 := hm1.same s2
      have nNb : N ≠ b := fun e => by
        obtain ⟨b1, b2, b3, hb⟩ := m1.bag
        rw [e, hb] at hN; cases hN
      have nND : N ≠ D := fun e => by rw [e, hdv] at hN; cases hN
      have nNm : N ≠ lm := fun e => by
        obtain ⟨_, h1, _⟩ := hm1.ex
        rw [e, h1] at hN; cases hN
      have hN0 : H N = none := by
        cases e : H N with
        | none => rfl
        | some o =>
          have : N ∉ [b, lm] := by simp [nNb, nNm]
          rw [m1.kp N o this e] at hN; cases hN
      have nlhD : lh ≠ D := fun e => by
        obtain ⟨_, h1, _⟩ := hh.ex
        rw [← e, h1] at hD; cases hD
      have nlhN : lh ≠ N := fun e => by
        obtain ⟨_, h1, _⟩ := hh.ex
        rw [← e, h1] at hN0; cases hN0
      have nlkD : lk ≠ D := fun e => by
        obtain ⟨_, h1, _⟩ := hk.ex
        rw [← e, h1] at hD; cases hD
      have nlkN : lk ≠ N := fun e => by
        obtain ⟨_, h1, _⟩ := hk.ex
        rw [← e, h1] at hN0; cases hN0
      have hh2 := hh.ms m2 n1 n4
      refine rdCut (fun σ' H' => Ms2 b lm H H' ∧ LsF K H' D (rows.map Rw.d) ∧ LsF K H' lm (ms.map Mt.d) ∧ H' N = some (.lst ((rows.map fun r => r.h.nm).map .str)) ∧ ∃ (l : Addr) (u : Option V), LsF K H' l ((heads ++ (if app = true then [madeH, procH] else [])).map Hd.d) ∧ l ≠ b ∧ l ≠ lm ∧ l ≠ D ∧ l ≠ N ∧
        σ' = [some (.ref b), some (.int k), some (.ref pt), some (.ref l), some (.ref lm), some (.bl app), some (.ref lk), some (.ref D), u, some (.ref N), none, none]) ?_ ?_
      · walk_at "rd"
        cases app with
        | false =>
          exact ⟨m2, hD2, hm2, hN2, lh, by simpa using hh2, n1, n4, nlhD, nlhN, rfl⟩
        | true =>
          rw [if_pos rfl]
          have mk : ∀ {G : Hp} {p : Addr} {xs : List V} {ds : List PyData} (hp : G p = none), FrL K G xs ds → Same G (upd G p (.tup xs)) ∧ Fr K (upd G p (.tup xs)) (.ref p) (.tuple ds) := fun hp fl => ⟨same_new hp, .tup (.inl upd_same) (fl.up (.of (same_new hp)))⟩
          intro p0 hp0
          obtain ⟨t0, g0⟩ := mk (xs := [.str (Str.ofString "int")]) (ds := [.str "int"]) hp0 (.cons (.str _) .nil)
          generalize upd H2 p0 (.tup [.str (Str.ofString "int")]) = G0 at *
          intro p1 hp1
          obtain ⟨t1, g1⟩ := mk (xs := [.ref p0]) (ds := [Kd.int.d]) hp1 (.cons g0 .nil)
          generalize upd G0 p1 (.tup [.ref p0]) = G1 at *
          intro p2 hp2
          obtain ⟨t2, g2⟩ := mk (xs := [.str (Str.ofString "nothing")]) (ds := [.str "nothing"]) hp2 (.cons (.str _) .nil)
          generalize upd G1 p2 (.tup [.str (Str.ofString "nothing")]) = G2 at *
          intro p3 hp3
          obtain ⟨t3, g3⟩ := mk (xs := [.str (Str.ofString "made"), .ref p1, .ref p2]) (ds := madeH.ds) hp3 (.cons (.str _) (.cons (g1.up (.of t2)) (.cons g2 .nil)))
          generalize upd G2 p3 (.tup [.str (Str.ofString "made"), .ref p1, .ref p2]) = G3 at *
          intro p4 hp4
          obtain ⟨t4, g4⟩ := mk (xs := [.str (Str.ofString "int")]) (ds := [.str "int"]) hp4 (.cons (.str _) .nil)
          generalize upd G3 p4 (.tup [.str (Str.ofString "int")]) = G4 at *
          intro p5 hp5
          obtain ⟨t5, g5⟩ := mk (xs := [.ref p4]) (ds := [Kd.int.d]) hp5 (.cons g4 .nil)
          generalize upd G4 p5 (.tup [.ref p4]) = G5 at *
          intro p6 hp6
          obtain ⟨t6, g6⟩ := mk (xs := [.str (Str.ofString "int")]) (ds := [.str "int"]) hp6 (.cons (.str _) .nil)
          generalize upd G5 p6 (.tup [.str (Str.ofString "int")]) = G6 at *
          intro p7 hp7
          obtain ⟨t7, g7⟩ := mk (xs := [.str (Str.ofString "process"), .ref p5, .ref p6]) (ds := procH.ds) hp7 (.cons (.str _) (.cons (g5.up (.of t6)) (.cons g6 .nil)))
          generalize upd G6 p7 (.tup [.str (Str.ofString "process"), .ref p5, .ref p6]) = G7 at *
          intro p8 hp8
          have t8 := same_new (o := .lst [.ref p3, .ref p7]) hp8
          have s07 := t0.trans (t1.trans (t2.trans (t3.trans (t4.trans (t5.trans (t6.trans t7))))))
          have s08 := s07.trans t8
          have hh8 := hh2.same s08
          obtain ⟨hv8, hhv8, fh8⟩ := hh8.ex
          have lh8 := fh8.len
          rw [List.length_map] at lh8
          refine i_cat hhv8 upd_same (by show hv8.length + 2 ≤ _; exact line5 (by omega)) fun p9 hp9 => ?_
          have t9 := same_new (o := .lst (hv8 ++ [.ref p3, .ref p7])) hp9
          have s09 := s08.trans t9
          have m9 := m2.same s09
          have ne9 : ∀ {c : Addr} {o : HO}, upd G7 p8 (.lst [.ref p3, .ref p7]) c = some o → p9 ≠ c := fun e q => by rw [q, e] at hp9; cases hp9
          obtain ⟨b1, b2, b3, hb9⟩ := bag_same m2.bag s08
          obtain ⟨_, hlm9, _⟩ := (hm2.same s08).ex
          obtain ⟨_, hD9, _⟩ := (hD2.same s08).ex
          refine ⟨m9, hD2.same s09, hm2.same s09, s09 _ _ hN2, p9, ⟨_, upd_same, ?_⟩, ne9 hb9, ne9 hlm9, ne9 hD9, ne9 (s08 _ _ hN2), rfl⟩
          rw [List.map_append]
          have s39 := t4.trans (t5.trans (t6.trans (t7.trans (t8.trans t9))))
          exact (fh8.up (.of t9)).app (.cons (g3.up (.of s39)) (.cons ((g7.up (.of t8)).up (.of t9)) .nil))
      rintro σ' H3 ⟨m3, hD3, hm3, hN3, l, u3, hl3, nl1, nl2, nl3, nl4, rfl⟩
      refine rdSeq ?_
      walk_at "rd"
      refine i_draw (Mv.refl m3.bag) (by decide) (by decide) fun r H4 r0 r1 mv _ => ?_
      obtain ⟨n, rfl⟩ := Int.eq_ofNat_of_zero_le r0
      refine ⟨_, rfl, by omega, by omega, ?_⟩
      rw [Int.toNat_natCast]
      generalize hbase : heads ++ (if app = true then [madeH, procH] else []) = base at *
      have lbase : base.length ≤ heads.length + 2 := by
        rw [← hbase, List.length_append]
        split <;> simp
      refine i_for (walk_range (lo := 0) (n := n)) (fun i σ' H' => Ms2 b lm H H' ∧ LsF K H' D (rows.map Rw.d) ∧ LsF K H' lm (ms.map Mt.d) ∧ H' N = some (.lst ((rows.map fun r => r.h.nm).map .str)) ∧ ∃ (l : Addr) (u w : Option V) (own : List Hd), LsF K H' l ((base ++ own).map Hd.d) ∧ l ≠ b ∧ l ≠ lm ∧ l ≠ D ∧ l ≠ N ∧ own.length = i ∧ (∀ h ∈ own, GoodH kn h ∧ ∃ j < 2, h.nm = ownN k j) ∧
        σ' = [some (.ref b), some (.int k), some (.ref pt), some (.ref l), some (.ref lm), some (.bl app), some (.ref lk), some (.ref D), u, some (.ref N), w, none])
        ⟨m3.mv mv, hD3.mv m3.bag mv nDb, hm3.mv m3.bag mv n2, mv.old _ _ nNb hN3, l, _, _, [], by rw [List.append_nil]; exact hl3.mv m3.bag mv nl1, nl1, nl2, nl3, nl4, rfl, (fun _ h => by cases h), rfl⟩ (fun _ _ _ _ _ => trivial) ?_ ?_
      · rintro i x σ' H5 H6 hi ⟨m5, hD5, hm5, hN5, l5, u5, w5, own, hl5, nl1, nl2, nl3, nl4, lo, go, rfl⟩ ⟨rfl, rfl⟩
        walk_at "rd"
        have lk4 : (Str.ofString (toString (k : Int))).length ≤ 4 := num4 (by omega)
        have li4 : (Str.ofString (toString (i : Int))).length ≤ 4 := num4 (by omega)
        have l3 : (Str.ofString "own").length = 3 := by decide +kernel
        have l1 : (Str.ofString "x").length = 1 := by decide +kernel
        rw [Int.zero_add]
        have hkk : LsF K H6 lk (kn.map pfD) := hk.ms m5 n3 n5
        refine ⟨log_s (by omega), by omega, by rw [len_append]; omega, log_s (by omega), by rw [len_append, len_append]; omega, b, lk, _, kn, rfl, m5.bag, hkk, n3, z4, fun v H7 h mv7 fv gh en p hp => ?_⟩
        have m7 := m5.mv mv7
        have hl7 := (hl5.mv m5.bag mv7 nl1).same (same_new (o := .lst [v]) hp)
        obtain ⟨lv7, hlv7, fl7⟩ := hl7.ex
        have ll7 := fl7.len
        rw [List.length_map, List.length_append] at ll7
        refine i_cat hlv7 upd_same (by show lv7.length + 1 ≤ _; exact line5 (by omega)) fun p9 hp9 => ?_
        have t8 := same_new (o := .lst [v]) hp
        have t9 := same_new (o := .lst (lv7 ++ [v])) hp9
        have s79 := t8.trans t9
        have m9 := m7.same s79
        have ne9 : ∀ {c : Addr} {o : HO}, upd H7 p (.lst [v]) c = some o → p9 ≠ c := fun e q => by rw [q, e] at hp9; cases hp9
        obtain ⟨b1, b2, b3, hb9⟩ := bag_same m7.bag t8
        have hD7 := hD5.mv m5.bag mv7 nDb
        have hm7 := hm5.mv m5.bag mv7 n2
        have hN7 := mv7.old _ _ nNb hN5
        obtain ⟨_, hlm9, _⟩ := (hm7.same t8).ex
        obtain ⟨_, hD9, _⟩ := (hD7.same t8).ex
        refine ⟨m9, hD7.same s79, hm7.same s79, s79 _ _ hN7, p9, _, _, own ++ [h], ⟨_, upd_same, ?_⟩, ne9 hb9, ne9 hlm9, ne9 hD9, ne9 (t8 _ _ hN7), by simp [lo], fun g hg => ?_, rfl, rfl, rfl⟩
        · rw [← List.append_assoc, List.map_append]
          exact (fl7.up (.of t9)).app (.cons ((fv.up (.of t8)).up (.of t9)) .nil)
        · rcases List.mem_append.mp hg with hg | hg
          · exact go g hg
          · rw [List.mem_singleton.mp hg]
            exact ⟨gh, i, by omega, en⟩
      rintro σ' H5 ⟨m5, hD5, hm5, hN5, l5, u5, w5, own, hl5, nl1, nl2, nl3, nl4, lo, go, rfl⟩
      dsimp only
      refine rdSeq ?_
      walk_at "rd"
      generalize hhs : base ++ own = hs at *
      obtain ⟨lv, hlv, flv⟩ := hl5.ex
      have llv := flv.len
      rw [List.length_map] at llv
      have lhs : hs.length ≤ heads.length + 4 := by rw [← hhs, List.length_append]; omega
      refine ⟨⟨_, sqL_of hlv⟩, ?_⟩
      refine i_for (walk_list (K := K) (a := l5) (xs := lv)) (fun i σ' H' => Ms2 b lm H H' ∧ ∃ (rs : List Rw) (ms' : List Mt) (w : Option V), LsF K H' D (rs.map Rw.d) ∧ LsF K H' lm (ms'.map Mt.d) ∧ H' N = some (.lst ((rs.map fun r => r.h.nm).map .str)) ∧ H' l5 = some (.lst lv) ∧ FrL K H' lv (hs.map Hd.d) ∧ rs.take rows.length = rows ∧
        (∀ r ∈ rs, r ∈ rows ∨ r.h ∈ hs) ∧ (∀ h ∈ hs.take i, ∃ r ∈ rs, r.h.nm = h.nm) ∧ rs.length ≤ rows.length + i ∧ (∀ t ∈ ms', t ∈ mts ∨ ∃ r ∈ rs, t = mkMt k r.h) ∧ ms'.length ≤ mts.length + rs.length ∧
        σ' = [some (.ref b), some (.int k), some (.ref pt), some (.ref l5), some (.ref lm), some (.bl app), some (.ref lk), some (.ref D), u5, some (.ref N), w5, w])
        ⟨m5, rows, ms, none, hD5, hm5, hN5, hlv, flv, List.take_length, fun r hr => .inl hr, by simp, by omega, mt1, by omega, rfl⟩ (fun i σ' H' _ h => by obtain ⟨_, _, _, _, _, _, _, h, _⟩ := h; exact sqL_of h) ?_ ?_
      · rintro i x σ' H6 H7 hi ⟨m6, rs, ms', w, hD6, hm6, hN6, hl6, fl6, et, src, has, lr, mt6, ml6, rfl⟩ ⟨rfl, hx⟩
        have hi2 : i < hs.length := by omega
        obtain ⟨dd, hd, fx⟩ := fl6.getV hx
        rw [List.getElem?_map, List.getElem?_eq_getElem hi2] at hd
        cases hd
        have hmem := List.getElem_mem hi2
        have etk : hs.take (i + 1) = hs.take i ++ [hs[i]] := by rw [List.take_add_one, List.getElem?_eq_getElem hi2]; rfl
        generalize hs[i] = h at *
        walk_at "rd"
        refine i_ixFs (i := 0) fx rfl ⟨N, _, rfl, .inl (sqL_of hN6), rfl, strs_flat, ?_⟩
        rw [inV_strs]
        refine ⟨_, rfl, ite2 (fun hin => ?_) (fun hin => ?_)⟩
        · have lrw : rows.length ≤ 500 := by omega
          obtain ⟨dv6, hdv6, _⟩ := hD6.ex
          refine rdSeq ?_
          walk_at "rd"
          refine ⟨.inl ⟨rfl, _, sqL_of hdv6⟩, lm, k, x, ms', h, rfl, hm6, fx, by omega, fun wv H8 kp8 tk8 hl8 fw8 => ?_⟩
          have m8 := m6.setm n2 kp8 tk8
          have hD8 := hD6.kpm kp8 tk8 nDm
          have hN8 := kp8 N _ (by simpa using nNm) hN6
          have hl58 := kp8 l5 _ (by simpa using nl2) hl6
          have fl8 := fl6.up tk8
          have fx8 := fx.up tk8
          obtain ⟨dv8, hdv8, _⟩ := hD8.ex
          refine hD8.app fw8 (by rw [List.length_map]; exact line5' (by omega)) fun o _ hD9 => ?_
          have m9 := m8.own (o := o) hD hdv8 (fun _ h => nomatch h) nDb
          have tk9 : TupK H8 (upd H8 D o) := TupK.mut hdv8 (fun _ h => nomatch h)
          have hN9 : upd H8 D o N = _ := (upd_ne nND).trans hN8
          have hl9 : upd H8 D o l5 = _ := (upd_ne nl3).trans hl58
          have hm9 := hl8.set (o := o) hdv8 (fun _ h => nomatch h) nDm.symm
          have fl9 := fl8.up tk9
          have fx9 := fx8.up tk9
          generalize upd H8 D o = H9 at *
          refine ⟨.inl ⟨rfl, _, sqL_of hN9⟩, i_ixFs (i := 0) fx9 rfl (i_app hN9 (by simp; exact line5' (by omega)) ?_)⟩
          have tk10 : TupK H9 (upd H9 N (.lst ((rs.map fun r => r.h.nm).map .str ++ [.str h.nm]))) := TupK.mut hN9 (fun _ h => nomatch h)
          refine ⟨m9.own hN0 hN9 (fun _ h => nomatch h) nNb, rs ++ [⟨h, ms'.length⟩], by rw [List.map_append]; exact hD9.set hN9 (fun _ h => nomatch h) nND.symm, ms' ++ [mkMt k h], hm9.set hN9 (fun _ h => nomatch h) nNm.symm, by rw [upd_same]; simp, by rw [upd_ne nl4]; exact hl9, fl9.up tk10, ?_, fun r hr => ?_, fun g hg => ?_, by simp; omega, fun t ht => ?_, by simp; omega⟩
          · rw [List.take_append_of_le_length (by rw [← et, List.length_take]; omega)]; exact et
          · rcases List.mem_append.mp hr with hr | hr
            · exact src r hr
            · rw [List.mem_singleton.mp hr]; exact .inr hmem
          · rw [etk] at hg
            rcases List.mem_append.mp hg with hg | hg
            · obtain ⟨r, hr, e⟩ := has g hg
              exact ⟨r, List.mem_append_left _ hr, e⟩
            · rw [List.mem_singleton.mp hg]; exact ⟨_, List.mem_append_right _ (List.mem_singleton.mpr rfl), rfl⟩
          · rcases List.mem_append.mp ht with ht | ht
            · rcases mt6 t ht with h2 | ⟨r, hr, e⟩
              · exact .inl h2
              · exact .inr ⟨r, List.mem_append_left _ hr, e⟩
            · exact .inr ⟨_, List.mem_append_right _ (List.mem_singleton.mpr rfl), List.mem_singleton.mp ht⟩
        · have hin : h.nm ∈ rs.map fun r => r.h.nm := by
            by_cases e : h.nm ∈ rs.map fun r => r.h.nm
            · exact e
            · exact absurd (by rw [decide_eq_false e]; rfl) hin
          obtain ⟨r, hr, er2⟩ := List.mem_map.mp hin
          refine ⟨m6, rs, hD6, ms', hm6, hN6, hl6, fl6, et, src, fun g hg => ?_, by omega, mt6, ml6⟩
          rw [etk] at hg
          rcases List.mem_append.mp hg with hg | hg
          · exact has g hg
          · rw [List.mem_singleton.mp hg]; exact ⟨r, hr, er2⟩
      · rintro σ' H6 ⟨m6, rs, ms', w, hD6, hm6, hN6, hl6, fl6, et, src, has, lr, mt6, ml6, rfl⟩
        rw [llv, List.take_length] at has
        walk_at "rd"
        refine i_tupF hD6 fun p H7 s7 fp => ?_
        refine q _ H7 rs ms' (m6.same s7) fp (hm6.same s7) ⟨?_, fun r hr => ?_, fun h hh => ?_, by omega, mt6, ml6⟩
        · rw [← lrows, ← List.map_take, et, er]
        · rcases src r hr with h | h
          · left
            rw [← er]
            exact List.mem_map.mpr ⟨r, h, rfl⟩
          · right
            rw [← hhs] at h
            rcases List.mem_append.mp h with h | h
            · rw [← hbase] at h
              rcases List.mem_append.mp h with h | h
              · exact .inl h
              · refine .inr (.inl ?_)
                cases app with
                | true => rw [if_pos rfl] at h; exact ⟨rfl, by simpa using h⟩
                | false => simp at h
            · exact .inr (.inr (go _ h))
        · refine has h ?_
          rw [← hhs, ← hbase]
          refine List.mem_append_left _ ?_
          rcases hh with h2 | ⟨rfl, h2⟩
          · exact List.mem_append_left _ h2
          · refine List.mem_append_right _ ?_
            rw [if_pos rfl]
            simpa using h2

/-! ### the heads of the faces that a class names -/
theorem none_of_same {H H' : Hp} {p : Addr} (s : Same H H') (h : H' p = none) : H p = none := by
  cases e : H p with
  | none => rfl
  | some o => rw [s p o e] at h; cases h
def fsD (m : Md) : PyData := .tuple (m.fcs.map faceD)
/-- a dict from the names to the faces -/
structure Ud (K : PySem.W.Frag) (H : Hp) (u : Addr) (ms : List Md) : Prop where
  ex : ∃ vs, H u = some (.dK (kvsOf ms vs)) ∧ FrL K H vs (ms.map fsD)
theorem Ud.same {K : PySem.W.Frag} {H H' : Hp} {u : Addr} {ms : List Md} (h : Ud K H u ms) (s : Same H H') : Ud K H' u ms := by
  obtain ⟨vs, h1, h2⟩ := h.ex
  exact ⟨vs, s _ _ h1, h2.up (.of s)⟩
theorem find_kvsF {K : PySem.W.Frag} {H : Hp} {n : Str} {m : Md} {f : Md → PyData} : ∀ {ms : List Md} {vs : List V}, FrL K H vs (ms.map f) → findM ms n = some m → ∃ v, valV (kvsOf ms vs) (.inr n) = some v ∧ Fr K H v (f m)
  | [], [], _, e => by cases e
  | x :: ms, v :: vs, .cons h t, e => by
    unfold findM at e
    by_cases h0 : x.nm = n
    · rw [List.find?_cons, decide_eq_true h0] at e
      cases e
      exact ⟨v, valV_pos (congrArg Sum.inr h0), h⟩
    · rw [List.find?_cons, decide_eq_false h0] at e
      have ev : valV (kvsOf (x :: ms) (v :: vs)) (.inr n) = valV (kvsOf ms vs) (.inr n) := valV_neg (fun q => h0 (Sum.inr.inj q))
      rw [ev]
      exact find_kvsF t e
def hdsIn (fcs : List (Str × List Hd)) (f : Str) : List Hd := fcs.flatMap fun x => if x.1 = f then x.2 else []
def fcsFor (own : List (Str × List Hd)) (ms : List Md) (nm p : Str) : List (Str × List Hd) := if p = nm then own else match findM ms p with
  | some m => m.fcs
  | none => []
def headsOf (own : List (Str × List Hd)) (ms : List Md) (nm : Str) (named : List (Str × Str)) : List Hd := named.flatMap fun f => hdsIn (fcsFor own ms nm f.1) f.2
/-- few faces with few heads -/
def Few (fcs : List (Str × List Hd)) : Prop := fcs.length ≤ 2 ∧ ∀ f ∈ fcs, f.2.length ≤ 2
theorem Few.take {fcs : List (Str × List Hd)} (h : Few fcs) (f : Str) (n : Nat) : (hdsIn (fcs.take n) f).length ≤ 4 := by
  have h1 : (hdsIn (fcs.take n) f).length ≤ (fcs.take n).length * 2 := flat_len fun x hx => by
    have := h.2 x (List.mem_of_mem_take hx)
    split
    · exact this
    · exact Nat.zero_le _
  have h2 : (fcs.take n).length ≤ fcs.length := by rw [List.length_take]; omega
  have := h.1
  omega
theorem flat_take {α β : Type} {f : α → List β} {l : List α} {i : Nat} (h : i < l.length) : (l.take (i + 1)).flatMap f = (l.take i).flatMap f ++ f l[i] := by
  rw [List.take_add_one, List.getElem?_eq_getElem h, List.flatMap_append]; simp
def sp_law_heads_of {K : PySem.W.Frag} {mg : Str → Option Value} (_ : Txt K mg) : Sp := fun vs H Q _ => ∃ (lf u ln : Addr) (nm : Str) (own : List (Str × List Hd)) (ms : List Md) (named : List (Str × Str)),
  vs = [.ref lf, .ref u, .str nm, .ref ln] ∧ LsF K H lf (own.map faceD) ∧ Ud K H u ms ∧ LsF K H ln (named.map fcD) ∧ (∀ f ∈ named, f.1 = nm ∨ ∃ m, findM ms f.1 = some m) ∧ Few own ∧ (∀ m ∈ ms, Few m.fcs) ∧ named.length ≤ 20 ∧
  ∀ p H', H p = none → Same H H' → LsF K H' p ((headsOf own ms nm named).map Hd.d) → Q (.ref p) H'
theorem ok_law_heads_of (T : Txt K mg) : FnOk P w K mg base CX0 1 T.f_law_heads_of T.d_law_heads_of ["_law_faces_here", "_law_used", "_law_name", "_law_faces_named"] (sp_law_heads_of T) := by
  refine T.k_law_heads_of.ok sc_law_heads_of (fun vs H Q E h => ?_) (fun cdv A outer s H vs Q E hr h => ?_)
  · obtain ⟨lf, u, ln, nm, own, ms, named, rfl, _⟩ := h
    rfl
  · obtain ⟨lf, u, ln, nm, own, ms, named, rfl, hf, hu, hn, hnm, fo, fm, nl, q⟩ := h
    refine ⟨_, (pss_cons (ps_set (i := 4) sc_law_heads_of.nd rfl (.inl rfl) (pe_lst pa_nil))
      (pss_cons (ps_for PassesOwn.never rfl (pi_list (pv 3)) (pg_name (i := 5) sc_law_heads_of.nd rfl (Or.inl rfl)) (C8.pss_cut (ps_set (i := 6) sc_law_heads_of.nd rfl (.inl rfl) (pe_ifExp (pt_cmpR op_eq (pe_ix (ix_tupK K) (pv 5) pe_int (fun _ _ => rfl)) (pv 2) (nomark _)) (pv 0) (pe_dget (hu_of hr) (pv 1) (pe_ix (ix_tupK K) (pv 5) pe_int (fun _ _ => rfl)) (fun _ _ => rfl))))
      (pss_one (ps_for PassesOwn.never rfl (pi_lt (pv 6)) (pg_name (i := 7) sc_law_heads_of.nd rfl (Or.inl rfl)) (pss_one (ps_if (pt_cmpR op_eq (pe_ix (ix_tupK K) (pv 7) pe_int (fun _ _ => rfl)) (pe_ix (ix_tupK K) (pv 5) pe_int (fun _ _ => rfl)) (nomark _)) (pss_one (ps_set (i := 4) sc_law_heads_of.nd rfl (.inl rfl) (pe_op op_cat (pv 4) (pe_lc (own := [("_law_head_here", 8)]) (g := gName 8) (tt := tYes) rfl sc_law_heads_of.nd (pi_tup (pe_ix (ix_tupK K) (pv 7) pe_int (fun _ _ => rfl))) (blkOk_by (own := [("_law_head_here", 8)]) (N := ["_law_faces_here", "_law_used", "_law_name", "_law_faces_named", "_law_heads", "_law_face", "_law_rows", "_law_one", "_law_head_here"]) (sc := defScope s_law_heads_of) (by decide +kernel)) (fun _ _ _ _ _ => pg_name (i := 8) sc_law_heads_of.nd rfl (Or.inl rfl)) (fun _ _ _ _ _ => pts_nil) (fun _ _ _ _ _ => (pv 8)))))) pss_nil))))))
      (pss_one (ps_ret (pv 4))))), ?_⟩
    walk_at "rd"
    refine rdSeq ?_
    walk_at "rd"
    intro p0 hp0
    obtain ⟨nv, hn1, fn⟩ := hn.ex
    have nlen := fn.len
    rw [List.length_map] at nlen
    refine rdSeq ?_
    walk_at "rd"
    have sq0 := same_new (o := .lst []) hp0
    refine ⟨⟨_, sqL_of (sq0 _ _ hn1)⟩, ?_⟩
    refine i_for (walk_list (K := K) (a := ln) (xs := nv)) (fun i σ' H' => Same H H' ∧ ∃ (p : Addr) (y5 y6 y7 : Option V), H p = none ∧ LsF K H' p ((headsOf own ms nm (named.take i)).map Hd.d) ∧ σ' = [some (.ref lf), some (.ref u), some (.str nm), some (.ref ln), some (.ref p), y5, y6, y7, none])
      ⟨sq0, p0, _, _, _, hp0, ⟨[], upd_same, .nil⟩, rfl⟩ (fun i σ' H' _ h => sqL_of (h.1 _ _ hn1)) ?_ ?_
    · rintro i x σ' H1 H2 hi ⟨s1, p, y5, y6, y7, hp, hl, rfl⟩ ⟨rfl, hx⟩
      have hi2 : i < named.length := by omega
      obtain ⟨dd, hd, fx⟩ := fn.getV hx
      rw [List.getElem?_map, List.getElem?_eq_getElem hi2] at hd
      cases hd
      have hin := hnm _ (List.getElem_mem hi2)
      have eh : headsOf own ms nm (named.take (i + 1)) = headsOf own ms nm (named.take i) ++ hdsIn (fcsFor own ms nm named[i].1) named[i].2 := flat_take hi2
      rw [eh]
      have bound : (headsOf own ms nm (named.take i)).length ≤ 80 := by
        have h1 : (headsOf own ms nm (named.take i)).length ≤ (named.take i).length * 4 := flat_len fun f _ => by
          have few : Few (fcsFor own ms nm f.1) := by
            unfold fcsFor
            split
            · exact fo
            · split
              · rename_i m hm
                exact fm m (List.mem_of_find?_eq_some hm)
              · exact ⟨Nat.zero_le _, fun _ h => by cases h⟩
          have := few.take f.2 (fcsFor own ms nm f.1).length
          rwa [List.take_length] at this
        have h2 : (named.take i).length ≤ named.length := by rw [List.length_take]; omega
        omega
      generalize named[i] = f at *
      have fx := fx.up (.of s1)
      have few : Few (fcsFor own ms nm f.1) := by
        unfold fcsFor
        split
        · exact fo
        · split
          · rename_i m hm
            exact fm m (List.mem_of_find?_eq_some hm)
          · exact ⟨Nat.zero_le _, fun _ h => by cases h⟩
      refine rdCut (fun σ' H' => H' = H2 ∧ ∃ (a : Addr) (xs : List V), SqX K H2 a xs ∧ FrL K H2 xs ((fcsFor own ms nm f.1).map faceD) ∧ σ' = [some (.ref lf), some (.ref u), some (.str nm), some (.ref ln), some (.ref p), some x, some (.ref a), y7, none]) ?_ ?_
      · walk_at "rd"
        simp only [tIf]
        walk_at "rd"
        refine i_ixFs (i := 1) fx rfl ⟨rfl, ite2 (fun h => ?_) (fun h => ?_)⟩
        · have e : f.1 = nm := V.str.inj h
          obtain ⟨vf, h1, fv⟩ := (hf.same s1).ex
          refine ⟨rfl, lf, vf, .inl h1, ?_, rfl⟩
          unfold fcsFor
          rw [if_pos e]; exact fv
        · have e : ¬ f.1 = nm := fun e => h (by rw [e])
          obtain ⟨vu, h1, fv⟩ := (hu.same s1).ex
          rcases hin with h2 | ⟨m, hm⟩
          · exact absurd h2 e
          · obtain ⟨v, hv, fv⟩ := find_kvsF fv hm
            obtain ⟨a, xs, rfl, sq, fl⟩ := fv.inv
            refine i_ixFs (i := 1) fx rfl (i_dget h1 hv ⟨rfl, a, xs, .inr sq, ?_, rfl⟩)
            unfold fcsFor
            rw [if_neg e, hm]; exact fl
      · rintro σ' H3 ⟨rfl, a, xs, sx, fl, rfl⟩
        generalize fcsFor own ms nm f.1 = fcs at *
        generalize headsOf own ms nm (named.take i) = pre at *
        have xlen := fl.len
        rw [List.length_map] at xlen
        walk_at "rd"
        refine i_forLT sx (fun i σ' H' => Same H3 H' ∧ ∃ (p : Addr) (y7 : Option V), H p = none ∧ LsF K H' p ((pre ++ hdsIn (fcs.take i) f.2).map Hd.d) ∧ σ' = [some (.ref lf), some (.ref u), some (.str nm), some (.ref ln), some (.ref p), some x, some (.ref a), y7, none])
          ⟨Same.refl _, p, _, hp, by simpa [hdsIn] using hl, rfl⟩ (fun i σ' H' h => h.1) ?_ ?_
        · rintro i2 x2 σ' H4 hi4 ⟨s4, p4, y4, hp4, hl4, rfl⟩ hx2
          have hi5 : i2 < fcs.length := by omega
          obtain ⟨dd, hd, fx2⟩ := fl.getV hx2
          rw [List.getElem?_map, List.getElem?_eq_getElem hi5] at hd
          cases hd
          have fx2 := fx2.up (.of s4)
          have b4 := few.take f.2 i2
          have bz := few.2 _ (List.getElem_mem hi5)
          have eh2 : hdsIn (fcs.take (i2 + 1)) f.2 = hdsIn (fcs.take i2) f.2 ++ (if fcs[i2].1 = f.2 then fcs[i2].2 else []) := flat_take hi5
          rw [eh2]
          generalize fcs[i2] = fc at *
          walk_at "rd"
          refine i_ixFs (i := 0) fx2 rfl (i_ixFs (i := 2) (fx.up (.of s4)) rfl ⟨rfl, ite2 (fun h => ?_) (fun h => ?_)⟩)
          · rw [if_pos (V.str.inj h)]
            refine i_ixF (i := 1) fx2 rfl fun w hw => ?_
            obtain ⟨t, ys, rfl, sq, fy⟩ := hw.inv
            have ylen := fy.len
            rw [List.length_map] at ylen
            refine ⟨t, rfl, ⟨_, sq.sq⟩, ?_⟩
            refine i_lcFr (K := K) (walk_tup (K := K) (a := t) (xs := ys)) (fc.2.map Hd.d) (by simp [ylen]) (line5' (by omega)) (fun H' s' => (sq.up (.of s')).sq) (fun _ _ _ _ y => y.1) (fun i x H5 Q' dd hdd s5 hy qq => ?_) (fun D H5 zs hD s5 hD5 fD => ?_)
            · obtain ⟨d2, hd2, fx5⟩ := fy.getV hy.2
              rw [hdd] at hd2
              cases hd2
              walk_at "rd"
              exact qq _ _ (Same.refl _) (fx5.up (.of s5))
            · obtain ⟨lv, hlv, flv⟩ := (hl4.same s5).ex
              have ll := flv.len
              have zl := fD.len
              rw [List.length_map] at zl
              rw [List.length_map, List.length_append] at ll
              refine i_cat hlv hD5 (line5 (by omega)) fun p9 hp9 => ?_
              have s9 := same_new (o := .lst (lv ++ zs)) hp9
              refine ⟨s4.trans (s5.trans s9), p9, none_of_same (s1.trans (s4.trans s5)) hp9, ⟨_, upd_same, ?_⟩, rfl⟩
              rw [← List.append_assoc, List.map_append]
              exact (flv.up (.of s9)).app (fD.up (.of s9))
          · rw [if_neg (fun e => h (by rw [e])), List.append_nil]
            exact ⟨s4, p4, hp4, hl4, rfl⟩
        · rintro σ' H4 ⟨s4, p4, y4, hp4, hl4, rfl⟩
          rw [xlen, List.take_length] at hl4
          walk_at "rd"
          exact ⟨s1.trans s4, p4, hp4, hl4, rfl⟩
    · rintro σ' H1 ⟨s1, p, y5, y6, y7, hp, hl, rfl⟩
      rw [nlen, List.take_length] at hl
      walk_at "rd"
      exact q p H1 hp s1 hl

/-! ### a drawn module -/
def fN (i : Nat) : Str := Str.ofString "F" ++ Str.ofString (toString (i : Int))
def clN (i : Nat) : Str := Str.ofString "C" ++ Str.ofString (toString (i : Int))
def facesAt (ms : List Md) (p : Str) : List (Str × List Hd) := match findM ms p with
  | some m => m.fcs
  | none => []
def usesKn (ms : List Md) (uses : List (Str × Int)) : List (Str × Str) := uses.flatMap fun u => (facesAt ms u.1).map fun f : Str × List Hd => (u.1, f.1)
def hdN (p : Str) (i j : Nat) : Str := Txt.lower p ++ Txt.lower (fN i) ++ Str.ofString "h" ++ Str.ofString (toString (j : Int))
structure GoodF (kn : List (Str × Str)) (nm : Str) (i : Nat) (f : Str × List Hd) : Prop where
  en : f.1 = fN i
  lo : 1 ≤ f.2.length
  hi : f.2.length ≤ 2
  hd : ∀ (j : Nat) h, f.2[j]? = some h → GoodH kn h ∧ h.nm = hdN nm i j
theorem Mv.own {b D : Addr} {H H1 : Hp} {o : HO} (x : Mv b H H1) (hD : H D = none) (n : D ≠ b) : Mv b H (upd H1 D o) := by
  refine ⟨?_, fun c w hc e => ?_⟩
  · obtain ⟨b1, b2, b3, hb⟩ := x.bag
    exact ⟨b1, b2, b3, by rw [upd_ne n.symm]; exact hb⟩
  · rw [upd_ne (ne_of_none e hD)]; exact x.old c w hc e
theorem Ud.mv {K : PySem.W.Frag} {b : Addr} {H H' : Hp} {u : Addr} {ms : List Md} (h : Ud K H u ms) (hb : Bag H b) (m : Mv b H H') (n : u ≠ b) : Ud K H' u ms := by
  obtain ⟨vs, h1, h2⟩ := h.ex
  exact ⟨vs, m.old _ _ n h1, h2.up (.mv hb m)⟩
theorem Mv.fresh {b p : Addr} {H H1 : Hp} (x : Mv b H H1) (hp : H1 p = none) : H p = none ∧ p ≠ b := by
  have nb : p ≠ b := fun e => by
    obtain ⟨b1, b2, b3, hbb⟩ := x.bag
    rw [e, hbb] at hp; cases hp
  refine ⟨?_, nb⟩
  cases e : H p with
  | none => rfl
  | some o => rw [x.old p o nb e] at hp; cases hp
theorem Mv.ms {b lm : Addr} {H H1 H2 : Hp} (x : Mv b H H1) (m : Ms2 b lm H1 H2) (n : H lm = none) : Mv b H H2 :=
  ⟨m.bag, fun c o hc e => m.kp c o (by simp [hc, ne_of_none e n]) (x.old c o hc e)⟩
theorem LsF.ne {K : PySem.W.Frag} {H : Hp} {l p : Addr} {ds : List PyData} (h : LsF K H l ds) (hp : H p = none) : l ≠ p := by
  obtain ⟨_, h1, _⟩ := h.ex
  exact ne_of_none h1 hp
/-- where the heads of a class come from -/
def HdSrc (ms : List Md) (own : List (Str × List Hd)) (nm : Str) (kn : List (Str × Str)) (h : Hd) : Prop := (∃ f ∈ kn, h ∈ hdsIn (fcsFor own ms nm f.1) f.2) ∨ h = madeH ∨ h = procH ∨ (GoodH kn h ∧ ∃ k < 4, ∃ j < 2, h.nm = ownN k j)
structure GoodC (ms : List Md) (own : List (Str × List Hd)) (nm : Str) (kn : List (Str × Str)) (many : Nat) (cs : List Cl) (k : Nat) (c : Cl) : Prop where
  en : c.nm = clN k
  lo : -1 ≤ c.par
  hi : c.par < k
  fcl : c.fcs.length ≤ 8
  fcs : ∀ f ∈ c.fcs, f ∈ kn
  fdl : c.fds.length ≤ 2 * (k + 1)
  fds : ∀ d ∈ c.fds, GoodK kn many d
  tbl : c.tb.length ≤ 60 * (k + 1)
  src : ∀ r ∈ c.tb, HdSrc ms own nm kn r.h
  pre : ∀ (p : Nat) cp, c.par = p → cs[p]? = some cp → ∀ r ∈ cp.tb, ∃ r' ∈ c.tb, r'.h = r.h
  has : ∀ h ∈ headsOf own ms nm c.fcs, ∃ r ∈ c.tb, r.h.nm = h.nm
/-- what a drawn class list keeps -/
structure GoodL (ms : List Md) (own : List (Str × List Hd)) (nm : Str) (kn : List (Str × Str)) (many : Nat) (cs : List Cl) (mts : List Mt) (aps : List Nat) : Prop where
  cls : ∀ (k : Nat) c, cs[k]? = some c → GoodC ms own nm kn many cs k c
  mt : ∀ t ∈ mts, ∃ (k : Nat) (c : Cl) (r : Rw), cs[k]? = some c ∧ r ∈ c.tb ∧ t = mkMt k r.h
  ml : mts.length ≤ 300 * cs.length
  ap : ∀ a ∈ aps, ∃ c : Cl, cs[a]? = some c ∧ (∃ r ∈ c.tb, r.h.nm = madeH.nm) ∧ ∃ r ∈ c.tb, r.h.nm = procH.nm
theorem GoodC.app {ms : List Md} {own : List (Str × List Hd)} {nm : Str} {kn : List (Str × Str)} {many : Nat} {cs : List Cl} {k : Nat} {c d : Cl} (g : GoodC ms own nm kn many cs k c) (hk : k ≤ cs.length) : GoodC ms own nm kn many (cs ++ [d]) k c :=
  { g with pre := fun p cp e hp => g.pre p cp e (by
      have := g.hi
      rwa [List.getElem?_append_left (by omega)] at hp) }
theorem getapp {α : Type} {l : List α} {x y : α} {i : Nat} (h : (l ++ [x])[i]? = some y) : (i < l.length ∧ l[i]? = some y) ∨ (i = l.length ∧ y = x) := by
  by_cases hi : i < l.length
  · rw [List.getElem?_append_left hi] at h; exact .inl ⟨hi, h⟩
  · rw [List.getElem?_append_right (by omega)] at h
    by_cases h0 : i - l.length = 0
    · rw [h0] at h
      have : x = y := by simpa using h
      exact .inr ⟨by omega, this.symm⟩
    · rw [List.getElem?_eq_none (by simp; omega)] at h; cases h
theorem GoodL.add {ms : List Md} {own : List (Str × List Hd)} {nm : Str} {kn : List (Str × Str)} {many : Nat} {cs : List Cl} {mts mts2 : List Mt} {aps aps2 : List Nat} {c : Cl} (g : GoodL ms own nm kn many cs mts aps) (gc : GoodC ms own nm kn many cs cs.length c) (hk : cs.length ≤ 3)
    (hm : ∀ t ∈ mts2, t ∈ mts ∨ ∃ r ∈ c.tb, t = mkMt cs.length r.h) (ml : mts2.length ≤ mts.length + c.tb.length) (ha : aps2 = aps ∨ ((∃ r ∈ c.tb, r.h.nm = madeH.nm) ∧ ∃ r ∈ c.tb, r.h.nm = procH.nm) ∧ aps2 = aps ++ [cs.length]) : GoodL ms own nm kn many (cs ++ [c]) mts2 aps2 := by
  have old : ∀ {i : Nat} {d : Cl}, cs[i]? = some d → (cs ++ [c])[i]? = some d := fun {i d} h => by
    rw [List.getElem?_append_left (List.getElem?_eq_some_iff.mp h).1]; exact h
  have new : (cs ++ [c])[cs.length]? = some c := by simp
  have oldA : ∀ a ∈ aps, ∃ d : Cl, (cs ++ [c])[a]? = some d ∧ (∃ r ∈ d.tb, r.h.nm = madeH.nm) ∧ ∃ r ∈ d.tb, r.h.nm = procH.nm := fun a h => by
    obtain ⟨d, h1, h2⟩ := g.ap a h
    exact ⟨d, old h1, h2⟩
  refine ⟨fun k d hd => ?_, fun t ht => ?_, ?_, ?_⟩
  · rcases getapp hd with ⟨h1, h2⟩ | ⟨rfl, rfl⟩
    · exact (g.cls k d h2).app (by omega)
    · exact gc.app (Nat.le_refl _)
  · rcases hm t ht with h | ⟨r, h1, h2⟩
    · obtain ⟨k, d, r, h1, h2, h3⟩ := g.mt t h
      exact ⟨k, d, r, old h1, h2, h3⟩
    · exact ⟨cs.length, c, r, new, h1, h2⟩
  · have h1 := g.ml
    have h2 := gc.tbl
    rw [List.length_append, List.length_singleton]
    omega
  · rcases ha with rfl | ⟨h, rfl⟩
    · exact oldA
    · intro a ha
      rcases List.mem_append.mp ha with ha | ha
      · exact oldA a ha
      · rw [List.mem_singleton.mp ha]
        exact ⟨c, new, h⟩
def knOf (ms : List Md) (m : Md) : List (Str × Str) := usesKn ms m.uses ++ (List.range m.fcs.length).map fun i => (m.nm, fN i)
/-- a drawn module after the modules ms -/
structure GoodM (ms : List Md) (m : Md) : Prop where
  fcs : ∀ (i : Nat) f, m.fcs[i]? = some f → GoodF (knOf ms m) m.nm i f
  few : Few m.fcs
  gl : GoodL ms m.fcs m.nm (knOf ms m) m.cls.length m.cls m.mts m.apps
  cll : m.cls.length ≤ 4
  al : m.apps.length ≤ 4
  us : ∀ x ∈ m.uses, ∃ y, findM ms x.1 = some y
  ul : m.uses.length ≤ 3
  kl : (knOf ms m).length ≤ 8
def sp_law_module {K : PySem.W.Frag} {mg : Str → Option Value} (_ : Txt K mg) : Sp := fun vs H Q _ => ∃ (b : Addr) (nm : Str) (ver : Int) (uv : V) (u : Addr) (uses : List (Str × Int)) (ms : List Md),
  vs = [.ref b, .str nm, .int ver, uv, .ref u] ∧ Bag H b ∧ Fr K H uv (.tuple (uses.map useD)) ∧ Ud K H u ms ∧ u ≠ b ∧ (∀ x ∈ uses, ∃ m, findM ms x.1 = some m) ∧ uses.length ≤ 3 ∧ (∀ m ∈ ms, Few m.fcs) ∧ nm.length ≤ 10 ∧
  ∀ v H' (m : Md), Mv b H H' → Fr K H' v m.d → m.nm = nm → m.ver = ver → m.uses = uses → GoodM ms m → Q v H'
theorem ok_law_module (T : Txt K mg) : FnOk P w K mg base CX0 5 T.f_law_module T.d_law_module ["_law_bag_here", "_law_name", "_law_version", "_law_uses", "_law_used"] (sp_law_module T) := by
  refine T.k_law_module.ok sc_law_module (fun vs H Q E h => ?_) (fun cdv A outer s H vs Q E hr h => ?_)
  · obtain ⟨b, nm, ver, uv, u, uses, ms, rfl, _⟩ := h
    rfl
  · obtain ⟨b, nm, ver, uv, u, uses, ms, rfl, hB, hu, hd, nub, hus, ul, fewM, nl, q⟩ := h
    obtain ⟨ut, ux, rfl, usq, ufl⟩ := hu.inv
    have ulen := ufl.len
    rw [List.length_map] at ulen
    refine ⟨_, (pss_cons (ps_set (i := 5) sc_law_module.nd rfl (.inr rfl) (pe_lst pa_nil))
      (pss_cons (ps_for PassesOwn.never rfl (pi_tup (pv 3)) (pg_tup rfl (pgs_cons (pg_name (i := 6) sc_law_module.nd rfl (Or.inr rfl)) (pgs_cons (pg_name (i := 7) sc_law_module.nd rfl (Or.inl rfl)) pgs_nil))) (pss_one (ps_set (i := 5) sc_law_module.nd rfl (.inr rfl) (pe_op op_cat (pv 5) (pe_lc (own := [("_law_face", 8)]) (g := gName 8) (tt := tYes) rfl sc_law_module.nd (pi_tup (pe_dget (hu_of hr) (pv 4) (pv 6) (fun _ _ => rfl))) (blkOk_by (own := [("_law_face", 8)]) (N := ["_law_bag_here", "_law_name", "_law_version", "_law_uses", "_law_used", "_law_known_here", "_law_package", "_law_number", "_law_face", "_law_k", "_law_own", "_law_faces_here", "_law_heads", "_law_classes", "_law_methods", "_law_applets", "_law_many", "_law_parent", "_law_fields", "_law_rows", "_law_named", "_law_applet", "_law_table_here", "_law_j"]) (sc := defScope s_law_module) (by decide +kernel)) (fun _ _ _ _ _ => pg_name (i := 8) sc_law_module.nd rfl (Or.inl rfl)) (fun _ _ _ _ _ => pts_nil) (fun _ _ _ _ _ => (pe_tup (pa_cons (pv 6) (pa_cons (pe_ix (ix_tupK K) (pv 8) pe_int (fun _ _ => rfl)) pa_nil)))))))))
      (pss_cons (ps_setLc (i := 10) (own := [("_law_k", 9)]) (g := gName 9) (tt := tYes) rfl sc_law_module.nd rfl rfl (sw_true rfl rfl rfl (by decide +kernel)) (pi_range1 (by rfl) T.m_range (pa_cons (pe_call (ok_law_draw T) (hr.mono (by decide)) (by rfl) T.g_law_draw T.k_law_draw.kp T.b_law_draw .nil pass0 (pa_cons (pv 0) (pa_cons pe_int pa_nil))) pa_nil)) (blkOk_by (own := [("_law_k", 9)]) (N := ["_law_bag_here", "_law_name", "_law_version", "_law_uses", "_law_used", "_law_known_here", "_law_package", "_law_number", "_law_face", "_law_k", "_law_own", "_law_faces_here", "_law_heads", "_law_classes", "_law_methods", "_law_applets", "_law_many", "_law_parent", "_law_fields", "_law_rows", "_law_named", "_law_applet", "_law_table_here", "_law_j"]) (sc := defScope s_law_module) (by decide +kernel)) (fun _ _ _ _ _ => pg_name (i := 9) sc_law_module.nd rfl (Or.inl rfl)) (fun _ _ _ _ _ => pts_nil) (fun _ _ _ _ _ => (pe_op op_add_str pe_str (pe_callTy call_str_int (by rfl) T.m_str (by decide +kernel) (pa_cons (pv 9) pa_nil)))))
      (pss_cons (ps_set (i := 5) sc_law_module.nd rfl (.inr rfl) (pe_op op_cat (pv 5) (pe_lc (own := [("_law_face", 8)]) (g := gName 8) (tt := tYes) rfl sc_law_module.nd (pi_list (pv 10)) (blkOk_by (own := [("_law_face", 8)]) (N := ["_law_bag_here", "_law_name", "_law_version", "_law_uses", "_law_used", "_law_known_here", "_law_package", "_law_number", "_law_face", "_law_k", "_law_own", "_law_faces_here", "_law_heads", "_law_classes", "_law_methods", "_law_applets", "_law_many", "_law_parent", "_law_fields", "_law_rows", "_law_named", "_law_applet", "_law_table_here", "_law_j"]) (sc := defScope s_law_module) (by decide +kernel)) (fun _ _ _ _ _ => pg_name (i := 8) sc_law_module.nd rfl (Or.inl rfl)) (fun _ _ _ _ _ => pts_nil) (fun _ _ _ _ _ => (pe_tup (pa_cons (pv 1) (pa_cons (pv 8) pa_nil)))))))
      (pss_cons (ps_set (i := 11) sc_law_module.nd rfl (.inl rfl) (pe_lst pa_nil))
      (pss_cons (ps_for PassesOwn.never rfl (pi_list (pv 10)) (pg_name (i := 8) sc_law_module.nd rfl (Or.inr rfl)) (pss_cons (ps_setLc (i := 12) (own := [("_law_j", 23)]) (g := gName 23) (tt := tYes) rfl sc_law_module.nd rfl rfl (sw_true rfl rfl rfl (by decide +kernel)) (pi_range1 (by rfl) T.m_range (pa_cons (pe_op op_add pe_int (pe_call (ok_law_draw T) (hr.mono (by decide)) (by rfl) T.g_law_draw T.k_law_draw.kp T.b_law_draw .nil pass0 (pa_cons (pv 0) (pa_cons pe_int pa_nil)))) pa_nil)) (blkOk_by (own := [("_law_j", 23)]) (N := ["_law_bag_here", "_law_name", "_law_version", "_law_uses", "_law_used", "_law_known_here", "_law_package", "_law_number", "_law_face", "_law_k", "_law_own", "_law_faces_here", "_law_heads", "_law_classes", "_law_methods", "_law_applets", "_law_many", "_law_parent", "_law_fields", "_law_rows", "_law_named", "_law_applet", "_law_table_here", "_law_j"]) (sc := defScope s_law_module) (by decide +kernel)) (fun _ _ _ _ _ => pg_name (i := 23) sc_law_module.nd rfl (Or.inl rfl)) (fun _ _ _ _ _ => pts_nil) (fun _ _ _ _ _ => (pe_call (ok_law_head T) (hr.mono (by decide)) (by rfl) T.g_law_head T.k_law_head.kp T.b_law_head .nil pass0 (pa_cons (pv 0) (pa_cons (pe_op op_add_str (pe_op op_add_str (pe_op op_add_str (pe_bm0K K PySem.F.plainAttrs_str PySem.F.slot_str_lower PySem.F.type_str_lower mt_lower (pv 1)) (pe_bm0K K PySem.F.plainAttrs_str PySem.F.slot_str_lower PySem.F.type_str_lower mt_lower (pv 8))) pe_str) (pe_callTy call_str_int (by rfl) T.m_str (by decide +kernel) (pa_cons (pv 23) pa_nil))) (pa_cons (pv 5) pa_nil))))))
      (pss_one (ps_expr (pe_bmK K PySem.F.plainAttrs_list PySem.F.slot_list_append PySem.F.type_list_append mt_append (pv 11) (pa_cons (pe_tup (pa_cons (pv 8) (pa_cons (pe_callTy call_tuple_of (by rfl) T.m_tuple (by decide +kernel) (pa_cons (pv 12) pa_nil)) pa_nil))) pa_nil))))))
      (pss_cons (ps_set (i := 13) sc_law_module.nd rfl (.inl rfl) (pe_lst pa_nil))
      (pss_cons (ps_set (i := 14) sc_law_module.nd rfl (.inl rfl) (pe_lst pa_nil))
      (pss_cons (ps_set (i := 15) sc_law_module.nd rfl (.inl rfl) (pe_lst pa_nil))
      (pss_cons (ps_set (i := 16) sc_law_module.nd rfl (.inr rfl) (pe_op op_add pe_int (pe_call (ok_law_draw T) (hr.mono (by decide)) (by rfl) T.g_law_draw T.k_law_draw.kp T.b_law_draw .nil pass0 (pa_cons (pv 0) (pa_cons pe_int pa_nil)))))
      (pss_cons (ps_for PassesOwn.never rfl (pi_range1 (by rfl) T.m_range (pa_cons (pv 16) pa_nil)) (pg_name (i := 9) sc_law_module.nd rfl (Or.inl rfl)) (C8.pss_cut (ps_set (i := 17) sc_law_module.nd rfl (.inl rfl) (pe_ifExp (pt_cmpR op_eq (pe_call (ok_law_draw T) (hr.mono (by decide)) (by rfl) T.g_law_draw T.k_law_draw.kp T.b_law_draw .nil pass0 (pa_cons (pv 0) (pa_cons pe_int pa_nil))) pe_int (nomark _)) (pe_op op_sub (pe_call (ok_law_draw T) (hr.mono (by decide)) (by rfl) T.g_law_draw T.k_law_draw.kp T.b_law_draw .nil pass0 (pa_cons (pv 0) (pa_cons (pe_op op_add (pv 9) pe_int) pa_nil))) pe_int) (pe_un un_neg pe_int)))
      (C8.pss_cut (ps_if (pt_cmpR op_ge (pv 17) (pv 9) (nomark _)) (pss_one (ps_set (i := 17) sc_law_module.nd rfl (.inl rfl) (pe_un un_neg pe_int))) pss_nil)
      (pss_cons (ps_set (i := 18) sc_law_module.nd rfl (.inl rfl) (pe_tup pa_nil))
      (pss_cons (ps_set (i := 19) sc_law_module.nd rfl (.inl rfl) (pe_tup pa_nil))
      (C8.pss_cut (ps_if (pt_cmpR op_ge (pv 17) pe_int (nomark _)) (pss_cons (ps_set (i := 18) sc_law_module.nd rfl (.inl rfl) (pe_ix (ix_tupK K) (pe_ix (ix_listK K) (pv 13) (pv 17) (fun _ _ => rfl)) pe_int (fun _ _ => rfl)))
      (pss_one (ps_set (i := 19) sc_law_module.nd rfl (.inl rfl) (pe_ix (ix_tupK K) (pe_ix (ix_listK K) (pv 13) (pv 17) (fun _ _ => rfl)) pe_int (fun _ _ => rfl))))) pss_nil)
      (pss_cons (ps_set (i := 20) sc_law_module.nd rfl (.inl rfl) (pe_lst pa_nil))
      (pss_cons (ps_for PassesOwn.never rfl (pi_list (pv 5)) (pg_name (i := 8) sc_law_module.nd rfl (Or.inr rfl)) (pss_one (ps_if (pt_cmpR op_eq (pe_call (ok_law_draw T) (hr.mono (by decide)) (by rfl) T.g_law_draw T.k_law_draw.kp T.b_law_draw .nil pass0 (pa_cons (pv 0) (pa_cons pe_int pa_nil))) pe_int (nomark _)) (pss_one (ps_expr (pe_bmK K PySem.F.plainAttrs_list PySem.F.slot_list_append PySem.F.type_list_append mt_append (pv 20) (pa_cons (pe_op (op_catAK K) (pe_tup (pa_cons pe_str pa_nil)) (pv 8)) pa_nil)))) pss_nil)))
      (pss_cons (ps_set (i := 18) sc_law_module.nd rfl (.inl rfl) (pe_op (op_catAK K) (pv 18) (pe_callTy call_tuple_of (by rfl) T.m_tuple (by decide +kernel) (pa_cons (pe_lc (own := [("_law_j", 23)]) (g := gName 23) (tt := tYes) rfl sc_law_module.nd (pi_range1 (by rfl) T.m_range (pa_cons (pe_call (ok_law_draw T) (hr.mono (by decide)) (by rfl) T.g_law_draw T.k_law_draw.kp T.b_law_draw .nil pass0 (pa_cons (pv 0) (pa_cons pe_int pa_nil))) pa_nil)) (blkOk_by (own := [("_law_j", 23)]) (N := ["_law_bag_here", "_law_name", "_law_version", "_law_uses", "_law_used", "_law_known_here", "_law_package", "_law_number", "_law_face", "_law_k", "_law_own", "_law_faces_here", "_law_heads", "_law_classes", "_law_methods", "_law_applets", "_law_many", "_law_parent", "_law_fields", "_law_rows", "_law_named", "_law_applet", "_law_table_here", "_law_j"]) (sc := defScope s_law_module) (by decide +kernel)) (fun _ _ _ _ _ => pg_name (i := 23) sc_law_module.nd rfl (Or.inl rfl)) (fun _ _ _ _ _ => pts_nil) (fun _ _ _ _ _ => (pe_call (ok_law_types T) (hr.mono (by decide)) (by rfl) T.g_law_types T.k_law_types.kp T.b_law_types .nil pass0 (pa_cons (pv 0) (pa_cons (pv 5) (pa_cons (pv 16) pa_nil)))))) pa_nil))))
      (pss_cons (ps_set (i := 21) sc_law_module.nd rfl (.inl rfl) (pe_cmpR op_eq (pe_call (ok_law_draw T) (hr.mono (by decide)) (by rfl) T.g_law_draw T.k_law_draw.kp T.b_law_draw .nil pass0 (pa_cons (pv 0) (pa_cons pe_int pa_nil))) pe_int (nomark _)))
      (pss_cons (ps_set (i := 22) sc_law_module.nd rfl (.inl rfl) (pe_call (ok_law_table T) (hr.mono (by decide)) (by rfl) T.g_law_table T.k_law_table.kp T.b_law_table .nil pass0 (pa_cons (pv 0) (pa_cons (pv 9) (pa_cons (pv 19) (pa_cons (pe_call (ok_law_heads_of T) (hr.mono (by decide)) (by rfl) T.g_law_heads_of T.k_law_heads_of.kp T.b_law_heads_of .nil pass0 (pa_cons (pv 11) (pa_cons (pv 4) (pa_cons (pv 1) (pa_cons (pv 20) pa_nil))))) (pa_cons (pv 14) (pa_cons (pv 21) (pa_cons (pv 5) pa_nil)))))))))
      (C8.pss_cut (ps_if (pt_val (pv 21)) (pss_one (ps_expr (pe_bmK K PySem.F.plainAttrs_list PySem.F.slot_list_append PySem.F.type_list_append mt_append (pv 15) (pa_cons (pv 9) pa_nil)))) pss_nil)
      (pss_one (ps_expr (pe_bmK K PySem.F.plainAttrs_list PySem.F.slot_list_append PySem.F.type_list_append mt_append (pv 13) (pa_cons (pe_tup (pa_cons (pe_op op_add_str pe_str (pe_callTy call_str_int (by rfl) T.m_str (by decide +kernel) (pa_cons (pv 9) pa_nil))) (pa_cons (pv 17) (pa_cons (pe_callTy call_tuple_of (by rfl) T.m_tuple (by decide +kernel) (pa_cons (pv 20) pa_nil)) (pa_cons (pv 18) (pa_cons (pv 22) pa_nil)))))) pa_nil))))))))))))))))
      (pss_one (ps_ret (pe_tup (pa_cons pe_str (pa_cons (pv 1) (pa_cons (pv 2) (pa_cons (pv 3) (pa_cons (pe_callTy call_tuple_of (by rfl) T.m_tuple (by decide +kernel) (pa_cons (pv 11) pa_nil)) (pa_cons (pe_callTy call_tuple_of (by rfl) T.m_tuple (by decide +kernel) (pa_cons (pv 13) pa_nil)) (pa_cons (pe_callTy call_tuple_of (by rfl) T.m_tuple (by decide +kernel) (pa_cons (pv 14) pa_nil)) (pa_cons (pe_callTy call_tuple_of (by rfl) T.m_tuple (by decide +kernel) (pa_cons (pv 15) pa_nil)) pa_nil)))))))))))))))))))))), ?_⟩
    walk_at "rd"
    refine rdSeq ?_
    walk_at "rd"
    intro p0 hp0
    refine rdSeq ?_
    walk_at "rd"
    have s0 := same_new (o := .lst []) hp0
    have hk0 : LsF K (upd H p0 (.lst [])) p0 ((usesKn ms (uses.take 0)).map pfD) := ⟨[], upd_same, .nil⟩
    refine ⟨⟨_, (usq.up (.of s0)).sq⟩, ?_⟩
    refine i_forG (walk_tup (K := K) (a := ut) (xs := ux)) (fun i σ' H' => Same H H' ∧ ∃ (p : Addr) (y6 y7 : Option V), H p = none ∧ LsF K H' p ((usesKn ms (uses.take i)).map pfD) ∧ σ' = [some (.ref b), some (.str nm), some (.int ver), some (.ref ut), some (.ref u), some (.ref p), y6, y7, none, none, none, none, none, none, none, none, none, none, none, none, none, none, none, none])
      ⟨s0, p0, _, _, hp0, hk0, rfl⟩ (fun i σ' H' _ h => (usq.up (.of h.1)).sq) ?_ ?_
    · rintro i x σ' H1 H2 hi ⟨s1, p, y6, y7, hp, hl, rfl⟩ ⟨rfl, hx⟩
      have hi2 : i < uses.length := by omega
      obtain ⟨dd, hd2, fx⟩ := ufl.getV hx
      rw [List.getElem?_map, List.getElem?_eq_getElem hi2] at hd2
      cases hd2
      obtain ⟨m, hm⟩ := hus _ (List.getElem_mem hi2)
      have ek : usesKn ms (uses.take (i + 1)) = usesKn ms (uses.take i) ++ (facesAt ms uses[i].1).map fun f : Str × List Hd => (uses[i].1, f.1) := flat_take hi2
      have efa : facesAt ms uses[i].1 = m.fcs := by unfold facesAt; rw [hm]
      rw [ek, efa]
      have bound : (usesKn ms (uses.take i)).length ≤ 6 := by
        have h1 : (usesKn ms (uses.take i)).length ≤ (uses.take i).length * 2 := flat_len fun x _ => by
          rw [List.length_map]
          unfold facesAt
          split
          · rename_i m hm
            exact (fewM m (List.mem_of_find?_eq_some hm)).1
          · exact Nat.zero_le _
        have h2 : (uses.take i).length ≤ uses.length := by rw [List.length_take]; omega
        omega
      have fm := fewM m (List.mem_of_find?_eq_some hm)
      generalize uses[i] = us at *
      generalize usesKn ms (uses.take i) = pre at *
      obtain ⟨tp, txs, rfl, tsq, tfl⟩ := (fx.up (.of s1)).inv
      cases tfl with | cons f1 tfl => ?_
      cases tfl with | cons f2 tfl => ?_
      cases tfl
      cases f1
      cases f2
      refine i_gTup2 rfl tsq.sq ?_
      walk_at "rd"
      obtain ⟨vu, h1, fv⟩ := (hd.same s1).ex
      obtain ⟨v, hv, fv⟩ := find_kvsF fv hm
      obtain ⟨a, xs, rfl, sq, fl⟩ := fv.inv
      have xlen := fl.len
      rw [List.length_map] at xlen
      refine i_dget h1 hv ⟨a, rfl, ⟨_, sq.sq⟩, ?_⟩
      have fm1 := fm.1
      refine i_lcFr (K := K) (walk_tup (K := K) (a := a) (xs := xs)) ((m.fcs.map fun f : Str × List Hd => (us.1, f.1)).map pfD) (by simp [xlen]) (line5' (by omega)) (fun H' s' => (sq.up (.of s')).sq) (fun _ _ _ _ y => y.1) (fun i x H5 Q' dd hdd s5 hy qq => ?_) (fun D H5 zs hD s5 hD5 fD => ?_)
      · obtain ⟨d2, hd2, fx5⟩ := fl.getV hy.2
        have hi5 : i < m.fcs.length := by rw [← xlen]; exact (List.getElem?_eq_some_iff.mp hy.2).1
        rw [List.getElem?_map, List.getElem?_eq_getElem hi5] at hd2
        cases hd2
        rw [List.map_map, List.getElem?_map, List.getElem?_eq_getElem hi5] at hdd
        cases hdd
        walk_at "rd"
        refine i_ixFs (i := 0) (fx5.up (.of s5)) rfl fun t ht => ?_
        exact qq _ _ (same_new ht) (.tup (.inl upd_same) (.cons (.str _) (.cons (.str _) .nil)))
      · obtain ⟨lv, hlv, flv⟩ := (hl.same s5).ex
        have ll := flv.len
        have zl := fD.len
        rw [List.length_map] at ll
        rw [List.length_map, List.length_map] at zl
        refine i_cat hlv hD5 (line5 (by omega)) fun p9 hp9 => ?_
        have s9 := same_new (o := .lst (lv ++ zs)) hp9
        refine ⟨s1.trans (s5.trans s9), p9, none_of_same (s1.trans s5) hp9, ⟨_, upd_same, ?_⟩, rfl⟩
        rw [List.map_append]
        exact (flv.up (.of s9)).app (fD.up (.of s9))
    rintro σ' H1 ⟨s1, p, y6, y7, hp, hl, rfl⟩
    rw [ulen, List.take_length] at hl
    dsimp only
    refine rdSeq ?_
    walk_at "rd"
    have mv1 : Mv b H H1 := (Mv.refl hB).then s1
    have kl1 : (usesKn ms uses).length ≤ 6 := by
      have h1 : (usesKn ms uses).length ≤ uses.length * 2 := flat_len fun x _ => by
        rw [List.length_map]
        unfold facesAt
        split
        · rename_i m hm
          exact (fewM m (List.mem_of_find?_eq_some hm)).1
        · exact Nat.zero_le _
      omega
    generalize hkn1 : usesKn ms uses = kn1 at *
    refine i_draw mv1 (by decide) (by decide) fun r H2 r0 r1 mvs mv2 => ?_
    obtain ⟨n, rfl⟩ := Int.eq_ofNat_of_zero_le r0
    have npb : p ≠ b := bag_ne hB hp
    have hl2 := hl.mv mv1.bag mvs npb
    refine ⟨_, rfl, by omega, by omega, ?_⟩
    rw [Int.toNat_natCast]
    refine i_lcFr (K := K) (walk_range (lo := 0) (n := n)) (((List.range n).map fN).map .str) (by simp) (line5' (by omega)) (fun _ _ => trivial) (fun _ _ _ _ y => y.1) (fun i x H3 Q' d hd s3 hy qq => ?_) (fun ow H3 zs how s3 hO fO => ?_)
    · obtain ⟨_, rfl⟩ := hy
      obtain ⟨hi, _⟩ := List.getElem?_eq_some_iff.mp hd
      rw [List.length_map, List.length_map, List.length_range] at hi
      rw [List.map_map, List.getElem?_map, List.getElem?_range hi] at hd
      cases hd
      walk_at "rd"
      rw [Int.zero_add]
      have li4 : (Str.ofString (toString (i : Int))).length ≤ 4 := num4 (by omega)
      have l1 : (Str.ofString "F").length = 1 := by decide +kernel
      exact ⟨log_s (by omega), by omega, qq _ _ (Same.refl _) (.str _)⟩
    have hze := fO.strs
    subst hze
    have mv3 := mv2.then s3
    have hl3 := hl2.same s3
    refine rdSeq ?_
    walk_at "rd"
    refine ⟨⟨_, sqL_of hO⟩, ?_⟩
    refine i_lcFr (K := K) (walk_list (K := K) (a := ow) (xs := ((List.range n).map fN).map V.str)) (((List.range n).map fun i => (nm, fN i)).map pfD) (by simp) (line5' (by simp; omega)) (fun H' s' => sqL_of (s' _ _ hO)) (fun _ _ _ _ y => y.1) (fun i x H4 Q' d hd4 s4 hy qq => ?_) (fun D H4 zs hD s4 hD4 fD => ?_)
    · obtain ⟨_, hx⟩ := hy
      obtain ⟨hi, _⟩ := List.getElem?_eq_some_iff.mp hd4
      rw [List.length_map, List.length_map, List.length_range] at hi
      rw [List.map_map, List.getElem?_map, List.getElem?_range hi] at hd4
      cases hd4
      rw [List.map_map, List.getElem?_map, List.getElem?_range hi] at hx
      cases hx
      walk_at "rd"
      intro t ht
      exact qq _ _ (same_new ht) (.tup (.inl upd_same) (.cons (.str _) (.cons (.str _) .nil)))
    obtain ⟨lv, hlv, flv⟩ := (hl3.same s4).ex
    have ll := flv.len
    have zl := fD.len
    rw [List.length_map] at ll
    rw [List.length_map, List.length_map, List.length_range] at zl
    refine i_cat hlv hD4 (line5 (by omega)) fun lk hlk => ?_
    have s5 := same_new (o := .lst (lv ++ zs)) hlk
    have hO5 := s5 _ _ (s4 _ _ hO)
    have hk5 : LsF K (upd H4 lk (.lst (lv ++ zs))) lk ((kn1 ++ (List.range n).map fun i => (nm, fN i)).map pfD) := by
      refine ⟨_, upd_same, ?_⟩
      rw [List.map_append]
      exact (flv.up (.of s5)).app (fD.up (.of s5))
    have mv5 := mv3.then (s4.trans s5)
    have nlk : H lk = none := by
      cases e : H lk with
      | none => rfl
      | some o =>
        by_cases hb : lk = b
        · obtain ⟨b1, b2, b3, hbb⟩ := (mv3.then s4).bag
          rw [hb, hbb] at hlk; cases hlk
        · rw [(mv3.then s4).old lk o hb e] at hlk; cases hlk
    have nlkb : lk ≠ b := bag_ne hB nlk
    have now : H ow = none := by
      cases e : H ow with
      | none => rfl
      | some o =>
        by_cases hb : ow = b
        · obtain ⟨b1, b2, b3, hbb⟩ := mv2.bag
          rw [hb, hbb] at how; cases how
        · rw [mv2.old ow o hb e] at how; cases how
    have nowb : ow ≠ b := bag_ne hB now
    have knl : (kn1 ++ (List.range n).map fun i => (nm, fN i)).length ≤ 8 := by simp; omega
    have ekn : (List.range n).map (fun i => (nm, fN i)) = (List.range n).map (fun i => (nm, fN i)) := rfl
    have hkm : ∀ f ∈ kn1 ++ (List.range n).map (fun i => (nm, fN i)), f.1 = nm ∨ ∃ m, findM ms f.1 = some m := fun f hf => by
      rcases List.mem_append.mp hf with h | h
      · rw [← hkn1] at h
        obtain ⟨x, hx, h⟩ := List.mem_flatMap.mp h
        obtain ⟨g, _, rfl⟩ := List.mem_map.mp h
        exact .inr (hus x hx)
      · obtain ⟨i, _, rfl⟩ := List.mem_map.mp h
        exact .inl rfl
    generalize hkn : kn1 ++ (List.range n).map (fun i => (nm, fN i)) = kn at *
    generalize upd H4 lk (.lst (lv ++ zs)) = H5 at *
    refine rdSeq ?_
    walk_at "rd"
    intro fh hfh
    have nfh : H fh = none := by
      cases e : H fh with
      | none => rfl
      | some o =>
        by_cases hb : fh = b
        · obtain ⟨b1, b2, b3, hbb⟩ := mv5.bag
          rw [hb, hbb] at hfh; cases hfh
        · rw [mv5.old fh o hb e] at hfh; cases hfh
    have nfhb : fh ≠ b := bag_ne hB nfh
    have nfo : ow ≠ fh := ne_of_none hO5 hfh
    have nfk : lk ≠ fh := by
      obtain ⟨_, h1, _⟩ := hk5.ex
      exact ne_of_none h1 hfh
    have s6 := same_new (o := .lst []) hfh
    have mv6 := mv5.then s6
    have hO6 := s6 _ _ hO5
    have hk6 := hk5.same s6
    have hf6 : LsF K (upd H5 fh (.lst [])) fh (([] : List (Str × List Hd)).map faceD) := ⟨[], upd_same, .nil⟩
    generalize upd H5 fh (.lst []) = H6 at *
    refine rdSeq ?_
    walk_at "rd"
    refine ⟨⟨_, sqL_of hO6⟩, ?_⟩
    refine i_for (walk_list (K := K) (a := ow) (xs := ((List.range n).map fN).map V.str)) (fun i σ' H' => Mv b H H' ∧ LsF K H' lk (kn.map pfD) ∧ H' ow = some (.lst (((List.range n).map fN).map V.str)) ∧ ∃ (own : List (Str × List Hd)) (y8 y12 : Option V), LsF K H' fh (own.map faceD) ∧ own.length = i ∧ (∀ (i : Nat) f, own[i]? = some f → GoodF kn nm i f) ∧
      σ' = [some (.ref b), some (.str nm), some (.int ver), some (.ref ut), some (.ref u), some (.ref lk), y6, y7, y8, none, some (.ref ow), some (.ref fh), y12, none, none, none, none, none, none, none, none, none, none, none])
      ⟨mv6, hk6, hO6, [], _, _, hf6, rfl, (fun _ _ h => by cases h), rfl⟩ (fun i σ' H' _ h => sqL_of h.2.2.1) ?_ ?_
    · rintro i x σ' H7 H8 hi ⟨mv7, hk7, hO7, own, y8, y12, hf7, lo, go, rfl⟩ ⟨rfl, hx⟩
      have hi2 : i < n := by simpa using hi
      rw [List.map_map, List.getElem?_map, List.getElem?_range hi2] at hx
      cases hx
      refine rdSeq ?_
      walk_at "rd"
      refine i_draw (Mv.refl mv7.bag) (by decide) (by decide) fun r8 H9 k0 k1 mv8 _ => ?_
      obtain ⟨n8, rfl⟩ := Int.eq_ofNat_of_zero_le k0
      have mv9 := mv7.trans mv8
      have hk9 := hk7.mv mv7.bag mv8 nlkb
      refine ⟨_, rfl, by omega, by omega, ?_⟩
      rw [show ((1 : Int) + (n8 : Nat)).toNat = 1 + n8 by omega]
      refine i_lcDF (K := K) (walk_range (lo := 0) (n := 1 + n8)) Hd.d (fun j h => GoodH kn h ∧ h.nm = hdN nm i j) mv9.bag (line5' (by omega)) (fun _ _ => trivial) (fun _ _ _ _ y => y.1) (fun j x H2 Q' hj hy mv qq => ?_) (fun D H10 hs hD10 mv10 hD2 hl2 hP => ?_)
      · obtain ⟨_, rfl⟩ := hy
        walk_at "rd"
        have li4 : (Str.ofString (toString (j : Int))).length ≤ 4 := num4 (by omega)
        have lf4 : (fN i).length ≤ 5 := by
          have h1 : (Str.ofString (toString (i : Int))).length ≤ 4 := num4 (by omega)
          have h2 : (Str.ofString "F").length = 1 := by decide +kernel
          unfold fN
          rw [len_append]; omega
        have e1 := PyProof.Rows.len_lower nm
        have e2 := PyProof.Rows.len_lower (fN i)
        have l3 : (Str.ofString "h").length = 1 := by decide +kernel
        rw [Int.zero_add]
        have mm := mv9.trans mv
        exact ⟨rfl, by omega, rfl, fN i, rfl, by omega, by omega, by rw [len_append]; omega, log_s (by omega), by rw [len_append, len_append]; omega, b, lk, _, kn, rfl, mm.bag, hk9.mv mv9.bag mv nlkb, nlkb, by omega, fun v H3 h mv3 fv gh en => qq v H3 h fv ⟨gh, en⟩ mv3⟩
      · have mvA := mv9.trans mv10
        walk_at "rd"
        obtain ⟨hv, hhv, fhv⟩ := hD2.ex
        have hf10 := (hf7.mv mv7.bag mv8 nfhb).mv mv9.bag mv10 nfhb
        have hO10 := mv10.old ow _ nowb (mv8.old ow _ nowb hO7)
        have hk10 := hk9.mv mv9.bag mv10 nlkb
        obtain ⟨fv, hfv, ffv⟩ := hf10.ex
        refine ⟨.inl ⟨rfl, _, sqL_of hfv⟩, hv, .inl ⟨sqL_of hhv, fun l hl p hp => ?_⟩⟩
        have t1 := same_new (o := .tup hv) hl
        have g1 : Fr K (upd H10 l (.tup hv)) (.ref l) (.tuple (hs.map Hd.d)) := .tup (.inl upd_same) (fhv.up (.of t1))
        generalize upd H10 l (.tup hv) = G1 at *
        have t2 := same_new (o := .tup [.str (fN i), .ref l]) hp
        have g2 : Fr K (upd G1 p (.tup [.str (fN i), .ref l])) (.ref p) (faceD (fN i, hs)) := .tup (.inl upd_same) (.cons (.str _) (.cons (g1.up (.of t2)) .nil))
        have t12 := t1.trans t2
        have hf12 := hf10.same t12
        refine hf12.app g2 (by rw [List.length_map]; exact line5' (by omega)) fun o hex hf13 => ?_
        obtain ⟨_, hx⟩ := hex
        refine ⟨(mvA.then t12).own nfh nfhb, (hk10.same t12).set hx (fun _ h => nomatch h) nfk, (upd_ne nfo).trans (t12 _ _ hO10), own ++ [(fN i, hs)], by rw [List.map_append]; exact hf13, by simp [lo], fun k f hf => ?_⟩
        by_cases hk : k < own.length
        · rw [List.getElem?_append_left hk] at hf; exact go k f hf
        · rw [List.getElem?_append_right (by omega)] at hf
          by_cases h0 : k - own.length = 0
          · rw [h0] at hf
            have : (fN i, hs) = f := by simpa using hf
            subst this
            have ek : k = i := by omega
            subst ek
            exact ⟨rfl, by show 1 ≤ hs.length; omega, by show hs.length ≤ 2; omega, fun j h hj => hP j h hj⟩
          · rw [List.getElem?_eq_none (by simp; omega)] at hf; cases hf
    rintro σ' H7 ⟨mv7, hk7, hO7, own, y8, y12, hf7, lo, go, rfl⟩
    rw [List.length_map, List.length_map, List.length_range] at lo
    dsimp only
    have few : Few own := ⟨by omega, fun f hf => by
      obtain ⟨i, hi, rfl⟩ := List.mem_iff_getElem.mp hf
      exact (go i _ (List.getElem?_eq_getElem hi)).hi⟩
    refine rdSeq ?_
    walk_at "rd"
    intro cl hcl
    obtain ⟨ncl, nclb⟩ := mv7.fresh hcl
    have nfc := hf7.ne hcl
    have nkc := hk7.ne hcl
    have t1 := same_new (o := .lst []) hcl
    have hc8 : LsF K (upd H7 cl (.lst [])) cl (([] : List Cl).map Cl.d) := ⟨[], upd_same, .nil⟩
    have mv8 := mv7.then t1
    have hk8 := hk7.same t1
    have hf8 := hf7.same t1
    generalize upd H7 cl (.lst []) = H8 at *
    refine rdSeq ?_
    walk_at "rd"
    intro lm hlm
    obtain ⟨nlm, nlmb⟩ := mv8.fresh hlm
    have nfm := hf8.ne hlm
    have nkm := hk8.ne hlm
    have ncm := hc8.ne hlm
    have t2 := same_new (o := .lst []) hlm
    have hm9 : LsF K (upd H8 lm (.lst [])) lm (([] : List Mt).map Mt.d) := ⟨[], upd_same, .nil⟩
    have mv9 := mv8.then t2
    have hk9 := hk8.same t2
    have hf9 := hf8.same t2
    have hc9 := hc8.same t2
    generalize upd H8 lm (.lst []) = H9 at *
    refine rdSeq ?_
    walk_at "rd"
    intro ap hap
    obtain ⟨nap, napb⟩ := mv9.fresh hap
    have nfa := hf9.ne hap
    have nka := hk9.ne hap
    have nca := hc9.ne hap
    have nma := hm9.ne hap
    have t3 := same_new (o := .lst []) hap
    have ha10 : LsF K (upd H9 ap (.lst [])) ap (([] : List Nat).map fun k : Nat => .int k) := ⟨[], upd_same, .nil⟩
    have mv10 := mv9.then t3
    have hk10 := hk9.same t3
    have hf10 := hf9.same t3
    have hc10 := hc9.same t3
    have hm10 := hm9.same t3
    generalize upd H9 ap (.lst []) = H10 at *
    refine rdSeq ?_
    walk_at "rd"
    refine i_draw (Mv.refl mv10.bag) (by decide) (by decide) fun r11 H11 k0 k1 mvd _ => ?_
    obtain ⟨n11, rfl⟩ := Int.eq_ofNat_of_zero_le k0
    have mv11 := mv10.trans mvd
    have hk11 := hk10.mv mv10.bag mvd nlkb
    have hf11 := hf10.mv mv10.bag mvd nfhb
    have hc11 := hc10.mv mv10.bag mvd nclb
    have hm11 := hm10.mv mv10.bag mvd nlmb
    have ha11 := ha10.mv mv10.bag mvd napb
    refine ⟨_, rfl, ?_⟩
    rw [show ((1 : Int) + (n11 : Nat)) = ((1 + n11 : Nat) : Int) by omega]
    have hmany : 1 + n11 ≤ 4 := by omega
    generalize 1 + n11 = many at *
    refine rdSeq ?_
    walk_at "rd"
    refine ⟨by omega, by omega, ?_⟩
    rw [Int.toNat_natCast]
    refine i_for (walk_range (lo := 0) (n := many)) (fun k σ' H' => Mv b H H' ∧ LsF K H' lk (kn.map pfD) ∧ LsF K H' fh (own.map faceD) ∧ ∃ (cs : List Cl) (mts : List Mt) (aps : List Nat) (y8 y9 y17 y18 y19 y20 y21 y22 : Option V), LsF K H' cl (cs.map Cl.d) ∧ LsF K H' lm (mts.map Mt.d) ∧ LsF K H' ap (aps.map fun k : Nat => .int k) ∧ cs.length = k ∧ aps.length ≤ k ∧ GoodL ms own nm kn many cs mts aps ∧
      σ' = [some (.ref b), some (.str nm), some (.int ver), some (.ref ut), some (.ref u), some (.ref lk), y6, y7, y8, y9, some (.ref ow), some (.ref fh), y12, some (.ref cl), some (.ref lm), some (.ref ap), some (.int (many : Nat)), y17, y18, y19, y20, y21, y22, none])
      ⟨mv11, hk11, hf11, [], [], [], _, _, _, _, _, _, _, _, hc11, hm11, ha11, rfl, Nat.le_refl _, ⟨(fun _ _ h => by cases h), (fun _ h => by cases h), Nat.zero_le _, (fun _ h => by cases h)⟩, rfl⟩ (fun _ _ _ _ _ => trivial) ?_ ?_
    · rintro k x σ' H12 H13 hk ⟨mv12, hk12, hf12, cs, mts, aps, y8, y9, y17, y18, y19, y20, y21, y22, hc12, hm12, ha12, lc, la, gl, rfl⟩ ⟨rfl, rfl⟩
      simp only [List.set_cons_succ, List.set_cons_zero, Int.zero_add]
      refine rdCut (fun σ' H' => Mv b H13 H' ∧ ∃ par : Int, -1 ≤ par ∧ par ≤ k ∧ σ' = [some (.ref b), some (.str nm), some (.int ver), some (.ref ut), some (.ref u), some (.ref lk), y6, y7, y8, some (.int (k : Nat)), some (.ref ow), some (.ref fh), y12, some (.ref cl), some (.ref lm), some (.ref ap), some (.int (many : Nat)), some (.int par), y18, y19, y20, y21, y22, none]) ?_ ?_
      · simp only [tAsg, tIf]
        walk_at "rd"
        refine i_draw (Mv.refl mv12.bag) (by decide) (by decide) fun r H14 k0 k1 mvd _ => ⟨rfl, ite2 (fun h => ?_) (fun h => ?_)⟩
        · refine i_draw (Mv.refl mvd.bag) (by omega) (by omega) fun r2 H15 j0 j1 mve _ => ⟨_, rfl, ?_⟩
          exact ⟨mvd.trans mve, r2 - 1, by omega, by omega, rfl⟩
        · exact ⟨mvd, -1, by omega, by omega, rfl⟩
      rintro σ' H14 ⟨mv14, par, p1, p2, rfl⟩
      refine rdCut (fun σ' H' => H' = H14 ∧ ∃ par : Int, -1 ≤ par ∧ par < k ∧ σ' = [some (.ref b), some (.str nm), some (.int ver), some (.ref ut), some (.ref u), some (.ref lk), y6, y7, y8, some (.int (k : Nat)), some (.ref ow), some (.ref fh), y12, some (.ref cl), some (.ref lm), some (.ref ap), some (.int (many : Nat)), some (.int par), y18, y19, y20, y21, y22, none]) ?_ ?_
      · walk_at "rd"
        refine ite2 (fun h => ?_) (fun h => ?_)
        · exact ⟨-1, by omega, by omega, rfl⟩
        · exact ⟨par, by omega, by omega, rfl⟩
      rintro σ' H15 ⟨rfl, par, p1, p2, rfl⟩
      have hc15 := hc12.mv mv12.bag mv14 nclb
      refine rdSeq ?_
      walk_at "rd"
      intro q1 hq1
      have t1 := same_new (o := .tup []) hq1
      have e1 : Fr K (upd H15 q1 (.tup [])) (.ref q1) (.tuple (([] : List Kd).map Kd.d)) := .tup (.inl upd_same) .nil
      generalize upd H15 q1 (.tup []) = H16 at *
      refine rdSeq ?_
      walk_at "rd"
      intro q2 hq2
      have t2 := same_new (o := .tup []) hq2
      have e2 : Fr K (upd H16 q2 (.tup [])) (.ref q2) (.tuple (([] : List Rw).map Rw.d)) := .tup (.inl upd_same) .nil
      have e1 := e1.up (.of t2)
      have hc17 := (hc15.same t1).same t2
      generalize upd H16 q2 (.tup []) = H17 at *
      refine rdCut (fun σ' H' => H' = H17 ∧ ∃ (fv rv : V) (fds : List Kd) (rows : List Rw), Fr K H17 fv (.tuple (fds.map Kd.d)) ∧ Fr K H17 rv (.tuple (rows.map Rw.d)) ∧ ((par < 0 ∧ fds = [] ∧ rows = []) ∨ ∃ cp : Cl, cs[par.toNat]? = some cp ∧ 0 ≤ par ∧ fds = cp.fds ∧ rows = cp.tb) ∧
        σ' = [some (.ref b), some (.str nm), some (.int ver), some (.ref ut), some (.ref u), some (.ref lk), y6, y7, y8, some (.int (k : Nat)), some (.ref ow), some (.ref fh), y12, some (.ref cl), some (.ref lm), some (.ref ap), some (.int (many : Nat)), some (.int par), some fv, some rv, y20, y21, y22, none]) ?_ ?_
      · walk_at "rd"
        refine ite2 (fun h => ?_) (fun h => ?_)
        · obtain ⟨j, rfl⟩ := Int.eq_ofNat_of_zero_le h
          have hj : j < cs.length := by omega
          obtain ⟨cvs, hcv, fcv⟩ := hc17.ex
          obtain ⟨cx, hcx, fcx⟩ := fcv.get (i := j) (d := cs[j].d) (by rw [List.getElem?_map, List.getElem?_eq_getElem hj]; rfl)
          refine rdSeq ?_
          walk_at "rd"
          refine i_ixL (sqL_of hcv) (atI_nat hcx) (i_ixF (i := 3) fcx rfl fun fv hfv => ?_)
          refine i_ixL (sqL_of hcv) (atI_nat hcx) (i_ixF (i := 4) fcx rfl fun rv hrv => ?_)
          exact ⟨rfl, fv, rv, cs[j].fds, hfv, cs[j].tb, hrv, .inr ⟨cs[j], by rw [Int.toNat_natCast]; exact List.getElem?_eq_getElem hj, h, rfl, rfl⟩, rfl, rfl⟩
        · exact ⟨.ref q1, .ref q2, [], e1, [], e2, .inl ⟨by omega, rfl, rfl⟩, rfl, rfl⟩
      rintro σ' H18 ⟨rfl, fv, rv, fds, rows, hfv, hrv, hpar, rfl⟩
      refine rdSeq ?_
      walk_at "rd"
      intro nd hnd
      have mv18 := (mv12.trans mv14).then (t1.trans t2)
      obtain ⟨nnd, nndb⟩ := mv18.fresh hnd
      have hk18 := ((hk12.mv mv12.bag mv14 nlkb).same t1).same t2
      have hf18 := ((hf12.mv mv12.bag mv14 nfhb).same t1).same t2
      have hm18 := ((hm12.mv mv12.bag mv14 nlmb).same t1).same t2
      have ha18 := ((ha12.mv mv12.bag mv14 napb).same t1).same t2
      have nkn := hk18.ne hnd
      have nfn := hf18.ne hnd
      have nmn := hm18.ne hnd
      have nan := ha18.ne hnd
      have ncn := hc17.ne hnd
      have t3 := same_new (o := .lst []) hnd
      have hn19 : LsF K (upd H18 nd (.lst [])) nd (([] : List (Str × Str)).map fcD) := ⟨[], upd_same, .nil⟩
      have mv19 := mv18.then t3
      have hk19 := hk18.same t3
      have hf19 := hf18.same t3
      have hm19 := hm18.same t3
      have ha19 := ha18.same t3
      have hc19 := hc17.same t3
      have hfv := hfv.up (.of t3)
      have hrv := hrv.up (.of t3)
      generalize upd H18 nd (.lst []) = H19 at *
      refine rdSeq ?_
      walk_at "rd"
      obtain ⟨kv, hkv, fkv⟩ := hk19.ex
      have klen := fkv.len
      rw [List.length_map] at klen
      refine ⟨⟨_, sqL_of hkv⟩, ?_⟩
      refine i_for (walk_list (K := K) (a := lk) (xs := kv)) (fun i σ' H' => Mv b H H' ∧ TupK H19 H' ∧ H' lk = some (.lst kv) ∧ FrL K H' kv (kn.map pfD) ∧ LsF K H' fh (own.map faceD) ∧ LsF K H' lm (mts.map Mt.d) ∧ LsF K H' ap (aps.map fun k : Nat => .int k) ∧ LsF K H' cl (cs.map Cl.d) ∧
        ∃ (fcs : List (Str × Str)) (y8 : Option V), LsF K H' nd (fcs.map fcD) ∧ fcs.length ≤ i ∧ (∀ f ∈ fcs, f ∈ kn) ∧
        σ' = [some (.ref b), some (.str nm), some (.int ver), some (.ref ut), some (.ref u), some (.ref lk), y6, y7, y8, some (.int (k : Nat)), some (.ref ow), some (.ref fh), y12, some (.ref cl), some (.ref lm), some (.ref ap), some (.int (many : Nat)), some (.int par), some fv, some rv, some (.ref nd), y21, y22, none])
        ⟨mv19, TupK.refl _, hkv, fkv, hf19, hm19, ha19, hc19, [], _, hn19, Nat.le_refl _, (fun _ h => by cases h), rfl⟩ (fun i σ' H' _ h => sqL_of h.2.2.1) ?_ ?_
      · rintro i x σ' H20 H21 hi ⟨mv20, tk20, hk20, fk20, hf20, hm20, ha20, hc20, fcs, y8, hn20, fl20, fs20, rfl⟩ ⟨rfl, hx⟩
        have hi2 : i < kn.length := by omega
        obtain ⟨dd, hd2, fx⟩ := fk20.getV hx
        rw [List.getElem?_map, List.getElem?_eq_getElem hi2] at hd2
        cases hd2
        have hmem := List.getElem_mem hi2
        generalize kn[i] = f at *
        walk_at "rd"
        refine i_draw (Mv.refl mv20.bag) (by decide) (by decide) fun r H22 k0 k1 mvd _ => ⟨rfl, ite2 (fun h => ?_) (fun h => ?_)⟩
        · have hn22 := hn20.mv mv20.bag mvd nndb
          obtain ⟨nv, hnv, fnv⟩ := hn22.ex
          refine ⟨.inl ⟨rfl, _, sqL_of hnv⟩, fun p hp => ?_⟩
          have u1 := same_new (o := .tup [.str (Str.ofString "face")]) hp
          have fp : Fr K (upd H22 p (.tup [.str (Str.ofString "face")])) (.ref p) (.tuple [.str "face"]) := .tup (.inl upd_same) (.cons (.str _) .nil)
          generalize upd H22 p (.tup [.str (Str.ofString "face")]) = H23 at *
          refine i_catF fp ((fx.up (.mv mv20.bag mvd)).up (.of u1)) (line5 (by show 1 + 2 ≤ 100000; decide)) fun w H24 s24 fw => ?_
          have u2 := u1.trans s24
          have mv24 := (mv20.trans mvd).then u2
          refine (hn22.same u2).app (d := fcD f) fw (by rw [List.length_map]; exact line5' (by omega)) fun o hex hf25 => ?_
          obtain ⟨_, hx⟩ := hex
          have tk25 : TupK H24 (upd H24 nd o) := TupK.mut hx (fun _ h => nomatch h)
          have hk24 := u2 _ _ (mvd.old lk _ nlkb hk20)
          refine ⟨mv24.own nnd nndb, (tk20.trans (.mv mv20.bag mvd)).trans ((TupK.of u2).trans tk25), (upd_ne nkn).trans hk24, ((fk20.up (.mv mv20.bag mvd)).up (.of u2)).up tk25, ((hf20.mv mv20.bag mvd nfhb).same u2).set hx (fun _ h => nomatch h) nfn, ((hm20.mv mv20.bag mvd nlmb).same u2).set hx (fun _ h => nomatch h) nmn, ((ha20.mv mv20.bag mvd napb).same u2).set hx (fun _ h => nomatch h) nan, ((hc20.mv mv20.bag mvd nclb).same u2).set hx (fun _ h => nomatch h) ncn, fcs ++ [f], by rw [List.map_append]; exact hf25, by simp; omega, fun g hg => ?_⟩
          rcases List.mem_append.mp hg with hg | hg
          · exact fs20 g hg
          · rw [List.mem_singleton.mp hg]; exact hmem
        · have s2 : TupK _ _ := .mv mv20.bag mvd
          exact ⟨mv20.trans mvd, tk20.trans s2, mvd.old lk _ nlkb hk20, fk20.up s2, hf20.mv mv20.bag mvd nfhb, hm20.mv mv20.bag mvd nlmb, ha20.mv mv20.bag mvd napb, hc20.mv mv20.bag mvd nclb, fcs, hn20.mv mv20.bag mvd nndb, by omega, fs20⟩
      · rintro σ' H20 ⟨mv20, tk20, hk20, fk20, hf20, hm20, ha20, hc20, fcs, y8, hn20, fl20, fs20, rfl⟩
        rw [klen] at fl20
        dsimp only
        refine rdSeq ?_
        walk_at "rd"
        have hk20 : LsF K H20 lk (kn.map pfD) := ⟨_, hk20, fk20⟩
        refine i_draw (Mv.refl mv20.bag) (by decide) (by decide) fun r H21 k0 k1 mvd _ => ?_
        obtain ⟨nf, rfl⟩ := Int.eq_ofNat_of_zero_le k0
        have mv21 := mv20.trans mvd
        have hk21 := hk20.mv mv20.bag mvd nlkb
        refine ⟨_, rfl, by omega, by omega, ?_⟩
        rw [Int.toNat_natCast]
        refine i_lcDF (K := K) (walk_range (lo := 0) (n := nf)) Kd.d (fun _ k => GoodK kn many k) mv21.bag (line5' (by omega)) (fun _ _ => trivial) (fun _ _ _ _ y => y.1) (fun i x H2 Q' hi hy mv qq => ?_) (fun D H22 ks hD mv22 hD2 hl hP => ?_)
        · walk_at "rd"
          exact ⟨b, lk, kn, many, rfl, (mv21.trans mv).bag, hk21.mv mv21.bag mv nlkb, nlkb, by omega, by omega, fun v H3 k mv3 fv gk => qq v H3 k fv gk mv3⟩
        · walk_at "rd"
          have fdl : fds.length ≤ 2 * k ∧ ∀ d ∈ fds, GoodK kn many d := by
            rcases hpar with ⟨_, rfl, _⟩ | ⟨cp, hcp, h0, rfl, _⟩
            · exact ⟨Nat.zero_le _, fun _ h => by cases h⟩
            · have gc := gl.cls _ _ hcp
              have := gc.fdl
              exact ⟨by omega, gc.fds⟩
          have tkd := tk20.trans ((TupK.mv mv20.bag mvd).trans (.mv mv21.bag mv22))
          obtain ⟨dv, hdv, fdv⟩ := hD2.ex
          refine ⟨_, .inl ⟨sqL_of hdv, fun p2 hp2 => ?_⟩⟩
          have s23 := same_new (o := .tup dv) hp2
          have fp : Fr K (upd H22 p2 (.tup dv)) (.ref p2) (.tuple (ks.map Kd.d)) := .tup (.inl upd_same) (fdv.up (.of s23))
          generalize upd H22 p2 (.tup dv) = H23 at *
          refine i_catF ((hfv.up tkd).up (.of s23)) fp (line5 (by rw [List.length_map, List.length_map]; omega)) fun w H24 s24 fw => ?_
          rw [← List.map_append] at fw
          have s2 := s23.trans s24
          have mv24 := (mv21.trans mv22).then s2
          have tk24 := tkd.trans (.of s2)
          have hk24 := ((hk21.mv mv21.bag mv22 nlkb)).same s2
          have hf24 := ((hf20.mv mv20.bag mvd nfhb).mv mv21.bag mv22 nfhb).same s2
          have hm24 := ((hm20.mv mv20.bag mvd nlmb).mv mv21.bag mv22 nlmb).same s2
          have ha24 := ((ha20.mv mv20.bag mvd napb).mv mv21.bag mv22 napb).same s2
          have hc24 := ((hc20.mv mv20.bag mvd nclb).mv mv21.bag mv22 nclb).same s2
          have hn24 := ((hn20.mv mv20.bag mvd nndb).mv mv21.bag mv22 nndb).same s2
          have hrv24 := hrv.up tk24
          refine rdSeq ?_
          walk_at "rd"
          refine i_draw (Mv.refl mv24.bag) (by decide) (by decide) fun r25 H25 _ _ mve _ => ⟨rfl, ?_⟩
          have mv25 := mv24.trans mve
          have hk25 := hk24.mv mv24.bag mve nlkb
          have hf25 := hf24.mv mv24.bag mve nfhb
          have hm25 := hm24.mv mv24.bag mve nlmb
          have ha25 := ha24.mv mv24.bag mve napb
          have hc25 := hc24.mv mv24.bag mve nclb
          have hn25 := hn24.mv mv24.bag mve nndb
          have hrv25 := hrv24.up (.mv mv24.bag mve)
          have fw25 := fw.up (.mv mv24.bag mve)
          have hu25 := hd.mv hB mv25 nub
          generalize decide (V.int r25 = V.int 0) = app at *
          refine rdSeq ?_
          walk_at "rd"
          have hl20 : (headsOf own ms nm fcs).length ≤ 32 := by
            have h1 : (headsOf own ms nm fcs).length ≤ fcs.length * 4 := flat_len fun f _ => by
              have fw : Few (fcsFor own ms nm f.1) := by
                unfold fcsFor
                split
                · exact few
                · split
                  · rename_i m hm
                    exact fewM m (List.mem_of_find?_eq_some hm)
                  · exact ⟨Nat.zero_le _, fun _ h => by cases h⟩
              have := fw.take f.2 (fcsFor own ms nm f.1).length
              rwa [List.take_length] at this
            omega
          have rwl : rows.length ≤ 60 * k ∧ ∀ r ∈ rows, HdSrc ms own nm kn r.h := by
            rcases hpar with ⟨_, _, rfl⟩ | ⟨cp, hcp, h0, _, rfl⟩
            · exact ⟨Nat.zero_le _, fun _ h => by cases h⟩
            · have gc := gl.cls _ _ hcp
              have := gc.tbl
              exact ⟨by omega, gc.src⟩
          refine ⟨fh, u, nd, nm, own, ms, fcs, rfl, hf25, hu25, hn25, fun f hf => hkm f (fs20 f hf), few, fewM, by omega, fun lh H26 hlh s26 hh26 => ?_⟩
          obtain ⟨nlh, nlhb⟩ := mv25.fresh hlh
          have nmh := hm25.ne hlh
          have nkh := hk25.ne hlh
          have mv26 := mv25.then s26
          have glm := gl.ml
          refine ⟨b, k, rv, rows, lh, headsOf own ms nm fcs, lm, mts, app, lk, kn, rfl, mv26.bag, hrv25.up (.of s26), hh26, hm25.same s26, hk25.same s26, nlhb, nlmb, nlkb, nmh.symm, nkm, nkh.symm, by omega, by omega, by omega, by omega, by omega, fun tv H27 tb mts2 m27 ftb hm27 ok => ?_⟩
          have mv27 := mv26.ms m27 nlm
          have hk27 := (hk25.same s26).ms m27 nlkb nkm
          have hf27 := (hf25.same s26).ms m27 nfhb nfm
          have hc27 := (hc25.same s26).ms m27 nclb ncm
          have ha27 := (ha25.same s26).ms m27 napb nma.symm
          have hn27 := (hn25.same s26).ms m27 nndb nmn.symm
          have fw27 := (fw25.up (.of s26)).up m27.tk
          refine rdCut (fun σ' H' => Mv b H H' ∧ TupK H27 H' ∧ LsF K H' lk (kn.map pfD) ∧ LsF K H' fh (own.map faceD) ∧ LsF K H' cl (cs.map Cl.d) ∧ LsF K H' lm (mts2.map Mt.d) ∧ LsF K H' nd (fcs.map fcD) ∧ ∃ aps2 : List Nat, LsF K H' ap (aps2.map fun k : Nat => .int k) ∧ (aps2 = aps ∨ app = true ∧ aps2 = aps ++ [k]) ∧
            σ' = [some (.ref b), some (.str nm), some (.int ver), some (.ref ut), some (.ref u), some (.ref lk), y6, y7, y8, some (.int (k : Nat)), some (.ref ow), some (.ref fh), y12, some (.ref cl), some (.ref lm), some (.ref ap), some (.int (many : Nat)), some (.int par), some w, some rv, some (.ref nd), some (.bl app), some tv, none]) ?_ ?_
          · walk_at "rd"
            refine ite2 (fun h => ?_) (fun _ => ⟨mv27, .refl _, hk27, hf27, hc27, hm27, hn27, aps, ha27, .inl rfl⟩)
            obtain ⟨av, hav, _⟩ := ha27.ex
            have nt : ∀ xs, HO.lst av ≠ .tup xs := fun _ h => nomatch h
            refine ⟨.inl ⟨rfl, _, sqL_of hav⟩, ha27.app (d := .int k) (.int _) (by rw [List.length_map]; exact line5' (by omega)) fun o hex ha28 => ?_⟩
            exact ⟨mv27.own nap napb, TupK.mut hav nt, hk27.set hav nt nka, hf27.set hav nt nfa, hc27.set hav nt nca, hm27.set hav nt nma, hn27.set hav nt nan.symm, aps ++ [k], by rw [List.map_append]; exact ha28, .inr ⟨h, rfl⟩⟩
          rintro σ' H28 ⟨mv28, tk28, hk28, hf28, hc28, hm28, hn28, aps2, ha28, ea, rfl⟩
          walk_at "rd"
          obtain ⟨cvs, hcv, _⟩ := hc28.ex
          obtain ⟨nvs, hnv, fnv⟩ := hn28.ex
          have li4 : (Str.ofString (toString (k : Int))).length ≤ 4 := num4 (by omega)
          have l1 : (Str.ofString "C").length = 1 := by decide +kernel
          refine ⟨.inl ⟨rfl, _, sqL_of hcv⟩, log_s (by omega), by omega, nvs, .inl ⟨sqL_of hnv, fun pt hpt p hp => ?_⟩⟩
          have u1 := same_new (o := .tup nvs) hpt
          have f1 : Fr K (upd H28 pt (.tup nvs)) (.ref pt) (.tuple (fcs.map fcD)) := .tup (.inl upd_same) (fnv.up (.of u1))
          generalize upd H28 pt (.tup nvs) = G1 at *
          have u2 := same_new (o := .tup [.str (Str.ofString "C" ++ Str.ofString (toString (k : Int))), .int par, .ref pt, w, tv]) hp
          have fc : Fr K (upd G1 p (.tup [.str (Str.ofString "C" ++ Str.ofString (toString (k : Int))), .int par, .ref pt, w, tv])) (.ref p) (Cl.d ⟨clN k, par, fcs, fds ++ ks, tb⟩) :=
            .tup (.inl upd_same) (.cons (.str _) (.cons (.int _) (.cons (f1.up (.of u2)) (.cons (((fw27.up tk28).up (.of u1)).up (.of u2)) (.cons (((ftb.up tk28).up (.of u1)).up (.of u2)) .nil)))))
          generalize upd G1 p (.tup [.str (Str.ofString "C" ++ Str.ofString (toString (k : Int))), .int par, .ref pt, w, tv]) = G2 at *
          have u12 := u1.trans u2
          refine (hc28.same u12).app fc (by rw [List.length_map]; exact line5' (by omega)) fun o hex hc31 => ?_
          obtain ⟨xv, hx⟩ := hex
          have nt : ∀ xs, HO.lst xv ≠ .tup xs := fun _ h => nomatch h
          refine ⟨(mv28.then u12).own ncl nclb, (hk28.same u12).set hx nt nkc, (hf28.same u12).set hx nt nfc, cs ++ [⟨clN k, par, fcs, fds ++ ks, tb⟩], by rw [List.map_append]; exact hc31, mts2, (hm28.same u12).set hx nt ncm.symm, aps2, (ha28.same u12).set hx nt nca.symm, by simp [lc], ?_, ?_⟩
          · rcases ea with rfl | ⟨_, rfl⟩
            · omega
            · rw [List.length_append, List.length_singleton]; omega
          · subst lc
            have okl := ok.len
            refine gl.add ⟨rfl, p1, p2, by show fcs.length ≤ 8; omega, fs20, ?_, fun d hd => ?_, ?_, fun r hr => ?_, fun p cp e hcp r hr => ?_, fun h hh => ok.has h (.inl hh)⟩ (by omega) ok.mt ok.ml ?_
            · show (fds ++ ks).length ≤ _
              rw [List.length_append]
              have := fdl.1
              omega
            · rcases List.mem_append.mp hd with hd | hd
              · exact fdl.2 d hd
              · obtain ⟨i, hi, rfl⟩ := List.mem_iff_getElem.mp hd
                exact hP i _ (List.getElem?_eq_getElem hi)
            · show tb.length ≤ _
              omega
            · rcases ok.src r hr with h | h | ⟨_, h⟩ | ⟨h1, j, h2, h3⟩
              · obtain ⟨r2, hr2, e2⟩ := List.mem_map.mp h
                rw [← e2]; exact rwl.2 r2 hr2
              · obtain ⟨f, hf, h⟩ := List.mem_flatMap.mp h
                exact .inl ⟨f, fs20 f hf, h⟩
              · exact h.elim (fun h => .inr (.inl h)) (fun h => .inr (.inr (.inl h)))
              · exact .inr (.inr (.inr ⟨h1, _, by omega, j, h2, h3⟩))
            · have e : par = p := e
              rcases hpar with ⟨h, _⟩ | ⟨cp2, hcp2, h0, _, erw⟩
              · omega
              · have ep : par.toNat = p := by omega
                rw [ep, hcp] at hcp2
                cases hcp2
                have hm : r.h ∈ (tb.map Rw.h).take rows.length := by
                  rw [ok.pre, erw]; exact List.mem_map.mpr ⟨r, hr, rfl⟩
                exact List.mem_map.mp (List.mem_of_mem_take hm)
            · rcases ea with h | ⟨h1, h2⟩
              · exact .inl h
              · exact .inr ⟨⟨ok.has _ (.inr ⟨h1, .inl rfl⟩), ok.has _ (.inr ⟨h1, .inr rfl⟩)⟩, h2⟩
    · rintro σ' H12 ⟨mv12, hk12, hf12, cs, mts, aps, y8, y9, y17, y18, y19, y20, y21, y22, hc12, hm12, ha12, lc, la, gl, rfl⟩
      walk_at "rd"
      obtain ⟨fv, hfv, ffv⟩ := hf12.ex
      refine ⟨fv, .inl ⟨sqL_of hfv, fun p1 hp1 => ?_⟩⟩
      have u1 := same_new (o := .tup fv) hp1
      have g1 : Fr K (upd H12 p1 (.tup fv)) (.ref p1) (.tuple (own.map faceD)) := .tup (.inl upd_same) (ffv.up (.of u1))
      have hc13 := hc12.same u1
      have hm13 := hm12.same u1
      have ha13 := ha12.same u1
      generalize upd H12 p1 (.tup fv) = H13 at *
      obtain ⟨cv, hcv, fcv⟩ := hc13.ex
      refine ⟨cv, .inl ⟨sqL_of hcv, fun p2 hp2 => ?_⟩⟩
      have u2 := same_new (o := .tup cv) hp2
      have g2 : Fr K (upd H13 p2 (.tup cv)) (.ref p2) (.tuple (cs.map Cl.d)) := .tup (.inl upd_same) (fcv.up (.of u2))
      have hm14 := hm13.same u2
      have ha14 := ha13.same u2
      generalize upd H13 p2 (.tup cv) = H14 at *
      obtain ⟨mv, hmv, fmv⟩ := hm14.ex
      refine ⟨mv, .inl ⟨sqL_of hmv, fun p3 hp3 => ?_⟩⟩
      have u3 := same_new (o := .tup mv) hp3
      have g3 : Fr K (upd H14 p3 (.tup mv)) (.ref p3) (.tuple (mts.map Mt.d)) := .tup (.inl upd_same) (fmv.up (.of u3))
      have ha15 := ha14.same u3
      generalize upd H14 p3 (.tup mv) = H15 at *
      obtain ⟨av, hav, fav⟩ := ha15.ex
      refine ⟨av, .inl ⟨sqL_of hav, fun p4 hp4 p5 hp5 => ?_⟩⟩
      have u4 := same_new (o := .tup av) hp4
      have g4 : Fr K (upd H15 p4 (.tup av)) (.ref p4) (.tuple (aps.map fun k : Nat => .int k)) := .tup (.inl upd_same) (fav.up (.of u4))
      generalize upd H15 p4 (.tup av) = H16 at *
      have u5 := same_new (o := .tup [.str (Str.ofString "module"), .str nm, .int ver, .ref ut, .ref p1, .ref p2, .ref p3, .ref p4]) hp5
      have s5 := u1.trans (u2.trans (u3.trans (u4.trans u5)))
      have mvZ := mv12.then s5
      have tkZ : TupK H _ := .mv hB mvZ
      have gu : Fr K H (.ref ut) (.tuple (uses.map useD)) := .tup usq ufl
      refine q _ _ ⟨nm, ver, uses, own, cs, mts, aps⟩ mvZ (.tup (.inl upd_same) (.cons (.str _) (.cons (.str _) (.cons (.int _) (.cons (gu.up tkZ) (.cons (g1.up (.of (u2.trans (u3.trans (u4.trans u5))))) (.cons (g2.up (.of (u3.trans (u4.trans u5)))) (.cons (g3.up (.of (u4.trans u5))) (.cons (g4.up (.of u5)) .nil))))))))) rfl rfl rfl ?_
      have ek : knOf ms ⟨nm, ver, uses, own, cs, mts, aps⟩ = kn := by
        show usesKn ms uses ++ (List.range own.length).map (fun i => (nm, fN i)) = kn
        rw [hkn1, lo]; exact hkn
      have gl2 : GoodL ms own nm kn cs.length cs mts aps := by rw [lc]; exact gl
      exact ⟨by rw [ek]; exact go, few, by rw [ek]; exact gl2, by show cs.length ≤ 4; omega, by show aps.length ≤ 4; omega, hus, ul, by rw [ek]; exact knl⟩

/-! ### the names of what is drawn -/
def pkN (i : Nat) : Str := (["Purse", "Shop", "Gate"] : List Str).getD i ""
theorem pk_inj : ∀ a < 3, ∀ b < 3, pkN a = pkN b → a = b := by decide +kernel
theorem fn_inj : ∀ a < 2, ∀ b < 2, fN a = fN b → a = b := by decide +kernel
theorem cl_inj : ∀ a < 4, ∀ b < 4, clN a = clN b → a = b := by decide +kernel
def hdC (c : Nat) : Str := hdN (pkN (c / 4)) (c / 2 % 2) (c % 2)
theorem hdC_inj : ∀ c < 12, ∀ d < 12, hdC c = hdC d → c = d := by decide +kernel
theorem hdC_oth : ∀ c < 12, hdC c ≠ madeH.nm ∧ hdC c ≠ procH.nm ∧ ∀ e < 8, hdC c ≠ ownN (e / 2) (e % 2) := by decide +kernel
theorem hdC_eq {a i j : Nat} (h1 : i < 2) (h2 : j < 2) : hdC (4 * a + 2 * i + j) = hdN (pkN a) i j := by
  unfold hdC
  rw [show (4 * a + 2 * i + j) / 4 = a by omega, show (4 * a + 2 * i + j) / 2 % 2 = i by omega, show (4 * a + 2 * i + j) % 2 = j by omega]
theorem hd_inj (a : Nat) (ha : a < 3) (i : Nat) (hi : i < 2) (j : Nat) (hj : j < 2) (a' : Nat) (ha' : a' < 3) (i' : Nat) (hi' : i' < 2) (j' : Nat) (hj' : j' < 2) (e : hdN (pkN a) i j = hdN (pkN a') i' j') : a = a' ∧ i = i' ∧ j = j' := by
  rw [← hdC_eq hi hj, ← hdC_eq hi' hj'] at e
  have := hdC_inj _ (by omega) _ (by omega) e
  omega
theorem hd_oth (a : Nat) (ha : a < 3) (i : Nat) (hi : i < 2) (j : Nat) (hj : j < 2) : hdN (pkN a) i j ≠ madeH.nm ∧ hdN (pkN a) i j ≠ procH.nm ∧ ∀ k < 4, ∀ l < 2, hdN (pkN a) i j ≠ ownN k l := by
  rw [← hdC_eq hi hj]
  obtain ⟨h1, h2, h3⟩ := hdC_oth (4 * a + 2 * i + j) (by omega)
  refine ⟨h1, h2, fun k hk l hl => ?_⟩
  have := h3 (2 * k + l) (by omega)
  rwa [show (2 * k + l) / 2 = k by omega, show (2 * k + l) % 2 = l by omega] at this
theorem own_oth : ∀ k < 4, ∀ l < 2, ownN k l ≠ madeH.nm ∧ ownN k l ≠ procH.nm := by decide +kernel
theorem made_proc : madeH.nm ≠ procH.nm := by decide +kernel
theorem pk_str : ∀ a < 3, PyData.strOk (pkN a) = true ∧ pkN a ≠ Str.ofString "None" := by decide +kernel
theorem fn_str : ∀ a < 2, PyData.strOk (fN a) = true ∧ fN a ≠ Str.ofString "None" := by decide +kernel
theorem cl_str : ∀ a < 4, PyData.strOk (clN a) = true ∧ clN a ≠ Str.ofString "None" := by decide +kernel
theorem pk_len : ∀ a < 3, (pkN a).length ≤ 10 := by decide +kernel
theorem hd_str : ∀ a < 3, ∀ i < 2, ∀ j < 2, PyData.strOk (hdN (pkN a) i j) = true := by decide +kernel
theorem own_str : ∀ k < 4, ∀ l < 2, PyData.strOk (ownN k l) = true := by decide +kernel
theorem made_str : PyData.strOk madeH.nm = true ∧ PyData.strOk procH.nm = true := by decide +kernel
/-- drawn modules, in order -/
structure GoodMs (ix : Nat → Nat) (ms : List Md) : Prop where
  ln : ms.length ≤ 3
  lt3 : ∀ i < 3, ix i < 3
  ij : ∀ i < 3, ∀ j < 3, ix i = ix j → i = j
  md : ∀ (i : Nat) m, ms[i]? = some m → m.nm = pkN (ix i) ∧ GoodM (ms.take i) m ∧ ∀ x ∈ m.uses, ∃ y ∈ ms.take i, x = (y.nm, y.ver)
theorem take_at {α : Type} {l : List α} {i : Nat} {x : α} (h : x ∈ l.take i) : ∃ j < i, l[j]? = some x := by
  obtain ⟨j, hj, e⟩ := List.mem_iff_getElem.mp h
  rw [List.length_take] at hj
  refine ⟨j, by omega, ?_⟩
  rw [List.getElem_take] at e
  rw [← e]
  exact List.getElem?_eq_getElem (by omega)
theorem hdsIn_at {fcs : List (Str × List Hd)} {f : Str} {h : Hd} (hh : h ∈ hdsIn fcs f) : ∃ (i : Nat) (g : Str × List Hd) (j : Nat), fcs[i]? = some g ∧ g.1 = f ∧ g.2[j]? = some h := by
  obtain ⟨g, hg, h1⟩ := List.mem_flatMap.mp hh
  obtain ⟨i, hi, e⟩ := List.mem_iff_getElem.mp hg
  by_cases c : g.1 = f
  · rw [if_pos c] at h1
    obtain ⟨j, hj, e2⟩ := List.mem_iff_getElem.mp h1
    exact ⟨i, g, j, by rw [← e]; exact List.getElem?_eq_getElem hi, c, by rw [← e2]; exact List.getElem?_eq_getElem hj⟩
  · rw [if_neg c] at h1; cases h1
section
variable {ms : List Md} {ix : Nat → Nat} (G : GoodMs ix ms)
include G
theorem GoodMs.lt {i : Nat} {m : Md} (h : ms[i]? = some m) : i < 3 := by
  have := G.ln
  have := (List.getElem?_eq_some_iff.mp h).1
  omega
theorem GoodMs.one {i j : Nat} {x y : Md} (hx : ms[i]? = some x) (hy : ms[j]? = some y) (e : x.nm = y.nm) : i = j := by
  have h1 := (G.md i x hx).1
  have h2 := (G.md j y hy).1
  exact G.ij i (G.lt hx) j (G.lt hy) (pk_inj (ix i) (G.lt3 i (G.lt hx)) (ix j) (G.lt3 j (G.lt hy)) (by rw [← h1, ← h2, e]))
theorem GoodMs.find {i j : Nat} {y : Md} (hy : ms[j]? = some y) (hj : j < i) : findM (ms.take i) y.nm = some y := by
  have hm : y ∈ ms.take i := by
    obtain ⟨h1, h2⟩ := List.getElem?_eq_some_iff.mp hy
    rw [← h2, ← List.getElem_take (i := j) (j := i) (h := by rw [List.length_take]; omega)]
    exact List.getElem_mem _
  obtain ⟨z, hz⟩ := findM_in (ms := ms.take i) (n := y.nm) (List.mem_map.mpr ⟨y, hm, rfl⟩)
  have e := findM_nm hz
  obtain ⟨k, hk, hk2⟩ := take_at (List.mem_of_find?_eq_some hz)
  have := G.one hk2 hy e
  subst this
  rw [hy] at hk2
  cases hk2
  exact hz
theorem GoodMs.found {i : Nat} {p : Str} {y : Md} (h : findM (ms.take i) p = some y) : ∃ j < i, ms[j]? = some y ∧ y.nm = p := by
  obtain ⟨k, hk, hk2⟩ := take_at (List.mem_of_find?_eq_some h)
  exact ⟨k, hk, hk2, findM_nm h⟩
/-- where the faces that a module can see stand -/
theorem GoodMs.seen {i : Nat} {m : Md} (hm : ms[i]? = some m) {p : Str} {l : Nat} {g : Str × List Hd} (h : (fcsFor m.fcs (ms.take i) m.nm p)[l]? = some g) : ∃ (j : Nat) (y : Md), j ≤ i ∧ ms[j]? = some y ∧ y.nm = p ∧ y.fcs[l]? = some g := by
  unfold fcsFor at h
  split at h
  · rename_i e
    exact ⟨i, m, Nat.le_refl _, hm, e.symm, h⟩
  · split at h
    · rename_i y hy
      obtain ⟨j, hj, e1, e2⟩ := G.found hy
      exact ⟨j, y, by omega, e1, e2, h⟩
    · cases h
theorem GoodMs.face {i : Nat} {m : Md} (hm : ms[i]? = some m) {l : Nat} {g : Str × List Hd} (h : m.fcs[l]? = some g) : l < 2 ∧ g.1 = fN l ∧ 1 ≤ g.2.length ∧ g.2.length ≤ 2 ∧ ∀ (j : Nat) h, g.2[j]? = some h → j < 2 ∧ h.nm = hdN (pkN (ix i)) l j ∧ GoodH (knOf (ms.take i) m) h := by
  obtain ⟨e, gm, _⟩ := G.md i m hm
  have gf := gm.fcs l g h
  have h1 := gm.few.1
  have h2 := (List.getElem?_eq_some_iff.mp h).1
  refine ⟨by omega, gf.en, gf.lo, gf.hi, fun j hd hj => ?_⟩
  have h3 := (List.getElem?_eq_some_iff.mp hj).1
  have := gf.hi
  obtain ⟨g1, g2⟩ := gf.hd j hd hj
  exact ⟨by omega, by rw [← e]; exact g2, g1⟩
/-- heads of the same name are the same -/
theorem GoodMs.hdOne {i : Nat} {m : Md} (hm : ms[i]? = some m) {p f p' f' : Str} {h h' : Hd} (h1 : h ∈ hdsIn (fcsFor m.fcs (ms.take i) m.nm p) f) (h2 : h' ∈ hdsIn (fcsFor m.fcs (ms.take i) m.nm p') f') (e : h.nm = h'.nm) : h = h' := by
  obtain ⟨l, g, j, e1, e2, e3⟩ := hdsIn_at h1
  obtain ⟨l', g', j', e1', e2', e3'⟩ := hdsIn_at h2
  obtain ⟨a, y, ha, hy, ep, hg⟩ := G.seen hm e1
  obtain ⟨a', y', ha', hy', ep', hg'⟩ := G.seen hm e1'
  obtain ⟨hl, _, _, _, hj⟩ := G.face hy hg
  obtain ⟨hl', _, _, _, hj'⟩ := G.face hy' hg'
  obtain ⟨j1, n1, _⟩ := hj _ _ e3
  obtain ⟨j1', n1', _⟩ := hj' _ _ e3'
  rw [n1, n1'] at e
  obtain ⟨ea, rfl, rfl⟩ := hd_inj (ix a) (G.lt3 a (G.lt hy)) l hl j j1 (ix a') (G.lt3 a' (G.lt hy')) l' hl' j' j1' e
  have ea := G.ij a (G.lt hy) a' (G.lt hy') ea
  subst ea
  rw [hy] at hy'; cases hy'
  rw [hg] at hg'; cases hg'
  rw [e3] at e3'; cases e3'; rfl
theorem GoodMs.hdAt {i : Nat} {m : Md} (hm : ms[i]? = some m) {p f : Str} {h : Hd} (h1 : h ∈ hdsIn (fcsFor m.fcs (ms.take i) m.nm p) f) : ∃ a < 3, ∃ l < 2, ∃ j < 2, h.nm = hdN (pkN (ix a)) l j ∧ ∃ y, a ≤ i ∧ ms[a]? = some y ∧ GoodH (knOf (ms.take a) y) h := by
  obtain ⟨l, g, j, e1, e2, e3⟩ := hdsIn_at h1
  obtain ⟨a, y, ha, hy, ep, hg⟩ := G.seen hm e1
  obtain ⟨hl, _, _, _, hj⟩ := G.face hy hg
  obtain ⟨j1, n1, gh⟩ := hj _ _ e3
  exact ⟨a, G.lt hy, l, hl, j, j1, n1, y, ha, hy, gh⟩
theorem GoodMs.src {i : Nat} {m : Md} (hm : ms[i]? = some m) {kn : List (Str × Str)} {p f : Str} {h h' : Hd} (h1 : HdSrc (ms.take i) m.fcs m.nm kn h) (h2 : h' ∈ hdsIn (fcsFor m.fcs (ms.take i) m.nm p) f) (e : h.nm = h'.nm) : h = h' := by
  rcases h1 with ⟨g, _, hg⟩ | h1
  · exact G.hdOne hm hg h2 e
  · obtain ⟨a, ha, l, hl, j, hj, en, _⟩ := G.hdAt hm h2
    obtain ⟨o1, o2, o3⟩ := hd_oth (ix a) (G.lt3 a ha) l hl j hj
    rw [en] at e
    rcases h1 with rfl | rfl | ⟨_, k, hk, j2, hj2, eo⟩
    · exact absurd e.symm o1
    · exact absurd e.symm o2
    · exact absurd (e.symm.trans eo) (o3 k hk j2 hj2)
theorem GoodMs.srcM {i : Nat} {m : Md} (hm : ms[i]? = some m) {kn : List (Str × Str)} {h : Hd} (h1 : HdSrc (ms.take i) m.fcs m.nm kn h) : (h.nm = madeH.nm → h = madeH) ∧ (h.nm = procH.nm → h = procH) := by
  rcases h1 with ⟨g, _, hg⟩ | rfl | rfl | ⟨_, k, hk, j2, hj2, eo⟩
  · obtain ⟨a, ha, l, hl, j, hj, en, _⟩ := G.hdAt hm hg
    obtain ⟨o1, o2, o3⟩ := hd_oth (ix a) (G.lt3 a ha) l hl j hj
    exact ⟨fun e => absurd (en.symm.trans e) o1, fun e => absurd (en.symm.trans e) o2⟩
  · exact ⟨fun _ => rfl, fun e => absurd e made_proc⟩
  · exact ⟨fun e => absurd e.symm made_proc, fun _ => rfl⟩
  · obtain ⟨o1, o2⟩ := own_oth k hk j2 hj2
    exact ⟨fun e => absurd (eo.symm.trans e) o1, fun e => absurd (eo.symm.trans e) o2⟩
theorem GoodMs.kn {i : Nat} {m : Md} (hm : ms[i]? = some m) {x : Str × Str} (hx : x ∈ knOf (ms.take i) m) : ∃ (j : Nat) (y : Md) (l : Nat) (g : Str × List Hd), j ≤ i ∧ ms[j]? = some y ∧ y.nm = x.1 ∧ y.fcs[l]? = some g ∧ g.1 = x.2 := by
  rcases List.mem_append.mp hx with hx | hx
  · obtain ⟨u, hu, hx⟩ := List.mem_flatMap.mp hx
    obtain ⟨g, hg, rfl⟩ := List.mem_map.mp hx
    unfold facesAt at hg
    split at hg
    · rename_i y hy
      obtain ⟨j, hj, e1, e2⟩ := G.found hy
      obtain ⟨l, hl, e⟩ := List.mem_iff_getElem.mp hg
      exact ⟨j, y, l, g, by omega, e1, e2, by rw [← e]; exact List.getElem?_eq_getElem hl, rfl⟩
    · cases hg
  · obtain ⟨l, hl, rfl⟩ := List.mem_map.mp hx
    have hl := List.mem_range.mp hl
    exact ⟨i, m, l, m.fcs[l], Nat.le_refl _, hm, rfl, List.getElem?_eq_getElem hl, (G.face hm (List.getElem?_eq_getElem hl)).2.1⟩
theorem GoodMs.knS {i : Nat} {m : Md} (hm : ms[i]? = some m) {x : Str × Str} (hx : x ∈ knOf (ms.take i) m) : PyData.strOk x.1 = true ∧ PyData.strOk x.2 = true := by
  obtain ⟨j, y, l, g, _, hy, e1, hg, e2⟩ := G.kn hm hx
  obtain ⟨hl, e3, _⟩ := G.face hy hg
  rw [← e1, ← e2, (G.md j y hy).1, e3]
  exact ⟨(pk_str (ix j) (G.lt3 j (G.lt hy))).1, (fn_str l hl).1⟩
theorem GoodMs.ffind {i : Nat} {m : Md} (hm : ms[i]? = some m) {l : Nat} {g : Str × List Hd} (hg : m.fcs[l]? = some g) : m.fcs.find? (fun x => decide (x.1 = g.1)) = some g := by
  cases h : m.fcs.find? (fun x => decide (x.1 = g.1)) with
  | none => exact absurd (decide_eq_true rfl) (List.find?_eq_none.mp h g (List.mem_of_getElem? hg))
  | some x =>
    have e : x.1 = g.1 := of_decide_eq_true (List.find?_some (p := fun x : Str × List Hd => decide (x.1 = g.1)) h)
    obtain ⟨k, hk, ek⟩ := List.mem_iff_getElem.mp (List.mem_of_find?_eq_some h)
    have hk2 : m.fcs[k]? = some x := by rw [← ek]; exact List.getElem?_eq_getElem hk
    obtain ⟨k2, en, _⟩ := G.face hm hk2
    obtain ⟨l2, em, _⟩ := G.face hm hg
    have := fn_inj k k2 l l2 (by rw [← en, ← em, e])
    subst this
    rw [hk2] at hg; exact hg
theorem GoodMs.faceX {i : Nat} {m : Md} (hm : ms[i]? = some m) {j : Nat} {y : Md} (hj : j ≤ i) (hy : ms[j]? = some y) {l : Nat} {g : Str × List Hd} (hg : y.fcs[l]? = some g) : faceX (ms.take i) m y.nm g.1 = some g.2 := by
  unfold My.faceX
  by_cases e : y.nm = m.nm
  · have := G.one hy hm e
    subst this
    rw [hm] at hy; cases hy
    rw [if_neg (fun h => h rfl), G.ffind hm hg]; rfl
  · rw [if_pos e]
    have hj2 : j < i := by
      rcases Nat.lt_or_eq_of_le hj with h | h
      · exact h
      · subst h; rw [hm] at hy; cases hy; exact absurd rfl e
    unfold faceM
    rw [G.find hy hj2]
    show (y.fcs.find? _).map (·.2) = _
    rw [G.ffind hy hg]; rfl
theorem GoodMs.kd {i : Nat} {m : Md} (hm : ms[i]? = some m) {j : Nat} {y : Md} (hj : j ≤ i) (hy : ms[j]? = some y) {n : Nat} {k : Kd} (h : GoodK (knOf (ms.take j) y) n k) : kOk (ms.take i) m k = true ∧ KdOk k := by
  cases k with
  | int => exact ⟨rfl, trivial⟩
  | bytes => exact ⟨rfl, trivial⟩
  | cls _ => exact ⟨rfl, trivial⟩
  | nothing => exact h.elim
  | null => exact h.elim
  | fac p f =>
    obtain ⟨a, z, l, g, ha, hz, e1, hg, e2⟩ := G.kn hy h
    have e1 : z.nm = p := e1
    have e2 : g.1 = f := e2
    subst e1 e2
    refine ⟨?_, G.knS hy h⟩
    show (My.faceX _ _ _ _).isSome = true
    rw [G.faceX hm (by omega) hz hg]; rfl
theorem GoodMs.hd {i : Nat} {m : Md} (hm : ms[i]? = some m) {j : Nat} {y : Md} (hj : j ≤ i) (hy : ms[j]? = some y) {h : Hd} (g : GoodH (knOf (ms.take j) y) h) (s : PyData.strOk h.nm = true) : hOk (ms.take i) m h = true ∧ HdOk h ∧ h.ps.length ≤ 2 := by
  have hp := fun k hk => G.kd hm hj hy (g.ps k hk)
  have hr : kOk (ms.take i) m h.rs = true ∧ KdOk h.rs := by
    rcases g.rs with h | h
    · exact G.kd hm hj hy h
    · rw [h]; exact ⟨rfl, trivial⟩
  refine ⟨?_, ⟨s, fun k hk => (hp k hk).2, hr.2⟩, g.ln⟩
  unfold hOk
  rw [List.all_eq_true]
  intro k hk
  rcases List.mem_append.mp hk with hk | hk
  · exact (hp k hk).1
  · rw [List.mem_singleton.mp hk]; exact hr.1
theorem GoodMs.srcOk {i : Nat} {m : Md} (hm : ms[i]? = some m) {h : Hd} (h1 : HdSrc (ms.take i) m.fcs m.nm (knOf (ms.take i) m) h) : hOk (ms.take i) m h = true ∧ HdOk h ∧ h.ps.length ≤ 2 := by
  rcases h1 with ⟨g, _, hg⟩ | rfl | rfl | ⟨gh, k, hk, j2, hj2, eo⟩
  · obtain ⟨a, ha, l, hl, j, hj, en, y, hai, hy, gh⟩ := G.hdAt hm hg
    exact G.hd hm hai hy gh (by rw [en]; exact hd_str (ix a) (G.lt3 a ha) l hl j hj)
  · refine ⟨rfl, ⟨made_str.1, fun k hk => ?_, trivial⟩, by decide⟩
    rw [List.mem_singleton.mp hk]; trivial
  · refine ⟨rfl, ⟨made_str.2, fun k hk => ?_, trivial⟩, by decide⟩
    rw [List.mem_singleton.mp hk]; trivial
  · exact G.hd hm (Nat.le_refl _) hm gh (by rw [eo]; exact own_str k hk j2 hj2)
end
section
variable {ms : List Md} {ix : Nat → Nat} (G : GoodMs ix ms)
include G
theorem GoodMs.cls {i : Nat} {m : Md} (hm : ms[i]? = some m) {c : Cl} (hc : c ∈ m.cls) : ∃ k < 4, m.cls[k]? = some c ∧ GoodC (ms.take i) m.fcs m.nm (knOf (ms.take i) m) m.cls.length m.cls k c := by
  obtain ⟨k, hk, rfl⟩ := List.mem_iff_getElem.mp hc
  have gm := (G.md i m hm).2.1
  have := gm.cll
  exact ⟨k, by omega, List.getElem?_eq_getElem hk, gm.gl.cls k _ (List.getElem?_eq_getElem hk)⟩
theorem GoodMs.mz {i : Nat} {m : Md} (hm : ms[i]? = some m) : Mz m := by
  obtain ⟨en, gm, _⟩ := G.md i m hm
  have cll := gm.cll
  refine ⟨⟨fun k c hc => ?_, by omega, fun c hc => ?_, fun c hc => ?_, ?_, fun c hc f hf => ?_, fun a ha => ?_⟩, fun c hc r hr => ?_, fun f hf h hh => ?_, fun t ht => ?_, fun c hc => ?_⟩
  · have g := gm.gl.cls k c hc
    exact ⟨g.lo, g.hi⟩
  · obtain ⟨k, hk, _, g⟩ := G.cls hm hc
    have := g.fcl
    omega
  · obtain ⟨k, hk, _, g⟩ := G.cls hm hc
    have := g.tbl
    omega
  · rw [en]; exact (pk_str (ix i) (G.lt3 i (G.lt hm))).1
  · obtain ⟨k, hk, _, g⟩ := G.cls hm hc
    exact G.knS hm (g.fcs f hf)
  · obtain ⟨c, hc, _⟩ := gm.gl.ap a ha
    exact (List.getElem?_eq_some_iff.mp hc).1
  · obtain ⟨k, hk, _, g⟩ := G.cls hm hc
    obtain ⟨_, h1, h2⟩ := G.srcOk hm (g.src r hr)
    exact ⟨h1, by omega⟩
  · obtain ⟨l, hl, rfl⟩ := List.mem_iff_getElem.mp hf
    obtain ⟨j, hj, rfl⟩ := List.mem_iff_getElem.mp hh
    obtain ⟨l2, _, _, _, h3⟩ := G.face hm (List.getElem?_eq_getElem hl)
    obtain ⟨j2, e, gh⟩ := h3 j _ (List.getElem?_eq_getElem hj)
    obtain ⟨_, h1, h2⟩ := G.hd hm (Nat.le_refl _) hm gh (by rw [e]; exact hd_str (ix i) (G.lt3 i (G.lt hm)) l l2 j j2)
    exact ⟨h1, by omega⟩
  · obtain ⟨k, c, r, hc, hr, rfl⟩ := gm.gl.mt t ht
    obtain ⟨_, _, h2⟩ := G.srcOk hm ((gm.gl.cls k c hc).src r hr)
    refine ⟨?_, Nat.zero_le _⟩
    show r.h.ps.length ≤ 1000
    omega
  · obtain ⟨k, hk, _, g⟩ := G.cls hm hc
    have := g.fdl
    omega
/-- a class has the rows of its ancestors -/
theorem GoodMs.rows {i : Nat} {m : Md} (hm : ms[i]? = some m) : ∀ (k : Nat) (c : Cl), m.cls[k]? = some c → ∀ j ∈ ancs m.cls k, ∃ d : Cl, m.cls[j.toNat]? = some d ∧ ∀ r ∈ d.tb, ∃ r' ∈ c.tb, r'.h = r.h := by
  have gm := (G.md i m hm).2.1
  have ah := (G.mz hm).sz.ah
  intro k
  induction k using Nat.strongRecOn with
  | ind k ih =>
    intro c hc j hj
    rw [ancs_step ah hc] at hj
    rcases List.mem_cons.mp hj with rfl | hj
    · exact ⟨c, by rw [Int.toNat_natCast]; exact hc, fun r hr => ⟨r, hr, rfl⟩⟩
    · have g := gm.gl.cls k c hc
      by_cases h0 : c.par < 0
      · rw [ancs_neg h0] at hj; cases hj
      · obtain ⟨p, hp⟩ := Int.eq_ofNat_of_zero_le (show 0 ≤ c.par by omega)
        have hi := g.hi
        have hk := (List.getElem?_eq_some_iff.mp hc).1
        have hp2 : p < m.cls.length := by omega
        rw [hp] at hj
        obtain ⟨d, hd, hr⟩ := ih p (by omega) _ (List.getElem?_eq_getElem hp2) j hj
        refine ⟨d, hd, fun r hrd => ?_⟩
        obtain ⟨r1, hr1, e1⟩ := hr r hrd
        obtain ⟨r2, hr2, e2⟩ := g.pre p _ hp (List.getElem?_eq_getElem hp2) r1 hr1
        exact ⟨r2, hr2, e2.trans e1⟩
/-- all heads of all faces of a class stand in its table -/
theorem GoodMs.heads {i : Nat} {m : Md} (hm : ms[i]? = some m) {k : Nat} {c : Cl} (hc : m.cls[k]? = some c) {f : Str × Str} (hf : f ∈ facesOf m k) {h : Hd} (hh : h ∈ hdsIn (fcsFor m.fcs (ms.take i) m.nm f.1) f.2) : ∃ r ∈ c.tb, r.h = h := by
  have gm := (G.md i m hm).2.1
  obtain ⟨j, hj, hf⟩ := List.mem_flatMap.mp hf
  obtain ⟨d, hd, hr⟩ := G.rows hm k c hc j hj
  rw [hd] at hf
  have g := gm.gl.cls _ d hd
  obtain ⟨r, hrd, e⟩ := g.has h (List.mem_flatMap.mpr ⟨f, hf, hh⟩)
  have e2 := G.src hm (g.src r hrd) hh e
  obtain ⟨r2, hr2, e3⟩ := hr r hrd
  exact ⟨r2, hr2, e3.trans e2⟩
theorem GoodMs.faceH {i : Nat} {m : Md} {p f : Str} {hs : List Hd} (e : My.faceX (ms.take i) m p f = some hs) {h : Hd} (hh : h ∈ hs) : h ∈ hdsIn (fcsFor m.fcs (ms.take i) m.nm p) f := by
  have key : ∀ fcs : List (Str × List Hd), (fcs.find? fun x => decide (x.1 = f)).map (·.2) = some hs → h ∈ hdsIn fcs f := fun fcs e => by
    cases hx : fcs.find? fun x => decide (x.1 = f) with
    | none => rw [hx] at e; cases e
    | some x =>
      rw [hx] at e
      cases e
      have e2 : x.1 = f := of_decide_eq_true (List.find?_some (p := fun x : Str × List Hd => decide (x.1 = f)) hx)
      exact List.mem_flatMap.mpr ⟨x, List.mem_of_find?_eq_some hx, by rw [if_pos e2]; exact hh⟩
  unfold My.faceX at e
  unfold fcsFor
  by_cases c : p = m.nm
  · rw [if_neg (fun h => h c)] at e
    rw [if_pos c]
    exact key _ e
  · rw [if_pos c] at e
    rw [if_neg c]
    unfold faceM at e
    cases hy : findM (ms.take i) p with
    | none => rw [hy] at e; cases e
    | some y =>
      rw [hy] at e
      exact key _ e
theorem GoodMs.chk {i : Nat} {m : Md} (hm : ms[i]? = some m) : My.chk (ms.take i) m = true := by
  obtain ⟨en, gm, us⟩ := G.md i m hm
  unfold My.chk
  rw [Bool.and_eq_true, Bool.and_eq_true, Bool.and_eq_true, Bool.and_eq_true, Bool.and_eq_true]
  refine ⟨?_, ?_, ?_, ?_, ?_, ?_⟩
  · rw [decide_eq_false]; rfl
    intro h
    obtain ⟨y, hy, e⟩ := List.mem_map.mp h
    obtain ⟨j, hj, hy⟩ := take_at hy
    have := G.one hy hm e
    omega
  · rw [List.all_eq_true]
    intro x hx
    obtain ⟨y, hy, rfl⟩ := us x hx
    obtain ⟨j, hj, hy⟩ := take_at hy
    show (match findM (ms.take i) y.nm with | some m => decide (m.ver = y.ver) | none => false) = true
    rw [G.find hy hj]
    exact decide_eq_true rfl
  · rw [List.all_eq_true]
    intro f hf
    rw [List.all_eq_true]
    intro h hh
    obtain ⟨l, hl, rfl⟩ := List.mem_iff_getElem.mp hf
    obtain ⟨j, hj, rfl⟩ := List.mem_iff_getElem.mp hh
    obtain ⟨l2, _, _, _, h3⟩ := G.face hm (List.getElem?_eq_getElem hl)
    obtain ⟨j2, e, gh⟩ := h3 j _ (List.getElem?_eq_getElem hj)
    exact (G.hd hm (Nat.le_refl _) hm gh (by rw [e]; exact hd_str (ix i) (G.lt3 i (G.lt hm)) l l2 j j2)).1
  · rw [List.all_eq_true]
    intro t ht
    obtain ⟨k, c, r, hc, hr, rfl⟩ := gm.gl.mt t ht
    have h1 := (G.srcOk hm ((gm.gl.cls k c hc).src r hr)).1
    show (r.h.ps ++ [] ++ [r.h.rs]).all _ = true
    rw [List.append_nil]
    exact h1
  · rw [List.all_eq_true]
    intro k hk
    have hk := List.mem_range.mp hk
    have hc := List.getElem?_eq_getElem hk
    unfold clOkAt
    rw [hc]
    have g := gm.gl.cls k _ hc
    generalize m.cls[k] = c at *
    show clOk _ _ _ _ = true
    unfold clOk
    rw [Bool.and_eq_true, Bool.and_eq_true]
    refine ⟨?_, ?_, ?_⟩
    · rw [List.all_eq_true]
      intro x hx
      rcases List.mem_append.mp hx with hx | hx
      · obtain ⟨f, hf, rfl⟩ := List.mem_map.mp hx
        exact (G.kd hm (Nat.le_refl _) hm (n := 0) (k := .fac f.1 f.2) (g.fcs f hf)).1
      · exact (G.kd hm (Nat.le_refl _) hm (g.fds x hx)).1
    · rw [List.all_eq_true]
      intro h hh
      obtain ⟨r, hr, rfl⟩ := List.mem_map.mp hh
      exact (G.srcOk hm (g.src r hr)).1
    · unfold fcOk
      rw [List.all_eq_true]
      intro f hf
      unfold fOk
      split
      · rename_i hs e
        rw [List.all_eq_true]
        intro h hh
        obtain ⟨r, hr, e2⟩ := G.heads hm hc hf (G.faceH e hh)
        exact decide_eq_true (List.mem_map.mpr ⟨r, hr, e2⟩)
      · rfl
  · rw [List.all_eq_true]
    intro a ha
    obtain ⟨c, hc, ⟨r1, h1, e1⟩, r2, h2, e2⟩ := gm.gl.ap a ha
    unfold apOk
    rw [hc]
    have g := gm.gl.cls a c hc
    have k1 := (G.srcM hm (g.src r1 h1)).1 e1
    have k2 := (G.srcM hm (g.src r2 h2)).2 e2
    show (decide _ && decide _) = true
    have q1 : madeH ∈ hdsOf c := List.mem_map.mpr ⟨r1, h1, k1⟩
    have q2 : procH ∈ hdsOf c := List.mem_map.mpr ⟨r2, h2, k2⟩
    rw [decide_eq_true q1, decide_eq_true q2]; rfl
theorem GoodMs.msT (i : Nat) : Ms (ms.take i) := by
  refine ⟨?_, fun m hm => ?_, ?_⟩
  · refine List.pairwise_iff_getElem.mpr fun a b ha hb hab he => ?_
    rw [List.length_map, List.length_take] at ha hb
    rw [List.getElem_map, List.getElem_map, List.getElem_take, List.getElem_take] at he
    have := G.one (List.getElem?_eq_getElem (by omega)) (List.getElem?_eq_getElem (by omega)) he
    omega
  · obtain ⟨j, _, hj⟩ := take_at hm
    exact (G.mz hj).sz
  · have := G.ln
    rw [List.length_take]; omega
end

/-! ### the modules -/
/-- [e for x in .. if p], both may draw -/
theorem i_lcFil {K : PySem.W.Frag} {J : It} {n : Nat} {G : Hp → Prop} {Y : Nat → Hp → V → Hp → Prop} (w : Walk J n G Y) {α : Type} (f : α → PyData) (P : α → Prop) {b : Addr} {j : Nat} {tt : TT} {te : TE} {σ : L2.St} {H : Hp} {Q : VK} (hB : Bag H b) (hn : n < sizeLine) (hG : ∀ H', Mv b H H' → G H') (hY : ∀ i H x H', Y i H x H' → H' = H)
    (ht : ∀ i x H1 (Q' : Bool → Hp → Prop), i < n → Y i H1 x H1 → Mv b H H1 → (∀ c H2, Mv b H1 H2 → Q' c H2) → tt ((wipe σ [j]).set j (some x)) H1 Q')
    (hs : ∀ i x H1 H2 (Q' : VK), i < n → Y i H1 x H1 → Mv b H H1 → Mv b H1 H2 → (∀ y H3 k, Fr K H3 y (f k) → P k → Mv b H2 H3 → Q' y H3) → te ((wipe σ [j]).set j (some x)) H2 Q')
    (q : ∀ D H' (ks : List α), H D = none → Mv b H H' → LsF K H' D (ks.map f) → ks.length ≤ n → (∀ k ∈ ks, P k) → Q (.ref D) H') : rLcJ J (gName j) tt te [j] σ H Q := by
  intro D hD
  have nD := bag_ne hB hD
  refine lc_it w (fun i H' => Mv b H H' ∧ ∃ ys, ∃ ks : List α, H' D = some (.lst ys) ∧ FrL K H' ys (ks.map f) ∧ ks.length ≤ i ∧ ∀ k ∈ ks, P k) ⟨(Mv.refl hB).new hD, [], [], upd_same, .nil, Nat.le_refl _, fun _ h => by cases h⟩ (fun i H' _ e => hG H' e.1) (fun i x H1 H2 hi e y => ?_) (fun H' e => ?_)
  · have e2 := hY i H1 x H2 y
    subst e2
    obtain ⟨mv, ys, ks, e1, e2, e3, e4⟩ := e
    refine ⟨wipe_one, ht i x H2 _ hi y mv fun c H3 mvc => ?_⟩
    have m3 := mv.trans mvc
    have hD3 := mvc.old D _ nD e1
    have e23 := e2.up (.mv mv.bag mvc)
    cases c with
    | false => exact ⟨m3, ys, ks, hD3, e23, by omega, e4⟩
    | true =>
      refine hs i x H2 H3 _ hi y mv mvc fun v H4 k hv hp mv4 => ?_
      have hl := e2.len
      rw [List.length_map] at hl
      have hD4 := mv4.old D _ nD hD3
      have tk : TupK H4 (upd H4 D (.lst (ys ++ [v]))) := TupK.mut hD4 (fun _ h => nomatch h)
      refine ⟨ys, hD4, by omega, (m3.trans mv4).own hD nD, ys ++ [v], ks ++ [k], upd_same, ?_, by rw [List.length_append, List.length_singleton]; omega, fun u hu => ?_⟩
      · rw [List.map_append]
        exact ((e23.up (.mv m3.bag mv4)).up tk).app (.cons (hv.up tk) .nil)
      · rcases List.mem_append.mp hu with hu | hu
        · exact e4 u hu
        · rw [List.mem_singleton.mp hu]; exact hp
  · obtain ⟨mv, ys, ks, e1, e2, e3, e4⟩ := e
    exact q D H' ks hD mv ⟨ys, e1, e2⟩ e3 e4
theorem kvs_none {n : Str} : ∀ {ms : List Md} {vs : List V}, findM ms n = none → valV (kvsOf ms vs) (.inr n) = none
  | [], [], _ => rfl
  | [], _ :: _, _ => rfl
  | _ :: _, [], _ => rfl
  | m :: ms, v :: vs, e => by
    unfold findM at e
    by_cases h : m.nm = n
    · rw [List.find?_cons, decide_eq_true h] at e; cases e
    · rw [List.find?_cons, decide_eq_false h] at e
      have ev : valV (kvsOf (m :: ms) (v :: vs)) (.inr n) = valV (kvsOf ms vs) (.inr n) := valV_neg (fun q => h (Sum.inr.inj q))
      rw [ev]
      exact kvs_none e
theorem GoodMs.add {ms : List Md} {ix : Nat → Nat} {m : Md} (G : GoodMs ix ms) (hl : ms.length < 3) (hn : m.nm = pkN (ix ms.length)) (g : GoodM ms m) (hu : ∀ x ∈ m.uses, ∃ y ∈ ms, x = (y.nm, y.ver)) : GoodMs ix (ms ++ [m]) := by
  refine ⟨by rw [List.length_append, List.length_singleton]; omega, G.lt3, G.ij, fun i x hx => ?_⟩
  rcases getapp hx with ⟨h1, h2⟩ | ⟨rfl, rfl⟩
  · rw [List.take_append_of_le_length (by omega)]
    exact G.md i x h2
  · rw [List.take_append_of_le_length (by omega), List.take_length]
    exact ⟨hn, g, hu⟩
theorem GoodMs.few {ms : List Md} {ix : Nat → Nat} (G : GoodMs ix ms) {m : Md} (h : m ∈ ms) : Few m.fcs := by
  obtain ⟨i, hi, rfl⟩ := List.mem_iff_getElem.mp h
  exact (G.md i _ (List.getElem?_eq_getElem hi)).2.1.few

/-! ### the types that a module knows -/
def knUse (m y : Md) : List Kd := if y.nm ∈ m.uses.map (·.1) ++ [m.nm] then y.fcs.map fun f : Str × List Hd => Kd.fac y.nm f.1 else []
def knownK (ms : List Md) (m : Md) : List Kd := ([Kd.int, Kd.bytes] ++ (List.range m.cls.length).map Kd.cls) ++ ms.flatMap (knUse m)
def sp_law_known {K : PySem.W.Frag} {mg : Str → Option Value} (_ : Txt K mg) : Sp := fun vs H Q _ => ∃ (l : Addr) (v : V) (ms : List Md) (m : Md), vs = [.ref l, v] ∧ LsF K H l (ms.map Md.d) ∧ Fr K H v m.d ∧ ms.length ≤ 3 ∧ m.cls.length ≤ 4 ∧ m.uses.length ≤ 3 ∧ PyData.strOk m.nm = true ∧ (∀ y ∈ ms, Few y.fcs ∧ PyData.strOk y.nm = true ∧ ∀ f ∈ y.fcs, PyData.strOk f.1 = true) ∧
  ∀ p H' (ks : List Kd), H p = none → Same H H' → LsF K H' p (ks.map Kd.d) → ks.length ≤ 20 → (∀ k ∈ ks, KdOk k ∧ ∀ j, k = .cls j → j < m.cls.length) → ks = knownK ms m → Q (.ref p) H'
theorem ok_law_known (T : Txt K mg) : FnOk P w K mg base CX0 1 T.f_law_known T.d_law_known ["_law_modules_here", "_law_module_here"] (sp_law_known T) := by
  refine T.k_law_known.ok sc_law_known (fun vs H Q E h => ?_) (fun cdv A outer s H vs Q E hr h => ?_)
  · obtain ⟨l, v, ms, m, rfl, _⟩ := h
    rfl
  · obtain ⟨l, v, ms, m, rfl, hl, hv, ml, cl, ul, sm, hms, q⟩ := h
    refine ⟨_, (pss_cons (ps_set (i := 2) sc_law_known.nd rfl (.inl rfl) (pe_op op_cat (pe_lst (pa_cons (pe_tup (pa_cons pe_str pa_nil)) (pa_cons (pe_tup (pa_cons pe_str pa_nil)) pa_nil))) (pe_lc (own := [("_law_k", 5)]) (g := gName 5) (tt := tYes) rfl sc_law_known.nd (pi_range1 (by rfl) T.m_range (pa_cons (pe_callB (lenTK K) (by rfl) T.m_len (by decide +kernel) (pa_cons (pe_ix (ix_tupK K) (pv 1) pe_int (fun _ _ => rfl)) pa_nil)) pa_nil)) (blkOk_by (own := [("_law_k", 5)]) (N := ["_law_modules_here", "_law_module_here", "_law_kinds", "_law_uses", "_law_other", "_law_k", "_law_row", "_law_face"]) (sc := defScope s_law_known) (by decide +kernel)) (fun _ _ _ _ _ => pg_name (i := 5) sc_law_known.nd rfl (Or.inl rfl)) (fun _ _ _ _ _ => pts_nil) (fun _ _ _ _ _ => (pe_tup (pa_cons pe_str (pa_cons (pv 5) pa_nil)))))))
      (pss_cons (ps_set (i := 3) sc_law_known.nd rfl (.inl rfl) (pe_op op_cat (pe_lc (own := [("_law_row", 6)]) (g := gName 6) (tt := tYes) rfl sc_law_known.nd (pi_tup (pe_ix (ix_tupK K) (pv 1) pe_int (fun _ _ => rfl))) (blkOk_by (own := [("_law_row", 6)]) (N := ["_law_modules_here", "_law_module_here", "_law_kinds", "_law_uses", "_law_other", "_law_k", "_law_row", "_law_face"]) (sc := defScope s_law_known) (by decide +kernel)) (fun _ _ _ _ _ => pg_name (i := 6) sc_law_known.nd rfl (Or.inl rfl)) (fun _ _ _ _ _ => pts_nil) (fun _ _ _ _ _ => (pe_ix (ix_tupK K) (pv 6) pe_int (fun _ _ => rfl)))) (pe_lst (pa_cons (pe_ix (ix_tupK K) (pv 1) pe_int (fun _ _ => rfl)) pa_nil))))
      (pss_cons (ps_for PassesOwn.never rfl (pi_list (pv 0)) (pg_name (i := 4) sc_law_known.nd rfl (Or.inr rfl)) (pss_one (ps_if (pt_cmpR (in_seqK K) (pe_ix (ix_tupK K) (pv 4) pe_int (fun _ _ => rfl)) (pv 3) rfl) (pss_one (ps_set (i := 2) sc_law_known.nd rfl (.inl rfl) (pe_op op_cat (pv 2) (pe_lc (own := [("_law_face", 7)]) (g := gName 7) (tt := tYes) rfl sc_law_known.nd (pi_tup (pe_ix (ix_tupK K) (pv 4) pe_int (fun _ _ => rfl))) (blkOk_by (own := [("_law_face", 7)]) (N := ["_law_modules_here", "_law_module_here", "_law_kinds", "_law_uses", "_law_other", "_law_k", "_law_row", "_law_face"]) (sc := defScope s_law_known) (by decide +kernel)) (fun _ _ _ _ _ => pg_name (i := 7) sc_law_known.nd rfl (Or.inl rfl)) (fun _ _ _ _ _ => pts_nil) (fun _ _ _ _ _ => (pe_tup (pa_cons pe_str (pa_cons (pe_ix (ix_tupK K) (pv 4) pe_int (fun _ _ => rfl)) (pa_cons (pe_ix (ix_tupK K) (pv 7) pe_int (fun _ _ => rfl)) pa_nil))))))))) pss_nil)))
      (pss_one (ps_ret (pv 2)))))), ?_⟩
    walk_at "rd"
    refine rdSeq ?_
    walk_at "rd"
    intro p1 hp1
    have s1 := same_new (o := .tup [.str (Str.ofString "int")]) hp1
    have f1 : Fr K (upd H p1 (.tup [.str (Str.ofString "int")])) (.ref p1) Kd.int.d := .tup (.inl upd_same) (.cons (.str _) .nil)
    generalize upd H p1 (.tup [.str (Str.ofString "int")]) = H1 at *
    intro p2 hp2
    have s2 := same_new (o := .tup [.str (Str.ofString "bytes")]) hp2
    have f2 : Fr K (upd H1 p2 (.tup [.str (Str.ofString "bytes")])) (.ref p2) Kd.bytes.d := .tup (.inl upd_same) (.cons (.str _) .nil)
    have f1 := f1.up (.of s2)
    generalize upd H1 p2 (.tup [.str (Str.ofString "bytes")]) = H2 at *
    intro p3 hp3
    have s3 := same_new (o := .lst [.ref p1, .ref p2]) hp3
    have hl3 : H2 p3 = none := hp3
    have hl3 : LsF K (upd H2 p3 (.lst [.ref p1, .ref p2])) p3 ([Kd.int, Kd.bytes].map Kd.d) := ⟨_, upd_same, .cons (f1.up (.of s3)) (.cons (f2.up (.of s3)) .nil)⟩
    have s13 := s1.trans (s2.trans s3)
    generalize upd H2 p3 (.lst [.ref p1, .ref p2]) = H3 at *
    refine i_ixF (i := 5) (hv.up (.of s13)) (Md.at5 m) fun x hx => i_lenF hx ?_
    rw [List.length_map]
    refine ⟨_, rfl, by omega, by omega, ?_⟩
    rw [Int.toNat_natCast]
    refine i_lcFr (K := K) (walk_range (lo := 0) (n := m.cls.length)) (((List.range m.cls.length).map Kd.cls).map Kd.d) (by simp) (line5' (by omega)) (fun _ _ => trivial) (fun _ _ _ _ y => y.1) (fun i x H5 Q' dd hdd s5 hy qq => ?_) (fun D H5 zs hD s5 hD5 fD => ?_)
    · obtain ⟨_, rfl⟩ := hy
      obtain ⟨hi, _⟩ := List.getElem?_eq_some_iff.mp hdd
      rw [List.length_map, List.length_map, List.length_range] at hi
      rw [List.map_map, List.getElem?_map, List.getElem?_range hi] at hdd
      cases hdd
      walk_at "rd"
      intro t ht
      rw [Int.zero_add]
      exact qq _ _ (same_new ht) (.tup (.inl upd_same) (.cons (.str _) (.cons (.int _) .nil)))
    obtain ⟨lv, hlv, flv⟩ := (hl3.same s5).ex
    have ll := flv.len
    have zl := fD.len
    rw [List.length_map] at ll
    rw [List.length_map, List.length_map, List.length_range] at zl
    have ll : lv.length = 2 := ll
    refine i_cat hlv hD5 (line5 (by omega)) fun p6 hp6 => ?_
    have s6 := same_new (o := .lst (lv ++ zs)) hp6
    have nk6 := none_of_same (s13.trans s5) hp6
    have hk6 : LsF K (upd H5 p6 (.lst (lv ++ zs))) p6 (([Kd.int, Kd.bytes] ++ (List.range m.cls.length).map Kd.cls).map Kd.d) := by
      refine ⟨_, upd_same, ?_⟩
      rw [List.map_append]
      exact (flv.up (.of s6)).app (fD.up (.of s6))
    have s16 := s13.trans (s5.trans s6)
    generalize upd H5 p6 (.lst (lv ++ zs)) = H6 at *
    refine rdSeq ?_
    walk_at "rd"
    refine i_ixF (i := 3) (hv.up (.of s16)) rfl fun w hw => ?_
    obtain ⟨ut, ux, rfl, usq, ufl⟩ := hw.inv
    have ulen := ufl.len
    rw [List.length_map] at ulen
    refine ⟨ut, rfl, ⟨_, usq.sq⟩, ?_⟩
    refine i_lcFr (K := K) (walk_tup (K := K) (a := ut) (xs := ux)) ((m.uses.map (·.1)).map .str) (by simp [ulen]) (line5' (by omega)) (fun H' s' => (usq.up (.of s')).sq) (fun _ _ _ _ y => y.1) (fun i x H7 Q' dd hdd s7 hy qq => ?_) (fun D2 H7 ys hD2 s7 hD7 fD7 => ?_)
    · obtain ⟨d2, hd2, fx⟩ := ufl.getV hy.2
      have hi : i < m.uses.length := by rw [← ulen]; exact (List.getElem?_eq_some_iff.mp hy.2).1
      rw [List.getElem?_map, List.getElem?_eq_getElem hi] at hd2
      cases hd2
      rw [List.map_map, List.getElem?_map, List.getElem?_eq_getElem hi] at hdd
      cases hdd
      walk_at "rd"
      exact i_ixFs (i := 0) (fx.up (.of s7)) rfl (qq _ _ (Same.refl _) (.str _))
    have hye := fD7.strs
    subst hye
    refine i_ixFs (i := 1) (hv.up (.of (s16.trans s7))) (Md.at1 m) fun p8 hp8 => ?_
    have s8 := same_new (o := .lst [.str m.nm]) hp8
    refine i_cat (s8 _ _ hD7) upd_same (line5 (by simp; omega)) fun p9 hp9 => ?_
    have s9 := same_new (o := .lst ((m.uses.map (·.1)).map V.str ++ [.str m.nm])) hp9
    have s69 := s7.trans (s8.trans s9)
    have hn9 : upd (upd H7 p8 (.lst [.str m.nm])) p9 (.lst ((m.uses.map (·.1)).map V.str ++ [.str m.nm])) p9 = some (.lst ((m.uses.map (·.1) ++ [m.nm]).map V.str)) := by rw [upd_same, List.map_append]; rfl
    generalize upd (upd H7 p8 (.lst [.str m.nm])) p9 (.lst ((m.uses.map (·.1)).map V.str ++ [.str m.nm])) = H9 at *
    have hk9 := hk6.same s69
    have s19 := s16.trans s69
    refine rdSeq ?_
    walk_at "rd"
    obtain ⟨mv, hmv, fmv⟩ := (hl.same s19).ex
    have mvl := fmv.len
    rw [List.length_map] at mvl
    refine ⟨⟨_, sqL_of hmv⟩, ?_⟩
    refine i_for (walk_list (K := K) (a := l) (xs := mv)) (fun i σ' H' => Same H9 H' ∧ ∃ (p : Addr) (ks : List Kd) (y4 y5 y6 : Option V), H p = none ∧ LsF K H' p (ks.map Kd.d) ∧ ks.length ≤ 6 + 2 * i ∧ (∀ k ∈ ks, KdOk k ∧ ∀ j, k = .cls j → j < m.cls.length) ∧ ks = ([Kd.int, Kd.bytes] ++ (List.range m.cls.length).map Kd.cls) ++ (ms.take i).flatMap (knUse m) ∧
      σ' = [some (.ref l), some v, some (.ref p), some (.ref p9), y4, y5, y6, none])
      ⟨Same.refl _, p6, _, _, _, _, nk6, hk9, by simp; omega, fun k hk => ?_, by simp, rfl⟩ (fun i σ' H' _ h => sqL_of (h.1 _ _ hmv)) ?_ ?_
    · rcases List.mem_append.mp hk with hk | hk
      · rcases List.mem_cons.mp hk with rfl | hk
        · exact ⟨trivial, fun _ h => nomatch h⟩
        · rw [List.mem_singleton.mp hk]; exact ⟨trivial, fun _ h => nomatch h⟩
      · obtain ⟨j, hj, rfl⟩ := List.mem_map.mp hk
        exact ⟨trivial, fun j2 h => by cases h; exact List.mem_range.mp hj⟩
    · rintro i x σ' Ha Hb hi ⟨sa, p, ks, y4, y5, y6, hp, hka, kl, hks, eks, rfl⟩ ⟨rfl, hx⟩
      have hi2 : i < ms.length := by omega
      obtain ⟨dd, hd2, fx⟩ := fmv.getV hx
      rw [List.getElem?_map, List.getElem?_eq_getElem hi2] at hd2
      cases hd2
      have fx := fx.up (.of sa)
      obtain ⟨few, so, sf⟩ := hms _ (List.getElem_mem hi2)
      have et : (ms.take (i + 1)).flatMap (knUse m) = (ms.take i).flatMap (knUse m) ++ knUse m ms[i] := flat_take hi2
      rw [et, ← List.append_assoc, ← eks]
      generalize ms[i] = y at *
      walk_at "rd"
      refine i_ixFs (i := 1) fx (Md.at1 y) (i_inL (.inl (sqL_of (sa _ _ hn9))) rfl strs_flat ?_)
      refine ⟨_, rfl, ite2 (fun hin => ?_) (fun hin => ⟨sa, p, hp, ks, hka, by omega, hks, by unfold knUse; rw [if_neg (fun e => hin (by rw [inV_strs]; exact decide_eq_true e)), List.append_nil], rfl⟩)⟩
      refine i_ixF (i := 4) fx (Md.at4 y) fun w hw => ?_
      obtain ⟨t, fv, rfl, fsq, ffl⟩ := hw.inv
      have flen := ffl.len
      rw [List.length_map] at flen
      have few1 := few.1
      refine ⟨t, rfl, ⟨_, fsq.sq⟩, ?_⟩
      refine i_lcFr (K := K) (walk_tup (K := K) (a := t) (xs := fv)) ((y.fcs.map fun f : Str × List Hd => Kd.fac y.nm f.1).map Kd.d) (by simp [flen]) (line5' (by omega)) (fun H' s' => (fsq.up (.of s')).sq) (fun _ _ _ _ y => y.1) (fun i x Hc Q' dd hdd sc hy qq => ?_) (fun D3 Hc zs hD3 sc hDc fDc => ?_)
      · obtain ⟨d2, hd2, fx5⟩ := ffl.getV hy.2
        have hi5 : i < y.fcs.length := by rw [← flen]; exact (List.getElem?_eq_some_iff.mp hy.2).1
        rw [List.getElem?_map, List.getElem?_eq_getElem hi5] at hd2
        cases hd2
        rw [List.map_map, List.getElem?_map, List.getElem?_eq_getElem hi5] at hdd
        cases hdd
        walk_at "rd"
        refine i_ixFs (i := 1) (fx.up (.of sc)) (Md.at1 y) (i_ixFs (i := 0) (fx5.up (.of sc)) rfl fun t ht => ?_)
        exact qq _ _ (same_new ht) (.tup (.inl upd_same) (.cons (.str _) (.cons (.str _) (.cons (.str _) .nil))))
      · obtain ⟨lv, hlv, flv⟩ := (hka.same sc).ex
        have ll := flv.len
        have zl := fDc.len
        rw [List.length_map] at ll
        rw [List.length_map, List.length_map] at zl
        refine i_cat hlv hDc (line5 (by omega)) fun pd hpd => ?_
        have sd := same_new (o := .lst (lv ++ zs)) hpd
        refine ⟨sa.trans (sc.trans sd), pd, none_of_same (s19.trans (sa.trans sc)) hpd, ks ++ y.fcs.map (fun f : Str × List Hd => Kd.fac y.nm f.1), ⟨_, upd_same, ?_⟩, by rw [List.length_append, List.length_map]; omega, fun k hk => ?_, ?_, rfl⟩
        · rw [List.map_append]
          exact (flv.up (.of sd)).app (fDc.up (.of sd))
        · rcases List.mem_append.mp hk with hk | hk
          · exact hks k hk
          · obtain ⟨f, hf, rfl⟩ := List.mem_map.mp hk
            exact ⟨⟨so, sf f hf⟩, fun _ h => nomatch h⟩
        · unfold knUse
          rw [if_pos (by rw [if_neg (by decide), inV_strs] at hin; exact of_decide_eq_true hin)]
    · rintro σ' Ha ⟨sa, p, ks, y4, y5, y6, hp, hka, kl, hks, eks, rfl⟩
      walk_at "rd"
      rw [mvl, List.take_length] at eks
      exact q p Ha ks hp (s19.trans sa) hka (by omega) hks eks

/-! ### equality of modules -/
theorem kb_ll : kitB "list" "list" = some true := by decide +kernel
def Lay (n : Nat) (d : PyData) : Prop := PyData.canLay0 d = true ∧ PyData.depth d ≤ n
theorem Lay.mono {n n' : Nat} {d : PyData} (h : Lay n d) (hn : n ≤ n') : Lay n' d := ⟨h.1, Nat.le_trans h.2 hn⟩
theorem layAll {n : Nat} : ∀ {ds : List PyData}, (∀ d ∈ ds, Lay n d) → PyData.canLayAll0 ds = true ∧ PyData.depthAll ds ≤ n
  | [], _ => ⟨rfl, Nat.zero_le _⟩
  | d :: ds, h => by
    have h0 := h d List.mem_cons_self
    have ih := layAll (ds := ds) fun x hx => h x (List.mem_cons_of_mem _ hx)
    refine ⟨?_, ?_⟩
    · show (PyData.canLay0 d && PyData.canLayAll0 ds) = true
      rw [h0.1, ih.1]; rfl
    · show max (PyData.depth d) (PyData.depthAll ds) ≤ n
      exact Nat.max_le.mpr ⟨h0.2, ih.2⟩
theorem lay_tup {n : Nat} {ds : List PyData} (h : ∀ d ∈ ds, Lay n d) : Lay (n + 1) (.tuple ds) := by
  obtain ⟨h1, h2⟩ := layAll h
  exact ⟨h1, Nat.succ_le_succ h2⟩
theorem lay_map {α : Type} {n : Nat} {f : α → PyData} {xs : List α} (h : ∀ x ∈ xs, Lay n (f x)) : Lay (n + 1) (.tuple (xs.map f)) := lay_tup fun d hd => by
  obtain ⟨x, hx, rfl⟩ := List.mem_map.mp hd
  exact h x hx
theorem lay_str {n : Nat} {s : Str} (h : PyData.strOk s = true) : Lay n (.str s) := ⟨h, Nat.zero_le _⟩
theorem lay_int {n : Nat} {i : Int} : Lay n (.int i) := ⟨rfl, Nat.zero_le _⟩
theorem lay_shaped {n : Nat} {d : PyData} (h : Lay n d) (hn : n ≤ 60) : SeqAt.shaped d = true := by
  unfold SeqAt.shaped
  rw [h.1, Bool.true_and]
  exact decide_eq_true (by have := h.2; omega)
theorem i_neSame {K : PySem.W.Frag} {H : Hp} {u v : V} {d : PyData} {Q : VK} (hu : Dp K H u d) (hv : Dp K H v d) (hs : SeqAt.shaped d = true) (q : Q (.bl false) H) : rNeD K u v H Q := by
  refine ⟨d, d, hu, hv, hs, hs, ?_⟩
  rw [SeqAt.eqv_refl d (shaped_lay hs)]; exact q
theorem lay_kd {k : Kd} (h : KdOk k) : Lay 2 k.d := kd_lay h
theorem lay_hds {h : Hd} (o : HdOk h) : ∀ d ∈ h.ds, Lay 3 d := by
  obtain ⟨o1, o2, o3⟩ := o
  intro d hd
  rcases List.mem_cons.mp hd with rfl | hd
  · exact lay_str o1
  rcases List.mem_cons.mp hd with rfl | hd
  · exact lay_map fun k hk => lay_kd (o2 k hk)
  rw [List.mem_singleton.mp hd]
  exact (lay_kd o3).mono (by decide)
theorem lay_ntup {n : Nat} {ds : List PyData} (h : ∀ d ∈ ds, Lay n d) {d : PyData} (hd : Lay n d) : ∀ x ∈ ds ++ [d], Lay n x := fun x hx => by
  rcases List.mem_append.mp hx with hx | hx
  · exact h x hx
  · rw [List.mem_singleton.mp hx]; exact hd
section
variable {ms : List Md} {ix : Nat → Nat} (G : GoodMs ix ms)
include G
theorem GoodMs.lay {i : Nat} {m : Md} (hm : ms[i]? = some m) : Lay 8 m.d := by
  obtain ⟨en, gm, us⟩ := G.md i m hm
  have z := G.mz hm
  have hf : ∀ c ∈ m.cls, ∀ r ∈ c.tb, HdOk r.h := fun c hc r hr => (z.ho c hc r hr).1
  refine lay_tup (n := 7) fun d hd => ?_
  rcases List.mem_cons.mp hd with rfl | hd
  · exact lay_str (by decide +kernel)
  rcases List.mem_cons.mp hd with rfl | hd
  · exact lay_str z.sz.nm
  rcases List.mem_cons.mp hd with rfl | hd
  · exact lay_int
  rcases List.mem_cons.mp hd with rfl | hd
  · refine (lay_map (n := 1) fun u hu => ?_).mono (by decide)
    obtain ⟨y, hy, rfl⟩ := us u hu
    obtain ⟨j, _, hj⟩ := take_at hy
    refine lay_tup (n := 0) fun d hd => ?_
    rcases List.mem_cons.mp hd with rfl | hd
    · exact lay_str (G.mz hj).sz.nm
    · rw [List.mem_singleton.mp hd]; exact lay_int
  rcases List.mem_cons.mp hd with rfl | hd
  · refine (lay_map (n := 6) fun f hf => ?_).mono (by decide)
    obtain ⟨l, hl, rfl⟩ := List.mem_iff_getElem.mp hf
    obtain ⟨l2, en2, _⟩ := G.face hm (List.getElem?_eq_getElem hl)
    refine lay_tup (n := 5) fun d hd => ?_
    rcases List.mem_cons.mp hd with rfl | hd
    · exact lay_str (by rw [en2]; exact (fn_str l l2).1)
    · rw [List.mem_singleton.mp hd]
      exact lay_map (n := 4) fun h hh => lay_tup (n := 3) (lay_hds (z.hf _ (List.getElem_mem hl) h hh).1)
  rcases List.mem_cons.mp hd with rfl | hd
  · refine (lay_map (n := 6) fun c hc => ?_).mono (by decide)
    obtain ⟨k, hk, _, g⟩ := G.cls hm hc
    refine lay_tup (n := 5) fun d hd => ?_
    rcases List.mem_cons.mp hd with rfl | hd
    · exact lay_str (by rw [g.en]; exact (cl_str k hk).1)
    rcases List.mem_cons.mp hd with rfl | hd
    · exact lay_int
    rcases List.mem_cons.mp hd with rfl | hd
    · exact (lay_map (n := 2) fun f hf => (show Lay 2 (fcD f) from lay_kd (show KdOk (Kd.fac f.1 f.2) from z.sz.fo c hc f hf))).mono (by decide)
    rcases List.mem_cons.mp hd with rfl | hd
    · exact (lay_map (n := 2) fun x hx => lay_kd (G.kd hm (Nat.le_refl _) hm (g.fds x hx)).2).mono (by decide)
    rw [List.mem_singleton.mp hd]
    exact lay_map (n := 4) fun r hr => lay_tup (n := 3) (lay_ntup (lay_hds (hf c hc r hr)) lay_int)
  rcases List.mem_cons.mp hd with rfl | hd
  · refine (lay_map (n := 5) fun t ht => ?_).mono (by decide)
    obtain ⟨k, c, r, hc, hr, rfl⟩ := gm.gl.mt t ht
    refine lay_tup (n := 4) fun d hd => ?_
    rcases List.mem_cons.mp hd with rfl | hd
    · exact lay_int
    rcases List.mem_append.mp hd with hd | hd
    · exact (lay_hds (hf c (List.mem_of_getElem? hc) r hr) d hd).mono (by decide)
    · have : ∀ d ∈ (PyData.tuple (([] : List Kd).map Kd.d) :: mtRest), Lay 4 d := by
        intro d hd
        rcases List.mem_cons.mp hd with rfl | hd
        · exact ⟨by decide +kernel, by decide +kernel⟩
        rcases List.mem_cons.mp hd with rfl | hd
        · exact lay_int
        rcases List.mem_cons.mp hd with rfl | hd
        · exact ⟨by decide +kernel, by decide +kernel⟩
        · rw [List.mem_singleton.mp hd]; exact ⟨by decide +kernel, by decide +kernel⟩
      exact this d hd
  · rw [List.mem_singleton.mp hd]
    exact (lay_map (n := 0) fun a _ => lay_int).mono (by decide)
theorem GoodMs.findA {j : Nat} {y : Md} (hy : ms[j]? = some y) : findM ms y.nm = some y := by
  have h := G.find (i := ms.length) hy (List.getElem?_eq_some_iff.mp hy).1
  rwa [List.take_length] at h
theorem GoodMs.findN : findM ms (Str.ofString "None") = none := by
  cases h : findM ms (Str.ofString "None") with
  | none => rfl
  | some y =>
    obtain ⟨j, hj, e⟩ := List.mem_iff_getElem.mp (List.mem_of_find?_eq_some h)
    have hy : ms[j]? = some y := by rw [← e]; exact List.getElem?_eq_getElem hj
    exact absurd ((G.md j y hy).1.symm.trans (findM_nm h)) (pk_str (ix j) (G.lt3 j (G.lt hy))).2
theorem GoodMs.faceA {j : Nat} {y : Md} (hy : ms[j]? = some y) {l : Nat} {g : Str × List Hd} (hg : y.fcs[l]? = some g) : faceM ms y.nm g.1 = some g.2 := by
  unfold faceM
  rw [G.findA hy]
  show (y.fcs.find? _).map (·.2) = _
  rw [G.ffind hy hg]; rfl
theorem GoodMs.faceN {j : Nat} {y : Md} (hy : ms[j]? = some y) : faceM ms y.nm (Str.ofString "None") = none := by
  unfold faceM
  rw [G.findA hy]
  show (y.fcs.find? _).map (·.2) = _
  cases h : y.fcs.find? (fun x => decide (x.1 = Str.ofString "None")) with
  | none => rfl
  | some x =>
    have e : x.1 = Str.ofString "None" := of_decide_eq_true (List.find?_some (p := fun x : Str × List Hd => decide (x.1 = Str.ofString "None")) h)
    obtain ⟨k, hk, ek⟩ := List.mem_iff_getElem.mp (List.mem_of_find?_eq_some h)
    obtain ⟨k2, en, _⟩ := G.face hy (l := k) (g := x) (by rw [← ek]; exact List.getElem?_eq_getElem hk)
    exact absurd (en.symm.trans e) (fn_str k k2).2
theorem GoodMs.clsN {j : Nat} {y : Md} (hy : ms[j]? = some y) {k : Nat} {c : Cl} (hc : y.cls[k]? = some c) : k < 4 ∧ c.nm = clN k := by
  have gm := (G.md j y hy).2.1
  have h1 := gm.cll
  have h2 := (List.getElem?_eq_some_iff.mp hc).1
  exact ⟨by omega, (gm.gl.cls k c hc).en⟩
theorem GoodMs.appN {j : Nat} {y : Md} (hy : ms[j]? = some y) : appK y (Str.ofString "None") = none := by
  unfold appK
  rw [List.find?_eq_none]
  intro k _
  cases hc : y.cls[k]? with
  | none => simp
  | some c =>
    obtain ⟨h1, h2⟩ := G.clsN hy hc
    have := (cl_str k h1).2
    rw [← h2] at this
    simpa using this
theorem GoodMs.app {j : Nat} {y : Md} (hy : ms[j]? = some y) {k : Nat} {c : Cl} (hc : y.cls[k]? = some c) : appK y c.nm = if k ∈ y.apps then some k else none := by
  obtain ⟨h1, h2⟩ := G.clsN hy hc
  have one : ∀ a : Nat, (match y.cls[a]? with | some d => decide (d.nm = c.nm) | none => false) = true → a = k := fun a ha => by
    cases hd : y.cls[a]? with
    | none => rw [hd] at ha; cases ha
    | some d =>
      rw [hd] at ha
      obtain ⟨h3, h4⟩ := G.clsN hy hd
      have e := of_decide_eq_true ha
      rw [h2, h4] at e
      exact cl_inj a h3 k h1 e
  have self : (match y.cls[k]? with | some d => decide (d.nm = c.nm) | none => false) = true := by rw [hc]; exact decide_eq_true rfl
  unfold appK
  cases h : y.apps.find? (fun k => match y.cls[k]? with | some d => decide (d.nm = c.nm) | none => false) with
  | none =>
    rw [if_neg]
    intro hk
    exact List.find?_eq_none.mp h k hk self
  | some a =>
    have e := one a (List.find?_some (p := fun k : Nat => match y.cls[k]? with | some d => decide (d.nm = c.nm) | none => false) h)
    subst e
    rw [if_pos (List.mem_of_find?_eq_some h)]
theorem GoodMs.cl4 : (clsOf ms).length ≤ 12 := by
  have h := flat_len (f := fun m : Md => (List.range m.cls.length).map fun k => (m.nm, k)) (n := 4) (l := ms) fun m hm => by
    obtain ⟨i, hi, rfl⟩ := List.mem_iff_getElem.mp hm
    rw [List.length_map, List.length_range]
    exact (G.md i _ (List.getElem?_eq_getElem hi)).2.1.cll
  have := G.ln
  unfold clsOf
  omega
theorem GoodMs.row {i : Nat} {m : Md} (hm : ms[i]? = some m) {k : Nat} {c : Cl} (hc : m.cls[k]? = some c) {j : Nat} {y : Md} (hy : ms[j]? = some y) {l : Nat} {g : Str × List Hd} (hg : y.fcs[l]? = some g) {h : Hd} (hh : h ∈ g.2) (hf : (y.nm, g.1) ∈ facesOf m k) : ∃ r ∈ c.tb, r.h.nm = h.nm := by
  -- the face is one that the module sees, so it is the same face
  have hf0 := hf
  obtain ⟨a, ha, hfa⟩ := List.mem_flatMap.mp hf
  cases hd : m.cls[a.toNat]? with
  | none => rw [hd] at hfa; cases hfa
  | some d =>
    rw [hd] at hfa
    have gd := (G.md i m hm).2.1.gl.cls _ d hd
    obtain ⟨j2, y2, l2, g2, hji, hy2, e1, hg2, e2⟩ := G.kn hm (gd.fcs _ hfa)
    have ej := G.one hy2 hy e1
    subst ej
    rw [hy] at hy2; cases hy2
    have e3 : g2 = g := by
      have q1 := G.ffind hy hg2
      have q2 := G.ffind hy hg
      have e2 : g2.1 = g.1 := e2
      rw [e2, q2] at q1
      exact (Option.some.inj q1).symm
    have hx := G.faceX hm hji hy hg
    obtain ⟨r, hr, er⟩ := G.heads hm hc hf0 (G.faceH hx hh)
    exact ⟨r, hr, by rw [er]⟩
end
theorem clsOf_sum : ∀ {ms : List Md}, (ms.map fun m => (m.cls.length : Int)).sum = ((clsOf ms).length : Nat)
  | [] => rfl
  | m :: ms => by
    have ih := clsOf_sum (ms := ms)
    have e : clsOf (m :: ms) = ((List.range m.cls.length).map fun k => (m.nm, k)) ++ clsOf ms := by unfold clsOf; rw [List.flatMap_cons]
    rw [List.map_cons, List.sum_cons, ih, e, List.length_append, List.length_map, List.length_range]
    omega
theorem FrL.ints {K : PySem.W.Frag} {H : Hp} : ∀ {vs : List V} {ns : List Int}, FrL K H vs (ns.map .int) → vs = ns.map V.int
  | [], [], _ => rfl
  | v :: vs, n :: ns, .cons h t => by rw [h.intI, FrL.ints t]; rfl
theorem rowIx_in {rows : List Rw} {n : Str} (h : ∃ r ∈ rows, r.h.nm = n) : ∃ (j : Nat) (r : Rw), rowIx rows n = j ∧ rows[j]? = some r ∧ r.h.nm = n ∧ ∀ (i : Nat) r', i < j → rows[i]? = some r' → ¬ r'.h.nm = n := by
  cases e : rows.findIdx? (fun r => decide (r.h.nm = n)) with
  | none =>
    obtain ⟨r, hr, hn⟩ := h
    have := List.findIdx?_eq_none_iff.mp e r hr
    simp [hn] at this
  | some j =>
    obtain ⟨hj, h1, h2⟩ := List.findIdx?_eq_some_iff_getElem.mp e
    refine ⟨j, rows[j], by unfold rowIx; rw [e], List.getElem?_eq_getElem hj, of_decide_eq_true h1, fun i r' hi hr => ?_⟩
    have := h2 i hi
    obtain ⟨h3, h4⟩ := List.getElem?_eq_some_iff.mp hr
    rw [h4] at this
    simpa using this
theorem nd_inj {α : Type} {l : List α} (h : l.Nodup) {i j : Nat} {x : α} (hi : l[i]? = some x) (hj : l[j]? = some x) : i = j := by
  obtain ⟨a1, a2⟩ := List.getElem?_eq_some_iff.mp hi
  obtain ⟨b1, b2⟩ := List.getElem?_eq_some_iff.mp hj
  have p := List.pairwise_iff_getElem.mp (List.nodup_iff_pairwise_ne.mp h)
  rcases Nat.lt_trichotomy i j with c | c | c
  · exact absurd (a2.trans b2.symm) (p i j a1 b1 c)
  · exact c
  · exact absurd (b2.trans a2.symm) (p j i b1 a1 c)
theorem GoodMs.clAt {ms : List Md} {ix : Nat → Nat} (G : GoodMs ix ms) {i : Nat} {m : Md} (hm : ms[i]? = some m) {k : Nat} {c : Cl} (hc : m.cls[k]? = some c) : ClAt ms ((clsOf (ms.take i)).length + k) m k c := by
  refine ⟨?_, G.findA hm, hc⟩
  obtain ⟨hi, em⟩ := List.getElem?_eq_some_iff.mp hm
  have hk := (List.getElem?_eq_some_iff.mp hc).1
  have e : ms = ms.take i ++ m :: ms.drop (i + 1) := by
    rw [← em, ← List.drop_eq_getElem_cons hi, List.take_append_drop]
  have e2 : clsOf ms = clsOf (ms.take i) ++ (((List.range m.cls.length).map fun k => (m.nm, k)) ++ clsOf (ms.drop (i + 1))) := by
    conv => lhs; rw [e]
    unfold clsOf
    rw [List.flatMap_append, List.flatMap_cons]
  rw [e2, List.getElem?_append_right (by omega), show (clsOf (ms.take i)).length + k - (clsOf (ms.take i)).length = k by omega,
    List.getElem?_append_left (by rw [List.length_map, List.length_range]; exact hk), List.getElem?_map, List.getElem?_range hk]
  rfl
theorem clsOf_next {ms : List Md} {i : Nat} {m : Md} (hm : ms[i]? = some m) : (clsOf (ms.take (i + 1))).length = (clsOf (ms.take i)).length + m.cls.length := by
  rw [List.take_add_one, hm]
  unfold clsOf
  show (List.flatMap _ (List.take i ms ++ [m])).length = _
  rw [List.flatMap_append, List.flatMap_singleton, List.length_append, List.length_map, List.length_range]

/-! ### what a world tells of its modules -/
/-- all but p stays -/
structure Gw (p : Addr) (H H' : Hp) : Prop where
  kp : Kp [p] H H'
  tk : TupK H H'
theorem Gw.refl {p : Addr} {H : Hp} : Gw p H H := ⟨Kp.refl _ _, TupK.refl _⟩
theorem Gw.trans {p : Addr} {H H1 H2 : Hp} (x : Gw p H H1) (y : Gw p H1 H2) : Gw p H H2 := ⟨x.kp.trans y.kp, x.tk.trans y.tk⟩
theorem Gw.of {p : Addr} {H H1 : Hp} (s : Same H H1) : Gw p H H1 := ⟨Kp.of s, .of s⟩
theorem kpT {p : Addr} {H H' : Hp} {vs : List V} (h : H p = some (.lst vs)) (k : Kp [p] H H') : TupK H H' := fun a xs e => k a _ (by
  intro hm
  rw [List.mem_singleton.mp hm, h] at e
  cases e) e
theorem Gw.set {p : Addr} {H : Hp} {vs : List V} {o : HO} (h : H p = some (.lst vs)) : Gw p H (upd H p o) := ⟨Kp.set (by simp), kpT h (Kp.set (by simp))⟩
theorem Gw.up {p : Addr} {H0 H H' : Hp} (g : Gw p H H') (s : Same H0 H) (n : H0 p = none) : Same H0 H' := g.kp.same s (by simpa using n)
theorem Gw.ls {K : PySem.W.Frag} {p l : Addr} {H H' : Hp} {ds : List PyData} (g : Gw p H H') (h : LsF K H l ds) (n : l ≠ p) : LsF K H' l ds := h.kpm g.kp g.tk n
theorem dpApp {K : PySem.W.Frag} {H : Hp} : ∀ {vs ws : List V} {ds es : List PyData}, DpAll K H vs ds → DpAll K H ws es → DpAll K H (vs ++ ws) (ds ++ es)
  | _, _, _, _, .nil, k => k
  | _, _, _, _, .cons h t, k => .cons h (dpApp t k)
/-- a list of rows, each of which stays as long as all but the list stays -/
structure RwL (K : PySem.W.Frag) (H : Hp) (p : Addr) (ds : List PyData) : Prop where
  ex : ∃ vs, H p = some (.lst vs) ∧ vs.length = ds.length ∧ ∀ H', Kp [p] H H' → DpAll K H' vs ds
theorem RwL.same {K : PySem.W.Frag} {H H' : Hp} {p : Addr} {ds : List PyData} (h : RwL K H p ds) (s : Same H H') : RwL K H' p ds := by
  obtain ⟨vs, h1, h2, h3⟩ := h.ex
  exact ⟨vs, s _ _ h1, h2, fun H2 k => h3 H2 ((Kp.of s).trans k)⟩
theorem RwL.lst {K : PySem.W.Frag} {H : Hp} {p : Addr} {ds : List PyData} (h : RwL K H p ds) : ∃ vs, H p = some (.lst vs) := by
  obtain ⟨vs, h1, _⟩ := h.ex
  exact ⟨vs, h1⟩
theorem RwL.add {K : PySem.W.Frag} {H : Hp} {p : Addr} {ds : List PyData} {v : V} {d : PyData} {Q : VK} (h : RwL K H p ds) (hn : ds.length < sizeLine) (hv : ∀ H', Kp [p] H H' → Dp K H' v d) (q : ∀ o, Gw p H (upd H p o) → RwL K (upd H p o) p (ds ++ [d]) → Q .non (upd H p o)) : rAppend (.ref p) [v] H Q := by
  obtain ⟨vs, h1, h2, h3⟩ := h.ex
  refine i_app h1 (by rw [h2]; exact hn) (q _ (Gw.set h1) ⟨_, upd_same, by simp [h2], fun H' k => ?_⟩)
  have k2 : Kp [p] H H' := (Kp.set (by simp)).trans k
  exact dpApp (h3 H' k2) (.cons (hv H' k2) .nil)
theorem RwL.fr {K : PySem.W.Frag} {H : Hp} {p : Addr} {ds : List PyData} {v : V} {d : PyData} (h : RwL K H p ds) (hf : Fr K H v d) : ∀ H', Kp [p] H H' → Dp K H' v d := fun H' k => by
  obtain ⟨vs, h1⟩ := h.lst
  exact (hf.up (kpT h1 k)).dp
theorem RwL.ls {K : PySem.W.Frag} {H : Hp} {p q : Addr} {ds es : List PyData} {ys : List V} (h : RwL K H p ds) (hq : H q = some (.lst ys)) (n : q ≠ p) (fl : FrL K H ys es) : ∀ H', Kp [p] H H' → Dp K H' (.ref q) (.list es) := fun H' k => by
  obtain ⟨vs, h1⟩ := h.lst
  exact .lst (sqL_of (k q _ (by simpa using n) hq)) (fl.up (kpT h1 k)).dp
theorem map_take {α β : Type} {f : α → β} {l : List α} {i : Nat} (h : i < l.length) : (l.take (i + 1)).map f = (l.take i).map f ++ [f l[i]] := by
  rw [List.take_add_one, List.getElem?_eq_getElem h, List.map_append]; simp
def faceR (m : Md) (f : Str × List Hd) : PyData := .tuple [.str m.nm, .tuple (f.2.map Hd.d)]
def fitsR (m : Md) (ks : List Kd) (a : Kd) : PyData := .list (ks.map fun b => .bool (fitsP m a b))
def clsR (m : Md) (k : Nat) (c : Cl) : PyData := .tuple [.str m.nm, .int k, .tuple (c.fds.map Kd.d), .bool (decide (k ∈ m.apps))]
def metR (c : Cl) : PyData := .list (c.tb.map fun r => .int r.m)
def kindR (ms : List Md) (m : Md) (k : Nat) (o : Md) : PyData := .list ((knownK ms o).map fun x => .bool (isKind m k o.nm x))
def rowR (m : Md) (k : Nat) (c : Cl) (o : Md) (f : Str × List Hd) : PyData := .list (f.2.map fun h => .int (rowF m k c o.nm f.1 h))
def othR (ms : List Md) (m : Md) (k : Nat) (c : Cl) (o : Md) : List PyData := kindR ms m k o :: o.fcs.map (rowR m k c o)
def oneR (ms : List Md) (m : Md) (k : Nat) : List PyData := match m.cls[k]? with
  | some c => clsR m k c :: metR c :: ms.flatMap (othR ms m k c)
  | none => []
def tellR (ms : List Md) (m : Md) : List PyData := m.fcs.map (faceR m) ++ ((knownK ms m).map (fitsR m (knownK ms m)) ++ (List.range m.cls.length).flatMap (oneR ms m))
def toldR (ms : List Md) : List PyData := ms.flatMap (tellR ms)
theorem i_applet {K : PySem.W.Frag} {mg : Str → Option Value} {T : Txt K mg} {ix : Nat → Nat} {ws : List Md} {H : Hp} {a md cl : Addr} {Q : VK} {E : XK} (G : GoodMs ix ws) (hM : Ms ws) (w : Wd K T.c_World H a md cl ws) {jm : Nat} {m : Md} (hm : ws[jm]? = some m) {k g : Nat} {c : Cl} (cA : ClAt ws g m k c)
    (q : ∀ (z : Int) H', Same H H' → decide (V.int z = V.int g) = decide (k ∈ m.apps) → Q (.int z) H') : sp_World_applet T [.ref a, .str m.nm, .str c.nm] H Q E := by
  refine ⟨a, md, cl, ws, m.nm, c.nm, rfl, w, hM, fun e => (by rw [cA.hm] at e; cases e), fun m2 e => ?_⟩
  rw [cA.hm] at e
  cases e
  rw [G.app hm cA.hc]
  by_cases happ : k ∈ m.apps
  · refine ⟨fun e => (by rw [if_pos happ] at e; cases e), fun k2 j e2 ej H4 s4 => ?_⟩
    rw [if_pos happ] at e2
    cases e2
    have ejg : j = g := nd_inj (clsOf_nd hM.nd) ej cA.hg
    subst ejg
    exact q _ _ s4 (by rw [decide_eq_true happ, decide_eq_true rfl])
  · refine ⟨fun _ => q _ _ (Same.refl _) ?_, fun k2 j e2 => (by rw [if_neg happ] at e2; cases e2)⟩
    rw [decide_eq_false happ, decide_eq_false]
    intro e
    have := V.int.inj e
    omega
def sp_law_told {K : PySem.W.Frag} {mg : Str → Option Value} (T : Txt K mg) : Sp := fun vs H Q _ => ∃ (a md cl l : Addr) (ws ms : List Md) (ix : Nat → Nat), vs = [.ref a, .ref l] ∧ Wd K T.c_World H a md cl ws ∧ LsF K H l (ms.map Md.d) ∧ GoodMs ix ws ∧ Ms ws ∧ (∀ m ∈ ms, ∃ j : Nat, ws[j]? = some m) ∧ ms.length ≤ 3 ∧
  ∀ p H', Same H H' → RwL K H' p (toldR ms) → Q (.ref p) H'
theorem ok_law_told (T : Txt K mg) : FnOk P w K mg base CX0 5 T.f_law_told T.d_law_told ["_law_world", "_law_modules_here"] (sp_law_told T) := by
  refine T.k_law_told.ok sc_law_told (fun vs H Q E h => ?_) (fun cdv A outer s H vs Q E hr h => ?_)
  · obtain ⟨a, md, cl, l, ws, ms, ix, rfl, _⟩ := h
    rfl
  · obtain ⟨a, md, cl, l, ws, ms, ix, rfl, w, hl, G, hM, hws, lnm, q⟩ := h
    have w0 := w
    obtain ⟨⟨dx, h1⟩, _, _⟩ := w0
    refine ⟨_, (pss_cons (ps_set (i := 2) sc_law_told.nd rfl (.inl rfl) (pe_lst pa_nil))
      (pss_cons (ps_for PassesOwn.never rfl (pi_list (pv 1)) (pg_name (i := 3) sc_law_told.nd rfl (Or.inr rfl)) (pss_cons (ps_for PassesOwn.never rfl (pi_tup (pe_ix (ix_tupK K) (pv 3) pe_int (fun _ _ => rfl))) (pg_name (i := 4) sc_law_told.nd rfl (Or.inr rfl)) (pss_one (ps_expr (pe_bmK K PySem.F.plainAttrs_list PySem.F.slot_list_append PySem.F.type_list_append mt_append (pv 2) (pa_cons (pe_tup (pa_cons (pe_ix (ix_tupK K) (pv 3) pe_int (fun _ _ => rfl)) (pa_cons (pe_meth (pv 0) T.cl_World T.me_World_face (ok_World_face T) (hr.mono (by decide)) T.b_World_face .nil pass0 (pa_cons (pe_ix (ix_tupK K) (pv 3) pe_int (fun _ _ => rfl)) (pa_cons (pe_ix (ix_tupK K) (pv 4) pe_int (fun _ _ => rfl)) pa_nil))) pa_nil))) pa_nil)))))
      (pss_cons (ps_set (i := 5) sc_law_told.nd rfl (.inl rfl) (pe_call (ok_law_known T) (hr.mono (by decide)) (by rfl) T.g_law_known T.k_law_known.kp T.b_law_known .nil pass0 (pa_cons (pv 1) (pa_cons (pv 3) pa_nil))))
      (pss_cons (ps_for PassesOwn.never rfl (pi_list (pv 5)) (pg_name (i := 6) sc_law_told.nd rfl (Or.inr rfl)) (pss_one (ps_expr (pe_bmK K PySem.F.plainAttrs_list PySem.F.slot_list_append PySem.F.type_list_append mt_append (pv 2) (pa_cons (pe_lc (own := [("_law_other", 7)]) (g := gName 7) (tt := tYes) rfl sc_law_told.nd (pi_list (pv 5)) (blkOk_by (own := [("_law_other", 7)]) (N := ["_law_world", "_law_modules_here", "_law_rows", "_law_module_here", "_law_face", "_law_kinds", "_law_kind_here", "_law_other", "_law_k", "_law_g", "_law_place", "_law_number"]) (sc := defScope s_law_told) (by decide +kernel)) (fun _ _ _ _ _ => pg_name (i := 7) sc_law_told.nd rfl (Or.inl rfl)) (fun _ _ _ _ _ => pts_nil) (fun _ _ _ _ _ => (pe_meth (pv 0) T.cl_World T.me_World_fits (ok_World_fits T) (hr.mono (by decide)) T.b_World_fits .nil pass0 (pa_cons (pe_ix (ix_tupK K) (pv 3) pe_int (fun _ _ => rfl)) (pa_cons (pv 6) (pa_cons (pv 7) pa_nil)))))) pa_nil)))))
      (pss_one (ps_for PassesOwn.never rfl (pi_range1 (by rfl) T.m_range (pa_cons (pe_callB (lenTK K) (by rfl) T.m_len (by decide +kernel) (pa_cons (pe_ix (ix_tupK K) (pv 3) pe_int (fun _ _ => rfl)) pa_nil)) pa_nil)) (pg_name (i := 8) sc_law_told.nd rfl (Or.inl rfl)) (pss_cons (ps_set (i := 9) sc_law_told.nd rfl (.inr rfl) (pe_meth (pv 0) T.cl_World T.me_World_number (ok_World_number T) (hr.mono (by decide)) T.b_World_number .nil pass0 (pa_cons (pe_ix (ix_tupK K) (pv 3) pe_int (fun _ _ => rfl)) (pa_cons (pv 8) pa_nil))))
      (pss_cons (ps_expr (pe_bmK K PySem.F.plainAttrs_list PySem.F.slot_list_append PySem.F.type_list_append mt_append (pv 2) (pa_cons (pe_tup (pa_cons (pe_meth (pv 0) T.cl_World T.me_World_package (ok_World_package T) (hr.mono (by decide)) T.b_World_package .nil pass0 (pa_cons (pv 9) pa_nil)) (pa_cons (pe_meth (pv 0) T.cl_World T.me_World_own (ok_World_own T) (hr.mono (by decide)) T.b_World_own .nil pass0 (pa_cons (pv 9) pa_nil)) (pa_cons (pe_meth (pv 0) T.cl_World T.me_World_fields (ok_World_fields T) (hr.mono (by decide)) T.b_World_fields .nil pass0 (pa_cons (pv 9) pa_nil)) (pa_cons (pe_cmpR op_eq (pe_meth (pv 0) T.cl_World T.me_World_applet (ok_World_applet T) (hr.mono (by decide)) T.b_World_applet .nil pass0 (pa_cons (pe_ix (ix_tupK K) (pv 3) pe_int (fun _ _ => rfl)) (pa_cons (pe_ix (ix_tupK K) (pe_ix (ix_tupK K) (pe_ix (ix_tupK K) (pv 3) pe_int (fun _ _ => rfl)) (pv 8) (fun _ _ => rfl)) pe_int (fun _ _ => rfl)) pa_nil))) (pv 9) (nomark _)) pa_nil))))) pa_nil)))
      (pss_cons (ps_expr (pe_bmK K PySem.F.plainAttrs_list PySem.F.slot_list_append PySem.F.type_list_append mt_append (pv 2) (pa_cons (pe_lc (own := [("_law_place", 10)]) (g := gName 10) (tt := tYes) rfl sc_law_told.nd (pi_range1 (by rfl) T.m_range (pa_cons (pe_callB (lenTK K) (by rfl) T.m_len (by decide +kernel) (pa_cons (pe_ix (ix_tupK K) (pe_ix (ix_tupK K) (pe_ix (ix_tupK K) (pv 3) pe_int (fun _ _ => rfl)) (pv 8) (fun _ _ => rfl)) pe_int (fun _ _ => rfl)) pa_nil)) pa_nil)) (blkOk_by (own := [("_law_place", 10)]) (N := ["_law_world", "_law_modules_here", "_law_rows", "_law_module_here", "_law_face", "_law_kinds", "_law_kind_here", "_law_other", "_law_k", "_law_g", "_law_place", "_law_number"]) (sc := defScope s_law_told) (by decide +kernel)) (fun _ _ _ _ _ => pg_name (i := 10) sc_law_told.nd rfl (Or.inl rfl)) (fun _ _ _ _ _ => pts_nil) (fun _ _ _ _ _ => (pe_meth (pv 0) T.cl_World T.me_World_method (ok_World_method T) (hr.mono (by decide)) T.b_World_method .nil pass0 (pa_cons (pv 9) (pa_cons (pv 10) pa_nil))))) pa_nil)))
      (pss_one (ps_for PassesOwn.never rfl (pi_list (pv 1)) (pg_name (i := 7) sc_law_told.nd rfl (Or.inr rfl)) (pss_cons (ps_expr (pe_bmK K PySem.F.plainAttrs_list PySem.F.slot_list_append PySem.F.type_list_append mt_append (pv 2) (pa_cons (pe_lc (own := [("_law_kind_here", 6)]) (g := gName 6) (tt := tYes) rfl sc_law_told.nd (pi_list (pe_call (ok_law_known T) (hr.mono (by decide)) (by rfl) T.g_law_known T.k_law_known.kp T.b_law_known .nil pass0 (pa_cons (pv 1) (pa_cons (pv 7) pa_nil)))) (blkOk_by (own := [("_law_kind_here", 6)]) (N := ["_law_world", "_law_modules_here", "_law_rows", "_law_module_here", "_law_face", "_law_kinds", "_law_kind_here", "_law_other", "_law_k", "_law_g", "_law_place", "_law_number"]) (sc := defScope s_law_told) (by decide +kernel)) (fun _ _ _ _ _ => pg_name (i := 6) sc_law_told.nd rfl (Or.inl rfl)) (fun _ _ _ _ _ => pts_nil) (fun _ _ _ _ _ => (pe_meth (pv 0) T.cl_World T.me_World_is_kind (ok_World_is_kind T) (hr.mono (by decide)) T.b_World_is_kind .nil pass0 (pa_cons (pv 9) (pa_cons (pe_ix (ix_tupK K) (pv 7) pe_int (fun _ _ => rfl)) (pa_cons (pv 6) pa_nil)))))) pa_nil)))
      (pss_one (ps_for PassesOwn.never rfl (pi_tup (pe_ix (ix_tupK K) (pv 7) pe_int (fun _ _ => rfl))) (pg_name (i := 4) sc_law_told.nd rfl (Or.inr rfl)) (pss_one (ps_expr (pe_bmK K PySem.F.plainAttrs_list PySem.F.slot_list_append PySem.F.type_list_append mt_append (pv 2) (pa_cons (pe_lc (own := [("_law_number", 11)]) (g := gName 11) (tt := tYes) rfl sc_law_told.nd (pi_range1 (by rfl) T.m_range (pa_cons (pe_callB (lenTK K) (by rfl) T.m_len (by decide +kernel) (pa_cons (pe_ix (ix_tupK K) (pv 4) pe_int (fun _ _ => rfl)) pa_nil)) pa_nil)) (blkOk_by (own := [("_law_number", 11)]) (N := ["_law_world", "_law_modules_here", "_law_rows", "_law_module_here", "_law_face", "_law_kinds", "_law_kind_here", "_law_other", "_law_k", "_law_g", "_law_place", "_law_number"]) (sc := defScope s_law_told) (by decide +kernel)) (fun _ _ _ _ _ => pg_name (i := 11) sc_law_told.nd rfl (Or.inl rfl)) (fun _ _ _ _ _ => pts_nil) (fun _ _ _ _ _ => (pe_meth (pv 0) T.cl_World T.me_World_row (ok_World_row T) (hr.mono (by decide)) T.b_World_row .nil pass0 (pa_cons (pv 9) (pa_cons (pe_ix (ix_tupK K) (pv 7) pe_int (fun _ _ => rfl)) (pa_cons (pe_ix (ix_tupK K) (pv 4) pe_int (fun _ _ => rfl)) (pa_cons (pv 11) pa_nil))))))) pa_nil))))))))))))))))))
      (pss_one (ps_ret (pv 2))))), ?_⟩
    have goodY : ∀ y ∈ ms, Few y.fcs ∧ PyData.strOk y.nm = true ∧ ∀ f ∈ y.fcs, PyData.strOk f.1 = true := fun y hy => by
      obtain ⟨j, hj⟩ := hws y hy
      refine ⟨(G.md j y hj).2.1.few, (G.mz hj).sz.nm, fun f hf => ?_⟩
      obtain ⟨q2, hq2, eq2⟩ := List.mem_iff_getElem.mp hf
      obtain ⟨l2, en2, _⟩ := G.face hj (l := q2) (g := f) (by rw [← eq2]; exact List.getElem?_eq_getElem hq2)
      rw [en2]
      exact (fn_str q2 l2).1
    walk_at "rd"
    refine rdSeq ?_
    walk_at "rd"
    intro p hp
    refine rdSeq ?_
    walk_at "rd"
    have s0 := same_new (o := .lst []) hp
    have r0 : RwL K (upd H p (.lst [])) p (((ms.take 0).flatMap (tellR ms))) := ⟨[], upd_same, rfl, fun _ _ => .nil⟩
    generalize upd H p (.lst []) = H0 at *
    have nlp := hl.ne hp
    obtain ⟨mv, hmv, fmv⟩ := (hl.same s0).ex
    have mvl := fmv.len
    rw [List.length_map] at mvl
    refine ⟨⟨_, sqL_of hmv⟩, ?_⟩
    refine i_for (walk_list (K := K) (a := l) (xs := mv)) (fun i σ' H' => Gw p H0 H' ∧ RwL K H' p ((ms.take i).flatMap (tellR ms)) ∧ ((ms.take i).flatMap (tellR ms)).length ≤ 200 * i ∧ ∃ (y3 y4 y5 y6 y7 y8 y9 : Option V), σ' = [some (.ref a), some (.ref l), some (.ref p), y3, y4, y5, y6, y7, y8, y9, none, none])
      ⟨Gw.refl, r0, Nat.zero_le _, _, _, _, _, _, _, _, rfl⟩ (fun i σ' H' _ h => sqL_of (h.1.kp l _ (by simpa using nlp) hmv)) ?_ ?_
    · rintro i x σ' H1 H2 hi ⟨g1, r1, n1, y3, y4, y5, y6, y7, y8, y9, rfl⟩ ⟨rfl, hx⟩
      have hi2 : i < ms.length := by omega
      obtain ⟨dd, hd2, fx⟩ := fmv.getV hx
      rw [List.getElem?_map, List.getElem?_eq_getElem hi2] at hd2
      cases hd2
      have fx := fx.up g1.tk
      have hmm := List.getElem_mem hi2
      rw [flat_take hi2]
      obtain ⟨jm, hm⟩ := hws _ hmm
      generalize ms[i] = m at *
      generalize (ms.take i).flatMap (tellR ms) = acc at *
      have gm := (G.md jm m hm).2.1
      have zm := G.mz hm
      have few := gm.few.1
      have s1 := g1.up s0 hp
      refine rdSeq ?_
      walk_at "rd"
      refine i_ixF (i := 4) fx (Md.at4 m) fun w4 hw4 => ?_
      obtain ⟨t, fv, rfl, fsq, ffl⟩ := hw4.inv
      have flen := ffl.len
      rw [List.length_map] at flen
      refine ⟨t, rfl, ⟨_, fsq.sq⟩, ?_⟩
      refine i_for (walk_tup (K := K) (a := t) (xs := fv)) (fun i σ' H' => Gw p H2 H' ∧ RwL K H' p (acc ++ (m.fcs.take i).map (faceR m)) ∧ ∃ (y4 : Option V), σ' = [some (.ref a), some (.ref l), some (.ref p), some x, y4, y5, y6, y7, y8, y9, none, none]) ⟨Gw.refl, by simpa using r1, _, rfl⟩ (fun i σ' H' _ h => (fsq.up h.1.tk).sq) ?_ ?_
      · rintro i2 x2 σ' H3 H4 hi3 ⟨g3, r3, y4, rfl⟩ ⟨rfl, hx2⟩
        have hi4 : i2 < m.fcs.length := by omega
        obtain ⟨dd, hd3, fx2⟩ := ffl.getV hx2
        have hg := List.getElem?_eq_getElem hi4
        rw [List.getElem?_map, hg] at hd3
        cases hd3
        have fx2 := fx2.up g3.tk
        have fx3 := fx.up g3.tk
        have ln3 : (acc ++ (m.fcs.take i2).map (faceR m)).length ≤ acc.length + i2 := by simp; omega
        rw [map_take hi4, ← List.append_assoc]
        generalize acc ++ (m.fcs.take i2).map (faceR m) = acc3 at *
        generalize m.fcs[i2] = f at *
        have s3 := g3.up s1 hp
        walk_at "rd"
        obtain ⟨pv, hpv⟩ := r3.lst
        refine ⟨.inl ⟨rfl, _, sqL_of hpv⟩, i_ixFs (i := 1) fx3 (Md.at1 m) ?_⟩
        refine i_meth (s3 _ _ h1) rfl (i_ixFs (i := 1) fx3 (Md.at1 m) (i_ixFs (i := 0) fx2 rfl ⟨a, md, cl, ws, m.nm, f.1, rfl, w.same s3, fun hs v e hv => ?_, fun e => (by rw [G.faceA hm hg] at e; cases e)⟩))
        rw [G.faceA hm hg] at e
        cases e
        intro tq htq
        have u1 := same_new (o := .tup [.str m.nm, v]) htq
        have ft : Fr K (upd H4 tq (.tup [.str m.nm, v])) (.ref tq) (faceR m f) := .tup (.inl upd_same) (.cons (.str _) (.cons (hv.up (.of u1)) .nil))
        generalize upd H4 tq (.tup [.str m.nm, v]) = H5 at *
        have r5 := r3.same u1
        exact r5.add (line5' (by omega)) (r5.fr ft) fun o g5 r6 => ⟨g3.trans ((Gw.of u1).trans g5), r6⟩
      rintro σ' H3 ⟨g3, r3, y4, rfl⟩
      rw [flen, List.take_length] at r3
      have s3 := g3.up s1 hp
      have fx3 := fx.up g3.tk
      have ln3 : (acc ++ m.fcs.map (faceR m)).length = acc.length + m.fcs.length := by simp
      dsimp only
      refine rdSeq ?_
      walk_at "rd"
      refine ⟨l, x, ms, m, rfl, hl.same s3, fx3, lnm, gm.cll, gm.ul, zm.sz.nm, goodY, fun k5 H4 ks hk5 s4 hk4 kl hks eks => ?_⟩
      have r4 := r3.same s4
      have fx4 := fx3.up (.of s4)
      have s04 := s3.trans s4
      have etl : acc ++ tellR ms m = (acc ++ m.fcs.map (faceR m)) ++ (ks.map (fitsR m ks) ++ (List.range m.cls.length).flatMap (oneR ms m)) := by
        rw [eks]; unfold tellR; rw [List.append_assoc]
      rw [etl]
      generalize acc ++ m.fcs.map (faceR m) = acc4 at *
      have nk5p : k5 ≠ p := by
        obtain ⟨pv, hpv⟩ := r3.lst
        exact fun e => by rw [e, hpv] at hk5; cases hk5
      refine rdSeq ?_
      walk_at "rd"
      obtain ⟨kv, hkv, fkv⟩ := hk4.ex
      have kvl := fkv.len
      rw [List.length_map] at kvl
      refine ⟨⟨_, sqL_of hkv⟩, ?_⟩
      refine i_for (walk_list (K := K) (a := k5) (xs := kv)) (fun i σ' H' => Gw p H4 H' ∧ RwL K H' p (acc4 ++ (ks.take i).map (fitsR m ks)) ∧ ∃ (y6 y7 : Option V), σ' = [some (.ref a), some (.ref l), some (.ref p), some x, y4, some (.ref k5), y6, y7, y8, y9, none, none]) ⟨Gw.refl, by simpa using r4, _, _, rfl⟩ (fun i σ' H' _ h => sqL_of (h.1.kp k5 _ (by simpa using nk5p) hkv)) ?_ ?_
      · rintro i2 x2 σ' H5 H6 hi3 ⟨g5, r5, y6, y7, rfl⟩ ⟨rfl, hx2⟩
        have hi4 : i2 < ks.length := by omega
        obtain ⟨dd, hd3, fx2⟩ := fkv.getV hx2
        rw [List.getElem?_map, List.getElem?_eq_getElem hi4] at hd3
        cases hd3
        have oka := hks _ (List.getElem_mem hi4)
        have ln5 : (acc4 ++ (ks.take i2).map (fitsR m ks)).length ≤ acc4.length + i2 := by simp; omega
        rw [map_take hi4, ← List.append_assoc]
        generalize acc4 ++ (ks.take i2).map (fitsR m ks) = acc5 at *
        generalize ks[i2] = ka at *
        have fx2 := fx2.up g5.tk
        have fx5 := fx4.up g5.tk
        have s5 := g5.up s04 hp
        have hkv6 := g5.kp k5 _ (by simpa using nk5p) hkv
        have fkv6 := fkv.up g5.tk
        obtain ⟨pv, hpv⟩ := r5.lst
        walk_at "rd"
        refine ⟨.inl ⟨rfl, _, sqL_of hpv⟩, ⟨_, sqL_of hkv6⟩, ?_⟩
        refine i_lcFr (K := K) (walk_list (K := K) (a := k5) (xs := kv)) (ks.map fun b => .bool (fitsP m ka b)) (by simp [kvl]) (line5' (by omega)) (fun H' s' => sqL_of (s' _ _ hkv6)) (fun _ _ _ _ y => y.1) (fun i x7 H7 Q' dd hdd s7 hy qq => ?_) (fun D H7 zs hD s7 hD7 fD => ?_)
        · have hi5 : i < ks.length := by rw [← kvl]; exact (List.getElem?_eq_some_iff.mp hy.2).1
          obtain ⟨d2, hd2, fx7⟩ := fkv6.getV hy.2
          rw [List.getElem?_map, List.getElem?_eq_getElem hi5] at hd2
          cases hd2
          rw [List.getElem?_map, List.getElem?_eq_getElem hi5] at hdd
          cases hdd
          have okb := hks _ (List.getElem_mem hi5)
          generalize ks[i] = kb at *
          have s57 := s5.trans s7
          walk_at "rd"
          refine i_meth (s57 _ _ h1) rfl (i_ixFs (i := 1) (fx5.up (.of s7)) (Md.at1 m) ⟨a, md, cl, ws, m, x2, x7, ka, kb, rfl, w.same s57, hM, G.findA hm, fx2.up (.of s7), fx7.up (.of s7), oka.1, okb.1, fun j ej => ⟨_, _, G.clAt hm (List.getElem?_eq_getElem (oka.2 j ej))⟩, fun H8 s8 => qq _ _ s8 (.bl _)⟩)
        · have nDp : D ≠ p := fun e => by rw [e, hpv] at hD; cases hD
          have r7 := r5.same s7
          exact r7.add (line5' (by omega)) (r7.ls hD7 nDp fD) fun o g8 r8 => ⟨g5.trans ((Gw.of s7).trans g8), r8⟩
      rintro σ' H5 ⟨g5, r5, y6, y7, rfl⟩
      rw [kvl, List.take_length] at r5
      have s5 := g5.up s04 hp
      have fx5 := fx4.up g5.tk
      have ln5 : (acc4 ++ ks.map (fitsR m ks)).length = acc4.length + ks.length := by simp
      rw [← List.append_assoc]
      generalize acc4 ++ ks.map (fitsR m ks) = acc5 at *
      walk_at "rd"
      refine i_ixF (i := 5) fx5 (Md.at5 m) fun x5 hx5 => i_lenF hx5 ?_
      rw [List.length_map]
      have cll := gm.cll
      refine ⟨_, rfl, by omega, by omega, ?_⟩
      rw [Int.toNat_natCast]
      refine i_for (walk_range (lo := 0) (n := m.cls.length)) (fun k σ' H' => Gw p H5 H' ∧ RwL K H' p (acc5 ++ (List.range k).flatMap (oneR ms m)) ∧ (acc5 ++ (List.range k).flatMap (oneR ms m)).length ≤ acc5.length + 40 * k ∧ ∃ (y4 y6 y7 y8 y9 : Option V), σ' = [some (.ref a), some (.ref l), some (.ref p), some x, y4, some (.ref k5), y6, y7, y8, y9, none, none]) ⟨Gw.refl, by simpa using r5, by simp, _, _, _, _, _, rfl⟩ (fun _ _ _ _ _ => trivial) ?_ ?_
      · rintro k xk σ' H6 H7 hk ⟨g6, r6, n6, y4, y6, y7, y8, y9, rfl⟩ ⟨rfl, rfl⟩
        simp only [List.set_cons_succ, List.set_cons_zero, Int.zero_add]
        have hc := List.getElem?_eq_getElem hk
        have cA := G.clAt hm hc
        have gc := gm.gl.cls k _ hc
        have tbl := gc.tbl
        have eo : (List.range (k + 1)).flatMap (oneR ms m) = (List.range k).flatMap (oneR ms m) ++ (clsR m k m.cls[k] :: metR m.cls[k] :: ms.flatMap (othR ms m k m.cls[k])) := by
          rw [List.range_succ, List.flatMap_append, List.flatMap_singleton]
          unfold oneR
          rw [hc]
        rw [eo]
        generalize m.cls[k] = c at *
        generalize (clsOf (ws.take jm)).length + k = g at *
        rw [← List.append_assoc]
        generalize acc5 ++ (List.range k).flatMap (oneR ms m) = acc6 at *
        have s6 := g6.up s5 hp
        have fx6 := fx5.up g6.tk
        refine rdSeq ?_
        walk_at "rd"
        refine i_meth (s6 _ _ h1) rfl (i_ixFs (i := 1) fx6 (Md.at1 m) ⟨a, md, cl, ws, (m.nm, k), g, rfl, w.same s6, hM, cA.hg, fun H8 s8 => ?_⟩)
        have s68 := s6.trans s8
        have r8 := r6.same s8
        have fx8 := fx6.up (.of s8)
        obtain ⟨pv, hpv⟩ := r8.lst
        refine rdSeq ?_
        walk_at "rd"
        refine ⟨.inl ⟨rfl, _, sqL_of hpv⟩, ?_⟩
        refine i_meth (s68 _ _ h1) rfl ⟨a, md, cl, ws, g, (m.nm, k), rfl, w.same s68, cA.hg, ?_⟩
        refine i_meth (s68 _ _ h1) rfl ⟨a, md, cl, ws, g, (m.nm, k), rfl, w.same s68, cA.hg, ?_⟩
        refine i_meth (s68 _ _ h1) rfl ⟨a, md, cl, ws, g, m, k, c, rfl, w.same s68, cA, fun fv hfv => ?_⟩
        refine i_meth (s68 _ _ h1) rfl (i_ixFs (i := 1) fx8 (Md.at1 m) (i_ixF (i := 5) fx8 (Md.at5 m) fun x5 hx5 => i_ixF (i := k) hx5 (cls_at hc) fun xc hxc => i_ixFs (i := 0) hxc rfl (i_applet G hM (w.same s68) hm cA fun z H9 s9 ez => ?_)))
        rw [ez]
        dsimp only
        refine ⟨rfl, fun tq htq => ?_⟩
        have u1 := same_new (o := .tup [.str m.nm, .int (k : Nat), fv, .bl (decide (k ∈ m.apps))]) htq
        have ft : Fr K (upd H9 tq (.tup [.str m.nm, .int (k : Nat), fv, .bl (decide (k ∈ m.apps))])) (.ref tq) (clsR m k c) := .tup (.inl upd_same) (.cons (.str _) (.cons (.int _) (.cons ((hfv.up (.of s9)).up (.of u1)) (.cons (.bl _) .nil))))
        have r10 := (r8.same s9).same u1
        have s610 := s68.trans (s9.trans u1)
        have gA : Gw p H7 (upd H9 tq (.tup [.str m.nm, .int (k : Nat), fv, .bl (decide (k ∈ m.apps))])) := Gw.of (s8.trans (s9.trans u1))
        have fx10 := (fx8.up (.of s9)).up (.of u1)
        generalize upd H9 tq (.tup [.str m.nm, .int (k : Nat), fv, .bl (decide (k ∈ m.apps))]) = H10 at *
        refine r10.add (line5' (by omega)) (r10.fr ft) fun o g11 r11 => ?_
        have s11 := g11.up s610 hp
        have fx11 := fx10.up g11.tk
        have gB := gA.trans g11
        generalize upd H10 p o = H11 at *
        refine rdSeq ?_
        walk_at "rd"
        obtain ⟨pv2, hpv2⟩ := r11.lst
        refine ⟨.inl ⟨rfl, _, sqL_of hpv2⟩, i_ixF (i := 5) fx11 (Md.at5 m) fun x5 hx5 => i_ixF (i := k) hx5 (cls_at hc) fun xc hxc => i_ixF (i := 4) hxc rfl fun tv htv => i_lenF htv ?_⟩
        rw [List.length_map]
        refine ⟨_, rfl, by omega, by omega, ?_⟩
        rw [Int.toNat_natCast]
        refine i_lcFr (K := K) (walk_range (lo := 0) (n := c.tb.length)) (c.tb.map fun r => .int r.m) (by simp) (line5' (by omega)) (fun _ _ => trivial) (fun _ _ _ _ y => y.1) (fun i x7 H12 Q' dd hdd s12 hy qq => ?_) (fun D H12 zs hD s12 hD12 fD => ?_)
        · obtain ⟨_, rfl⟩ := hy
          obtain ⟨hi5, _⟩ := List.getElem?_eq_some_iff.mp hdd
          rw [List.length_map] at hi5
          have hr2 := List.getElem?_eq_getElem hi5
          rw [List.getElem?_map, hr2] at hdd
          cases hdd
          have s112 := s11.trans s12
          walk_at "rd"
          rw [Int.zero_add]
          exact i_meth (s112 _ _ h1) rfl ⟨a, md, cl, ws, g, m, k, c, i, c.tb[i], rfl, w.same s112, cA, hr2, qq _ _ (Same.refl _) (.int _)⟩
        have nDp : D ≠ p := fun e => by rw [e, hpv2] at hD; cases hD
        have r12 := r11.same s12
        have n11 : (acc6 ++ [clsR m k c]).length = acc6.length + 1 := by simp
        refine r12.add (line5' (by omega)) (r12.ls hD12 nDp fD) fun o2 g13 r13 => ?_
        have s112 := s11.trans s12
        have s13 := g13.up s112 hp
        have fx13 := (fx11.up (.of s12)).up g13.tk
        have gC := (gB.trans (Gw.of s12)).trans g13
        generalize upd H12 p o2 = H13 at *
        have e8 : acc6 ++ clsR m k c :: metR c :: ms.flatMap (othR ms m k c) = (acc6 ++ [clsR m k c] ++ [metR c]) ++ ms.flatMap (othR ms m k c) := by simp
        rw [e8]
        have r13 : RwL K H13 p (acc6 ++ [clsR m k c] ++ [metR c]) := r13
        have n13 : (acc6 ++ [clsR m k c] ++ [metR c]).length = acc6.length + 2 := by simp
        generalize acc6 ++ [clsR m k c] ++ [metR c] = acc8 at *
        walk_at "rd"
        obtain ⟨mv3, hmv3, fmv3⟩ := (hl.same s13).ex
        have mvl3 := fmv3.len
        rw [List.length_map] at mvl3
        refine ⟨⟨_, sqL_of hmv3⟩, ?_⟩
        refine i_for (walk_list (K := K) (a := l) (xs := mv3)) (fun i σ' H' => Gw p H13 H' ∧ RwL K H' p (acc8 ++ (ms.take i).flatMap (othR ms m k c)) ∧ (acc8 ++ (ms.take i).flatMap (othR ms m k c)).length ≤ acc8.length + 5 * i ∧ ∃ (y4 y6 y7 : Option V), σ' = [some (.ref a), some (.ref l), some (.ref p), some x, y4, some (.ref k5), y6, y7, some (.int (k : Nat)), some (.int (g : Nat)), none, none]) ⟨Gw.refl, by simpa using r13, by simp, _, _, _, rfl⟩ (fun i σ' H' _ h => sqL_of (h.1.kp l _ (by simpa using nlp) hmv3)) ?_ ?_
        · rintro i3 xo σ' H14 H15 hi3 ⟨g14, r14, n14, y4, y6, y7, rfl⟩ ⟨rfl, hxo⟩
          have hi4 : i3 < ms.length := by omega
          obtain ⟨dd, hd4, fxo⟩ := fmv3.getV hxo
          rw [List.getElem?_map, List.getElem?_eq_getElem hi4] at hd4
          cases hd4
          have fxo := fxo.up g14.tk
          obtain ⟨jo, ho⟩ := hws _ (List.getElem_mem hi4)
          rw [flat_take hi4]
          generalize ms[i3] = om at *
          rw [← List.append_assoc]
          generalize acc8 ++ (ms.take i3).flatMap (othR ms m k c) = acc9 at *
          have gmo := (G.md jo om ho).2.1
          have zmo := G.mz ho
          have s14 := g14.up s13 hp
          have fx14 := fx13.up g14.tk
          refine rdSeq ?_
          walk_at "rd"
          obtain ⟨pv3, hpv3⟩ := r14.lst
          refine ⟨.inl ⟨rfl, _, sqL_of hpv3⟩, l, xo, ms, om, rfl, hl.same s14, fxo, lnm, gmo.cll, gmo.ul, zmo.sz.nm, goodY, fun k7 H16 ks7 hk7n s16 hk7 kl7 hks7 eks7 => ?_⟩
          obtain ⟨kv7, hkv7, fkv7⟩ := hk7.ex
          have kvl7 := fkv7.len
          rw [List.length_map] at kvl7
          refine ⟨k7, rfl, ⟨_, sqL_of hkv7⟩, ?_⟩
          have s146 := s14.trans s16
          refine i_lcFr (K := K) (walk_list (K := K) (a := k7) (xs := kv7)) (ks7.map fun x => .bool (isKind m k om.nm x)) (by simp [kvl7]) (line5' (by omega)) (fun H' s' => sqL_of (s' _ _ hkv7)) (fun _ _ _ _ y => y.1) (fun i x7 H17 Q' dd hdd s17 hy qq => ?_) (fun D2 H17 zs2 hD2 s17 hD17 fD2 => ?_)
          · have hi5 : i < ks7.length := by rw [← kvl7]; exact (List.getElem?_eq_some_iff.mp hy.2).1
            obtain ⟨d2, hd2, fx7⟩ := fkv7.getV hy.2
            rw [List.getElem?_map, List.getElem?_eq_getElem hi5] at hd2
            cases hd2
            rw [List.getElem?_map, List.getElem?_eq_getElem hi5] at hdd
            cases hdd
            have okb := hks7 _ (List.getElem_mem hi5)
            have s147 := s146.trans s17
            walk_at "rd"
            exact i_meth (s147 _ _ h1) rfl (i_ixFs (i := 1) ((fxo.up (.of s16)).up (.of s17)) (Md.at1 om) ⟨a, md, cl, ws, g, m, k, c, om.nm, x7, ks7[i], rfl, w.same s147, hM, cA, fx7.up (.of s17), okb.1, fun H8 s8 => qq _ _ s8 (.bl _)⟩)
          have nDp2 : D2 ≠ p := fun e => by
            have := s16 _ _ hpv3
            rw [e, this] at hD2
            cases hD2
          have r17 := (r14.same s16).same s17
          rw [eks7] at fD2
          refine r17.add (line5' (by omega)) (r17.ls hD17 nDp2 fD2) fun o3 g18 r18 => ?_
          have s147 := s146.trans s17
          have s18 := g18.up s147 hp
          have gD := (Gw.of (s16.trans s17)).trans g18
          have fxo18 := fxo.up gD.tk
          generalize upd H17 p o3 = H18 at *
          have e9 : acc9 ++ othR ms m k c om = (acc9 ++ [kindR ms m k om]) ++ om.fcs.map (rowR m k c om) := by unfold othR; simp
          rw [e9]
          have r18 : RwL K H18 p (acc9 ++ [kindR ms m k om]) := r18
          have n18 : (acc9 ++ [kindR ms m k om]).length = acc9.length + 1 := by simp
          generalize acc9 ++ [kindR ms m k om] = acc10 at *
          walk_at "rd"
          refine i_ixF (i := 4) fxo18 (Md.at4 om) fun w4 hw4 => ?_
          obtain ⟨t, fv4, rfl, fsq, ffl⟩ := hw4.inv
          have flen := ffl.len
          rw [List.length_map] at flen
          have fewo := gmo.few.1
          refine ⟨t, rfl, ⟨_, fsq.sq⟩, ?_⟩
          refine i_for (walk_tup (K := K) (a := t) (xs := fv4)) (fun i σ' H' => Gw p H18 H' ∧ RwL K H' p (acc10 ++ (om.fcs.take i).map (rowR m k c om)) ∧ ∃ (y4 y6 : Option V), σ' = [some (.ref a), some (.ref l), some (.ref p), some x, y4, some (.ref k5), y6, some xo, some (.int (k : Nat)), some (.int (g : Nat)), none, none]) ⟨Gw.refl, by simpa using r18, _, _, rfl⟩ (fun i σ' H' _ h => (fsq.up h.1.tk).sq) ?_ ?_
          · rintro i5 x2 σ' H19 H20 hi5 ⟨g19, r19, y4, y6, rfl⟩ ⟨rfl, hx2⟩
            have hi6 : i5 < om.fcs.length := by omega
            obtain ⟨dd, hd3, fx2⟩ := ffl.getV hx2
            have hg := List.getElem?_eq_getElem hi6
            rw [List.getElem?_map, hg] at hd3
            cases hd3
            have fx2 := fx2.up g19.tk
            have fx3 := fxo18.up g19.tk
            have ln3 : (acc10 ++ (om.fcs.take i5).map (rowR m k c om)).length ≤ acc10.length + i5 := by simp; omega
            rw [map_take hi6, ← List.append_assoc]
            generalize acc10 ++ (om.fcs.take i5).map (rowR m k c om) = acc11 at *
            generalize om.fcs[i5] = f at *
            obtain ⟨lf2, enf, _, fhi, _⟩ := G.face ho hg
            have ofs : PyData.strOk om.nm = true ∧ PyData.strOk f.1 = true := ⟨zmo.sz.nm, by rw [enf]; exact (fn_str i5 lf2).1⟩
            have s19 := g19.up s18 hp
            walk_at "rd"
            obtain ⟨pv4, hpv4⟩ := r19.lst
            refine ⟨.inl ⟨rfl, _, sqL_of hpv4⟩, i_ixF (i := 1) fx2 rfl fun fh hfh => i_lenF hfh ?_⟩
            rw [List.length_map]
            refine ⟨_, rfl, by omega, by omega, ?_⟩
            rw [Int.toNat_natCast]
            refine i_lcFr (K := K) (walk_range (lo := 0) (n := f.2.length)) (f.2.map fun h => .int (rowF m k c om.nm f.1 h)) (by simp) (line5' (by omega)) (fun _ _ => trivial) (fun _ _ _ _ y => y.1) (fun i x7 H21 Q' dd hdd s21 hy qq => ?_) (fun D3 H21 zs3 hD3 s21 hD21 fD3 => ?_)
            · obtain ⟨_, rfl⟩ := hy
              obtain ⟨hi7, _⟩ := List.getElem?_eq_some_iff.mp hdd
              rw [List.length_map] at hi7
              have hr2 := List.getElem?_eq_getElem hi7
              rw [List.getElem?_map, hr2] at hdd
              cases hdd
              have s121 := s19.trans s21
              walk_at "rd"
              rw [Int.zero_add]
              exact i_meth (s121 _ _ h1) rfl (i_ixFs (i := 1) (fx3.up (.of s21)) (Md.at1 om) (i_ixFs (i := 0) (fx2.up (.of s21)) rfl ⟨a, md, cl, ws, g, m, k, c, om.nm, f.1, i, f.2, f.2[i], rfl, w.same s121, hM, cA, ofs.1, ofs.2, G.faceA ho hg, hr2, fun H8 s8 => qq _ _ s8 (.int _)⟩))
            · have nDp3 : D3 ≠ p := fun e => by rw [e, hpv4] at hD3; cases hD3
              have r21 := r19.same s21
              exact r21.add (line5' (by omega)) (r21.ls hD21 nDp3 fD3) fun o4 g22 r22 => ⟨g19.trans ((Gw.of s21).trans g22), r22⟩
          · rintro σ' H19 ⟨g19, r19, y4, y6, rfl⟩
            rw [flen, List.take_length] at r19
            have n19 : (acc10 ++ om.fcs.map (rowR m k c om)).length = acc10.length + om.fcs.length := by simp
            exact ⟨g14.trans (gD.trans g19), r19, by omega, _, _, _, rfl⟩
        · rintro σ' H14 ⟨g14, r14, n14, y4, y6, y7, rfl⟩
          rw [mvl3, List.take_length] at r14 n14
          exact ⟨g6.trans (gC.trans g14), r14, by omega, _, _, _, _, _, rfl⟩
      · rintro σ' H6 ⟨g6, r6, n6, y4, y6, y7, y8, y9, rfl⟩
        refine ⟨g1.trans (g3.trans ((Gw.of s4).trans (g5.trans g6))), r6, by omega, _, _, _, _, _, _, _, rfl⟩
    · rintro σ' H1 ⟨g1, r1, n1, y3, y4, y5, y6, y7, y8, y9, rfl⟩
      rw [mvl, List.take_length] at r1
      walk_at "rd"
      exact q p H1 (g1.up s0 hp) r1
def sp_law_refused {K : PySem.W.Frag} {mg : Str → Option Value} (T : Txt K mg) : Sp := fun vs H Q _ => ∃ (a md cl : Addr) (ms : List Md) (m : Md) (v : V), vs = [.ref a, v] ∧ Wd K T.c_World H a md cl ms ∧ Fr K H v m.d ∧ Ms ms ∧ Mz m ∧ (∀ x ∈ ms, Mz x) ∧ chk ms m = false ∧
  ∀ H', Same H H' → Q (.bl true) H'
theorem ok_law_refused (T : Txt K mg) : FnOk P w K mg base CX0 7 T.f_law_refused T.d_law_refused ["_law_world", "_law_module_here"] (sp_law_refused T) := by
  refine T.k_law_refused.ok sc_law_refused (fun vs H Q E h => ?_) (fun cdv A outer s H vs Q E hr h => ?_)
  · obtain ⟨a, md, cl, ms, m, v, rfl, _⟩ := h
    rfl
  · obtain ⟨a, md, cl, ms, m, v, rfl, w, fv, hM, z, zs, hc, q⟩ := h
    have w0 := w
    obtain ⟨⟨dx, h1⟩, _, _⟩ := w0
    refine ⟨_, (pss_cons (ps_try_only rfl rfl ⟨rfl, by decide, .inl T.g_BadLink⟩ takes0 (fun W pn xe tk po => (pss_one (ps_expr (pe_methS (pv 0) T.cl_World T.me_World_add (ok_World_add T) (hr.mono (by decide)) T.b_World_add (fun σ => passAt tk σ) (pa_cons (pv 1) pa_nil))))) (fun a oe cls d pn hz hf => (pss_one (ps_ret pe_bl))))
      (pss_one (ps_ret pe_bl))), ?_⟩
    walk_at "rd"
    refine rdSeq ?_
    walk_at "rd"
    refine i_meth h1 rfl ⟨a, md, cl, ms, m, v, rfl, w, fv, hM, z, zs, fun h => (by rw [hc] at h; cases h), fun _ H1 s1 => i_catch T.ex_BadLink_BadLink fun _ _ => ?_⟩
    walk_at "rd"
    exact q H1 s1
def sp_law_made {K : PySem.W.Frag} {mg : Str → Option Value} (T : Txt K mg) : Sp := fun vs H Q _ => ∃ (l lr : Addr) (ms rs : List Md) (ix : Nat → Nat), vs = [.ref l, .ref lr] ∧ LsF K H l (ms.map Md.d) ∧ LsF K H lr (rs.map Md.d) ∧ GoodMs ix ms ∧ (∀ r ∈ rs, Mz r ∧ ∀ i, chk (ms.take (i + 1)) r = false) ∧ rs.length ≤ 1 ∧
  ∀ a md cl H', Same H H' → Wd K T.c_World H' a md cl ms → Q (.ref a) H'
theorem ok_law_made (T : Txt K mg) : FnOk P w K mg base CX0 8 T.f_law_made T.d_law_made ["_law_modules_here", "_law_refused_here"] (sp_law_made T) := by
  refine T.k_law_made.ok sc_law_made (fun vs H Q E h => ?_) (fun cdv A outer s H vs Q E hr h => ?_)
  · obtain ⟨l, lr, ms, rs, ix, rfl, _⟩ := h
    rfl
  · obtain ⟨l, lr, ms, rs, ix, rfl, hl, hlr, G, hrs, hrl, q⟩ := h
    refine ⟨_, (pss_cons (ps_set (i := 2) sc_law_made.nd rfl (.inl rfl) (pe_make0 T.mk_World (ok_World_init T) (hr.mono (by decide)) rfl T.g_World T.b_World_init .nil pass0))
      (pss_cons (ps_for PassesOwn.never rfl (pi_list (pv 0)) (pg_name (i := 3) sc_law_made.nd rfl (Or.inl rfl)) (pss_cons (ps_expr (pe_meth (pv 2) T.cl_World T.me_World_add (ok_World_add T) (hr.mono (by decide)) T.b_World_add .nil passL (pa_cons (pv 3) pa_nil)))
      (pss_one (ps_for PassesOwn.never rfl (pi_list (pv 1)) (pg_name (i := 4) sc_law_made.nd rfl (Or.inl rfl)) (pss_one (ps_if (pt_not (pt_val (pe_call (ok_law_refused T) (hr.mono (by decide)) (by rfl) T.g_law_refused T.k_law_refused.kp T.b_law_refused .nil pass0 (pa_cons (pv 2) (pa_cons (pv 4) pa_nil))))) (pss_one (ps_ret pe_non)) pss_nil))))))
      (pss_one (ps_ret (pv 2))))), ?_⟩
    walk_at "rd"
    refine rdSeq ?_
    walk_at "rd"
    intro x dx hx hdx ndx
    have s3 : Same H (upd (upd H dx (.own x)) x (.ins T.c_World dx [])) := (same_new hdx).trans (same_new (by rw [upd_ne (Ne.symm ndx)]; exact hx))
    have hx3 : upd (upd H dx (.own x)) x (.ins T.c_World dx []) x = some (.ins T.c_World dx []) := upd_same
    generalize upd (upd H dx (.own x)) x (.ins T.c_World dx []) = H3 at *
    refine ⟨x, dx, rfl, hx3, fun H4 md cl w4 hmd hcl nmc kp => ⟨rfl, ?_⟩⟩
    have nmd := none_of_same s3 hmd
    have ncl := none_of_same s3 hcl
    have s4 : Same H H4 := kp.same s3 (by simpa using hx)
    have lnm := G.ln
    have hz : ∀ m ∈ ms, Mz m := fun m hm => by
      obtain ⟨i, hi, e⟩ := List.mem_iff_getElem.mp hm
      exact G.mz (i := i) (by rw [← e]; exact List.getElem?_eq_getElem hi)
    refine rdSeq ?_
    walk_at "rd"
    obtain ⟨mv, hmv, fmv⟩ := hl.ex
    have mvl := fmv.len
    rw [List.length_map] at mvl
    obtain ⟨rv, hrv, frv⟩ := hlr.ex
    have rvl := frv.len
    rw [List.length_map] at rvl
    refine ⟨⟨_, sqL_of (s4 _ _ hmv)⟩, ?_⟩
    refine i_for (walk_list (K := K) (a := l) (xs := mv)) (fun i σ' H' => Same H H' ∧ Wd K T.c_World H' x md cl (ms.take i) ∧ ∃ (y3 y4 : Option V), σ' = [some (.ref l), some (.ref lr), some (.ref x), y3, y4]) ⟨s4, w4, _, _, rfl⟩ (fun i σ' H' _ h => sqL_of (h.1 _ _ hmv)) ?_ ?_
    · rintro i v σ' H5 H6 hi ⟨s5, w5, y3, y4, rfl⟩ ⟨rfl, hv⟩
      have hi2 : i < ms.length := by omega
      obtain ⟨dd, hd2, fx⟩ := fmv.getV hv
      have hm := List.getElem?_eq_getElem hi2
      rw [List.getElem?_map, hm] at hd2
      cases hd2
      have et : ms.take (i + 1) = ms.take i ++ [ms[i]] := by rw [List.take_add_one, hm]; rfl
      generalize ms[i] = m at *
      have fx := fx.up (.of s5)
      have w50 := w5
      obtain ⟨⟨dx5, h5⟩, _, _⟩ := w50
      refine rdSeq ?_
      walk_at "rd"
      refine i_meth h5 rfl ⟨x, md, cl, ms.take i, m, v, rfl, w5, fx, G.msT i, G.mz hm, fun y hy => hz y (List.mem_of_mem_take hy), fun _ H7 w7 kp tk => ?_, fun hc => (by rw [G.chk hm] at hc; cases hc)⟩
      rw [← et] at w7
      have s7 : Same H H7 := kp.same s5 (by simp [nmd, ncl])
      walk_at "rd"
      refine ⟨⟨_, sqL_of (s7 _ _ hrv)⟩, ?_⟩
      refine i_for (walk_list (K := K) (a := lr) (xs := rv)) (fun j σ' H' => Same H7 H' ∧ ∃ (y4 : Option V), σ' = [some (.ref l), some (.ref lr), some (.ref x), some v, y4]) ⟨Same.refl _, _, rfl⟩ (fun i σ' H' _ h => sqL_of (h.1 _ _ (s7 _ _ hrv))) ?_ ?_
      · rintro j v2 σ' H8 H9 hj ⟨s8, y4, rfl⟩ ⟨rfl, hv2⟩
        have hj2 : j < rs.length := by omega
        obtain ⟨dd, hd2, fr⟩ := frv.getV hv2
        have hr2 := List.getElem?_eq_getElem hj2
        rw [List.getElem?_map, hr2] at hd2
        cases hd2
        obtain ⟨zr, cr⟩ := hrs _ (List.getElem_mem hj2)
        generalize rs[j] = r at *
        walk_at "rd"
        refine ⟨x, md, cl, ms.take (i + 1), r, v2, rfl, w7.same s8, fr.up (.of (s7.trans s8)), G.msT _, zr, fun y hy => hz y (List.mem_of_mem_take hy), cr i, fun Ha sa => ⟨_, rfl, i_else (by decide) ?_⟩⟩
        exact s8.trans sa
      · rintro σ' H8 ⟨s8, y4, rfl⟩
        exact ⟨s7.trans s8, w7.same s8, _, _, rfl⟩
    · rintro σ' H5 ⟨s5, w5, y3, y4, rfl⟩
      rw [mvl, List.take_length] at w5
      walk_at "rd"
      exact q x md cl H5 s5 w5

/-! ### the law -/
theorem i_dropF {K : PySem.W.Frag} {H : Hp} {v : V} {ds : List PyData} {n : Nat} {Q : VK} (hv : Fr K H v (.tuple ds)) (h0 : 0 < n) (hn : n ≤ ds.length) (q : ∀ w H', Same H H' → Fr K H' w (.tuple (ds.drop n)) → Q w H') : rSlA K v (some (n : Int)) none H Q := by
  obtain ⟨a, xs, rfl, sq, fl⟩ := hv.inv
  have l1 := fl.len
  have fd : ∀ {vs : List V} {es : List PyData} (n : Nat), FrL K H vs es → FrL K H (vs.drop n) (es.drop n) := by
    intro vs es n
    induction n generalizing vs es with
    | zero => intro h; simpa using h
    | succ n ih =>
      intro h
      cases h with
      | nil => simp; exact .nil
      | cons h t => simpa using ih t
  refine ⟨a, xs, rfl, sq.sq, fun h => ?_, fun _ p hp => ?_⟩
  · obtain ⟨h2, _⟩ := h
    rw [HT.sIx_nat] at h2
    omega
  · rw [cut_drop]
    exact q _ _ (same_new hp) (.tup (.inl upd_same) ((fd n fl).up (.of (same_new hp))))
theorem GoodM.congr {ms ms' : List Md} {m : Md} (g : GoodM ms m) (hk : knOf ms' m = knOf ms m) (hf : ∀ f ∈ knOf ms m, fcsFor m.fcs ms' m.nm f.1 = fcsFor m.fcs ms m.nm f.1) (hu : ∀ x ∈ m.uses, ∃ y, findM ms' x.1 = some y) : GoodM ms' m := by
  refine ⟨by rw [hk]; exact g.fcs, g.few, ?_, g.cll, g.al, hu, g.ul, by rw [hk]; exact g.kl⟩
  rw [hk]
  refine ⟨fun k c hc => ?_, g.gl.mt, g.gl.ml, g.gl.ap⟩
  have gc := g.gl.cls k c hc
  refine { gc with src := fun r hr => ?_, has := fun h hh => ?_ }
  · rcases gc.src r hr with ⟨f, hfk, h⟩ | h
    · exact .inl ⟨f, hfk, by rw [hf f hfk]; exact h⟩
    · exact .inr h
  · obtain ⟨f, hfc, hh⟩ := List.mem_flatMap.mp hh
    refine gc.has h (List.mem_flatMap.mpr ⟨f, hfc, ?_⟩)
    rw [← hf f (gc.fcs f hfc)]
    exact hh
theorem GoodM.free {ms ms' : List Md} {m : Md} (g : GoodM ms m) (h0 : m.uses = []) : GoodM ms' m := by
  have e : ∀ X, knOf X m = (List.range m.fcs.length).map fun i => (m.nm, fN i) := fun X => by unfold knOf usesKn; rw [h0]; rfl
  refine g.congr (by rw [e, e]) (fun f hf => ?_) (fun x hx => by rw [h0] at hx; cases hx)
  rw [e] at hf
  obtain ⟨i, _, rfl⟩ := List.mem_map.mp hf
  unfold fcsFor
  rw [if_pos rfl, if_pos rfl]
theorem GoodM.perm {ms ms' : List Md} {m : Md} (g : GoodM ms m) (h : ∀ p, findM ms' p = findM ms p) : GoodM ms' m := by
  have e1 : ∀ p, facesAt ms' p = facesAt ms p := fun p => by unfold facesAt; rw [h]
  have e2 : ∀ l, usesKn ms' l = usesKn ms l := fun l => by unfold usesKn; simp only [e1]
  refine g.congr (by unfold knOf; rw [e2]) (fun f _ => by unfold fcsFor; rw [h]) (fun x hx => ?_)
  rw [h]; exact g.us x hx
def swp (i : Nat) : Nat := if i = 0 then 1 else if i = 1 then 0 else i
theorem swp_lt : ∀ i < 3, swp i < 3 := by decide
theorem swp_ij : ∀ i < 3, ∀ j < 3, swp i = swp j → i = j := by decide
theorem GoodMs.three {ix : Nat → Nat} {x y z : Md} (l3 : ∀ i < 3, ix i < 3) (ij : ∀ i < 3, ∀ j < 3, ix i = ix j → i = j) (nx : x.nm = pkN (ix 0)) (ny : y.nm = pkN (ix 1)) (nz : z.nm = pkN (ix 2)) (ux : x.uses = []) (uy : y.uses = [])
    (gx : GoodM [] x) (gy : GoodM [] y) (gz : GoodM [x, y] z) (hz : ∀ u ∈ z.uses, ∃ w ∈ [x, y], u = (w.nm, w.ver)) : GoodMs ix [x, y, z] := by
  have h0 : GoodMs ix [] := ⟨Nat.zero_le _, l3, ij, fun _ _ h => by cases h⟩
  have h1 : GoodMs ix ([] ++ [x]) := h0.add (by decide) nx gx fun u hu => by rw [ux] at hu; cases hu
  have h2 : GoodMs ix (([] ++ [x]) ++ [y]) := h1.add (show 1 < 3 by decide) ny (gy.free uy) fun u hu => by rw [uy] at hu; cases hu
  exact h2.add (show 2 < 3 by decide) nz gz hz
theorem find_two {x y : Md} (h : x.nm ≠ y.nm) (p : Str) : findM [y, x] p = findM [x, y] p := by
  unfold findM
  by_cases h1 : x.nm = p <;> by_cases h2 : y.nm = p
  · exact absurd (h1.trans h2.symm) h
  · simp [List.find?_cons, h1, h2]
  · simp [List.find?_cons, h1, h2]
  · simp [List.find?_cons, h1, h2]
/-- the names, sorted -/
theorem sort3 : ∀ x ∈ [pkN 0, pkN 1, pkN 2], ∀ y ∈ [pkN 0, pkN 1, pkN 2], ∀ z ∈ [pkN 0, pkN 1, pkN 2], x ≠ y → x ≠ z → y ≠ z → sortedS [x, y, z] = true → [x, y, z] = [pkN 2, pkN 0, pkN 1] := by decide +kernel
theorem pk3_nd : pkN 0 ≠ pkN 1 ∧ pkN 0 ≠ pkN 2 ∧ pkN 1 ≠ pkN 2 := by decide +kernel
theorem sorted3 {l ys : List Str} (hl : l = [pkN 0, pkN 1, pkN 2] ∨ l = [pkN 1, pkN 0, pkN 2]) (hp : ys.Perm l) (hs : sortedS ys = true) : ys = [pkN 2, pkN 0, pkN 1] := by
  obtain ⟨n1, n2, n3⟩ := pk3_nd
  have nd : l.Nodup := by
    rcases hl with rfl | rfl
    · simp [n1, n2, n3]
    · simp [n1.symm, n2, n3]
  have mem : ∀ x ∈ ys, x ∈ [pkN 0, pkN 1, pkN 2] := fun x hx => by
    have := hp.mem_iff.mp hx
    rcases hl with rfl | rfl
    · exact this
    · simp at this ⊢
      rcases this with h | h | h
      · exact .inr (.inl h)
      · exact .inl h
      · exact .inr (.inr h)
  have len : ys.length = 3 := by
    rw [hp.length_eq]
    rcases hl with rfl | rfl <;> rfl
  have nd2 : ys.Nodup := hp.nodup_iff.mpr nd
  match ys, len with
  | [x, y, z], _ =>
    have h1 : x ≠ y := fun e => by simp [e] at nd2
    have h2 : x ≠ z := fun e => by simp [e] at nd2
    have h3 : y ≠ z := fun e => by simp [e] at nd2
    exact sort3 x (mem x (by simp)) y (mem y (by simp)) z (mem z (by simp)) h1 h2 h3 hs
/-- a version that is not there -/
def Bad (m1 m2 : Md) (u : Str × Int) : Prop := u.1 = Str.ofString "Inn" ∨ (u.1 = m1.nm ∧ u.2 ≠ m1.ver) ∨ (u.1 = m2.nm ∧ u.2 ≠ m2.ver)
theorem inn_ne : ∀ i < 3, pkN i ≠ Str.ofString "Inn" := by decide +kernel
theorem bad_chk {ix : Nat → Nat} {ws : List Md} {m m1 m2 : Md} {u : Str × Int} {r : List (Str × Int)} (G : GoodMs ix ws) (h1 : m1 ∈ ws) (h2 : m2 ∈ ws) (hu : m.uses = u :: r) (hb : Bad m1 m2 u) (i : Nat) : chk (ws.take i) m = false := by
  have key : ∀ y : Md, findM (ws.take i) u.1 = some y → y.ver ≠ u.2 := fun y hy => by
    obtain ⟨j, _, hj, en⟩ := G.found hy
    rcases hb with h | ⟨e1, e2⟩ | ⟨e1, e2⟩
    · exact absurd ((G.md j y hj).1.symm.trans (en.trans h)) (inn_ne _ (G.lt3 j (G.lt hj)))
    · obtain ⟨k, hk, ek⟩ := List.mem_iff_getElem.mp h1
      have hk2 : ws[k]? = some m1 := by rw [← ek]; exact List.getElem?_eq_getElem hk
      have := G.one hj hk2 (en.trans e1)
      subst this
      rw [hj] at hk2
      cases hk2
      exact fun h => e2 h.symm
    · obtain ⟨k, hk, ek⟩ := List.mem_iff_getElem.mp h2
      have hk2 : ws[k]? = some m2 := by rw [← ek]; exact List.getElem?_eq_getElem hk
      have := G.one hj hk2 (en.trans e1)
      subst this
      rw [hj] at hk2
      cases hk2
      exact fun h => e2 h.symm
  have hu2 : m.uses.all (useOk (ws.take i)) = false := by
    rw [hu, List.all_cons]
    have : useOk (ws.take i) u = false := by
      unfold useOk
      cases e : findM (ws.take i) u.1 with
      | none => rfl
      | some y => exact decide_eq_false (key y e)
    rw [this]; rfl
  unfold chk
  rw [hu2]
  simp
def reUse (m : Md) (us : List (Str × Int)) : Md := { m with uses := us }
theorem Mz.reUse {m : Md} {us : List (Str × Int)} (z : Mz m) : Mz (reUse m us) := ⟨⟨z.sz.ah, z.sz.cl, z.sz.fc, z.sz.tb, z.sz.nm, z.sz.fo, z.sz.ap⟩, z.ho, z.hf, z.mt, z.fd⟩
theorem lay_bool {n : Nat} {b : Bool} : Lay n (.bool b) := ⟨rfl, Nat.zero_le _⟩
theorem lay_list {n : Nat} {ds : List PyData} (h : ∀ d ∈ ds, Lay n d) : Lay (n + 1) (.list ds) := by
  obtain ⟨h1, h2⟩ := layAll h
  exact ⟨h1, Nat.succ_le_succ h2⟩
theorem lay_lmap {α : Type} {n : Nat} {f : α → PyData} {xs : List α} (h : ∀ x ∈ xs, Lay n (f x)) : Lay (n + 1) (.list (xs.map f)) := lay_list fun d hd => by
  obtain ⟨x, hx, rfl⟩ := List.mem_map.mp hd
  exact h x hx
theorem told_lay {ix : Nat → Nat} {ws ms : List Md} (G : GoodMs ix ws) (hws : ∀ m ∈ ms, ∃ j : Nat, ws[j]? = some m) : Lay 9 (.list (toldR ms)) := by
  refine lay_list (n := 8) fun d hd => ?_
  obtain ⟨m, hm, hd⟩ := List.mem_flatMap.mp hd
  obtain ⟨j, hj⟩ := hws m hm
  have z := G.mz hj
  rcases List.mem_append.mp hd with hd | hd
  · obtain ⟨f, hf, rfl⟩ := List.mem_map.mp hd
    refine lay_tup (n := 7) fun d hd => ?_
    rcases List.mem_cons.mp hd with rfl | hd
    · exact lay_str z.sz.nm
    · rw [List.mem_singleton.mp hd]
      exact (lay_map (n := 4) fun h hh => lay_tup (n := 3) (lay_hds (z.hf f hf h hh).1)).mono (by decide)
  rcases List.mem_append.mp hd with hd | hd
  · obtain ⟨a, _, rfl⟩ := List.mem_map.mp hd
    exact (lay_lmap (n := 0) fun x _ => lay_bool).mono (by decide)
  · obtain ⟨k, hk, hd⟩ := List.mem_flatMap.mp hd
    unfold oneR at hd
    cases hc : m.cls[k]? with
    | none => rw [hc] at hd; cases hd
    | some c =>
      rw [hc] at hd
      have gc := (G.md j m hj).2.1.gl.cls k c hc
      rcases List.mem_cons.mp hd with rfl | hd
      · refine lay_tup (n := 7) fun d hd => ?_
        rcases List.mem_cons.mp hd with rfl | hd
        · exact lay_str z.sz.nm
        rcases List.mem_cons.mp hd with rfl | hd
        · exact lay_int
        rcases List.mem_cons.mp hd with rfl | hd
        · exact (lay_map (n := 2) fun x hx => lay_kd (G.kd hj (Nat.le_refl _) hj (gc.fds x hx)).2).mono (by decide)
        · rw [List.mem_singleton.mp hd]; exact lay_bool
      rcases List.mem_cons.mp hd with rfl | hd
      · exact (lay_lmap (n := 0) fun x _ => lay_int).mono (by decide)
      obtain ⟨o, _, hd⟩ := List.mem_flatMap.mp hd
      rcases List.mem_cons.mp hd with rfl | hd
      · exact (lay_lmap (n := 0) fun x _ => lay_bool).mono (by decide)
      · obtain ⟨f, _, rfl⟩ := List.mem_map.mp hd
        exact (lay_lmap (n := 0) fun x _ => lay_int).mono (by decide)
def sp_law (K : PySem.W.Frag) : Sp := fun vs H Q _ => ∃ (a : Addr) (ns : List Int), vs = [.ref a] ∧ SqL K H a (ns.map V.int) ∧ ns.length ≤ 63 ∧ ∀ H', Q (.bl true) H'
theorem ok_law (T : Txt K mg) : FnOk P w K mg base CX0 9 T.f_law T.d_law ["_law_script"] (sp_law K) := by
  refine T.k_law.ok sc_law (fun vs H Q E h => ?_) (fun cdv A outer s H vs Q E hr h => ?_)
  · obtain ⟨a, ns, rfl, _⟩ := h
    rfl
  · obtain ⟨a, ns, rfl, hS, _, q⟩ := h
    refine ⟨_, (pss_cons (ps_set (i := 1) sc_law.nd rfl (.inl rfl) (pe_call (ok_law_bag T) (hr.mono (by decide)) (by rfl) T.g_law_bag T.k_law_bag.kp T.b_law_bag .nil pass0 (pa_cons (pv 0) (pa_cons pe_int pa_nil))))
      (pss_cons (ps_set (i := 2) sc_law.nd rfl (.inl rfl) (pe_call (ok_law_module T) (hr.mono (by decide)) (by rfl) T.g_law_module T.k_law_module.kp T.b_law_module .nil pass0 (pa_cons (pv 1) (pa_cons pe_str (pa_cons (pe_call (ok_law_draw T) (hr.mono (by decide)) (by rfl) T.g_law_draw T.k_law_draw.kp T.b_law_draw .nil pass0 (pa_cons (pv 1) (pa_cons pe_int pa_nil))) (pa_cons (pe_tup pa_nil) (pa_cons pe_dnewK pa_nil)))))))
      (pss_cons (ps_set (i := 3) sc_law.nd rfl (.inl rfl) (pe_call (ok_law_module T) (hr.mono (by decide)) (by rfl) T.g_law_module T.k_law_module.kp T.b_law_module .nil pass0 (pa_cons (pv 1) (pa_cons pe_str (pa_cons (pe_call (ok_law_draw T) (hr.mono (by decide)) (by rfl) T.g_law_draw T.k_law_draw.kp T.b_law_draw .nil pass0 (pa_cons (pv 1) (pa_cons pe_int pa_nil))) (pa_cons (pe_tup pa_nil) (pa_cons pe_dnewK pa_nil)))))))
      (pss_cons (ps_set (i := 4) sc_law.nd rfl (.inl rfl) (pe_ix (ix_listK K) (pe_lst (pa_cons (pe_tup pa_nil) (pa_cons (pe_tup (pa_cons (pe_tup (pa_cons pe_str (pa_cons (pe_ix (ix_tupK K) (pv 2) pe_int (fun _ _ => rfl)) pa_nil))) (pa_cons (pe_tup (pa_cons pe_str (pa_cons (pe_ix (ix_tupK K) (pv 3) pe_int (fun _ _ => rfl)) pa_nil))) pa_nil))) (pa_cons (pe_tup (pa_cons (pe_tup (pa_cons pe_str (pa_cons (pe_ix (ix_tupK K) (pv 3) pe_int (fun _ _ => rfl)) pa_nil))) (pa_cons (pe_tup (pa_cons pe_str (pa_cons (pe_ix (ix_tupK K) (pv 2) pe_int (fun _ _ => rfl)) pa_nil))) pa_nil))) pa_nil)))) (pe_call (ok_law_draw T) (hr.mono (by decide)) (by rfl) T.g_law_draw T.k_law_draw.kp T.b_law_draw .nil pass0 (pa_cons (pv 1) (pa_cons pe_int pa_nil))) (fun _ _ => rfl)))
      (pss_cons (ps_set (i := 5) sc_law.nd rfl (.inl rfl) (pe_call (ok_law_module T) (hr.mono (by decide)) (by rfl) T.g_law_module T.k_law_module.kp T.b_law_module .nil pass0 (pa_cons (pv 1) (pa_cons pe_str (pa_cons pe_int (pa_cons (pv 4) (pa_cons (pe_disp (pps_cons pe_str (pe_ix (ix_tupK K) (pv 2) pe_int (fun _ _ => rfl)) (pps_cons pe_str (pe_ix (ix_tupK K) (pv 3) pe_int (fun _ _ => rfl)) pps_nil)) (by rfl) (by rfl) (fun z => by cases z) (by decide)) pa_nil)))))))
      (pss_cons (ps_set (i := 6) sc_law.nd rfl (.inl rfl) (pe_lst (pa_cons (pv 2) (pa_cons (pv 3) (pa_cons (pv 5) pa_nil)))))
      (pss_cons (ps_set (i := 7) sc_law.nd rfl (.inl rfl) (pe_tup (pa_cons (pe_tup (pa_cons pe_str (pa_cons pe_int pa_nil))) pa_nil)))
      (C8.pss_cut (ps_if (pt_cmpR op_gt (pe_callB (lenTK K) (by rfl) T.m_len (by decide +kernel) (pa_cons (pv 4) pa_nil)) pe_int (nomark _)) (pss_one (ps_set (i := 7) sc_law.nd rfl (.inl rfl) (pe_op (op_catAK K) (pe_tup (pa_cons (pe_tup (pa_cons (pe_ix (ix_tupK K) (pe_ix (ix_tupK K) (pv 4) pe_int (fun _ _ => rfl)) pe_int (fun _ _ => rfl)) (pa_cons (pe_op op_add (pe_ix (ix_tupK K) (pe_ix (ix_tupK K) (pv 4) pe_int (fun _ _ => rfl)) pe_int (fun _ _ => rfl)) pe_int) pa_nil))) pa_nil)) (pe_slice (sl_tupAK K) (pv 4) (po_some pe_int) po_none)))) pss_nil)
      (pss_cons (ps_set (i := 8) sc_law.nd rfl (.inl rfl) (pe_lst (pa_cons (pe_op (op_catAK K) (pe_op (op_catAK K) (pe_slice (sl_tupAK K) (pv 5) po_none (po_some pe_int)) (pe_tup (pa_cons (pv 7) pa_nil))) (pe_slice (sl_tupAK K) (pv 5) (po_some pe_int) po_none)) pa_nil)))
      (pss_cons (ps_set (i := 9) sc_law.nd rfl (.inl rfl) (pe_call (ok_law_made T) (hr.mono (by decide)) (by rfl) T.g_law_made T.k_law_made.kp T.b_law_made .nil pass0 (pa_cons (pe_lst (pa_cons (pv 2) (pa_cons (pv 3) (pa_cons (pv 5) pa_nil)))) (pa_cons (pe_lst pa_nil) pa_nil))))
      (pss_cons (ps_set (i := 10) sc_law.nd rfl (.inl rfl) (pe_call (ok_law_made T) (hr.mono (by decide)) (by rfl) T.g_law_made T.k_law_made.kp T.b_law_made .nil pass0 (pa_cons (pe_lst (pa_cons (pv 3) (pa_cons (pv 2) (pa_cons (pv 5) pa_nil)))) (pa_cons (pv 8) pa_nil))))
      (pss_cons (ps_if (PW.pt (pw_or (pt_cmpR op_isN (pv 10) pe_non (nomark _)) (pw_or (pt_cmpR op_ne (pe_meth0 (pv 9) T.cl_World T.me_World_count (ok_World_count T) (hr.mono (by decide)) T.b_World_count .nil pass0) (pe_meth0 (pv 10) T.cl_World T.me_World_count (ok_World_count T) (hr.mono (by decide)) T.b_World_count .nil pass0) (nomark _)) (pw_or1 (pt_cmpR (op_neD hr.units) (pe_callB cr_sortedS (by rfl) T.m_sorted (by decide +kernel) (pa_cons (pe_meth0 (pv 9) T.cl_World T.me_World_names (ok_World_names T) (hr.mono (by decide)) T.b_World_names .nil pass0) pa_nil)) (pe_callB cr_sortedS (by rfl) T.m_sorted (by decide +kernel) (pa_cons (pe_meth0 (pv 10) T.cl_World T.me_World_names (ok_World_names T) (hr.mono (by decide)) T.b_World_names .nil pass0) pa_nil)) (nomark _)))))) (pss_one (ps_ret pe_bl)) pss_nil)
      (pss_one (ps_ret (pe_cmpR (op_eqD hr.units) (pe_call (ok_law_told T) (hr.mono (by decide)) (by rfl) T.g_law_told T.k_law_told.kp T.b_law_told .nil pass0 (pa_cons (pv 9) (pa_cons (pv 6) pa_nil))) (pe_call (ok_law_told T) (hr.mono (by decide)) (by rfl) T.g_law_told T.k_law_told.kp T.b_law_told .nil pass0 (pa_cons (pv 10) (pa_cons (pv 6) pa_nil))) (nomark _)))))))))))))))), ?_⟩
    walk_at "rd"
    refine rdSeq ?_
    walk_at "rd"
    refine ⟨a, ns, 0, rfl, hS, fun b H1 hb hB s1 => ?_⟩
    refine rdSeq ?_
    walk_at "rd"
    refine i_draw (Mv.refl hB) (by decide) (by decide) fun ver1 H2 _ _ _ mv2 p1 hp1 p2 hp2 => ?_
    have t1 := same_new (o := .tup []) hp1
    have f1 : Fr K (upd H2 p1 (.tup [])) (.ref p1) (.tuple (([] : List (Str × Int)).map useD)) := .tup (.inl upd_same) .nil
    have nb2 := (mv2.then t1).fresh hp2
    generalize upd H2 p1 (.tup []) = H3 at *
    have t2 := same_new (o := .dK []) hp2
    have hu2 : Ud K (upd H3 p2 (.dK [])) p2 [] := ⟨[], upd_same, .nil⟩
    have mv3 := (mv2.then t1).then t2
    have f1 := f1.up (.of t2)
    generalize upd H3 p2 (.dK []) = H4 at *
    refine ⟨b, pkN 0, ver1, .ref p1, p2, [], [], rfl, mv3.bag, f1, hu2, nb2.2, (fun _ h => by cases h), Nat.zero_le _, (fun _ h => by cases h), pk_len 0 (by decide), fun v1 H5 m1 mv5 fv1 en1 ev1 eu1 g1 => ?_⟩
    have mvA := mv3.trans mv5
    refine rdSeq ?_
    walk_at "rd"
    have fr1 := fv1
    refine i_draw (Mv.refl mvA.bag) (by decide) (by decide) fun ver2 Ha _ _ mva _ q1 hq1 q2 hq2 => ?_
    have u1 := same_new (o := .tup []) hq1
    have fa : Fr K (upd Ha q1 (.tup [])) (.ref q1) (.tuple (([] : List (Str × Int)).map useD)) := .tup (.inl upd_same) .nil
    have mvB := (mvA.trans mva).then u1
    have fv1a := (fv1.up (.mv mvA.bag mva)).up (.of u1)
    have nb3 := mvB.fresh hq2
    generalize upd Ha q1 (.tup []) = Hb at *
    have u2 := same_new (o := .dK []) hq2
    have hud : Ud K (upd Hb q2 (.dK [])) q2 [] := ⟨[], upd_same, .nil⟩
    have mvC := mvB.then u2
    have fa := fa.up (.of u2)
    have fv1b := fv1a.up (.of u2)
    generalize upd Hb q2 (.dK []) = Hc at *
    refine ⟨b, pkN 1, ver2, .ref q1, q2, [], [], rfl, mvC.bag, fa, hud, nb3.2, (fun _ h => by cases h), Nat.zero_le _, (fun _ h => by cases h), pk_len 1 (by decide), fun v2 Hd m2 mvd fv2 en2 ev2 eu2 g2 => ?_⟩
    have mvD := mvC.trans mvd
    have fv1d := fv1b.up (.mv mvC.bag mvd)
    clear fr1 fv1 fv1a fv1b fa hud u1 u2 f1 hu2 t1 t2 mv2 mv3 mv5 mva mvA mvB mvC mvd
    refine rdSeq ?_
    walk_at "rd"
    intro p0 hp0
    have t0 := same_new (o := .tup []) hp0
    have f0 : Fr K (upd Hd p0 (.tup [])) (.ref p0) (.tuple (([] : List (Str × Int)).map useD)) := .tup (.inl upd_same) (.nil)
    generalize upd Hd p0 (.tup []) = K0 at *
    have e1 := fv1d.up (.of t0)
    have e2 := fv2.up (.of t0)
    refine i_ixFi (i := 2) e1 rfl ?_
    intro p1 hp1
    have t1 := same_new (o := .tup [.str (Str.ofString "Purse"), .int m1.ver]) hp1
    have f1 : Fr K (upd K0 p1 (.tup [.str (Str.ofString "Purse"), .int m1.ver])) (.ref p1) (useD (pkN 0, m1.ver)) := .tup (.inl upd_same) (.cons (.str _) (.cons (.int _) .nil))
    generalize upd K0 p1 (.tup [.str (Str.ofString "Purse"), .int m1.ver]) = K1 at *
    have f0 := f0.up (.of t1)
    have e1 := e1.up (.of t1)
    have e2 := e2.up (.of t1)
    refine i_ixFi (i := 2) e2 rfl ?_
    intro p2 hp2
    have t2 := same_new (o := .tup [.str (Str.ofString "Shop"), .int m2.ver]) hp2
    have f2 : Fr K (upd K1 p2 (.tup [.str (Str.ofString "Shop"), .int m2.ver])) (.ref p2) (useD (pkN 1, m2.ver)) := .tup (.inl upd_same) (.cons (.str _) (.cons (.int _) .nil))
    generalize upd K1 p2 (.tup [.str (Str.ofString "Shop"), .int m2.ver]) = K2 at *
    have f0 := f0.up (.of t2)
    have f1 := f1.up (.of t2)
    have e1 := e1.up (.of t2)
    have e2 := e2.up (.of t2)
    intro p3 hp3
    have t3 := same_new (o := .tup [.ref p1, .ref p2]) hp3
    have f3 : Fr K (upd K2 p3 (.tup [.ref p1, .ref p2])) (.ref p3) (.tuple ([(pkN 0, m1.ver), (pkN 1, m2.ver)].map useD)) := .tup (.inl upd_same) (.cons (f1.up (.of t3)) (.cons (f2.up (.of t3)) .nil))
    generalize upd K2 p3 (.tup [.ref p1, .ref p2]) = K3 at *
    have f0 := f0.up (.of t3)
    have f1 := f1.up (.of t3)
    have f2 := f2.up (.of t3)
    have e1 := e1.up (.of t3)
    have e2 := e2.up (.of t3)
    refine i_ixFi (i := 2) e2 rfl ?_
    intro p4 hp4
    have t4 := same_new (o := .tup [.str (Str.ofString "Shop"), .int m2.ver]) hp4
    have f4 : Fr K (upd K3 p4 (.tup [.str (Str.ofString "Shop"), .int m2.ver])) (.ref p4) (useD (pkN 1, m2.ver)) := .tup (.inl upd_same) (.cons (.str _) (.cons (.int _) .nil))
    generalize upd K3 p4 (.tup [.str (Str.ofString "Shop"), .int m2.ver]) = K4 at *
    have f0 := f0.up (.of t4)
    have f1 := f1.up (.of t4)
    have f2 := f2.up (.of t4)
    have f3 := f3.up (.of t4)
    have e1 := e1.up (.of t4)
    have e2 := e2.up (.of t4)
    refine i_ixFi (i := 2) e1 rfl ?_
    intro p5 hp5
    have t5 := same_new (o := .tup [.str (Str.ofString "Purse"), .int m1.ver]) hp5
    have f5 : Fr K (upd K4 p5 (.tup [.str (Str.ofString "Purse"), .int m1.ver])) (.ref p5) (useD (pkN 0, m1.ver)) := .tup (.inl upd_same) (.cons (.str _) (.cons (.int _) .nil))
    generalize upd K4 p5 (.tup [.str (Str.ofString "Purse"), .int m1.ver]) = K5 at *
    have f0 := f0.up (.of t5)
    have f1 := f1.up (.of t5)
    have f2 := f2.up (.of t5)
    have f3 := f3.up (.of t5)
    have f4 := f4.up (.of t5)
    have e1 := e1.up (.of t5)
    have e2 := e2.up (.of t5)
    intro p6 hp6
    have t6 := same_new (o := .tup [.ref p4, .ref p5]) hp6
    have f6 : Fr K (upd K5 p6 (.tup [.ref p4, .ref p5])) (.ref p6) (.tuple ([(pkN 1, m2.ver), (pkN 0, m1.ver)].map useD)) := .tup (.inl upd_same) (.cons (f4.up (.of t6)) (.cons (f5.up (.of t6)) .nil))
    generalize upd K5 p6 (.tup [.ref p4, .ref p5]) = K6 at *
    have f0 := f0.up (.of t6)
    have f1 := f1.up (.of t6)
    have f2 := f2.up (.of t6)
    have f3 := f3.up (.of t6)
    have f4 := f4.up (.of t6)
    have f5 := f5.up (.of t6)
    have e1 := e1.up (.of t6)
    have e2 := e2.up (.of t6)
    intro p7 hp7
    have t7 := same_new (o := .lst [.ref p0, .ref p3, .ref p6]) hp7
    have nl7 : LsF K (upd K6 p7 (.lst [.ref p0, .ref p3, .ref p6])) p7 ([[], [(pkN 0, m1.ver), (pkN 1, m2.ver)], [(pkN 1, m2.ver), (pkN 0, m1.ver)]].map fun us : List (Str × Int) => PyData.tuple (us.map useD)) := ⟨_, upd_same, .cons (f0.up (.of t7)) (.cons (f3.up (.of t7)) (.cons (f6.up (.of t7)) .nil))⟩
    generalize upd K6 p7 (.lst [.ref p0, .ref p3, .ref p6]) = K7 at *
    have e1 := e1.up (.of t7)
    have e2 := e2.up (.of t7)
    have mvK := mvD.then (t0.trans (t1.trans (t2.trans (t3.trans (t4.trans (t5.trans (t6.trans t7)))))))
    have n7b : p7 ≠ b := by
      have := (mvD.then (t0.trans (t1.trans (t2.trans (t3.trans (t4.trans (t5.trans t6))))))).fresh hp7
      exact this.2
    clear f0 f1 f2 f3 f4 f5 f6
    refine i_draw (Mv.refl mvK.bag) (by decide) (by decide) fun j Ka k0 k1 mvk _ => ?_
    obtain ⟨j, rfl⟩ := Int.eq_ofNat_of_zero_le k0
    have hj : j < 3 := by omega
    have mvL := mvK.trans mvk
    have nl8 := nl7.mv mvK.bag mvk n7b
    have e1 := e1.up (.mv mvK.bag mvk)
    have e2 := e2.up (.mv mvK.bag mvk)
    obtain ⟨lv, hlv, flv⟩ := nl8.ex
    have hus : ∃ us : List (Str × Int), (([[], [(pkN 0, m1.ver), (pkN 1, m2.ver)], [(pkN 1, m2.ver), (pkN 0, m1.ver)]] : List (List (Str × Int))).map fun us : List (Str × Int) => PyData.tuple (us.map useD))[j]? = some (.tuple (us.map useD)) ∧ (us = [] ∨ us = [(pkN 0, m1.ver), (pkN 1, m2.ver)] ∨ us = [(pkN 1, m2.ver), (pkN 0, m1.ver)]) := by
      rcases (show j = 0 ∨ j = 1 ∨ j = 2 by omega) with rfl | rfl | rfl
      · exact ⟨[], rfl, .inl rfl⟩
      · exact ⟨_, rfl, .inr (.inl rfl)⟩
      · exact ⟨_, rfl, .inr (.inr rfl)⟩
    obtain ⟨us, hat, hus⟩ := hus
    obtain ⟨x, hx, fx⟩ := flv.get hat
    refine i_ixL (sqL_of hlv) (atI_nat hx) ?_
    refine rdSeq ?_
    walk_at "rd"
    intro pd hpd
    have d1 := same_new (o := .dK []) hpd
    have npd := mvL.fresh hpd
    have hpd1 : upd Ka pd (.dK []) pd = some (.dK []) := upd_same
    have e1 := e1.up (.of d1)
    have e2 := e2.up (.of d1)
    have fx := fx.up (.of d1)
    have mvM := mvL.then d1
    generalize upd Ka pd (.dK []) = Kb at *
    refine i_ixF (i := 4) e1 (Md.at4 m1) fun w1 hw1 => i_ixF (i := 4) e2 (Md.at4 m2) fun w2 hw2 => ⟨hpd1, [(.inr (pkN 0), w1), (.inr (pkN 1), w2)], rfl, (show 2 ≤ 15 by decide), ?_⟩
    have em : mergeK [] [((Sum.inr (pkN 0), w1) : Key × V), (Sum.inr (pkN 1), w2)] = kvsOf [m1, m2] [w1, w2] := by
      show putK (putK [] (Sum.inr (pkN 0)) w1) (Sum.inr (pkN 1)) w2 = [((Sum.inr m1.nm, w1) : Key × V), (Sum.inr m2.nm, w2)]
      rw [putK_new w1 (show valV [] (Sum.inr (pkN 0)) = none from rfl), putK_new w2 (show valV ([] ++ [(Sum.inr (pkN 0), w1)]) (Sum.inr (pkN 1)) = none from valV_neg (fun q => pk3_nd.1 (Sum.inr.inj q))), en1, en2]
      rfl
    rw [em]
    have tkd : TupK Kb (upd Kb pd (.dK (kvsOf [m1, m2] [w1, w2]))) := TupK.mut hpd1 (fun _ h => nomatch h)
    have hud : Ud K (upd Kb pd (.dK (kvsOf [m1, m2] [w1, w2]))) pd [m1, m2] := ⟨[w1, w2], upd_same, .cons (hw1.up tkd) (.cons (hw2.up tkd) .nil)⟩
    have mvN : Mv b H1 (upd Kb pd (.dK (kvsOf [m1, m2] [w1, w2]))) := mvM.own npd.1 npd.2
    have e1 := e1.up tkd
    have e2 := e2.up tkd
    have fx := fx.up tkd
    generalize upd Kb pd (.dK (kvsOf [m1, m2] [w1, w2])) = Kc at *
    have hul : us.length ≤ 3 := by rcases hus with rfl | rfl | rfl <;> simp
    refine ⟨b, pkN 2, 1, x, pd, us, [m1, m2], rfl, mvN.bag, fx, hud, npd.2, fun u hu => ?_, hul, fun m hm => ?_, pk_len 2 (by decide), fun v3 Kd m3 mv3 fv3 en3 ev3 eu3 g3 => ?_⟩
    · refine findM_in ?_
      show u.1 ∈ [m1.nm, m2.nm]
      rw [en1, en2]
      rcases hus with rfl | rfl | rfl
      · cases hu
      · rcases List.mem_cons.mp hu with rfl | hu
        · simp
        · rw [List.mem_singleton.mp hu]; simp
      · rcases List.mem_cons.mp hu with rfl | hu
        · simp
        · rw [List.mem_singleton.mp hu]; simp
    · rcases List.mem_cons.mp hm with rfl | hm
      · exact g1.few
      · rw [List.mem_singleton.mp hm]; exact g2.few
    have e1 := e1.up (.mv mvN.bag mv3)
    have e2 := e2.up (.mv mvN.bag mv3)
    have fx := fx.up (.mv mvN.bag mv3)
    clear hud tkd mvM mvL mvK mvN mv3 hw1 hw2 nl7 nl8 flv
    refine rdSeq ?_
    walk_at "rd"
    intro l6 hl6
    have t6 := same_new (o := .lst [v1, v2, v3]) hl6
    have e1 := e1.up (.of t6)
    have e2 := e2.up (.of t6)
    have e3 := fv3.up (.of t6)
    have fx := fx.up (.of t6)
    have ll6 : LsF K (upd Kd l6 (.lst [v1, v2, v3])) l6 ([m1, m2, m3].map Md.d) := ⟨_, upd_same, .cons e1 (.cons e2 (.cons e3 .nil))⟩
    generalize upd Kd l6 (.lst [v1, v2, v3]) = Ke at *
    refine rdSeq ?_
    walk_at "rd"
    intro i1 hi1
    have u1 := same_new (o := .tup [.str (Str.ofString "Inn"), .int 1]) hi1
    have g1' : Fr K (upd Ke i1 (.tup [.str (Str.ofString "Inn"), .int 1])) (.ref i1) (useD (Str.ofString "Inn", 1)) := .tup (.inl upd_same) (.cons (.str _) (.cons (.int _) .nil))
    generalize upd Ke i1 (.tup [.str (Str.ofString "Inn"), .int 1]) = Kf at *
    intro i2 hi2
    have u2 := same_new (o := .tup [.ref i1]) hi2
    have g2' : Fr K (upd Kf i2 (.tup [.ref i1])) (.ref i2) (.tuple ([(Str.ofString "Inn", (1 : Int))].map useD)) := .tup (.inl upd_same) (.cons (g1'.up (.of u2)) .nil)
    generalize upd Kf i2 (.tup [.ref i1]) = Kg at *
    have u12 := u1.trans u2
    have e1 := e1.up (.of u12)
    have e2 := e2.up (.of u12)
    have e3 := e3.up (.of u12)
    have fx := fx.up (.of u12)
    have ll6 := ll6.same u12
    refine rdCut (fun σ' H' => Same Kg H' ∧ ∃ (y7 : V) (u : Str × Int) (r : List (Str × Int)), Fr K H' y7 (.tuple ((u :: r).map useD)) ∧ Bad m1 m2 u ∧ r.length ≤ 3 ∧ σ' = [some (.ref a), some (.ref b), some v1, some v2, some x, some v3, some (.ref l6), some y7, none, none, none]) ?_ ?_
    · walk_at "rd"
      refine i_lenF fx ?_
      refine ⟨_, rfl, ite2 (fun hlen => ?_) (fun hlen => ⟨Same.refl _, .ref i2, (Str.ofString "Inn", 1), [], g2', .inl rfl, Nat.zero_le _, rfl⟩)⟩
      obtain ⟨u0, r0, eu⟩ : ∃ u0 r0, us = u0 :: r0 := by
        cases us with
        | nil => simp at hlen
        | cons u0 r0 => exact ⟨_, _, rfl⟩
      subst eu
      refine i_ixF (i := 0) fx rfl fun z0 hz0 => i_ixFs (i := 0) hz0 rfl (i_ixF (i := 0) fx rfl fun z1 hz1 => i_ixFi (i := 1) hz1 rfl ⟨_, rfl, fun k1 hk1 k2 hk2 => ?_⟩)
      have w1 := same_new (o := .tup [.str u0.1, .int (u0.2 + 5)]) hk1
      have a1 : Fr K (upd Kg k1 (.tup [.str u0.1, .int (u0.2 + 5)])) (.ref k1) (useD (u0.1, u0.2 + 5)) := .tup (.inl upd_same) (.cons (.str _) (.cons (.int _) .nil))
      generalize upd Kg k1 (.tup [.str u0.1, .int (u0.2 + 5)]) = Kx at *
      have w2 := same_new (o := .tup [.ref k1]) hk2
      have a2 : Fr K (upd Kx k2 (.tup [.ref k1])) (.ref k2) (.tuple ([(u0.1, u0.2 + 5)].map useD)) := .tup (.inl upd_same) (.cons (a1.up (.of w2)) .nil)
      generalize upd Kx k2 (.tup [.ref k1]) = Ky at *
      have hr0 : r0.length ≤ 3 := by
        rw [List.length_cons] at hul
        omega
      refine i_dropF (n := 1) ((fx.up (.of w1)).up (.of w2)) (by decide) (by simp) fun x3 H3 s3 f3 => ?_
      refine i_catF (a2.up (.of s3)) f3 (line5 (by simp; omega)) fun x4 H4 s4 f4 => ⟨w1.trans (w2.trans (s3.trans s4)), x4, (u0.1, u0.2 + 5), r0, f4, ?_, hr0, rfl⟩
      rcases hus with h | h | h
      · cases h
      · obtain ⟨rfl, rfl⟩ := List.cons.inj h
        exact .inr (.inl ⟨en1.symm, by show m1.ver + 5 ≠ m1.ver; omega⟩)
      · obtain ⟨rfl, rfl⟩ := List.cons.inj h
        exact .inr (.inr ⟨en2.symm, by show m2.ver + 5 ≠ m2.ver; omega⟩)
    rintro σ' Kh ⟨sh, y7, u, r, fy, hbad, hrl, rfl⟩
    have e1 := e1.up (.of sh)
    have e2 := e2.up (.of sh)
    have e3 := e3.up (.of sh)
    have ll6 := ll6.same sh
    have G1 : GoodMs id [m1, m2, m3] := by
      refine .three (fun _ h => h) (fun _ _ _ _ h => h) en1 en2 en3 eu1 eu2 g1 g2 g3 fun z hz => ?_
      rw [eu3] at hz
      have hm1 : (pkN 0, m1.ver) = (m1.nm, m1.ver) := by rw [en1]
      have hm2 : (pkN 1, m2.ver) = (m2.nm, m2.ver) := by rw [en2]
      rcases hus with rfl | rfl | rfl
      · cases hz
      · rcases List.mem_cons.mp hz with rfl | hz
        · exact ⟨m1, by simp, hm1⟩
        · rw [List.mem_singleton.mp hz]; exact ⟨m2, by simp, hm2⟩
      · rcases List.mem_cons.mp hz with rfl | hz
        · exact ⟨m2, by simp, hm2⟩
        · rw [List.mem_singleton.mp hz]; exact ⟨m1, by simp, hm1⟩
    have n12 : m1.nm ≠ m2.nm := by rw [en1, en2]; exact pk3_nd.1
    have G2 : GoodMs swp [m2, m1, m3] := by
      refine .three swp_lt swp_ij en2 en1 en3 eu2 eu1 g2 g1 (g3.perm (find_two n12)) fun z hz => ?_
      have h3 := (G1.md 2 m3 rfl).2.2 z hz
      obtain ⟨y, hy, e⟩ := h3
      refine ⟨y, ?_, e⟩
      rcases List.mem_cons.mp hy with rfl | hy
      · simp
      · rw [List.mem_singleton.mp hy]; simp
    refine rdSeq ?_
    walk_at "rd"
    refine i_frontF (n := 3) e3 (show 3 < 8 by decide) fun x1 Ki si fa => ?_
    intro ka hka
    have ta := same_new (o := .tup [y7]) hka
    have fb : Fr K (upd Ki ka (.tup [y7])) (.ref ka) (.tuple [.tuple ((u :: r).map useD)]) := .tup (.inl upd_same) (.cons ((fy.up (.of si)).up (.of ta)) .nil)
    generalize upd Ki ka (.tup [y7]) = Kj at *
    refine i_catF (fa.up (.of ta)) fb (line5 (show 3 + 1 ≤ 100000 by decide)) fun x2 Kk sk fc => ?_
    refine i_dropF (n := 4) (((e3.up (.of si)).up (.of ta)).up (.of sk)) (by decide) (show 4 ≤ 8 by decide) fun x3 Kl sl fd => ?_
    refine i_catF (fc.up (.of sl)) fd (line5 (show 4 + 4 ≤ 100000 by decide)) fun x4 Km sm fe => ?_
    intro lr hlr
    have tr := same_new (o := .lst [x4]) hlr
    have fe : Fr K Km x4 (reUse m3 (u :: r)).d := fe
    have llr : LsF K (upd Km lr (.lst [x4])) lr ([reUse m3 (u :: r)].map Md.d) := ⟨_, upd_same, .cons (fe.up (.of tr)) .nil⟩
    have sn := si.trans (ta.trans (sk.trans (sl.trans (sm.trans tr))))
    generalize upd Km lr (.lst [x4]) = Kn at *
    have e1 := e1.up (.of sn)
    have e2 := e2.up (.of sn)
    have e3 := e3.up (.of sn)
    have ll6 := ll6.same sn
    refine rdSeq ?_
    walk_at "rd"
    intro la hla
    have tl := same_new (o := .lst [v1, v2, v3]) hla
    have lla : LsF K (upd Kn la (.lst [v1, v2, v3])) la ([m1, m2, m3].map Md.d) := ⟨_, upd_same, .cons (e1.up (.of tl)) (.cons (e2.up (.of tl)) (.cons (e3.up (.of tl)) .nil))⟩
    generalize upd Kn la (.lst [v1, v2, v3]) = Ko at *
    intro lb hlb
    have tb := same_new (o := .lst []) hlb
    have llb : LsF K (upd Ko lb (.lst [])) lb (([] : List Md).map Md.d) := ⟨[], upd_same, .nil⟩
    have lla := lla.same tb
    generalize upd Ko lb (.lst []) = Kp at *
    have slb := tl.trans tb
    refine ⟨la, lb, [m1, m2, m3], [], id, rfl, lla, llb, G1, (fun _ h => by cases h), Nat.zero_le _, fun a1 md1 cl1 Kq sq1 wd1 => ?_⟩
    have sq2 := slb.trans sq1
    refine rdSeq ?_
    walk_at "rd"
    intro lc hlc
    have tc := same_new (o := .lst [v2, v1, v3]) hlc
    have s5 := sq2.trans tc
    have llc : LsF K (upd Kq lc (.lst [v2, v1, v3])) lc ([m2, m1, m3].map Md.d) := ⟨_, upd_same, .cons (e2.up (.of s5)) (.cons (e1.up (.of s5)) (.cons (e3.up (.of s5)) .nil))⟩
    have wd1 := wd1.same tc
    have llr := llr.same s5
    generalize upd Kq lc (.lst [v2, v1, v3]) = Kr at *
    refine ⟨lc, lr, [m2, m1, m3], [reUse m3 (u :: r)], swp, rfl, llc, llr, G2, fun z hz => ?_, (by simp), fun a2 md2 cl2 Ks ss wd2 => ?_⟩
    · rw [List.mem_singleton.mp hz]
      exact ⟨(G1.mz (i := 2) rfl).reUse, fun i => bad_chk G2 (by simp) (by simp) rfl hbad (i + 1)⟩
    have wd1 := wd1.same ss
    have ll6 := (ll6.same s5).same ss
    refine rdSeq ?_
    walk_at "rd"
    have c12 : (clsOf [m2, m1, m3]).length = (clsOf [m1, m2, m3]).length := by simp [clsOf]; omega
    have wd1c := wd1
    obtain ⟨⟨dx1, ha1⟩, _, _⟩ := wd1c
    have wd2c := wd2
    obtain ⟨⟨dx2, ha2⟩, _, _⟩ := wd2c
    refine i_meth ha1 rfl ⟨a1, md1, cl1, _, rfl, wd1, ?_⟩
    refine i_meth ha2 rfl ⟨a2, md2, cl2, _, rfl, wd2, rfl, ?_⟩
    rw [c12]
    refine i_else (by simp) ?_
    refine i_meth ha1 rfl ⟨a1, md1, cl1, _, rfl, wd1, fun n1 Kt hn1 st hnl1 => ?_⟩
    refine ⟨n1, [m1.nm, m2.nm, m3.nm], rfl, sqL_of hnl1, (show 3 < 64 by decide), fun ys q1 perm1 sort1 hq1 => ?_⟩
    have hy := sorted3 (l := [m1.nm, m2.nm, m3.nm]) (.inl (by rw [en1, en2, en3])) perm1 sort1
    subst hy
    have t1 := same_new (o := .lst ([pkN 2, pkN 0, pkN 1].map V.str)) hq1
    have hq1s : upd Kt q1 (.lst ([pkN 2, pkN 0, pkN 1].map V.str)) q1 = some (.lst ([pkN 2, pkN 0, pkN 1].map V.str)) := upd_same
    have sA := st.trans t1
    generalize upd Kt q1 (.lst ([pkN 2, pkN 0, pkN 1].map V.str)) = Ku at *
    refine i_meth (sA _ _ ha2) rfl ⟨a2, md2, cl2, _, rfl, wd2.same sA, fun n2 Kv hn2 sv hnl2 => ?_⟩
    refine ⟨n2, [m2.nm, m1.nm, m3.nm], rfl, sqL_of hnl2, (show 3 < 64 by decide), fun ys q2 perm2 sort2 hq2 => ?_⟩
    have hy := sorted3 (l := [m2.nm, m1.nm, m3.nm]) (.inr (by rw [en1, en2, en3])) perm2 sort2
    subst hy
    have t2 := same_new (o := .lst ([pkN 2, pkN 0, pkN 1].map V.str)) hq2
    have hq2s : upd Kv q2 (.lst ([pkN 2, pkN 0, pkN 1].map V.str)) q2 = some (.lst ([pkN 2, pkN 0, pkN 1].map V.str)) := upd_same
    have sB := sA.trans (sv.trans t2)
    have hq1s := t2 _ _ (sv _ _ hq1s)
    generalize upd Kv q2 (.lst ([pkN 2, pkN 0, pkN 1].map V.str)) = Kw at *
    have sh : SeqAt.shaped (.list ([pkN 2, pkN 0, pkN 1].map .str)) = true := by decide +kernel
    refine i_neSame (d := .list ([pkN 2, pkN 0, pkN 1].map .str)) (.lst (sqL_of hq1s) FrL.ofStrs.dp) (.lst (sqL_of hq2s) FrL.ofStrs.dp) sh ⟨_, rfl, i_else (by decide) ?_⟩
    have hws : ∀ m ∈ [m1, m2, m3], ∃ j : Nat, ([m1, m2, m3] : List Md)[j]? = some m := fun m hm => by
      obtain ⟨j, hj, e⟩ := List.mem_iff_getElem.mp hm
      exact ⟨j, by rw [← e]; exact List.getElem?_eq_getElem hj⟩
    have hws2 : ∀ m ∈ [m1, m2, m3], ∃ j : Nat, ([m2, m1, m3] : List Md)[j]? = some m := fun m hm => by
      have hm : m ∈ [m2, m1, m3] := by
        simp at hm ⊢
        rcases hm with h | h | h
        · exact .inr (.inl h)
        · exact .inl h
        · exact .inr (.inr h)
      obtain ⟨j, hj, e⟩ := List.mem_iff_getElem.mp hm
      exact ⟨j, by rw [← e]; exact List.getElem?_eq_getElem hj⟩
    refine ⟨a1, md1, cl1, l6, [m1, m2, m3], [m1, m2, m3], id, rfl, wd1.same sB, ll6.same sB, G1, G1.msT 3, hws, Nat.le_refl _, fun r1 Kx sx rw1 => ?_⟩
    have sC := sB.trans sx
    refine ⟨a2, md2, cl2, l6, [m2, m1, m3], [m1, m2, m3], swp, rfl, wd2.same sC, ll6.same sC, G2, G2.msT 3, hws2, Nat.le_refl _, fun r2 Ky sy rw2 => ?_⟩
    obtain ⟨vs1, h1, _, d1⟩ := (rw1.same sy).ex
    obtain ⟨vs2, h2, _, d2⟩ := rw2.ex
    have sh2 := lay_shaped (told_lay G1 hws) (by decide)
    refine ⟨.list (toldR [m1, m2, m3]), .list (toldR [m1, m2, m3]), .lst (sqL_of h1) (d1 _ (My.Kp.refl _ _)), .lst (sqL_of h2) (d2 _ (My.Kp.refl _ _)), sh2, sh2, ?_⟩
    rw [SeqAt.eqv_refl _ (shaped_lay sh2)]
    exact q _

theorem all_mk {l : PySem.W.OpenLaw} {w : World} {K : PySem.W.Frag} {h : Heap} {mg : Str → Option Value} {fa : Addr} (X : K.In h) (G : h.Ns mainGlobals mg) (hfa : mg "law" = some (.ref fa))
    {f0 : Addr} {od0 an0 : Option Addr} {sl0 : Array (Option Value)} {oc0 kV0 dc0 pm0 cd0 ct0 : Value}
    {f1 : Addr} {od1 an1 : Option Addr} {sl1 : Array (Option Value)} {oc1 kV1 dc1 pm1 cd1 ct1 : Value}
    {f2 : Addr} {od2 an2 : Option Addr} {sl2 : Array (Option Value)} {oc2 kV2 dc2 pm2 cd2 ct2 : Value}
    {f3 : Addr} {od3 an3 : Option Addr} {sl3 : Array (Option Value)} {oc3 kV3 dc3 pm3 cd3 ct3 : Value}
    {f4 : Addr} {od4 an4 : Option Addr} {sl4 : Array (Option Value)} {oc4 kV4 dc4 pm4 cd4 ct4 : Value}
    {f5 : Addr} {od5 an5 : Option Addr} {sl5 : Array (Option Value)} {oc5 kV5 dc5 pm5 cd5 ct5 : Value}
    {f6 : Addr} {od6 an6 : Option Addr} {sl6 : Array (Option Value)} {oc6 kV6 dc6 pm6 cd6 ct6 : Value}
    {f7 : Addr} {od7 an7 : Option Addr} {sl7 : Array (Option Value)} {oc7 kV7 dc7 pm7 cd7 ct7 : Value}
    {f8 : Addr} {od8 an8 : Option Addr} {sl8 : Array (Option Value)} {oc8 kV8 dc8 pm8 cd8 ct8 : Value}
    {f9 : Addr} {od9 an9 : Option Addr} {sl9 : Array (Option Value)} {oc9 kV9 dc9 pm9 cd9 ct9 : Value}
    {f10 : Addr} {od10 an10 : Option Addr} {sl10 : Array (Option Value)} {oc10 kV10 dc10 pm10 cd10 ct10 : Value}
    {f11 : Addr} {od11 an11 : Option Addr} {sl11 : Array (Option Value)} {oc11 kV11 dc11 pm11 cd11 ct11 : Value}
    {f12 : Addr} {od12 an12 : Option Addr} {sl12 : Array (Option Value)} {oc12 kV12 dc12 pm12 cd12 ct12 : Value}
    {f13 : Addr} {od13 an13 : Option Addr} {sl13 : Array (Option Value)} {oc13 kV13 dc13 pm13 cd13 ct13 : Value}
    {f14 : Addr} {od14 an14 : Option Addr} {sl14 : Array (Option Value)} {oc14 kV14 dc14 pm14 cd14 ct14 : Value}
    {f15 : Addr} {od15 an15 : Option Addr} {sl15 : Array (Option Value)} {oc15 kV15 dc15 pm15 cd15 ct15 : Value}
    {f16 : Addr} {od16 an16 : Option Addr} {sl16 : Array (Option Value)} {oc16 kV16 dc16 pm16 cd16 ct16 : Value}
    {f17 : Addr} {od17 an17 : Option Addr} {sl17 : Array (Option Value)} {oc17 kV17 dc17 pm17 cd17 ct17 : Value}
    {f18 : Addr} {od18 an18 : Option Addr} {sl18 : Array (Option Value)} {oc18 kV18 dc18 pm18 cd18 ct18 : Value}
    {f19 : Addr} {od19 an19 : Option Addr} {sl19 : Array (Option Value)} {oc19 kV19 dc19 pm19 cd19 ct19 : Value}
    {f20 : Addr} {od20 an20 : Option Addr} {sl20 : Array (Option Value)} {oc20 kV20 dc20 pm20 cd20 ct20 : Value}
    {f21 : Addr} {od21 an21 : Option Addr} {sl21 : Array (Option Value)} {oc21 kV21 dc21 pm21 cd21 ct21 : Value}
    {f22 : Addr} {od22 an22 : Option Addr} {sl22 : Array (Option Value)} {oc22 kV22 dc22 pm22 cd22 ct22 : Value}
    {f23 : Addr} {od23 an23 : Option Addr} {sl23 : Array (Option Value)} {oc23 kV23 dc23 pm23 cd23 ct23 : Value}
    {f24 : Addr} {od24 an24 : Option Addr} {sl24 : Array (Option Value)} {oc24 kV24 dc24 pm24 cd24 ct24 : Value}
    {f25 : Addr} {od25 an25 : Option Addr} {sl25 : Array (Option Value)} {oc25 kV25 dc25 pm25 cd25 ct25 : Value}
    {f26 : Addr} {od26 an26 : Option Addr} {sl26 : Array (Option Value)} {oc26 kV26 dc26 pm26 cd26 ct26 : Value}
    {f27 : Addr} {od27 an27 : Option Addr} {sl27 : Array (Option Value)} {oc27 kV27 dc27 pm27 cd27 ct27 : Value}
    {f28 : Addr} {od28 an28 : Option Addr} {sl28 : Array (Option Value)} {oc28 kV28 dc28 pm28 cd28 ct28 : Value}
    {f29 : Addr} {od29 an29 : Option Addr} {sl29 : Array (Option Value)} {oc29 kV29 dc29 pm29 cd29 ct29 : Value}
    {f30 : Addr} {od30 an30 : Option Addr} {sl30 : Array (Option Value)} {oc30 kV30 dc30 pm30 cd30 ct30 : Value}
    {f31 : Addr} {od31 an31 : Option Addr} {sl31 : Array (Option Value)} {oc31 kV31 dc31 pm31 cd31 ct31 : Value}
    {f32 : Addr} {od32 an32 : Option Addr} {sl32 : Array (Option Value)} {oc32 kV32 dc32 pm32 cd32 ct32 : Value}
    {f33 : Addr} {od33 an33 : Option Addr} {sl33 : Array (Option Value)} {oc33 kV33 dc33 pm33 cd33 ct33 : Value}
    {f34 : Addr} {od34 an34 : Option Addr} {sl34 : Array (Option Value)} {oc34 kV34 dc34 pm34 cd34 ct34 : Value}
    {f35 : Addr} {od35 an35 : Option Addr} {sl35 : Array (Option Value)} {oc35 kV35 dc35 pm35 cd35 ct35 : Value}
    {f36 : Addr} {od36 an36 : Option Addr} {sl36 : Array (Option Value)} {oc36 kV36 dc36 pm36 cd36 ct36 : Value}
    {f37 : Addr} {od37 an37 : Option Addr} {sl37 : Array (Option Value)} {oc37 kV37 dc37 pm37 cd37 ct37 : Value}
    {f38 : Addr} {od38 an38 : Option Addr} {sl38 : Array (Option Value)} {oc38 kV38 dc38 pm38 cd38 ct38 : Value}
    {f39 : Addr} {od39 an39 : Option Addr} {sl39 : Array (Option Value)} {oc39 kV39 dc39 pm39 cd39 ct39 : Value}
    {f40 : Addr} {od40 an40 : Option Addr} {sl40 : Array (Option Value)} {oc40 kV40 dc40 pm40 cd40 ct40 : Value}
    {c_CardError : Addr}
    {c_BadLink : Addr}
    {c_Draft : Addr}
    {c_World : Addr}
    {qa0 : Addr} {qd0 : Option Addr} {qn0 : Nat} {qs0 : Array (Option Value)} {tq0_0 : Tok}
    {qa1 : Addr} {qd1 : Option Addr} {qn1 : Nat} {qs1 : Array (Option Value)} {tq1_0 : Tok}
    {qa2 : Addr} {qd2 : Option Addr} {qn2 : Nat} {qs2 : Array (Option Value)} {tq2_0 : Tok}
    {qa3 : Addr} {qd3 : Option Addr} {qn3 : Nat} {qs3 : Array (Option Value)} {tq3_0 : Tok}
    (a0 : PySem.W.nsIn K mainGlobals "must" = some (some (.ref f0)))
    (l0 : K.lookup f0 = some ⟨oc0, od0, .func (PySem.W.fnOf "must" "must" (defArgs s_must) (defBody s_must) (defScope s_must) .none kV0 dc0 pm0 an0 cd0 ct0), sl0⟩) (c0 : PySem.W.codeIn K cd0 "must" = true) (k0 : PySem.W.keepIn K (.ref f0) = true)
    (a1 : PySem.W.nsIn K mainGlobals "is_class" = some (some (.ref f1)))
    (l1 : K.lookup f1 = some ⟨oc1, od1, .func (PySem.W.fnOf "is_class" "is_class" (defArgs s_is_class) (defBody s_is_class) (defScope s_is_class) .none kV1 dc1 pm1 an1 cd1 ct1), sl1⟩) (c1 : PySem.W.codeIn K cd1 "is_class" = true) (k1 : PySem.W.keepIn K (.ref f1) = true)
    (a2 : PySem.W.nsIn K mainGlobals "is_face" = some (some (.ref f2)))
    (l2 : K.lookup f2 = some ⟨oc2, od2, .func (PySem.W.fnOf "is_face" "is_face" (defArgs s_is_face) (defBody s_is_face) (defScope s_is_face) .none kV2 dc2 pm2 an2 cd2 ct2), sl2⟩) (c2 : PySem.W.codeIn K cd2 "is_face" = true) (k2 : PySem.W.keepIn K (.ref f2) = true)
    (a3 : PySem.W.nsIn K mainGlobals "ancestors_of" = some (some (.ref f3)))
    (l3 : K.lookup f3 = some ⟨oc3, od3, .func (PySem.W.fnOf "ancestors_of" "ancestors_of" (defArgs s_ancestors_of) (defBody s_ancestors_of) (defScope s_ancestors_of) .none kV3 dc3 pm3 an3 cd3 ct3), sl3⟩) (c3 : PySem.W.codeIn K cd3 "ancestors_of" = true) (k3 : PySem.W.keepIn K (.ref f3) = true)
    (a4 : PySem.W.nsIn K mainGlobals "faces_of" = some (some (.ref f4)))
    (l4 : K.lookup f4 = some ⟨oc4, od4, .func (PySem.W.fnOf "faces_of" "faces_of" (defArgs s_faces_of) (defBody s_faces_of) (defScope s_faces_of) .none kV4 dc4 pm4 an4 cd4 ct4), sl4⟩) (c4 : PySem.W.codeIn K cd4 "faces_of" = true) (k4 : PySem.W.keepIn K (.ref f4) = true)
    (a5 : PySem.W.nsIn K mainGlobals "row_of" = some (some (.ref f5)))
    (l5 : K.lookup f5 = some ⟨oc5, od5, .func (PySem.W.fnOf "row_of" "row_of" (defArgs s_row_of) (defBody s_row_of) (defScope s_row_of) .none kV5 dc5 pm5 an5 cd5 ct5), sl5⟩) (c5 : PySem.W.codeIn K cd5 "row_of" = true) (k5 : PySem.W.keepIn K (.ref f5) = true)
    (l6 : K.lookup f6 = some ⟨oc6, od6, .func (PySem.W.fnOf "__init__" "Draft.__init__" (defArgs s_Draft_init) (defBody s_Draft_init) (defScope s_Draft_init) .none kV6 dc6 pm6 an6 cd6 ct6), sl6⟩) (c6 : PySem.W.codeIn K cd6 "Draft.__init__" = true) (k6 : PySem.W.keepIn K (.ref f6) = true)
    (l7 : K.lookup f7 = some ⟨oc7, od7, .func (PySem.W.fnOf "check" "Draft.check" (defArgs s_Draft_check) (defBody s_Draft_check) (defScope s_Draft_check) .none kV7 dc7 pm7 an7 cd7 ct7), sl7⟩) (c7 : PySem.W.codeIn K cd7 "Draft.check" = true) (k7 : PySem.W.keepIn K (.ref f7) = true)
    (l8 : K.lookup f8 = some ⟨oc8, od8, .func (PySem.W.fnOf "_face" "Draft._face" (defArgs s_Draft__face) (defBody s_Draft__face) (defScope s_Draft__face) .none kV8 dc8 pm8 an8 cd8 ct8), sl8⟩) (c8 : PySem.W.codeIn K cd8 "Draft._face" = true) (k8 : PySem.W.keepIn K (.ref f8) = true)
    (l9 : K.lookup f9 = some ⟨oc9, od9, .func (PySem.W.fnOf "_check_kinds" "Draft._check_kinds" (defArgs s_Draft__check_kinds) (defBody s_Draft__check_kinds) (defScope s_Draft__check_kinds) .none kV9 dc9 pm9 an9 cd9 ct9), sl9⟩) (c9 : PySem.W.codeIn K cd9 "Draft._check_kinds" = true) (k9 : PySem.W.keepIn K (.ref f9) = true)
    (l10 : K.lookup f10 = some ⟨oc10, od10, .func (PySem.W.fnOf "_check_heads" "Draft._check_heads" (defArgs s_Draft__check_heads) (defBody s_Draft__check_heads) (defScope s_Draft__check_heads) .none kV10 dc10 pm10 an10 cd10 ct10), sl10⟩) (c10 : PySem.W.codeIn K cd10 "Draft._check_heads" = true) (k10 : PySem.W.keepIn K (.ref f10) = true)
    (l11 : K.lookup f11 = some ⟨oc11, od11, .func (PySem.W.fnOf "_check_faces" "Draft._check_faces" (defArgs s_Draft__check_faces) (defBody s_Draft__check_faces) (defScope s_Draft__check_faces) .none kV11 dc11 pm11 an11 cd11 ct11), sl11⟩) (c11 : PySem.W.codeIn K cd11 "Draft._check_faces" = true) (k11 : PySem.W.keepIn K (.ref f11) = true)
    (l12 : K.lookup f12 = some ⟨oc12, od12, .func (PySem.W.fnOf "__init__" "World.__init__" (defArgs s_World_init) (defBody s_World_init) (defScope s_World_init) .none kV12 dc12 pm12 an12 cd12 ct12), sl12⟩) (c12 : PySem.W.codeIn K cd12 "World.__init__" = true) (k12 : PySem.W.keepIn K (.ref f12) = true)
    (l13 : K.lookup f13 = some ⟨oc13, od13, .func (PySem.W.fnOf "add" "World.add" (defArgs s_World_add) (defBody s_World_add) (defScope s_World_add) .none kV13 dc13 pm13 an13 cd13 ct13), sl13⟩) (c13 : PySem.W.codeIn K cd13 "World.add" = true) (k13 : PySem.W.keepIn K (.ref f13) = true)
    (l14 : K.lookup f14 = some ⟨oc14, od14, .func (PySem.W.fnOf "names" "World.names" (defArgs s_World_names) (defBody s_World_names) (defScope s_World_names) .none kV14 dc14 pm14 an14 cd14 ct14), sl14⟩) (c14 : PySem.W.codeIn K cd14 "World.names" = true) (k14 : PySem.W.keepIn K (.ref f14) = true)
    (l15 : K.lookup f15 = some ⟨oc15, od15, .func (PySem.W.fnOf "module" "World.module" (defArgs s_World_module) (defBody s_World_module) (defScope s_World_module) .none kV15 dc15 pm15 an15 cd15 ct15), sl15⟩) (c15 : PySem.W.codeIn K cd15 "World.module" = true) (k15 : PySem.W.keepIn K (.ref f15) = true)
    (l16 : K.lookup f16 = some ⟨oc16, od16, .func (PySem.W.fnOf "face" "World.face" (defArgs s_World_face) (defBody s_World_face) (defScope s_World_face) .none kV16 dc16 pm16 an16 cd16 ct16), sl16⟩) (c16 : PySem.W.codeIn K cd16 "World.face" = true) (k16 : PySem.W.keepIn K (.ref f16) = true)
    (l17 : K.lookup f17 = some ⟨oc17, od17, .func (PySem.W.fnOf "count" "World.count" (defArgs s_World_count) (defBody s_World_count) (defScope s_World_count) .none kV17 dc17 pm17 an17 cd17 ct17), sl17⟩) (c17 : PySem.W.codeIn K cd17 "World.count" = true) (k17 : PySem.W.keepIn K (.ref f17) = true)
    (l18 : K.lookup f18 = some ⟨oc18, od18, .func (PySem.W.fnOf "number" "World.number" (defArgs s_World_number) (defBody s_World_number) (defScope s_World_number) .none kV18 dc18 pm18 an18 cd18 ct18), sl18⟩) (c18 : PySem.W.codeIn K cd18 "World.number" = true) (k18 : PySem.W.keepIn K (.ref f18) = true)
    (l19 : K.lookup f19 = some ⟨oc19, od19, .func (PySem.W.fnOf "package" "World.package" (defArgs s_World_package) (defBody s_World_package) (defScope s_World_package) .none kV19 dc19 pm19 an19 cd19 ct19), sl19⟩) (c19 : PySem.W.codeIn K cd19 "World.package" = true) (k19 : PySem.W.keepIn K (.ref f19) = true)
    (l20 : K.lookup f20 = some ⟨oc20, od20, .func (PySem.W.fnOf "own" "World.own" (defArgs s_World_own) (defBody s_World_own) (defScope s_World_own) .none kV20 dc20 pm20 an20 cd20 ct20), sl20⟩) (c20 : PySem.W.codeIn K cd20 "World.own" = true) (k20 : PySem.W.keepIn K (.ref f20) = true)
    (l21 : K.lookup f21 = some ⟨oc21, od21, .func (PySem.W.fnOf "fields" "World.fields" (defArgs s_World_fields) (defBody s_World_fields) (defScope s_World_fields) .none kV21 dc21 pm21 an21 cd21 ct21), sl21⟩) (c21 : PySem.W.codeIn K cd21 "World.fields" = true) (k21 : PySem.W.keepIn K (.ref f21) = true)
    (l22 : K.lookup f22 = some ⟨oc22, od22, .func (PySem.W.fnOf "method" "World.method" (defArgs s_World_method) (defBody s_World_method) (defScope s_World_method) .none kV22 dc22 pm22 an22 cd22 ct22), sl22⟩) (c22 : PySem.W.codeIn K cd22 "World.method" = true) (k22 : PySem.W.keepIn K (.ref f22) = true)
    (l23 : K.lookup f23 = some ⟨oc23, od23, .func (PySem.W.fnOf "row" "World.row" (defArgs s_World_row) (defBody s_World_row) (defScope s_World_row) .none kV23 dc23 pm23 an23 cd23 ct23), sl23⟩) (c23 : PySem.W.codeIn K cd23 "World.row" = true) (k23 : PySem.W.keepIn K (.ref f23) = true)
    (l24 : K.lookup f24 = some ⟨oc24, od24, .func (PySem.W.fnOf "is_kind" "World.is_kind" (defArgs s_World_is_kind) (defBody s_World_is_kind) (defScope s_World_is_kind) .none kV24 dc24 pm24 an24 cd24 ct24), sl24⟩) (c24 : PySem.W.codeIn K cd24 "World.is_kind" = true) (k24 : PySem.W.keepIn K (.ref f24) = true)
    (l25 : K.lookup f25 = some ⟨oc25, od25, .func (PySem.W.fnOf "fits" "World.fits" (defArgs s_World_fits) (defBody s_World_fits) (defScope s_World_fits) .none kV25 dc25 pm25 an25 cd25 ct25), sl25⟩) (c25 : PySem.W.codeIn K cd25 "World.fits" = true) (k25 : PySem.W.keepIn K (.ref f25) = true)
    (l26 : K.lookup f26 = some ⟨oc26, od26, .func (PySem.W.fnOf "applet" "World.applet" (defArgs s_World_applet) (defBody s_World_applet) (defScope s_World_applet) .none kV26 dc26 pm26 an26 cd26 ct26), sl26⟩) (c26 : PySem.W.codeIn K cd26 "World.applet" = true) (k26 : PySem.W.keepIn K (.ref f26) = true)
    (l27 : K.lookup f27 = some ⟨oc27, od27, .func (PySem.W.fnOf "_row" "World._row" (defArgs s_World__row) (defBody s_World__row) (defScope s_World__row) .none kV27 dc27 pm27 an27 cd27 ct27), sl27⟩) (c27 : PySem.W.codeIn K cd27 "World._row" = true) (k27 : PySem.W.keepIn K (.ref f27) = true)
    (a28 : PySem.W.nsIn K mainGlobals "_law_bag" = some (some (.ref f28)))
    (l28 : K.lookup f28 = some ⟨oc28, od28, .func (PySem.W.fnOf "_law_bag" "_law_bag" (defArgs s_law_bag) (defBody s_law_bag) (defScope s_law_bag) .none kV28 dc28 pm28 an28 cd28 ct28), sl28⟩) (c28 : PySem.W.codeIn K cd28 "_law_bag" = true) (k28 : PySem.W.keepIn K (.ref f28) = true)
    (a29 : PySem.W.nsIn K mainGlobals "_law_draw" = some (some (.ref f29)))
    (l29 : K.lookup f29 = some ⟨oc29, od29, .func (PySem.W.fnOf "_law_draw" "_law_draw" (defArgs s_law_draw) (defBody s_law_draw) (defScope s_law_draw) .none kV29 dc29 pm29 an29 cd29 ct29), sl29⟩) (c29 : PySem.W.codeIn K cd29 "_law_draw" = true) (k29 : PySem.W.keepIn K (.ref f29) = true)
    (a30 : PySem.W.nsIn K mainGlobals "_law_types" = some (some (.ref f30)))
    (l30 : K.lookup f30 = some ⟨oc30, od30, .func (PySem.W.fnOf "_law_types" "_law_types" (defArgs s_law_types) (defBody s_law_types) (defScope s_law_types) .none kV30 dc30 pm30 an30 cd30 ct30), sl30⟩) (c30 : PySem.W.codeIn K cd30 "_law_types" = true) (k30 : PySem.W.keepIn K (.ref f30) = true)
    (a31 : PySem.W.nsIn K mainGlobals "_law_head" = some (some (.ref f31)))
    (l31 : K.lookup f31 = some ⟨oc31, od31, .func (PySem.W.fnOf "_law_head" "_law_head" (defArgs s_law_head) (defBody s_law_head) (defScope s_law_head) .none kV31 dc31 pm31 an31 cd31 ct31), sl31⟩) (c31 : PySem.W.codeIn K cd31 "_law_head" = true) (k31 : PySem.W.keepIn K (.ref f31) = true)
    (a32 : PySem.W.nsIn K mainGlobals "_law_method" = some (some (.ref f32)))
    (l32 : K.lookup f32 = some ⟨oc32, od32, .func (PySem.W.fnOf "_law_method" "_law_method" (defArgs s_law_method) (defBody s_law_method) (defScope s_law_method) .none kV32 dc32 pm32 an32 cd32 ct32), sl32⟩) (c32 : PySem.W.codeIn K cd32 "_law_method" = true) (k32 : PySem.W.keepIn K (.ref f32) = true)
    (a33 : PySem.W.nsIn K mainGlobals "_law_table" = some (some (.ref f33)))
    (l33 : K.lookup f33 = some ⟨oc33, od33, .func (PySem.W.fnOf "_law_table" "_law_table" (defArgs s_law_table) (defBody s_law_table) (defScope s_law_table) .none kV33 dc33 pm33 an33 cd33 ct33), sl33⟩) (c33 : PySem.W.codeIn K cd33 "_law_table" = true) (k33 : PySem.W.keepIn K (.ref f33) = true)
    (a34 : PySem.W.nsIn K mainGlobals "_law_heads_of" = some (some (.ref f34)))
    (l34 : K.lookup f34 = some ⟨oc34, od34, .func (PySem.W.fnOf "_law_heads_of" "_law_heads_of" (defArgs s_law_heads_of) (defBody s_law_heads_of) (defScope s_law_heads_of) .none kV34 dc34 pm34 an34 cd34 ct34), sl34⟩) (c34 : PySem.W.codeIn K cd34 "_law_heads_of" = true) (k34 : PySem.W.keepIn K (.ref f34) = true)
    (a35 : PySem.W.nsIn K mainGlobals "_law_module" = some (some (.ref f35)))
    (l35 : K.lookup f35 = some ⟨oc35, od35, .func (PySem.W.fnOf "_law_module" "_law_module" (defArgs s_law_module) (defBody s_law_module) (defScope s_law_module) .none kV35 dc35 pm35 an35 cd35 ct35), sl35⟩) (c35 : PySem.W.codeIn K cd35 "_law_module" = true) (k35 : PySem.W.keepIn K (.ref f35) = true)
    (a36 : PySem.W.nsIn K mainGlobals "_law_known" = some (some (.ref f36)))
    (l36 : K.lookup f36 = some ⟨oc36, od36, .func (PySem.W.fnOf "_law_known" "_law_known" (defArgs s_law_known) (defBody s_law_known) (defScope s_law_known) .none kV36 dc36 pm36 an36 cd36 ct36), sl36⟩) (c36 : PySem.W.codeIn K cd36 "_law_known" = true) (k36 : PySem.W.keepIn K (.ref f36) = true)
    (a37 : PySem.W.nsIn K mainGlobals "_law_told" = some (some (.ref f37)))
    (l37 : K.lookup f37 = some ⟨oc37, od37, .func (PySem.W.fnOf "_law_told" "_law_told" (defArgs s_law_told) (defBody s_law_told) (defScope s_law_told) .none kV37 dc37 pm37 an37 cd37 ct37), sl37⟩) (c37 : PySem.W.codeIn K cd37 "_law_told" = true) (k37 : PySem.W.keepIn K (.ref f37) = true)
    (a38 : PySem.W.nsIn K mainGlobals "_law_refused" = some (some (.ref f38)))
    (l38 : K.lookup f38 = some ⟨oc38, od38, .func (PySem.W.fnOf "_law_refused" "_law_refused" (defArgs s_law_refused) (defBody s_law_refused) (defScope s_law_refused) .none kV38 dc38 pm38 an38 cd38 ct38), sl38⟩) (c38 : PySem.W.codeIn K cd38 "_law_refused" = true) (k38 : PySem.W.keepIn K (.ref f38) = true)
    (a39 : PySem.W.nsIn K mainGlobals "_law_made" = some (some (.ref f39)))
    (l39 : K.lookup f39 = some ⟨oc39, od39, .func (PySem.W.fnOf "_law_made" "_law_made" (defArgs s_law_made) (defBody s_law_made) (defScope s_law_made) .none kV39 dc39 pm39 an39 cd39 ct39), sl39⟩) (c39 : PySem.W.codeIn K cd39 "_law_made" = true) (k39 : PySem.W.keepIn K (.ref f39) = true)
    (a40 : PySem.W.nsIn K mainGlobals "law" = some (some (.ref f40)))
    (l40 : K.lookup f40 = some ⟨oc40, od40, .func (PySem.W.fnOf "law" "law" (defArgs s_law) (defBody s_law) (defScope s_law) .none kV40 dc40 pm40 an40 cd40 ct40), sl40⟩) (c40 : PySem.W.codeIn K cd40 "law" = true) (k40 : PySem.W.keepIn K (.ref f40) = true)
    (aC_CardError : PySem.W.nsIn K mainGlobals "CardError" = some (some (.ref c_CardError)))
    (aC_BadLink : PySem.W.nsIn K mainGlobals "BadLink" = some (some (.ref c_BadLink)))
    (aC_Draft : PySem.W.nsIn K mainGlobals "Draft" = some (some (.ref c_Draft)))
    (aC_World : PySem.W.nsIn K mainGlobals "World" = some (some (.ref c_World)))
    (w1x : PySem.W.excIn K c_BadLink [.type "ValueError", .type "Exception", .type "BaseException", .type "object"] "ValueError.__new__" = true)
    (w2kx : PySem.W.keepIn K (.ref c_BadLink) = true)
    (w3be : PySem.W.subIn K (.ref c_BadLink) (.type "BaseException") = some true)
    (w4ty : PySem.W.typeIn K (.ref c_BadLink) = some (.type "type"))
    (w5eb : PySem.W.subIn K (.ref c_BadLink) (.type "BaseException") = some true)
    (w6ei : PySem.W.isClsIn K c_BadLink = true)
    (w7et : PySem.W.typeIn K (.ref c_BadLink) = some (.type "type"))
    (w8es : PySem.W.subIn K (.ref c_BadLink) (.ref c_BadLink) = some true)
    (w9pg : PySem.W.plainGet K c_Draft Str.empty = true)
    (w10hd : PySem.W.hasDictIn K c_Draft = true)
    (w11po : PySem.W.plainOver K c_Draft = true)
    (w12sa : PySem.W.findIn K (.ref c_Draft) "__setattr__" = some (some (.builtin "object.__setattr__")))
    (w13mk : PySem.W.makesIn K c_Draft = true)
    (w14in : PySem.W.findIn K (.ref c_Draft) "__init__" = some (some (.ref f6)))
    (w15fi : PySem.W.isFn K (.ref f6) = true)
    (w16kc : PySem.W.keepIn K (.ref c_Draft) = true)
    (w17at : PySem.W.findIn K (.ref c_Draft) "check" = some (some (.ref f7)))
    (w18fn : PySem.W.isFn K (.ref f7) = true)
    (w19km : PySem.W.keepIn K (.ref f7) = true)
    (w20at : PySem.W.findIn K (.ref c_Draft) "_face" = some (some (.ref f8)))
    (w21fn : PySem.W.isFn K (.ref f8) = true)
    (w22km : PySem.W.keepIn K (.ref f8) = true)
    (w23at : PySem.W.findIn K (.ref c_Draft) "_check_kinds" = some (some (.ref f9)))
    (w24fn : PySem.W.isFn K (.ref f9) = true)
    (w25km : PySem.W.keepIn K (.ref f9) = true)
    (w26at : PySem.W.findIn K (.ref c_Draft) "_check_heads" = some (some (.ref f10)))
    (w27fn : PySem.W.isFn K (.ref f10) = true)
    (w28km : PySem.W.keepIn K (.ref f10) = true)
    (w29at : PySem.W.findIn K (.ref c_Draft) "_check_faces" = some (some (.ref f11)))
    (w30fn : PySem.W.isFn K (.ref f11) = true)
    (w31km : PySem.W.keepIn K (.ref f11) = true)
    (w32na : PySem.W.findIn K (.ref c_Draft) "_world" = some none)
    (w33na : PySem.W.findIn K (.ref c_Draft) "_module" = some none)
    (w34pg : PySem.W.plainGet K c_World Str.empty = true)
    (w35hd : PySem.W.hasDictIn K c_World = true)
    (w36po : PySem.W.plainOver K c_World = true)
    (w37sa : PySem.W.findIn K (.ref c_World) "__setattr__" = some (some (.builtin "object.__setattr__")))
    (w38mk : PySem.W.makesIn K c_World = true)
    (w39in : PySem.W.findIn K (.ref c_World) "__init__" = some (some (.ref f12)))
    (w40fi : PySem.W.isFn K (.ref f12) = true)
    (w41kc : PySem.W.keepIn K (.ref c_World) = true)
    (w42at : PySem.W.findIn K (.ref c_World) "add" = some (some (.ref f13)))
    (w43fn : PySem.W.isFn K (.ref f13) = true)
    (w44km : PySem.W.keepIn K (.ref f13) = true)
    (w45at : PySem.W.findIn K (.ref c_World) "names" = some (some (.ref f14)))
    (w46fn : PySem.W.isFn K (.ref f14) = true)
    (w47km : PySem.W.keepIn K (.ref f14) = true)
    (w48at : PySem.W.findIn K (.ref c_World) "module" = some (some (.ref f15)))
    (w49fn : PySem.W.isFn K (.ref f15) = true)
    (w50km : PySem.W.keepIn K (.ref f15) = true)
    (w51at : PySem.W.findIn K (.ref c_World) "face" = some (some (.ref f16)))
    (w52fn : PySem.W.isFn K (.ref f16) = true)
    (w53km : PySem.W.keepIn K (.ref f16) = true)
    (w54at : PySem.W.findIn K (.ref c_World) "count" = some (some (.ref f17)))
    (w55fn : PySem.W.isFn K (.ref f17) = true)
    (w56km : PySem.W.keepIn K (.ref f17) = true)
    (w57at : PySem.W.findIn K (.ref c_World) "number" = some (some (.ref f18)))
    (w58fn : PySem.W.isFn K (.ref f18) = true)
    (w59km : PySem.W.keepIn K (.ref f18) = true)
    (w60at : PySem.W.findIn K (.ref c_World) "package" = some (some (.ref f19)))
    (w61fn : PySem.W.isFn K (.ref f19) = true)
    (w62km : PySem.W.keepIn K (.ref f19) = true)
    (w63at : PySem.W.findIn K (.ref c_World) "own" = some (some (.ref f20)))
    (w64fn : PySem.W.isFn K (.ref f20) = true)
    (w65km : PySem.W.keepIn K (.ref f20) = true)
    (w66at : PySem.W.findIn K (.ref c_World) "fields" = some (some (.ref f21)))
    (w67fn : PySem.W.isFn K (.ref f21) = true)
    (w68km : PySem.W.keepIn K (.ref f21) = true)
    (w69at : PySem.W.findIn K (.ref c_World) "method" = some (some (.ref f22)))
    (w70fn : PySem.W.isFn K (.ref f22) = true)
    (w71km : PySem.W.keepIn K (.ref f22) = true)
    (w72at : PySem.W.findIn K (.ref c_World) "row" = some (some (.ref f23)))
    (w73fn : PySem.W.isFn K (.ref f23) = true)
    (w74km : PySem.W.keepIn K (.ref f23) = true)
    (w75at : PySem.W.findIn K (.ref c_World) "is_kind" = some (some (.ref f24)))
    (w76fn : PySem.W.isFn K (.ref f24) = true)
    (w77km : PySem.W.keepIn K (.ref f24) = true)
    (w78at : PySem.W.findIn K (.ref c_World) "fits" = some (some (.ref f25)))
    (w79fn : PySem.W.isFn K (.ref f25) = true)
    (w80km : PySem.W.keepIn K (.ref f25) = true)
    (w81at : PySem.W.findIn K (.ref c_World) "applet" = some (some (.ref f26)))
    (w82fn : PySem.W.isFn K (.ref f26) = true)
    (w83km : PySem.W.keepIn K (.ref f26) = true)
    (w84at : PySem.W.findIn K (.ref c_World) "_row" = some (some (.ref f27)))
    (w85fn : PySem.W.isFn K (.ref f27) = true)
    (w86km : PySem.W.keepIn K (.ref f27) = true)
    (w87na : PySem.W.findIn K (.ref c_World) "_modules" = some none)
    (w88na : PySem.W.findIn K (.ref c_World) "_classes" = some none)
    (z0 : PySem.W.nsIn K mainGlobals "enumerate" = some none)
    (z1 : PySem.W.nsIn K mainGlobals "int" = some none)
    (z2 : PySem.W.nsIn K mainGlobals "len" = some none)
    (z3 : PySem.W.nsIn K mainGlobals "list" = some none)
    (z4 : PySem.W.nsIn K mainGlobals "range" = some none)
    (z5 : PySem.W.nsIn K mainGlobals "sorted" = some none)
    (z6 : PySem.W.nsIn K mainGlobals "str" = some none)
    (z7 : PySem.W.nsIn K mainGlobals "tuple" = some none)
    (y0 : PySem.W.nsIn K mainGlobals "INT" = some (some (.ref qa0))) (u0 : K.lookup qa0 = some ⟨.type "tuple", qd0, .seq #[.str "int" tq0_0] qn0, qs0⟩)
    (y1 : PySem.W.nsIn K mainGlobals "BYTES" = some (some (.ref qa1))) (u1 : K.lookup qa1 = some ⟨.type "tuple", qd1, .seq #[.str "bytes" tq1_0] qn1, qs1⟩)
    (y2 : PySem.W.nsIn K mainGlobals "NOTHING" = some (some (.ref qa2))) (u2 : K.lookup qa2 = some ⟨.type "tuple", qd2, .seq #[.str "nothing" tq2_0] qn2, qs2⟩)
    (y3 : PySem.W.nsIn K mainGlobals "NULL" = some (some (.ref qa3))) (u3 : K.lookup qa3 = some ⟨.type "tuple", qd3, .seq #[.str "null" tq3_0] qn3, qs3⟩) :
    ∃ fd : FuncData, (∀ (s : Shared) (v : Value), BindsTo s fd ⟨[v], []⟩ [("_law_script", v)]) ∧ ∀ base : Heap, K.In base → base.Ns mainGlobals mg → FnOk l.prog w K mg base CX0 9 fa fd ["_law_script"] (sp_law K) := by
  have e := hfa.symm.trans (PySem.W.mg_of X G a40)
  cases e
  let T : Txt K mg := {
    f_must := f0,
    d_must := _,
    k_must := (fun_mk (st := s_must) l0 c0 k0),
    b_must := (Fun.binds (ps := ["condition"]) (fun_mk (st := s_must) l0 c0 k0) fun _ _ _ _ _ _ us hl => match us, hl with | [_], _ => rfl),
    g_must := PySem.W.mg_of X G a0,
    f_is_class := f1,
    d_is_class := _,
    k_is_class := (fun_mk (st := s_is_class) l1 c1 k1),
    b_is_class := (Fun.binds (ps := ["kind"]) (fun_mk (st := s_is_class) l1 c1 k1) fun _ _ _ _ _ _ us hl => match us, hl with | [_], _ => rfl),
    g_is_class := PySem.W.mg_of X G a1,
    f_is_face := f2,
    d_is_face := _,
    k_is_face := (fun_mk (st := s_is_face) l2 c2 k2),
    b_is_face := (Fun.binds (ps := ["kind"]) (fun_mk (st := s_is_face) l2 c2 k2) fun _ _ _ _ _ _ us hl => match us, hl with | [_], _ => rfl),
    g_is_face := PySem.W.mg_of X G a2,
    f_ancestors_of := f3,
    d_ancestors_of := _,
    k_ancestors_of := (fun_mk (st := s_ancestors_of) l3 c3 k3),
    b_ancestors_of := (Fun.binds (ps := ["module", "k"]) (fun_mk (st := s_ancestors_of) l3 c3 k3) fun _ _ _ _ _ _ us hl => match us, hl with | [_, _], _ => rfl),
    g_ancestors_of := PySem.W.mg_of X G a3,
    f_faces_of := f4,
    d_faces_of := _,
    k_faces_of := (fun_mk (st := s_faces_of) l4 c4 k4),
    b_faces_of := (Fun.binds (ps := ["module", "k"]) (fun_mk (st := s_faces_of) l4 c4 k4) fun _ _ _ _ _ _ us hl => match us, hl with | [_, _], _ => rfl),
    g_faces_of := PySem.W.mg_of X G a4,
    f_row_of := f5,
    d_row_of := _,
    k_row_of := (fun_mk (st := s_row_of) l5 c5 k5),
    b_row_of := (Fun.binds (ps := ["table", "name"]) (fun_mk (st := s_row_of) l5 c5 k5) fun _ _ _ _ _ _ us hl => match us, hl with | [_, _], _ => rfl),
    g_row_of := PySem.W.mg_of X G a5,
    f_Draft_init := f6,
    d_Draft_init := _,
    k_Draft_init := (fun_mk (st := s_Draft_init) l6 c6 k6),
    b_Draft_init := (Fun.binds (ps := ["self", "world", "module"]) (fun_mk (st := s_Draft_init) l6 c6 k6) fun _ _ _ _ _ _ us hl => match us, hl with | [_, _, _], _ => rfl),
    f_Draft_check := f7,
    d_Draft_check := _,
    k_Draft_check := (fun_mk (st := s_Draft_check) l7 c7 k7),
    b_Draft_check := (Fun.binds (ps := ["self"]) (fun_mk (st := s_Draft_check) l7 c7 k7) fun _ _ _ _ _ _ us hl => match us, hl with | [_], _ => rfl),
    f_Draft__face := f8,
    d_Draft__face := _,
    k_Draft__face := (fun_mk (st := s_Draft__face) l8 c8 k8),
    b_Draft__face := (Fun.binds (ps := ["self", "package", "name"]) (fun_mk (st := s_Draft__face) l8 c8 k8) fun _ _ _ _ _ _ us hl => match us, hl with | [_, _, _], _ => rfl),
    f_Draft__check_kinds := f9,
    d_Draft__check_kinds := _,
    k_Draft__check_kinds := (fun_mk (st := s_Draft__check_kinds) l9 c9 k9),
    b_Draft__check_kinds := (Fun.binds (ps := ["self", "kinds"]) (fun_mk (st := s_Draft__check_kinds) l9 c9 k9) fun _ _ _ _ _ _ us hl => match us, hl with | [_, _], _ => rfl),
    f_Draft__check_heads := f10,
    d_Draft__check_heads := _,
    k_Draft__check_heads := (fun_mk (st := s_Draft__check_heads) l10 c10 k10),
    b_Draft__check_heads := (Fun.binds (ps := ["self", "heads"]) (fun_mk (st := s_Draft__check_heads) l10 c10 k10) fun _ _ _ _ _ _ us hl => match us, hl with | [_, _], _ => rfl),
    f_Draft__check_faces := f11,
    d_Draft__check_faces := _,
    k_Draft__check_faces := (fun_mk (st := s_Draft__check_faces) l11 c11 k11),
    b_Draft__check_faces := (Fun.binds (ps := ["self", "k", "table"]) (fun_mk (st := s_Draft__check_faces) l11 c11 k11) fun _ _ _ _ _ _ us hl => match us, hl with | [_, _, _], _ => rfl),
    f_World_init := f12,
    d_World_init := _,
    k_World_init := (fun_mk (st := s_World_init) l12 c12 k12),
    b_World_init := (Fun.binds (ps := ["self"]) (fun_mk (st := s_World_init) l12 c12 k12) fun _ _ _ _ _ _ us hl => match us, hl with | [_], _ => rfl),
    f_World_add := f13,
    d_World_add := _,
    k_World_add := (fun_mk (st := s_World_add) l13 c13 k13),
    b_World_add := (Fun.binds (ps := ["self", "module"]) (fun_mk (st := s_World_add) l13 c13 k13) fun _ _ _ _ _ _ us hl => match us, hl with | [_, _], _ => rfl),
    f_World_names := f14,
    d_World_names := _,
    k_World_names := (fun_mk (st := s_World_names) l14 c14 k14),
    b_World_names := (Fun.binds (ps := ["self"]) (fun_mk (st := s_World_names) l14 c14 k14) fun _ _ _ _ _ _ us hl => match us, hl with | [_], _ => rfl),
    f_World_module := f15,
    d_World_module := _,
    k_World_module := (fun_mk (st := s_World_module) l15 c15 k15),
    b_World_module := (Fun.binds (ps := ["self", "name"]) (fun_mk (st := s_World_module) l15 c15 k15) fun _ _ _ _ _ _ us hl => match us, hl with | [_, _], _ => rfl),
    f_World_face := f16,
    d_World_face := _,
    k_World_face := (fun_mk (st := s_World_face) l16 c16 k16),
    b_World_face := (Fun.binds (ps := ["self", "package", "name"]) (fun_mk (st := s_World_face) l16 c16 k16) fun _ _ _ _ _ _ us hl => match us, hl with | [_, _, _], _ => rfl),
    f_World_count := f17,
    d_World_count := _,
    k_World_count := (fun_mk (st := s_World_count) l17 c17 k17),
    b_World_count := (Fun.binds (ps := ["self"]) (fun_mk (st := s_World_count) l17 c17 k17) fun _ _ _ _ _ _ us hl => match us, hl with | [_], _ => rfl),
    f_World_number := f18,
    d_World_number := _,
    k_World_number := (fun_mk (st := s_World_number) l18 c18 k18),
    b_World_number := (Fun.binds (ps := ["self", "package", "k"]) (fun_mk (st := s_World_number) l18 c18 k18) fun _ _ _ _ _ _ us hl => match us, hl with | [_, _, _], _ => rfl),
    f_World_package := f19,
    d_World_package := _,
    k_World_package := (fun_mk (st := s_World_package) l19 c19 k19),
    b_World_package := (Fun.binds (ps := ["self", "g"]) (fun_mk (st := s_World_package) l19 c19 k19) fun _ _ _ _ _ _ us hl => match us, hl with | [_, _], _ => rfl),
    f_World_own := f20,
    d_World_own := _,
    k_World_own := (fun_mk (st := s_World_own) l20 c20 k20),
    b_World_own := (Fun.binds (ps := ["self", "g"]) (fun_mk (st := s_World_own) l20 c20 k20) fun _ _ _ _ _ _ us hl => match us, hl with | [_, _], _ => rfl),
    f_World_fields := f21,
    d_World_fields := _,
    k_World_fields := (fun_mk (st := s_World_fields) l21 c21 k21),
    b_World_fields := (Fun.binds (ps := ["self", "g"]) (fun_mk (st := s_World_fields) l21 c21 k21) fun _ _ _ _ _ _ us hl => match us, hl with | [_, _], _ => rfl),
    f_World_method := f22,
    d_World_method := _,
    k_World_method := (fun_mk (st := s_World_method) l22 c22 k22),
    b_World_method := (Fun.binds (ps := ["self", "g", "row"]) (fun_mk (st := s_World_method) l22 c22 k22) fun _ _ _ _ _ _ us hl => match us, hl with | [_, _, _], _ => rfl),
    f_World_row := f23,
    d_World_row := _,
    k_World_row := (fun_mk (st := s_World_row) l23 c23 k23),
    b_World_row := (Fun.binds (ps := ["self", "g", "package", "face", "number"]) (fun_mk (st := s_World_row) l23 c23 k23) fun _ _ _ _ _ _ us hl => match us, hl with | [_, _, _, _, _], _ => rfl),
    f_World_is_kind := f24,
    d_World_is_kind := _,
    k_World_is_kind := (fun_mk (st := s_World_is_kind) l24 c24 k24),
    b_World_is_kind := (Fun.binds (ps := ["self", "g", "package", "kind"]) (fun_mk (st := s_World_is_kind) l24 c24 k24) fun _ _ _ _ _ _ us hl => match us, hl with | [_, _, _, _], _ => rfl),
    f_World_fits := f25,
    d_World_fits := _,
    k_World_fits := (fun_mk (st := s_World_fits) l25 c25 k25),
    b_World_fits := (Fun.binds (ps := ["self", "package", "one", "other"]) (fun_mk (st := s_World_fits) l25 c25 k25) fun _ _ _ _ _ _ us hl => match us, hl with | [_, _, _, _], _ => rfl),
    f_World_applet := f26,
    d_World_applet := _,
    k_World_applet := (fun_mk (st := s_World_applet) l26 c26 k26),
    b_World_applet := (Fun.binds (ps := ["self", "package", "name"]) (fun_mk (st := s_World_applet) l26 c26 k26) fun _ _ _ _ _ _ us hl => match us, hl with | [_, _, _], _ => rfl),
    f_World__row := f27,
    d_World__row := _,
    k_World__row := (fun_mk (st := s_World__row) l27 c27 k27),
    b_World__row := (Fun.binds (ps := ["self", "g"]) (fun_mk (st := s_World__row) l27 c27 k27) fun _ _ _ _ _ _ us hl => match us, hl with | [_, _], _ => rfl),
    f_law_bag := f28,
    d_law_bag := _,
    k_law_bag := (fun_mk (st := s_law_bag) l28 c28 k28),
    b_law_bag := (Fun.binds (ps := ["_law_script", "_law_k"]) (fun_mk (st := s_law_bag) l28 c28 k28) fun _ _ _ _ _ _ us hl => match us, hl with | [_, _], _ => rfl),
    g_law_bag := PySem.W.mg_of X G a28,
    f_law_draw := f29,
    d_law_draw := _,
    k_law_draw := (fun_mk (st := s_law_draw) l29 c29 k29),
    b_law_draw := (Fun.binds (ps := ["_law_bag_here", "_law_many"]) (fun_mk (st := s_law_draw) l29 c29 k29) fun _ _ _ _ _ _ us hl => match us, hl with | [_, _], _ => rfl),
    g_law_draw := PySem.W.mg_of X G a29,
    f_law_types := f30,
    d_law_types := _,
    k_law_types := (fun_mk (st := s_law_types) l30 c30 k30),
    b_law_types := (Fun.binds (ps := ["_law_bag_here", "_law_known_here", "_law_classes"]) (fun_mk (st := s_law_types) l30 c30 k30) fun _ _ _ _ _ _ us hl => match us, hl with | [_, _, _], _ => rfl),
    g_law_types := PySem.W.mg_of X G a30,
    f_law_head := f31,
    d_law_head := _,
    k_law_head := (fun_mk (st := s_law_head) l31 c31 k31),
    b_law_head := (Fun.binds (ps := ["_law_bag_here", "_law_name", "_law_known_here"]) (fun_mk (st := s_law_head) l31 c31 k31) fun _ _ _ _ _ _ us hl => match us, hl with | [_, _, _], _ => rfl),
    g_law_head := PySem.W.mg_of X G a31,
    f_law_method := f32,
    d_law_method := _,
    k_law_method := (fun_mk (st := s_law_method) l32 c32 k32),
    b_law_method := (Fun.binds (ps := ["_law_methods", "_law_k", "_law_head_here"]) (fun_mk (st := s_law_method) l32 c32 k32) fun _ _ _ _ _ _ us hl => match us, hl with | [_, _, _], _ => rfl),
    g_law_method := PySem.W.mg_of X G a32,
    f_law_table := f33,
    d_law_table := _,
    k_law_table := (fun_mk (st := s_law_table) l33 c33 k33),
    b_law_table := (Fun.binds (ps := ["_law_bag_here", "_law_k", "_law_parent", "_law_heads", "_law_methods", "_law_applet", "_law_known_here"]) (fun_mk (st := s_law_table) l33 c33 k33) fun _ _ _ _ _ _ us hl => match us, hl with | [_, _, _, _, _, _, _], _ => rfl),
    g_law_table := PySem.W.mg_of X G a33,
    f_law_heads_of := f34,
    d_law_heads_of := _,
    k_law_heads_of := (fun_mk (st := s_law_heads_of) l34 c34 k34),
    b_law_heads_of := (Fun.binds (ps := ["_law_faces_here", "_law_used", "_law_name", "_law_faces_named"]) (fun_mk (st := s_law_heads_of) l34 c34 k34) fun _ _ _ _ _ _ us hl => match us, hl with | [_, _, _, _], _ => rfl),
    g_law_heads_of := PySem.W.mg_of X G a34,
    f_law_module := f35,
    d_law_module := _,
    k_law_module := (fun_mk (st := s_law_module) l35 c35 k35),
    b_law_module := (Fun.binds (ps := ["_law_bag_here", "_law_name", "_law_version", "_law_uses", "_law_used"]) (fun_mk (st := s_law_module) l35 c35 k35) fun _ _ _ _ _ _ us hl => match us, hl with | [_, _, _, _, _], _ => rfl),
    g_law_module := PySem.W.mg_of X G a35,
    f_law_known := f36,
    d_law_known := _,
    k_law_known := (fun_mk (st := s_law_known) l36 c36 k36),
    b_law_known := (Fun.binds (ps := ["_law_modules_here", "_law_module_here"]) (fun_mk (st := s_law_known) l36 c36 k36) fun _ _ _ _ _ _ us hl => match us, hl with | [_, _], _ => rfl),
    g_law_known := PySem.W.mg_of X G a36,
    f_law_told := f37,
    d_law_told := _,
    k_law_told := (fun_mk (st := s_law_told) l37 c37 k37),
    b_law_told := (Fun.binds (ps := ["_law_world", "_law_modules_here"]) (fun_mk (st := s_law_told) l37 c37 k37) fun _ _ _ _ _ _ us hl => match us, hl with | [_, _], _ => rfl),
    g_law_told := PySem.W.mg_of X G a37,
    f_law_refused := f38,
    d_law_refused := _,
    k_law_refused := (fun_mk (st := s_law_refused) l38 c38 k38),
    b_law_refused := (Fun.binds (ps := ["_law_world", "_law_module_here"]) (fun_mk (st := s_law_refused) l38 c38 k38) fun _ _ _ _ _ _ us hl => match us, hl with | [_, _], _ => rfl),
    g_law_refused := PySem.W.mg_of X G a38,
    f_law_made := f39,
    d_law_made := _,
    k_law_made := (fun_mk (st := s_law_made) l39 c39 k39),
    b_law_made := (Fun.binds (ps := ["_law_modules_here", "_law_refused_here"]) (fun_mk (st := s_law_made) l39 c39 k39) fun _ _ _ _ _ _ us hl => match us, hl with | [_, _], _ => rfl),
    g_law_made := PySem.W.mg_of X G a39,
    f_law := fa,
    d_law := _,
    k_law := (fun_mk (st := s_law) l40 c40 k40),
    b_law := (Fun.binds (ps := ["_law_script"]) (fun_mk (st := s_law) l40 c40 k40) fun _ _ _ _ _ _ us hl => match us, hl with | [_], _ => rfl),
    g_law := PySem.W.mg_of X G a40,
    c_CardError := c_CardError,
    g_CardError := PySem.W.mg_of X G aC_CardError,
    c_BadLink := c_BadLink,
    g_BadLink := PySem.W.mg_of X G aC_BadLink,
    c_Draft := c_Draft,
    g_Draft := PySem.W.mg_of X G aC_Draft,
    c_World := c_World,
    g_World := PySem.W.mg_of X G aC_World,
    x_BadLink := ⟨w1x, w2kx, w3be, w4ty⟩,
    ex_BadLink_BadLink := exm_two w5eb w6ei w7et w8es,
    cl_Draft := ⟨w9pg, w10hd, w11po, w12sa⟩,
    mk_Draft := ⟨w13mk, w14in, w15fi, w16kc⟩,
    me_Draft_check := ⟨w17at, w18fn, w19km⟩,
    me_Draft__face := ⟨w20at, w21fn, w22km⟩,
    me_Draft__check_kinds := ⟨w23at, w24fn, w25km⟩,
    me_Draft__check_heads := ⟨w26at, w27fn, w28km⟩,
    me_Draft__check_faces := ⟨w29at, w30fn, w31km⟩,
    nf_Draft_world := w32na,
    nf_Draft_module := w33na,
    cl_World := ⟨w34pg, w35hd, w36po, w37sa⟩,
    mk_World := ⟨w38mk, w39in, w40fi, w41kc⟩,
    me_World_add := ⟨w42at, w43fn, w44km⟩,
    me_World_names := ⟨w45at, w46fn, w47km⟩,
    me_World_module := ⟨w48at, w49fn, w50km⟩,
    me_World_face := ⟨w51at, w52fn, w53km⟩,
    me_World_count := ⟨w54at, w55fn, w56km⟩,
    me_World_number := ⟨w57at, w58fn, w59km⟩,
    me_World_package := ⟨w60at, w61fn, w62km⟩,
    me_World_own := ⟨w63at, w64fn, w65km⟩,
    me_World_fields := ⟨w66at, w67fn, w68km⟩,
    me_World_method := ⟨w69at, w70fn, w71km⟩,
    me_World_row := ⟨w72at, w73fn, w74km⟩,
    me_World_is_kind := ⟨w75at, w76fn, w77km⟩,
    me_World_fits := ⟨w78at, w79fn, w80km⟩,
    me_World_applet := ⟨w81at, w82fn, w83km⟩,
    me_World__row := ⟨w84at, w85fn, w86km⟩,
    nf_World_modules := w87na,
    nf_World_classes := w88na,
    m_enumerate := PySem.W.mg_none_of X G z0,
    m_int := PySem.W.mg_none_of X G z1,
    m_len := PySem.W.mg_none_of X G z2,
    m_list := PySem.W.mg_none_of X G z3,
    m_range := PySem.W.mg_none_of X G z4,
    m_sorted := PySem.W.mg_none_of X G z5,
    m_str := PySem.W.mg_none_of X G z6,
    m_tuple := PySem.W.mg_none_of X G z7,
    a_INT := qa0,
    g_INT := PySem.W.mg_of X G y0,
    s_INT := fun H => .inr ⟨_, _, _, u0, rfl, rfl, by show 1 ≤ sizeLine; decide, (.cons ⟨_, rfl⟩ .nil)⟩,
    y_INT := ⟨_, u0, rfl⟩,
    a_BYTES := qa1,
    g_BYTES := PySem.W.mg_of X G y1,
    s_BYTES := fun H => .inr ⟨_, _, _, u1, rfl, rfl, by show 1 ≤ sizeLine; decide, (.cons ⟨_, rfl⟩ .nil)⟩,
    y_BYTES := ⟨_, u1, rfl⟩,
    a_NOTHING := qa2,
    g_NOTHING := PySem.W.mg_of X G y2,
    s_NOTHING := fun H => .inr ⟨_, _, _, u2, rfl, rfl, by show 1 ≤ sizeLine; decide, (.cons ⟨_, rfl⟩ .nil)⟩,
    y_NOTHING := ⟨_, u2, rfl⟩,
    a_NULL := qa3,
    g_NULL := PySem.W.mg_of X G y3,
    s_NULL := fun H => .inr ⟨_, _, _, u3, rfl, rfl, by show 1 ≤ sizeLine; decide, (.cons ⟨_, rfl⟩ .nil)⟩,
    y_NULL := ⟨_, u3, rfl⟩ }
  exact ⟨T.d_law, fun s v => .of_eq rfl, fun base _ _ => ok_law T⟩
end
end My
open PySem PySem.W PyProof.Rows
set_option maxHeartbeats 0 in
theorem PySem.Challenge.cw_warycard_k51_whole_order_of_adding_holds : PySem.Challenge.rw_warycard_k51_whole_order_of_adding.Holds := by
  w_on; o_law; k_head; (case hw => w_witness2)
  k_fill
  refine L2.walk_of (l := PySem.Challenge.rw_warycard_k51_whole_order_of_adding) (n := 63) (k := 9) (x := "_law_script") (CX := fun _ => L2.CX0) (sp := fun w => My.sp_law _) rfl (by decide) rfl ⟨rfl, by decide, by decide⟩ (fun w h Y => PySem.W.kIn_of Y) ?F (fun _ _ a ns hl _ hS => ⟨a, ns, rfl, hS, hl, fun _ => rfl⟩) (fun _ _ _ _ _ h => h)
  case F =>
    intro w mg fa h KX G hmg
    refine' My.all_mk KX G hmg ?a0 ?l0 ?c0 ?k0 ?a1 ?l1 ?c1 ?k1 ?a2 ?l2 ?c2 ?k2 ?a3 ?l3 ?c3 ?k3 ?a4 ?l4 ?c4 ?k4 ?a5 ?l5 ?c5 ?k5 ?l6 ?c6 ?k6 ?l7 ?c7 ?k7 ?l8 ?c8 ?k8 ?l9 ?c9 ?k9 ?l10 ?c10 ?k10 ?l11 ?c11 ?k11 ?l12 ?c12 ?k12 ?l13 ?c13 ?k13 ?l14 ?c14 ?k14 ?l15 ?c15 ?k15 ?l16 ?c16 ?k16 ?l17 ?c17 ?k17 ?l18 ?c18 ?k18 ?l19 ?c19 ?k19 ?l20 ?c20 ?k20 ?l21 ?c21 ?k21 ?l22 ?c22 ?k22 ?l23 ?c23 ?k23 ?l24 ?c24 ?k24 ?l25 ?c25 ?k25 ?l26 ?c26 ?k26 ?l27 ?c27 ?k27 ?a28 ?l28 ?c28 ?k28 ?a29 ?l29 ?c29 ?k29 ?a30 ?l30 ?c30 ?k30 ?a31 ?l31 ?c31 ?k31 ?a32 ?l32 ?c32 ?k32 ?a33 ?l33 ?c33 ?k33 ?a34 ?l34 ?c34 ?k34 ?a35 ?l35 ?c35 ?k35 ?a36 ?l36 ?c36 ?k36 ?a37 ?l37 ?c37 ?k37 ?a38 ?l38 ?c38 ?k38 ?a39 ?l39 ?c39 ?k39 ?a40 ?l40 ?c40 ?k40 ?aC_CardError ?aC_BadLink ?aC_Draft ?aC_World ?w1x ?w2kx ?w3be ?w4ty ?w5eb ?w6ei ?w7et ?w8es ?w9pg ?w10hd ?w11po ?w12sa ?w13mk ?w14in ?w15fi ?w16kc ?w17at ?w18fn ?w19km ?w20at ?w21fn ?w22km ?w23at ?w24fn ?w25km ?w26at ?w27fn ?w28km ?w29at ?w30fn ?w31km ?w32na ?w33na ?w34pg ?w35hd ?w36po ?w37sa ?w38mk ?w39in ?w40fi ?w41kc ?w42at ?w43fn ?w44km ?w45at ?w46fn ?w47km ?w48at ?w49fn ?w50km ?w51at ?w52fn ?w53km ?w54at ?w55fn ?w56km ?w57at ?w58fn ?w59km ?w60at ?w61fn ?w62km ?w63at ?w64fn ?w65km ?w66at ?w67fn ?w68km ?w69at ?w70fn ?w71km ?w72at ?w73fn ?w74km ?w75at ?w76fn ?w77km ?w78at ?w79fn ?w80km ?w81at ?w82fn ?w83km ?w84at ?w85fn ?w86km ?w87na ?w88na ?z0 ?z1 ?z2 ?z3 ?z4 ?z5 ?z6 ?z7 ?y0 ?u0 ?y1 ?u1 ?y2 ?u2 ?y3 ?u3
    (case a0 => k_is); (case a1 => k_is); (case a2 => k_is); (case a3 => k_is); (case a4 => k_is); (case a5 => k_is); (case a28 => k_is); (case a29 => k_is); (case a30 => k_is); (case a31 => k_is); (case a32 => k_is); (case a33 => k_is); (case a34 => k_is); (case a35 => k_is); (case a36 => k_is); (case a37 => k_is); (case a38 => k_is); (case a39 => k_is); (case a40 => k_is); (case aC_CardError => k_is); (case aC_BadLink => k_is); (case aC_Draft => k_is); (case aC_World => k_is); (case z0 => k_is); (case z1 => k_is); (case z2 => k_is); (case z3 => k_is); (case z4 => k_is); (case z5 => k_is); (case z6 => k_is); (case z7 => k_is); (case y0 => k_is); (case y1 => k_is); (case y2 => k_is); (case y3 => k_is); (case w14in => k_is); (case w17at => k_is); (case w20at => k_is); (case w23at => k_is); (case w26at => k_is); (case w29at => k_is); (case w39in => k_is); (case w42at => k_is); (case w45at => k_is); (case w48at => k_is); (case w51at => k_is); (case w54at => k_is); (case w57at => k_is); (case w60at => k_is); (case w63at => k_is); (case w66at => k_is); (case w69at => k_is); (case w72at => k_is); (case w75at => k_is); (case w78at => k_is); (case w81at => k_is); (case w84at => k_is); (case l0 => k_is); (case l1 => k_is); (case l2 => k_is); (case l3 => k_is); (case l4 => k_is); (case l5 => k_is); (case l6 => k_is); (case l7 => k_is); (case l8 => k_is); (case l9 => k_is); (case l10 => k_is); (case l11 => k_is); (case l12 => k_is); (case l13 => k_is); (case l14 => k_is); (case l15 => k_is); (case l16 => k_is); (case l17 => k_is); (case l18 => k_is); (case l19 => k_is); (case l20 => k_is); (case l21 => k_is); (case l22 => k_is); (case l23 => k_is); (case l24 => k_is); (case l25 => k_is); (case l26 => k_is); (case l27 => k_is); (case l28 => k_is); (case l29 => k_is); (case l30 => k_is); (case l31 => k_is); (case l32 => k_is); (case l33 => k_is); (case l34 => k_is); (case l35 => k_is); (case l36 => k_is); (case l37 => k_is); (case l38 => k_is); (case l39 => k_is); (case l40 => k_is); (case u0 => k_is); (case u1 => k_is); (case u2 => k_is); (case u3 => k_is); (case c0 => k_is); (case k0 => k_is); (case c1 => k_is); (case k1 => k_is); (case c2 => k_is); (case k2 => k_is); (case c3 => k_is); (case k3 => k_is); (case c4 => k_is); (case k4 => k_is); (case c5 => k_is); (case k5 => k_is); (case c6 => k_is); (case k6 => k_is); (case c7 => k_is); (case k7 => k_is); (case c8 => k_is); (case k8 => k_is); (case c9 => k_is); (case k9 => k_is); (case c10 => k_is); (case k10 => k_is); (case c11 => k_is); (case k11 => k_is); (case c12 => k_is); (case k12 => k_is); (case c13 => k_is); (case k13 => k_is); (case c14 => k_is); (case k14 => k_is); (case c15 => k_is); (case k15 => k_is); (case c16 => k_is); (case k16 => k_is); (case c17 => k_is); (case k17 => k_is); (case c18 => k_is); (case k18 => k_is); (case c19 => k_is); (case k19 => k_is); (case c20 => k_is); (case k20 => k_is); (case c21 => k_is); (case k21 => k_is); (case c22 => k_is); (case k22 => k_is); (case c23 => k_is); (case k23 => k_is); (case c24 => k_is); (case k24 => k_is); (case c25 => k_is); (case k25 => k_is); (case c26 => k_is); (case k26 => k_is); (case c27 => k_is); (case k27 => k_is); (case c28 => k_is); (case k28 => k_is); (case c29 => k_is); (case k29 => k_is); (case c30 => k_is); (case k30 => k_is); (case c31 => k_is); (case k31 => k_is); (case c32 => k_is); (case k32 => k_is); (case c33 => k_is); (case k33 => k_is); (case c34 => k_is); (case k34 => k_is); (case c35 => k_is); (case k35 => k_is); (case c36 => k_is); (case k36 => k_is); (case c37 => k_is); (case k37 => k_is); (case c38 => k_is); (case k38 => k_is); (case c39 => k_is); (case k39 => k_is); (case c40 => k_is); (case k40 => k_is); (case w1x => k_exc); (case w2kx => k_is); (case w3be => k_is); (case w4ty => k_is); (case w5eb => k_is); (case w6ei => k_is); (case w7et => k_is); (case w8es => first | rfl | k_is); (case w9pg => k_is); (case w10hd => k_is); (case w11po => k_is); (case w12sa => k_is); (case w13mk => k_is); (case w15fi => k_is); (case w16kc => k_is); (case w18fn => k_is); (case w19km => k_is); (case w21fn => k_is); (case w22km => k_is); (case w24fn => k_is); (case w25km => k_is); (case w27fn => k_is); (case w28km => k_is); (case w30fn => k_is); (case w31km => k_is); (case w32na => k_is); (case w33na => k_is); (case w34pg => k_is); (case w35hd => k_is); (case w36po => k_is); (case w37sa => k_is); (case w38mk => k_is); (case w40fi => k_is); (case w41kc => k_is); (case w43fn => k_is); (case w44km => k_is); (case w46fn => k_is); (case w47km => k_is); (case w49fn => k_is); (case w50km => k_is); (case w52fn => k_is); (case w53km => k_is); (case w55fn => k_is); (case w56km => k_is); (case w58fn => k_is); (case w59km => k_is); (case w61fn => k_is); (case w62km => k_is); (case w64fn => k_is); (case w65km => k_is); (case w67fn => k_is); (case w68km => k_is); (case w70fn => k_is); (case w71km => k_is); (case w73fn => k_is); (case w74km => k_is); (case w76fn => k_is); (case w77km => k_is); (case w79fn => k_is); (case w80km => k_is); (case w82fn => k_is); (case w83km => k_is); (case w85fn => k_is); (case w86km => k_is); (case w87na => k_is); (case w88na => k_is)
#print axioms PySem.Challenge.cw_warycard_k51_whole_order_of_adding_holds
