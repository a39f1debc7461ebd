import PyProof.Rows.All
import Wide.All
import OpenK.AllK
import Wide.FinOn
import HandS.ForMost
import HandS.Wide
import HandS.IsInst
import HandS.Walk
import HandS.Codes
import HandS.ForExc
import HandS.Style
import HandS.ExcInit
import HandS.ExcField
import KE.KIsAll
import HandS.ExcIs
import HandS.ExcValue
import HandS.ReplaceLit
import HandS.ReplaceList
import HandS.RevRange
import HandS.Conv
import HandS.Deep
import HandS.Text
import HandS.StrMore
import HandS.More
import PySem.Challenge.RW_warycard_k06_texts_that_cannot_be_split
set_option Elab.async false
set_option maxRecDepth 100000
set_option maxHeartbeats 4000000
namespace My
open PySem PySem.Spec PyProof.Rows L2
/-! ### readings -/
theorem OpR.imp' {X : Cx} {f : Value → Value → Sem Value} {r r' : R2} (h : OpR X f r) (i : ∀ x y H Q, r' x y H Q → r x y H Q) : OpR X f r' := fun pins s σ H x y u v Q I rx ry q => h pins s σ H x y u v Q I rx ry (i _ _ _ _ q)
theorem op_modP {X : Cx} : OpR X (binaryOp .Mod) (rI (fun _ j => 0 < j) fun i j => .int (i % j)) := OpR.imp' op_modN fun x y H Q ⟨i, j, e1, e2, hj, q⟩ => ⟨i, j, e1, e2, by have hj : 0 < j := hj; show j ≠ 0; omega, by
  have hj : 0 < j := hj
  have e : i.fmod j = i % j := Int.fmod_eq_emod_of_nonneg i (by omega)
  show Q (V.int (i.fmod j)) H
  rw [e]; exact q⟩
theorem rdSeq {t u : TS} {D : Ends} {σ : L2.St} {H : Hp} (h : t { D with nx := u D } σ H) : tSeq t u D σ H := h
/-- all that was tracked is kept but the list at a, which holds three ints -/
def Bag (H : Hp) (a : Addr) : Prop := ∃ x y z : Int, H a = some (.lst [.int x, .int y, .int z])
structure Mv (a : Addr) (H H' : Hp) : Prop where
  bag : Bag H' a
  old : ∀ b o, b ≠ a → H b = some o → H' b = some o
theorem Mv.refl {a : Addr} {H : Hp} (h : Bag H a) : Mv a H H := ⟨h, fun _ _ _ e => e⟩
theorem Mv.trans {a : Addr} {H H1 H2 : Hp} (h : Mv a H H1) (k : Mv a H1 H2) : Mv a H H2 := ⟨k.bag, fun b o n e => k.old b o n (h.old b o n e)⟩
theorem Mv.new {a p : Addr} {o : HO} {H H1 : Hp} (h : Mv a H H1) (n : H1 p = none) : Mv a H (upd H1 p o) := by
  obtain ⟨x, y, z, e⟩ := h.bag
  have ne : a ≠ p := fun q => by subst q; rw [n] at e; cases e
  exact ⟨⟨x, y, z, by rw [upd_ne ne]; exact e⟩, fun b u hb hu => by
    have := h.old b u hb hu
    rw [upd_ne (ne_of_none this n)]; exact this⟩
theorem Mv.ne {a p : Addr} {H H1 : Hp} (h : Mv a H H1) (n : H1 p = none) : p ≠ a := fun q => by
  obtain ⟨x, y, z, e⟩ := h.bag
  subst q; rw [n] at e; cases e
theorem Mv.free {a p : Addr} {H H1 : Hp} (h : Mv a H H1) (n : H1 p = none) : H p = none := by
  cases e : H p with
  | none => rfl
  | some o => rw [h.old p o (h.ne n) e] at n; cases n
theorem bag_ne {a p : Addr} {H : Hp} (h : Bag H a) (n : H p = none) : p ≠ a := fun q => by
  obtain ⟨x, y, z, e⟩ := h
  subst q; rw [n] at e; cases e
theorem sqL_of {K : PySem.W.Frag} {H : Hp} {a : Addr} {xs : List V} (h : H a = some (.lst xs)) : SqL K H a xs := .inl (.inl h)
theorem sqT_of {K : PySem.W.Frag} {H : Hp} {a : Addr} {xs : List V} (h : H a = some (.tup xs)) : SqT K H a xs := .inl (.inl h)
def rIntA : List V → Hp → VK → Prop := fun xs H Q => ∃ x, xs = [x] ∧ match x with
  | .int i => Q (.int i) H
  | .bl k => Q (.int (if k = true then 1 else 0)) H
  | _ => False
theorem call_intI {X : Cx} : CallR X (.type "int") rIntA := fun pins s σ H xs us Q I r ⟨x, e, q⟩ => by
  cases x with
  | int i => exact call_int1 pins s σ H xs us Q I r (.inl ⟨i, e, q⟩)
  | bl k => exact call_int1 pins s σ H xs us Q I r (.inr ⟨k, e, q⟩)
  | _ => exact False.elim q
/-- len of a list, of a tuple -/
def rLenL (K : PySem.W.Frag) : List V → Hp → VK → Prop := fun xs H Q => ∃ p ys, xs = [.ref p] ∧ SqL K H p ys ∧ Q (.int ys.length) H
def rLenT (K : PySem.W.Frag) : List V → Hp → VK → Prop := fun xs H Q => ∃ p ys, xs = [.ref p] ∧ SqT K H p ys ∧ Q (.int ys.length) H
theorem call_lenL {X : Cx} : CallR X (.builtin "len") (rLenL X.K) := fun pins s σ H xs us Q I r ⟨p, ys, e, h, q⟩ => call_len_seq pins s σ H xs us Q I r ⟨p, ys, e, .inl h, q⟩
theorem call_lenT {X : Cx} : CallR X (.builtin "len") (rLenT X.K) := fun pins s σ H xs us Q I r ⟨p, ys, e, h, q⟩ => call_len_seq pins s σ H xs us Q I r ⟨p, ys, e, .inr h, q⟩
theorem i_lenL {K : PySem.W.Frag} {H : Hp} {Q : VK} {p : Addr} {ys : List V} (h : SqL K H p ys) (q : Q (.int ys.length) H) : rLenL K [.ref p] H Q := ⟨p, ys, rfl, h, q⟩
theorem i_lenT {K : PySem.W.Frag} {H : Hp} {Q : VK} {p : Addr} {ys : List V} (h : SqT K H p ys) (q : Q (.int ys.length) H) : rLenT K [.ref p] H Q := ⟨p, ys, rfl, h, q⟩
theorem i_ixL {K : PySem.W.Frag} {H : Hp} {Q : VK} {p : Addr} {xs : List V} {i : Int} {v : V} (h : SqL K H p xs) (e : atI xs i = some v) (q : Q v H) : rIxL K (.ref p) (.int i) H Q := ⟨p, xs, i, v, rfl, rfl, h, e, q⟩
theorem i_ixT {K : PySem.W.Frag} {H : Hp} {Q : VK} {p : Addr} {xs : List V} {i : Int} {v : V} (h : SqT K H p xs) (e : atI xs i = some v) (q : Q v H) : rIxT K (.ref p) (.int i) H Q := ⟨p, xs, i, v, rfl, rfl, h, e, q⟩
theorem i_setL {H : Hp} {p : Addr} {xs : List V} {i : Int} {j : Nat} {v : V} {Q : Hp → Prop} (h : H p = some (.lst xs)) (e : ixN xs.length i = some j) (q : Q (upd H p (.lst (xs.set j v)))) : rSetL (.ref p) (.int i) v H Q := ⟨p, xs, i, j, rfl, rfl, h, e, q⟩
theorem i_lst {H : Hp} {xs : List V} {Q : VK} (hl : xs.length ≤ sizeLine) (q : ∀ p, H p = none → Q (.ref p) (upd H p (.lst xs))) : xs.length ≤ sizeLine ∧ ∀ p, H p = none → Q (.ref p) (upd H p (.lst xs)) := ⟨hl, q⟩
/-- an item at a drawn place of a written list -/
theorem at_of {α : Type} {xs : List α} {i : Int} (h0 : 0 ≤ i) (h1 : i < xs.length) : ∃ v, atI xs i = some v ∧ v ∈ xs := by
  obtain ⟨j, rfl⟩ := Int.eq_ofNat_of_zero_le h0
  have hi : j < xs.length := by omega
  exact ⟨xs[j], atI_nat (List.getElem?_eq_getElem hi), List.getElem_mem hi⟩
theorem pow18 : CPow 10 18 := ⟨by decide, by decide, by decide⟩
theorem cm_r {i j : Int} (h : decide (-(2 ^ 64) < j) && decide (j < 2 ^ 64) = true) : CMul i j := by
  simp only [Bool.and_eq_true, decide_eq_true_eq] at h
  exact .inr h
theorem cm_l {i j : Int} (h : decide (-(2 ^ 64) < i) && decide (i < 2 ^ 64) = true) : CMul i j := by
  simp only [Bool.and_eq_true, decide_eq_true_eq] at h
  exact .inl h
theorem i_isi {K : PySem.W.Frag} {H : Hp} {Q : VK} {x : V} {t c : String} {b : Bool} (ty : TyX K H x (.type t)) (hk : kitB t c = some b) (q : Q (.bl b) H) : rIsi K [x, .ty c] H Q := ⟨x, .ty c, .type t, .type c, b, rfl, .ty c, ty, kit_ty hk, q⟩
theorem ty_int {K : PySem.W.Frag} {H : Hp} {i : Int} : TyX K H (.int i) (.type "int") := .base (.int _)
theorem ty_bl {K : PySem.W.Frag} {H : Hp} {i : Bool} : TyX K H (.bl i) (.type "bool") := .base (.bl _)
theorem ty_str {K : PySem.W.Frag} {H : Hp} {i : Str} : TyX K H (.str i) (.type "str") := .base (.str _)
theorem ty_non {K : PySem.W.Frag} {H : Hp} : TyX K H .non (.type "NoneType") := .base .non
theorem kb_ii : kitB "int" "int" = some true := by decide +kernel
theorem kb_bi : kitB "bool" "int" = some true := by decide +kernel
theorem kb_ib : kitB "int" "bool" = some false := by decide +kernel
theorem kb_bb : kitB "bool" "bool" = some true := by decide +kernel
theorem pow17 : CPow 10 17 := ⟨by decide, by decide, by decide⟩
/-- for over range(n) -/
def rForR (lo : Int) (n : Nat) (g : TG) (tb : TS) : TS := fun D σ H => ∃ W : Nat → Nat → L2.St → Hp → Prop, (∃ m, W 0 m σ H) ∧ ∀ i m σ H, W i m σ H →
  ((Itr lo n).stop i H ∧ D.nx σ H) ∨ ((Itr lo n).go i H ∧ ∃ Nx : L2.St → Hp → Prop, (∀ σ' H', Nx σ' H' → ∃ m', m' < m ∧ W (i + 1) m' σ' H') ∧ ∀ x H', (Itr lo n).yld i H x H' → g x σ H' fun σ2 H2 => tb { D with nx := Nx, ct := Nx, bk := D.nx } σ2 H2)
theorem i_forR1 {ta : TA} {g : TG} {tb : TS} {D : Ends} {σ : L2.St} {H : Hp} (h : ta σ H fun vs H1 => ∃ j : Int, vs = [.int j] ∧ -(2 ^ 62) ≤ j ∧ j < 2 ^ 62 ∧ rForR 0 j.toNat g tb D σ H1) : tFor (iRng1 ta) g tb D σ H := h
theorem i_forR2 {ta : TA} {g : TG} {tb : TS} {D : Ends} {σ : L2.St} {H : Hp} (h : ta σ H fun vs H1 => ∃ i j : Int, vs = [.int i, .int j] ∧ (-(2 ^ 62) ≤ i ∧ i < 2 ^ 62 ∧ -(2 ^ 62) ≤ j ∧ j < 2 ^ 62) ∧ rForR i (j - i).toNat g tb D σ H1) : tFor (iRng2 ta) g tb D σ H := h
theorem i_loopR {lo : Int} {n : Nat} {j : Nat} {tb : TS} {D : Ends} {σ : L2.St} {H : Hp} (Pv : Nat → L2.St → Hp → Prop) (h0 : Pv 0 σ H)
    (hs : ∀ (i : Nat) σ H, i < n → Pv i σ H → tb { D with nx := Pv (i + 1), ct := Pv (i + 1), bk := D.nx } (σ.set j (some (.int (lo + i)))) H) (hd : ∀ σ H, Pv n σ H → D.nx σ H) : rForR lo n (gName j) tb D σ H := for_range Pv h0 hs hd
theorem i_else {c A B : Prop} [Decidable c] (h : ¬ c) (b : B) : if c then A else B := by rw [if_neg h]; exact b
theorem i_then {c A B : Prop} [Decidable c] (h : c) (a : A) : if c then A else B := by rw [if_pos h]; exact a
/-- two ways that meet -/
theorem i_both {c A B T : Prop} [Decidable c] (t : T) (h1 : c → T → A) (h2 : ¬ c → T → B) : if c then A else B := ite2 (fun h => h1 h t) (fun h => h2 h t)
theorem ty_tup {K : PySem.W.Frag} {H : Hp} {p : Addr} {xs : List V} (h : H p = some (.tup xs)) : TyX K H (.ref p) (.type "tuple") := .base (.tup h)
theorem ty_lst {K : PySem.W.Frag} {H : Hp} {p : Addr} {xs : List V} (h : H p = some (.lst xs)) : TyX K H (.ref p) (.type "list") := .base (.lst h)
theorem kb_ni : kitB "NoneType" "int" = some false := by decide +kernel
theorem kb_si : kitB "str" "int" = some false := by decide +kernel
theorem kb_li : kitB "list" "int" = some false := by decide +kernel
theorem kb_ti : kitB "tuple" "int" = some false := by decide +kernel
theorem kb_di : kitB "dict" "int" = some false := by decide +kernel
/-! ### loops by what is walked -/
def rForJ (J : It) (g : TG) (tb : TS) : TS := fun D σ H => ∃ W : Nat → Nat → L2.St → Hp → Prop, (∃ m, W 0 m σ H) ∧ ∀ i m σ H, W i m σ H →
  (J.stop i H ∧ D.nx σ H) ∨ (J.go i H ∧ ∃ Nx : L2.St → Hp → Prop, (∀ σ' H', Nx σ' H' → ∃ m', m' < m ∧ W (i + 1) m' σ' H') ∧ ∀ x H', J.yld i H x H' → g x σ H' fun σ2 H2 => tb { D with nx := Nx, ct := Nx, bk := D.nx } σ2 H2)
theorem tFor_J {wi : TI} {g : TG} {tb : TS} {D : Ends} {σ : L2.St} {H : Hp} : tFor wi g tb D σ H = wi σ H fun J H1 => rForJ J g tb D σ H1 := rfl
def rLcJ (J : It) (g : TG) (tt : TT) (te : TE) (vs : List Nat) : TE := fun σ H1 Q => ∀ D, H1 D = none → ∃ W : Nat → Nat → Hp → Prop, (∃ m, W 0 m (upd H1 D (.lst []))) ∧ ∀ i m H, W i m H →
  (J.stop i H ∧ Q (.ref D) H) ∨ (J.go i H ∧ ∃ Nx : Hp → Prop, (∀ H', Nx H' → ∃ m', m' < m ∧ W (i + 1) m' H') ∧ ∀ x H', J.yld i H x H' → g x (wipe σ vs) H' fun σ2 H2 => wipe σ2 vs = wipe σ vs ∧ tt σ2 H2 fun b H3 =>
    if b = true then te σ2 H3 fun y H4 => ∃ acc, H4 D = some (.lst acc) ∧ acc.length < sizeLine ∧ Nx (upd H4 D (.lst (acc ++ [y]))) else Nx H3)
theorem tLc_J {wi : TI} {g : TG} {tt : TT} {te : TE} {vs : List Nat} {σ : L2.St} {H : Hp} {Q : VK} : tLc wi g tt te vs σ H Q = wi σ H fun J H1 => rLcJ J g tt te vs σ H1 Q := rfl
theorem i_for {J : It} {n : Nat} {G : Hp → Prop} {Y : Nat → Hp → V → Hp → Prop} (w : Walk J n G Y) {j : Nat} {tb : TS} {D : Ends} {σ : L2.St} {H : Hp} (Pv : Nat → L2.St → Hp → Prop) (h0 : Pv 0 σ H) (hG : ∀ i σ H, i ≤ n → Pv i σ H → G H)
    (hs : ∀ i x σ H H', i < n → Pv i σ H → Y i H x H' → tb { D with nx := Pv (i + 1), ct := Pv (i + 1), bk := D.nx } (σ.set j (some x)) H') (hd : ∀ σ H, Pv n σ H → D.nx σ H) : rForJ J (gName j) tb D σ H := for_it w Pv h0 hG hs hd
theorem wipe_one {σ : L2.St} {j : Nat} {x : V} : wipe ((wipe σ [j]).set j (some x)) [j] = wipe σ [j] := by
  show ((σ.set j none).set j (some x)).set j none = σ.set j none
  rw [List.set_set, List.set_set]
def YL {α : Type} (l : List α) (r : α → V) : Nat → Hp → V → Hp → Prop := fun i H v H' => H' = H ∧ ∃ c, l[i]? = some c ∧ v = r c
/-- [e for x in ..], e without an effect -/
theorem i_lcL {α : Type} {J : It} {l : List α} {r : α → V} {G : Hp → Prop} (w : Walk J l.length G (YL l r)) {j : Nat} {te : TE} {σ : L2.St} {H : Hp} {Q : VK} (g : α → V) (hn : l.length < sizeLine) (hG : ∀ D ys, H D = none → G (upd H D (.lst ys)))
    (hs : ∀ c ∈ l, ∀ H1 (Q' : VK), Same H H1 → Q' (g c) H1 → te ((wipe σ [j]).set j (some (r c))) H1 Q') (q : ∀ D, H D = none → Q (.ref D) (upd H D (.lst (l.map g)))) : rLcJ J (gName j) tYes te [j] σ H Q := by
  intro D hD
  refine lc_it w (fun i H' => H' = upd H D (.lst ((l.take i).map g))) rfl (fun i H' _ e => by subst e; exact hG D _ hD) (fun i x H1 H2 hi e y => ?_) (fun H' e => by subst e; rw [List.take_length]; exact q D hD)
  obtain ⟨e2, c, hc, rfl⟩ := y
  subst e2
  refine ⟨wipe_one, hs c (List.mem_of_getElem? hc) H2 (fun y H4 => ∃ acc, H4 D = some (.lst acc) ∧ acc.length < sizeLine ∧ upd H4 D (.lst (acc ++ [y])) = upd H D (.lst ((l.take (i + 1)).map g))) (by subst e; intro b o h; rw [upd_ne (ne_of_none h hD)]; exact h) ?_⟩
  subst e
  refine ⟨_, upd_same, by rw [List.length_map, List.length_take]; omega, ?_⟩
  rw [upd_upd, List.take_add_one, hc, List.map_append]; rfl
/-- for x in ..: if not p: return False -/
theorem i_forall {α : Type} {J : It} {l : List α} {r : α → V} {G : Hp → Prop} (w : Walk J l.length G (YL l r)) {j : Nat} {tb : TS} {D : Ends} {σ : L2.St} {H : Hp} (p : α → Bool) (v : V) (hG : G H)
    (hs : ∀ c ∈ l, ∀ D' : Ends, (p c = true → D'.nx (σ.set j (some (r c))) H) → (p c = false → D'.rt v H) → tb D' (σ.set j (some (r c))) H) (h1 : l.all p = true → D.nx σ H ∧ ∀ u, D.nx (σ.set j u) H) (h2 : l.all p = false → D.rt v H) : rForJ J (gName j) tb D σ H := by
  refine i_for w (fun i σ' H' => H' = H ∧ (σ' = σ ∨ ∃ u, σ' = σ.set j u) ∧ ∀ c ∈ l.take i, p c = true) ⟨rfl, .inl rfl, by simp⟩ (fun i σ' H' _ h => by rw [h.1]; exact hG) ?_ ?_
  · rintro i x σ' H' H2 hi ⟨rfl, hσ, hp⟩ ⟨rfl, c, hc, rfl⟩
    have hm := List.mem_of_getElem? hc
    have es : σ'.set j (some (r c)) = σ.set j (some (r c)) := by
      rcases hσ with rfl | ⟨u, rfl⟩
      · rfl
      · rw [List.set_set]
    rw [es]
    refine hs c hm _ (fun hpc => ⟨rfl, .inr ⟨_, rfl⟩, fun d hd => ?_⟩) (fun hpc => h2 ?_)
    · rw [List.take_add_one, hc] at hd
      rcases List.mem_append.mp hd with h | h
      · exact hp d h
      · rw [List.mem_singleton.mp h]; exact hpc
    · rw [List.all_eq_false]
      exact ⟨c, hm, by rw [hpc]; simp⟩
  · rintro σ' H' ⟨rfl, hσ, hp⟩
    rw [List.take_length] at hp
    have h := h1 (List.all_eq_true.mpr hp)
    rcases hσ with rfl | ⟨u, rfl⟩
    · exact h.1
    · exact h.2 u
/-- [e for x in ..], e draws from the bag at a -/
theorem i_lcD {J : It} {n : Nat} {G : Hp → Prop} {Y : Nat → Hp → V → Hp → Prop} (w : Walk J n G Y) {a : Addr} {j : Nat} {te : TE} {σ : L2.St} {H : Hp} {Q : VK} (hB : Bag H a) (P : V → Prop) (hn : n < sizeLine) (hG : ∀ H', Mv a H H' → G H') (hY : ∀ i H x H', Y i H x H' → H' = H)
    (hs : ∀ i x H1 (Q' : VK), i < n → Y i H1 x H1 → Mv a H H1 → (∀ y H2, P y → Mv a H1 H2 → Q' y H2) → te ((wipe σ [j]).set j (some x)) H1 Q') (q : ∀ D H' ys, H D = none → Mv a H H' → H' D = some (.lst ys) → ys.length = n → (∀ y ∈ ys, P y) → Q (.ref D) H') : rLcJ J (gName j) tYes te [j] σ H Q := by
  intro D hD
  have nD := bag_ne hB hD
  refine lc_it w (fun i H' => Mv a H H' ∧ ∃ ys, H' D = some (.lst ys) ∧ ys.length = i ∧ ∀ y ∈ ys, P y) ⟨(Mv.refl hB).new hD, [], upd_same, rfl, fun _ h => nomatch h⟩ (fun i H' _ e => hG H' e.1) (fun i x H1 H2 hi e y => ?_) (fun H' e => ?_)
  · have e2 := hY i H1 x H2 y
    subst e2
    obtain ⟨mv, ys, e1, e2, e3⟩ := e
    refine ⟨wipe_one, hs i x H2 (fun y H4 => ∃ acc, H4 D = some (.lst acc) ∧ acc.length < sizeLine ∧ (Mv a H (upd H4 D (.lst (acc ++ [y]))) ∧ ∃ ys, upd H4 D (.lst (acc ++ [y])) D = some (.lst ys) ∧ ys.length = i + 1 ∧ ∀ y ∈ ys, P y)) hi y mv fun v H3 hv mv3 => ?_⟩
    refine ⟨ys, mv3.old D _ nD e1, by omega, ?_⟩
    have m3 := mv.trans mv3
    refine ⟨⟨?_, fun b o hb e => ?_⟩, ys ++ [v], upd_same, by simp [e2], fun y hy => ?_⟩
    · obtain ⟨x1, x2, x3, hx⟩ := m3.bag
      exact ⟨x1, x2, x3, by rw [upd_ne nD.symm]; exact hx⟩
    · rw [upd_ne (ne_of_none e hD)]; exact m3.old b o hb e
    · rcases List.mem_append.mp hy with h | h
      · exact e3 y h
      · rw [List.mem_singleton.mp h]; exact hv
  · obtain ⟨mv, ys, e1, e2, e3⟩ := e
    exact q D H' ys hD mv e1 e2 e3
theorem rdCut {t u : TS} {D : Ends} {σ : L2.St} {H : Hp} (Mid : L2.St → Hp → Prop) (h : t { D with nx := Mid } σ H) (k : ∀ σ' H', Mid σ' H' → u D σ' H') : C8.tCut t u D σ H := ⟨Mid, h, k⟩
theorem pow9 : CPow 10 9 := ⟨by decide, by decide, by decide⟩
theorem pow8 : CPow 10 8 := ⟨by decide, by decide, by decide⟩
theorem pow12 : CPow 10 12 := ⟨by decide, by decide, by decide⟩
theorem walk_rangeL {lo : Int} {n : Nat} : Walk (Itr lo n) (List.range n).length (fun _ => True) (YL (List.range n) fun i => .int (lo + i)) := by
  rw [List.length_range]
  exact walk_range.mono (fun _ h => h) fun i H x H' hi _ y => ⟨y.1, i, by rw [List.getElem?_range hi], y.2⟩
theorem i_app {H : Hp} {l : Addr} {xs : List V} {v : V} {Q : VK} (h : H l = some (.lst xs)) (hz : xs.length < sizeLine) (q : Q .non (upd H l (.lst (xs ++ [v])))) : rAppend (.ref l) [v] H Q := ⟨l, xs, v, rfl, rfl, h, hz, q⟩
theorem ty_app {K : PySem.W.Frag} {H : Hp} {l : Addr} {xs : List V} (h : SqL K H l xs) : tyV K "list" (.ref l) H := .inl ⟨rfl, xs, h⟩
theorem i_slL {K : PySem.W.Frag} {H : Hp} {a : Addr} {xs : List V} {lo hi : Option Int} {Q : VK} (h : SqL K H a xs) (q : ∀ p, H p = none → Q (.ref p) (upd H p (.lst (cutV xs lo hi)))) : rSlL K (.ref a) lo hi H Q := ⟨a, xs, rfl, h, q⟩
theorem i_cat {H : Hp} {l b : Addr} {xs zs : List V} {Q : VK} (h1 : H l = some (.lst xs)) (h2 : H b = some (.lst zs)) (hz : xs.length + zs.length ≤ sizeLine) (q : ∀ p, H p = none → Q (.ref p) (upd H p (.lst (xs ++ zs)))) : rCat (.ref l) (.ref b) H Q := ⟨l, b, xs, zs, rfl, rfl, h1, h2, hz, q⟩
theorem i_inL {K : PySem.W.Frag} {neg : Bool} {x : V} {H : Hp} {p : Addr} {xs : List V} {Q : VK} (h : SqL K H p xs ∨ SqT K H p xs) (h1 : flatV x = true) (h2 : xs.all flatV = true) (q : Q (.bl (if neg then !inV x xs else inV x xs)) H) : rIn K neg x (.ref p) H Q := ⟨p, xs, rfl, h, h1, h2, q⟩
theorem cut_take {xs : List V} {n : Nat} : cutV xs none (some (n : Int)) = xs.take n := by
  unfold cutV
  rw [HT.sIx_none, HT.sIx_nat]
  simp only [List.drop_zero, Nat.sub_zero]
  rw [Nat.min_comm, ← List.take_take, List.take_of_length_le (by rw [List.length_take]; omega)]
theorem cut_drop {xs : List V} {n : Nat} : cutV xs (some (n : Int)) none = xs.drop n := by
  unfold cutV
  rw [HT.sIx_none, HT.sIx_nat]
  by_cases h : n ≤ xs.length
  · rw [Nat.min_eq_left h, List.take_of_length_le (by rw [List.length_drop]; omega)]
  · rw [Nat.min_eq_right (by omega), List.drop_of_length_le (by omega), List.drop_of_length_le (by omega)]; simp
theorem line5 {n : Nat} (h : n ≤ 100000) : n ≤ sizeLine := Nat.le_trans h (by decide)
theorem line5' {n : Nat} (h : n ≤ 100000) : n < sizeLine := Nat.lt_of_le_of_lt h (by decide)
/-! ### the same rules with the written part named (for a comprehension's block) -/
theorem ix_listK (K : PySem.W.Frag) {X : Cx} (h : X.K = K := by rfl) : IxR X (rIxL K) := h ▸ ix_list
theorem ix_tupK (K : PySem.W.Frag) {X : Cx} (h : X.K = K := by rfl) : IxR X (rIxT K) := h ▸ ix_tup
theorem sl_listK (K : PySem.W.Frag) {X : Cx} (h : X.K = K := by rfl) : SlR X (rSlL K) := h ▸ sl_list
theorem sl_tupK (K : PySem.W.Frag) {X : Cx} (h : X.K = K := by rfl) : SlR X (rSlT K) := h ▸ sl_tup
theorem lenLK (K : PySem.W.Frag) {X : Cx} (h : X.K = K := by rfl) : CallR X (.builtin "len") (rLenL K) := h ▸ call_lenL
theorem lenTK (K : PySem.W.Frag) {X : Cx} (h : X.K = K := by rfl) : CallR X (.builtin "len") (rLenT K) := h ▸ call_lenT
theorem isiK (K : PySem.W.Frag) {X : Cx} (h : X.K = K := by rfl) : CallR X (.builtin "isinstance") (rIsi K) := h ▸ call_isi
theorem isiTK (K : PySem.W.Frag) {X : Cx} (h : X.K = K := by rfl) : CallR X (.builtin "isinstance") (rIsiT K) := h ▸ call_isiT
theorem in_seqK (K : PySem.W.Frag) {X : Cx} (h : X.K = K := by rfl) : OpR X (compareOp .In) (rIn K false) := h ▸ op_in_seq
theorem notIn_seqK (K : PySem.W.Frag) {X : Cx} (h : X.K = K := by rfl) : OpR X (compareOp .NotIn) (rIn K true) := h ▸ op_notIn_seq
theorem i_indexS {K : PySem.W.Frag} {H : Hp} {Q : VK} {p : Addr} {l : List Str} {s : Str} {j : Nat} (h : SqL K H p (l.map V.str)) (hj : l[j]? = some s) (hn : s ∉ l.take j) (q : Q (.int (j : Nat)) H) : rIndex K (.ref p) [.str s] H Q := by
  refine ⟨p, _, .str s, j, .str s, rfl, rfl, h, rfl, ?_, by rw [List.getElem?_map, hj]; rfl, by simp [eqV], ?_, q⟩
  · rw [List.all_map, List.all_eq_true]; intro x _; rfl
  · intro m z hm hz
    rw [List.getElem?_map] at hz
    cases e : l[m]? with
    | none => rw [e] at hz; cases hz
    | some t =>
      rw [e] at hz
      have hz : V.str t = z := Option.some.inj hz
      subst hz
      show (t == s) = false
      rw [beq_eq_false_iff_ne]
      intro et; subst et
      exact hn (List.mem_of_getElem? (by rw [List.getElem?_take_of_lt hm]; exact e))
theorem walk_listL {K : PySem.W.Frag} {a : Addr} {α : Type} {l : List α} {r : α → V} : Walk (Itl K a) l.length (fun H => SqL K H a (l.map r)) (YL l r) := by
  have w := walk_list (K := K) (a := a) (xs := l.map r)
  rw [List.length_map] at w
  exact w.mono (fun _ h => h) fun i H x H' hi _ y => ⟨y.1, l[i], List.getElem?_eq_getElem hi, by
    have := y.2
    rw [List.getElem?_map, List.getElem?_eq_getElem hi] at this
    exact (Option.some.inj this).symm⟩
theorem walk_tupL {K : PySem.W.Frag} {a : Addr} {α : Type} {l : List α} {r : α → V} : Walk (Itt K a) l.length (fun H => SqT K H a (l.map r)) (YL l r) := by
  have w := walk_tup (K := K) (a := a) (xs := l.map r)
  rw [List.length_map] at w
  exact w.mono (fun _ h => h) fun i H x H' hi _ y => ⟨y.1, l[i], List.getElem?_eq_getElem hi, by
    have := y.2
    rw [List.getElem?_map, List.getElem?_eq_getElem hi] at this
    exact (Option.some.inj this).symm⟩
theorem dpStrs {K : PySem.W.Frag} {H : Hp} : ∀ l : List Str, DpAll K H (l.map V.str) (l.map PyData.str)
  | [] => .nil
  | x :: l => .cons (.str x) (dpStrs l)
theorem dpInts {K : PySem.W.Frag} {H : Hp} : ∀ l : List Int, DpAll K H (l.map V.int) (l.map PyData.int)
  | [] => .nil
  | x :: l => .cons (.int x) (dpInts l)
theorem kb_tt : kitB "tuple" "tuple" = some true := by decide +kernel
theorem pow15 : CPow 10 15 := ⟨by decide, by decide, by decide⟩
theorem sc_ii {a b : Int} : scal (.int a) (.int b) = true := rfl
theorem sc_ss {a b : Str} : scal (.str a) (.str b) = true := rfl
theorem sc_bb {a b : Bool} : scal (.bl a) (.bl b) = true := rfl
theorem sc_in {a : Int} : scal (.int a) .non = true := rfl
theorem sc_ni {a : Int} : scal .non (.int a) = true := rfl
theorem sc_nn : scal .non .non = true := rfl
theorem sc_is {a : Int} {b : Str} : scal (.int a) (.str b) = true := rfl
theorem sc_si {a : Int} {b : Str} : scal (.str b) (.int a) = true := rfl
theorem sc_ns {b : Str} : scal .non (.str b) = true := rfl
theorem sc_sn {b : Str} : scal (.str b) .non = true := rfl
theorem sc_bn {b : Bool} : scal (.bl b) .non = true := rfl
theorem sc_nb {b : Bool} : scal .non (.bl b) = true := rfl
theorem sc_sb {b : Bool} {a : Str} : scal (.str a) (.bl b) = true := rfl
theorem sc_bs {b : Bool} {a : Str} : scal (.bl b) (.str a) = true := rfl
/-- a new list at p, all else kept -/
structure NewL (H H' : Hp) (p : Addr) (xs : List V) : Prop where
  free : H p = none
  same : Same H H'
  at_ : H' p = some (.lst xs)
theorem NewL.sq {K : PySem.W.Frag} {H H' : Hp} {p : Addr} {xs : List V} (n : NewL H H' p xs) : SqL K H' p xs := sqL_of n.at_
theorem NewL.set {H H' : Hp} {p : Addr} {xs ys : List V} (n : NewL H H' p xs) : NewL H (upd H' p (.lst ys)) p ys := ⟨n.free, fun b o e => by rw [upd_ne (ne_of_none e n.free)]; exact n.same b o e, upd_same⟩
theorem NewL.more {H H' H2 : Hp} {p : Addr} {xs : List V} (n : NewL H H' p xs) (s : Same H' H2) : NewL H H2 p xs := ⟨n.free, n.same.trans s, s _ _ n.at_⟩
theorem same_new {H : Hp} {p : Addr} {o : HO} (n : H p = none) : Same H (upd H p o) := fun b u e => by rw [upd_ne (ne_of_none e n)]; exact e
theorem cut_all {xs : List V} : cutV xs (some 0) none = xs := cut_drop (n := 0)
theorem pow14 : CPow 10 14 := ⟨by decide, by decide, by decide⟩
theorem ixN_of {n j : Nat} (h : j < n) : ixN n (j : Int) = some j := by
  unfold ixN
  rw [if_pos (by omega), if_pos (by omega)]; simp

/-! ### texts -/
def chr1 (c : Nat) : Str := ⟨#[c]⟩
def rLeC : R2 := fun x y H Q => ∃ c d, x = .str ⟨#[c]⟩ ∧ y = .str ⟨#[d]⟩ ∧ Q (.bl (decide (c ≤ d))) H
theorem op_leC {X : Cx} : OpR X (compareOp .LtE) rLeC := OpR.imp' op_le_str fun x y H Q ⟨c, d, e1, e2, q⟩ => ⟨⟨#[c]⟩, ⟨#[d]⟩, e1, e2, by
  have e : (!decide ((⟨#[d]⟩ : Str).cps.toList < (⟨#[c]⟩ : Str).cps.toList)) = decide (c ≤ d) := by
    show (!decide ([d] < [c])) = decide (c ≤ d)
    have h : ([d] < [c]) ↔ d < c := by
      rw [List.cons_lt_cons_iff]
      constructor
      · rintro (h | ⟨_, h⟩)
        · exact h
        · exact absurd h (by simp)
      · exact fun h => .inl h
    by_cases hc : c ≤ d
    · have : ¬ ([d] < [c]) := fun k => by have := h.mp k; omega
      rw [decide_eq_true hc, decide_eq_false this]; rfl
    · have : [d] < [c] := h.mpr (by omega)
      rw [decide_eq_false hc, decide_eq_true this]; rfl
  show Q (V.bl _) H
  rw [e]; exact q⟩
theorem i_leC {x y : V} {c d : Nat} {H : Hp} {Q : VK} (e1 : x = .str ⟨#[c]⟩) (e2 : y = .str ⟨#[d]⟩) (q : Q (.bl (decide (c ≤ d))) H) : rLeC x y H Q := ⟨c, d, e1, e2, q⟩
def rOrdC : List V → Hp → VK → Prop := fun xs H Q => ∃ c : Nat, xs = [.str ⟨#[c]⟩] ∧ Q (.int c) H
theorem call_ordC {X : Cx} : CallR X (.builtin "ord") rOrdC := fun pins s σ H xs us Q I r ⟨c, e, q⟩ => call_ord pins s σ H xs us Q I r ⟨⟨#[c]⟩, e, rfl, q⟩
theorem i_ordC {x : V} {c : Nat} {H : Hp} {Q : VK} (e1 : x = .str ⟨#[c]⟩) (q : Q (.int c) H) : rOrdC [x] H Q := ⟨c, by rw [e1], q⟩
def rInC (neg : Bool) : R2 := fun x y H Q => ∃ (c : Nat) (z : Str), x = .str ⟨#[c]⟩ ∧ y = .str z ∧ Q (.bl (if neg then !decide (c ∈ z.cps.toList) else decide (c ∈ z.cps.toList))) H
theorem op_inC {X : Cx} : OpR X (compareOp .In) (rInC false) := op_in_sign
theorem op_notInC {X : Cx} : OpR X (compareOp .NotIn) (rInC true) := op_notIn_sign
theorem i_inC {x y : V} {neg : Bool} {c : Nat} {z : Str} {H : Hp} {Q : VK} (e1 : x = .str ⟨#[c]⟩) (e2 : y = .str z) (q : Q (.bl (if neg then !decide (c ∈ z.cps.toList) else decide (c ∈ z.cps.toList))) H) : rInC neg x y H Q := ⟨c, z, e1, e2, q⟩
def rLenS' : List V → Hp → VK → Prop := fun xs H Q => ∃ z : Str, xs = [.str z] ∧ z.length ≤ sizeLine ∧ Q (.int z.length) H
theorem call_lenS {X : Cx} : CallR X (.builtin "len") rLenS' := call_len_str
theorem i_lenS {x : V} {z : Str} {H : Hp} {Q : VK} (e1 : x = .str z) (hz : z.length ≤ sizeLine) (q : Q (.int z.length) H) : rLenS' [x] H Q := ⟨z, by rw [e1], hz, q⟩
theorem i_ixS {z : Str} {i : Int} {c : Nat} {H : Hp} {Q : VK} (hz : z.length ≤ sizeLine) (e : atI z.cps.toList i = some c) (q : Q (.str ⟨#[c]⟩) H) : rIxS (.str z) (.int i) H Q := ⟨z, i, c, rfl, rfl, hz, e, q⟩
/-- a sign at a drawn place -/
theorem at_chr {z : Str} {i : Int} (h0 : 0 ≤ i) (h1 : i < z.length) : ∃ c, atI z.cps.toList i = some c ∧ c ∈ z.cps.toList := at_of h0 (by rw [Array.length_toList]; exact h1)
theorem walk_chars {z : Str} : Walk (Its z) z.cps.toList.length (fun _ => True) (YL z.cps.toList fun c => .str ⟨#[c]⟩) := by
  rw [Array.length_toList]
  exact walk_str.mono (fun _ h => h) fun i H x H' _ _ ⟨e, c, h, hv⟩ => ⟨e, c, by rw [Array.getElem?_toList]; exact h, hv⟩
def rJoin (K : PySem.W.Frag) : V → List V → Hp → VK → Prop := fun x xs H Q => ∃ a p, ∃ ys : List Str, x = .str a ∧ xs = [.ref p] ∧ (SqL K H p (ys.map V.str) ∨ SqT K H p (ys.map V.str)) ∧
      (ys.map (·.length)).sum + ys.length * a.length ≤ 16777216 ∧ Q (.str (Txt.join a ys)) H
theorem pe_joinR {X : Cx} {o e : Expr} {to te : TE} {apos pos : Pos} (ho : PE X o to) (he : PE X e te) (hs : starEach [e] X.env = [(false, eval e X.env)] := by rfl) (hbase : attributeBase o "join" X.env (eval o X.env) = eval o X.env := by rfl) (hline : (apos.endLine == pos.line) = true := by rfl) :
    PE X (.Call (.Attribute o "join" apos) [e] [] pos) (tM1 (rJoin X.K) to te) := pe_join ho he hs hbase hline
theorem kb_ss : kitB "str" "str" = some true := by decide +kernel
theorem kb_bs : kitB "bool" "str" = some false := by decide +kernel
theorem kb_ns : kitB "NoneType" "str" = some false := by decide +kernel
theorem kb_is : kitB "int" "str" = some false := by decide +kernel
theorem kb_ls : kitB "list" "str" = some false := by decide +kernel
theorem kb_ts : kitB "tuple" "str" = some false := by decide +kernel
theorem kb_ds : kitB "dict" "str" = some false := by decide +kernel
theorem i_all {K : PySem.W.Frag} {H : Hp} {Q : VK} {p : Addr} {bs : List Bool} (h : H p = some (.lst (bs.map V.bl))) (q : Q (.bl (bs.all id)) H) : rAll K [.ref p] H Q := ⟨p, bs, rfl, sqL_of h, q⟩
theorem strs_of {P : Str → Prop} : ∀ {ys : List V}, (∀ y ∈ ys, ∃ s, y = .str s ∧ P s) → ∃ zs : List Str, ys = zs.map V.str ∧ ∀ s ∈ zs, P s
  | [], _ => ⟨[], rfl, fun _ h => nomatch h⟩
  | y :: ys, h => by
    obtain ⟨s, rfl, hs⟩ := h y List.mem_cons_self
    obtain ⟨zs, rfl, hz⟩ := strs_of (ys := ys) fun y hy => h y (List.mem_cons_of_mem _ hy)
    exact ⟨s :: zs, rfl, fun t ht => by
      rcases List.mem_cons.mp ht with rfl | ht
      · exact hs
      · exact hz t ht⟩
theorem joinL_nil : ∀ ps : List (List Nat), TL.joinL [] ps = ps.flatten
  | [] => rfl
  | [p] => by simp [TL.joinL]
  | p :: q :: r => by
    show p ++ ([] ++ TL.joinL [] (q :: r)) = _
    rw [joinL_nil (q :: r)]; simp
theorem join_cl (ys : List Str) : (Txt.join Str.empty ys).cps.toList = (ys.map fun s => s.cps.toList).flatten := by
  rw [TL.join_eq]
  have e := TL.tl_join Str.empty ys
  have e2 : TL.tl Str.empty = [] := rfl
  rw [e2, joinL_nil] at e
  exact e
theorem cl_append (a b : Str) : (a ++ b).cps.toList = a.cps.toList ++ b.cps.toList := TL.tl_append a b
theorem cl_length (a : Str) : a.cps.toList.length = a.length := Array.length_toList
theorem len_append (a b : Str) : (a ++ b).length = a.length + b.length := by rw [← cl_length, cl_append, List.length_append, cl_length, cl_length]
theorem mem_cut {z : Str} {lo hi : Option Int} {c : Nat} (h : c ∈ (cutS z lo hi).cps.toList) : c ∈ z.cps.toList := by
  unfold cutS at h
  exact List.mem_of_mem_drop (List.mem_of_mem_take (by simpa using h))
theorem i_slS {z : Str} {lo hi : Option Int} {H : Hp} {Q : VK} (hz : z.length ≤ sizeLine) (q : Q (.str (cutS z lo hi)) H) : rSlS (.str z) lo hi H Q := ⟨z, rfl, hz, q⟩

/-! ### fields, methods and exceptions, the written part named -/
section
variable {X : Cx} {K : PySem.W.Frag}
theorem pe_fldK (K : PySem.W.Frag) {e : Expr} {ta : TE} {f : Str} {pos : Pos} (he : PE X e ta) (hb : attributeBase e f X.env (eval e X.env) = eval e X.env) (hK : X.K = K := by rfl) : PE X (.Attribute e f pos) (tFld K ta f) := by
  have h := pe_fld (pos := pos) he hb
  rw [hK] at h
  exact h
theorem ps_fldK (K : PySem.W.Frag) {o value : Expr} {ta tv : TE} {f : Str} {pos pos' : Pos} (ha : PE X o ta) (hv : PE X value tv) (hs : swapsWith value (some (.Attribute o f pos')) pos.line X.env = pure false) (hK : X.K = K := by rfl) : PS X (.Assign [.Attribute o f pos'] value pos) (sFld K ta tv f) := by
  have h := ps_fld (pos := pos) ha hv hs
  rw [hK] at h
  exact h
theorem ps_fldaugK (K : PySem.W.Frag) {o value : Expr} {ta tv : TE} {f : Str} {pos tpos : Pos} {op : Operator} {rd : V → V → Hp → VK → Prop} (ha : PE X o ta) (hv : PE X value tv) (hop : InOp X op rd) (hK : X.K = K := by rfl) : PS X (.AugAssign (.Attribute o f tpos) op value pos) (sFldAug K ta tv rd f) := by
  have h := ps_fldaug (f := f) (pos := pos) (tpos := tpos) ha hv hop
  rw [hK] at h
  exact h
theorem pe_bmK (K : PySem.W.Frag) {T id : String} {name : Str} {r : V → List V → Hp → VK → Prop} {o e : Expr} {es : List Expr} {to : TE} {t : TA} {apos cpos : Pos} (pa : PlainAttrs T) (slot : Slot T name id) (hty : typeOf (.builtin id) = pure (.type "method_descriptor")) (hm : MtR X id r) (ho : PE X o to) (ha : PA X (e :: es) t)
    (hbase : attributeBase o name X.env (eval o X.env) = eval o X.env := by rfl)
    (hfew : ((backTo cpos (starEach (e :: es) X.env)).all (fun x => !x.1) && (backToKw cpos (keywordEach [] X.env)).all (fun x => x.1.isSome)
      && decide ((e :: es).length + ([] : List Keyword).length + (if ([] : List Keyword).isEmpty then 0 else 1) < 30)) = true := by rfl)
    (hline : (apos.endLine == cpos.line) = true := by rfl) (hs : starEach (e :: es) X.env = (false, eval e X.env) :: starEach es X.env := by rfl) (hplain : (backTo cpos (starEach es X.env)).any (·.1) = false := by rfl) (hK : X.K = K := by rfl) :
    PE X (.Call (.Attribute o name apos) (e :: es) [] cpos) (tBM K T r to t) := by
  have h := pe_bm pa slot hty hm ho ha hbase hfew hline hs hplain
  rw [hK] at h
  exact h
theorem pe_bm0K (K : PySem.W.Frag) {T id : String} {name : Str} {r : V → List V → Hp → VK → Prop} {o : Expr} {to : TE} {apos cpos : Pos} (pa : PlainAttrs T) (slot : Slot T name id) (hty : typeOf (.builtin id) = pure (.type "method_descriptor")) (hm : MtR X id r) (ho : PE X o to)
    (hbase : attributeBase o name X.env (eval o X.env) = eval o X.env := by rfl) (hline : (apos.endLine == cpos.line) = true := by rfl) (hK : X.K = K := by rfl) : PE X (.Call (.Attribute o name apos) [] [] cpos) (tBM0 K T r to) := by
  have h := pe_bm0 pa slot hty hm ho hbase hline
  rw [hK] at h
  exact h
/-- o.m(..) that may raise, what is raised wished for at the caller's slots -/
def tMethS (C : Addr) (m : Str) (sp : Sp) (E : L2.St → XK) (ta : TE) (t : TA) : TE := fun σ H Q => ta σ H fun x H1 => ∃ a dx fs, x = .ref a ∧ H1 a = some (.ins C dx fs) ∧ fs.lookup m = none ∧ t σ H1 fun vs H2 => sp (x :: vs) H2 Q (E σ)
variable {CX : CXT} {k : Nat} {f C : Addr} {fd : FuncData} {ps : List Str} {sp : Sp} {E : L2.St → XK} {m : Str} {pos apos : Pos} {e o : Expr} {es : List Expr} {ta : TE} {t : TA}
theorem pe_methS {pl : Sem Bool} (he : PE X o ta) (c : Cls X.K C) (hm : Meth X.K C m f) (F : FnOk X.prog X.w X.K X.mg X.base CX k f fd ps sp) (hr : Room k X.A) (hb : Binds X.K fd ps []) (hx : ∀ σ, PassesAt CX X σ (E σ)) (ha : PA X (e :: es) t)
    (hst : starEach (e :: es) X.env = (false, eval e X.env) :: starEach es X.env := by rfl) (hpl : (backTo pos (starEach es X.env)).any (·.1) = false := by rfl)
    (ht : eval (.Call (.Attribute o m apos) (e :: es) [] pos) X.env = (do
      let ov ← eval o X.env
      standAt apos.atName
      let (f, first) ← holding [ov] (getMethod ov m pl)
      callWith pos f first (backTo pos (starEach (e :: es) X.env)) (backToKw pos (keywordEach [] X.env))) := by rfl) :
    PE X (.Call (.Attribute o m apos) (e :: es) [] pos) (tMethS C m sp E ta t) := by
  refine ⟨fun pins s σ H Q I h => ?_⟩
  refine PySem.W.methodCall_KW (pl := pl) (thn (he.run pins s σ H _ I h) fun u s1 ⟨x, H1, I1, rx, a, dx, fs, ex, ea, l, q⟩ => ?_) ht
  subst ex
  obtain rfl : u = Value.ref a := rx
  refine getmeth_ok I1 ea c hm l ?_
  refine PySem.W.callWith_K (first := [.ref a]) (h₀ := X.base) I.ok.mod.kin hm.kp (thn (ha.run pos pins s1 σ H1 _ I1 q) fun us s2 ⟨vs, H2, I2, r, q2⟩ => ⟨I2.kIn, ?_⟩) hst hpl
  exact run_fnS (us := .ref a :: us) (vs := .ref a :: vs) F hr hb (hx σ) I2 (.cons rfl r) q2
theorem pe_meth0S {pl : Sem Bool} (he : PE X o ta) (c : Cls X.K C) (hm : Meth X.K C m f) (F : FnOk X.prog X.w X.K X.mg X.base CX k f fd ps sp) (hr : Room k X.A) (hb : Binds X.K fd ps []) (hx : ∀ σ, PassesAt CX X σ (E σ))
    (ht : eval (.Call (.Attribute o m apos) [] [] pos) X.env = (do
      let ov ← eval o X.env
      standAt apos.atName
      let (f, first) ← holding [ov] (getMethod ov m pl)
      callWith pos f first (backTo pos (starEach [] X.env)) (backToKw pos (keywordEach [] X.env))) := by rfl) :
    PE X (.Call (.Attribute o m apos) [] [] pos) (tMethS C m sp E ta tNil) := by
  refine ⟨fun pins s σ H Q I h => ?_⟩
  refine PySem.W.methodCall_KW (pl := pl) (thn (he.run pins s σ H _ I h) fun u s1 ⟨x, H1, I1, rx, a, dx, fs, ex, ea, l, q⟩ => ?_) ht
  subst ex
  obtain rfl : u = Value.ref a := rx
  refine getmeth_ok I1 ea c hm l ?_
  exact PySem.W.callWith_K0 (first := [.ref a]) I1.kIn hm.kp (run_fnS (us := [.ref a]) (vs := [.ref a]) F hr hb (hx σ) I1 (.cons rfl .nil) q)
theorem pe_call0S {x : Str} {p : Pos} (F : FnOk X.prog X.w X.K X.mg X.base CX k f fd ps sp) (hr : Room k X.A) (hg : Gl X x) (hm : X.mg x = some (.ref f)) (hk : PySem.W.keepIn X.K (.ref f) = true) (hb : Binds X.K fd ps []) (hx : ∀ σ, PassesAt CX X σ (E σ))
    (hdb : (x == ("__debug__" : Str)) = false := by decide) : PE X (.Call (.Name x p) [] [] pos) (tCallS sp E tNil) := by
  refine ⟨fun pins s σ H Q I h => ?_⟩
  refine wpAny_Call_Name_kw (ld_glob I hg hm ?_ hdb)
  exact PySem.W.callWith_K0 I.kIn hk (run_fnS (us := []) F hr hb (hx σ) I .nil h)
/-- X(), X an own exception class without own __init__ -/
theorem pmk_own0 {C : Addr} {bmB : List Value} {B newId initId : String} {x : Str} {p pos : Pos} (F : ExcBaseFacts B newId initId bmB) (q : PySem.W.excIn X.K C bmB newId = true) (gC : X.mg x = some (.ref C))
    (kC : PySem.W.keepIn X.K (.ref C) = true) (r : Raises X (.ref C)) (hg : Gl X x) (hdb : (x == ("__debug__" : Str)) = false := by decide) :
    PMk X (.Call (.Name x p) [] [] pos) (fun _ H Q => Q (.ref C) none H) := by
  intro pins s σ H Q I h
  refine wpAny_Call_Name_kw (ld_glob I hg gC ?_ hdb)
  refine PySem.W.callWith_K0 I.kIn kC ?_
  show wpAny _ _ (call (.ref C) []) _ _ _
  obtain ⟨bm, N, nm, qn, bs, hdct, sn, sub, ab, col, dd, k0, k1, k2, k3, k5, mN, hC, hN, hni, T⟩ := exc_obj I.kIn q
  refine wpAny_call_exc_subT F T hC hN hni (fun h' e hm => ?_) (Nat.zero_le _)
  exact mk_of I hm r h (I.hok.gone hm.new)
end
/-- an error of the class at B met by «except A» -/
theorem exm_two {K : PySem.W.Frag} {B A : Addr} {b : Bool} (h1 : PySem.W.subIn K (.ref A) (.type "BaseException") = some true) (h2 : PySem.W.isClsIn K A = true) (h3 : PySem.W.typeIn K (.ref A) = some (.type "type")) (h4 : PySem.W.subIn K (.ref B) (.ref A) = some b) :
    PySem.W.exmOne K (.ref B) (.ref A) = some b := by
  have e1 : (PySem.W.subIn K (.ref A) (.type "BaseException") == some true) = true := by rw [h1] <;> rfl
  have e2 : ((PySem.W.clsIn K A).isSome && PySem.W.typeIn K (.ref A) == some (.type "type")) = true := by
    have h2' : (PySem.W.clsIn K A).isSome = true := h2
    rw [h2', h3] <;> rfl
  show (if (PySem.W.subIn K (.ref A) (.type "BaseException") == some true) = true then (if ((PySem.W.clsIn K A).isSome && PySem.W.typeIn K (.ref A) == some (.type "type")) = true then PySem.W.subIn K (.ref B) (.ref A) else none) else none) = some b
  rw [if_pos e1, if_pos e2]
  exact h4
/-- a class of exceptions without own __init__, raised -/
structure Exc (K : PySem.W.Frag) (C : Addr) : Prop where
  x : PySem.W.excIn K C [.type "ValueError", .type "Exception", .type "BaseException", .type "object"] "ValueError.__new__" = true
  kp : PySem.W.keepIn K (.ref C) = true
  be : PySem.W.subIn K (.ref C) (.type "BaseException") = some true
  ty : PySem.W.typeIn K (.ref C) = some (.type "type")
/-! ### dicts with written keys -/
def rDGet : R2 := fun x y H Q => ∃ a v, x = .ref a ∧ DGet H a y (some v) ∧ Q v H
theorem tDGet_eq {td ty : TE} {σ : L2.St} {H : Hp} {Q : VK} : tDGet td ty σ H Q = td σ H fun x H1 => ty σ H1 fun y H2 => rDGet x y H2 Q := rfl
def rDPut : V → V → V → Hp → (Hp → Prop) → Prop := fun x y v H Q => ∃ a H4, x = .ref a ∧ DPut H a y v H4 ∧ Q H4
theorem sDPut_eq {td ty tv : TE} {D : Ends} {σ : L2.St} {H : Hp} : sDPut td ty tv D σ H = tv σ H fun v H1 => td σ H1 fun x H2 => ty σ H2 fun y H3 => rDPut x y v H3 fun H4 => D.nx σ H4 := rfl
theorem i_dget {H : Hp} {a : Addr} {kvs : List (Key × V)} {k : Str} {v : V} {Q : VK} (h : H a = some (.dK kvs)) (e : valV kvs (.inr k) = some v) (q : Q v H) : rDGet (.ref a) (.str k) H Q := ⟨a, v, rfl, by rw [← e]; exact DGet.k (k := .inr k) h, q⟩
theorem i_dput {H : Hp} {a : Addr} {kvs : List (Key × V)} {k : Str} {v : V} {Q : Hp → Prop} (h : H a = some (.dK kvs)) (hl : kvs.length < sizeLine) (q : Q (upd H a (.dK (putK kvs (.inr k) v)))) : rDPut (.ref a) (.str k) v H Q := ⟨a, _, rfl, DPut.k (k := .inr k) h hl, q⟩
/-! ### what is kept but for some objects -/
def Kp (X : List Addr) (H H' : Hp) : Prop := ∀ b o, b ∉ X → H b = some o → H' b = some o
theorem Kp.refl (X : List Addr) (H : Hp) : Kp X H H := fun _ _ _ e => e
theorem Kp.trans {X : List Addr} {H H1 H2 : Hp} (a : Kp X H H1) (b : Kp X H1 H2) : Kp X H H2 := fun c o n e => b c o n (a c o n e)
theorem Kp.mono {X Y : List Addr} {H H1 : Hp} (a : Kp X H H1) (h : ∀ b ∈ X, b ∈ Y) : Kp Y H H1 := fun c o n e => a c o (fun k => n (h c k)) e
theorem Kp.set {X : List Addr} {H : Hp} {a : Addr} {o : HO} (h : a ∈ X) : Kp X H (upd H a o) := fun b u n e => by
  rw [upd_ne (fun k => n (by rw [k]; exact h))]; exact e
theorem Kp.new {X : List Addr} {H : Hp} {a : Addr} {o : HO} (h : H a = none) : Kp X H (upd H a o) := fun b u n e => by
  rw [upd_ne (ne_of_none e h)]; exact e
theorem Kp.of {X : List Addr} {H H' : Hp} (s : Same H H') : Kp X H H' := fun b u _ e => s b u e
theorem Kp.same {X : List Addr} {H H' H0 : Hp} (k : Kp X H H') (s : Same H0 H) (n : ∀ a ∈ X, H0 a = none) : Same H0 H' := fun b o e => k b o (fun h => by rw [n b h] at e; cases e) (s b o e)
/-! ### fields -/
def rFld (K : PySem.W.Frag) (f : Str) : V → Hp → VK → Prop := fun x H1 Q => ∃ a C dx fs v, x = .ref a ∧ H1 a = some (.ins C dx fs) ∧ Cls K C ∧ NoAttr K C f ∧ fs.lookup f = some v ∧ Q v H1
theorem tFld_eq {K : PySem.W.Frag} {ta : TE} {f : Str} {σ : L2.St} {H : Hp} {Q : VK} : tFld K ta f σ H Q = ta σ H fun x H1 => rFld K f x H1 Q := rfl
def rFldS (K : PySem.W.Frag) (f : Str) : V → V → Hp → (Hp → Prop) → Prop := fun x y H2 Q => ∃ a C dx fs, x = .ref a ∧ H2 a = some (.ins C dx fs) ∧ Cls K C ∧ NoAttr K C f ∧ fs.length < 1000 ∧ Q (upd H2 a (.ins C dx (putF f y fs)))
theorem sFld_eq {K : PySem.W.Frag} {ta tv : TE} {f : Str} {D : Ends} {σ : L2.St} {H : Hp} : sFld K ta tv f D σ H = tv σ H fun y H1 => ta σ H1 fun x H2 => rFldS K f x y H2 fun H3 => D.nx σ H3 := rfl
theorem i_fld {K : PySem.W.Frag} {a C dx : Addr} {fs : List (Str × V)} {f : Str} {v : V} {H : Hp} {Q : VK} (c : Cls K C) (n : NoAttr K C f) (h : H a = some (.ins C dx fs)) (l : fs.lookup f = some v) (q : Q v H) : rFld K f (.ref a) H Q := ⟨a, C, dx, fs, v, rfl, h, c, n, l, q⟩
theorem i_fldS {K : PySem.W.Frag} {a C dx : Addr} {fs : List (Str × V)} {f : Str} {y : V} {H : Hp} {Q : Hp → Prop} (c : Cls K C) (n : NoAttr K C f) (h : H a = some (.ins C dx fs)) (l : fs.length < 1000) (q : Q (upd H a (.ins C dx (putF f y fs)))) : rFldS K f (.ref a) y H Q := ⟨a, C, dx, fs, rfl, h, c, n, l, q⟩
theorem i_rep {H : Hp} {l : Addr} {k : Int} {xs : List V} {Q : VK} (h : H l = some (.lst xs)) (h1 : -(2 ^ 63) ≤ k) (h2 : k < 2 ^ 63) (hz : xs.length * k.toNat ≤ sizeLine) (q : ∀ p, H p = none → Q (.ref p) (upd H p (.lst (List.replicate k.toNat xs).flatten))) : rRep (.ref l) (.int k) H Q := ⟨l, k, xs, rfl, rfl, h, h1, h2, hz, q⟩
theorem rep1 {n : Nat} {v : V} : (List.replicate n [v]).flatten = List.replicate n v := by
  induction n with
  | zero => rfl
  | succ n ih => rw [List.replicate_succ, List.flatten_cons, ih, List.replicate_succ]; rfl
/-- a call of a method -/
def rMeth (C : Addr) (m : Str) (sp : Sp) (E : XK) (t : (List V → Hp → Prop) → Hp → Prop) : V → Hp → VK → Prop := fun x H1 Q => ∃ a dx fs, x = .ref a ∧ H1 a = some (.ins C dx fs) ∧ fs.lookup m = none ∧ t (fun vs H2 => sp (x :: vs) H2 Q E) H1
theorem tMeth_eq {C : Addr} {m : Str} {sp : Sp} {dvs : List V} {E : XK} {ta : TE} {t : TA} {σ : L2.St} {H : Hp} {Q : VK} : tMeth C m sp dvs E ta t σ H Q = ta σ H fun x H1 => rMeth C m sp E (fun k H => t σ H fun vs H2 => k (vs ++ dvs) H2) x H1 Q := rfl
theorem tMethS_eq {C : Addr} {m : Str} {sp : Sp} {E : L2.St → XK} {ta : TE} {t : TA} {σ : L2.St} {H : Hp} {Q : VK} : tMethS C m sp E ta t σ H Q = ta σ H fun x H1 => rMeth C m sp (E σ) (fun k H => t σ H k) x H1 Q := rfl
theorem i_meth {C : Addr} {m : Str} {sp : Sp} {E : XK} {t : (List V → Hp → Prop) → Hp → Prop} {a dx : Addr} {fs : List (Str × V)} {H : Hp} {Q : VK} (h : H a = some (.ins C dx fs)) (l : fs.lookup m = none) (q : t (fun vs H2 => sp (.ref a :: vs) H2 Q E) H) : rMeth C m sp E t (.ref a) H Q := ⟨a, dx, fs, rfl, h, l, q⟩
def rFldA (K : PySem.W.Frag) (f : Str) (tv : (V → Hp → Prop) → Hp → Prop) (rd : V → V → Hp → VK → Prop) : V → Hp → (Hp → Prop) → Prop := fun x H1 Q => ∃ a C dx fs v, x = .ref a ∧ H1 a = some (.ins C dx fs) ∧ Cls K C ∧ NoAttr K C f ∧ fs.lookup f = some v ∧
  tv (fun y H2 => rd v y H2 fun z H3 => ∃ dx' fs', H3 a = some (.ins C dx' fs') ∧ fs'.length < 1000 ∧ Q (upd H3 a (.ins C dx' (putF f z fs')))) H1
theorem sFldAug_eq {K : PySem.W.Frag} {ta tv : TE} {rd : V → V → Hp → VK → Prop} {f : Str} {D : Ends} {σ : L2.St} {H : Hp} : sFldAug K ta tv rd f D σ H = ta σ H fun x H1 => rFldA K f (fun k H => tv σ H k) rd x H1 fun H3 => D.nx σ H3 := rfl
theorem i_fldA {K : PySem.W.Frag} {f : Str} {tv : (V → Hp → Prop) → Hp → Prop} {rd : V → V → Hp → VK → Prop} {a C dx : Addr} {fs : List (Str × V)} {v : V} {H : Hp} {Q : Hp → Prop} (c : Cls K C) (n : NoAttr K C f) (h : H a = some (.ins C dx fs)) (l : fs.lookup f = some v)
    (q : tv (fun y H2 => rd v y H2 fun z H3 => ∃ dx' fs', H3 a = some (.ins C dx' fs') ∧ fs'.length < 1000 ∧ Q (upd H3 a (.ins C dx' (putF f z fs')))) H) : rFldA K f tv rd (.ref a) H Q := ⟨a, C, dx, fs, v, rfl, h, c, n, l, q⟩
/-! ### == and != of data that is the same -/
theorem shaped_lay {d : PyData} (h : SeqAt.shaped d = true) : d.canLay0 = true := by
  unfold SeqAt.shaped at h
  simp only [Bool.and_eq_true] at h
  exact h.1
theorem i_neD {K : PySem.W.Frag} {x y : V} {d : PyData} {H : Hp} {Q : VK} (h1 : Dp K H x d) (h2 : Dp K H y d) (hs : SeqAt.shaped d = true) (q : Q (.bl false) H) : rNeD K x y H Q :=
  ⟨d, d, h1, h2, hs, hs, by rw [SeqAt.eqv_refl d (shaped_lay hs)]; exact q⟩
theorem i_eqD {K : PySem.W.Frag} {x y : V} {d : PyData} {H : Hp} {Q : VK} (h1 : Dp K H x d) (h2 : Dp K H y d) (hs : SeqAt.shaped d = true) (q : Q (.bl true) H) : rEqD K x y H Q :=
  ⟨d, d, h1, h2, hs, hs, by rw [SeqAt.eqv_refl d (shaped_lay hs)]; exact q⟩

/-! ### own exceptions with an __init__ that keeps its arguments -/
def rMkO (C : Addr) (sp : Sp) (dvs : List V) : List V → Hp → XK → Prop := fun vs H1 Q => vs.length ≤ 1000 ∧ ∀ a, H1 a = none → sp (.ref a :: (vs ++ dvs)) (upd H1 a (exo a C none))
  (fun v H2 => v = .non ∧ ∃ (d : Addr) (fs : List (Str × V)), H2 a = some (exo a C (some d)) ∧ H2 d = some (exd d fs) ∧ H1 d = none ∧ Q (.ref C) (some d) (upd (del H2 a) d (.xd fs))) (fun _ _ _ => False)
theorem tMkO_eq {C : Addr} {sp : Sp} {dvs : List V} {ta : TA} {σ : L2.St} {H : Hp} {Q : XK} : tMkO C sp dvs ta σ H Q = ta σ H fun vs H1 => rMkO C sp dvs vs H1 Q := rfl
def spX1 (C : Addr) (f : Str) : Sp := fun vs H Q _ => ∃ (a : Addr) (v : V), vs = [.ref a, v] ∧ H a = some (exo a C none) ∧ ∀ dx, H dx = none → dx ≠ a → Q .non (upd (upd H dx (exd dx [(f, v)])) a (exo a C (some dx)))
theorem i_mkO1 {C : Addr} {f : Str} {v : V} {H : Hp} {Q : XK} (q : ∀ dx, H dx = none → Q (.ref C) (some dx) (upd H dx (.xd [(f, v)]))) : rMkO C (spX1 C f) [] [v] H Q := by
  refine ⟨by show 1 ≤ 1000; decide, fun a ha => ⟨a, v, rfl, upd_same, fun dx hd hne => ⟨rfl, dx, [(f, v)], upd_same, by rw [upd_ne hne, upd_same], by rw [upd_ne hne] at hd; exact hd, ?_⟩⟩⟩
  have hd : H dx = none := by rw [upd_ne hne] at hd; exact hd
  have e : upd (del (upd (upd (upd H a (exo a C none)) dx (exd dx [(f, v)])) a (exo a C (some dx))) a) dx (.xd [(f, v)]) = upd H dx (.xd [(f, v)]) := by
    funext b
    by_cases hb : b = dx
    · subst hb; rw [upd_same, upd_same]
    · rw [upd_ne hb, upd_ne hb]
      by_cases hb2 : b = a
      · subst hb2; rw [del_same, ha]
      · rw [del_ne hb2, upd_ne hb2, upd_ne hb, upd_ne hb2]
  rw [e]
  exact q dx hd
def rOst (K : PySem.W.Frag) (f : Str) : V → V → Hp → (Hp → Prop) → Prop := fun x y H2 Q => ∃ a C : Addr, x = .ref a ∧ OexC K C ∧ PySem.W.findIn K (.ref C) f = some none ∧
  ((H2 a = some (exo a C none) ∧ ∀ dx, H2 dx = none → dx ≠ a → Q (upd (upd H2 dx (exd dx [(f, y)])) a (exo a C (some dx)))) ∨
    ∃ (dx : Addr) (fs : List (Str × V)), H2 a = some (exo a C (some dx)) ∧ H2 dx = some (exd dx fs) ∧ fs.length ≤ 900 ∧ Q (upd H2 dx (exd dx ((f, y) :: fs))))
theorem tOst_eq {K : PySem.W.Frag} {f : Str} {to te : TE} {D : Ends} {σ : L2.St} {H : Hp} : tOst K f to te D σ H = te σ H fun y H1 => to σ H1 fun x H2 => rOst K f x y H2 fun H3 => D.nx σ H3 := rfl
theorem i_ost {K : PySem.W.Frag} {C a : Addr} {f : Str} {y : V} {H : Hp} {Q : Hp → Prop} (T : OexC K C) (n : PySem.W.findIn K (.ref C) f = some none) (h : H a = some (exo a C none)) (q : ∀ dx, H dx = none → dx ≠ a → Q (upd (upd H dx (exd dx [(f, y)])) a (exo a C (some dx)))) : rOst K f (.ref a) y H Q := ⟨a, C, rfl, T, n, .inl ⟨h, q⟩⟩
theorem i_catchAs {K : PySem.W.Frag} {c cls : Value} {i : Nat} {ts : Addr → Value → Option Addr → TS} {Wout : WX} {D : Ends} {d : Option Addr} {σ : L2.St} {H : Hp} (h : PySem.W.exmOne K cls c = some true)
    (q : ∀ a, H a = none → ts a cls d { nx := fun σ' H' => D.nx (σ'.set i none) H', rt := D.rt, bk := fun σ' H' => D.bk (σ'.set i none) H', ct := fun σ' H' => D.ct (σ'.set i none) H' } (σ.set i (some (.ref a))) H) : wAs K c i ts Wout D cls d σ H := ⟨true, h, fun _ a n => q a n, fun z => nomatch z⟩
theorem i_catch {K : PySem.W.Frag} {c cls : Value} {ts : Addr → Value → Option Addr → TS} {Wout : WX} {D : Ends} {d : Option Addr} {σ : L2.St} {H : Hp} (h : PySem.W.exmOne K cls c = some true) (q : ∀ a, H a = none → ts a cls d D σ H) : wOnly K c ts Wout D cls d σ H := ⟨true, h, fun _ a n => q a n, fun z => nomatch z⟩
theorem i_ost2 {K : PySem.W.Frag} {C a dx : Addr} {f : Str} {y : V} {fs : List (Str × V)} {H : Hp} {Q : Hp → Prop} (T : OexC K C) (n : PySem.W.findIn K (.ref C) f = some none) (h : H a = some (exo a C (some dx))) (hd : H dx = some (exd dx fs)) (hl : fs.length ≤ 900) (q : Q (upd H dx (exd dx ((f, y) :: fs)))) : rOst K f (.ref a) y H Q := ⟨a, C, rfl, T, n, .inr ⟨dx, fs, h, hd, hl, q⟩⟩
/-- told.f -/
def rXf (a : Addr) (cls : Value) (d : Option Addr) (C : Addr) (f : Str) : V → Hp → VK → Prop := fun x H1 Q => x = .ref a ∧ cls = .ref C ∧ ∃ (dd : Addr) (fs : List (Str × V)) (v : V), d = some dd ∧ H1 dd = some (.xd fs) ∧ fs.lookup f = some v ∧ Q v H1
theorem tXf_eq {a : Addr} {cls : Value} {d : Option Addr} {C : Addr} {f : Str} {te : TE} {σ : L2.St} {H : Hp} {Q : VK} : tXf a cls d C f te σ H Q = te σ H fun x H1 => rXf a cls d C f x H1 Q := rfl
theorem i_xf {a dd C : Addr} {f : Str} {fs : List (Str × V)} {v : V} {H : Hp} {Q : VK} (h : H dd = some (.xd fs)) (l : fs.lookup f = some v) (q : Q v H) : rXf a (.ref C) (some dd) C f (.ref a) H Q := ⟨rfl, rfl, dd, fs, v, rfl, h, l, q⟩
theorem iRevR_eq {tr : L2.St → Hp → (Int → Int → Hp → Prop) → Prop} {σ : L2.St} {H : Hp} {R : It → Hp → Prop} : iRevR tr σ H R = tr σ H fun a b H1 => -(2 ^ 62) ≤ a ∧ a < 2 ^ 62 ∧ -(2 ^ 62) ≤ b ∧ b < 2 ^ 62 ∧ R (Itc (a + (((b - a).toNat : Nat) : Int) - 1) (-1) (b - a).toNat) H1 := rfl
theorem tRg1_eq {ta : TE} {σ : L2.St} {H : Hp} {Q : Int → Int → Hp → Prop} : tRg1 ta σ H Q = ta σ H fun x H1 => ∃ n, x = .int n ∧ Q 0 n H1 := rfl
theorem tRg2_eq {ta tb : TE} {σ : L2.St} {H : Hp} {Q : Int → Int → Hp → Prop} : tRg2 ta tb σ H Q = ta σ H fun x H1 => tb σ H1 fun y H2 => ∃ i j, x = .int i ∧ y = .int j ∧ Q i j H2 := rfl
theorem tLstRg_eq {te : L2.St → Hp → (Int → Int → Hp → Prop) → Prop} {σ : L2.St} {H : Hp} {Q : VK} : tLstRg te σ H Q = te σ H fun a b H1 => RgOk a b ∧ ∀ q, H1 q = none → Q (.ref q) (upd H1 q (.lst (rgV a b))) := rfl
def rRevL (K : PySem.W.Frag) : V → Hp → VK → Prop := fun x H1 Q => ∃ a xs, x = .ref a ∧ SqL K H1 a xs ∧ ∀ p, H1 p = none → Q (.ref p) (upd H1 p (.lst xs.reverse))
theorem tRevL_eq {K : PySem.W.Frag} {te : TE} {σ : L2.St} {H : Hp} {Q : VK} : tRevL K te σ H Q = te σ H fun x H1 => rRevL K x H1 Q := rfl
theorem i_revL {K : PySem.W.Frag} {H : Hp} {Q : VK} {a : Addr} {xs : List V} (h : SqL K H a xs) (q : ∀ p, H p = none → Q (.ref p) (upd H p (.lst xs.reverse))) : rRevL K (.ref a) H Q := ⟨a, xs, rfl, h, q⟩
theorem room65 {k : Nat} {A : Around} (r : Room k A) : A.units + 65 < cLine := by have := r.un; omega
theorem i_forPost {J : It} {g : TG} {tb : TS} {D : Ends} {σ : L2.St} {H : Hp} (Post : L2.St → Hp → Prop) (h1 : (∀ σ' H', Post σ' H' → D.nx σ' H') → rForJ J g tb D σ H) (h2 : ∀ σ' H', Post σ' H' → D.nx σ' H') : rForJ J g tb D σ H := h1 h2

def spI1 (C : Addr) (f : Str) : Sp := fun vs H Q _ => ∃ (a : Addr) (v : V), vs = [.ref a, v] ∧ H a = some (exo a C none) ∧ ∀ dx H', H dx = none → dx ≠ a → H' a = some (exo a C (some dx)) → H' dx = some (exd dx [(f, v)]) → Kp [a] H H' → Q .non H'
def spI2 (C : Addr) (f g : Str) : Sp := fun vs H Q _ => ∃ (a : Addr) (v u : V), vs = [.ref a, v, u] ∧ H a = some (exo a C none) ∧ ∀ dx H', H dx = none → dx ≠ a → H' a = some (exo a C (some dx)) → H' dx = some (exd dx [(g, u), (f, v)]) → Kp [a] H H' → Q .non H'
theorem kp_exn {H : Hp} {a dx : Addr} {o u : HO} (n : H dx = none) (ne : dx ≠ a) : Kp [a] H (upd (upd H dx o) a u) := fun b x hb e => by
  rw [upd_ne (by simpa using hb), upd_ne (ne_of_none e n)]; exact e
theorem i_mkOI2 {C : Addr} {f g : Str} {v u : V} {H : Hp} {Q : XK} (q : ∀ d H', Same H H' → H' d = some (.xd [(g, u), (f, v)]) → Q (.ref C) (some d) H') : rMkO C (spI2 C f g) [] [v, u] H Q := by
  refine ⟨by show 2 ≤ 1000; decide, fun a ha => ⟨a, v, u, rfl, upd_same, fun dx H' hd ne h1 h2 kp => ⟨rfl, dx, [(g, u), (f, v)], h1, h2, by rw [upd_ne ne] at hd; exact hd, q dx _ (fun b o e => ?_) upd_same⟩⟩⟩
  have hd0 : H dx = none := by rw [upd_ne ne] at hd; exact hd
  rw [upd_ne (ne_of_none e hd0), del_ne (ne_of_none e ha)]
  exact kp b o (by simp [ne_of_none e ha]) (by rw [upd_ne (ne_of_none e ha)]; exact e)

/-! ### while -/
def rWhT (Pv : Nat → L2.St → Hp → Prop) (m : Nat) (tb : TS) (D : Ends) (σ : L2.St) (H : Hp) : Prop := ∃ N : L2.St → Hp → Prop, (∀ σ' H', N σ' H' → ∃ m', m' < m ∧ Pv m' σ' H') ∧ tb { D with nx := N, ct := N, bk := D.nx } σ H
theorem i_while {c : TT} {tb : TS} {D : Ends} {σ : L2.St} {H : Hp} (Pv : Nat → L2.St → Hp → Prop) (m0 : Nat) (h0 : Pv m0 σ H) (hs : ∀ m σ H, Pv m σ H → c σ H fun b H1 => if b = true then rWhT Pv m tb D σ H1 else D.nx σ H1) : tWhile c tb D σ H := ⟨Pv, ⟨m0, h0⟩, hs⟩
theorem i_whT {Pv : Nat → L2.St → Hp → Prop} {m : Nat} {tb : TS} {D : Ends} {σ : L2.St} {H : Hp} (h : tb { D with nx := fun σ' H' => ∃ m', m' < m ∧ Pv m' σ' H', ct := fun σ' H' => ∃ m', m' < m ∧ Pv m' σ' H', bk := D.nx } σ H) : rWhT Pv m tb D σ H := ⟨_, fun _ _ h => h, h⟩

/-! ### tuples as targets -/
theorem i_gTup2 {K : PySem.W.Frag} {n i j : Nat} {a : Addr} {x y : V} {σ : L2.St} {H : Hp} {Q : L2.St → Hp → Prop} (hn : n = 2) (h : SqT K H a [x, y]) (q : Q ((σ.set i (some x)).set j (some y)) H) : gTup K n (gCons (gName i) (gCons (gName j) gNil)) (.ref a) σ H Q :=
  ⟨a, [x, y], rfl, h, hn.symm, x, [y], rfl, y, [], rfl, rfl, q⟩
theorem i_gTup3 {K : PySem.W.Frag} {n i j k : Nat} {a : Addr} {x y z : V} {σ : L2.St} {H : Hp} {Q : L2.St → Hp → Prop} (hn : n = 3) (h : SqT K H a [x, y, z]) (q : Q (((σ.set i (some x)).set j (some y)).set k (some z)) H) : gTup K n (gCons (gName i) (gCons (gName j) (gCons (gName k) gNil))) (.ref a) σ H Q :=
  ⟨a, [x, y, z], rfl, h, hn.symm, x, [y, z], rfl, y, [z], rfl, z, [], rfl, rfl, q⟩
theorem log_small {j : Int} (h : j.natAbs < 2 ^ 200) : j.natAbs.log2 < 1920 := by
  by_cases h0 : j.natAbs = 0
  · rw [h0]; decide
  · have := (Nat.log2_lt h0).mpr h
    omega
theorem i_and {c d A R : Prop} [Decidable c] [Decidable d] (h : c → d → A) (r : R) : if c then (if d then A else R) else R := ite2 (fun hc => ite2 (fun hd => h hc hd) (fun _ => r)) (fun _ => r)

/-! ### s * n -/
def rMulS : R2 := fun x y H Q => ∃ (z : Str) (n : Int), x = .str z ∧ y = .int n ∧ MulOk z n ∧ Q (.str (Txt.mul z n)) H
theorem op_mul_str {X : Cx} : OpR X (binaryOp .Mult) rMulS := by
  intro pins s σ H x y v u Q I rx ry h
  obtain ⟨z, n, rfl, rfl, hok, q⟩ := h
  obtain ⟨t, rfl⟩ := rx
  obtain ⟨t', rfl⟩ := ry
  exact SB.mul hok fun _ k => ⟨.str (Txt.mul z n), H, I.tok k, ⟨_, rfl⟩, q⟩
theorem mul_ok {z : Str} {n : Int} (hz : z.length ≤ 2) (h0 : 0 ≤ n) (h1 : n ≤ 50000) : MulOk z n := by
  refine ⟨by rw [Bool.or_eq_false_iff]; exact ⟨decide_eq_false (by omega), decide_eq_false (by omega)⟩, fun h _ => ?_, fun h _ => ?_⟩
  · have : (z.length : Int) ≤ (2 ^ 63 - 1) / n := by
      refine (Int.le_ediv_iff_mul_le (by omega)).mpr ?_
      have h3 : (z.length : Int) * n ≤ 2 * n := Int.mul_le_mul_of_nonneg_right (by omega) h0
      omega
    omega
  · have h3 : z.length * n.toNat ≤ 2 * n.toNat := Nat.mul_le_mul_right _ hz
    have h4 : z.length * n.toNat ≤ 100000 := by omega
    have h5 := line5 h4
    show decide (z.length * n.toNat > sizeLine) = false
    exact decide_eq_false (by omega)
theorem foldl_reps (c : Array Nat) : ∀ (k : Nat) (acc : Array Nat), ((List.replicate k c).foldl (· ++ ·) acc).toList = acc.toList ++ (List.replicate k c.toList).flatten
  | 0, acc => by simp
  | k + 1, acc => by
    rw [List.replicate_succ, List.foldl_cons, foldl_reps c k, Array.toList_append, List.replicate_succ, List.flatten_cons, List.append_assoc]
theorem mul_cl {z : Str} {n : Int} (h0 : 0 ≤ n) : (Txt.mul z n).cps.toList = (List.replicate n.toNat z.cps.toList).flatten := by
  unfold Txt.mul
  by_cases h1 : n < 1
  · obtain rfl : n = 0 := by omega
    rfl
  · rw [if_neg h1]
    by_cases h2 : (n == 1 || z.length == 0) = true
    · rw [if_pos h2]
      rw [Bool.or_eq_true, beq_iff_eq, beq_iff_eq] at h2
      rcases h2 with rfl | h2
      · show _ = (List.replicate 1 _).flatten
        simp
      · have : z.cps.toList = [] := List.length_eq_zero_iff.mp (by rw [cl_length]; exact h2)
        rw [this]
        simp
    · rw [if_neg h2]
      show ((List.replicate n.toNat z.cps).foldl (· ++ ·) #[]).toList = _
      rw [foldl_reps]; rfl
theorem mul_one {c : Nat} {n : Int} (h0 : 0 ≤ n) : (Txt.mul ⟨#[c]⟩ n).cps.toList = List.replicate n.toNat c := by
  rw [mul_cl h0]
  show (List.replicate n.toNat [c]).flatten = _
  generalize n.toNat = k
  induction k with
  | zero => rfl
  | succ k ih => rw [List.replicate_succ, List.flatten_cons, ih, List.replicate_succ]; rfl

/-! ### exceptions as values -/
section
variable {X : Cx} {x : Str} {e o : Expr} {es : List Expr} {ta to : TE} {tas : TA} {p pos : Pos} {C : Addr}
def rMkV (C : Addr) (sp : Sp) : List V → Hp → VK → Prop := fun vs H1 Q => vs.length ≤ 1000 ∧ ∀ a, H1 a = none → sp (.ref a :: vs) (upd H1 a (exo a C none)) (fun v H2 => v = .non ∧ Q (.ref a) H2) (fun _ _ _ => False)
/-- C(e, ..), C's own __init__ keeping sp, as a value -/
theorem pe_oexV {CX : CXT} {fI : Addr} {k : Nat} {fd : FuncData} {ps : List Str} {sp : Sp} (T : OexC X.K C) (iC : PySem.W.findIn X.K (.ref C) "__init__" = some (some (.ref fI))) (tI : PySem.W.typeIn X.K (.ref fI) = some (.type "function"))
    (F1 : FnOk X.prog X.w X.K X.mg X.base CX k fI fd ps sp) (hr : Room (k + 1) X.A) (hb : Binds X.K fd ps []) (hx : Passes CX X (fun _ _ _ => False)) (hg : Gl X x) (hm : X.mg x = some (.ref C)) (ha : PA X (e :: es) tas)
    (hdb : (x == ("__debug__" : Str)) = false := by decide) (he : starEach (e :: es) X.env = (false, eval e X.env) :: starEach es X.env := by rfl) (hpl : (backTo pos (starEach es X.env)).any (·.1) = false := by rfl) :
    PE X (.Call (.Name x p) (e :: es) [] pos) (fun σ H Q => tas σ H fun vs H1 => rMkV C sp vs H1 Q) := by
  refine ⟨fun pins s σ H Q I h => ?_⟩
  obtain ⟨_, _, _, _, bm, _, _, _, _, _, _, _, _, _, _, hC, hbm⟩ := T.cls
  refine wpAny_Call_Name_kw (ld_glob I hg hm ?_ hdb)
  refine PySem.W.callWith_K (h₀ := X.base) I.ok.mod.kin T.kC (thn (ha.run pos pins s σ H _ I h) fun us s1 hh => ?_) he hpl
  obtain ⟨vs, H1, I1, r1, hz, q1⟩ := hh
  refine ⟨I1.kIn, ?_⟩
  show wpAny _ _ (call (.ref C) us) _ _ _
  obtain ⟨hp, g, dr, tk, os⟩ := s1
  have hq := q1 (hp.objs.size + 1) (I1.hok.fresh (Nat.le_succ _))
  have I2 := I1.laid (t' := tk) (a := hp.objs.size + 1) (o := exo (hp.objs.size + 1) C none) (h' := (hp.push (PySem.W.kdv_tup us)).push (PySem.HandSPX.excO C hp.objs.size))
    (fun b o e => Heap.get?_push_of_some _ (Heap.get?_push_of_some _ e)) (Nat.le_succ _) (exo_ok (by heap_get))
  have r2 : Vals (V.ref (hp.objs.size + 1) :: vs) (Value.ref (hp.objs.size + 1) :: us) := .cons rfl r1
  have hl : (Value.ref (hp.objs.size + 1) :: us ++ []).length = ps.length := by
    rw [List.append_nil, ← r2.length, F1.len _ _ _ _ hq]
  have hb2 := hb _ (Value.ref (hp.objs.size + 1) :: us) I2.kIn hl
  rw [List.append_nil] at hb2
  have hus : us.length ≤ sizeLine := by
    rw [← Paired.length r1]; exact Nat.le_trans hz (by rw [sizeLine_eq]; decide)
  refine wpAny_call (PySem.HandSPX.call_own F.excBase_ValueError (fun Y => PySem.HandSPX.refsVE_contains Y bm hbm) (I1.kIn _ _ hC) (PySem.W.looks_findIn I1.kIn iC) (fun self => PySem.W.bind_fn I1.kIn self tI) hus
    (codeAny_mono (F1.run _ X.stack _ _ ⟨Value.ref (hp.objs.size + 1) :: us, []⟩ (Value.ref (hp.objs.size + 1) :: us) _ _ _ (hr.make C us []) (I2.env0.make C us []) hb2 r2 hq) fun r s' hr' => ?_))
  cases r with
  | error er => exact hx pins σ _ _ er s' I2 hr'
  | ok fl =>
    cases fl with
    | ret u =>
      obtain ⟨v, H3, I3, rv, ev, q3⟩ := I2.after hr'
      subst ev
      exact ⟨rv, ⟨.ref (hp.objs.size + 1), H3, I3, rfl, q3⟩⟩
    | next => exact False.elim hr'
    | brk => exact False.elim hr'
    | cont => exact False.elim hr'
/-- X(), an own exception class without own __init__, as a value -/
theorem pe_exc0V {bmB : List Value} {B newId initId : String} (F : ExcBaseFacts B newId initId bmB) (q : PySem.W.excIn X.K C bmB newId = true) (gC : X.mg x = some (.ref C)) (kC : PySem.W.keepIn X.K (.ref C) = true) (hg : Gl X x) (hdb : (x == ("__debug__" : Str)) = false := by decide) :
    PE X (.Call (.Name x p) [] [] pos) (fun _ H Q => ∀ a, H a = none → Q (.ref a) (upd H a (exo a C none))) := by
  refine ⟨fun pins s σ H Q I h => ?_⟩
  refine wpAny_Call_Name_kw (ld_glob I hg gC ?_ hdb)
  refine PySem.W.callWith_K0 I.kIn kC ?_
  show wpAny _ _ (call (.ref C) []) _ _ _
  obtain ⟨_, _, _, _, _, _, _, _, _, _, _, _, _, _, _, _, mN, hC, hN, hni, T⟩ := exc_obj I.kIn q
  refine wpAny_call_exc_subT F T hC hN hni (fun h' a hm => ?_) (Nat.zero_le _)
  have hn : H a = none := I.hok.gone hm.new
  obtain ⟨t, ht, _, _⟩ := hm.there
  exact ⟨.ref a, upd H a (exo a C none), I.laidN hm.keeps hm.new hn (exo_ok ht), rfl, h a hn⟩
/-- an exception stands at a -/
def ErrAt (H : Hp) (a C : Addr) : Prop := H a = some (exo a C none) ∨ ∃ dx fs, H a = some (exo a C (some dx)) ∧ H dx = some (exd dx fs)
theorem ErrAt.same {H H' : Hp} {a C : Addr} (h : ErrAt H a C) (s : Same H H') : ErrAt H' a C := by
  rcases h with h | ⟨dx, fs, h1, h2⟩
  · exact .inl (s _ _ h)
  · exact .inr ⟨dx, fs, s _ _ h1, s _ _ h2⟩
end
section
variable {prog : Program} {w : World} {A : Around} {E : Value → Shared → Prop} {s : Shared} {K : PySem.W.Frag} {x D : Addr} {ox : Obj} {od : Option Obj}
open PySem.W PySem.Calls
theorem err_class {Q : Option Value → Shared → Prop} (Z : ExcC K D) (X : K.In s.heap) (I : PySem.W.InstAt s.heap x ox D od) (h : Q (some (.ref D)) { s with toks := s.toks + 1 }) : wpAny (model prog w) A (getAttr? (.ref x) "__class__") Q E s := by
  have hfd : findObj K D od "__class__" = some (.bind (.builtin "getset_descriptor.__get__") (.builtin "object.__class__")) := by
    have hc : (clsIn K D).isSome = true := by obtain ⟨cd, hc, _⟩ := any_some Z.hd; rw [hc]; rfl
    cases od with
    | none => exact findObj_dataN hc Z.ha Z.hn Z.ht
    | some od => exact findObj_data hc Z.ha Z.hn Z.ht
  obtain ⟨hh, gs, dd, tt, oo⟩ := s
  have LT := I.type (M := model prog w)
  have LG := looks_findIn (M := model prog w) X Z.hg
  have LH := looks_findIn (M := model prog w) X Z.hk
  have LF := looks_find (M := model prog w) X I hfd
  have LS : Looks (model prog w) hh (isInstance (.ref x) (.type "BaseException")) true := LT.andThen (looks_subIn X Z.hs)
  have nb : (Value.builtin "BaseException.__getattribute__" == Value.builtin "object.__getattribute__") = false := by decide +kernel
  unfold getAttr? getAttrBy? getAttrBy
  refine wpAny_bind (wpAny_mkText (wpAny_bind (wpAny_attempt (wpAny_holding (wpAny_bind (LT.at (wpAny_bind (LG.at ?_))))))))
  show wpAny _ _ (if (onTheHeap (Value.ref D) && (Value.builtin "BaseException.__getattribute__" == Value.builtin "object.__getattribute__")) = true then _ else _) _ _ _
  rw [nb, Bool.and_false, if_neg Bool.false_ne_true]
  unfold getAttrByItsOwn hookBefore
  refine wpAny_bind ?_
  rw [if_pos (show onTheHeap (Value.ref D) = true from rfl)]
  refine LH.at (wpAny_bind (wpAny_attempt (wpAny_holding ?_)))
  unfold callGetattribute
  rw [show (false && onTheHeap (Value.builtin "BaseException.__getattribute__")) = false from rfl, if_neg Bool.false_ne_true]
  unfold boundAndCalled
  rw [PySem.F.excAttr_ValueError.ga.bind (.ref x)]
  refine wpAny_bind (wpAny_pure ?_)
  show wpAny _ _ (call (.builtin "BaseException.__getattribute__") [.ref x, .str "__class__" tt]) _ _ _
  refine wpAny_call (codeAny_call_builtin PySem.F.excAttr_ValueError.ga.plain PySem.F.entry_bexc_ga (@check_slot (model prog w) _ _ ⟨hh, gs, dd, tt + 1, oo⟩ "BaseException.__getattribute__" "BaseException" "__getattribute__" (.ref x) [.str "__class__" tt] [] _ (by decide +kernel) (by decide +kernel) LS (PySem.F.args_bexc_ga (.ref x) (.str "__class__" tt)) ?_))
  unfold Builtin.«object.__getattribute__»
  refine wpAny_bind (wpAny_of_eq (a := ((Value.ref x : Value), [Value.str "__class__" tt])) (by first | rfl | (simp only [slotArgs]; rfl)) (wpAny_bind (wpAny_pure (wpAny_bind (LT.at (wpAny_bind (LF.at ?_)))))))
  show wpAny _ _ (holding [Value.builtin "object.__class__"] (call (.builtin "getset_descriptor.__get__") [.builtin "object.__class__", .ref x, .ref D]) >>= ret) _ _ _
  refine wpAny_bind (wpAny_holding (wpAny_call (class_get (s := ⟨hh, gs, dd, tt + 1, oo⟩) (ox := ox) (od := od) X I Z.hm (wpAny_pure ?_))))
  show wpAny _ _ (handedOut (.ref D)) _ _ _
  rw [handedOut_of (v := .ref D) rfl]
  first
    | exact wpAny_pure (wpAny_pure h)
    | exact wpAny_pure h
    | exact wpAny_pure (wpAny_bind (wpAny_pure (wpAny_pure h)))
theorem kitx_err (Z : ExcC K D) : KitX K (.ref x) (.ref D) (fun h => ∃ ox od, PySem.W.InstAt h x ox D od) where
  ty := fun _ _ _ ⟨_, _, I⟩ => I.type
  it := fun _ _ Y _ => by
    obtain ⟨cdD, hcD, _⟩ := any_some Z.hd
    unfold clsIn at hcD
    split at hcD
    · rename_i ho
      intro A' Q' E' s' k q
      unfold isType loadHead
      exact wpAny_bind (wpAny_loadPart (k _ _ (Y _ _ ho)) (wpAny_pure q))
    · cases hcD
  ne := fun h tp dd its n sl Y htp => by
    obtain ⟨cdD, hcD, _⟩ := any_some Z.hd
    refine Bool.eq_false_iff.mpr fun q => ?_
    obtain rfl : D = tp := Value.ref.inj (beq_iff_eq.mp q)
    unfold clsIn at hcD
    split at hcD
    · rename_i ho
      cases (Y _ _ ho).symm.trans htp
    · cases hcD
  ca := fun Y ⟨_, _, I⟩ k => err_class Z Y I k
end
/-- the facts that isinstance asks of an own class -/
theorem kit_own {K : PySem.W.Frag} {B A : Addr} {b : Bool} (h1 : decide (B = A) = false) (h2 : PySem.W.isClsIn K A = true) (h3 : PySem.W.typeIn K (.ref A) = some (.type "type")) (h4 : PySem.W.subIn K (.ref B) (.ref A) = some b) : PySem.W.kitOne K (.ref B) (.ref A) = some b := by
  unfold PySem.W.kitOne
  have ne : ¬ B = A := of_decide_eq_false h1
  have h2' : (PySem.W.clsIn K A).isSome = true := h2
  rw [if_neg (fun q => ne (Value.ref.inj (beq_iff_eq.mp q)))]
  show (if ((PySem.W.clsIn K A).isSome && PySem.W.typeIn K (.ref A) == some (.type "type")) = true then PySem.W.subIn K (.ref B) (.ref A) else none) = some b
  rw [h2', h3, if_pos (by rfl)]
  exact h4
theorem kit_blt {K : PySem.W.Frag} {B : Addr} {t : String} {b : Bool} (h : PySem.W.kitMeta t = true) (h4 : PySem.W.subIn K (.ref B) (.type t) = some b) : PySem.W.kitOne K (.ref B) (.type t) = some b := by
  unfold PySem.W.kitOne
  rw [if_neg (show ¬ ((Value.ref B == Value.type t) = true) from fun q => Value.noConfusion (beq_iff_eq.mp q))]
  show (if PySem.W.kitMeta t = true then PySem.W.subIn K (.ref B) (.type t) else none) = some b
  rw [if_pos h]; exact h4
def rIsX (K : PySem.W.Frag) : List V → Hp → VK → Prop := fun xs H Q => ∃ (a D : Addr) (c : V) (cv : Value) (b : Bool), xs = [.ref a, c] ∧ ErrAt H a D ∧ ExcC K D ∧ (∀ u, RelV c u → u = cv) ∧ PySem.W.kitOne K (.ref D) cv = some b ∧ Q (.bl b) H
theorem call_isX {X : Cx} : CallR X (.builtin "isinstance") (rIsX X.K) := by
  intro pins s σ H xs us Q I r h
  obtain ⟨a, D, c, cv, b, rfl, he, hC, hcv, ek, q⟩ := h
  cases r with
  | cons rx rr =>
    cases rr with
    | cons rt rr =>
      cases rr
      cases rx
      obtain rfl := hcv _ rt
      have J : ∃ ox od, PySem.W.InstAt s.heap a ox D od := by
        rcases he with he | ⟨dx, fs, he, hd⟩
        · obtain ⟨t1, ho⟩ := exo_at I.hok he
          exact ⟨_, none, ho, rfl, rfl, trivial⟩
        · obtain ⟨t1, ho⟩ := exo_at I.hok he
          obtain ⟨mA, hns, _⟩ := exd_at I.hok hd
          obtain ⟨od, hod, _⟩ := lookIn_ns hns
          exact ⟨_, some od, ho, rfl, rfl, hod⟩
      exact PySem.W.kia_one (kitx_err hC) I.kIn J ek (fun z => nomatch z) fun tk => ⟨.bl b, H, I.kept (t' := tk) fun _ _ z => z, rfl, q⟩
def rIsS (K : PySem.W.Frag) (a : Addr) (cls : Value) (d : Option Addr) : List V → Hp → VK → Prop := fun xs H Q => ∃ (D : Addr) (c : V) (cv : Value) (b : Bool), xs = [.ref a, c] ∧ cls = .ref D ∧ ExcC K D ∧ (∀ dd, d = some dd → ∃ fs, H dd = some (.xd fs)) ∧ (∀ u, RelV c u → u = cv) ∧ PySem.W.kitOne K (.ref D) cv = some b ∧ Q (.bl b) H
/-- isinstance(e, c), e the exception that the suite holds -/
theorem isSK {X : Cx} (K : PySem.W.Frag) {a : Addr} {cls : Value} {d : Option Addr} {oe : Obj} {pn : List (Addr × Obj)} (hz : Zc cls d oe) (hf : ∃ vs, oe.data = .fields vs) (hK : X.K = K := by rfl) : CallR (X.suite a ((a, oe) :: pn)) (.builtin "isinstance") (rIsS K a cls d) := by
  subst hK
  intro pins s σ H xs us Q I r h
  obtain ⟨D, c, cv, b, rfl, rfl, hC, hd, hcv, ek, q⟩ := h
  cases r with
  | cons rx rr =>
    cases rr with
    | cons rt rr =>
      cases rr
      cases rx
      obtain rfl := hcv _ rt
      obtain ⟨hget, _⟩ := I.pin (a, oe) (List.mem_append.mpr (.inl List.mem_cons_self))
      obtain ⟨vs, hv⟩ := hf
      have J : ∃ ox od, PySem.W.InstAt s.heap a ox D od := by
        have nc : PySem.W.notCls oe = true := by unfold PySem.W.notCls; rw [hv] <;> rfl
        cases d with
        | none => exact ⟨oe, none, hget, hz.1, nc, by rw [hz.2]; trivial⟩
        | some dd =>
          obtain ⟨fs, hx⟩ := hd dd rfl
          have hx : ObjOk X.prog X.w H s.heap dd (.xd fs) := I.hok dd _ hx
          obtain ⟨mA, hns, _⟩ := hx
          obtain ⟨od, hod, _⟩ := lookIn_ns hns
          exact ⟨oe, some od, hget, hz.1, nc, by rw [hz.2]; exact hod⟩
      exact PySem.W.kia_one (kitx_err hC) I.kIn J ek (fun z => nomatch z) fun tk => ⟨.bl b, H, I.kept (t' := tk) fun _ _ z => z, rfl, q⟩
/-- e.f, e a ref to an exception with a dict -/
def rXv (C : Addr) (f : Str) : V → Hp → VK → Prop := fun x H1 Q => ∃ (a dd : Addr) (fs : List (Str × V)) (v : V), x = .ref a ∧ H1 a = some (exo a C (some dd)) ∧ H1 dd = some (exd dd fs) ∧ fs.lookup f = some v ∧ Q v H1
theorem pe_xv {X : Cx} {C : Addr} {e : Expr} {te : TE} {pos : Pos} {n : Str} (T : XfC X.K C) (hno : PySem.W.findIn X.K (.ref C) n = some none) (he : PE X e te) (hb : attributeBase e n X.env (eval e X.env) = eval e X.env := by rfl) :
    PE X (.Attribute e n pos) (fun σ H Q => te σ H fun x H1 => rXv C n x H1 Q) := by
  refine ⟨fun pins s σ H Q I h => attr_of hb (thn (he.run pins s σ H _ I h) fun u s1 hh => ?_)⟩
  obtain ⟨x, H1, I1, rx, a, dd, fs, v, rfl, ha, ea, l, q⟩ := hh
  obtain rfl : u = Value.ref a := rx
  obtain ⟨t1, ho⟩ := exo_at I1.hok ha
  obtain ⟨mA, hns, hr⟩ := exd_at I1.hok ea
  obtain ⟨od, hod, hl⟩ := lookIn_ns hns
  obtain ⟨u, hu, ru⟩ := RelO.some_of (v := v) (o := mA n) (by rw [← l]; exact hr n)
  have J : PySem.W.InstAt s1.heap a _ C (some od) := ⟨ho, rfl, rfl, hod⟩
  exact HandSPX.exc_get I1.kIn J T.ga T.gg T.exC (PySem.W.findObj_own T.hdC hno rfl (by rw [hl, hu])) (handed_of ru) ⟨v, H1, I1.tok _, ru, q⟩
theorem isXK {X : Cx} (K : PySem.W.Frag) (hK : X.K = K := by rfl) : CallR X (.builtin "isinstance") (rIsX K) := by
  subst hK; exact call_isX
theorem kit_self {K : PySem.W.Frag} {t : Value} : PySem.W.kitOne K t t = some true := if_pos (beq_self_eq_true t)
inductive KRow (K : PySem.W.Frag) (t : Value) : List Addr → List Bool → Prop
  | nil : KRow K t [] []
  | cons {c : Addr} {b : Bool} {cs : List Addr} {bs : List Bool} (h : PySem.W.kitOne K t (.ref c) = some b) (r : KRow K t cs bs) : KRow K t (c :: cs) (b :: bs)
structure ErrC (K : PySem.W.Frag) (cs : List Addr) (top D : Addr) (bs : List Bool) : Prop where
  ec : ExcC K D
  row : KRow K (.ref D) cs bs
  card : PySem.W.kitOne K (.ref D) (.ref top) = some true
  val : PySem.W.kitOne K (.ref D) (.type "ValueError") = some true

/-! ### e[i].replace(y, z), y and z written -/
def rRepl (y z : Str) : V → Hp → VK → Prop := fun v H1 Q => ∃ x, v = .str x ∧ x.length + (x.length + 1) * z.length ≤ 16777216 ∧ Q (.str (Txt.replace x y z)) H1
theorem pe_replIx (K : PySem.W.Frag) {X : Cx} {o : Expr} {to : TE} {y z : Str} {i : Int} {j k l : Nat} {c0 c1 c2 apos ps pos : Pos} (ho : PE X o to) (hK : X.K = K := by rfl) (hyz : (y == z) = false := by decide)
    (hst : starEach [.Constant (.str y) j c0, .Constant (.str z) k c1] X.env = [(false, eval (.Constant (.str y) j c0) X.env), (false, eval (.Constant (.str z) k c1) X.env)] := by rfl)
    (hbase : attributeBase (.Subscript o (.Constant (.int i) l c2) ps) "replace" X.env (eval (.Subscript o (.Constant (.int i) l c2) ps) X.env) = eval (.Subscript o (.Constant (.int i) l c2) ps) X.env := by rfl) (hline : (apos.endLine == pos.line) = true := by rfl) :
    PE X (.Call (.Attribute (.Subscript o (.Constant (.int i) l c2) ps) "replace" apos) [.Constant (.str y) j c0, .Constant (.str z) k c1] [] pos) (fun σ H Q => to σ H fun x H1 => rIxT K x (.int i) H1 fun v H2 => rRepl y z v H2 Q) := by
  subst hK
  refine ⟨fun pins s σ H Q I h => PySem.Call_method2 hbase hst hline (Subscript_ (thn (ho.run pins s σ H _ I h) fun v s1 hh => wpAny_Constant_int ?_))⟩
  obtain ⟨x, H1, I1, rx, q1⟩ := hh
  refine wpAny_mono (PySem.wpAny_toks (ix_tup o (.Constant (.int i) l c2) pins _ σ H1 x (.int i) v (.int i s1.toks) _ (I1.tok (s1.toks + 1)) rx ⟨_, rfl⟩ q1 (by rfl))) (fun v2 s2 q => ?_) fun _ _ w => w.2
  obtain ⟨hk, v', H2, I3, r3, x2, rfl, hb, q⟩ := q
  obtain ⟨tx, rfl⟩ := r3
  have hk : 1 ≤ s2.toks := Nat.le_trans (Nat.succ_le_succ (Nat.zero_le _)) hk
  refine ⟨"str", _, PySem.F.plainAttrs_str, PySem.F.slot_str_replace, PySem.F.type_str_replace, typeIs_str _ _ _, (fun _ e => nomatch e), Calls.callWith_builtin rfl (Calls.evalArgs_plain (Calls.spliced_cons (Calls.Constant_str (Calls.spliced_cons (Calls.Constant_str (Calls.spliced_nil ?_))))))⟩
  exact PySem.SC.replace (by show s2.toks ≠ 0; omega) (by show s2.toks + 1 ≠ 0; omega) (by show s2.toks ≠ s2.toks + 1; omega) hyz hb fun t' tk => ⟨.str (Txt.replace x2 y z), H2, I3.tok tk, ⟨t', rfl⟩, q⟩
theorem repl_one : ∀ l : List Nat, StrLaws.replL [34] [] l = l.filter fun c => !decide (c = 34)
  | [] => StrLaws.replL_nil
  | c :: r => by
    by_cases h : c = 34
    · subst h
      rw [StrLaws.replL_hit (by simp) rfl, List.filter_cons_of_neg (by simp)]
      exact repl_one r
    · rw [StrLaws.replL_miss (by simpa using h), List.filter_cons_of_pos (by simp [h]), repl_one r]
theorem unquote (w : Str) : (Txt.replace w (Str.ofString "\"") (Str.ofString "")).cps.toList = w.cps.toList.filter fun c => !decide (c = 34) := by
  rw [StrLaws.replace_list (by decide +kernel)]
  exact repl_one _

local macro_rules | `(tactic| walk_at "rd") => `(tactic| try simp only [L2.start, cxOf, tVar, tC, tOp, tUn, rI0, rI, rU, tCB, tCons, tNil, tAsg, tAug, ipI, gName, gSub, tDrop, tSub, tAdd, tMul, tCmp, t2I, tIsN, tNotN, tRet, tDGet_eq, sDPut_eq, tMeth_eq, tMethS_eq, tMkO_eq, tOst_eq, tXf_eq, iRevR_eq, tRg1_eq, tRg2_eq, tLstRg_eq, tRevL_eq, tMake, tFld_eq, sFld_eq, sFldAug_eq, rSub, rAdd, tCallS, tDisp, tPairs, rIntA, tDNewK, wipe, tFor_J, tLc_J, iRng1, iRng2, iList, iTup, iStr, tM1, tM0, tBM, tBM0, tSl, tPart, tNoPart, tLst, tTup, sizeLine_eq, Nat.reduceLeDiff, true_and, tIfS, tTest, tB, tAnd, tOr, tNot, tAndV, tOrV, tNotV, tChain, rEq, rNe, rNotB, rIsB, sc_ii, sc_ss, sc_bb, sc_in, sc_ni, sc_nn, sc_is, sc_si, sc_ns, sc_sn, sc_bn, sc_nb, sc_sb, sc_bs, tCall, tNext,  List.map, List.length, List.replicate, List.cons_append, List.nil_append, List.append_nil, List.getElem?_cons_zero, List.getElem?_cons_succ, List.set_cons_zero, List.set_cons_succ, Option.some.injEq, exists_eq_left', exists_eq_left, exists_eq', V.int.injEq, V.str.injEq, V.ref.injEq, V.bl.injEq, List.cons.injEq, and_true, true_and, and_assoc, exists_and_left, Int.reduceLT, Int.reduceNeg, Int.reduceLE, ↓reduceIte, Bool.false_eq_true, Bool.not_true, Bool.not_false, reduceCtorEq, false_and, and_false, exists_false, or_false, false_or, Nat.reduceAdd, Nat.reduceSub, decide_eq_true_eq, decide_true, decide_false])

def topS (i : Nat) : Stmt := PySem.Challenge.pw_warycard_k06_texts_that_cannot_be_split.main.body.getD i (.Pass ⟨0, 0, 0, 0⟩)
abbrev s_BadSource_init : Stmt := inClass (topS 2) 0
theorem sc_BadSource_init : FnScope ["self", "line", "reason"] ["self", "line", "reason"] (defScope s_BadSource_init) := ⟨rfl, rfl, rfl, by decide +kernel, rfl, by decide +kernel, by decide +kernel⟩
abbrev s_is_printable : Stmt := topS 14
theorem sc_is_printable : FnScope ["value", "char"] ["value"] (defScope s_is_printable) := ⟨rfl, rfl, rfl, by decide +kernel, rfl, by decide +kernel, by decide +kernel⟩
abbrev s_is_name : Stmt := topS 15
theorem sc_is_name : FnScope ["value", "char"] ["value"] (defScope s_is_name) := ⟨rfl, rfl, rfl, by decide +kernel, rfl, by decide +kernel, by decide +kernel⟩
abbrev s_is_text : Stmt := topS 16
theorem sc_is_text : FnScope ["value"] ["value"] (defScope s_is_text) := ⟨rfl, rfl, rfl, by decide +kernel, rfl, by decide +kernel, by decide +kernel⟩
abbrev s_word_end : Stmt := topS 23
theorem sc_word_end : FnScope ["text", "start", "end"] ["text", "start"] (defScope s_word_end) := ⟨rfl, rfl, rfl, by decide +kernel, rfl, by decide +kernel, by decide +kernel⟩
abbrev s_comment_end : Stmt := topS 24
theorem sc_comment_end : FnScope ["text", "start", "line", "end"] ["text", "start", "line"] (defScope s_comment_end) := ⟨rfl, rfl, rfl, by decide +kernel, rfl, by decide +kernel, by decide +kernel⟩
abbrev s_number_of : Stmt := topS 25
theorem sc_number_of : FnScope ["word", "line", "char"] ["word", "line"] (defScope s_number_of) := ⟨rfl, rfl, rfl, by decide +kernel, rfl, by decide +kernel, by decide +kernel⟩
abbrev s_word_token : Stmt := topS 26
theorem sc_word_token : FnScope ["word", "line"] ["word", "line"] (defScope s_word_token) := ⟨rfl, rfl, rfl, by decide +kernel, rfl, by decide +kernel, by decide +kernel⟩
abbrev s_token_at : Stmt := topS 27
theorem sc_token_at : FnScope ["text", "start", "line", "char", "end", "kind", "value"] ["text", "start", "line"] (defScope s_token_at) := ⟨rfl, rfl, rfl, by decide +kernel, rfl, by decide +kernel, by decide +kernel⟩
abbrev s_tokens : Stmt := topS 28
theorem sc_tokens : FnScope ["text", "found", "line", "index", "kind", "value"] ["text"] (defScope s_tokens) := ⟨rfl, rfl, rfl, by decide +kernel, rfl, by decide +kernel, by decide +kernel⟩
abbrev s_is_tree : Stmt := topS 45
theorem sc_is_tree : FnScope ["value", "_", "uses", "faces", "classes", "applets", "part", "row", "applet", "use", "face"] ["value"] (defScope s_is_tree) := ⟨rfl, rfl, rfl, by decide +kernel, rfl, by decide +kernel, by decide +kernel⟩
abbrev s_Cursor_init : Stmt := inClass (topS 49) 0
theorem sc_Cursor_init : FnScope ["self", "text"] ["self", "text"] (defScope s_Cursor_init) := ⟨rfl, rfl, rfl, by decide +kernel, rfl, by decide +kernel, by decide +kernel⟩
abbrev s_Reader_read_package : Stmt := inClass (topS 59) 0
theorem sc_Reader_read_package : FnScope ["self", "head", "uses", "faces", "classes", "applets"] ["self"] (defScope s_Reader_read_package) := ⟨rfl, rfl, rfl, by decide +kernel, rfl, by decide +kernel, by decide +kernel⟩
abbrev s_parse : Stmt := topS 60
theorem sc_parse : FnScope ["text", "tree"] ["text"] (defScope s_parse) := ⟨rfl, rfl, rfl, by decide +kernel, rfl, by decide +kernel, by decide +kernel⟩
abbrev s_law_bag : Stmt := topS 62
theorem sc_law_bag : FnScope ["_law_script", "_law_k", "_law_cell"] ["_law_script", "_law_k"] (defScope s_law_bag) := ⟨rfl, rfl, rfl, by decide +kernel, rfl, by decide +kernel, by decide +kernel⟩
abbrev s_law_draw : Stmt := topS 63
theorem sc_law_draw : FnScope ["_law_bag_here", "_law_many", "_law_seed", "_law_rest"] ["_law_bag_here", "_law_many"] (defScope s_law_draw) := ⟨rfl, rfl, rfl, by decide +kernel, rfl, by decide +kernel, by decide +kernel⟩
abbrev s_law_letters : Stmt := topS 64
theorem sc_law_letters : FnScope ["_law_bag_here", "_law_many", "_law_letters_here", "_law_k"] ["_law_bag_here", "_law_many"] (defScope s_law_letters) := ⟨rfl, rfl, rfl, by decide +kernel, rfl, by decide +kernel, by decide +kernel⟩
abbrev s_law_text : Stmt := topS 65
theorem sc_law_text : FnScope ["_law_bag_here", "_law_signs", "_law_k"] ["_law_bag_here"] (defScope s_law_text) := ⟨rfl, rfl, rfl, by decide +kernel, rfl, by decide +kernel, by decide +kernel⟩
abbrev s_law_keys : Stmt := topS 66
theorem sc_law_keys : FnScope ["_law_words"] [] (defScope s_law_keys) := ⟨rfl, rfl, rfl, by decide +kernel, rfl, by decide +kernel, by decide +kernel⟩
abbrev s_law_name : Stmt := topS 67
theorem sc_law_name : FnScope ["_law_bag_here", "_law_pick", "_law_word"] ["_law_bag_here"] (defScope s_law_name) := ⟨rfl, rfl, rfl, by decide +kernel, rfl, by decide +kernel, by decide +kernel⟩
abbrev s_law_token : Stmt := topS 68
theorem sc_law_token : FnScope ["_law_bag_here", "_law_pick", "_law_keys_here", "_law_word", "_law_number", "_law_text_here", "_law_signs", "_law_sign"] ["_law_bag_here"] (defScope s_law_token) := ⟨rfl, rfl, rfl, by decide +kernel, rfl, by decide +kernel, by decide +kernel⟩
abbrev s_law_is_word : Stmt := topS 69
theorem sc_law_is_word : FnScope ["_law_sign"] ["_law_sign"] (defScope s_law_is_word) := ⟨rfl, rfl, rfl, by decide +kernel, rfl, by decide +kernel, by decide +kernel⟩
abbrev s_law_gap : Stmt := topS 70
theorem sc_law_gap : FnScope ["_law_bag_here", "_law_left", "_law_right", "_law_needed", "_law_pick"] ["_law_bag_here", "_law_left", "_law_right"] (defScope s_law_gap) := ⟨rfl, rfl, rfl, by decide +kernel, rfl, by decide +kernel, by decide +kernel⟩
abbrev s_law_laid : Stmt := topS 71
theorem sc_law_laid : FnScope ["_law_bag_here", "_law_words", "_law_text_here", "_law_k"] ["_law_bag_here", "_law_words"] (defScope s_law_laid) := ⟨rfl, rfl, rfl, by decide +kernel, rfl, by decide +kernel, by decide +kernel⟩
abbrev s_law_fault : Stmt := topS 72
theorem sc_law_fault : FnScope ["_law_bag_here", "_law_faults"] ["_law_bag_here"] (defScope s_law_fault) := ⟨rfl, rfl, rfl, by decide +kernel, rfl, by decide +kernel, by decide +kernel⟩
abbrev s_law_line : Stmt := topS 73
theorem sc_law_line : FnScope ["_law_value", "e"] ["_law_value"] (defScope s_law_line) := ⟨rfl, rfl, rfl, by decide +kernel, rfl, by decide +kernel, by decide +kernel⟩
abbrev s_law_parsed : Stmt := topS 74
theorem sc_law_parsed : FnScope ["_law_value", "e"] ["_law_value"] (defScope s_law_parsed) := ⟨rfl, rfl, rfl, by decide +kernel, rfl, by decide +kernel, by decide +kernel⟩
abbrev s_law : Stmt := topS 75
theorem sc_law : FnScope ["_law_script", "_law_k", "_law_bag_here", "_law_words", "_law_text_here", "_law_line_here", "_law_value", "_law_j"] ["_law_script"] (defScope s_law) := ⟨rfl, rfl, rfl, by decide +kernel, rfl, by decide +kernel, by decide +kernel⟩
/-- what the top has left -/
structure Txt (K : PySem.W.Frag) (mg : Str → Option Value) where
  f_BadSource_init : Addr
  d_BadSource_init : FuncData
  k_BadSource_init : Fun K "__init__" "BadSource.__init__" s_BadSource_init f_BadSource_init d_BadSource_init
  b_BadSource_init : Binds K d_BadSource_init ["self", "line", "reason"] []
  f_is_printable : Addr
  d_is_printable : FuncData
  k_is_printable : Fun K "is_printable" "is_printable" s_is_printable f_is_printable d_is_printable
  b_is_printable : Binds K d_is_printable ["value"] []
  g_is_printable : mg "is_printable" = some (.ref f_is_printable)
  f_is_name : Addr
  d_is_name : FuncData
  k_is_name : Fun K "is_name" "is_name" s_is_name f_is_name d_is_name
  b_is_name : Binds K d_is_name ["value"] []
  g_is_name : mg "is_name" = some (.ref f_is_name)
  f_is_text : Addr
  d_is_text : FuncData
  k_is_text : Fun K "is_text" "is_text" s_is_text f_is_text d_is_text
  b_is_text : Binds K d_is_text ["value"] []
  g_is_text : mg "is_text" = some (.ref f_is_text)
  f_word_end : Addr
  d_word_end : FuncData
  k_word_end : Fun K "word_end" "word_end" s_word_end f_word_end d_word_end
  b_word_end : Binds K d_word_end ["text", "start"] []
  g_word_end : mg "word_end" = some (.ref f_word_end)
  f_comment_end : Addr
  d_comment_end : FuncData
  k_comment_end : Fun K "comment_end" "comment_end" s_comment_end f_comment_end d_comment_end
  b_comment_end : Binds K d_comment_end ["text", "start", "line"] []
  g_comment_end : mg "comment_end" = some (.ref f_comment_end)
  f_number_of : Addr
  d_number_of : FuncData
  k_number_of : Fun K "number_of" "number_of" s_number_of f_number_of d_number_of
  b_number_of : Binds K d_number_of ["word", "line"] []
  g_number_of : mg "number_of" = some (.ref f_number_of)
  f_word_token : Addr
  d_word_token : FuncData
  k_word_token : Fun K "word_token" "word_token" s_word_token f_word_token d_word_token
  b_word_token : Binds K d_word_token ["word", "line"] []
  g_word_token : mg "word_token" = some (.ref f_word_token)
  f_token_at : Addr
  d_token_at : FuncData
  k_token_at : Fun K "token_at" "token_at" s_token_at f_token_at d_token_at
  b_token_at : Binds K d_token_at ["text", "start", "line"] []
  g_token_at : mg "token_at" = some (.ref f_token_at)
  f_tokens : Addr
  d_tokens : FuncData
  k_tokens : Fun K "tokens" "tokens" s_tokens f_tokens d_tokens
  b_tokens : Binds K d_tokens ["text"] []
  g_tokens : mg "tokens" = some (.ref f_tokens)
  f_is_tree : Addr
  d_is_tree : FuncData
  k_is_tree : Fun K "is_tree" "is_tree" s_is_tree f_is_tree d_is_tree
  b_is_tree : Binds K d_is_tree ["value"] []
  g_is_tree : mg "is_tree" = some (.ref f_is_tree)
  f_Cursor_init : Addr
  d_Cursor_init : FuncData
  k_Cursor_init : Fun K "__init__" "Cursor.__init__" s_Cursor_init f_Cursor_init d_Cursor_init
  b_Cursor_init : Binds K d_Cursor_init ["self", "text"] []
  f_Reader_read_package : Addr
  d_Reader_read_package : FuncData
  k_Reader_read_package : Fun K "read_package" "Reader.read_package" s_Reader_read_package f_Reader_read_package d_Reader_read_package
  b_Reader_read_package : Binds K d_Reader_read_package ["self"] []
  f_parse : Addr
  d_parse : FuncData
  k_parse : Fun K "parse" "parse" s_parse f_parse d_parse
  b_parse : Binds K d_parse ["text"] []
  g_parse : mg "parse" = some (.ref f_parse)
  f_law_bag : Addr
  d_law_bag : FuncData
  k_law_bag : Fun K "_law_bag" "_law_bag" s_law_bag f_law_bag d_law_bag
  b_law_bag : Binds K d_law_bag ["_law_script", "_law_k"] []
  g_law_bag : mg "_law_bag" = some (.ref f_law_bag)
  f_law_draw : Addr
  d_law_draw : FuncData
  k_law_draw : Fun K "_law_draw" "_law_draw" s_law_draw f_law_draw d_law_draw
  b_law_draw : Binds K d_law_draw ["_law_bag_here", "_law_many"] []
  g_law_draw : mg "_law_draw" = some (.ref f_law_draw)
  f_law_letters : Addr
  d_law_letters : FuncData
  k_law_letters : Fun K "_law_letters" "_law_letters" s_law_letters f_law_letters d_law_letters
  b_law_letters : Binds K d_law_letters ["_law_bag_here", "_law_many"] []
  g_law_letters : mg "_law_letters" = some (.ref f_law_letters)
  f_law_text : Addr
  d_law_text : FuncData
  k_law_text : Fun K "_law_text" "_law_text" s_law_text f_law_text d_law_text
  b_law_text : Binds K d_law_text ["_law_bag_here"] []
  g_law_text : mg "_law_text" = some (.ref f_law_text)
  f_law_keys : Addr
  d_law_keys : FuncData
  k_law_keys : Fun K "_law_keys" "_law_keys" s_law_keys f_law_keys d_law_keys
  b_law_keys : Binds K d_law_keys [] []
  g_law_keys : mg "_law_keys" = some (.ref f_law_keys)
  f_law_name : Addr
  d_law_name : FuncData
  k_law_name : Fun K "_law_name" "_law_name" s_law_name f_law_name d_law_name
  b_law_name : Binds K d_law_name ["_law_bag_here"] []
  g_law_name : mg "_law_name" = some (.ref f_law_name)
  f_law_token : Addr
  d_law_token : FuncData
  k_law_token : Fun K "_law_token" "_law_token" s_law_token f_law_token d_law_token
  b_law_token : Binds K d_law_token ["_law_bag_here"] []
  g_law_token : mg "_law_token" = some (.ref f_law_token)
  f_law_is_word : Addr
  d_law_is_word : FuncData
  k_law_is_word : Fun K "_law_is_word" "_law_is_word" s_law_is_word f_law_is_word d_law_is_word
  b_law_is_word : Binds K d_law_is_word ["_law_sign"] []
  g_law_is_word : mg "_law_is_word" = some (.ref f_law_is_word)
  f_law_gap : Addr
  d_law_gap : FuncData
  k_law_gap : Fun K "_law_gap" "_law_gap" s_law_gap f_law_gap d_law_gap
  b_law_gap : Binds K d_law_gap ["_law_bag_here", "_law_left", "_law_right"] []
  g_law_gap : mg "_law_gap" = some (.ref f_law_gap)
  f_law_laid : Addr
  d_law_laid : FuncData
  k_law_laid : Fun K "_law_laid" "_law_laid" s_law_laid f_law_laid d_law_laid
  b_law_laid : Binds K d_law_laid ["_law_bag_here", "_law_words"] []
  g_law_laid : mg "_law_laid" = some (.ref f_law_laid)
  f_law_fault : Addr
  d_law_fault : FuncData
  k_law_fault : Fun K "_law_fault" "_law_fault" s_law_fault f_law_fault d_law_fault
  b_law_fault : Binds K d_law_fault ["_law_bag_here"] []
  g_law_fault : mg "_law_fault" = some (.ref f_law_fault)
  f_law_line : Addr
  d_law_line : FuncData
  k_law_line : Fun K "_law_line" "_law_line" s_law_line f_law_line d_law_line
  b_law_line : Binds K d_law_line ["_law_value"] []
  g_law_line : mg "_law_line" = some (.ref f_law_line)
  f_law_parsed : Addr
  d_law_parsed : FuncData
  k_law_parsed : Fun K "_law_parsed" "_law_parsed" s_law_parsed f_law_parsed d_law_parsed
  b_law_parsed : Binds K d_law_parsed ["_law_value"] []
  g_law_parsed : mg "_law_parsed" = some (.ref f_law_parsed)
  f_law : Addr
  d_law : FuncData
  k_law : Fun K "law" "law" s_law f_law d_law
  b_law : Binds K d_law ["_law_script"] []
  g_law : mg "law" = some (.ref f_law)
  c_CardError : Addr
  g_CardError : mg "CardError" = some (.ref c_CardError)
  c_BadSource : Addr
  g_BadSource : mg "BadSource" = some (.ref c_BadSource)
  c_Reader : Addr
  g_Reader : mg "Reader" = some (.ref c_Reader)
  ox_BadSource : OexC K c_BadSource
  in_BadSource : PySem.W.findIn K (.ref c_BadSource) "__init__" = some (some (.ref f_BadSource_init))
  ti_BadSource : PySem.W.typeIn K (.ref f_BadSource_init) = some (.type "function")
  on_BadSource_line : PySem.W.findIn K (.ref c_BadSource) "line" = some none
  on_BadSource_reason : PySem.W.findIn K (.ref c_BadSource) "reason" = some none
  xf_BadSource : XfC K c_BadSource
  ex_BadSource_BadSource : PySem.W.exmOne K (.ref c_BadSource) (.ref c_BadSource) = some true
  cl_Reader : Cls K c_Reader
  me_Reader_read_package : Meth K c_Reader "read_package" f_Reader_read_package
  mk_Reader : Mk K c_Reader f_Cursor_init
  er_BadSource : ErrC K [c_BadSource] c_CardError c_BadSource [true]
  m_all : mg "all" = none
  m_bool : mg "bool" = none
  m_int : mg "int" = none
  m_isinstance : mg "isinstance" = none
  m_len : mg "len" = none
  m_max : mg "max" = none
  m_min : mg "min" = none
  m_ord : mg "ord" = none
  m_range : mg "range" = none
  m_str : mg "str" = none
  m_tuple : mg "tuple" = none
  t_MOST_SOURCE : Tok
  g_MOST_SOURCE : mg "MOST_SOURCE" = some (.int (20000) t_MOST_SOURCE)
  t_MOST_NAME : Tok
  g_MOST_NAME : mg "MOST_NAME" = some (.int (20) t_MOST_NAME)
  t_MOST_TEXT : Tok
  g_MOST_TEXT : mg "MOST_TEXT" = some (.int (16) t_MOST_TEXT)
  t_MOST_INT : Tok
  g_MOST_INT : mg "MOST_INT" = some (.int (32767) t_MOST_INT)
  t_LETTERS : Tok
  g_LETTERS : mg "LETTERS" = some (.str "ABCDEFGHIJKLMNOPQRSTUVWXYZabcdefghijklmnopqrstuvwxyz" t_LETTERS)
  t_DIGITS : Tok
  g_DIGITS : mg "DIGITS" = some (.str "0123456789" t_DIGITS)
  a_KEYWORDS : Addr
  g_KEYWORDS : mg "KEYWORDS" = some (.ref a_KEYWORDS)
  s_KEYWORDS : ∀ H, SqT K H a_KEYWORDS [.str "abort", .str "and", .str "applet", .str "as", .str "begin", .str "buffer", .str "bytes", .str "catch", .str "class", .str "commit", .str "else", .str "face", .str "field", .str "has", .str "if", .str "int", .str "is", .str "mod", .str "new", .str "not", .str "nothing", .str "null", .str "of", .str "or", .str "package", .str "return", .str "seek", .str "size", .str "temp", .str "this", .str "throw", .str "try", .str "use", .str "while"]
  y_KEYWORDS : ∃ o, K.lookup a_KEYWORDS = some o ∧ o.cls = .type "tuple"
  a_PAIRS : Addr
  g_PAIRS : mg "PAIRS" = some (.ref a_PAIRS)
  s_PAIRS : ∀ H, SqT K H a_PAIRS [.str "<<", .str ">>", .str "==", .str "!=", .str "<=", .str ">="]
  y_PAIRS : ∃ o, K.lookup a_PAIRS = some o ∧ o.cls = .type "tuple"
  t_SINGLES : Tok
  g_SINGLES : mg "SINGLES" = some (.str "{}()[];,.=+-*/&|^<>" t_SINGLES)
  t_MOST_DIGITS : Tok
  g_MOST_DIGITS : mg "MOST_DIGITS" = some (.int (5) t_MOST_DIGITS)
section
variable {P : Program} {w : World} {K : PySem.W.Frag} {mg : Str → Option Value} {base : Heap}
/-! ### the draws -/
def sp_law_bag (K : PySem.W.Frag) : Sp := fun vs H Q _ => ∃ (a : Addr) (ns : List Int) (k : Nat), vs = [.ref a, .int k] ∧ SqL K H a (ns.map V.int) ∧ ∀ (p : Addr) (H' : Hp), H p = none → Bag H' p → Same H H' → Q (.ref p) H'
theorem bag_new {H : Hp} {p : Addr} {x y z : Int} : Bag (upd H p (.lst [.int x, .int y, .int z])) p := ⟨x, y, z, upd_same⟩
theorem ok_law_bag (T : Txt K mg) : FnOk P w K mg base CX0 1 T.f_law_bag T.d_law_bag ["_law_script", "_law_k"] (sp_law_bag K) := by
  refine T.k_law_bag.ok sc_law_bag (fun vs H Q E h => ?_) (fun cdv A outer s H vs Q E hr h => ?_)
  · obtain ⟨a, ns, k, rfl, _⟩ := h
    rfl
  · obtain ⟨a, ns, k, rfl, hS, q⟩ := h
    refine ⟨_, (pss_cons (ps_set (i := 2) sc_law_bag.nd rfl (.inl rfl) pe_int)
      (C8.pss_cut (ps_if (pt_cmpR op_lt (pv 1) (pe_callB (lenLK K) (by rfl) T.m_len (by decide +kernel) (pa_cons (pv 0) pa_nil)) (nomark _)) (pss_one (ps_set (i := 2) sc_law_bag.nd rfl (.inl rfl) (pe_callTy call_intI (by rfl) T.m_int (by decide +kernel) (pa_cons (pe_ix (ix_listK K) (pv 0) (pv 1) (fun _ _ => rfl)) pa_nil)))) pss_nil)
      (pss_cons (ps_if (pt_cmpR op_ge (pv 2) (pe_op op_pow pe_int pe_int) (nomark _)) (pss_one (ps_ret (pe_lst (pa_cons (pv 2) (pa_cons (pv 2) (pa_cons (pv 1) pa_nil)))))) pss_nil)
      (pss_one (ps_ret (pe_lst (pa_cons pe_int (pa_cons (pv 2) (pa_cons (pv 1) pa_nil))))))))), ?_⟩
    walk_at "rd"
    refine rdSeq ?_
    walk_at "rd"
    refine rdCut (fun σ H' => H' = H ∧ ∃ c : Int, σ = [some (V.ref a), some (V.int (k : Int)), some (V.int c)]) ?_ ?_
    · walk_at "rd"
      refine i_lenL hS ?_
      walk_at "rd"
      refine ite2 (fun hk => ?_) (fun _ => trivial)
      rw [List.length_map] at hk
      have hk : k < ns.length := by omega
      refine i_ixL hS (atI_nat (j := k) (by rw [List.getElem?_map, List.getElem?_eq_getElem hk]; rfl)) ?_
      walk_at "rd"
    · rintro σ H' ⟨rfl, c, rfl⟩
      refine rdSeq ?_
      walk_at "rd"
      refine ⟨pow18, ite2 (fun _ => ?_) (fun _ => ?_)⟩
      · exact fun p hp => q p _ hp bag_new (same_new hp)
      · walk_at "rd"
        exact fun p hp => q p _ hp bag_new (same_new hp)
def sp_law_draw (K : PySem.W.Frag) : Sp := fun vs H Q _ => ∃ (a : Addr) (m : Int), vs = [.ref a, .int m] ∧ Bag H a ∧ 0 < m ∧ m.natAbs < 2 ^ 200 ∧ ∀ (r : Int) (H' : Hp), 0 ≤ r → r < m → Mv a H H' → Q (.int r) H'
theorem mv_set {H : Hp} {a : Addr} {x y z : Int} : Mv a H (upd H a (.lst [.int x, .int y, .int z])) := ⟨bag_new, fun b o n e => by rw [upd_ne n]; exact e⟩
theorem draw_size {m : Int} (h0 : 0 < m) (h : m.natAbs < 2 ^ 200) : CDivW x m := wide_div h0 h (by decide) (by decide)
theorem ok_law_draw (T : Txt K mg) : FnOk P w K mg base CX0 1 T.f_law_draw T.d_law_draw ["_law_bag_here", "_law_many"] (sp_law_draw K) := by
  refine T.k_law_draw.ok sc_law_draw (fun vs H Q E h => ?_) (fun cdv A outer s H vs Q E hr h => ?_)
  · obtain ⟨a, m, rfl, _⟩ := h
    rfl
  · obtain ⟨a, m, rfl, ⟨x, y, z, hB⟩, hm, hm2, q⟩ := h
    refine ⟨_, (C8.pss_cut (ps_if (pt_cmpR op_eq (pe_ix (ix_listK K) (pv 0) pe_int (fun _ _ => rfl)) pe_int (nomark _)) (pss_cons (ps_set (i := 2) sc_law_draw.nd rfl (.inl rfl) (pe_op op_modP (pe_callTy call_intI (by rfl) T.m_int (by decide +kernel) (pa_cons (pe_op op_add (pe_op op_add (pe_op op_mul (pe_ix (ix_listK K) (pv 0) pe_int (fun _ _ => rfl)) pe_int) (pe_op op_mul (pe_ix (ix_listK K) (pv 0) pe_int (fun _ _ => rfl)) pe_int)) pe_int) pa_nil)) pe_int))
      (pss_cons (ps_asg (pe_op op_add (pe_op op_mul (pv 2) pe_int) (pe_op op_modP (pe_callTy call_intI (by rfl) T.m_int (by decide +kernel) (pa_cons (pe_op op_add (pe_op op_mul (pv 2) (pv 2)) (pe_op op_mul (pe_ix (ix_listK K) (pv 0) pe_int (fun _ _ => rfl)) pe_int)) pa_nil)) pe_int)) (pg_sub (pv 0) pe_int set_list))
      (pss_one (ps_asg (pv 2) (pg_sub (pv 0) pe_int set_list))))) pss_nil)
      (pss_cons (ps_set (i := 3) sc_law_draw.nd rfl (.inl rfl) (pe_ix (ix_listK K) (pv 0) pe_int (fun _ _ => rfl)))
      (pss_cons (ps_asg (pe_op op_fdivW (pv 3) (pv 1)) (pg_sub (pv 0) pe_int set_list))
      (pss_one (ps_ret (pe_op op_modP (pe_callTy call_intI (by rfl) T.m_int (by decide +kernel) (pa_cons (pv 3) pa_nil)) (pv 1))))))), ?_⟩
    refine rdCut (fun σ H' => ∃ (x1 y1 z1 : Int) (u : Option V), H' a = some (.lst [.int x1, .int y1, .int z1]) ∧ Mv a H H' ∧ σ = [some (V.ref a), some (V.int m), u, none]) ?_ ?_
    · walk_at "rd"
      refine i_ixL (sqL_of hB) (v := .int x) rfl ?_
      walk_at "rd"
      refine ite2 (fun _ => ?_) (fun _ => ⟨x, y, z, hB, Mv.refl ⟨x, y, z, hB⟩⟩)
      refine rdSeq ?_
      walk_at "rd"
      refine i_ixL (sqL_of hB) (v := .int y) rfl ?_
      walk_at "rd"
      refine ⟨cm_r (by decide), i_ixL (sqL_of hB) (v := .int z) rfl ?_⟩
      walk_at "rd"
      refine ⟨cm_r (by decide), ?_⟩
      have h0 := Int.emod_nonneg (y * 48271 + z * 69621 + 11) (show (2147483647 : Int) ≠ 0 by decide)
      have h1 := Int.emod_lt_of_pos (y * 48271 + z * 69621 + 11) (show (0 : Int) < 2147483647 by decide)
      generalize (y * 48271 + z * 69621 + 11) % 2147483647 = sd at h0 h1
      refine rdSeq ?_
      walk_at "rd"
      refine ⟨cm_r (by decide), .inl ⟨by omega, by omega⟩, i_ixL (sqL_of hB) (v := .int z) rfl ?_⟩
      walk_at "rd"
      refine ⟨cm_r (by decide), i_setL hB (j := 0) rfl ?_⟩
      walk_at "rd"
      refine i_setL upd_same (j := 1) rfl ?_
      walk_at "rd"
      rw [upd_upd]
      exact ⟨_, _, _, upd_same, mv_set⟩
    · rintro σ H1 ⟨x1, y1, z1, u, h1, mv, rfl⟩
      refine rdSeq ?_
      walk_at "rd"
      refine i_ixL (sqL_of h1) (v := .int x1) rfl ?_
      refine rdSeq ?_
      walk_at "rd"
      refine ⟨draw_size hm hm2, i_setL h1 (j := 0) rfl ?_⟩
      walk_at "rd"
      refine ⟨hm, q _ _ (Int.emod_nonneg _ (by omega)) (Int.emod_lt_of_pos _ hm) (mv.trans mv_set)⟩
theorem i_draw {K : PySem.W.Frag} {H0 H : Hp} {a : Addr} {m : Int} {Q : VK} {E : XK} (mv : Mv a H0 H) (hm : 0 < m) (hs : m.natAbs < 2 ^ 200) (q : ∀ (r : Int) (H' : Hp), 0 ≤ r → r < m → Mv a H H' → Mv a H0 H' → Q (.int r) H') : sp_law_draw K [.ref a, .int m] H Q E :=
  ⟨a, m, rfl, mv.bag, hm, hs, fun r H' h0 h1 mv' => q r H' h0 h1 mv' (mv.trans mv')⟩
theorem at_int {ns : List Int} {i : Int} (h0 : 0 ≤ i) (h1 : i < ns.length) : ∃ v, atI (ns.map V.int) i = some (.int v) ∧ v ∈ ns := by
  obtain ⟨j, rfl⟩ := Int.eq_ofNat_of_zero_le h0
  have hi : j < ns.length := by omega
  exact ⟨ns[j], atI_nat (by rw [List.getElem?_map, List.getElem?_eq_getElem hi]; rfl), List.getElem_mem hi⟩


/-! ### texts.py -/
/-- not a text, by its type -/
def OddS (K : PySem.W.Frag) (H : Hp) (x : V) : Prop := ∃ t, TyX K H x (.type t) ∧ kitB t "str" = some false
def prn (c : Nat) : Bool := decide (32 ≤ c) && (decide (c ≤ 126) && !decide (c = 37))
def sp_is_printable (K : PySem.W.Frag) : Sp := fun vs H Q _ => ∃ x : V, vs = [x] ∧ ((∃ z : Str, x = .str z ∧ z.length ≤ 100000 ∧ ∀ H', Same H H' → Q (.bl (z.cps.toList.all prn)) H') ∨ (OddS K H x ∧ Q (.bl false) H))
theorem ok_is_printable (T : Txt K mg) : FnOk P w K mg base CX0 1 T.f_is_printable T.d_is_printable ["value"] (sp_is_printable K) := by
  refine T.k_is_printable.ok sc_is_printable (fun vs H Q E h => ?_) (fun cdv A outer s H vs Q E hr h => ?_)
  · obtain ⟨x, rfl, _⟩ := h
    rfl
  · obtain ⟨x, rfl, h⟩ := h
    refine ⟨_, (pss_cons (ps_if (pt_not (pt_val (pe_callB (isiK K) (by rfl) T.m_isinstance (by decide +kernel) (pa_cons (pv 0) (pa_cons (pe_bltn (v := .ty "str") (by rfl) T.m_str (by decide +kernel) rfl) pa_nil))))) (pss_one (ps_ret pe_bl)) pss_nil)
      (pss_one (ps_ret (pe_callB (cr_all rfl) (by rfl) T.m_all (by decide +kernel) (pa_cons (pe_lc (own := [("char", 1)]) (g := gName 1) (tt := tYes) rfl sc_is_printable.nd (pi_str (pv 0)) (blkOk_by (own := [("char", 1)]) (N := ["value", "char"]) (sc := defScope s_is_printable) (by decide +kernel)) (fun _ _ _ _ _ => pg_name (i := 1) sc_is_printable.nd rfl (Or.inl rfl)) (fun _ _ _ _ _ => pts_nil) (fun _ _ _ _ _ => (pe_and (pe_chain op_leC op_leC pe_str (pv 1) pe_str) (pe_one (pe_cmpR op_ne (pe_callB call_ordC (by rfl) T.m_ord (by decide +kernel) (pa_cons (pv 1) pa_nil)) pe_int (nomark _)))))) pa_nil))))), ?_⟩
    walk_at "rd"
    refine rdSeq ?_
    walk_at "rd"
    rcases h with ⟨z, rfl, hz, q⟩ | ⟨⟨t, ty, ht⟩, q⟩
    · refine i_isi ty_str kb_ss ?_
      walk_at "rd"
      refine i_lcL (walk_chars (z := z)) (fun c => .bl (prn c)) (by rw [Array.length_toList]; exact line5' hz) (fun _ _ _ => trivial) (fun c hc H1 Q' sm q' => ?_) (fun D hD => ?_)
      · walk_at "rd"
        refine i_leC (c := 32) (d := c) rfl rfl ?_
        walk_at "rd"
        unfold prn at q'
        refine ite2 (fun h1 => i_leC (c := c) (d := 126) rfl rfl ?_) (fun h1 => by rw [decide_eq_false h1] at q'; exact q')
        rw [decide_eq_true h1] at q'
        walk_at "rd"
        refine ite2 (fun h2 => i_ordC rfl ⟨rfl, ?_⟩) (fun h2 => by rw [decide_eq_false h2] at q'; exact q')
        rw [decide_eq_true h2] at q'
        have e : decide (V.int (c : Int) = V.int 37) = decide (c = 37) := by
          by_cases h : c = 37
          · subst h; rfl
          · rw [decide_eq_false h, decide_eq_false]
            intro k; injection k with k; omega
        rw [e]
        exact q'
      · refine i_all (bs := z.cps.toList.map prn) (by rw [upd_same, List.map_map]; rfl) ?_
        rw [List.all_map]
        exact q _ (same_new hD)
    · refine i_isi ty ht ?_
      walk_at "rd"
      exact q
def letC (c : Nat) : Bool := decide (c ∈ ("ABCDEFGHIJKLMNOPQRSTUVWXYZabcdefghijklmnopqrstuvwxyz" : Str).cps.toList)
def digC (c : Nat) : Bool := decide (c ∈ ("0123456789" : Str).cps.toList)
def nameC (l : List Nat) : Bool := decide (1 ≤ l.length ∧ l.length ≤ 20) && (letC (l.headD 0) && l.all fun c => letC c || digC c)
def sp_is_name (K : PySem.W.Frag) : Sp := fun vs H Q _ => ∃ x : V, vs = [x] ∧ ((∃ z : Str, x = .str z ∧ z.length ≤ 100000 ∧ ∀ H', Same H H' → Q (.bl (nameC z.cps.toList)) H') ∨ (OddS K H x ∧ Q (.bl false) H))
theorem ok_is_name (T : Txt K mg) : FnOk P w K mg base CX0 1 T.f_is_name T.d_is_name ["value"] (sp_is_name K) := by
  refine T.k_is_name.ok sc_is_name (fun vs H Q E h => ?_) (fun cdv A outer s H vs Q E hr h => ?_)
  · obtain ⟨x, rfl, _⟩ := h
    rfl
  · obtain ⟨x, rfl, h⟩ := h
    refine ⟨_, (pss_cons (ps_if (PW.pt (pw_or (pt_not (pt_val (pe_callB (isiK K) (by rfl) T.m_isinstance (by decide +kernel) (pa_cons (pv 0) (pa_cons (pe_bltn (v := .ty "str") (by rfl) T.m_str (by decide +kernel) rfl) pa_nil))))) (pw_or (pt_not (pt_chain op_le op_le pe_int (pe_callB call_lenS (by rfl) T.m_len (by decide +kernel) (pa_cons (pv 0) pa_nil)) (pe_glob (v := .int _) rfl T.g_MOST_NAME ⟨_, rfl⟩))) (pw_or1 (pt_cmpR op_notInC (pe_ix ix_str (pv 0) pe_int (fun _ _ => rfl)) (pe_glob (v := .str _) rfl T.g_LETTERS ⟨_, rfl⟩) rfl))))) (pss_one (ps_ret pe_bl)) pss_nil)
      (pss_one (ps_ret (pe_callB (cr_all rfl) (by rfl) T.m_all (by decide +kernel) (pa_cons (pe_lc (own := [("char", 1)]) (g := gName 1) (tt := tYes) rfl sc_is_name.nd (pi_str (pv 0)) (blkOk_by (own := [("char", 1)]) (N := ["value", "char"]) (sc := defScope s_is_name) (by decide +kernel)) (fun _ _ _ _ _ => pg_name (i := 1) sc_is_name.nd rfl (Or.inl rfl)) (fun _ _ _ _ _ => pts_nil) (fun _ _ _ _ _ => (pe_or (pe_cmpR op_inC (pv 1) (pe_glob (v := .str _) rfl T.g_LETTERS ⟨_, rfl⟩) rfl) (pe_one (pe_cmpR op_inC (pv 1) (pe_glob (v := .str _) rfl T.g_DIGITS ⟨_, rfl⟩) rfl))))) pa_nil))))), ?_⟩
    walk_at "rd"
    refine rdSeq ?_
    walk_at "rd"
    rcases h with ⟨z, rfl, hz, q⟩ | ⟨⟨t, ty, ht⟩, q⟩
    · refine i_isi ty_str kb_ss ?_
      walk_at "rd"
      have q : ∀ (H' : Hp) b, Same H H' → b = nameC z.cps.toList → Q (V.bl b) H' := fun H' b s e => by rw [e]; exact q H' s
      have ez : z.cps.toList.length = z.length := Array.length_toList
      refine i_lenS rfl (line5 hz) ?_
      walk_at "rd"
      have out : ¬ (1 ≤ z.cps.toList.length ∧ z.cps.toList.length ≤ 20) → nameC z.cps.toList = false := fun h => by unfold nameC; rw [decide_eq_false h]; rfl
      refine ite2 (fun h1 => ?_) (fun h1 => q _ _ (Same.refl H) (out (by omega)).symm)
      by_cases h2 : (z.length : Int) ≤ 20
      case neg => exact i_then (by simp only [Bool.not_eq_true', decide_eq_false_iff_not]; exact h2) (q _ _ (Same.refl H) (out (by omega)).symm)
      refine i_else (by simp [h2]) ?_
      have hd : decide (1 ≤ z.cps.toList.length ∧ z.cps.toList.length ≤ 20) = true := decide_eq_true ⟨by omega, by omega⟩
      obtain ⟨c, r, ec⟩ : ∃ c r, z.cps.toList = c :: r := by
        cases e : z.cps.toList with
        | nil => rw [e] at ez; simp at ez; omega
        | cons c r => exact ⟨c, r, rfl⟩
      refine i_ixS (c := c) (line5 hz) (by rw [ec]; exact atI_nat (j := 0) rfl) (i_inC rfl rfl ?_)
      walk_at "rd"
      have eN : nameC z.cps.toList = (letC c && (z.cps.toList.all fun c => letC c || digC c)) := by
        unfold nameC; rw [hd, ec]; rfl
      by_cases h3 : letC c = true
      case neg => exact i_then (by simp only [Bool.not_eq_true', decide_eq_false_iff_not]; exact fun k => h3 (decide_eq_true k)) (q _ _ (Same.refl H) (by rw [eN]; simp [h3]))
      refine i_else (by simp only [Bool.not_eq_true', decide_eq_false_iff_not]; exact fun k => k (of_decide_eq_true h3)) ?_
      refine i_lcL (walk_chars (z := z)) (fun c => .bl (letC c || digC c)) (by rw [Array.length_toList]; exact line5' hz) (fun _ _ _ => trivial) (fun c hc H1 Q' sm q' => ?_) (fun D hD => ?_)
      · walk_at "rd"
        refine i_inC rfl rfl ?_
        walk_at "rd"
        unfold letC at q'
        refine ite2 (fun h => by rw [decide_eq_true h] at q'; exact q') (fun h => i_inC rfl rfl ?_)
        rw [decide_eq_false h] at q'
        exact q'
      · refine i_all (bs := z.cps.toList.map fun c => letC c || digC c) (by rw [upd_same, List.map_map]; rfl) ?_
        refine q _ _ (same_new hD) ?_
        rw [eN, h3, List.all_map]; rfl
    · refine i_isi ty ht ?_
      walk_at "rd"
      exact q
def txtC (l : List Nat) : Bool := l.all prn && (decide (1 ≤ l.length ∧ l.length ≤ 16) && !decide (34 ∈ l))
def sp_is_text (K : PySem.W.Frag) : Sp := fun vs H Q _ => ∃ x : V, vs = [x] ∧ ((∃ z : Str, x = .str z ∧ z.length ≤ 100000 ∧ ∀ H', Same H H' → Q (.bl (txtC z.cps.toList)) H') ∨ (OddS K H x ∧ Q (.bl false) H))
theorem ok_is_text (T : Txt K mg) : FnOk P w K mg base CX0 2 T.f_is_text T.d_is_text ["value"] (sp_is_text K) := by
  refine T.k_is_text.ok sc_is_text (fun vs H Q E h => ?_) (fun cdv A outer s H vs Q E hr h => ?_)
  · obtain ⟨x, rfl, _⟩ := h
    rfl
  · obtain ⟨x, rfl, h⟩ := h
    refine ⟨_, (pss_one (ps_ret (pe_and (pe_call (ok_is_printable T) (hr.mono (by decide)) (by rfl) T.g_is_printable T.k_is_printable.kp T.b_is_printable .nil pass0 (pa_cons (pv 0) pa_nil)) (pe_and (pe_chain op_le op_le pe_int (pe_callB call_lenS (by rfl) T.m_len (by decide +kernel) (pa_cons (pv 0) pa_nil)) (pe_glob (v := .int _) rfl T.g_MOST_TEXT ⟨_, rfl⟩)) (pe_one (pe_cmpR op_notInC pe_str (pv 0) rfl)))))), ?_⟩
    walk_at "rd"
    rcases h with ⟨z, rfl, hz, q⟩ | ⟨od, q⟩
    · have q : ∀ (H' : Hp) b, Same H H' → b = txtC z.cps.toList → Q (V.bl b) H' := fun H' b s e => by rw [e]; exact q H' s
      have ez : z.cps.toList.length = z.length := Array.length_toList
      refine ⟨_, rfl, .inl ⟨z, rfl, hz, fun H1 sm => ?_⟩⟩
      walk_at "rd"
      refine ite2 (fun h1 => i_lenS rfl (line5 hz) ?_) (fun h1 => q _ _ sm (by unfold txtC; simp [h1]))
      walk_at "rd"
      have out : ¬ (1 ≤ z.cps.toList.length ∧ z.cps.toList.length ≤ 16) → txtC z.cps.toList = false := fun h => by unfold txtC; rw [decide_eq_false h]; simp
      refine ite2 (fun h2 => ?_) (fun h2 => q _ _ sm (out (by omega)).symm)
      refine ite2 (fun h3 => i_inC (c := 34) rfl rfl ?_) (fun h3 => q _ _ sm (out (by omega)).symm)
      refine q _ _ sm ?_
      unfold txtC
      rw [h1, decide_eq_true (show 1 ≤ z.cps.toList.length ∧ z.cps.toList.length ≤ 16 from ⟨by omega, by omega⟩)]
      rfl
    · refine ⟨_, rfl, .inr ⟨od, ?_⟩⟩
      walk_at "rd"
      exact q

/-! ### tokens.py -/
def sp_BadSource_init {K : PySem.W.Frag} {mg : Str → Option Value} (T : Txt K mg) : Sp := spI2 T.c_BadSource "line" "reason"
theorem ok_BadSource_init (T : Txt K mg) : FnOk P w K mg base CX0 1 T.f_BadSource_init T.d_BadSource_init ["self", "line", "reason"] (sp_BadSource_init T) := by
  refine T.k_BadSource_init.ok sc_BadSource_init (fun vs H Q E h => ?_) (fun cdv A outer s H vs Q E hr h => ?_)
  · obtain ⟨a, v, u, rfl, _⟩ := h
    rfl
  · obtain ⟨a, v, u, rfl, ha, q⟩ := h
    refine ⟨_, (pss_cons (ps_ost (pv 0) (pv 1) rfl)
      (pss_one (ps_ost (pv 0) (pv 2) rfl))), ?_⟩
    walk_at "rd"
    refine rdSeq ?_
    walk_at "rd"
    refine i_ost T.ox_BadSource T.on_BadSource_line ha fun dx hd ne => ?_
    refine i_ost2 T.ox_BadSource T.on_BadSource_reason upd_same (by rw [upd_ne ne, upd_same]) (by show 1 ≤ 900; decide) ?_
    exact q dx _ hd ne (by rw [upd_ne (Ne.symm ne), upd_same]) upd_same (fun b x hb e => by rw [upd_ne (ne_of_none e hd)]; exact kp_exn hd ne b x hb e)
/-- BadSource(line, ..) comes out -/
def ErrE (C : Addr) (H : Hp) (E : XK) (ln : Int) : Prop := ∀ (d : Addr) (rs : Str) (H' : Hp), Same H H' → H' d = some (.xd [("reason", .str rs), ("line", .int ln)]) → E (.ref C) (some d) H'
theorem ErrE.same {C : Addr} {H H' : Hp} {E : XK} {ln : Int} (h : ErrE C H E ln) (s : Same H H') : ErrE C H' E ln := fun d rs H2 s2 e => h d rs H2 (s.trans s2) e
def wC (c : Nat) : Bool := letC c || digC c
def wlen (l : List Nat) : Nat := (l.takeWhile wC).length
theorem drop_cons {l : List Nat} {i : Nat} (h : i < l.length) : l.drop i = l[i] :: l.drop (i + 1) := (List.drop_eq_getElem_cons h)
theorem at_cl {z : Str} {i : Nat} (h : i < z.cps.toList.length) : atI z.cps.toList ((i : Nat) : Int) = some z.cps.toList[i] := atI_nat (List.getElem?_eq_getElem h)
theorem wlen_pos {l : List Nat} {c : Nat} {t : List Nat} (h : l = c :: t) (hc : wC c = true) : wlen l = 1 + wlen t := by
  subst h; unfold wlen; rw [List.takeWhile_cons_of_pos hc, List.length_cons]; omega
theorem wlen_neg {l : List Nat} {c : Nat} {t : List Nat} (h : l = c :: t) (hc : wC c = false) : wlen l = 0 := by
  subst h; unfold wlen; rw [List.takeWhile_cons_of_neg (by rw [hc]; simp)]; rfl
inductive WE (H0 : Hp) (z : Str) (i : Nat) (m : Nat) (σ : L2.St) (H : Hp) : Prop
  | mk (k : Nat) (eH : H = H0) (em : m = z.length - (i + k)) (hk : i + k ≤ z.length) (ew : wlen (z.cps.toList.drop i) = k + wlen (z.cps.toList.drop (i + k))) (es : σ = [some (.str z), some (.int (i : Int)), some (.int ((i + k : Nat) : Int))])
def sp_word_end (K : PySem.W.Frag) : Sp := fun vs H Q _ => ∃ (z : Str) (i : Nat), vs = [.str z, .int i] ∧ z.length ≤ 100000 ∧ i ≤ z.length ∧ Q (.int ((i + wlen (z.cps.toList.drop i) : Nat) : Int)) H
theorem ok_word_end (T : Txt K mg) : FnOk P w K mg base CX0 1 T.f_word_end T.d_word_end ["text", "start"] (sp_word_end K) := by
  refine T.k_word_end.ok sc_word_end (fun vs H Q E h => ?_) (fun cdv A outer s H vs Q E hr h => ?_)
  · obtain ⟨z, i, rfl, _⟩ := h
    rfl
  · obtain ⟨z, i, rfl, hz, hi, q⟩ := h
    refine ⟨_, (pss_cons (ps_set (i := 2) sc_word_end.nd rfl (.inl rfl) (pv 1))
      (pss_cons (ps_while PassesOwn.never (PW.pt (pw_and (pt_cmpR op_lt (pv 2) (pe_callB call_lenS (by rfl) T.m_len (by decide +kernel) (pa_cons (pv 0) pa_nil)) (nomark _)) (pw_and1 (PW.pt (pw_or (pt_cmpR op_inC (pe_ix ix_str (pv 0) (pv 2) (fun _ _ => rfl)) (pe_glob (v := .str _) rfl T.g_LETTERS ⟨_, rfl⟩) rfl) (pw_or1 (pt_cmpR op_inC (pe_ix ix_str (pv 0) (pv 2) (fun _ _ => rfl)) (pe_glob (v := .str _) rfl T.g_DIGITS ⟨_, rfl⟩) rfl))))))) (pss_one (ps_aug (i := 2) sc_word_end.nd rfl (.inl rfl) pe_int ip_add)))
      (pss_one (ps_ret (pv 2))))), ?_⟩
    have ez : z.cps.toList.length = z.length := Array.length_toList
    walk_at "rd"
    refine rdSeq ?_
    walk_at "rd"
    refine rdSeq ?_
    refine i_while (WE H z i) _ ⟨0, rfl, rfl, hi, by simp, rfl⟩ ?_
    rintro m σ H' ⟨k, rfl, rfl, hk, ew, rfl⟩
    walk_at "rd"
    refine i_lenS rfl (line5 hz) ?_
    walk_at "rd"
    refine ite2 (fun h => ?_) (fun h => ?_)
    · have hk' : i + k < z.cps.toList.length := by omega
      have ed := drop_cons hk'
      generalize hc : z.cps.toList[i + k] = c at ed
      have eat : atI z.cps.toList ((i + k : Nat) : Int) = some c := by rw [← hc]; exact at_cl hk'
      have step : wC c = true → ∃ m', m' < z.length - (i + k) ∧ WE H' z i m' [some (.str z), some (.int (i : Int)), some (.int (((i + k : Nat) : Int) + 1))] H' := fun hw =>
        ⟨z.length - (i + (k + 1)), by omega, k + 1, rfl, rfl, by omega, by rw [ew, wlen_pos ed hw, show i + (k + 1) = i + k + 1 by omega]; omega, by rw [show (((i + k : Nat) : Int) + 1) = ((i + (k + 1) : Nat) : Int) by omega]⟩
      have stop : wC c = false → Q (.int ((i + k : Nat) : Int)) H' := fun hw => by
        have := wlen_neg ed hw
        rw [ew, this, Nat.add_zero] at q; exact q
      refine i_ixS (line5 hz) eat (i_inC rfl rfl ?_)
      walk_at "rd"
      refine ite2 (fun h1 => i_whT ?_) (fun h1 => i_ixS (line5 hz) eat (i_inC rfl rfl ?_))
      · walk_at "rd"
        exact step (by unfold wC letC; rw [decide_eq_true h1]; rfl)
      · walk_at "rd"
        refine ite2 (fun h2 => i_whT ?_) (fun h2 => stop ?_)
        · walk_at "rd"
          exact step (by unfold wC digC; rw [decide_eq_true h2, Bool.or_true])
        · unfold wC letC digC; rw [decide_eq_false h1, decide_eq_false h2]; rfl
    · have e0 : z.cps.toList.drop (i + k) = [] := List.drop_eq_nil_of_le (by omega)
      rw [ew, e0] at q
      exact q
theorem str1_ne {c d : Nat} (h : ¬ c = d) : ¬ ((⟨#[c]⟩ : Str) = ⟨#[d]⟩) := fun e => h (by
  have e2 : ([c] : List Nat) = [d] := congrArg (fun z : Str => z.cps.toList) e
  injection e2)
theorem digC_range {c : Nat} (h : digC c = true) : 48 ≤ c ∧ c ≤ 57 := by
  have h1 : c ∈ ("0123456789" : Str).cps.toList := of_decide_eq_true h
  have h2 := List.all_eq_true.mp (show (("0123456789" : Str).cps.toList.all fun c => decide (48 ≤ c) && decide (c ≤ 57)) = true by decide +kernel) c h1
  simpa using h2
theorem cl_ext {a b : Str} (h : a.cps.toList = b.cps.toList) : a = b := by
  obtain ⟨⟨a⟩⟩ := a
  obtain ⟨⟨b⟩⟩ := b
  have : a = b := h
  rw [this]
def cmt (l : List Nat) : List Nat := l.takeWhile fun c => !decide (c = 10)
theorem cmt_pos {l : List Nat} {c : Nat} {t : List Nat} (h : l = c :: t) (hc : ¬ c = 10) : cmt l = c :: cmt t := by
  subst h; unfold cmt; rw [List.takeWhile_cons_of_pos (by simp [hc])]
theorem cmt_neg {l : List Nat} {t : List Nat} (h : l = 10 :: t) : cmt l = [] := by
  subst h; unfold cmt; rw [List.takeWhile_cons_of_neg (by simp)]
inductive CE (H0 : Hp) (z : Str) (i : Nat) (ln : Int) (m : Nat) (σ : L2.St) (H : Hp) : Prop
  | mk (k : Nat) (s : Same H0 H) (em : m = z.length - (i + k)) (hk : i + k ≤ z.length) (el : (cmt (z.cps.toList.drop i)).length = k + (cmt (z.cps.toList.drop (i + k))).length) (ea : (cmt (z.cps.toList.drop i)).all prn = (cmt (z.cps.toList.drop (i + k))).all prn)
      (es : σ = [some (.str z), some (.int (i : Int)), some (.int ln), some (.int ((i + k : Nat) : Int))])
def sp_comment_end {K : PySem.W.Frag} {mg : Str → Option Value} (T : Txt K mg) : Sp := fun vs H Q E => ∃ (z : Str) (i : Nat) (ln : Int), vs = [.str z, .int i, .int ln] ∧ z.length ≤ 100000 ∧ i ≤ z.length ∧
  ((cmt (z.cps.toList.drop i)).all prn = true → ∀ H', Same H H' → Q (.int ((i + (cmt (z.cps.toList.drop i)).length : Nat) : Int)) H') ∧ ((cmt (z.cps.toList.drop i)).all prn = false → ErrE T.c_BadSource H E ln)
theorem ok_comment_end (T : Txt K mg) : FnOk P w K mg base (L2.CX P w) 3 T.f_comment_end T.d_comment_end ["text", "start", "line"] (sp_comment_end T) := by
  refine T.k_comment_end.okX sc_comment_end (fun vs H Q E h => ?_) (fun cdv A outer s H vs Q E hr h => ?_)
  · obtain ⟨z, i, ln, rfl, _⟩ := h
    rfl
  · obtain ⟨z, i, ln, rfl, hz, hi, q1, q2⟩ := h
    refine ⟨_, (pss_cons (ps_set (i := 3) sc_comment_end.nd rfl (.inl rfl) (pv 1))
      (pss_cons (ps_while (passes_of rfl) (PW.pt (pw_and (pt_cmpR op_lt (pv 3) (pe_callB call_lenS (by rfl) T.m_len (by decide +kernel) (pa_cons (pv 0) pa_nil)) (nomark _)) (pw_and1 (pt_cmpR op_ne (pe_ix ix_str (pv 0) (pv 3) (fun _ _ => rfl)) pe_str (nomark _))))) (pss_cons (ps_if (pt_not (pt_val (pe_call (ok_is_printable T) (hr.mono (by decide)) (by rfl) T.g_is_printable T.k_is_printable.kp T.b_is_printable .nil pass0 (pa_cons (pe_ix ix_str (pv 0) (pv 3) (fun _ _ => rfl)) pa_nil)))) (pss_one (ps_raise rfl (takes_of rfl rfl rfl rfl) (pmk_oex T.ox_BadSource T.in_BadSource T.ti_BadSource (ok_BadSource_init T) (hr.mono (by decide)) T.b_BadSource_init .nil pass0 rfl T.g_BadSource (pa_cons (pv 2) (pa_cons pe_str pa_nil))))) pss_nil)
      (pss_one (ps_aug (i := 3) sc_comment_end.nd rfl (.inl rfl) pe_int ip_add))))
      (pss_one (ps_ret (pv 3))))), ?_⟩
    have ez : z.cps.toList.length = z.length := Array.length_toList
    walk_at "rd"
    refine rdSeq ?_
    walk_at "rd"
    refine rdSeq ?_
    refine i_while (CE H z i ln) _ ⟨0, Same.refl H, rfl, hi, by simp, by simp, rfl⟩ ?_
    rintro m σ H' ⟨k, s1, rfl, hk, el, ea, rfl⟩
    walk_at "rd"
    refine i_lenS rfl (line5 hz) ?_
    walk_at "rd"
    refine ite2 (fun h => ?_) (fun h => ?_)
    · have hk' : i + k < z.cps.toList.length := by omega
      have ed := drop_cons hk'
      generalize hc : z.cps.toList[i + k] = c at ed
      have eat : atI z.cps.toList ((i + k : Nat) : Int) = some c := by rw [← hc]; exact at_cl hk'
      refine i_ixS (line5 hz) eat ?_
      walk_at "rd"
      by_cases h10 : c = 10
      · subst h10
        have ec := cmt_neg ed
        rw [ec, List.length_nil, Nat.add_zero] at el
        rw [el] at q1
        refine i_else (by simp only [Bool.not_eq_true', decide_eq_false_iff_not, Decidable.not_not]; rfl) (q1 (by rw [ea, ec]; rfl) _ s1)
      · have nl : ¬ ((⟨#[c]⟩ : Str) = Str.ofString "\n") := str1_ne h10
        have ec := cmt_pos ed h10
        refine i_then (by simp [nl]) (i_whT (rdSeq ?_))
        walk_at "rd"
        refine i_ixS (line5 hz) eat ⟨_, rfl, .inl ⟨_, rfl, by show 1 ≤ 100000; decide, fun H2 s2 => ?_⟩⟩
        have ep : (([c] : List Nat).all prn) = prn c := by simp
        have e1 : (⟨#[c]⟩ : Str).cps.toList = [c] := rfl
        rw [e1, ep]
        cases hp : prn c with
        | true =>
          walk_at "rd"
          refine ⟨z.length - (i + (k + 1)), by omega, k + 1, s1.trans s2, rfl, by omega, ?_, ?_, by rw [show (((i + k : Nat) : Int) + 1) = ((i + (k + 1) : Nat) : Int) by omega]⟩
          · rw [el, ec, List.length_cons, show i + (k + 1) = i + k + 1 by omega]; omega
          · rw [ea, ec, List.all_cons, hp, Bool.true_and, show i + (k + 1) = i + k + 1 by omega]
        | false =>
          walk_at "rd"
          have eF := q2 (by rw [ea, ec, List.all_cons, hp, Bool.false_and])
          exact i_mkOI2 fun d H3 s3 hd => eF d _ H3 (s1.trans (s2.trans s3)) hd
    · have e0 : z.cps.toList.drop (i + k) = [] := List.drop_eq_nil_of_le (by omega)
      rw [e0] at el ea
      have ec : cmt [] = [] := rfl
      rw [ec, List.length_nil, Nat.add_zero] at el
      rw [el] at q1
      exact q1 (by rw [ea]; rfl) _ s1
abbrev kwL : List V := [.str "abort", .str "and", .str "applet", .str "as", .str "begin", .str "buffer", .str "bytes", .str "catch", .str "class", .str "commit", .str "else", .str "face", .str "field", .str "has", .str "if", .str "int", .str "is", .str "mod", .str "new", .str "not", .str "nothing", .str "null", .str "of", .str "or", .str "package", .str "return", .str "seek", .str "size", .str "temp", .str "this", .str "throw", .str "try", .str "use", .str "while"]
abbrev prL : List V := [.str "<<", .str ">>", .str "==", .str "!=", .str "<=", .str ">="]
def sgl : Str := "{}()[];,.=+-*/&|^<>"
def numC (l : List Nat) : Bool := l.all digC && (decide (l.length ≤ 5) && (!(decide (l.headD 0 = 48) && !decide (l = [48])) && decide (NumText.digitsVal l ≤ 32767)))
def sp_number_of {K : PySem.W.Frag} {mg : Str → Option Value} (T : Txt K mg) : Sp := fun vs H Q E => ∃ (z : Str) (ln : Int), vs = [.str z, .int ln] ∧ z.length ≤ 100000 ∧ 1 ≤ z.length ∧
  (numC z.cps.toList = true → Q (.int (NumText.digitsVal z.cps.toList : Nat)) H) ∧ (numC z.cps.toList = false → ErrE T.c_BadSource H E ln)
theorem ok_number_of (T : Txt K mg) : FnOk P w K mg base (L2.CX P w) 3 T.f_number_of T.d_number_of ["word", "line"] (sp_number_of T) := by
  refine T.k_number_of.okX sc_number_of (fun vs H Q E h => ?_) (fun cdv A outer s H vs Q E hr h => ?_)
  · obtain ⟨z, ln, rfl, _⟩ := h
    rfl
  · obtain ⟨z, ln, rfl, hz, h1, q1, q2⟩ := h
    refine ⟨_, (pss_cons (ps_for (passes_of rfl) rfl (pi_str (pv 0)) (pg_name (i := 2) sc_number_of.nd rfl (Or.inl rfl)) (pss_one (ps_if (pt_cmpR op_notInC (pv 2) (pe_glob (v := .str _) rfl T.g_DIGITS ⟨_, rfl⟩) rfl) (pss_one (ps_raise rfl (takes_of rfl rfl rfl rfl) (pmk_oex T.ox_BadSource T.in_BadSource T.ti_BadSource (ok_BadSource_init T) (hr.mono (by decide)) T.b_BadSource_init .nil pass0 rfl T.g_BadSource (pa_cons (pv 1) (pa_cons pe_str pa_nil))))) pss_nil)))
      (pss_cons (ps_if (PW.pt (pw_or (pt_cmpR op_gt (pe_callB call_lenS (by rfl) T.m_len (by decide +kernel) (pa_cons (pv 0) pa_nil)) (pe_glob (v := .int _) rfl T.g_MOST_DIGITS ⟨_, rfl⟩) (nomark _)) (pw_or (PW.pt (pw_and (pt_cmpR op_eq (pe_ix ix_str (pv 0) pe_int (fun _ _ => rfl)) pe_str (nomark _)) (pw_and1 (pt_cmpR op_ne (pv 0) pe_str (nomark _))))) (pw_or1 (pt_cmpR op_gt (pe_callTy call_int_str (by rfl) T.m_int (by decide +kernel) (pa_cons (pv 0) pa_nil)) (pe_glob (v := .int _) rfl T.g_MOST_INT ⟨_, rfl⟩) (nomark _)))))) (pss_one (ps_raise rfl (takes_of rfl rfl rfl rfl) (pmk_oex T.ox_BadSource T.in_BadSource T.ti_BadSource (ok_BadSource_init T) (hr.mono (by decide)) T.b_BadSource_init .nil pass0 rfl T.g_BadSource (pa_cons (pv 1) (pa_cons pe_str pa_nil))))) pss_nil)
      (pss_one (ps_ret (pe_callTy call_int_str (by rfl) T.m_int (by decide +kernel) (pa_cons (pv 0) pa_nil)))))), ?_⟩
    have ez : z.cps.toList.length = z.length := Array.length_toList
    have eF : numC z.cps.toList = false → ∀ rs : Str, ∀ H', Same H H' → rMkO T.c_BadSource (sp_BadSource_init T) [] [.int ln, .str rs] H' (fun cls d H' => E cls d H') := fun h rs H' s1 =>
      i_mkOI2 fun d H3 s3 hd => q2 h d rs H3 (s1.trans s3) hd
    walk_at "rd"
    refine rdSeq ?_
    walk_at "rd"
    refine i_for (walk_chars (z := z)) (fun i σ H' => H' = H ∧ (z.cps.toList.take i).all digC = true ∧ ∃ y, σ = [some (.str z), some (.int ln), y]) ⟨rfl, by simp, _, rfl⟩ (fun _ _ _ _ _ => trivial) ?_ ?_
    · rintro i _ σ _ H1 hi ⟨rfl, hd, y, rfl⟩ ⟨rfl, c, hc, rfl⟩
      walk_at "rd"
      refine i_inC rfl rfl ?_
      walk_at "rd"
      by_cases hdc : digC c = true
      · refine i_else (by simp only [Bool.not_eq_true', decide_eq_false_iff_not, Decidable.not_not]; exact of_decide_eq_true hdc) ?_
        rw [List.take_add_one, hc, List.all_append, hd]
        simp [hdc]
      · refine i_then (by simp only [Bool.not_eq_true', decide_eq_false_iff_not]; exact fun k => hdc (decide_eq_true k)) (eF ?_ _ _ (Same.refl _))
        unfold numC
        have : z.cps.toList.all digC = false := by
          rw [List.all_eq_false]
          exact ⟨c, List.mem_of_getElem? hc, hdc⟩
        rw [this, Bool.false_and]
    · rintro σ H1 ⟨rfl, hd, y, rfl⟩
      rw [List.take_length] at hd
      dsimp only
      refine rdSeq ?_
      walk_at "rd"
      refine i_lenS rfl (line5 hz) ?_
      walk_at "rd"
      obtain ⟨c, r, ec⟩ : ∃ c r, z.cps.toList = c :: r := by
        cases e : z.cps.toList with
        | nil => rw [e] at ez; simp at ez; omega
        | cons c r => exact ⟨c, r, rfl⟩
      by_cases h5 : z.length ≤ 5
      · refine i_else (by omega) ?_
        have hv : intText? z = some ((NumText.digitsVal z.cps.toList : Nat) : Int) := intText_digits (fun c hc => digC_range (List.all_eq_true.mp hd c hc)) (by rw [ec]; simp) (by omega)
        refine i_ixS (c := c) (line5 hz) (by rw [ec]; exact atI_nat (j := 0) rfl) ⟨rfl, ?_⟩
        have hN : numC z.cps.toList = (!(decide (c = 48) && !decide (z.cps.toList = [48])) && decide (NumText.digitsVal z.cps.toList ≤ 32767)) := by
          unfold numC
          rw [hd, decide_eq_true (show z.cps.toList.length ≤ 5 by omega), Bool.true_and, Bool.true_and]
          have : z.cps.toList.headD 0 = c := by rw [ec]; rfl
          rw [this]
        have fin : (!(decide (c = 48) && !decide (z.cps.toList = [48]))) = true → ∃ x, intText? z = some x ∧ z.length ≤ 640 ∧
            if 32767 < x then rMkO T.c_BadSource (sp_BadSource_init T) [] [V.int ln, V.str (Str.ofString "a number is too great or has a leading zero")] H1 fun cls d H' => E cls d H'
            else ∃ x, intText? z = some x ∧ z.length ≤ 640 ∧ Q (V.int x) H1 := fun hb => by
          rw [hb, Bool.true_and] at hN
          refine ⟨_, hv, by omega, ite2 (fun h => eF (by rw [hN]; exact decide_eq_false (by omega)) _ _ (Same.refl _)) (fun h => ⟨_, hv, by omega, q1 (by rw [hN]; exact decide_eq_true (by omega))⟩)⟩
        refine ite2 (fun h0 => ?_) (fun h0 => fin (by rw [decide_eq_false (fun e => h0 (by rw [e]; rfl))]; rfl))
        have hc48 : c = 48 := by
          by_cases e : c = 48
          · exact e
          · exact absurd (V.str.inj h0) (str1_ne e)
        refine ite2 (fun hz0 => ?_) (fun hz0 => ?_)
        · refine eF ?_ _ _ (Same.refl _)
          have : ¬ z.cps.toList = [48] := fun e => by
            have : z = Str.ofString "0" := cl_ext e
            rw [this] at hz0; simp at hz0
          rw [hN, decide_eq_true hc48, decide_eq_false this]; rfl
        · refine fin ?_
          have : z = Str.ofString "0" := by simpa using hz0
          rw [decide_eq_true (show z.cps.toList = [48] by rw [this]; rfl)]; simp
      · refine i_then (by omega) (eF ?_ _ _ (Same.refl _))
        unfold numC
        rw [decide_eq_false (show ¬ z.cps.toList.length ≤ 5 by omega), Bool.false_and, Bool.and_false]
def wtok (z : Str) : Option (Str × V) :=
  if digC (z.cps.toList.headD 0) = true then (if numC z.cps.toList = true then some ("number", .int (NumText.digitsVal z.cps.toList : Nat)) else none)
  else if inV (.str z) kwL = true then some ("keyword", .str z) else if nameC z.cps.toList = true then some ("name", .str z) else none
def sp_word_token {K : PySem.W.Frag} {mg : Str → Option Value} (T : Txt K mg) : Sp := fun vs H Q E => ∃ (z : Str) (ln : Int), vs = [.str z, .int ln] ∧ z.length ≤ 100000 ∧ 1 ≤ z.length ∧
  (∀ k v, wtok z = some (k, v) → ∀ p H', Same H H' → H' p = some (.tup [.str k, v]) → Q (.ref p) H') ∧ (wtok z = none → ErrE T.c_BadSource H E ln)
theorem ok_word_token (T : Txt K mg) : FnOk P w K mg base (L2.CX P w) 4 T.f_word_token T.d_word_token ["word", "line"] (sp_word_token T) := by
  refine T.k_word_token.okX sc_word_token (fun vs H Q E h => ?_) (fun cdv A outer s H vs Q E hr h => ?_)
  · obtain ⟨z, ln, rfl, _⟩ := h
    rfl
  · obtain ⟨z, ln, rfl, hz, h1, q1, q2⟩ := h
    refine ⟨_, (pss_cons (ps_if (pt_cmpR op_inC (pe_ix ix_str (pv 0) pe_int (fun _ _ => rfl)) (pe_glob (v := .str _) rfl T.g_DIGITS ⟨_, rfl⟩) rfl) (pss_one (ps_ret (pe_tup (pa_cons pe_str (pa_cons (pe_callS (ok_number_of T) (hr.mono (by decide)) (by rfl) T.g_number_of T.k_number_of.kp T.b_number_of (fun σ => passAt (takes_of rfl rfl rfl rfl) σ) (pa_cons (pv 0) (pa_cons (pv 1) pa_nil))) pa_nil))))) pss_nil)
      (pss_cons (ps_if (pt_cmpR (in_seqK K) (pv 0) (pe_glob (v := .ref T.a_KEYWORDS) rfl T.g_KEYWORDS rfl) rfl) (pss_one (ps_ret (pe_tup (pa_cons pe_str (pa_cons (pv 0) pa_nil))))) pss_nil)
      (pss_cons (ps_if (pt_not (pt_val (pe_call (ok_is_name T) (hr.mono (by decide)) (by rfl) T.g_is_name T.k_is_name.kp T.b_is_name .nil pass0 (pa_cons (pv 0) pa_nil)))) (pss_one (ps_raise rfl (takes_of rfl rfl rfl rfl) (pmk_oex T.ox_BadSource T.in_BadSource T.ti_BadSource (ok_BadSource_init T) (hr.mono (by decide)) T.b_BadSource_init .nil pass0 rfl T.g_BadSource (pa_cons (pv 1) (pa_cons pe_str pa_nil))))) pss_nil)
      (pss_one (ps_ret (pe_tup (pa_cons pe_str (pa_cons (pv 0) pa_nil)))))))), ?_⟩
    have ez : z.cps.toList.length = z.length := Array.length_toList
    have eF : wtok z = none → ∀ rs : Str, ∀ H', Same H H' → rMkO T.c_BadSource (sp_BadSource_init T) [] [.int ln, .str rs] H' (fun cls d H' => E cls d H') := fun h rs H' s1 =>
      i_mkOI2 fun d H3 s3 hd => q2 h d rs H3 (s1.trans s3) hd
    walk_at "rd"
    refine rdSeq ?_
    walk_at "rd"
    obtain ⟨c, r, ec⟩ : ∃ c r, z.cps.toList = c :: r := by
      cases e : z.cps.toList with
      | nil => rw [e] at ez; simp at ez; omega
      | cons c r => exact ⟨c, r, rfl⟩
    have eh : z.cps.toList.headD 0 = c := by rw [ec]; rfl
    refine i_ixS (c := c) (line5 hz) (by rw [ec]; exact atI_nat (j := 0) rfl) (i_inC rfl rfl ?_)
    walk_at "rd"
    refine ite2 (fun h0 => ?_) (fun h0 => ?_)
    · have hw : wtok z = (if numC z.cps.toList = true then some ("number", .int (NumText.digitsVal z.cps.toList : Nat)) else none : Option (Str × V)) := by
        unfold wtok; rw [if_pos (by rw [eh]; exact decide_eq_true h0)]
      refine ⟨z, ln, rfl, hz, h1, fun hn => fun p hp => ?_, fun hn => fun d rs H' s e => ?_⟩
      · exact q1 _ _ (by rw [hw, if_pos hn]) p _ (same_new hp) upd_same
      · exact q2 (by rw [hw, if_neg (by rw [hn]; simp)]) d rs H' s e
    · have hw : wtok z = (if inV (.str z) kwL = true then some ("keyword", .str z) else if nameC z.cps.toList = true then some ("name", .str z) else none : Option (Str × V)) := by
        unfold wtok; rw [if_neg (by rw [eh]; exact fun k => h0 (of_decide_eq_true k))]
      refine rdSeq ?_
      walk_at "rd"
      refine ⟨_, kwL, rfl, .inr (T.s_KEYWORDS H), rfl, by decide +kernel, ?_⟩
      rw [if_neg (by decide)]
      cases hk : inV (.str z) kwL with
      | true =>
        walk_at "rd"
        exact fun p hp => q1 _ _ (by rw [hw, if_pos hk]) p _ (same_new hp) upd_same
      | false =>
        walk_at "rd"
        refine rdSeq ?_
        walk_at "rd"
        refine ⟨_, rfl, .inl ⟨z, rfl, hz, fun H2 s2 => ?_⟩⟩
        cases hn : nameC z.cps.toList with
        | true =>
          walk_at "rd"
          exact fun p hp => q1 _ _ (by rw [hw, if_neg (by rw [hk]; simp), if_pos hn]) p _ (s2.trans (same_new hp)) upd_same
        | false =>
          walk_at "rd"
          exact eF (by rw [hw, if_neg (by rw [hk]; simp), if_neg (by rw [hn]; simp)]) _ _ s2
def sL (l : List Nat) : Str := ⟨l.toArray⟩
theorem sL_cl (l : List Nat) : (sL l).cps.toList = l := rfl
theorem sL_len (l : List Nat) : (sL l).length = l.length := by rw [← cl_length, sL_cl]
theorem sL_of (z : Str) : sL z.cps.toList = z := cl_ext rfl
def bodyT (l : List Nat) : List Nat := l.takeWhile fun c => !decide (c = 34)
/-- the token ahead of l: kind, value, how many signs -/
def tokL (l : List Nat) : Option (Str × V × Nat) :=
  if wC (l.headD 0) = true then (wtok (sL (l.takeWhile wC))).map fun kv => (kv.1, kv.2, wlen l)
  else if l.headD 0 = 34 then (if (bodyT (l.drop 1)).length < (l.drop 1).length ∧ txtC (bodyT (l.drop 1)) = true then some ("text", .str (sL (bodyT (l.drop 1))), (bodyT (l.drop 1)).length + 2) else none)
  else if inV (.str (sL (l.take 2))) prL = true then some ("sign", .str (sL (l.take 2)), 2)
  else if l.headD 0 ∈ sgl.cps.toList then some ("sign", .str (sL [l.headD 0]), 1) else none
theorem cut_nat {z : Str} {i j : Nat} (hi : i ≤ z.length) : cutS z (some (i : Int)) (some (j : Int)) = sL ((z.cps.toList.drop i).take (j - i)) := by
  have ez : z.cps.toList.length = z.length := Array.length_toList
  unfold cutS
  rw [HT.sIx_nat, HT.sIx_nat, Nat.min_eq_left hi]
  show sL _ = sL _
  congr 1
  by_cases hj : j ≤ z.length
  · rw [Nat.min_eq_left hj]
  · rw [Nat.min_eq_right (by omega), List.take_of_length_le (by rw [List.length_drop]; omega), List.take_of_length_le (by rw [List.length_drop]; omega)]
section
open StrLaws
theorem occ_stop (s sub : Str) (hi : Nat) : ∀ (l : List Nat) (st : Array Nat × Nat), st.1.size = 1 → (forIn l st (occBody s sub hi 1)).run.fst = st.1
  | [], _, _ => rfl
  | a :: l, st, h => by
    rw [List.forIn_cons]
    unfold occBody
    rw [if_neg (by intro k; have := k.1.1.1; omega)]
    exact occ_stop s sub hi l (st.1, st.2) h
theorem occ_go (z : Str) (c : Nat) : ∀ (n a free : Nat), free ≤ a → (forIn (List.range' a n) ((#[] : Array Nat), free) (occBody z ⟨#[c]⟩ z.length 1)).run.fst.toList = ((List.range' a n).find? fun i => decide (z.cps.toList[i]? = some c)).toList
  | 0, _, _, _ => rfl
  | n + 1, a, free, hf => by
    rw [List.range'_succ, List.forIn_cons, List.find?_cons]
    unfold occBody
    by_cases h : z.cps.toList[a]? = some c
    · have h2 := (subAt_one z c a).mpr h
      rw [if_pos ⟨⟨⟨by simp, hf⟩, h2.1⟩, h2.2⟩, decide_eq_true h]
      have := occ_stop z ⟨#[c]⟩ z.length (List.range' (a + 1) n) (#[a], a + 1) rfl
      unfold occBody at this
      exact congrArg Array.toList this
    · rw [if_neg (fun k => h ((subAt_one z c a).mp ⟨k.1.2, k.2⟩)), decide_eq_false h]
      have := occ_go z c n (a + 1) free (by omega)
      unfold occBody at this
      exact this
theorem find_tw (l : List Nat) (c : Nat) : ∀ (n a : Nat), a + n = l.length + 1 → a ≤ l.length → ((List.range' a n).find? fun i => decide (l[i]? = some c)) =
    if ((l.drop a).takeWhile fun d => !decide (d = c)).length < (l.drop a).length then some (a + ((l.drop a).takeWhile fun d => !decide (d = c)).length) else none
  | 0, a, h, h2 => by omega
  | n + 1, a, h, h2 => by
    rw [List.range'_succ, List.find?_cons]
    by_cases hl : a < l.length
    · have ed := drop_cons hl
      rw [List.getElem?_eq_getElem hl]
      generalize l[a] = d at ed
      rw [ed]
      by_cases hd : d = c
      · rw [decide_eq_true (by rw [hd]), List.takeWhile_cons_of_neg (by simp [hd])]
        rw [if_pos (by simp)]; rfl
      · rw [decide_eq_false (by simpa using hd), List.takeWhile_cons_of_pos (by simp [hd]), List.length_cons, List.length_cons, find_tw l c n (a + 1) (by omega) (by omega)]
        by_cases h3 : ((l.drop (a + 1)).takeWhile fun d => !decide (d = c)).length < (l.drop (a + 1)).length
        · rw [if_pos h3, if_pos (Nat.succ_lt_succ h3)]; exact congrArg some (by omega)
        · rw [if_neg h3, if_neg (fun k => h3 (Nat.lt_of_succ_lt_succ k))]
    · have : a = l.length := by omega
      have e0 : l.drop a = [] := List.drop_eq_nil_of_le (by omega)
      obtain rfl : n = 0 := by omega
      rw [e0, List.getElem?_eq_none (by omega)]
      rfl
theorem find3_chr (z : Str) (c i : Nat) (hi : i ≤ z.length) : Txt.find3 z ⟨#[c]⟩ (i : Int) = if ((z.cps.toList.drop i).takeWhile fun d => !decide (d = c)).length < (z.cps.toList.drop i).length then (((i + ((z.cps.toList.drop i).takeWhile fun d => !decide (d = c)).length : Nat)) : Int) else -1 := by
  have ez : z.cps.toList.length = z.length := Array.length_toList
  have e1 : fromIndex z.length (i : Int) = i := by
    unfold fromIndex
    rw [if_neg (by omega)]
    omega
  unfold Txt.find3
  rw [e1, occ_eq, occ_go z c _ i i (Nat.le_refl _), find_tw z.cps.toList c _ i (by omega) (by omega)]
  by_cases h : ((z.cps.toList.drop i).takeWhile fun d => !decide (d = c)).length < (z.cps.toList.drop i).length
  · rw [if_pos h, if_pos h]; rfl
  · rw [if_neg h, if_neg h]; rfl
end
def sp_token_at {K : PySem.W.Frag} {mg : Str → Option Value} (T : Txt K mg) : Sp := fun vs H Q E => ∃ (z : Str) (i : Nat) (ln : Int), vs = [.str z, .int i, .int ln] ∧ z.length ≤ 100000 ∧ i < z.length ∧
  (∀ k v n, tokL (z.cps.toList.drop i) = some (k, v, n) → ∀ p H', Same H H' → H' p = some (.tup [.str k, v, .int ((i + n : Nat) : Int)]) → Q (.ref p) H') ∧ (tokL (z.cps.toList.drop i) = none → ErrE T.c_BadSource H E ln)
theorem ok_token_at (T : Txt K mg) : FnOk P w K mg base (L2.CX P w) 5 T.f_token_at T.d_token_at ["text", "start", "line"] (sp_token_at T) := by
  refine T.k_token_at.okX sc_token_at (fun vs H Q E h => ?_) (fun cdv A outer s H vs Q E hr h => ?_)
  · obtain ⟨z, i, ln, rfl, _⟩ := h
    rfl
  · obtain ⟨z, i, ln, rfl, hz, hi, q1, q2⟩ := h
    refine ⟨_, (pss_cons (ps_set (i := 3) sc_token_at.nd rfl (.inl rfl) (pe_ix ix_str (pv 0) (pv 1) (fun _ _ => rfl)))
      (pss_cons (ps_if (PW.pt (pw_or (pt_cmpR op_inC (pv 3) (pe_glob (v := .str _) rfl T.g_LETTERS ⟨_, rfl⟩) rfl) (pw_or1 (pt_cmpR op_inC (pv 3) (pe_glob (v := .str _) rfl T.g_DIGITS ⟨_, rfl⟩) rfl)))) (pss_cons (ps_set (i := 4) sc_token_at.nd rfl (.inl rfl) (pe_call (ok_word_end T) (hr.mono (by decide)) (by rfl) T.g_word_end T.k_word_end.kp T.b_word_end .nil pass0 (pa_cons (pv 0) (pa_cons (pv 1) pa_nil))))
      (pss_cons (ps_asg (pe_callS (ok_word_token T) (hr.mono (by decide)) (by rfl) T.g_word_token T.k_word_token.kp T.b_word_token (fun σ => passAt (takes_of rfl rfl rfl rfl) σ) (pa_cons (pe_slice sl_str (pv 0) (po_some (pv 1)) (po_some (pv 4))) (pa_cons (pv 2) pa_nil))) (pg_tup rfl (pgs_cons (pg_name (i := 5) sc_token_at.nd rfl (Or.inl rfl)) (pgs_cons (pg_name (i := 6) sc_token_at.nd rfl (Or.inl rfl)) pgs_nil))))
      (pss_one (ps_ret (pe_tup (pa_cons (pv 5) (pa_cons (pv 6) (pa_cons (pv 4) pa_nil)))))))) pss_nil)
      (pss_cons (ps_if (pt_cmpR op_eq (pv 3) pe_str (nomark _)) (pss_cons (ps_set (i := 4) sc_token_at.nd rfl (.inl rfl) (pe_bmK K PySem.F.plainAttrs_str PySem.F.slot_str_find PySem.F.type_str_find mt_find3 (pv 0) (pa_cons pe_str (pa_cons (pe_op op_add (pv 1) pe_int) pa_nil))))
      (pss_cons (ps_if (PW.pt (pw_or (pt_cmpR op_lt (pv 4) pe_int (nomark _)) (pw_or1 (pt_not (pt_val (pe_call (ok_is_text T) (hr.mono (by decide)) (by rfl) T.g_is_text T.k_is_text.kp T.b_is_text .nil pass0 (pa_cons (pe_slice sl_str (pv 0) (po_some (pe_op op_add (pv 1) pe_int)) (po_some (pv 4))) pa_nil))))))) (pss_one (ps_raise rfl (takes_of rfl rfl rfl rfl) (pmk_oex T.ox_BadSource T.in_BadSource T.ti_BadSource (ok_BadSource_init T) (hr.mono (by decide)) T.b_BadSource_init .nil pass0 rfl T.g_BadSource (pa_cons (pv 2) (pa_cons pe_str pa_nil))))) pss_nil)
      (pss_one (ps_ret (pe_tup (pa_cons pe_str (pa_cons (pe_slice sl_str (pv 0) (po_some (pe_op op_add (pv 1) pe_int)) (po_some (pv 4))) (pa_cons (pe_op op_add (pv 4) pe_int) pa_nil)))))))) pss_nil)
      (pss_cons (ps_if (pt_cmpR (in_seqK K) (pe_slice sl_str (pv 0) (po_some (pv 1)) (po_some (pe_op op_add (pv 1) pe_int))) (pe_glob (v := .ref T.a_PAIRS) rfl T.g_PAIRS rfl) rfl) (pss_one (ps_ret (pe_tup (pa_cons pe_str (pa_cons (pe_slice sl_str (pv 0) (po_some (pv 1)) (po_some (pe_op op_add (pv 1) pe_int))) (pa_cons (pe_op op_add (pv 1) pe_int) pa_nil)))))) pss_nil)
      (pss_cons (ps_if (pt_cmpR op_inC (pv 3) (pe_glob (v := .str _) rfl T.g_SINGLES ⟨_, rfl⟩) rfl) (pss_one (ps_ret (pe_tup (pa_cons pe_str (pa_cons (pv 3) (pa_cons (pe_op op_add (pv 1) pe_int) pa_nil)))))) pss_nil)
      (pss_one (ps_raise rfl (takes_of rfl rfl rfl rfl) (pmk_oex T.ox_BadSource T.in_BadSource T.ti_BadSource (ok_BadSource_init T) (hr.mono (by decide)) T.b_BadSource_init .nil pass0 rfl T.g_BadSource (pa_cons (pv 2) (pa_cons pe_str pa_nil)))))))))), ?_⟩
    have ez : z.cps.toList.length = z.length := Array.length_toList
    have eF : tokL (z.cps.toList.drop i) = none → ∀ rs : Str, ∀ H', Same H H' → rMkO T.c_BadSource (sp_BadSource_init T) [] [.int ln, .str rs] H' (fun cls d H' => E cls d H') := fun h rs H' s1 =>
      i_mkOI2 fun d H3 s3 hd => q2 h d rs H3 (s1.trans s3) hd
    have hi' : i < z.cps.toList.length := by omega
    have ed := drop_cons hi'
    have eat : atI z.cps.toList (i : Int) = some z.cps.toList[i] := at_cl hi'
    generalize z.cps.toList[i] = c at ed eat
    generalize z.cps.toList.drop (i + 1) = t at ed
    walk_at "rd"
    refine rdSeq ?_
    walk_at "rd"
    refine i_ixS (line5 hz) eat ?_
    refine rdSeq ?_
    walk_at "rd"
    refine i_inC rfl rfl ?_
    walk_at "rd"
    have eh : (z.cps.toList.drop i).headD 0 = c := by rw [ed]; rfl
    have tl1 : (z.cps.toList.drop i).drop 1 = z.cps.toList.drop (i + 1) := by rw [List.drop_drop]
    have word : wC c = true → ∀ (H1 : Hp) (nx : L2.St → Hp → Prop), Same H H1 → tSeq (tAsg (tCall (sp_word_end K) [] E0 (tCons (tVar 0) (tCons (tVar 1) tNil))) (gName 4))
      (tSeq
        (tAsg
          (tCallS (sp_word_token T) (fun σ => L2.WE (fun cls d x H => E cls d H) σ)
            (tCons (tSl rSlS (tVar 0) (tPart (tVar 1)) (tPart (tVar 4))) (tCons (tVar 2) tNil)))
          (gTup K 2 (gCons (gName 5) (gCons (gName 6) gNil))))
        (tRet (tTup (tCons (tVar 5) (tCons (tVar 6) (tCons (tVar 4) tNil)))))) { nx := nx, rt := Q } [some (.str z), some (.int (i : Int)), some (.int ln), some (.str ⟨#[c]⟩), none, none, none] H1 := fun hw H1 nx s1 => by
      have hT : tokL (z.cps.toList.drop i) = (wtok (sL ((z.cps.toList.drop i).takeWhile wC))).map fun kv => (kv.1, kv.2, wlen (z.cps.toList.drop i)) := by
        unfold tokL; rw [if_pos (by rw [eh]; exact hw)]
      have ew : wlen (z.cps.toList.drop i) = 1 + wlen t := wlen_pos ed hw
      have ewl : wlen (z.cps.toList.drop i) ≤ (z.cps.toList.drop i).length := (List.takeWhile_prefix wC).length_le
      rw [List.length_drop] at ewl
      have etk : (z.cps.toList.drop i).take (wlen (z.cps.toList.drop i)) = (z.cps.toList.drop i).takeWhile wC := by
        exact (List.prefix_iff_eq_take.mp (List.takeWhile_prefix wC)).symm
      refine rdSeq ?_
      walk_at "rd"
      refine ⟨z, i, rfl, hz, by omega, ?_⟩
      refine rdSeq ?_
      walk_at "rd"
      refine i_slS (line5 hz) ?_
      rw [cut_nat (by omega), Nat.add_sub_cancel_left, etk]
      refine ⟨_, ln, rfl, ?_, ?_, fun k v e p H' s2 hp => ?_, fun e d rs H' s2 hd => ?_⟩
      · rw [sL_len, ← etk, List.length_take, List.length_drop]; omega
      · rw [sL_len, ← etk, List.length_take, List.length_drop]; omega
      · refine i_gTup2 rfl (sqT_of hp) ?_
        walk_at "rd"
        exact fun p2 hp2 => q1 k v (wlen (z.cps.toList.drop i)) (by rw [hT, e]; rfl) p2 _ (s1.trans (s2.trans (same_new hp2))) upd_same
      · exact q2 (by rw [hT, e]; rfl) d rs H' (s1.trans s2) hd
    refine ite2 (fun h0 => word (by unfold wC letC; rw [decide_eq_true h0]; rfl) _ _ (Same.refl _)) (fun h0 => ?_)
    refine i_inC rfl rfl ?_
    walk_at "rd"
    refine ite2 (fun h1 => word (by unfold wC digC; rw [decide_eq_true h1, Bool.or_true]) _ _ (Same.refl _)) (fun h1 => ?_)
    have hw : wC c = false := by unfold wC letC digC; rw [decide_eq_false h0, decide_eq_false h1]; rfl
    refine rdSeq ?_
    walk_at "rd"
    refine ite2 (fun h34 => ?_) (fun h34 => ?_)
    · have c34 : c = 34 := by
        by_cases e : c = 34
        · exact e
        · exact absurd h34 (str1_ne e)
      have hT : tokL (z.cps.toList.drop i) = (if (bodyT (z.cps.toList.drop (i + 1))).length < (z.cps.toList.drop (i + 1)).length ∧ txtC (bodyT (z.cps.toList.drop (i + 1))) = true then some ("text", .str (sL (bodyT (z.cps.toList.drop (i + 1)))), (bodyT (z.cps.toList.drop (i + 1))).length + 2) else none : Option (Str × V × Nat)) := by
        unfold tokL
        rw [eh, if_neg (by rw [hw]; simp), if_pos c34, tl1]
      generalize hB : bodyT (z.cps.toList.drop (i + 1)) = B at hT
      have hf := find3_chr z 34 (i + 1) (by omega)
      have eB : ((z.cps.toList.drop (i + 1)).takeWhile fun d => !decide (d = 34)) = B := hB
      rw [eB] at hf
      have hBl : B.length ≤ (z.cps.toList.drop (i + 1)).length := by rw [← eB]; exact (List.takeWhile_prefix _).length_le
      have etk : (z.cps.toList.drop (i + 1)).take B.length = B := by rw [← eB]; exact (List.prefix_iff_eq_take.mp (List.takeWhile_prefix _)).symm
      rw [List.length_drop] at hBl hf hT
      refine rdSeq ?_
      walk_at "rd"
      rw [show (i : Int) + 1 = ((i + 1 : Nat) : Int) by omega]
      have ef : Txt.find3 z (Str.ofString "\"") ((i + 1 : Nat) : Int) = Txt.find3 z ⟨#[34]⟩ ((i + 1 : Nat) : Int) := rfl
      rw [ef, hf]
      by_cases hb : B.length < z.cps.toList.length - (i + 1)
      · rw [if_pos hb]
        refine ⟨rfl, rdSeq ?_⟩
        walk_at "rd"
        refine i_else (by omega) (i_slS (line5 hz) ?_)
        rw [show (i : Int) + 1 = ((i + 1 : Nat) : Int) by omega, cut_nat (by omega), Nat.add_sub_cancel_left, etk]
        refine ⟨_, rfl, .inl ⟨_, rfl, by rw [sL_len]; omega, fun H2 s2 => ?_⟩⟩
        rw [sL_cl]
        cases hx : txtC B with
        | true =>
          walk_at "rd"
          refine i_slS (line5 hz) ?_
          rw [cut_nat (by omega), Nat.add_sub_cancel_left, etk]
          intro p hp
          refine q1 "text" (.str (sL B)) (B.length + 2) (by rw [hT, if_pos ⟨hb, hx⟩]) p _ (s2.trans (same_new hp)) ?_
          rw [upd_same, show ((i + 1 + B.length : Nat) : Int) + 1 = ((i + (B.length + 2) : Nat) : Int) by omega]
        | false =>
          walk_at "rd"
          exact eF (by rw [hT, if_neg (by rw [hx]; simp)]) _ _ s2
      · rw [if_neg hb]
        refine ⟨rfl, rdSeq ?_⟩
        walk_at "rd"
        exact eF (by rw [hT, if_neg (fun k => hb k.1)]) _ _ (Same.refl _)
    · have c34 : ¬ c = 34 := fun e => h34 (by rw [e]; rfl)
      have hT : tokL (z.cps.toList.drop i) = (if inV (.str (sL ((z.cps.toList.drop i).take 2))) prL = true then some ("sign", .str (sL ((z.cps.toList.drop i).take 2)), 2)
          else if c ∈ sgl.cps.toList then some ("sign", .str (sL [c]), 1) else none : Option (Str × V × Nat)) := by
        unfold tokL
        rw [eh, if_neg (by rw [hw]; simp), if_neg c34]
      refine rdSeq ?_
      walk_at "rd"
      have e2 : (i : Int) + 2 = ((i + 2 : Nat) : Int) := by omega
      rw [e2]
      refine i_slS (line5 hz) ?_
      rw [cut_nat (by omega), Nat.add_sub_cancel_left]
      refine ⟨_, prL, rfl, .inr (T.s_PAIRS H), rfl, by decide +kernel, ?_⟩
      rw [if_neg (by decide)]
      cases hp2 : inV (.str (sL ((z.cps.toList.drop i).take 2))) prL with
      | true =>
        walk_at "rd"
        refine i_slS (line5 hz) ?_
        rw [cut_nat (by omega), Nat.add_sub_cancel_left]
        exact fun p hp => q1 "sign" (.str (sL ((z.cps.toList.drop i).take 2))) 2 (by rw [hT, if_pos hp2]) p _ (same_new hp) upd_same
      | false =>
        walk_at "rd"
        refine rdSeq ?_
        walk_at "rd"
        refine i_inC rfl rfl ?_
        walk_at "rd"
        refine ite2 (fun hs => fun p hp => ?_) (fun hs => eF (by rw [hT, if_neg (by rw [hp2]; simp), if_neg (show ¬ c ∈ sgl.cps.toList from hs)]) _ _ (Same.refl _))
        exact q1 "sign" (.str (sL [c])) 1 (by rw [hT, if_neg (by rw [hp2]; simp), if_pos (show c ∈ sgl.cps.toList from hs)]) p _ (same_new hp) upd_same
inductive Run : List Nat → Nat → List (Str × V × Nat) → Option Nat → Prop
  | nil {ln : Nat} : Run [] ln [] none
  | nl {t : List Nat} {ln : Nat} {ts : List (Str × V × Nat)} {e : Option Nat} (r : Run t (ln + 1) ts e) : Run (10 :: t) ln ts e
  | sp {t : List Nat} {ln : Nat} {ts : List (Str × V × Nat)} {e : Option Nat} (r : Run t ln ts e) : Run (32 :: t) ln ts e
  | com {t : List Nat} {ln : Nat} {ts : List (Str × V × Nat)} {e : Option Nat} (h : (cmt (35 :: t)).all prn = true) (r : Run ((35 :: t).drop (cmt (35 :: t)).length) ln ts e) : Run (35 :: t) ln ts e
  | comE {t : List Nat} {ln : Nat} (h : (cmt (35 :: t)).all prn = false) : Run (35 :: t) ln [] (some ln)
  | tok {c : Nat} {t : List Nat} {ln : Nat} {ts : List (Str × V × Nat)} {e : Option Nat} {k : Str} {v : V} {n : Nat} (h1 : ¬ c = 10) (h2 : ¬ c = 32) (h3 : ¬ c = 35) (h : tokL (c :: t) = some (k, v, n)) (r : Run ((c :: t).drop n) ln ts e) : Run (c :: t) ln ((k, v, ln) :: ts) e
  | tokE {c : Nat} {t : List Nat} {ln : Nat} (h1 : ¬ c = 10) (h2 : ¬ c = 32) (h3 : ¬ c = 35) (h : tokL (c :: t) = none) : Run (c :: t) ln [] (some ln)
theorem tok_pos {l : List Nat} {k : Str} {v : V} {n : Nat} (h : tokL l = some (k, v, n)) (hl : l ≠ []) : 1 ≤ n := by
  obtain ⟨c, t, rfl⟩ : ∃ c t, l = c :: t := by
    cases l with
    | nil => exact absurd rfl hl
    | cons c t => exact ⟨c, t, rfl⟩
  unfold tokL at h
  have eh : (c :: t).headD 0 = c := rfl
  rw [eh] at h
  by_cases hw : wC c = true
  · rw [if_pos hw] at h
    have := wlen_pos (l := c :: t) rfl hw
    cases e : wtok (sL ((c :: t).takeWhile wC)) with
    | none => rw [e] at h; cases h
    | some kv => rw [e] at h; cases h; show 1 ≤ wlen (c :: t); omega
  · rw [if_neg hw] at h
    split at h
    · split at h
      · cases h; omega
      · cases h
    · split at h
      · cases h; decide
      · split at h
        · cases h; decide
        · cases h
def TokP (H : Hp) (rs : List Addr) (ts : List (Str × V × Nat)) : Prop := rs.length = ts.length ∧ ∀ (i : Nat) (r : Addr) (t : Str × V × Nat), rs[i]? = some r → ts[i]? = some t → H r = some (.tup [.str t.1, t.2.1, .int (t.2.2 : Nat)])
theorem TokP.same {H H' : Hp} {rs : List Addr} {ts : List (Str × V × Nat)} (h : TokP H rs ts) (s : ∀ r xs, H r = some (.tup xs) → H' r = some (.tup xs)) : TokP H' rs ts := ⟨h.1, fun i r t a b => s _ _ (h.2 i r t a b)⟩
theorem TokP.snoc {H : Hp} {rs : List Addr} {ts : List (Str × V × Nat)} (h : TokP H rs ts) {r : Addr} {t : Str × V × Nat} (hr : H r = some (.tup [.str t.1, t.2.1, .int (t.2.2 : Nat)])) : TokP H (rs ++ [r]) (ts ++ [t]) := by
  refine ⟨by rw [List.length_append, List.length_append, h.1]; rfl, fun i r' t' a b => ?_⟩
  by_cases hi : i < rs.length
  · rw [List.getElem?_append_left hi] at a
    rw [List.getElem?_append_left (by rw [← h.1]; exact hi)] at b
    exact h.2 i r' t' a b
  · have jr : i < (rs ++ [r]).length := (List.getElem?_eq_some_iff.mp a).1
    rw [List.length_append, List.length_singleton] at jr
    obtain rfl : i = rs.length := by omega
    rw [List.getElem?_append_right (Nat.le_refl _), Nat.sub_self] at a
    rw [h.1, List.getElem?_append_right (Nat.le_refl _), Nat.sub_self] at b
    cases a; cases b; exact hr
inductive TI (H0 : Hp) (z : Str) (all : List (Str × V × Nat)) (oe : Option Nat) (p : Addr) (m : Nat) (σ : L2.St) (H : Hp) : Prop
  | mk (i ln : Nat) (rs : List Addr) (done rest : List (Str × V × Nat)) (y4 y5 : Option V) (s : Same H0 H) (em : m = z.length - i) (hp : H p = some (.lst (rs.map V.ref))) (tp : TokP H rs done) (R : Run (z.cps.toList.drop i) ln rest oe) (ea : done ++ rest = all) (hn : done.length ≤ i)
      (es : σ = [some (.str z), some (.ref p), some (.int (ln : Int)), some (.int (i : Int)), y4, y5])
/-- no source text at all -/
def OddT (K : PySem.W.Frag) (H : Hp) (v : V) : Prop := OddS K H v ∨ ∃ z : Str, v = .str z ∧ 20000 < z.length ∧ z.length ≤ 100000
def sp_tokens {K : PySem.W.Frag} {mg : Str → Option Value} (T : Txt K mg) : Sp := fun vs H Q E => (∃ (z : Str) (ts : List (Str × V × Nat)) (oe : Option Nat), vs = [.str z] ∧ z.length ≤ 20000 ∧ Run z.cps.toList 1 ts oe ∧
  (oe = none → ∀ p rs H', Same H H' → H' p = some (.tup (rs.map V.ref)) → TokP H' rs ts → Q (.ref p) H') ∧ (∀ e : Nat, oe = some e → ErrE T.c_BadSource H E e)) ∨ (∃ v, vs = [v] ∧ OddT K H v ∧ ErrE T.c_BadSource H E 0)
theorem ok_tokens (T : Txt K mg) : FnOk P w K mg base (L2.CX P w) 6 T.f_tokens T.d_tokens ["text"] (sp_tokens T) := by
  refine T.k_tokens.okX sc_tokens (fun vs H Q E h => ?_) (fun cdv A outer s H vs Q E hr h => ?_)
  · rcases h with ⟨z, ts, oe, rfl, _⟩ | ⟨v, rfl, _⟩
    · rfl
    · rfl
  · rcases h with ⟨z, ts, oe, rfl, hz, R, q1, q2⟩ | ⟨v, rfl, od, q2⟩
    case inr =>
      refine ⟨_, (pss_cons (ps_if (PW.pt (pw_or (pt_not (pt_val (pe_callB (isiK K) (by rfl) T.m_isinstance (by decide +kernel) (pa_cons (pv 0) (pa_cons (pe_bltn (v := .ty "str") (by rfl) T.m_str (by decide +kernel) rfl) pa_nil))))) (pw_or1 (pt_cmpR op_gt (pe_callB call_lenS (by rfl) T.m_len (by decide +kernel) (pa_cons (pv 0) pa_nil)) (pe_glob (v := .int _) rfl T.g_MOST_SOURCE ⟨_, rfl⟩) (nomark _))))) (pss_one (ps_raise rfl (takes_of rfl rfl rfl rfl) (pmk_oex T.ox_BadSource T.in_BadSource T.ti_BadSource (ok_BadSource_init T) (hr.mono (by decide)) T.b_BadSource_init .nil pass0 rfl T.g_BadSource (pa_cons pe_int (pa_cons pe_str pa_nil))))) pss_nil)
      (pss_cons (ps_set (i := 1) sc_tokens.nd rfl (.inl rfl) (pe_lst pa_nil))
      (pss_cons (ps_set (i := 2) sc_tokens.nd rfl (.inl rfl) pe_int)
      (pss_cons (ps_set (i := 3) sc_tokens.nd rfl (.inl rfl) pe_int)
      (pss_cons (ps_while (passes_of rfl) (pt_cmpR op_lt (pv 3) (pe_callB call_lenS (by rfl) T.m_len (by decide +kernel) (pa_cons (pv 0) pa_nil)) (nomark _)) (pss_one (ps_if (pt_cmpR op_eq (pe_ix ix_str (pv 0) (pv 3) (fun _ _ => rfl)) pe_str (nomark _)) (pss_cons (ps_aug (i := 2) sc_tokens.nd rfl (.inl rfl) pe_int ip_add)
      (pss_one (ps_aug (i := 3) sc_tokens.nd rfl (.inl rfl) pe_int ip_add))) (pss_one (ps_if (pt_cmpR op_eq (pe_ix ix_str (pv 0) (pv 3) (fun _ _ => rfl)) pe_str (nomark _)) (pss_one (ps_aug (i := 3) sc_tokens.nd rfl (.inl rfl) pe_int ip_add)) (pss_one (ps_if (pt_cmpR op_eq (pe_ix ix_str (pv 0) (pv 3) (fun _ _ => rfl)) pe_str (nomark _)) (pss_one (ps_set (i := 3) sc_tokens.nd rfl (.inl rfl) (pe_callS (ok_comment_end T) (hr.mono (by decide)) (by rfl) T.g_comment_end T.k_comment_end.kp T.b_comment_end (fun σ => passAt (takes_of rfl rfl rfl rfl) σ) (pa_cons (pv 0) (pa_cons (pv 3) (pa_cons (pv 2) pa_nil)))))) (pss_cons (ps_asg (pe_callS (ok_token_at T) (hr.mono (by decide)) (by rfl) T.g_token_at T.k_token_at.kp T.b_token_at (fun σ => passAt (takes_of rfl rfl rfl rfl) σ) (pa_cons (pv 0) (pa_cons (pv 3) (pa_cons (pv 2) pa_nil)))) (pg_tup rfl (pgs_cons (pg_name (i := 4) sc_tokens.nd rfl (Or.inl rfl)) (pgs_cons (pg_name (i := 5) sc_tokens.nd rfl (Or.inl rfl)) (pgs_cons (pg_name (i := 3) sc_tokens.nd rfl (Or.inl rfl)) pgs_nil)))))
      (pss_one (ps_expr (pe_bmK K PySem.F.plainAttrs_list PySem.F.slot_list_append PySem.F.type_list_append mt_append (pv 1) (pa_cons (pe_tup (pa_cons (pv 4) (pa_cons (pv 5) (pa_cons (pv 2) pa_nil)))) pa_nil))))))))))))
      (pss_one (ps_ret (pe_callTy call_tuple_of (by rfl) T.m_tuple (by decide +kernel) (pa_cons (pv 1) pa_nil))))))))), ?_⟩
      walk_at "rd"
      refine rdSeq ?_
      walk_at "rd"
      rcases od with ⟨t, ty, ht⟩ | ⟨z, rfl, h1, h2⟩
      · refine i_isi ty ht ?_
        walk_at "rd"
        exact i_mkOI2 fun d H3 s3 hd => q2 d _ H3 s3 hd
      · refine i_isi ty_str kb_ss ?_
        walk_at "rd"
        refine i_lenS rfl (line5 h2) ?_
        walk_at "rd"
        exact i_then (by omega) (i_mkOI2 fun d H3 s3 hd => q2 d _ H3 s3 hd)
    refine ⟨_, (pss_cons (ps_if (PW.pt (pw_or (pt_not (pt_val (pe_callB (isiK K) (by rfl) T.m_isinstance (by decide +kernel) (pa_cons (pv 0) (pa_cons (pe_bltn (v := .ty "str") (by rfl) T.m_str (by decide +kernel) rfl) pa_nil))))) (pw_or1 (pt_cmpR op_gt (pe_callB call_lenS (by rfl) T.m_len (by decide +kernel) (pa_cons (pv 0) pa_nil)) (pe_glob (v := .int _) rfl T.g_MOST_SOURCE ⟨_, rfl⟩) (nomark _))))) (pss_one (ps_raise rfl (takes_of rfl rfl rfl rfl) (pmk_oex T.ox_BadSource T.in_BadSource T.ti_BadSource (ok_BadSource_init T) (hr.mono (by decide)) T.b_BadSource_init .nil pass0 rfl T.g_BadSource (pa_cons pe_int (pa_cons pe_str pa_nil))))) pss_nil)
      (pss_cons (ps_set (i := 1) sc_tokens.nd rfl (.inl rfl) (pe_lst pa_nil))
      (pss_cons (ps_set (i := 2) sc_tokens.nd rfl (.inl rfl) pe_int)
      (pss_cons (ps_set (i := 3) sc_tokens.nd rfl (.inl rfl) pe_int)
      (pss_cons (ps_while (passes_of rfl) (pt_cmpR op_lt (pv 3) (pe_callB call_lenS (by rfl) T.m_len (by decide +kernel) (pa_cons (pv 0) pa_nil)) (nomark _)) (pss_one (ps_if (pt_cmpR op_eq (pe_ix ix_str (pv 0) (pv 3) (fun _ _ => rfl)) pe_str (nomark _)) (pss_cons (ps_aug (i := 2) sc_tokens.nd rfl (.inl rfl) pe_int ip_add)
      (pss_one (ps_aug (i := 3) sc_tokens.nd rfl (.inl rfl) pe_int ip_add))) (pss_one (ps_if (pt_cmpR op_eq (pe_ix ix_str (pv 0) (pv 3) (fun _ _ => rfl)) pe_str (nomark _)) (pss_one (ps_aug (i := 3) sc_tokens.nd rfl (.inl rfl) pe_int ip_add)) (pss_one (ps_if (pt_cmpR op_eq (pe_ix ix_str (pv 0) (pv 3) (fun _ _ => rfl)) pe_str (nomark _)) (pss_one (ps_set (i := 3) sc_tokens.nd rfl (.inl rfl) (pe_callS (ok_comment_end T) (hr.mono (by decide)) (by rfl) T.g_comment_end T.k_comment_end.kp T.b_comment_end (fun σ => passAt (takes_of rfl rfl rfl rfl) σ) (pa_cons (pv 0) (pa_cons (pv 3) (pa_cons (pv 2) pa_nil)))))) (pss_cons (ps_asg (pe_callS (ok_token_at T) (hr.mono (by decide)) (by rfl) T.g_token_at T.k_token_at.kp T.b_token_at (fun σ => passAt (takes_of rfl rfl rfl rfl) σ) (pa_cons (pv 0) (pa_cons (pv 3) (pa_cons (pv 2) pa_nil)))) (pg_tup rfl (pgs_cons (pg_name (i := 4) sc_tokens.nd rfl (Or.inl rfl)) (pgs_cons (pg_name (i := 5) sc_tokens.nd rfl (Or.inl rfl)) (pgs_cons (pg_name (i := 3) sc_tokens.nd rfl (Or.inl rfl)) pgs_nil)))))
      (pss_one (ps_expr (pe_bmK K PySem.F.plainAttrs_list PySem.F.slot_list_append PySem.F.type_list_append mt_append (pv 1) (pa_cons (pe_tup (pa_cons (pv 4) (pa_cons (pv 5) (pa_cons (pv 2) pa_nil)))) pa_nil))))))))))))
      (pss_one (ps_ret (pe_callTy call_tuple_of (by rfl) T.m_tuple (by decide +kernel) (pa_cons (pv 1) pa_nil))))))))), ?_⟩
    -- 0:text 1:found 2:line 3:index 4:kind 5:value
    have ez : z.cps.toList.length = z.length := Array.length_toList
    walk_at "rd"
    refine rdSeq ?_
    walk_at "rd"
    refine i_isi ty_str kb_ss ?_
    walk_at "rd"
    refine i_lenS rfl (line5 (by omega)) ?_
    walk_at "rd"
    refine i_else (by omega) ?_
    refine rdSeq ?_
    walk_at "rd"
    intro p hp
    refine rdSeq ?_
    walk_at "rd"
    refine rdSeq ?_
    walk_at "rd"
    refine rdSeq ?_
    refine i_while (TI H z ts oe p) _ ⟨0, 1, [], [], ts, none, none, same_new hp, rfl, upd_same, ⟨rfl, fun _ _ _ h => nomatch h⟩, R, rfl, Nat.le_refl _, rfl⟩ ?_
    rintro m σ H1 ⟨i, ln, rs, done, rest, y4, y5, s1, rfl, hp1, tp, R, ea, hn, rfl⟩
    walk_at "rd"
    refine i_lenS rfl (line5 (by omega)) ?_
    walk_at "rd"
    have nn : ∀ {a b : Nat}, ¬ a = b → ¬ (V.str ⟨#[a]⟩ = V.str ⟨#[b]⟩) := fun h e => absurd (V.str.inj e) (str1_ne h)
    refine ite2 (fun h => ?_) (fun h => ?_)
    · have hi' : i < z.cps.toList.length := by omega
      have ed := drop_cons hi'
      have eat : atI z.cps.toList (i : Int) = some z.cps.toList[i] := at_cl hi'
      generalize z.cps.toList[i] = c at ed eat
      rw [ed] at R
      refine i_whT ?_
      walk_at "rd"
      refine i_ixS (line5 (by omega)) eat ⟨rfl, ?_⟩
      cases R with
      | nl r =>
        refine i_then rfl (rdSeq ?_)
        walk_at "rd"
        exact ⟨z.length - (i + 1), by omega, i + 1, ln + 1, rs, done, rest, y4, y5, s1, rfl, hp1, tp, r, ea, by omega, rfl⟩
      | sp r =>
        refine i_else (nn (by decide)) (i_ixS (line5 (by omega)) eat ⟨rfl, i_then rfl ?_⟩)
        walk_at "rd"
        exact ⟨z.length - (i + 1), by omega, i + 1, ln, rs, done, rest, y4, y5, s1, rfl, hp1, tp, r, ea, by omega, rfl⟩
      | com hpr r =>
        rw [← ed] at hpr r
        rw [List.drop_drop] at r
        refine i_else (nn (by decide)) (i_ixS (line5 (by omega)) eat ⟨rfl, i_else (nn (by decide)) (i_ixS (line5 (by omega)) eat ⟨rfl, i_then rfl ?_⟩)⟩)
        refine ⟨z, i, ln, rfl, by omega, by omega, fun _ H2 s2 => ?_, fun e => by rw [hpr] at e; cases e⟩
        have hc : 1 ≤ (cmt (z.cps.toList.drop i)).length := by rw [cmt_pos ed (by decide), List.length_cons]; omega
        exact ⟨z.length - (i + (cmt (z.cps.toList.drop i)).length), by omega, _, ln, rs, done, rest, y4, y5, s1.trans s2, rfl, s2 _ _ hp1, tp.same (fun r xs e => s2 _ _ e), r, ea, by omega, rfl⟩
      | comE hpr =>
        rw [← ed] at hpr
        refine i_else (nn (by decide)) (i_ixS (line5 (by omega)) eat ⟨rfl, i_else (nn (by decide)) (i_ixS (line5 (by omega)) eat ⟨rfl, i_then rfl ?_⟩)⟩)
        exact ⟨z, i, ln, rfl, by omega, by omega, (fun e => by rw [hpr] at e; cases e), fun _ d rv H2 s2 e2 => q2 ln rfl d rv H2 (s1.trans s2) e2⟩
      | @tok _ _ _ ts2 _ k v n g1 g2 g3 ht r =>
        have hn1 := tok_pos ht (by simp)
        rw [← ed] at ht r
        rw [List.drop_drop] at r
        refine i_else (nn g1) (i_ixS (line5 (by omega)) eat ⟨rfl, i_else (nn g2) (i_ixS (line5 (by omega)) eat ⟨rfl, i_else (nn g3) (rdSeq ?_)⟩)⟩)
        walk_at "rd"
        refine ⟨z, i, ln, rfl, by omega, by omega, fun k2 v2 n2 e p2 H2 s2 hp2 => ?_, fun e => by rw [ht] at e; cases e⟩
        rw [ht] at e
        cases e
        refine i_gTup3 rfl (sqT_of hp2) ?_
        walk_at "rd"
        refine ⟨ty_app (sqL_of (s2 _ _ hp1)), ?_⟩
        intro p3 hp3
        have hp13 := same_new (o := .tup [.str k, v, .int (ln : Int)]) hp3 _ _ (s2 _ _ hp1)
        have npp : p3 ≠ p := fun e => by subst e; have := s2 _ _ hp1; rw [hp3] at this; cases this
        have hlr : rs.length = done.length := tp.1
        refine i_app hp13 (by rw [List.length_map]; exact line5' (by omega)) ?_
        refine ⟨z.length - (i + n), by omega, i + n, ln, rs ++ [p3], done ++ [(k, v, ln)], ts2, _, _, fun b o e => ?_, rfl, by rw [upd_same, List.map_append]; rfl, TokP.snoc (tp.same fun r xs e => ?_) ?_, r, by rw [← ea, List.append_assoc]; rfl, by rw [List.length_append]; show _ + 1 ≤ _; omega, rfl⟩
        · have npb : b ≠ p := fun e2 => by subst e2; rw [hp] at e; cases e
          rw [upd_ne npb]; exact same_new hp3 _ _ (s2 _ _ (s1 _ _ e))
        · rw [upd_ne (ne_of (same_new hp3 _ _ (s2 _ _ e)) hp13 (by intro z; cases z))]
          exact same_new hp3 _ _ (s2 _ _ e)
        · rw [upd_ne npp, upd_same]
      | tokE g1 g2 g3 ht =>
        rw [← ed] at ht
        refine i_else (nn g1) (i_ixS (line5 (by omega)) eat ⟨rfl, i_else (nn g2) (i_ixS (line5 (by omega)) eat ⟨rfl, i_else (nn g3) (rdSeq ?_)⟩)⟩)
        walk_at "rd"
        exact ⟨z, i, ln, rfl, by omega, by omega, fun k2 v2 n2 e => by rw [ht] at e; (cases e), fun _ d rv H2 s2 e2 => q2 ln rfl d rv H2 (s1.trans s2) e2⟩
    · have e0 : z.cps.toList.drop i = [] := List.drop_eq_nil_of_le (by omega)
      rw [e0] at R
      cases R
      rw [List.append_nil] at ea
      subst ea
      exact ⟨_, .inl ⟨sqL_of hp1, fun l hl => q1 rfl l rs _ (s1.trans (same_new hl)) upd_same (tp.same fun r xs e => same_new hl _ _ e)⟩⟩

/-! ### the plain law of tokens -/
def Fol (w l : List Nat) : Prop := (wC (w.getLastD 0) = true → wC (l.headD 0) = false) ∧ (w.length = 1 → inV (.str (sL ((w ++ l).take 2))) prL = false)
structure TokOk (w : List Nat) (k : Str) (v : V) : Prop where
  ne : w ≠ []
  hd : ¬ w.headD 0 = 10 ∧ ¬ w.headD 0 = 32 ∧ ¬ w.headD 0 = 35
  n33 : ¬ w = [33]
  nl : w.count 10 = 0
  tk : ∀ l, Fol w l → tokL (w ++ l) = some (k, v, w.length)
def Gp (g : List Nat) : Prop := ∀ l ln rest e, Run l (ln + g.count 10) rest e → Run (g ++ l) ln rest e
def Pre (T : List Nat) (ts : List (Str × V × Nat)) (w : List Nat) : Prop := ∀ l rest {e : Option Nat}, Fol w l → Run l (1 + T.count 10) rest e → Run (T ++ l) 1 (ts ++ rest) e
theorem Gp.nil : Gp [] := fun _ _ _ _ r => r
theorem Gp.append {a b : List Nat} (ha : Gp a) (hb : Gp b) : Gp (a ++ b) := fun l ln rest e r => by
  rw [List.append_assoc]
  refine ha _ _ _ _ (hb _ _ _ _ ?_)
  rw [List.count_append] at r
  rw [Nat.add_assoc]; exact r
theorem Gp.sp : Gp [32] := fun l ln rest e r => .sp r
theorem Gp.nl : Gp [10] := fun l ln rest e r => .nl r
theorem Gp.sps : ∀ n, Gp (List.replicate n 32)
  | 0 => Gp.nil
  | n + 1 => by rw [List.replicate_succ]; exact Gp.append (a := [32]) Gp.sp (Gp.sps n)
theorem Gp.nls : ∀ n, Gp (List.replicate n 10)
  | 0 => Gp.nil
  | n + 1 => by rw [List.replicate_succ]; exact Gp.append (a := [10]) Gp.nl (Gp.nls n)
theorem prn_ne {c : Nat} (h : prn c = true) : ¬ c = 10 := fun e => by subst e; revert h; decide
theorem cmt_body : ∀ (b l : List Nat), b.all prn = true → cmt (b ++ 10 :: l) = b
  | [], l, _ => cmt_neg rfl
  | c :: b, l, h => by
    rw [List.all_cons, Bool.and_eq_true] at h
    rw [List.cons_append, cmt_pos rfl (prn_ne h.1), cmt_body b l h.2]
theorem cmt_end : ∀ (b : List Nat), b.all prn = true → cmt b = b
  | [], _ => rfl
  | c :: b, h => by
    rw [List.all_cons, Bool.and_eq_true] at h
    rw [cmt_pos rfl (prn_ne h.1), cmt_end b h.2]
theorem prn_count {b : List Nat} (h : b.all prn = true) : b.count 10 = 0 := List.count_eq_zero.mpr fun hm => prn_ne (List.all_eq_true.mp h 10 hm) rfl
theorem Gp.com {b : List Nat} (h : b.all prn = true) : Gp (35 :: b ++ [10]) := fun l ln rest e r => by
  have hb : (35 :: b).all prn = true := by rw [List.all_cons, h]; decide
  have ec := cmt_body (35 :: b) l hb
  have e1 : 35 :: b ++ [10] ++ l = 35 :: (b ++ 10 :: l) := by simp
  rw [e1]
  have ec2 : cmt (35 :: (b ++ 10 :: l)) = 35 :: b := ec
  refine .com (by rw [ec2]; exact hb) ?_
  rw [ec2, show (35 :: (b ++ 10 :: l)).drop (35 :: b).length = 10 :: l from by rw [show 35 :: (b ++ 10 :: l) = (35 :: b) ++ 10 :: l from rfl, List.drop_left]]
  refine .nl ?_
  have : (35 :: b ++ [10]).count 10 = 1 := by
    rw [List.count_append, prn_count hb]; rfl
  rw [this] at r; exact r
theorem run_com {b : List Nat} (h : b.all prn = true) (ln : Nat) : Run (35 :: b) ln [] none := by
  have hb : (35 :: b).all prn = true := by rw [List.all_cons, h]; decide
  have ec := cmt_end (35 :: b) hb
  refine .com (by rw [ec]; exact hb) ?_
  rw [ec, List.drop_length]; exact .nil
theorem pair2 {a b : Nat} (h : inV (.str (sL [a, b])) prL = true) : (a = 60 ∨ a = 62 ∨ a = 61 ∨ a = 33) ∧ (b = 60 ∨ b = 62 ∨ b = 61) := by
  have key : ∀ x y : Nat, eqV (V.str (sL [x, y])) (V.str (sL [a, b])) = true → x = a ∧ y = b := fun x y e => by
    have e1 : decide (sL [x, y] = sL [a, b]) = true := e
    have e2 : ([x, y] : List Nat) = [a, b] := congrArg (fun z : Str => z.cps.toList) (of_decide_eq_true e1)
    injection e2 with e3 e4
    injection e4 with e5
    exact ⟨e3, e5⟩
  have h : (eqV (V.str (sL [60, 60])) (V.str (sL [a, b])) || (eqV (V.str (sL [62, 62])) (V.str (sL [a, b])) || (eqV (V.str (sL [61, 61])) (V.str (sL [a, b])) || (eqV (V.str (sL [33, 61])) (V.str (sL [a, b])) || (eqV (V.str (sL [60, 61])) (V.str (sL [a, b])) || (eqV (V.str (sL [62, 61])) (V.str (sL [a, b])) || false)))))) = true := h
  simp only [Bool.or_eq_true, Bool.false_eq_true, or_false] at h
  rcases h with h | h | h | h | h | h <;> (obtain ⟨rfl, rfl⟩ := key _ _ h; decide)
theorem pair1 (a : Nat) : inV (.str (sL [a])) prL = false := by
  cases h : inV (.str (sL [a])) prL with
  | false => rfl
  | true =>
    exfalso
    have key : ∀ x y : Nat, ¬ eqV (V.str (sL [x, y])) (V.str (sL [a])) = true := fun x y e => by
      have e1 : decide (sL [x, y] = sL [a]) = true := e
      have e2 : ([x, y] : List Nat) = [a] := congrArg (fun z : Str => z.cps.toList) (of_decide_eq_true e1)
      cases e2
    have h : (eqV (V.str (sL [60, 60])) (V.str (sL [a])) || (eqV (V.str (sL [62, 62])) (V.str (sL [a])) || (eqV (V.str (sL [61, 61])) (V.str (sL [a])) || (eqV (V.str (sL [33, 61])) (V.str (sL [a])) || (eqV (V.str (sL [60, 61])) (V.str (sL [a])) || (eqV (V.str (sL [62, 61])) (V.str (sL [a])) || false)))))) = true := h
    simp only [Bool.or_eq_true, Bool.false_eq_true, or_false] at h
    rcases h with h | h | h | h | h | h <;> exact key _ _ h
theorem fol_nil (w : List Nat) : Fol w [] := by
  refine ⟨fun _ => by decide, fun h => ?_⟩
  obtain ⟨a, rfl⟩ := List.length_eq_one_iff.mp h
  exact pair1 a
/-- behind a space, a newline or a # anything may stand -/
theorem fol_gap {w l : List Nat} {c : Nat} (hc : c = 32 ∨ c = 10 ∨ c = 35) : Fol w (c :: l) := by
  have hcw : wC c = false := by rcases hc with rfl | rfl | rfl <;> decide
  refine ⟨fun _ => hcw, fun h => ?_⟩
  obtain ⟨a, rfl⟩ := List.length_eq_one_iff.mp h
  cases e : inV (.str (sL (([a] ++ c :: l).take 2))) prL with
  | false => rfl
  | true =>
    have := (pair2 (a := a) (b := c) e).2
    omega
theorem fol_tok {w l : List Nat} {c : Nat} (h1 : wC (w.getLastD 0) = true → wC c = false) (h2 : w.length = 1 → ¬ ((w.headD 0 = 60 ∨ w.headD 0 = 62 ∨ w.headD 0 = 61 ∨ w.headD 0 = 33) ∧ (c = 60 ∨ c = 62 ∨ c = 61))) : Fol w (c :: l) := by
  refine ⟨h1, fun h => ?_⟩
  have h2 := h2 h
  obtain ⟨a, rfl⟩ := List.length_eq_one_iff.mp h
  cases e : inV (.str (sL (([a] ++ c :: l).take 2))) prL with
  | false => rfl
  | true => exact absurd (pair2 (a := a) (b := c) e) h2
theorem fol_none (l : List Nat) : Fol [] l := ⟨fun h => absurd (show wC 0 = true from h) (by decide), fun h => nomatch h⟩
theorem Pre.start {g : List Nat} (h : Gp g) : Pre g [] [] := fun l rest _ _ r => h _ _ _ _ r
theorem Pre.step {T w g w2 : List Nat} {ts : List (Str × V × Nat)} {k : Str} {v : V} (p : Pre T ts w) (hg : Gp g) (ht : TokOk w2 k v) (hf : ∀ l, Fol w (g ++ (w2 ++ l))) : Pre (T ++ g ++ w2) (ts ++ [(k, v, 1 + (T ++ g).count 10)]) w2 := by
  intro l rest e hl r
  rw [List.count_append, ht.nl, Nat.add_zero] at r
  obtain ⟨c, t, ec⟩ : ∃ c t, w2 = c :: t := by
    cases e : w2 with
    | nil => exact absurd e ht.ne
    | cons c t => exact ⟨c, t, rfl⟩
  have hh : w2.headD 0 = c := by rw [ec]; rfl
  have hd := ht.hd
  rw [hh] at hd
  have htk := ht.tk l hl
  have r2 : Run (w2 ++ l) (1 + (T ++ g).count 10) ((k, v, 1 + (T ++ g).count 10) :: rest) e := by
    have e1 : w2 ++ l = c :: (t ++ l) := by rw [ec]; rfl
    have hdrop : (c :: (t ++ l)).drop w2.length = l := by rw [← e1, List.drop_left]
    rw [e1] at htk ⊢
    exact .tok hd.1 hd.2.1 hd.2.2 htk (by rw [hdrop]; exact r)
  rw [List.count_append, ← Nat.add_assoc] at r2
  have r3 := hg _ _ _ _ r2
  have r4 := p _ _ (hf l) r3
  rw [List.append_assoc, List.append_assoc, List.append_assoc]
  rw [List.count_append, ← Nat.add_assoc]
  exact r4
theorem takeW {w l : List Nat} (hw : w.all wC = true) (hl : wC (l.headD 0) = false) : (w ++ l).takeWhile wC = w := by
  rw [List.takeWhile_append_of_pos (fun a h => List.all_eq_true.mp hw a h)]
  cases l with
  | nil => simp
  | cons c t => rw [List.takeWhile_cons_of_neg (by have : wC c = false := hl; rw [this]; simp), List.append_nil]
theorem last_mem {w : List Nat} (h : w ≠ []) : w.getLastD 0 ∈ w := by
  rw [List.getLastD_eq_getLast?, List.getLast?_eq_some_getLast h]
  exact List.getLast_mem h
theorem wC_range {c : Nat} (h : wC c = true) : (48 ≤ c ∧ c ≤ 57) ∨ (65 ≤ c ∧ c ≤ 90) ∨ (97 ≤ c ∧ c ≤ 122) := by
  unfold wC at h
  rw [Bool.or_eq_true] at h
  rcases h with h | h
  · have h1 : c ∈ ("ABCDEFGHIJKLMNOPQRSTUVWXYZabcdefghijklmnopqrstuvwxyz" : Str).cps.toList := of_decide_eq_true h
    have h2 := List.all_eq_true.mp (show (("ABCDEFGHIJKLMNOPQRSTUVWXYZabcdefghijklmnopqrstuvwxyz" : Str).cps.toList.all fun c => (decide (65 ≤ c) && decide (c ≤ 90)) || (decide (97 ≤ c) && decide (c ≤ 122))) = true by decide +kernel) c h1
    simp at h2; omega
  · have := digC_range h; omega
/-- a word -/
theorem tok_word {w : List Nat} {k : Str} {v : V} (hw : w.all wC = true) (ne : w ≠ []) (h : wtok (sL w) = some (k, v)) : TokOk w k v := by
  obtain ⟨c, t, ec⟩ : ∃ c t, w = c :: t := by
    cases e : w with
    | nil => exact absurd e ne
    | cons c t => exact ⟨c, t, rfl⟩
  have hc : wC c = true := List.all_eq_true.mp hw c (by rw [ec]; exact List.mem_cons_self)
  have hh : w.headD 0 = c := by rw [ec]; rfl
  have hr := wC_range hc
  refine ⟨ne, by rw [hh]; omega, fun e => ?_, List.count_eq_zero.mpr fun hm => ?_, fun l hf => ?_⟩
  · rw [e] at hh
    have : (33 : Nat) = c := hh
    omega
  · have := wC_range (List.all_eq_true.mp hw 10 hm); omega
  · have hl := hf.1 (List.all_eq_true.mp hw _ (last_mem ne))
    have e1 : (w ++ l).headD 0 = c := by rw [ec]; rfl
    unfold tokL
    rw [e1, if_pos hc, takeW hw hl, h]
    unfold wlen
    rw [takeW hw hl]; rfl
theorem bodyT_of {b l : List Nat} (h : ¬ 34 ∈ b) : bodyT (b ++ 34 :: l) = b := by
  unfold bodyT
  rw [List.takeWhile_append_of_pos (fun a ha => by
    have : ¬ a = 34 := fun e => h (e ▸ ha)
    simp [this]), List.takeWhile_cons_of_neg (by simp), List.append_nil]
theorem tok_text {b : List Nat} (h : txtC b = true) : TokOk (34 :: b ++ [34]) "text" (.str (sL b)) := by
  have h34 : ¬ 34 ∈ b := by
    unfold txtC at h
    simp at h
    exact h.2.2
  have hp : b.all prn = true := by
    unfold txtC at h
    rw [Bool.and_eq_true] at h; exact h.1
  refine ⟨by simp, by simp, (fun e => by cases e), ?_, fun l _ => ?_⟩
  · rw [List.count_append, List.count_cons, prn_count hp]; rfl
  · have e0 : 34 :: b ++ [34] ++ l = 34 :: (b ++ 34 :: l) := by simp
    rw [e0]
    have e1 : (34 :: (b ++ 34 :: l)).headD 0 = 34 := rfl
    have e2 : (34 :: (b ++ 34 :: l)).drop 1 = b ++ 34 :: l := rfl
    unfold tokL
    rw [e1, e2, if_neg (by decide), if_pos rfl, bodyT_of h34, if_pos ⟨by simp, h⟩]
    congr 3
    simp
theorem tok_pair {a b : Nat} (h : inV (.str (sL [a, b])) prL = true) : TokOk [a, b] "sign" (.str (sL [a, b])) := by
  have hp := pair2 h
  have hw : wC a = false := by rcases hp.1 with rfl | rfl | rfl | rfl <;> decide
  refine ⟨by simp, by show ¬ a = 10 ∧ ¬ a = 32 ∧ ¬ a = 35; omega, (fun e => by cases e), List.count_eq_zero.mpr (by simp; omega), fun l _ => ?_⟩
  have e1 : ([a, b] ++ l).headD 0 = a := rfl
  have e2 : ([a, b] ++ l).take 2 = [a, b] := rfl
  unfold tokL
  rw [e1, e2, if_neg (by rw [hw]; simp), if_neg (by omega), if_pos h]; rfl
theorem tok_single {a : Nat} (h : a ∈ sgl.cps.toList) : TokOk [a] "sign" (.str (sL [a])) := by
  have h2 := List.all_eq_true.mp (show (sgl.cps.toList.all fun c => !wC c && (!decide (c = 10) && (!decide (c = 32) && (!decide (c = 35) && (!decide (c = 34) && !decide (c = 33)))))) = true by decide +kernel) a h
  simp at h2
  obtain ⟨hw, h10, h32, h35, h34, h33⟩ := h2
  refine ⟨by simp, ⟨h10, h32, h35⟩, fun e => by injection e with e; exact h33 e, List.count_eq_zero.mpr (by simp; omega), fun l hf => ?_⟩
  have e1 : ([a] ++ l).headD 0 = a := rfl
  unfold tokL
  rw [e1, if_neg (by rw [hw]; simp), if_neg h34, if_neg (by rw [hf.2 rfl]; simp), if_pos h]; rfl

/-! ### the law's own -/
theorem join_ones {P : Nat → Prop} {zs : List Str} (h : ∀ s ∈ zs, ∃ c, s = ⟨#[c]⟩ ∧ P c) : (zs.map (·.length)).sum = zs.length ∧ (Txt.join Str.empty zs).length = zs.length ∧ ∀ c ∈ (Txt.join Str.empty zs).cps.toList, P c := by
  have hsum : ∀ l : List Str, (∀ s ∈ l, ∃ c, s = ⟨#[c]⟩ ∧ P c) → (l.map (·.length)).sum = l.length := by
    intro l
    induction l with
    | nil => intro _; rfl
    | cons s l ih =>
      intro h
      obtain ⟨c, rfl, _⟩ := h s List.mem_cons_self
      rw [List.map_cons, List.sum_cons, ih (fun t ht => h t (List.mem_cons_of_mem _ ht)), List.length_cons]
      show 1 + _ = _
      omega
  refine ⟨hsum zs h, ?_, fun c hc => ?_⟩
  · rw [← cl_length, join_cl, List.length_flatten, List.map_map]
    have e : (List.map (List.length ∘ fun s => s.cps.toList) zs).sum = (zs.map (·.length)).sum := congrArg List.sum (List.map_congr_left fun s _ => cl_length s)
    rw [e, hsum zs h]
  · rw [join_cl, List.mem_flatten] at hc
    obtain ⟨l, hl, hc⟩ := hc
    obtain ⟨s, hs, rfl⟩ := List.mem_map.mp hl
    obtain ⟨d, rfl, hd⟩ := h s hs
    have : c = d := by simpa using hc
    rw [this]; exact hd
def sp_law_letters (K : PySem.W.Frag) : Sp := fun vs H Q _ => ∃ (a : Addr) (n : Nat), vs = [.ref a, .int n] ∧ Bag H a ∧ n ≤ 30 ∧ ∀ z H', Mv a H H' → z.length = n → (∀ c ∈ z.cps.toList, letC c = true) → Q (.str z) H'
theorem ok_law_letters (T : Txt K mg) : FnOk P w K mg base CX0 2 T.f_law_letters T.d_law_letters ["_law_bag_here", "_law_many"] (sp_law_letters K) := by
  refine T.k_law_letters.ok sc_law_letters (fun vs H Q E h => ?_) (fun cdv A outer s H vs Q E hr h => ?_)
  · obtain ⟨a, n, rfl, _⟩ := h
    rfl
  · obtain ⟨a, n, rfl, hB, hn, q⟩ := h
    refine ⟨_, (pss_cons (ps_set (i := 2) sc_law_letters.nd rfl (.inr rfl) pe_str)
      (pss_one (ps_ret (pe_joinR pe_str (pe_lc (own := [("_law_k", 3)]) (g := gName 3) (tt := tYes) rfl sc_law_letters.nd (pi_range1 (by rfl) T.m_range (pa_cons (pv 1) pa_nil)) (blkOk_by (own := [("_law_k", 3)]) (N := ["_law_bag_here", "_law_many", "_law_letters_here", "_law_k"]) (sc := defScope s_law_letters) (by decide +kernel)) (fun _ _ _ _ _ => pg_name (i := 3) sc_law_letters.nd rfl (Or.inl rfl)) (fun _ _ _ _ _ => pts_nil) (fun _ _ _ _ _ => (pe_ix ix_str (pv 2) (pe_call (ok_law_draw T) (hr.mono (by decide)) (by rfl) T.g_law_draw T.k_law_draw.kp T.b_law_draw .nil pass0 (pa_cons (pv 0) (pa_cons pe_int pa_nil))) (fun _ _ => rfl)))))))), ?_⟩
    walk_at "rd"
    refine rdSeq ?_
    walk_at "rd"
    have hcs : ∀ c ∈ (Str.ofString "abcdefghijklmnopqrstuvwxyzABCDEFGHIJKLMNOPQRSTUVWXYZ").cps.toList, letC c = true := by decide +kernel
    have hcl : (Str.ofString "abcdefghijklmnopqrstuvwxyzABCDEFGHIJKLMNOPQRSTUVWXYZ").length = 52 := by decide +kernel
    generalize Str.ofString "abcdefghijklmnopqrstuvwxyzABCDEFGHIJKLMNOPQRSTUVWXYZ" = cs at hcs hcl
    refine ⟨by omega, by omega, ?_⟩
    refine i_lcD walk_range hB (fun y => ∃ s, y = .str s ∧ ∃ c, s = ⟨#[c]⟩ ∧ letC c = true) (by rw [sizeLine_eq]; omega) (fun _ _ => trivial) (fun i H x H' y => y.1) (fun i x H1 Q' hi y mv q' => ?_) (fun D H3 ys hD mv eD hl hP => ?_)
    · obtain ⟨_, rfl⟩ := y
      walk_at "rd"
      refine i_draw mv (by decide) (by decide) fun r H3 r0 r1 mv6 mv7 => ?_
      obtain ⟨c, ec, hc⟩ := at_chr (z := cs) r0 (by omega)
      exact i_ixS (by rw [hcl]; decide) ec (q' _ _ ⟨⟨#[c]⟩, rfl, c, rfl, hcs c hc⟩ mv6)
    · obtain ⟨zs, rfl, hz⟩ := strs_of hP
      rw [List.length_map] at hl
      obtain ⟨h1, h2, h3⟩ := join_ones hz
      have hl2 : zs.length = n := by rw [hl]; rfl
      refine ⟨Str.empty, D, zs, rfl, rfl, .inl (sqL_of eD), by rw [h1]; show zs.length + zs.length * 0 ≤ _; omega, q _ _ mv (by rw [h2, hl2]) h3⟩
def sp_law_text (K : PySem.W.Frag) : Sp := fun vs H Q _ => ∃ (a : Addr), vs = [.ref a] ∧ Bag H a ∧ ∀ z H', Mv a H H' → txtC z.cps.toList = true → Q (.str z) H'
theorem ok_law_text (T : Txt K mg) : FnOk P w K mg base CX0 2 T.f_law_text T.d_law_text ["_law_bag_here"] (sp_law_text K) := by
  refine T.k_law_text.ok sc_law_text (fun vs H Q E h => ?_) (fun cdv A outer s H vs Q E hr h => ?_)
  · obtain ⟨a, rfl, _⟩ := h
    rfl
  · obtain ⟨a, rfl, hB, q⟩ := h
    refine ⟨_, (pss_cons (ps_set (i := 1) sc_law_text.nd rfl (.inr rfl) pe_str)
      (pss_one (ps_ret (pe_joinR pe_str (pe_lc (own := [("_law_k", 2)]) (g := gName 2) (tt := tYes) rfl sc_law_text.nd (pi_range1 (by rfl) T.m_range (pa_cons (pe_op op_add pe_int (pe_call (ok_law_draw T) (hr.mono (by decide)) (by rfl) T.g_law_draw T.k_law_draw.kp T.b_law_draw .nil pass0 (pa_cons (pv 0) (pa_cons pe_int pa_nil)))) pa_nil)) (blkOk_by (own := [("_law_k", 2)]) (N := ["_law_bag_here", "_law_signs", "_law_k"]) (sc := defScope s_law_text) (by decide +kernel)) (fun _ _ _ _ _ => pg_name (i := 2) sc_law_text.nd rfl (Or.inl rfl)) (fun _ _ _ _ _ => pts_nil) (fun _ _ _ _ _ => (pe_ix ix_str (pv 1) (pe_call (ok_law_draw T) (hr.mono (by decide)) (by rfl) T.g_law_draw T.k_law_draw.kp T.b_law_draw .nil pass0 (pa_cons (pv 0) (pa_cons (pe_callB call_lenS (by rfl) T.m_len (by decide +kernel) (pa_cons (pv 1) pa_nil)) pa_nil))) (fun _ _ => rfl)))))))), ?_⟩
    walk_at "rd"
    refine rdSeq ?_
    walk_at "rd"
    have hcs : ∀ c ∈ (Str.ofString " !#$&'()*+,-./0123456789:;<=>?\x40ABCDEFGHIJKLMNOPQRSTUVWXYZ[]^_abcdefghijklmnopqrstuvwxyz{|}~\\").cps.toList, prn c = true ∧ ¬ c = 34 := by decide +kernel
    have hcl : (Str.ofString " !#$&'()*+,-./0123456789:;<=>?\x40ABCDEFGHIJKLMNOPQRSTUVWXYZ[]^_abcdefghijklmnopqrstuvwxyz{|}~\\").length = 92 := by decide +kernel
    generalize Str.ofString " !#$&'()*+,-./0123456789:;<=>?\x40ABCDEFGHIJKLMNOPQRSTUVWXYZ[]^_abcdefghijklmnopqrstuvwxyz{|}~\\" = cs at hcs hcl
    refine i_draw (Mv.refl hB) (by decide) (by decide) fun r H1 r0 r1 _ mv1 => ?_
    obtain ⟨n, en, hn⟩ : ∃ n : Nat, 1 + r = (n : Int) ∧ 1 ≤ n ∧ n ≤ 16 := ⟨(1 + r).toNat, by omega, by omega, by omega⟩
    refine ⟨r, rfl, by omega, by omega, ?_⟩
    rw [en]
    refine i_lcD walk_range mv1.bag (fun y => ∃ s, y = .str s ∧ ∃ c, s = ⟨#[c]⟩ ∧ (prn c = true ∧ ¬ c = 34)) (by rw [sizeLine_eq]; omega) (fun _ _ => trivial) (fun i H x H' y => y.1) (fun i x H1 Q' hi y mv q' => ?_) (fun D H3 ys hD mv eD hl hP => ?_)
    · obtain ⟨_, rfl⟩ := y
      walk_at "rd"
      refine i_lenS rfl (line5 (by rw [hcl]; decide)) ?_
      rw [hcl]
      refine i_draw mv (by decide) (by decide) fun r H3 r0 r1 mv6 mv7 => ?_
      have r1 : r < 92 := r1
      obtain ⟨c, ec, hc⟩ := at_chr (z := cs) r0 (by omega)
      exact i_ixS (by rw [hcl]; decide) ec (q' _ _ ⟨⟨#[c]⟩, rfl, c, rfl, hcs c hc⟩ mv6)
    · obtain ⟨zs, rfl, hz⟩ := strs_of hP
      rw [List.length_map] at hl
      obtain ⟨h1, h2, h3⟩ := join_ones hz
      have hl2 : zs.length = n := by rw [hl]; rfl
      refine ⟨Str.empty, D, zs, rfl, rfl, .inl (sqL_of eD), by rw [h1]; show zs.length + zs.length * 0 ≤ _; omega, q _ _ (mv1.trans mv) ?_⟩
      unfold txtC
      rw [List.all_eq_true.mpr fun c hc => (h3 c hc).1, decide_eq_true (show 1 ≤ (Txt.join Str.empty zs).cps.toList.length ∧ (Txt.join Str.empty zs).cps.toList.length ≤ 16 by rw [cl_length, h2]; omega), decide_eq_false (fun hm => (h3 34 hm).2 rfl)]
      rfl
def kwS : List Str := [("abort" : Str), ("and" : Str), ("applet" : Str), ("as" : Str), ("begin" : Str), ("buffer" : Str), ("bytes" : Str), ("catch" : Str), ("class" : Str), ("commit" : Str), ("else" : Str), ("face" : Str), ("field" : Str), ("has" : Str), ("if" : Str), ("int" : Str), ("is" : Str), ("mod" : Str), ("new" : Str), ("not" : Str), ("nothing" : Str), ("null" : Str), ("of" : Str), ("or" : Str), ("package" : Str), ("return" : Str), ("seek" : Str), ("size" : Str), ("temp" : Str), ("this" : Str), ("throw" : Str), ("try" : Str), ("use" : Str), ("while" : Str)]
def sp_law_keys (K : PySem.W.Frag) : Sp := fun vs H Q _ => vs = [] ∧ ∀ p, H p = none → Q (.ref p) (upd H p (.lst (kwS.map V.str)))
theorem ok_law_keys (T : Txt K mg) : FnOk P w K mg base CX0 1 T.f_law_keys T.d_law_keys [] (sp_law_keys K) := by
  refine T.k_law_keys.ok sc_law_keys (fun vs H Q E h => ?_) (fun cdv A outer s H vs Q E hr h => ?_)
  · obtain ⟨rfl, _⟩ := h
    rfl
  · obtain ⟨rfl, q⟩ := h
    refine ⟨_, (pss_cons (ps_set (i := 0) sc_law_keys.nd rfl (.inl rfl) pe_str)
      (pss_one (ps_ret (pe_split (pe_op op_add_str (pv 0) pe_str) pe_str)))), ?_⟩
    walk_at "rd"
    refine rdSeq ?_
    walk_at "rd"
    have e1 : Txt.split (Str.ofString "abort and applet as begin buffer bytes catch class commit else face field has if int is mod new not nothing" ++ Str.ofString " null of or package return seek size temp this throw try use while") (Str.ofString " ") = kwS := by decide +kernel
    refine ⟨by decide +kernel, by decide +kernel, by decide +kernel, ?_⟩
    rw [e1]
    exact q
theorem kw_low : (kwL.all fun y => match y with | .str s => s.cps.toList.all fun c => decide (97 ≤ c) && decide (c ≤ 122) | _ => false) = true := by decide +kernel
theorem not_kw {z : Str} {c : Nat} (hc : c ∈ z.cps.toList) (h : ¬ (97 ≤ c ∧ c ≤ 122)) : inV (.str z) kwL = false := by
  cases e : inV (.str z) kwL with
  | false => rfl
  | true =>
    exfalso
    obtain ⟨y, hy, ey⟩ := List.any_eq_true.mp e
    have hk := List.all_eq_true.mp kw_low y hy
    cases y with
    | str s =>
      have e1 : decide (s = z) = true := ey
      have e2 := of_decide_eq_true e1
      subst e2
      have := List.all_eq_true.mp hk c hc
      simp at this
      exact h this
    | _ => cases hk
theorem digC_of {c : Nat} (h : 48 ≤ c ∧ c ≤ 57) : digC c = true := by
  have : c = 48 ∨ c = 49 ∨ c = 50 ∨ c = 51 ∨ c = 52 ∨ c = 53 ∨ c = 54 ∨ c = 55 ∨ c = 56 ∨ c = 57 := by omega
  rcases this with rfl | rfl | rfl | rfl | rfl | rfl | rfl | rfl | rfl | rfl <;> decide +kernel
theorem letC_range {c : Nat} (h : letC c = true) : (65 ≤ c ∧ c ≤ 90) ∨ (97 ≤ c ∧ c ≤ 122) := by
  have h1 : c ∈ ("ABCDEFGHIJKLMNOPQRSTUVWXYZabcdefghijklmnopqrstuvwxyz" : Str).cps.toList := of_decide_eq_true h
  have h2 := List.all_eq_true.mp (show (("ABCDEFGHIJKLMNOPQRSTUVWXYZabcdefghijklmnopqrstuvwxyz" : Str).cps.toList.all fun c => (decide (65 ≤ c) && decide (c ≤ 90)) || (decide (97 ≤ c) && decide (c ≤ 122))) = true by decide +kernel) c h1
  simp at h2; omega
theorem numL_head : ∀ n : Nat, 1 ≤ n → ¬ (TL.numL n).headD 0 = 48 := by
  intro n
  induction n using Nat.strongRecOn with
  | _ n ih =>
    intro h
    by_cases h10 : n < 10
    · rw [TL.numL_lt h10]; show ¬ 48 + n = 48; omega
    · rw [TL.numL_step (by omega)]
      have := ih (n / 10) (by omega) (by omega)
      cases e : TL.numL (n / 10) with
      | nil => exact absurd e (TL.numL_ne _)
      | cons c t => rw [e] at this; exact this
theorem num_cl (n : Nat) : (Str.ofString (toString ((n : Nat) : Int))).cps.toList = TL.numL n := TL.tl_num n
theorem wtok_num {n : Nat} (h : n ≤ 32767) : wtok (Str.ofString (toString ((n : Nat) : Int))) = some (("number" : Str), V.int n) := by
  have hd := TL.numL_digits n
  have hl : (TL.numL n).length ≤ 5 := TL.numL_len (by decide) (by show n < 100000; omega)
  have ht : ∃ c t, TL.numL n = c :: t := by
    cases e : TL.numL n with
    | nil => exact absurd e (TL.numL_ne _)
    | cons c t => exact ⟨c, t, rfl⟩
  obtain ⟨c, t, ec⟩ := ht
  have hN : numC (TL.numL n) = true := by
    unfold numC
    rw [List.all_eq_true.mpr fun c hc => digC_of (hd c hc), decide_eq_true hl, TL.numL_val, decide_eq_true h]
    by_cases h0 : n = 0
    · subst h0
      rw [show TL.numL 0 = [48] from TL.numL_lt (by decide)]; rfl
    · rw [decide_eq_false (numL_head n (by omega))]; rfl
  unfold wtok
  rw [num_cl, if_pos (digC_of (hd _ (by rw [ec]; exact List.mem_cons_self))), if_pos hN, TL.numL_val]
/-- a name -/
structure NmT (z : Str) : Prop where
  tk : wtok z = some (("name" : Str), V.str z)
  wc : z.cps.toList.all wC = true
  l1 : 1 ≤ z.length
  l20 : z.length ≤ 20
theorem nmT_of {z : Str} (h1 : 1 ≤ z.length) (h20 : z.length ≤ 20) (hl : letC (z.cps.toList.headD 0) = true) (hw : z.cps.toList.all wC = true) (hk : inV (.str z) kwL = false) : NmT z := by
  refine ⟨?_, hw, h1, h20⟩
  have hd : digC (z.cps.toList.headD 0) = false := by
    cases e : digC (z.cps.toList.headD 0) with
    | false => rfl
    | true => have := digC_range e; have := letC_range hl; omega
  have hn : nameC z.cps.toList = true := by
    unfold nameC
    rw [decide_eq_true (show 1 ≤ z.cps.toList.length ∧ z.cps.toList.length ≤ 20 by rw [cl_length]; omega), hl]
    exact hw
  unfold wtok
  rw [if_neg (by rw [hd]; simp), if_neg (by rw [hk]; simp), if_pos hn]
theorem letC_of {c : Nat} (h : (65 ≤ c ∧ c ≤ 90)) : letC c = true := by
  have := List.all_eq_true.mp (show ((List.range' 65 26).all letC) = true by decide +kernel) c (by rw [List.mem_range']; exact ⟨c - 65, by omega, by omega⟩)
  exact this
theorem nmT_up {z : Str} {c : Nat} {t : List Nat} (e : z.cps.toList = c :: t) (hc : 65 ≤ c ∧ c ≤ 90) (ht : t.all wC = true) (hl : t.length ≤ 19) : NmT z := by
  have el : z.length = t.length + 1 := by rw [← cl_length, e]; rfl
  refine nmT_of (by omega) (by omega) (by rw [e]; exact letC_of hc) ?_ (not_kw (c := c) (by rw [e]; exact List.mem_cons_self) (by omega))
  rw [e, List.all_cons, ht]
  unfold wC
  rw [letC_of hc]; rfl
theorem all_wC_of {l : List Nat} (h : ∀ c ∈ l, letC c = true) : l.all wC = true := List.all_eq_true.mpr fun c hc => by unfold wC; rw [h c hc]; rfl
def sp_law_name (K : PySem.W.Frag) : Sp := fun vs H Q _ => ∃ (a : Addr), vs = [.ref a] ∧ Bag H a ∧ ∀ z H', Mv a H H' → NmT z → Q (.str z) H'
theorem ok_law_name (T : Txt K mg) : FnOk P w K mg base CX0 3 T.f_law_name T.d_law_name ["_law_bag_here"] (sp_law_name K) := by
  refine T.k_law_name.ok sc_law_name (fun vs H Q E h => ?_) (fun cdv A outer s H vs Q E hr h => ?_)
  · obtain ⟨a, rfl, _⟩ := h
    rfl
  · obtain ⟨a, rfl, hB, q⟩ := h
    refine ⟨_, (pss_cons (ps_set (i := 1) sc_law_name.nd rfl (.inl rfl) (pe_call (ok_law_draw T) (hr.mono (by decide)) (by rfl) T.g_law_draw T.k_law_draw.kp T.b_law_draw .nil pass0 (pa_cons (pv 0) (pa_cons pe_int pa_nil))))
      (pss_cons (ps_if (pt_cmpR op_eq (pv 1) pe_int (nomark _)) (pss_one (ps_ret (pe_ix (ix_listK K) (pe_lst (pa_cons pe_str (pa_cons pe_str (pa_cons pe_str (pa_cons pe_str (pa_cons pe_str (pa_cons pe_str (pa_cons pe_str (pa_cons pe_str (pa_cons pe_str (pa_cons pe_str pa_nil))))))))))) (pe_call (ok_law_draw T) (hr.mono (by decide)) (by rfl) T.g_law_draw T.k_law_draw.kp T.b_law_draw .nil pass0 (pa_cons (pv 0) (pa_cons pe_int pa_nil))) (fun _ _ => rfl)))) pss_nil)
      (pss_cons (ps_if (pt_cmpR op_eq (pv 1) pe_int (nomark _)) (pss_one (ps_ret (pe_op op_add_str (pe_op op_add_str (pe_call (ok_law_letters T) (hr.mono (by decide)) (by rfl) T.g_law_letters T.k_law_letters.kp T.b_law_letters .nil pass0 (pa_cons (pv 0) (pa_cons pe_int pa_nil))) (pe_callTy call_str_int (by rfl) T.m_str (by decide +kernel) (pa_cons (pe_call (ok_law_draw T) (hr.mono (by decide)) (by rfl) T.g_law_draw T.k_law_draw.kp T.b_law_draw .nil pass0 (pa_cons (pv 0) (pa_cons pe_int pa_nil))) pa_nil))) (pe_call (ok_law_letters T) (hr.mono (by decide)) (by rfl) T.g_law_letters T.k_law_letters.kp T.b_law_letters .nil pass0 (pa_cons (pv 0) (pa_cons (pe_call (ok_law_draw T) (hr.mono (by decide)) (by rfl) T.g_law_draw T.k_law_draw.kp T.b_law_draw .nil pass0 (pa_cons (pv 0) (pa_cons pe_int pa_nil))) pa_nil)))))) pss_nil)
      (pss_cons (ps_set (i := 2) sc_law_name.nd rfl (.inl rfl) (pe_op op_add_str (pe_ix ix_str pe_str (pe_call (ok_law_draw T) (hr.mono (by decide)) (by rfl) T.g_law_draw T.k_law_draw.kp T.b_law_draw .nil pass0 (pa_cons (pv 0) (pa_cons pe_int pa_nil))) (fun _ _ => rfl)) (pe_call (ok_law_letters T) (hr.mono (by decide)) (by rfl) T.g_law_letters T.k_law_letters.kp T.b_law_letters .nil pass0 (pa_cons (pv 0) (pa_cons (pe_call (ok_law_draw T) (hr.mono (by decide)) (by rfl) T.g_law_draw T.k_law_draw.kp T.b_law_draw .nil pass0 (pa_cons (pv 0) (pa_cons pe_int pa_nil))) pa_nil)))))
      (pss_cons (ps_if (pt_cmpR op_eq (pv 1) pe_int (nomark _)) (pss_one (ps_ret (pe_op op_add_str (pv 2) (pe_op op_mul_str pe_str (pe_op op_fdivW (pe_op op_sub pe_int (pe_callB call_lenS (by rfl) T.m_len (by decide +kernel) (pa_cons (pv 2) pa_nil))) pe_int))))) pss_nil)
      (pss_one (ps_ret (pv 2)))))))), ?_⟩
    walk_at "rd"
    refine rdSeq ?_
    walk_at "rd"
    refine i_draw (Mv.refl hB) (by decide) (by decide) fun r H1 r0 r1 _ mv => ?_
    refine rdSeq ?_
    walk_at "rd"
    refine ite2 (fun h => ?_) (fun h => ?_)
    · intro p hp
      have mv1 := mv.new (o := HO.lst [V.str (Str.ofString "ifs"), V.str (Str.ofString "x"), V.str (Str.ofString "elsewhere"), V.str (Str.ofString "newt"), V.str (Str.ofString "sizes"), V.str (Str.ofString "If"), V.str (Str.ofString "Not"), V.str (Str.ofString "Size"), V.str (Str.ofString "made"), V.str (Str.ofString "process")]) hp
      refine i_draw mv1 (by decide) (by decide) fun r2 H2 h0 h1 mvd mv2 => ?_
      obtain ⟨o, ev, ho⟩ := at_of (xs := [V.str (Str.ofString "ifs"), V.str (Str.ofString "x"), V.str (Str.ofString "elsewhere"), V.str (Str.ofString "newt"), V.str (Str.ofString "sizes"), V.str (Str.ofString "If"), V.str (Str.ofString "Not"), V.str (Str.ofString "Size"), V.str (Str.ofString "made"), V.str (Str.ofString "process")]) h0 h1
      refine i_ixL (sqL_of (mvd.old p _ (mv.ne hp) upd_same)) ev ?_
      have hod : ∃ z, o = .str z ∧ NmT z := by
        simp only [List.mem_cons, List.not_mem_nil, or_false] at ho
        rcases ho with rfl | rfl | rfl | rfl | rfl | rfl | rfl | rfl | rfl | rfl <;> exact ⟨_, rfl, nmT_of (by decide +kernel) (by decide +kernel) (by decide +kernel) (by decide +kernel) (by decide +kernel)⟩
      obtain ⟨z, rfl, hz⟩ := hod
      exact q _ _ mv2 hz
    · refine rdSeq ?_
      walk_at "rd"
      refine ite2 (fun h => ?_) (fun h => ?_)
      · refine ⟨a, 2, rfl, mv.bag, by decide, fun z1 H2 mv2 l1 hz1 => ?_⟩
        have mv2 := mv.trans mv2
        walk_at "rd"
        refine i_draw mv2 (by decide) (by decide) fun r2 H3 h0 h1 _ mv3 => ?_
        obtain ⟨n, rfl⟩ := Int.eq_ofNat_of_zero_le h0
        have hn : n < 100 := by omega
        have hnl : (TL.numL n).length ≤ 2 := TL.numL_len (by decide) (by show n < 100; omega)
        have hsl : (Str.ofString (toString (n : Int))).length ≤ 2 := by rw [← cl_length, num_cl]; exact hnl
        refine ⟨_, rfl, log_small (by omega), line5 (by omega), i_draw mv3 (by decide) (by decide) fun r4 H4 g0 g1 _ mv4 => ?_⟩
        obtain ⟨k, rfl⟩ := Int.eq_ofNat_of_zero_le g0
        refine ⟨a, k, rfl, mv4.bag, by omega, fun z2 H5 mv5 l2 hz2 => ⟨_, rfl, ?_, ?_⟩⟩
        · rw [len_append]; exact line5 (by omega)
        · refine q _ _ (mv4.trans mv5) ?_
          have ecl : (z1 ++ Str.ofString (toString (n : Int)) ++ z2).cps.toList = z1.cps.toList ++ TL.numL n ++ z2.cps.toList := by rw [cl_append, cl_append, num_cl]
          have hd := TL.numL_digits n
          obtain ⟨c0, t0, e0⟩ : ∃ c t, z1.cps.toList = c :: t := by
            cases e : z1.cps.toList with
            | nil => have := congrArg List.length e; rw [cl_length, l1] at this; cases this
            | cons c t => exact ⟨c, t, rfl⟩
          obtain ⟨c1, t1, e1⟩ : ∃ c t, TL.numL n = c :: t := by
            cases e : TL.numL n with
            | nil => exact absurd e (TL.numL_ne _)
            | cons c t => exact ⟨c, t, rfl⟩
          have hc1 := hd c1 (by rw [e1]; exact List.mem_cons_self)
          refine nmT_of ?_ ?_ ?_ ?_ (not_kw (c := c1) (by rw [ecl, e1]; simp) (by omega))
          · rw [len_append, len_append]; omega
          · rw [len_append, len_append]; omega
          · rw [ecl, e0]; exact hz1 c0 (by rw [e0]; exact List.mem_cons_self)
          · rw [ecl, List.all_append, List.all_append, all_wC_of hz1, all_wC_of hz2, List.all_eq_true.mpr fun c hc => by unfold wC; rw [digC_of (hd c hc), Bool.or_true]]; rfl
      · refine rdSeq ?_
        walk_at "rd"
        refine i_draw mv (by decide) (by decide) fun r2 H2 h0 h1 _ mv2 => ?_
        obtain ⟨c, ec, hc⟩ := at_chr (z := Str.ofString "ABCDEFGHIJKLMNOPQRSTUVWXYZ") h0 (by rw [show (Str.ofString "ABCDEFGHIJKLMNOPQRSTUVWXYZ").length = 26 by decide +kernel]; exact h1)
        have hcu : 65 ≤ c ∧ c ≤ 90 := by
          have := List.all_eq_true.mp (show ((Str.ofString "ABCDEFGHIJKLMNOPQRSTUVWXYZ").cps.toList.all fun c => decide (65 ≤ c) && decide (c ≤ 90)) = true by decide +kernel) c hc
          simpa using this
        refine i_ixS (by decide +kernel) ec ?_
        walk_at "rd"
        refine i_draw mv2 (by decide) (by decide) fun r3 H3 g0 g1 _ mv3 => ?_
        obtain ⟨n, rfl⟩ := Int.eq_ofNat_of_zero_le g0
        refine ⟨a, n, rfl, mv3.bag, by omega, fun z1 H4 mv4 l1 hz1 => ⟨_, rfl, line5 (by show 1 + _ ≤ 100000; omega), ?_⟩⟩
        have mv4 := mv3.trans mv4
        have ecl : ((⟨#[c]⟩ : Str) ++ z1).cps.toList = c :: z1.cps.toList := cl_append _ _
        have eln : ((⟨#[c]⟩ : Str) ++ z1).length = 1 + n := by rw [len_append, l1]; rfl
        generalize (⟨#[c]⟩ : Str) ++ z1 = w at ecl eln
        refine rdSeq ?_
        walk_at "rd"
        refine ite2 (fun h => i_lenS rfl (line5 (by omega)) ?_) (fun h => q _ _ mv4 (nmT_up ecl hcu (all_wC_of hz1) (by rw [cl_length]; omega)))
        walk_at "rd"
        rw [eln]
        refine ⟨⟨by decide, by decide⟩, ?_⟩
        obtain ⟨k, ek, hk⟩ : ∃ k : Nat, (20 - ((1 + n : Nat) : Int)) / 2 = (k : Int) ∧ 2 * k ≤ 19 - n := ⟨((20 - ((1 + n : Nat) : Int)) / 2).toNat, by omega, by omega⟩
        rw [ek]
        have hml : (Txt.mul (Str.ofString "z9") (k : Int)).cps.toList = (List.replicate k [122, 57]).flatten := mul_cl (by omega)
        have hmn : (List.replicate k [122, 57]).flatten.length = 2 * k := by simp [Nat.mul_comm]
        have hmw : (Txt.mul (Str.ofString "z9") (k : Int)).length = 2 * k := by rw [← cl_length, hml, hmn]
        refine ⟨Str.ofString "z9", k, rfl, rfl, mul_ok (by decide +kernel) (by omega) (by omega), _, rfl, line5 (by omega), q _ _ mv4 (nmT_up (by rw [cl_append, ecl, hml]; rfl) hcu ?_ ?_)⟩
        · show (z1.cps.toList ++ (List.replicate k [122, 57]).flatten).all wC = true
          rw [List.all_append, all_wC_of hz1, List.all_eq_true.mpr fun c hc => ?_]
          · rfl
          · obtain ⟨l, hl, hc⟩ := List.mem_flatten.mp hc
            rw [(List.mem_replicate.mp hl).2] at hc
            simp at hc
            rcases hc with rfl | rfl <;> decide +kernel
        · show (z1.cps.toList ++ (List.replicate k [122, 57]).flatten).length ≤ 19
          rw [List.length_append, cl_length, hmn, l1]; omega
theorem ne_nil_of {z : Str} (h : 1 ≤ z.length) : z.cps.toList ≠ [] := fun e => by
  have := congrArg List.length e
  rw [cl_length, List.length_nil] at this
  omega
def strOkL (l : List Nat) : Prop := ∀ c ∈ l, c < 128
theorem strOk_of {z : Str} (h : strOkL z.cps.toList) : PyData.strOk z = true := by
  unfold PyData.strOk
  rw [← Array.all_toList, List.all_eq_true]
  intro c hc
  have := h c hc
  exact decide_eq_true (by omega)
/-- a row of a token: kind and value -/
structure VOk (k : Str) (v : V) : Prop where
  ks : PyData.strOk k = true
  vl : (k = "number" ∧ ∃ n, v = .int n) ∨ (¬ k = "number" ∧ ∃ z, v = .str z ∧ PyData.strOk z = true)
theorem vok_str {k z : Str} (hk : PyData.strOk k = true) (hn : ¬ k = "number") (hz : strOkL z.cps.toList) : VOk k (.str z) := ⟨hk, .inr ⟨hn, z, rfl, strOk_of hz⟩⟩
theorem prn_lt {c : Nat} (h : prn c = true) : c < 128 := by
  unfold prn at h
  rw [Bool.and_eq_true, Bool.and_eq_true, decide_eq_true_eq, decide_eq_true_eq] at h
  omega
theorem wC_lt {c : Nat} (h : wC c = true) : c < 128 := by have := wC_range h; omega
theorem wtok_kw {z : Str} (hd : digC (z.cps.toList.headD 0) = false) (hk : inV (.str z) kwL = true) : wtok z = some (("keyword" : Str), V.str z) := by
  unfold wtok
  rw [if_neg (by rw [hd]; simp), if_pos hk]
def kwB (z : Str) : Bool := !digC (z.cps.toList.headD 0) && (inV (.str z) kwL && (z.cps.toList.all wC && (decide (1 ≤ z.length) && decide (z.length ≤ 20))))
theorem kw_all : (kwS.all kwB) = true := by decide +kernel
def sgB (z : Str) : Bool := match z.cps.toList with
  | [a] => decide (a ∈ sgl.cps.toList) && decide (a < 128)
  | [a, b] => inV (.str (sL [a, b])) prL && (decide (a < 128) && decide (b < 128))
  | _ => false
theorem sg_ok {z : Str} (h : sgB z = true) : TokOk z.cps.toList "sign" (.str z) ∧ z.length ≤ 20 ∧ strOkL z.cps.toList := by
  unfold sgB at h
  have hs := sL_of z
  have hl := cl_length z
  generalize z.cps.toList = l at h hs hl
  match l, h, hs, hl with
  | [a], h, hs, hl =>
    rw [Bool.and_eq_true, decide_eq_true_eq, decide_eq_true_eq] at h
    refine ⟨by rw [← hs]; exact tok_single h.1, by rw [← hl]; show 1 ≤ 20; decide, fun c hc => ?_⟩
    rw [List.mem_singleton.mp hc]; exact h.2
  | [a, b], h, hs, hl =>
    rw [Bool.and_eq_true, Bool.and_eq_true, decide_eq_true_eq, decide_eq_true_eq] at h
    refine ⟨by rw [← hs]; exact tok_pair h.1, by rw [← hl]; show 2 ≤ 20; decide, fun c hc => ?_⟩
    simp at hc
    rcases hc with rfl | rfl
    · exact h.2.1
    · exact h.2.2
theorem txt_facts {z : Str} (h : txtC z.cps.toList = true) : z.cps.toList.all prn = true ∧ 1 ≤ z.length ∧ z.length ≤ 16 := by
  unfold txtC at h
  rw [Bool.and_eq_true, Bool.and_eq_true, decide_eq_true_eq, cl_length] at h
  exact ⟨h.1, h.2.1.1, h.2.1.2⟩
theorem wc_q {l : List Nat} (h : l.all wC = true) (ne : l ≠ []) : ∃ c, c ∈ l ∧ ¬ c = 34 := by
  obtain ⟨c, t, ec⟩ : ∃ c t, l = c :: t := by
    cases e : l with
    | nil => exact absurd e ne
    | cons c t => exact ⟨c, t, rfl⟩
  have hm : c ∈ l := by rw [ec]; exact List.mem_cons_self
  have := wC_range (List.all_eq_true.mp h c hm)
  exact ⟨c, hm, by omega⟩
theorem sg_q {z : Str} (h : sgB z = true) : ∃ c, c ∈ z.cps.toList ∧ ¬ c = 34 := by
  unfold sgB at h
  generalize z.cps.toList = l at h
  match l, h with
  | [a], h =>
    rw [Bool.and_eq_true, decide_eq_true_eq] at h
    have h2 := List.all_eq_true.mp (show (sgl.cps.toList.all fun c => !decide (c = 34)) = true by decide +kernel) a h.1
    exact ⟨a, List.mem_cons_self, by simpa using h2⟩
  | [a, b], h =>
    rw [Bool.and_eq_true] at h
    have := pair2 h.1
    exact ⟨a, List.mem_cons_self, by omega⟩
def sp_law_token (K : PySem.W.Frag) : Sp := fun vs H Q _ => ∃ (a : Addr), vs = [.ref a] ∧ Bag H a ∧ ∀ p H' k v w, Mv a H H' → H p = none → H' p = some (.tup [.str k, v, .str w]) → TokOk w.cps.toList k v → VOk k v → w.length ≤ 20 → strOkL w.cps.toList → (∃ c, c ∈ w.cps.toList ∧ ¬ c = 34) → Q (.ref p) H'
theorem ok_law_token (T : Txt K mg) : FnOk P w K mg base CX0 4 T.f_law_token T.d_law_token ["_law_bag_here"] (sp_law_token K) := by
  refine T.k_law_token.ok sc_law_token (fun vs H Q E h => ?_) (fun cdv A outer s H vs Q E hr h => ?_)
  · obtain ⟨a, rfl, _⟩ := h
    rfl
  · obtain ⟨a, rfl, hB, q⟩ := h
    refine ⟨_, (pss_cons (ps_set (i := 1) sc_law_token.nd rfl (.inl rfl) (pe_call (ok_law_draw T) (hr.mono (by decide)) (by rfl) T.g_law_draw T.k_law_draw.kp T.b_law_draw .nil pass0 (pa_cons (pv 0) (pa_cons pe_int pa_nil))))
      (pss_cons (ps_if (pt_cmpR op_lt (pv 1) pe_int (nomark _)) (pss_cons (ps_set (i := 2) sc_law_token.nd rfl (.inl rfl) (pe_call0 (ok_law_keys T) (hr.mono (by decide)) (by rfl) T.g_law_keys T.k_law_keys.kp T.b_law_keys .nil pass0))
      (pss_cons (ps_set (i := 3) sc_law_token.nd rfl (.inl rfl) (pe_ix (ix_listK K) (pv 2) (pe_call (ok_law_draw T) (hr.mono (by decide)) (by rfl) T.g_law_draw T.k_law_draw.kp T.b_law_draw .nil pass0 (pa_cons (pv 0) (pa_cons (pe_callB (lenLK K) (by rfl) T.m_len (by decide +kernel) (pa_cons (pv 2) pa_nil)) pa_nil))) (fun _ _ => rfl)))
      (pss_one (ps_ret (pe_tup (pa_cons pe_str (pa_cons (pv 3) (pa_cons (pv 3) pa_nil)))))))) pss_nil)
      (pss_cons (ps_if (pt_cmpR op_lt (pv 1) pe_int (nomark _)) (pss_cons (ps_set (i := 3) sc_law_token.nd rfl (.inl rfl) (pe_call (ok_law_name T) (hr.mono (by decide)) (by rfl) T.g_law_name T.k_law_name.kp T.b_law_name .nil pass0 (pa_cons (pv 0) pa_nil)))
      (pss_one (ps_ret (pe_tup (pa_cons pe_str (pa_cons (pv 3) (pa_cons (pv 3) pa_nil))))))) pss_nil)
      (pss_cons (ps_if (pt_cmpR op_eq (pv 1) pe_int (nomark _)) (pss_cons (ps_set (i := 4) sc_law_token.nd rfl (.inl rfl) (pe_ix (ix_listK K) (pe_lst (pa_cons pe_int (pa_cons pe_int (pa_cons pe_int (pa_cons pe_int (pa_cons (pe_call (ok_law_draw T) (hr.mono (by decide)) (by rfl) T.g_law_draw T.k_law_draw.kp T.b_law_draw .nil pass0 (pa_cons (pv 0) (pa_cons pe_int pa_nil))) pa_nil)))))) (pe_call (ok_law_draw T) (hr.mono (by decide)) (by rfl) T.g_law_draw T.k_law_draw.kp T.b_law_draw .nil pass0 (pa_cons (pv 0) (pa_cons pe_int pa_nil))) (fun _ _ => rfl)))
      (pss_one (ps_ret (pe_tup (pa_cons pe_str (pa_cons (pv 4) (pa_cons (pe_callTy call_str_int (by rfl) T.m_str (by decide +kernel) (pa_cons (pv 4) pa_nil)) pa_nil))))))) pss_nil)
      (pss_cons (ps_if (pt_cmpR op_eq (pv 1) pe_int (nomark _)) (pss_cons (ps_set (i := 5) sc_law_token.nd rfl (.inl rfl) (pe_call (ok_law_text T) (hr.mono (by decide)) (by rfl) T.g_law_text T.k_law_text.kp T.b_law_text .nil pass0 (pa_cons (pv 0) pa_nil)))
      (pss_one (ps_ret (pe_tup (pa_cons pe_str (pa_cons (pv 5) (pa_cons (pe_op op_add_str (pe_op op_add_str pe_str (pv 5)) pe_str) pa_nil))))))) pss_nil)
      (pss_cons (ps_set (i := 6) sc_law_token.nd rfl (.inl rfl) (pe_split pe_str pe_str))
      (pss_cons (ps_set (i := 7) sc_law_token.nd rfl (.inl rfl) (pe_ix (ix_listK K) (pv 6) (pe_call (ok_law_draw T) (hr.mono (by decide)) (by rfl) T.g_law_draw T.k_law_draw.kp T.b_law_draw .nil pass0 (pa_cons (pv 0) (pa_cons (pe_callB (lenLK K) (by rfl) T.m_len (by decide +kernel) (pa_cons (pv 6) pa_nil)) pa_nil))) (fun _ _ => rfl)))
      (pss_one (ps_ret (pe_tup (pa_cons pe_str (pa_cons (pv 7) (pa_cons (pv 7) pa_nil))))))))))))), ?_⟩
    walk_at "rd"
    refine rdSeq ?_
    walk_at "rd"
    refine i_draw (Mv.refl hB) (by decide) (by decide) fun r H1 r0 r1 _ mv => ?_
    have fin : ∀ (k : Str) (v : V) (w : Str) (H2 : Hp), Mv a H H2 → TokOk w.cps.toList k v → VOk k v → w.length ≤ 20 → strOkL w.cps.toList → (∃ c, c ∈ w.cps.toList ∧ ¬ c = 34) → ∀ p, H2 p = none → Q (.ref p) (upd H2 p (.tup [.str k, v, .str w])) := fun k v w H2 mv h1 h2 h3 h4 h5 p hp =>
      q p _ k v w (mv.new hp) (mv.free hp) upd_same h1 h2 h3 h4 h5
    refine rdSeq ?_
    walk_at "rd"
    refine ite2 (fun h => ?_) (fun h => ?_)
    · refine rdSeq ?_
      walk_at "rd"
      refine ⟨rfl, fun p hp => ?_⟩
      have mv1 := mv.new (o := .lst (kwS.map V.str)) hp
      refine rdSeq ?_
      walk_at "rd"
      refine i_lenL (sqL_of upd_same) ?_
      rw [List.length_map, show kwS.length = 34 from rfl]
      refine i_draw mv1 (by decide) (by decide) fun r2 H2 h0 h1 mvd mv2 => ?_
      obtain ⟨o, ev, ho⟩ := at_of (xs := kwS.map V.str) h0 h1
      refine i_ixL (sqL_of (mvd.old p _ (mv.ne hp) upd_same)) ev ?_
      obtain ⟨z, hz, rfl⟩ := List.mem_map.mp ho
      have hB := List.all_eq_true.mp kw_all z hz
      unfold kwB at hB
      simp only [Bool.and_eq_true, Bool.not_eq_true', decide_eq_true_eq] at hB
      obtain ⟨b1, b2, b3, b4, b5⟩ := hB
      exact fin _ _ _ _ mv2 (tok_word b3 (ne_nil_of b4) (by rw [sL_of]; exact wtok_kw b1 b2)) (vok_str (by decide +kernel) (by decide +kernel) fun c hc => wC_lt (List.all_eq_true.mp b3 c hc)) b5 (fun c hc => wC_lt (List.all_eq_true.mp b3 c hc)) (wc_q b3 (ne_nil_of b4))
    refine rdSeq ?_
    walk_at "rd"
    refine ite2 (fun h => ?_) (fun h => ?_)
    · refine rdSeq ?_
      walk_at "rd"
      refine ⟨a, rfl, mv.bag, fun z H2 mv2 hz => ?_⟩
      walk_at "rd"
      refine fin _ _ _ _ (mv.trans mv2) (tok_word hz.wc (ne_nil_of hz.l1) (by rw [sL_of]; exact hz.tk)) (vok_str (by decide +kernel) (by decide +kernel) fun c hc => wC_lt (List.all_eq_true.mp hz.wc c hc)) hz.l20 (fun c hc => wC_lt (List.all_eq_true.mp hz.wc c hc)) (wc_q hz.wc (ne_nil_of hz.l1))
    refine rdSeq ?_
    walk_at "rd"
    refine ite2 (fun h => ?_) (fun h => ?_)
    · refine rdSeq ?_
      walk_at "rd"
      refine i_draw mv (by decide) (by decide) fun r2 H2 h0 h1 _ mv2 => ?_
      intro p hp
      refine i_draw (mv2.new hp) (by decide) (by decide) fun r3 H3 g0 g1 mvd mv3 => ?_
      obtain ⟨x, ev, hx⟩ := at_int (ns := [0, 9, 10, 32767, r2]) g0 g1
      refine i_ixL (sqL_of (mvd.old p _ (mv2.ne hp) upd_same)) ev ?_
      obtain ⟨n, rfl, hn⟩ : ∃ n : Nat, x = (n : Int) ∧ n ≤ 32767 := by
        simp only [List.mem_cons, List.not_mem_nil, or_false] at hx
        exact ⟨x.toNat, by omega, by omega⟩
      refine ⟨_, rfl, log_small (by omega), ?_⟩
      have hd := TL.numL_digits n
      have hl : (TL.numL n).length ≤ 5 := TL.numL_len (by decide) (by show n < 100000; omega)
      have hwc : (Str.ofString (toString (n : Int))).cps.toList.all wC = true := by
        rw [num_cl]; exact List.all_eq_true.mpr fun c hc => by unfold wC; rw [digC_of (hd c hc), Bool.or_true]
      exact fin _ _ _ _ mv3 (tok_word hwc (by rw [num_cl]; exact TL.numL_ne n) (by rw [sL_of]; exact wtok_num hn)) ⟨by decide +kernel, .inl ⟨rfl, _, rfl⟩⟩ (by rw [← cl_length, num_cl]; omega) (fun c hc => wC_lt (List.all_eq_true.mp hwc c hc)) (wc_q hwc (by rw [num_cl]; exact TL.numL_ne n))
    refine rdSeq ?_
    walk_at "rd"
    refine ite2 (fun h => ?_) (fun h => ?_)
    · refine rdSeq ?_
      walk_at "rd"
      refine ⟨a, rfl, mv.bag, fun z H2 mv2 hz => ?_⟩
      walk_at "rd"
      have hp : z.cps.toList.all prn = true := by
        unfold txtC at hz
        rw [Bool.and_eq_true] at hz; exact hz.1
      have hl : z.length ≤ 16 := by
        unfold txtC at hz
        simp at hz
        exact hz.2.1.2
      have q1 : (Str.ofString "\"").length = 1 := by decide +kernel
      have ecl : (Str.ofString "\"" ++ z ++ Str.ofString "\"").cps.toList = 34 :: z.cps.toList ++ [34] := by rw [cl_append, cl_append]; rfl
      refine ⟨line5 (by omega), line5 (by rw [len_append]; omega), ?_⟩
      refine fin _ _ _ _ (mv.trans mv2) (by rw [ecl]; have := tok_text hz; rw [sL_of] at this; exact this) (vok_str (by decide +kernel) (by decide +kernel) fun c hc => prn_lt (List.all_eq_true.mp hp c hc)) (by rw [len_append, len_append]; omega) (fun c hc => ?_) ?_
      · rw [ecl] at hc
        simp at hc
        rcases hc with rfl | hc | rfl
        · decide
        · exact prn_lt (List.all_eq_true.mp hp c (by simpa using hc))
        · decide
      · obtain ⟨g1, g2, g3⟩ := txt_facts hz
        obtain ⟨c, t, ec⟩ : ∃ c t, z.cps.toList = c :: t := by
          cases e : z.cps.toList with
          | nil => exact absurd e (ne_nil_of g2)
          | cons c t => exact ⟨c, t, rfl⟩
        have h34 : ¬ 34 ∈ z.cps.toList := by
          unfold txtC at hz
          simp at hz
          simpa using hz.2.2
        exact ⟨c, by rw [ecl, ec]; simp, fun e => h34 (by rw [ec, e]; exact List.mem_cons_self)⟩
    refine rdSeq ?_
    walk_at "rd"
    have sgAll : (Txt.split (Str.ofString "{ } ( ) [ ] ; , . = + - * / & | ^ < > << >> == != <= >= < > = < > =") (Str.ofString " ")).all sgB = true := by decide +kernel
    have sgLen : (Txt.split (Str.ofString "{ } ( ) [ ] ; , . = + - * / & | ^ < > << >> == != <= >= < > = < > =") (Str.ofString " ")).length = 31 := by decide +kernel
    refine ⟨by decide +kernel, by decide +kernel, ?_⟩
    generalize Txt.split (Str.ofString "{ } ( ) [ ] ; , . = + - * / & | ^ < > << >> == != <= >= < > = < > =") (Str.ofString " ") = sg at sgAll sgLen
    intro p hp
    have mv1 := mv.new (o := .lst (sg.map V.str)) hp
    refine rdSeq ?_
    walk_at "rd"
    refine i_lenL (sqL_of upd_same) ?_
    rw [List.length_map, sgLen]
    refine i_draw mv1 (by decide) (by decide) fun r2 H2 h0 h1 mvd mv2 => ?_
    obtain ⟨o, ev, ho⟩ := at_of (xs := sg.map V.str) h0 (by rw [List.length_map, sgLen]; exact h1)
    refine i_ixL (sqL_of (mvd.old p _ (mv.ne hp) upd_same)) ev ?_
    obtain ⟨z, hz, rfl⟩ := List.mem_map.mp ho
    obtain ⟨b1, b2, b3⟩ := sg_ok (List.all_eq_true.mp sgAll z hz)
    walk_at "rd"
    exact fin _ _ _ _ mv2 b1 (vok_str (by decide +kernel) (by decide +kernel) b3) b2 b3 (sg_q (List.all_eq_true.mp sgAll z hz))
theorem alnum_all : ((List.range 128).all fun c => Txt.isalnum ⟨#[c]⟩ == wC c) = true := by decide +kernel
theorem alnum_wC {c : Nat} (h : c < 128) : Txt.isalnum ⟨#[c]⟩ = wC c := beq_iff_eq.mp (List.all_eq_true.mp alnum_all c (List.mem_range.mpr h))
def sp_law_is_word (K : PySem.W.Frag) : Sp := fun vs H Q _ => ∃ c : Nat, vs = [.str ⟨#[c]⟩] ∧ c < 128 ∧ Q (.bl (wC c)) H
theorem ok_law_is_word (T : Txt K mg) : FnOk P w K mg base CX0 1 T.f_law_is_word T.d_law_is_word ["_law_sign"] (sp_law_is_word K) := by
  refine T.k_law_is_word.ok sc_law_is_word (fun vs H Q E h => ?_) (fun cdv A outer s H vs Q E hr h => ?_)
  · obtain ⟨c, rfl, _⟩ := h
    rfl
  · obtain ⟨c, rfl, hc, q⟩ := h
    refine ⟨_, (pss_one (ps_ret (pe_bm0K K PySem.F.plainAttrs_str PySem.F.slot_str_isalnum PySem.F.type_str_isalnum mt_isalnum (pv 0)))), ?_⟩
    walk_at "rd"
    refine ⟨rfl, ?_⟩
    rw [alnum_wC hc]; exact q
def hdC (z : Str) : Nat := z.cps.toList.headD 0
def laC (z : Str) : Nat := z.cps.toList.getLastD 0
def needB (zl zr : Str) : Bool := (wC (laC zl) && wC (hdC zr)) || (inV (.str zl) [.str "<", .str ">", .str "="] && decide (hdC zr ∈ (Str.ofString "<>=").cps.toList))
theorem at_head {z : Str} (h : 1 ≤ z.length) : atI z.cps.toList 0 = some (hdC z) := by
  unfold hdC
  cases e : z.cps.toList with
  | nil => exact absurd e (ne_nil_of h)
  | cons c t => exact atI_nat (j := 0) rfl
theorem at_last {z : Str} (h : 1 ≤ z.length) : atI z.cps.toList (-1) = some (laC z) := by
  have ne := ne_nil_of h
  unfold laC
  rw [List.getLastD_eq_getLast?, List.getLast?_eq_some_getLast ne]
  have := atI_last z.cps.toList.dropLast (z.cps.toList.getLast ne)
  rw [List.dropLast_concat_getLast] at this
  exact this
def sp_law_gap (K : PySem.W.Frag) : Sp := fun vs H Q _ => ∃ (a : Addr) (zl zr : Str), vs = [.ref a, .str zl, .str zr] ∧ Bag H a ∧ 1 ≤ zl.length ∧ 1 ≤ zr.length ∧ zl.length ≤ 20 ∧ zr.length ≤ 20 ∧ strOkL zl.cps.toList ∧ strOkL zr.cps.toList ∧
  ∀ g H', Mv a H H' → Gp g.cps.toList → g.length ≤ 24 → ((g.cps.toList = [] ∧ needB zl zr = false) ∨ ∃ c t, g.cps.toList = c :: t ∧ (c = 32 ∨ c = 10 ∨ c = 35)) → Q (.str g) H'
theorem ok_law_gap (T : Txt K mg) : FnOk P w K mg base CX0 3 T.f_law_gap T.d_law_gap ["_law_bag_here", "_law_left", "_law_right"] (sp_law_gap K) := by
  refine T.k_law_gap.ok sc_law_gap (fun vs H Q E h => ?_) (fun cdv A outer s H vs Q E hr h => ?_)
  · obtain ⟨a, zl, zr, rfl, _⟩ := h
    rfl
  · obtain ⟨a, zl, zr, rfl, hB, hl1, hr1, hl2, hr2, hls, hrs, q⟩ := h
    refine ⟨_, (C8.pss_cut (ps_set (i := 3) sc_law_gap.nd rfl (.inl rfl) (pe_or (pe_and (pe_call (ok_law_is_word T) (hr.mono (by decide)) (by rfl) T.g_law_is_word T.k_law_is_word.kp T.b_law_is_word .nil pass0 (pa_cons (pe_ix ix_str (pv 1) (pe_un un_neg pe_int) (fun _ _ => rfl)) pa_nil)) (pe_one (pe_call (ok_law_is_word T) (hr.mono (by decide)) (by rfl) T.g_law_is_word T.k_law_is_word.kp T.b_law_is_word .nil pass0 (pa_cons (pe_ix ix_str (pv 2) pe_int (fun _ _ => rfl)) pa_nil)))) (pe_one (pe_and (pe_cmpR (in_seqK K) (pv 1) (pe_lst (pa_cons pe_str (pa_cons pe_str (pa_cons pe_str pa_nil)))) rfl) (pe_one (pe_cmpR op_inC (pe_ix ix_str (pv 2) pe_int (fun _ _ => rfl)) pe_str rfl))))))
      (pss_cons (ps_set (i := 4) sc_law_gap.nd rfl (.inl rfl) (pe_call (ok_law_draw T) (hr.mono (by decide)) (by rfl) T.g_law_draw T.k_law_draw.kp T.b_law_draw .nil pass0 (pa_cons (pv 0) (pa_cons pe_int pa_nil))))
      (pss_cons (ps_if (PW.pt (pw_and (pt_cmpR op_lt (pv 4) pe_int (nomark _)) (pw_and1 (pt_not (pt_val (pv 3)))))) (pss_one (ps_ret pe_str)) pss_nil)
      (pss_cons (ps_if (pt_cmpR op_lt (pv 4) pe_int (nomark _)) (pss_one (ps_ret (pe_op op_mul_str pe_str (pe_op op_add pe_int (pe_call (ok_law_draw T) (hr.mono (by decide)) (by rfl) T.g_law_draw T.k_law_draw.kp T.b_law_draw .nil pass0 (pa_cons (pv 0) (pa_cons pe_int pa_nil))))))) pss_nil)
      (pss_cons (ps_if (pt_cmpR op_eq (pv 4) pe_int (nomark _)) (pss_one (ps_ret (pe_op op_mul_str pe_str (pe_op op_add pe_int (pe_call (ok_law_draw T) (hr.mono (by decide)) (by rfl) T.g_law_draw T.k_law_draw.kp T.b_law_draw .nil pass0 (pa_cons (pv 0) (pa_cons pe_int pa_nil))))))) pss_nil)
      (pss_one (ps_ret (pe_op op_add_str (pe_op op_add_str (pe_op op_add_str (pe_op op_add_str (pe_op op_mul_str pe_str (pe_call (ok_law_draw T) (hr.mono (by decide)) (by rfl) T.g_law_draw T.k_law_draw.kp T.b_law_draw .nil pass0 (pa_cons (pv 0) (pa_cons pe_int pa_nil)))) pe_str) (pe_call (ok_law_text T) (hr.mono (by decide)) (by rfl) T.g_law_text T.k_law_text.kp T.b_law_text .nil pass0 (pa_cons (pv 0) pa_nil))) (pe_op op_mul_str pe_str (pe_call (ok_law_draw T) (hr.mono (by decide)) (by rfl) T.g_law_draw T.k_law_draw.kp T.b_law_draw .nil pass0 (pa_cons (pv 0) (pa_cons pe_int pa_nil))))) pe_str)))))))), ?_⟩
    have hlc : laC zl < 128 := hls _ (last_mem (ne_nil_of hl1))
    have hrc : hdC zr < 128 := by
      unfold hdC
      cases e : zr.cps.toList with
      | nil => decide
      | cons c t => exact hrs c (by rw [e]; exact List.mem_cons_self)
    refine rdCut (fun σ H' => Mv a H H' ∧ σ = [some (.ref a), some (.str zl), some (.str zr), some (.bl (needB zl zr)), none]) ?_ ?_
    · walk_at "rd"
      have inn : ∀ H1, Mv a H H1 → (wC (laC zl) && wC (hdC zr)) = false → ∀ p, H1 p = none → rIn K false (V.str zl) (V.ref p) (upd H1 p (HO.lst [V.str (Str.ofString "<"), V.str (Str.ofString ">"), V.str (Str.ofString "=")])) fun x H2 =>
          ∃ c, x = V.bl c ∧ if c = true then rIxS (V.str zr) (V.int 0) H2 fun x H1 => rInC false x (V.str (Str.ofString "<>=")) H1 fun x H1 => Mv a H H1 ∧ x = V.bl (needB zl zr)
            else Mv a H H2 ∧ false = needB zl zr := fun H1 mv hw p hp => by
        have eN : needB zl zr = (inV (.str zl) [.str "<", .str ">", .str "="] && decide (hdC zr ∈ (Str.ofString "<>=").cps.toList)) := by unfold needB; rw [hw, Bool.false_or]
        refine ⟨p, [.str "<", .str ">", .str "="], rfl, .inl (sqL_of upd_same), rfl, by decide +kernel, inV (.str zl) [.str "<", .str ">", .str "="], rfl, ?_⟩
        cases h : inV (.str zl) [.str "<", .str ">", .str "="] with
        | true => exact i_then rfl (i_ixS (line5 (by omega)) (at_head hr1) (i_inC rfl rfl ⟨mv.new hp, by rw [eN, h]; rfl⟩))
        | false => exact i_else (by simp) ⟨mv.new hp, by rw [eN, h]; rfl⟩
      refine i_ixS (line5 (by omega)) (at_last hl1) ⟨_, rfl, hlc, ?_⟩
      walk_at "rd"
      cases h1 : wC (laC zl) with
      | true =>
        refine i_then rfl (i_ixS (line5 (by omega)) (at_head hr1) ⟨_, rfl, hrc, _, rfl, ?_⟩)
        cases h2 : wC (hdC zr) with
        | true => exact i_then rfl ⟨Mv.refl hB, by unfold needB; rw [h1, h2]; rfl⟩
        | false => exact i_else (by simp) (inn H (Mv.refl hB) (by rw [h1, h2]; rfl))
      | false => exact i_else (by simp) (inn H (Mv.refl hB) (by rw [h1]; rfl))
    rintro σ H1 ⟨mv, rfl⟩
    refine rdSeq ?_
    walk_at "rd"
    refine i_draw mv (by decide) (by decide) fun r H2 r0 r1 _ mv2 => ?_
    refine rdSeq ?_
    walk_at "rd"
    have sp1 : ∀ c : Nat, (⟨#[c]⟩ : Str).length ≤ 2 := fun c => by show 1 ≤ 2; decide
    refine i_and (fun _ hn => q _ _ mv2 Gp.nil (by decide +kernel) (.inl ⟨rfl, by simpa using hn⟩)) ?_
    refine rdSeq ?_
    walk_at "rd"
    refine ite2 (fun h => ?_) (fun h => ?_)
    · refine i_draw mv2 (by decide) (by decide) fun r2 H3 g0 g1 _ mv3 => ?_
      obtain ⟨n, rfl⟩ := Int.eq_ofNat_of_zero_le g0
      have em : (Txt.mul (Str.ofString " ") (1 + (n : Int))).cps.toList = List.replicate (n + 1) 32 := by
        rw [show (Str.ofString " ") = (⟨#[32]⟩ : Str) from rfl, mul_one (by omega), show (1 + (n : Int)).toNat = n + 1 by omega]
      refine ⟨_, rfl, Str.ofString " ", _, rfl, rfl, mul_ok (by decide +kernel) (by omega) (by omega), q _ _ mv3 (by rw [em]; exact Gp.sps _) (by rw [← cl_length, em, List.length_replicate]; omega) (.inr ⟨32, _, by rw [em, List.replicate_succ], .inl rfl⟩)⟩
    refine rdSeq ?_
    walk_at "rd"
    refine ite2 (fun h => ?_) (fun h => ?_)
    · refine i_draw mv2 (by decide) (by decide) fun r2 H3 g0 g1 _ mv3 => ?_
      obtain ⟨n, rfl⟩ := Int.eq_ofNat_of_zero_le g0
      have em : (Txt.mul (Str.ofString "\n") (1 + (n : Int))).cps.toList = List.replicate (n + 1) 10 := by
        rw [show (Str.ofString "\n") = (⟨#[10]⟩ : Str) from rfl, mul_one (by omega), show (1 + (n : Int)).toNat = n + 1 by omega]
      refine ⟨_, rfl, Str.ofString "\n", _, rfl, rfl, mul_ok (by decide +kernel) (by omega) (by omega), q _ _ mv3 (by rw [em]; exact Gp.nls _) (by rw [← cl_length, em, List.length_replicate]; omega) (.inr ⟨10, _, by rw [em, List.replicate_succ], .inr (.inl rfl)⟩)⟩
    refine i_draw mv2 (by decide) (by decide) fun r2 H3 g0 g1 _ mv3 => ?_
    obtain ⟨n, rfl⟩ := Int.eq_ofNat_of_zero_le g0
    walk_at "rd"
    have em : (Txt.mul (Str.ofString " ") (n : Int)).cps.toList = List.replicate n 32 := by
      rw [show (Str.ofString " ") = (⟨#[32]⟩ : Str) from rfl, mul_one (by omega), Int.toNat_natCast]
    have el : (Txt.mul (Str.ofString " ") (n : Int)).length = n := by rw [← cl_length, em, List.length_replicate]
    have e35 : (Str.ofString "#").length = 1 := by decide +kernel
    have e10 : (Str.ofString "\n").length = 1 := by decide +kernel
    refine ⟨Str.ofString " ", n, rfl, rfl, mul_ok (by decide +kernel) (by omega) (by omega), _, rfl, line5 (by omega), a, rfl, mv3.bag, fun t H4 mv4 ht => ⟨_, rfl, ?_, ?_⟩⟩
    all_goals obtain ⟨tp, tl1, tl2⟩ := txt_facts ht
    · rw [len_append]; exact line5 (by omega)
    refine i_draw (mv3.trans mv4) (by decide) (by decide) fun r3 H5 k0 k1 _ mv5 => ?_
    obtain ⟨m, rfl⟩ := Int.eq_ofNat_of_zero_le k0
    have em2 : (Txt.mul (Str.ofString "\"") (m : Int)).cps.toList = List.replicate m 34 := by
      rw [show (Str.ofString "\"") = (⟨#[34]⟩ : Str) from rfl, mul_one (by omega), Int.toNat_natCast]
    have el2 : (Txt.mul (Str.ofString "\"") (m : Int)).length = m := by rw [← cl_length, em2, List.length_replicate]
    have ecl : (Txt.mul (Str.ofString " ") (n : Int) ++ Str.ofString "#" ++ t ++ Txt.mul (Str.ofString "\"") (m : Int) ++ Str.ofString "\n").cps.toList = List.replicate n 32 ++ (35 :: (t.cps.toList ++ List.replicate m 34) ++ [10]) := by
      rw [cl_append, cl_append, cl_append, cl_append, em, em2]
      show List.replicate n 32 ++ [35] ++ t.cps.toList ++ List.replicate m 34 ++ [10] = _
      simp
    have hp : (t.cps.toList ++ List.replicate m 34).all prn = true := by
      rw [List.all_append, tp, List.all_eq_true.mpr fun c hc => by rw [(List.mem_replicate.mp hc).2]; decide]; rfl
    refine ⟨Str.ofString "\"", m, rfl, rfl, mul_ok (by decide +kernel) (by omega) (by omega), _, rfl, ?_, ?_, q _ _ mv5 (by rw [ecl]; exact (Gp.sps n).append (Gp.com hp)) ?_ (.inr ?_)⟩
    · rw [len_append, len_append]; exact line5 (by omega)
    · rw [len_append, len_append, len_append]; exact line5 (by omega)
    · rw [len_append, len_append, len_append, len_append]; omega
    · rw [ecl]
      cases n with
      | zero => exact ⟨35, _, rfl, .inr (.inr rfl)⟩
      | succ n => exact ⟨32, _, by rw [List.replicate_succ]; rfl, .inl rfl⟩
theorem Mv.same {a : Addr} {H H1 H2 : Hp} (m : Mv a H H1) (s : Same H1 H2) : Mv a H H2 := by
  refine ⟨?_, fun b o hb e => s _ _ (m.old b o hb e)⟩
  obtain ⟨x, y, z, h⟩ := m.bag
  exact ⟨x, y, z, s _ _ h⟩
section
open StrLaws
theorem occ_all (z : Str) (c lim : Nat) : ∀ (n a : Nat) (arr : Array Nat) (free : Nat), free ≤ a → arr.size + n ≤ lim → (forIn (List.range' a n) (arr, free) (occBody z ⟨#[c]⟩ z.length lim)).run.fst.size = arr.size + (List.range' a n).countP fun i => decide (z.cps.toList[i]? = some c)
  | 0, _, _, _, _, _ => rfl
  | n + 1, a, arr, free, hf, hl => by
    rw [List.range'_succ, List.forIn_cons, List.countP_cons]
    unfold occBody
    by_cases h : z.cps.toList[a]? = some c
    · have h2 := (subAt_one z c a).mpr h
      rw [if_pos ⟨⟨⟨by show arr.size < lim; omega, hf⟩, h2.1⟩, h2.2⟩, if_pos (decide_eq_true h)]
      have := occ_all z c lim n (a + 1) (arr.push a) (a + 1) (Nat.le_refl _) (by rw [Array.size_push]; omega)
      unfold occBody at this
      rw [Array.size_push] at this
      refine Eq.trans this ?_
      omega
    · rw [if_neg (fun k => h ((subAt_one z c a).mp ⟨k.1.2, k.2⟩)), if_neg (by simpa using h)]
      have := occ_all z c lim n (a + 1) arr free (by omega) (by omega)
      unfold occBody at this
      exact this
theorem count_tw (l : List Nat) (c : Nat) : ∀ (n a : Nat), ((List.range' a n).countP fun i => decide (l[i]? = some c)) = ((l.drop a).take n).count c
  | 0, a => by simp
  | n + 1, a => by
    rw [List.range'_succ, List.countP_cons, count_tw l c n (a + 1)]
    by_cases hl : a < l.length
    · rw [drop_cons hl, List.take_succ_cons, List.count_cons, List.getElem?_eq_getElem hl]
      by_cases h : l[a] = c
      · rw [if_pos (by simp [h]), if_pos (by simp [h])]
      · rw [if_neg (by simp [h]), if_neg (by simp [h])]
    · rw [List.drop_eq_nil_of_le (by omega), List.drop_eq_nil_of_le (by omega), List.getElem?_eq_none (by omega)]
      simp
theorem count_chr (z : Str) (c : Nat) : Txt.count z ⟨#[c]⟩ = ((z.cps.toList.count c : Nat) : Int) := by
  have hl := cl_length z
  have h := occ_all z c (z.length + 1) (z.length + 1) 0 #[] 0 (Nat.le_refl _) (by simp)
  rw [count_tw, List.drop_zero, List.take_of_length_le (by omega)] at h
  unfold Txt.count
  rw [occ_eq, Array.length_toList]
  have e : z.length + 1 - 0 = z.length + 1 := rfl
  rw [e, h]
  simp
end
theorem Mv.setN {a p : Addr} {o : HO} {H H1 : Hp} (m : Mv a H H1) (n : H p = none) (ne : p ≠ a) : Mv a H (upd H1 p o) := by
  refine ⟨?_, fun b x hb e => by rw [upd_ne (ne_of_none e n)]; exact m.old b x hb e⟩
  obtain ⟨x, y, z, h⟩ := m.bag
  exact ⟨x, y, z, by rw [upd_ne (Ne.symm ne)]; exact h⟩
theorem app_empty (T : Str) : T ++ Str.ofString "" = T := cl_ext (by
  rw [cl_append]
  show T.cps.toList ++ [] = T.cps.toList
  simp)
theorem empty_of {w : Str} (h : ¬ w = Str.ofString "") : 1 ≤ w.length := by
  cases e : w.length with
  | zero =>
    have e2 : w.cps.toList = [] := List.length_eq_zero_iff.mp (by rw [cl_length]; exact e)
    exact absurd (cl_ext (by rw [e2]; rfl)) h
  | succ n => omega
/-- the gap that is not needed -/
theorem need_fol {w w2 : Str} (hw : 1 ≤ w.length) (w33 : ¬ w.cps.toList = [33]) (h : needB w w2 = false) (l : List Nat) (h2 : 1 ≤ w2.length) : Fol w.cps.toList (w2.cps.toList ++ l) := by
  obtain ⟨c, t, ec⟩ : ∃ c t, w2.cps.toList = c :: t := by
    cases e : w2.cps.toList with
    | nil => exact absurd e (ne_nil_of h2)
    | cons c t => exact ⟨c, t, rfl⟩
  have eh : hdC w2 = c := by unfold hdC; rw [ec]; rfl
  unfold needB at h
  rw [eh, Bool.or_eq_false_iff] at h
  rw [ec, List.cons_append]
  refine fol_tok (fun hl => ?_) (fun h1 hp => ?_)
  · have h3 := h.1
    unfold laC at h3
    rw [hl, Bool.true_and] at h3
    exact h3
  · obtain ⟨a, ea⟩ := List.length_eq_one_iff.mp h1
    rw [ea] at hp w33
    have hp1 : a = 60 ∨ a = 62 ∨ a = 61 ∨ a = 33 := hp.1
    have n33 : ¬ a = 33 := fun e => w33 (by rw [e])
    have ew : w = sL [a] := cl_ext ea
    have h3 := h.2
    have hc : decide (c ∈ (Str.ofString "<>=").cps.toList) = true := by rcases hp.2 with rfl | rfl | rfl <;> decide +kernel
    rw [hc, Bool.and_true, ew] at h3
    have : inV (.str (sL [a])) [.str "<", .str ">", .str "="] = true := by
      rcases hp1 with rfl | rfl | rfl | rfl
      · decide +kernel
      · decide +kernel
      · decide +kernel
      · exact absurd rfl n33
    rw [this] at h3; cases h3

/-! ### what refuses a text -/
def spNo : Sp := fun _ _ _ _ => False
theorem ok_Reader_read_package (T : Txt K mg) : FnOk P w K mg base CX0 1 T.f_Reader_read_package T.d_Reader_read_package ["self"] spNo := by
  refine ⟨fun _ _ _ _ h => h.elim, ?_⟩
  intros
  rename_i h
  exact h.elim
theorem ok_is_tree (T : Txt K mg) : FnOk P w K mg base CX0 1 T.f_is_tree T.d_is_tree ["value"] spNo := by
  refine ⟨fun _ _ _ _ h => h.elim, ?_⟩
  intros
  rename_i h
  exact h.elim
/-- a value that tokens refuses, and the line -/
def BadT (K : PySem.W.Frag) (H : Hp) (v : V) (e : Nat) : Prop := (∃ (z : Str) (ts : List (Str × V × Nat)), v = .str z ∧ z.length ≤ 20000 ∧ Run z.cps.toList 1 ts (some e)) ∨ (OddT K H v ∧ e = 0)
def sp_Cursor_init {K : PySem.W.Frag} {mg : Str → Option Value} (T : Txt K mg) : Sp := fun vs H _ E => ∃ (x : Addr) (v : V) (e : Nat), vs = [.ref x, v] ∧ BadT K H v e ∧ ErrE T.c_BadSource H E e
theorem ok_Cursor_init (T : Txt K mg) : FnOk P w K mg base (L2.CX P w) 103 T.f_Cursor_init T.d_Cursor_init ["self", "text"] (sp_Cursor_init T) := by
  refine T.k_Cursor_init.okX sc_Cursor_init (fun vs H Q E h => ?_) (fun cdv A outer s H vs Q E hr h => ?_)
  · obtain ⟨x, v, e, rfl, _⟩ := h
    rfl
  · obtain ⟨x, v, e, rfl, hb, q⟩ := h
    refine ⟨_, (pss_cons (ps_fldK K (pv 0) (pe_callS (ok_tokens T) (hr.mono (by decide)) (by rfl) T.g_tokens T.k_tokens.kp T.b_tokens (fun σ => passAt (takes_of rfl rfl rfl rfl) σ) (pa_cons (pv 1) pa_nil)) rfl)
      (pss_cons (ps_fldK K (pv 0) (pe_op op_add (pe_bmK K PySem.F.plainAttrs_str PySem.F.slot_str_count PySem.F.type_str_count mt_count (pv 1) (pa_cons pe_str pa_nil)) pe_int) rfl)
      (pss_cons (ps_fldK K (pv 0) pe_int rfl)
      (pss_one (ps_fldK K (pv 0) pe_int rfl))))), ?_⟩
    walk_at "rd"
    refine rdSeq ?_
    walk_at "rd"
    rcases hb with ⟨z, ts, rfl, hz, R⟩ | ⟨ho, rfl⟩
    · exact .inl ⟨z, ts, some e, rfl, hz, R, (fun h => by cases h), fun e2 h => by cases h; exact q⟩
    · exact .inr ⟨v, rfl, ho, q⟩
theorem OddS.same {K : PySem.W.Frag} {H H' : Hp} {v : V} (h : OddS K H v) (s : Same H H') : OddS K H' v := by
  obtain ⟨t, ty, ht⟩ := h
  refine ⟨t, ?_, ht⟩
  cases ty with
  | base h =>
    cases h with
    | non => exact .base .non
    | bl x => exact .base (.bl x)
    | int i => exact .base (.int i)
    | str x => exact .base (.str x)
    | flt x => exact .base (.flt x)
    | lst e => exact .base (.lst (s _ _ e))
    | frz e => exact .base (.frz (s _ _ e))
    | tup e => exact .base (.tup (s _ _ e))
    | dK e => exact .base (.dK (s _ _ e))
    | dT e => exact .base (.dT (s _ _ e))
  | byt b => exact .byt b
  | set e => exact .set (s _ _ e)
  | kList e c => exact .kList e c
  | kTuple e c => exact .kTuple e c
  | kDict e c => exact .kDict e c
  | fTuple e => exact .fTuple (s _ _ e)
  | fDict e => exact .fDict (s _ _ e)
theorem BadT.same {K : PySem.W.Frag} {H H' : Hp} {v : V} {e : Nat} (h : BadT K H v e) (s : Same H H') : BadT K H' v e := by
  rcases h with h | ⟨h | h, rfl⟩
  · exact .inl h
  · exact .inr ⟨.inl (h.same s), rfl⟩
  · exact .inr ⟨.inr h, rfl⟩
def sp_parse {K : PySem.W.Frag} {mg : Str → Option Value} (T : Txt K mg) : Sp := fun vs H _ E => ∃ (v : V) (e : Nat), vs = [v] ∧ BadT K H v e ∧ ErrE T.c_BadSource H E e
theorem ok_parse (T : Txt K mg) : FnOk P w K mg base (L2.CX P w) 105 T.f_parse T.d_parse ["text"] (sp_parse T) := by
  refine T.k_parse.okX sc_parse (fun vs H Q E h => ?_) (fun cdv A outer s H vs Q E hr h => ?_)
  · obtain ⟨v, e, rfl, _⟩ := h
    rfl
  · obtain ⟨v, e, rfl, hb, q⟩ := h
    refine ⟨_, (pss_cons (ps_set (i := 1) sc_parse.nd rfl (.inl rfl) (pe_meth0 (pe_make T.mk_Reader (ok_Cursor_init T) (hr.mono (by decide)) (by rfl) T.g_Reader T.b_Cursor_init .nil (passes_call (takes_of rfl rfl rfl rfl) (fun _ _ _ _ h => h)) (pa_cons (pv 0) pa_nil)) T.cl_Reader T.me_Reader_read_package (ok_Reader_read_package T) (hr.mono (by decide)) T.b_Reader_read_package .nil pass0))
      (pss_cons (ps_if (pt_not (pt_val (pe_call (ok_is_tree T) (hr.mono (by decide)) (by rfl) T.g_is_tree T.k_is_tree.kp T.b_is_tree .nil pass0 (pa_cons (pv 1) pa_nil)))) (pss_one (ps_raise rfl (takes_of rfl rfl rfl rfl) (pmk_oex T.ox_BadSource T.in_BadSource T.ti_BadSource (ok_BadSource_init T) (hr.mono (by decide)) T.b_BadSource_init .nil pass0 rfl T.g_BadSource (pa_cons pe_int (pa_cons pe_str pa_nil))))) pss_nil)
      (pss_one (ps_ret (pv 1))))), ?_⟩
    walk_at "rd"
    refine rdSeq ?_
    walk_at "rd"
    intro c dx hc hdx ndx
    have s0 : Same H (upd (upd H dx (.own c)) c (.ins T.c_Reader dx [])) := (same_new hdx).trans (same_new (by rw [upd_ne (Ne.symm ndx)]; exact hc))
    exact ⟨c, v, e, rfl, hb.same s0, q.same s0⟩
theorem rv_ref {c : Addr} : ∀ u, RelV (.ref c) u → u = .ref c := fun _ h => h
theorem tokens_bad {T : Txt K mg} {H : Hp} {Q : VK} {E : XK} {v : V} {e : Nat} (h : BadT K H v e) (q : ErrE T.c_BadSource H E e) : sp_tokens T [v] H Q E := by
  rcases h with ⟨z, ts, rfl, hz, R⟩ | ⟨ho, rfl⟩
  · exact .inl ⟨z, ts, some e, rfl, hz, R, (fun h => by cases h), fun e2 h => by cases h; exact q⟩
  · exact .inr ⟨v, rfl, ho, q⟩
def sp_law_line {K : PySem.W.Frag} {mg : Str → Option Value} (_ : Txt K mg) : Sp := fun vs H Q _ => ∃ (v : V) (e : Nat), vs = [v] ∧ BadT K H v e ∧ ∀ H', Same H H' → Q (.int (e : Nat)) H'
theorem ok_law_line (T : Txt K mg) : FnOk P w K mg base CX0 7 T.f_law_line T.d_law_line ["_law_value"] (sp_law_line T) := by
  refine T.k_law_line.ok sc_law_line (fun vs H Q E h => ?_) (fun cdv A outer s H vs Q E hr h => ?_)
  · obtain ⟨v, e, rfl, _⟩ := h
    rfl
  · obtain ⟨v, e, rfl, hb, q⟩ := h
    refine ⟨_, (pss_cons (ps_try_as (i := 1) rfl rfl sc_law_line.nd rfl rfl ⟨rfl, by decide, .inl T.g_BadSource⟩ takes0 (fun W pn xe tk po => (pss_one (ps_expr (pe_callS (ok_tokens T) (hr.mono (by decide)) (by rfl) T.g_tokens T.k_tokens.kp T.b_tokens (fun σ => passAt tk σ) (pa_cons (pv 0) pa_nil))))) (fun a oe cls d pn hz hf => (pss_cons (ps_if (PW.pt (pw_or (pt_not (pt_val (pe_callB (isSK K hz hf) (by rfl) T.m_isinstance (by decide +kernel) (pa_cons (pv 1) (pa_cons (pe_glob (v := .ref T.c_CardError) rfl T.g_CardError rfl) pa_nil))))) (pw_or (pt_not (pt_val (pe_callB (isiK K) (by rfl) T.m_isinstance (by decide +kernel) (pa_cons (pe_xf T.xf_BadSource T.on_BadSource_line hz hf (pv 1) rfl) (pa_cons (pe_bltn (v := .ty "int") (by rfl) T.m_int (by decide +kernel) rfl) pa_nil))))) (pw_or1 (pt_val (pe_callB (isiK K) (by rfl) T.m_isinstance (by decide +kernel) (pa_cons (pe_xf T.xf_BadSource T.on_BadSource_line hz hf (pv 1) rfl) (pa_cons (pe_bltn (v := .ty "bool") (by rfl) T.m_bool (by decide +kernel) rfl) pa_nil)))))))) (pss_one (ps_ret (pe_un un_neg pe_int))) pss_nil)
      (pss_one (ps_ret (pe_xf T.xf_BadSource T.on_BadSource_line hz hf (pv 1) rfl))))))
      (pss_one (ps_ret (pe_un un_neg pe_int)))), ?_⟩
    walk_at "rd"
    refine rdSeq ?_
    walk_at "rd"
    refine tokens_bad hb fun d rs H' s1 hd => i_catchAs T.ex_BadSource_BadSource fun a na => ?_
    refine rdSeq ?_
    walk_at "rd"
    refine ⟨T.c_BadSource, _, _, true, rfl, rfl, T.er_BadSource.ec, fun dd e => by cases e; exact ⟨_, hd⟩, rv_ref, T.er_BadSource.card, ?_⟩
    walk_at "rd"
    refine i_xf hd rfl ?_
    refine i_isi ty_int kb_ii ?_
    walk_at "rd"
    refine i_xf hd rfl ?_
    refine i_isi ty_int kb_ib ?_
    walk_at "rd"
    refine i_xf hd rfl ?_
    exact q _ s1
def sp_law_parsed {K : PySem.W.Frag} {mg : Str → Option Value} (_ : Txt K mg) : Sp := fun vs H Q _ => ∃ (v : V) (e : Nat), vs = [v] ∧ BadT K H v e ∧ ∀ H', Same H H' → Q (.int (e : Nat)) H'
theorem ok_law_parsed (T : Txt K mg) : FnOk P w K mg base CX0 106 T.f_law_parsed T.d_law_parsed ["_law_value"] (sp_law_parsed T) := by
  refine T.k_law_parsed.ok sc_law_parsed (fun vs H Q E h => ?_) (fun cdv A outer s H vs Q E hr h => ?_)
  · obtain ⟨v, e, rfl, _⟩ := h
    rfl
  · obtain ⟨v, e, rfl, hb, q⟩ := h
    refine ⟨_, (pss_cons (ps_try_as (i := 1) rfl rfl sc_law_parsed.nd rfl rfl ⟨rfl, by decide, .inl T.g_BadSource⟩ takes0 (fun W pn xe tk po => (pss_one (ps_expr (pe_callS (ok_parse T) (hr.mono (by decide)) (by rfl) T.g_parse T.k_parse.kp T.b_parse (fun σ => passAt tk σ) (pa_cons (pv 0) pa_nil))))) (fun a oe cls d pn hz hf => (pss_one (ps_ret (pe_xf T.xf_BadSource T.on_BadSource_line hz hf (pv 1) rfl)))))
      (pss_one (ps_ret (pe_un un_neg pe_int)))), ?_⟩
    walk_at "rd"
    refine rdSeq ?_
    walk_at "rd"
    refine ⟨v, e, rfl, hb, fun d rs H' s1 hd => i_catchAs T.ex_BadSource_BadSource fun a na => ?_⟩
    walk_at "rd"
    refine i_xf hd rfl ?_
    exact q _ s1
/-! ### faults -/
/-- F ahead of a space or a newline is refused in its first line -/
def Flt (F : List Nat) : Prop := ∀ c l ln, (c = 32 ∨ c = 10) → Run (F ++ c :: l) ln [] (some ln)
theorem flt_char {a : Nat} {t : List Nat} (h1 : ¬ a = 10) (h2 : ¬ a = 32) (h3 : ¬ a = 35) (hw : wC a = false) (h34 : ¬ a = 34) (hs : ¬ a ∈ sgl.cps.toList) (hp : a = 33 → ∀ c l, (c = 32 ∨ c = 10) → ¬ (t ++ c :: l).headD 0 = 61) : Flt (a :: t) := by
  intro c l ln hc
  rw [List.cons_append]
  refine .tokE h1 h2 h3 ?_
  have eh : (a :: (t ++ c :: l)).headD 0 = a := rfl
  unfold tokL
  rw [eh, if_neg (by rw [hw]; simp), if_neg h34, if_neg ?_, if_neg hs]
  intro h
  obtain ⟨b, r, eb⟩ : ∃ b r, t ++ c :: l = b :: r := by
    cases e : t ++ c :: l with
    | nil => simp at e
    | cons b r => exact ⟨b, r, rfl⟩
  rw [eb] at h
  have h2 : inV (.str (sL [a, b])) prL = true := h
  have := pair2 h2
  have h60 : a ∈ sgl.cps.toList ∨ a = 33 := by
    rcases this.1 with rfl | rfl | rfl | rfl
    · exact .inl (by decide +kernel)
    · exact .inl (by decide +kernel)
    · exact .inl (by decide +kernel)
    · exact .inr rfl
  rcases h60 with h60 | h60
  · exact hs h60
  · have h61 := hp h60 c l hc
    rw [eb] at h61
    subst h60
    have h4 : b = 60 ∨ b = 62 ∨ b = 61 := this.2
    have h61 : ¬ b = 61 := h61
    have : inV (.str (sL [33, b])) prL = true := h2
    rcases h4 with rfl | rfl | rfl
    · revert this; decide +kernel
    · revert this; decide +kernel
    · exact h61 rfl
theorem flt_word {w : List Nat} (hw : w.all wC = true) (ne : w ≠ []) (h : wtok (sL w) = none) : Flt w := by
  intro c l ln hc
  obtain ⟨a, t, ea⟩ : ∃ c t, w = c :: t := by
    cases e : w with
    | nil => exact absurd e ne
    | cons c t => exact ⟨c, t, rfl⟩
  have ha : wC a = true := List.all_eq_true.mp hw a (by rw [ea]; exact List.mem_cons_self)
  have hr := wC_range ha
  have hcw : wC ((c :: l).headD 0) = false := by
    show wC c = false
    rcases hc with rfl | rfl <;> decide
  have e1 : w ++ c :: l = a :: (t ++ c :: l) := by rw [ea]; rfl
  have htk : tokL (w ++ c :: l) = none := by
    have e2 : (w ++ c :: l).headD 0 = a := by rw [e1]; rfl
    unfold tokL
    rw [e2, if_pos ha, takeW hw hcw, h]; rfl
  rw [e1] at htk ⊢
  exact .tokE (by omega) (by omega) (by omega) htk
/-- a quote, then signs, then something that no text may have, or a quote too early -/
theorem flt_quote {t : List Nat} (h : ∀ r, txtC (bodyT (t ++ r)) = false) : Flt (34 :: t) := by
  intro c l ln hc
  rw [List.cons_append]
  refine .tokE (by decide) (by decide) (by decide) ?_
  have e1 : (34 :: (t ++ c :: l)).headD 0 = 34 := rfl
  have e2 : (34 :: (t ++ c :: l)).drop 1 = t ++ c :: l := rfl
  unfold tokL
  rw [e1, e2, if_neg (by decide), if_pos rfl, if_neg (fun k => by rw [h] at k; cases k.2)]
theorem flt_com {t : List Nat} (h : (cmt (35 :: t)).all prn = false) (h10 : ∀ r, cmt (35 :: (t ++ r)) = cmt (35 :: t)) : Flt (35 :: t) := by
  intro c l ln hc
  rw [List.cons_append]
  exact .comE (by rw [h10]; exact h)
/-! ### words laid out -/
structure W1 (w : Str) : Prop where
  l1 : 1 ≤ w.length
  l20 : w.length ≤ 20
  asc : strOkL w.cps.toList
def TokW (w : Str) : Prop := ∃ k v, TokOk w.cps.toList k v
inductive LI (H0 : Hp) (b p : Addr) (ws : List Str) (j : Nat) (T : Str) (H : Hp) : Prop
  | mk (mv : Mv b H0 H) (hp : H p = some (.lst (ws.map V.str))) (tl : T.length ≤ 44 * j)
      (pre : (∀ w ∈ ws, TokW w) → ∃ (T' g : List Nat) (ts : List (Str × V × Nat)) (w : List Nat), T.cps.toList = T' ++ g ∧ Pre T' ts w ∧ Gp g ∧ (∀ h : j < ws.length, ∀ l, Fol w (g ++ (ws[j].cps.toList ++ l))) ∧ (ws.length ≤ j → g = []))
inductive MidL (H0 : Hp) (b p : Addr) (ws : List Str) (j : Nat) (g : Str → L2.St) (σ : L2.St) (H : Hp) : Prop
  | mk (T : Str) (L : LI H0 b p ws j T H) (es : σ = g T)
def sp_law_laid (K : PySem.W.Frag) : Sp := fun vs H Q _ => ∃ (b p : Addr) (ws : List Str), vs = [.ref b, .ref p] ∧ Bag H b ∧ p ≠ b ∧ H p = some (.lst (ws.map V.str)) ∧ ws.length ≤ 30 ∧ (∀ w ∈ ws, W1 w) ∧
  ∀ z H', Mv b H H' → z.length ≤ 44 * ws.length → ((∀ w ∈ ws, TokW w) → ∃ ts w, Pre z.cps.toList ts w) → Q (.str z) H'
theorem ok_law_laid (T : Txt K mg) : FnOk P w K mg base CX0 4 T.f_law_laid T.d_law_laid ["_law_bag_here", "_law_words"] (sp_law_laid K) := by
  refine T.k_law_laid.ok sc_law_laid (fun vs H Q E h => ?_) (fun cdv A outer s H vs Q E hr h => ?_)
  · obtain ⟨b, p, ws, rfl, _⟩ := h
    rfl
  · obtain ⟨b, p, ws, rfl, hB, npb, hp, hl, hw, q⟩ := h
    -- 0:_law_bag_here 1:_law_words 2:_law_text_here 3:_law_k
    refine ⟨_, (pss_cons (ps_set (i := 2) sc_law_laid.nd rfl (.inl rfl) pe_str)
      (pss_cons (ps_for PassesOwn.never rfl (pi_range1 (by rfl) T.m_range (pa_cons (pe_callB (lenLK K) (by rfl) T.m_len (by decide +kernel) (pa_cons (pv 1) pa_nil)) pa_nil)) (pg_name (i := 3) sc_law_laid.nd rfl (Or.inl rfl)) (pss_cons (ps_set (i := 2) sc_law_laid.nd rfl (.inl rfl) (pe_op op_add_str (pv 2) (pe_ix (ix_listK K) (pv 1) (pv 3) (fun _ _ => rfl))))
      (pss_one (ps_if (pt_cmpR op_lt (pe_op op_add (pv 3) pe_int) (pe_callB (lenLK K) (by rfl) T.m_len (by decide +kernel) (pa_cons (pv 1) pa_nil)) (nomark _)) (pss_one (ps_set (i := 2) sc_law_laid.nd rfl (.inl rfl) (pe_op op_add_str (pv 2) (pe_call (ok_law_gap T) (hr.mono (by decide)) (by rfl) T.g_law_gap T.k_law_gap.kp T.b_law_gap .nil pass0 (pa_cons (pv 0) (pa_cons (pe_ix (ix_listK K) (pv 1) (pv 3) (fun _ _ => rfl)) (pa_cons (pe_ix (ix_listK K) (pv 1) (pe_op op_add (pv 3) pe_int) (fun _ _ => rfl)) pa_nil))))))) pss_nil))))
      (pss_one (ps_ret (pv 2))))), ?_⟩
    walk_at "rd"
    refine rdSeq ?_
    walk_at "rd"
    refine rdSeq ?_
    walk_at "rd"
    refine i_lenL (sqL_of hp) ?_
    rw [List.length_map]
    have L0 : LI H b p ws 0 (Str.ofString "") H := ⟨Mv.refl hB, hp, Nat.le_refl _, fun _ => ⟨[], [], [], [], rfl, Pre.start Gp.nil, Gp.nil, fun h l => fol_none _, fun _ => rfl⟩⟩
    refine ⟨_, rfl, by omega, by omega, i_for walk_range (fun j σ H' => ∃ T, LI H b p ws j T H' ∧ ∃ y3, σ = [some (.ref b), some (.ref p), some (.str T), y3]) ⟨_, L0, _, rfl⟩ (fun _ _ _ _ _ => trivial) ?_ ?_⟩
    · rintro j _ σ _ H1 hj ⟨T, L1, y3, rfl⟩ ⟨rfl, rfl⟩
      have hj : j < ws.length := hj
      obtain ⟨mv1, hp1, tl1, pre1⟩ := id L1
      have hwj := hw ws[j] (List.getElem_mem hj)
      have aj : atI (ws.map V.str) (0 + (j : Int)) = some (.str ws[j]) := by rw [Int.zero_add]; exact atI_nat (by rw [List.getElem?_map, List.getElem?_eq_getElem hj]; rfl)
      refine rdSeq ?_
      walk_at "rd"
      refine i_ixL (sqL_of hp1) aj ?_
      refine ⟨_, rfl, line5 (by have := hwj.l20; omega), ?_⟩
      walk_at "rd"
      refine i_lenL (sqL_of hp1) ?_
      rw [List.length_map]
      have base : (∀ w ∈ ws, TokW w) → ∃ ts, Pre (T ++ ws[j]).cps.toList ts ws[j].cps.toList := fun ht => by
        obtain ⟨T', g, ts, w, e1, e2, e3, e4, e5⟩ := pre1 ht
        obtain ⟨k, v, htk⟩ := ht ws[j] (List.getElem_mem hj)
        have := e2.step e3 htk (e4 hj)
        rw [cl_append, e1]
        exact ⟨_, this⟩
      have n33 : (∀ w ∈ ws, TokW w) → ¬ ws[j].cps.toList = [33] := fun ht => by
        obtain ⟨k, v, htk⟩ := ht ws[j] (List.getElem_mem hj)
        exact htk.n33
      refine ⟨_, rfl, ite2 (fun hlt => ?_) (fun hlt => ?_)⟩
      · have hj1 : j + 1 < ws.length := by omega
        have hwn := hw ws[j + 1] (List.getElem_mem hj1)
        refine i_ixL (sqL_of hp1) aj ?_
        refine i_ixL (sqL_of hp1) (i := 0 + (j : Int) + 1) (v := .str ws[j + 1]) (by rw [show (0 : Int) + (j : Int) + 1 = ((j + 1 : Nat) : Int) by omega]; exact atI_nat (by rw [List.getElem?_map, List.getElem?_eq_getElem hj1]; rfl)) ?_
        refine ⟨b, ws[j], ws[j + 1], rfl, mv1.bag, hwj.l1, hwn.l1, hwj.l20, hwn.l20, hwj.asc, hwn.asc, fun gp H2 mv2 hg gl hcase => ⟨_, rfl, line5 (by rw [len_append]; have := hwj.l20; omega), _, ⟨mv1.trans mv2, mv2.old _ _ npb hp1, ?_, fun ht => ?_⟩, rfl⟩⟩
        · rw [len_append, len_append]; have := hwj.l20; omega
        · obtain ⟨ts, pr⟩ := base ht
          refine ⟨_, gp.cps.toList, ts, _, cl_append _ _, pr, hg, fun h l => ?_, fun h => by omega⟩
          rcases hcase with ⟨e, hn⟩ | ⟨c, t, e, hc⟩
          · rw [e]; exact need_fol hwj.l1 (n33 ht) hn l hwn.l1
          · rw [e]; exact fol_gap hc
      · refine ⟨_, ⟨mv1, hp1, by rw [len_append]; have := hwj.l20; omega, fun ht => ?_⟩, rfl⟩
        obtain ⟨ts, pr⟩ := base ht
        exact ⟨_, [], ts, _, (List.append_nil _).symm, pr, Gp.nil, fun h l => by omega, fun h => rfl⟩
    · rintro σ H1 ⟨T, L1, y3, rfl⟩
      dsimp only
      walk_at "rd"
      obtain ⟨mv1, hp1, tl1, pre1⟩ := L1
      refine q _ _ mv1 tl1 fun ht => ?_
      obtain ⟨T', g, ts, w, e1, e2, e3, e4, e5⟩ := pre1 ht
      have hg := e5 (Nat.le_refl _)
      rw [e1, hg, List.append_nil]
      exact ⟨ts, w, e2⟩
/-! ### the faults -/
theorem flt_of_ch {z : Str} {a : Nat} {t : List Nat} (e : z.cps.toList = a :: t) (h : (!decide (a = 10) && (!decide (a = 32) && (!decide (a = 35) && (!wC a && (!decide (a = 34) && (!decide (a ∈ sgl.cps.toList) && !decide (a = 33))))))) = true) : Flt z.cps.toList := by
  simp only [Bool.and_eq_true, Bool.not_eq_true', decide_eq_false_iff_not] at h
  obtain ⟨h1, h2, h3, h4, h5, h6, h7⟩ := h
  rw [e]
  exact flt_char h1 h2 h3 h4 h5 h6 fun k => absurd k h7
theorem flt_of_w {z : Str} (h : (z.cps.toList.all wC && (decide (1 ≤ z.length) && (wtok z).isNone)) = true) : Flt z.cps.toList := by
  simp only [Bool.and_eq_true, decide_eq_true_eq, Option.isNone_iff_eq_none] at h
  exact flt_word h.1 (ne_nil_of h.2.1) (by rw [sL_of]; exact h.2.2)
theorem txtC_bad {a b : List Nat} (h : a.all prn = false) : txtC (a ++ b) = false := by
  unfold txtC
  rw [List.all_append, h, Bool.false_and, Bool.false_and]
theorem bodyT_app : ∀ (a b : List Nat), (∀ c ∈ a, ¬ c = 34) → bodyT (a ++ b) = a ++ bodyT b
  | [], _, _ => rfl
  | c :: a, b, h => by
    unfold bodyT
    rw [List.cons_append, List.takeWhile_cons_of_pos (by simpa using h c List.mem_cons_self), List.cons_append]
    congr 1
    exact bodyT_app a b fun d hd => h d (List.mem_cons_of_mem _ hd)
theorem flt_body {a t : List Nat} (h : a.all prn = false) (h34 : ∀ c ∈ a, ¬ c = 34) : Flt (34 :: (a ++ t)) := flt_quote fun r => by
  rw [List.append_assoc, bodyT_app a _ h34]; exact txtC_bad h
theorem flt_empty : Flt [34, 34] := flt_quote (t := [34]) fun r => by
  have : bodyT ([34] ++ r) = [] := bodyT_of (b := []) (by simp)
  rw [this]; rfl
theorem flt_long {a : List Nat} (h : 16 < a.length) (h34 : ∀ c ∈ a, ¬ c = 34) : Flt (34 :: (a ++ [34])) := flt_quote fun r => by
  have : bodyT (a ++ [34] ++ r) = a := by
    rw [List.append_assoc]; exact bodyT_of fun k => h34 34 k rfl
  rw [this]
  unfold txtC
  rw [decide_eq_false (by omega), Bool.false_and, Bool.and_false]
theorem flt_tabcom : Flt [35, 32, 97, 9, 98, 10] := by
  refine flt_com (t := [32, 97, 9, 98, 10]) (by decide +kernel) fun r => ?_
  rfl
theorem flt_bang : Flt [33] := flt_char (a := 33) (t := []) (by decide) (by decide) (by decide) (by decide) (by decide) (by decide +kernel) fun _ c l hc => by
  show ¬ c = 61
  omega
theorem flt_bang2 : Flt [33, 32, 61] := flt_char (a := 33) (t := [32, 61]) (by decide) (by decide) (by decide) (by decide) (by decide) (by decide +kernel) fun _ c l hc => by
  show ¬ (32 : Nat) = 61
  decide
theorem kw_short : (kwL.all fun y => match y with | .str s => decide (s.length ≤ 8) | _ => false) = true := by decide +kernel
theorem not_kw_long {z : Str} (h : 8 < z.length) : inV (.str z) kwL = false := by
  cases e : inV (.str z) kwL with
  | false => rfl
  | true =>
    exfalso
    obtain ⟨y, hy, ey⟩ := List.any_eq_true.mp e
    have hk := List.all_eq_true.mp kw_short y hy
    cases y with
    | str s =>
      have e1 : decide (s = z) = true := ey
      have e2 := of_decide_eq_true e1
      subst e2
      have := of_decide_eq_true hk
      omega
    | _ => cases hk
theorem flt_letters {z : Str} (h : ∀ c ∈ z.cps.toList, letC c = true) (hl : 21 ≤ z.length) : Flt z.cps.toList := by
  refine flt_word (all_wC_of h) (ne_nil_of (by omega)) ?_
  rw [sL_of]
  obtain ⟨c, t, ec⟩ : ∃ c t, z.cps.toList = c :: t := by
    cases e : z.cps.toList with
    | nil => exact absurd e (ne_nil_of (by omega))
    | cons c t => exact ⟨c, t, rfl⟩
  have hc := letC_range (h c (by rw [ec]; exact List.mem_cons_self))
  have hd : digC (z.cps.toList.headD 0) = false := by
    rw [ec]
    cases e : digC ((c :: t).headD 0) with
    | false => rfl
    | true => have := digC_range e; have : 48 ≤ c ∧ c ≤ 57 := this; omega
  have hn : nameC z.cps.toList = false := by
    unfold nameC
    rw [decide_eq_false (by rw [cl_length]; omega), Bool.false_and]
  unfold wtok
  rw [if_neg (by rw [hd]; simp), if_neg (by rw [not_kw_long (by omega)]; simp), if_neg (by rw [hn]; simp)]
theorem flt_num {n : Nat} (h : 32768 ≤ n) : Flt (Str.ofString (toString ((n : Nat) : Int))).cps.toList := by
  have hd := TL.numL_digits n
  have ht : ∃ c t, TL.numL n = c :: t := by
    cases e : TL.numL n with
    | nil => exact absurd e (TL.numL_ne _)
    | cons c t => exact ⟨c, t, rfl⟩
  obtain ⟨c, t, ec⟩ := ht
  have hw : (TL.numL n).all wC = true := List.all_eq_true.mpr fun c hc => by unfold wC; rw [digC_of (hd c hc), Bool.or_true]
  rw [num_cl]
  refine flt_word hw (TL.numL_ne n) ?_
  have hN : numC (TL.numL n) = false := by
    unfold numC
    rw [TL.numL_val, decide_eq_false (show ¬ n ≤ 32767 by omega), Bool.and_false, Bool.and_false, Bool.and_false]
  have e1 : (sL (TL.numL n)).cps.toList = TL.numL n := rfl
  unfold wtok
  rw [e1, if_pos (digC_of (hd _ (by rw [ec]; exact List.mem_cons_self))), if_neg (by rw [hN]; simp)]
def FL (v : V) : Prop := ∃ z : Str, v = .str z ∧ Flt z.cps.toList ∧ z.length ≤ 30
def sp_law_fault (K : PySem.W.Frag) : Sp := fun vs H Q _ => ∃ a, vs = [.ref a] ∧ Bag H a ∧ ∀ z H', Mv a H H' → Flt z.cps.toList → z.length ≤ 30 → Q (.str z) H'
theorem ok_law_fault (T : Txt K mg) : FnOk P w K mg base CX0 3 T.f_law_fault T.d_law_fault ["_law_bag_here"] (sp_law_fault K) := by
  refine T.k_law_fault.ok sc_law_fault (fun vs H Q E h => ?_) (fun cdv A outer s H vs Q E hr h => ?_)
  · obtain ⟨a, rfl, _⟩ := h
    rfl
  · obtain ⟨a, rfl, hB, q⟩ := h
    refine ⟨_, (pss_cons (ps_set (i := 1) sc_law_fault.nd rfl (.inl rfl) (pe_lst (pa_cons pe_str (pa_cons pe_str (pa_cons pe_str (pa_cons pe_str (pa_cons pe_str (pa_cons pe_str (pa_cons pe_str (pa_cons pe_str (pa_cons pe_str (pa_cons pe_str (pa_cons pe_str (pa_cons pe_str (pa_cons pe_str (pa_cons pe_str (pa_cons pe_str (pa_cons pe_str (pa_cons pe_str (pa_cons pe_str (pa_cons pe_str pa_nil)))))))))))))))))))))
      (pss_cons (ps_set (i := 1) sc_law_fault.nd rfl (.inl rfl) (pe_op op_cat (pv 1) (pe_lst (pa_cons pe_str (pa_cons pe_str (pa_cons pe_str (pa_cons (pe_op op_mul_str pe_str pe_int) (pa_cons (pe_op op_mul_str pe_str pe_int) (pa_cons pe_str (pa_cons (pe_op op_add_str (pe_op op_add_str pe_str (pe_op op_mul_str pe_str pe_int)) pe_str) (pa_cons pe_str (pa_cons pe_str (pa_cons pe_str (pa_cons pe_str pa_nil))))))))))))))
      (pss_cons (ps_set (i := 1) sc_law_fault.nd rfl (.inl rfl) (pe_op op_cat (pv 1) (pe_lst (pa_cons (pe_call (ok_law_letters T) (hr.mono (by decide)) (by rfl) T.g_law_letters T.k_law_letters.kp T.b_law_letters .nil pass0 (pa_cons (pv 0) (pa_cons (pe_op op_add pe_int (pe_call (ok_law_draw T) (hr.mono (by decide)) (by rfl) T.g_law_draw T.k_law_draw.kp T.b_law_draw .nil pass0 (pa_cons (pv 0) (pa_cons pe_int pa_nil)))) pa_nil))) (pa_cons (pe_callTy call_str_int (by rfl) T.m_str (by decide +kernel) (pa_cons (pe_op op_add pe_int (pe_call (ok_law_draw T) (hr.mono (by decide)) (by rfl) T.g_law_draw T.k_law_draw.kp T.b_law_draw .nil pass0 (pa_cons (pv 0) (pa_cons (pe_op op_pow pe_int pe_int) pa_nil)))) pa_nil)) pa_nil)))))
      (pss_one (ps_ret (pe_ix (ix_listK K) (pv 1) (pe_call (ok_law_draw T) (hr.mono (by decide)) (by rfl) T.g_law_draw T.k_law_draw.kp T.b_law_draw .nil pass0 (pa_cons (pv 0) (pa_cons (pe_callB (lenLK K) (by rfl) T.m_len (by decide +kernel) (pa_cons (pv 1) pa_nil)) pa_nil))) (fun _ _ => rfl))))))), ?_⟩
    walk_at "rd"
    refine rdSeq ?_
    walk_at "rd"
    intro p1 hp1
    have hF1 : ∀ v ∈ [V.str (Str.ofString "!"), V.str (Str.ofString "! ="), V.str (Str.ofString "$"), V.str (Str.ofString "\x40"), V.str (Str.ofString "'"), V.str (Str.ofString "\\"), V.str (Str.ofString "~"), V.str (Str.ofString "?"), V.str (Str.ofString ":"), V.str (Str.ofString "`"), V.str (Str.ofString "\t"), V.str (Str.ofString "_"), V.str (Str.ofString "_a"), V.str (Str.ofString "00"), V.str (Str.ofString "007"), V.str (Str.ofString "01"), V.str (Str.ofString "32768"), V.str (Str.ofString "99999"), V.str (Str.ofString "100000")], FL v := by
      intro v hv
      simp only [List.mem_cons, List.not_mem_nil, or_false] at hv
      rcases hv with rfl | rfl | rfl | rfl | rfl | rfl | rfl | rfl | rfl | rfl | rfl | rfl | rfl | rfl | rfl | rfl | rfl | rfl | rfl
      · exact ⟨_, rfl, flt_bang, by decide +kernel⟩
      · exact ⟨_, rfl, flt_bang2, by decide +kernel⟩
      iterate 11 exact ⟨_, rfl, flt_of_ch rfl (by decide +kernel), by decide +kernel⟩
      iterate 6 exact ⟨_, rfl, flt_of_w (by decide +kernel), by decide +kernel⟩
    have mv1 := (Mv.refl hB).new (o := .lst [V.str (Str.ofString "!"), V.str (Str.ofString "! ="), V.str (Str.ofString "$"), V.str (Str.ofString "\x40"), V.str (Str.ofString "'"), V.str (Str.ofString "\\"), V.str (Str.ofString "~"), V.str (Str.ofString "?"), V.str (Str.ofString ":"), V.str (Str.ofString "`"), V.str (Str.ofString "\t"), V.str (Str.ofString "_"), V.str (Str.ofString "_a"), V.str (Str.ofString "00"), V.str (Str.ofString "007"), V.str (Str.ofString "01"), V.str (Str.ofString "32768"), V.str (Str.ofString "99999"), V.str (Str.ofString "100000")]) hp1
    have np1 : p1 ≠ a := bag_ne hB hp1
    have w1 : upd H p1 (.lst [V.str (Str.ofString "!"), V.str (Str.ofString "! ="), V.str (Str.ofString "$"), V.str (Str.ofString "\x40"), V.str (Str.ofString "'"), V.str (Str.ofString "\\"), V.str (Str.ofString "~"), V.str (Str.ofString "?"), V.str (Str.ofString ":"), V.str (Str.ofString "`"), V.str (Str.ofString "\t"), V.str (Str.ofString "_"), V.str (Str.ofString "_a"), V.str (Str.ofString "00"), V.str (Str.ofString "007"), V.str (Str.ofString "01"), V.str (Str.ofString "32768"), V.str (Str.ofString "99999"), V.str (Str.ofString "100000")]) p1 = some (.lst [V.str (Str.ofString "!"), V.str (Str.ofString "! ="), V.str (Str.ofString "$"), V.str (Str.ofString "\x40"), V.str (Str.ofString "'"), V.str (Str.ofString "\\"), V.str (Str.ofString "~"), V.str (Str.ofString "?"), V.str (Str.ofString ":"), V.str (Str.ofString "`"), V.str (Str.ofString "\t"), V.str (Str.ofString "_"), V.str (Str.ofString "_a"), V.str (Str.ofString "00"), V.str (Str.ofString "007"), V.str (Str.ofString "01"), V.str (Str.ofString "32768"), V.str (Str.ofString "99999"), V.str (Str.ofString "100000")]) := upd_same
    generalize upd H p1 (.lst [V.str (Str.ofString "!"), V.str (Str.ofString "! ="), V.str (Str.ofString "$"), V.str (Str.ofString "\x40"), V.str (Str.ofString "'"), V.str (Str.ofString "\\"), V.str (Str.ofString "~"), V.str (Str.ofString "?"), V.str (Str.ofString ":"), V.str (Str.ofString "`"), V.str (Str.ofString "\t"), V.str (Str.ofString "_"), V.str (Str.ofString "_a"), V.str (Str.ofString "00"), V.str (Str.ofString "007"), V.str (Str.ofString "01"), V.str (Str.ofString "32768"), V.str (Str.ofString "99999"), V.str (Str.ofString "100000")]) = H1 at mv1 w1
    generalize hX1 : [V.str (Str.ofString "!"), V.str (Str.ofString "! ="), V.str (Str.ofString "$"), V.str (Str.ofString "\x40"), V.str (Str.ofString "'"), V.str (Str.ofString "\\"), V.str (Str.ofString "~"), V.str (Str.ofString "?"), V.str (Str.ofString ":"), V.str (Str.ofString "`"), V.str (Str.ofString "\t"), V.str (Str.ofString "_"), V.str (Str.ofString "_a"), V.str (Str.ofString "00"), V.str (Str.ofString "007"), V.str (Str.ofString "01"), V.str (Str.ofString "32768"), V.str (Str.ofString "99999"), V.str (Str.ofString "100000")] = X1 at w1 hF1
    have lX1 : X1.length = 19 := by rw [← hX1]; rfl
    refine rdSeq ?_
    walk_at "rd"
    have eA : Txt.mul (Str.ofString "a") 21 = Str.ofString "aaaaaaaaaaaaaaaaaaaaa" := by decide +kernel
    have eB : Txt.mul (Str.ofString "a1") 11 = Str.ofString "a1a1a1a1a1a1a1a1a1a1a1" := by decide +kernel
    have eC : Txt.mul (Str.ofString "b") 17 = Str.ofString "bbbbbbbbbbbbbbbbb" := by decide +kernel
    refine ⟨_, _, rfl, rfl, mul_ok (by decide +kernel) (by decide) (by decide), _, _, rfl, rfl, mul_ok (by decide +kernel) (by decide) (by decide), _, _, rfl, rfl, mul_ok (by decide +kernel) (by decide) (by decide), ?_⟩
    rw [eA, eB, eC]
    refine ⟨_, rfl, by decide +kernel, by decide +kernel, fun p2 hp2 => ?_⟩
    have hF2 : ∀ v ∈ [V.str (Str.ofString "3x"), V.str (Str.ofString "0x"), V.str (Str.ofString "12a3"), V.str (Str.ofString "aaaaaaaaaaaaaaaaaaaaa"), V.str (Str.ofString "a1a1a1a1a1a1a1a1a1a1a1"), V.str (Str.ofString "\"\""), V.str (Str.ofString "\"" ++ Str.ofString "bbbbbbbbbbbbbbbbb" ++ Str.ofString "\""), V.str (Str.ofString "\"ab\n"), V.str (Str.ofString "\"a\tb\""), V.str (Str.ofString "# a\tb\n"), V.str (Str.ofString "\"\n")], FL v := by
      intro v hv
      simp only [List.mem_cons, List.not_mem_nil, or_false] at hv
      rcases hv with rfl | rfl | rfl | rfl | rfl | rfl | rfl | rfl | rfl | rfl | rfl
      iterate 5 exact ⟨_, rfl, flt_of_w (by decide +kernel), by decide +kernel⟩
      · exact ⟨_, rfl, flt_empty, by decide +kernel⟩
      · refine ⟨_, rfl, ?_, by decide +kernel⟩
        have e : (Str.ofString "\"" ++ Str.ofString "bbbbbbbbbbbbbbbbb" ++ Str.ofString "\"").cps.toList = 34 :: ((Str.ofString "bbbbbbbbbbbbbbbbb").cps.toList ++ [34]) := by rw [cl_append, cl_append]; rfl
        rw [e]
        exact flt_long (by decide +kernel) (by decide +kernel)
      · exact ⟨_, rfl, flt_body (a := [97, 98, 10]) (t := []) (by decide +kernel) (by decide), by decide +kernel⟩
      · exact ⟨_, rfl, flt_body (a := [97, 9, 98]) (t := [34]) (by decide +kernel) (by decide), by decide +kernel⟩
      · exact ⟨_, rfl, flt_tabcom, by decide +kernel⟩
      · exact ⟨_, rfl, flt_body (a := [10]) (t := []) (by decide +kernel) (by decide), by decide +kernel⟩
    generalize hX2 : [V.str (Str.ofString "3x"), V.str (Str.ofString "0x"), V.str (Str.ofString "12a3"), V.str (Str.ofString "aaaaaaaaaaaaaaaaaaaaa"), V.str (Str.ofString "a1a1a1a1a1a1a1a1a1a1a1"), V.str (Str.ofString "\"\""), V.str (Str.ofString "\"" ++ Str.ofString "bbbbbbbbbbbbbbbbb" ++ Str.ofString "\""), V.str (Str.ofString "\"ab\n"), V.str (Str.ofString "\"a\tb\""), V.str (Str.ofString "# a\tb\n"), V.str (Str.ofString "\"\n")] = X2 at hF2
    have lX2 : X2.length = 11 := by rw [← hX2]; rfl
    refine i_cat (same_new hp2 _ _ w1) upd_same (line5 (by omega)) fun p3 hp3 => ?_
    have mv3 := (mv1.new (o := .lst X2) hp2).new (o := .lst (X1 ++ X2)) hp3
    have w3 : upd (upd H1 p2 (.lst X2)) p3 (.lst (X1 ++ X2)) p3 = some (.lst (X1 ++ X2)) := upd_same
    have np3 : p3 ≠ a := (mv1.new (o := .lst X2) hp2).ne hp3
    generalize upd (upd H1 p2 (.lst X2)) p3 (.lst (X1 ++ X2)) = H3 at mv3 w3
    have hF3 : ∀ v ∈ X1 ++ X2, FL v := fun v hv => (List.mem_append.mp hv).elim (hF1 v) (hF2 v)
    have lX3 : (X1 ++ X2).length = 30 := by rw [List.length_append, lX1, lX2]
    generalize X1 ++ X2 = X3 at w3 hF3 lX3
    refine rdSeq ?_
    walk_at "rd"
    refine i_draw (Mv.refl mv3.bag) (by decide) (by decide) fun r4 H4 r0 r1 _ mv4 => ?_
    obtain ⟨n, en, hn⟩ : ∃ n : Nat, 21 + r4 = (n : Int) ∧ 21 ≤ n ∧ n ≤ 29 := ⟨(21 + r4).toNat, by omega, by omega, by omega⟩
    refine ⟨r4, rfl, ?_⟩
    rw [en]
    have e9 : (10 : Int) ^ Int.toNat 9 = 1000000000 := by decide
    refine ⟨a, n, rfl, mv4.bag, by omega, fun z H5 mv5 l5 hz5 => ⟨⟨by decide, by decide, by decide⟩, ?_⟩⟩
    rw [e9]
    refine i_draw (mv4.trans mv5) (by decide) (by decide) fun r6 H6 g0 g1 _ mv6 => ?_
    obtain ⟨m, em, hm, hm2⟩ : ∃ m : Nat, 32768 + r6 = (m : Int) ∧ 32768 ≤ m ∧ m < 10 ^ 10 := ⟨(32768 + r6).toNat, by omega, by omega, by omega⟩
    refine ⟨r6, rfl, ?_⟩
    rw [em]
    refine ⟨log_small (by omega), fun p4 hp4 => ?_⟩
    have hn10 : (Str.ofString (toString (m : Int))).length ≤ 10 := by rw [← cl_length, num_cl]; exact TL.numL_len (by decide) hm2
    have hF4 : ∀ v ∈ X3 ++ [V.str z, V.str (Str.ofString (toString (m : Int)))], FL v := fun v hv => by
      rcases List.mem_append.mp hv with hv | hv
      · exact hF3 v hv
      · simp only [List.mem_cons, List.not_mem_nil, or_false] at hv
        rcases hv with rfl | rfl
        · exact ⟨_, rfl, flt_letters hz5 (by omega), by omega⟩
        · exact ⟨_, rfl, flt_num hm, by omega⟩
    have w4 := same_new (o := .lst [V.str z, V.str (Str.ofString (toString (m : Int)))]) hp4 _ _ (mv6.old _ _ np3 w3)
    refine i_cat w4 upd_same (line5 (by rw [lX3]; show 30 + 2 ≤ 100000; decide)) fun p5 hp5 => ?_
    have mv7 := ((mv3.trans mv6).new (o := .lst [V.str z, V.str (Str.ofString (toString (m : Int)))]) hp4).new (o := .lst (X3 ++ [V.str z, V.str (Str.ofString (toString (m : Int)))])) hp5
    have np5 := ((mv3.trans mv6).new (o := .lst [V.str z, V.str (Str.ofString (toString (m : Int)))]) hp4).ne hp5
    refine i_lenL (sqL_of upd_same) ?_
    rw [List.length_append, lX3, show ((30 + [V.str z, V.str (Str.ofString (toString (m : Int)))].length : Nat) : Int) = 32 from rfl]
    refine i_draw mv7 (by decide) (by decide) fun r8 H8 k0 k1 mvd mv8 => ?_
    obtain ⟨o, ev, ho⟩ := at_of (xs := X3 ++ [V.str z, V.str (Str.ofString (toString (m : Int)))]) k0 (by rw [List.length_append, lX3]; exact k1)
    refine i_ixL (sqL_of (mvd.old p5 _ np5 upd_same)) ev ?_
    obtain ⟨w, rfl, f1, f2⟩ := hF4 o ho
    exact q _ _ mv8 f1 f2
structure TW (w : Str) : Prop where
  w1 : W1 w
  tk : TokW w
  q : ∃ c, c ∈ w.cps.toList ∧ ¬ c = 34
theorem tw_of {k : Str} {v : V} {w : Str} (h1 : TokOk w.cps.toList k v) (h2 : w.length ≤ 20) (h3 : strOkL w.cps.toList) (h4 : ∃ c, c ∈ w.cps.toList ∧ ¬ c = 34) : TW w := by
  refine ⟨⟨?_, h2, h3⟩, ⟨k, v, h1⟩, h4⟩
  have := h1.ne
  cases e : w.length with
  | zero => exact absurd (List.length_eq_zero_iff.mp (by rw [cl_length]; exact e)) this
  | succ n => omega
theorem w1_unquote {w : Str} (h : TW w) : W1 (Txt.replace w (Str.ofString "\"") (Str.ofString "")) := by
  have e := unquote w
  have hl : (Txt.replace w (Str.ofString "\"") (Str.ofString "")).length = (w.cps.toList.filter fun c => !decide (c = 34)).length := by rw [← cl_length, e]
  obtain ⟨c, hc, h34⟩ := h.q
  have hm : c ∈ w.cps.toList.filter fun c => !decide (c = 34) := List.mem_filter.mpr ⟨hc, by simpa using h34⟩
  have h1 := List.length_pos_of_mem hm
  have h2 := List.length_filter_le (fun c => !decide (c = 34)) w.cps.toList
  rw [cl_length] at h2
  exact ⟨by omega, by have := h.w1.l20; omega, fun d hd => by rw [e] at hd; exact h.w1.asc d (List.mem_filter.mp hd).1⟩
inductive MidF (H2 : Hp) (b : Addr) (TF : Str) (g : Str → L2.St) (σ : L2.St) (H : Hp) : Prop
  | mk (X0 : Str) (mv : Mv b H2 H) (hx : X0.cps.toList = [] ∨ ∃ c t, X0.cps.toList = c :: t ∧ (c = 32 ∨ c = 10)) (l : X0.length ≤ 31) (es : σ = g (TF ++ X0))
theorem app_assoc (a b c : Str) : a ++ b ++ c = a ++ (b ++ c) := cl_ext (by rw [cl_append, cl_append, cl_append, cl_append, List.append_assoc])
theorem run_bang (ln : Nat) : Run [33] ln [] (some ln) := .tokE (by decide) (by decide) (by decide) (Option.isNone_iff_eq_none.mp (by decide +kernel))
theorem bang_run (n : Nat) : Run (List.replicate n 10 ++ [33]) 1 [] (some (1 + n)) := by
  refine Gp.nls n [33] 1 [] _ ?_
  rw [List.count_replicate_self]
  exact run_bang _
theorem run_x2 : ∃ ts, Run (Str.ofString "x\n\"ab").cps.toList 1 ts (some 2) := by
  have hN : NmT (sL [120]) := nmT_of (by decide +kernel) (by decide +kernel) (by decide +kernel) (by decide +kernel) (by decide +kernel)
  have ht := tok_word (w := [120]) hN.wc (by simp) hN.tk
  have h1 := ht.tk [10, 34, 97, 98] (fol_gap (l := [34, 97, 98]) (.inr (.inl rfl)))
  exact ⟨_, .tok (c := 120) (t := [10, 34, 97, 98]) (by decide) (by decide) (by decide) h1 (.nl (.tokE (c := 34) (t := [97, 98]) (by decide) (by decide) (by decide) (Option.isNone_iff_eq_none.mp (by decide +kernel))))⟩
theorem run_q : Run (Str.ofString "\"").cps.toList 1 [] (some 1) := .tokE (c := 34) (t := []) (by decide) (by decide) (by decide) (Option.isNone_iff_eq_none.mp (by decide +kernel))
theorem run_c3 : Run (Str.ofString "\n\n# a\tb").cps.toList 1 [] (some 3) := .nl (t := [10, 35, 32, 97, 9, 98]) (.nl (t := [35, 32, 97, 9, 98]) (.comE (t := [32, 97, 9, 98]) (by decide +kernel)))
def sp_law (K : PySem.W.Frag) : Sp := fun vs H Q _ => ∃ (a : Addr) (ns : List Int), vs = [.ref a] ∧ SqL K H a (ns.map V.int) ∧ ns.length ≤ 63 ∧ ∀ H', Q (.bl true) H'
theorem ok_law (T : Txt K mg) : FnOk P w K mg base CX0 107 T.f_law T.d_law ["_law_script"] (sp_law K) := by
  refine T.k_law.ok sc_law (fun vs H Q E h => ?_) (fun cdv A outer s H vs Q E hr h => ?_)
  · obtain ⟨a, ns, rfl, _⟩ := h
    rfl
  · obtain ⟨sa, ns, rfl, hS, hl, q⟩ := h
    -- 0:_law_script 1:_law_k 2:_law_bag_here 3:_law_words 4:_law_text_here 5:_law_line_here 6:_law_value 7:_law_j
    refine ⟨_, (pss_cons (ps_for PassesOwn.never rfl (pi_range1 (by rfl) T.m_range (pa_cons (pe_callB (call_max2 rfl) (by rfl) T.m_max (by decide +kernel) (pa_cons pe_int (pa_cons (pe_callB (call_min2 rfl) (by rfl) T.m_min (by decide +kernel) (pa_cons pe_int (pa_cons (pe_callB (lenLK K) (by rfl) T.m_len (by decide +kernel) (pa_cons (pv 0) pa_nil)) pa_nil))) pa_nil))) pa_nil)) (pg_name (i := 1) sc_law.nd rfl (Or.inl rfl)) (pss_cons (ps_set (i := 2) sc_law.nd rfl (.inr rfl) (pe_call (ok_law_bag T) (hr.mono (by decide)) (by rfl) T.g_law_bag T.k_law_bag.kp T.b_law_bag .nil pass0 (pa_cons (pv 0) (pa_cons (pv 1) pa_nil))))
      (pss_cons (ps_setLc (i := 3) (own := [("_law_j", 7)]) (g := gName 7) (tt := tYes) rfl sc_law.nd rfl rfl (sw_true rfl rfl rfl (by decide +kernel)) (pi_range1 (by rfl) T.m_range (pa_cons (pe_call (ok_law_draw T) (hr.mono (by decide)) (by rfl) T.g_law_draw T.k_law_draw.kp T.b_law_draw .nil pass0 (pa_cons (pv 2) (pa_cons pe_int pa_nil))) pa_nil)) (blkOk_by (own := [("_law_j", 7)]) (N := ["_law_script", "_law_k", "_law_bag_here", "_law_words", "_law_text_here", "_law_line_here", "_law_value", "_law_j"]) (sc := defScope s_law) (by decide +kernel)) (fun _ _ _ _ _ => pg_name (i := 7) sc_law.nd rfl (Or.inl rfl)) (fun _ _ _ _ _ => pts_nil) (fun _ _ _ _ _ => (pe_ix (ix_tupK K) (pe_call (ok_law_token T) (hr.mono (by decide)) (by rfl) T.g_law_token T.k_law_token.kp T.b_law_token .nil pass0 (pa_cons (pv 2) pa_nil)) pe_int (fun _ _ => rfl))))
      (pss_cons (ps_set (i := 4) sc_law.nd rfl (.inl rfl) (pe_op op_add_str (pe_call (ok_law_laid T) (hr.mono (by decide)) (by rfl) T.g_law_laid T.k_law_laid.kp T.b_law_laid .nil pass0 (pa_cons (pv 2) (pa_cons (pv 3) pa_nil))) (pe_ix (ix_listK K) (pe_lst (pa_cons pe_str (pa_cons pe_str (pa_cons pe_str pa_nil)))) (pe_call (ok_law_draw T) (hr.mono (by decide)) (by rfl) T.g_law_draw T.k_law_draw.kp T.b_law_draw .nil pass0 (pa_cons (pv 2) (pa_cons pe_int pa_nil))) (fun _ _ => rfl))))
      (pss_cons (ps_set (i := 5) sc_law.nd rfl (.inl rfl) (pe_op op_add pe_int (pe_bmK K PySem.F.plainAttrs_str PySem.F.slot_str_count PySem.F.type_str_count mt_count (pv 4) (pa_cons pe_str pa_nil))))
      (pss_cons (ps_set (i := 4) sc_law.nd rfl (.inl rfl) (pe_op op_add_str (pv 4) (pe_call (ok_law_fault T) (hr.mono (by decide)) (by rfl) T.g_law_fault T.k_law_fault.kp T.b_law_fault .nil pass0 (pa_cons (pv 2) pa_nil))))
      (C8.pss_cut (ps_if (pt_cmpR op_eq (pe_call (ok_law_draw T) (hr.mono (by decide)) (by rfl) T.g_law_draw T.k_law_draw.kp T.b_law_draw .nil pass0 (pa_cons (pv 2) (pa_cons pe_int pa_nil))) pe_int (nomark _)) (pss_one (ps_set (i := 4) sc_law.nd rfl (.inl rfl) (pe_op op_add_str (pe_op op_add_str (pv 4) (pe_ix (ix_listK K) (pe_lst (pa_cons pe_str (pa_cons pe_str pa_nil))) (pe_call (ok_law_draw T) (hr.mono (by decide)) (by rfl) T.g_law_draw T.k_law_draw.kp T.b_law_draw .nil pass0 (pa_cons (pv 2) (pa_cons pe_int pa_nil))) (fun _ _ => rfl))) (pe_call (ok_law_fault T) (hr.mono (by decide)) (by rfl) T.g_law_fault T.k_law_fault.kp T.b_law_fault .nil pass0 (pa_cons (pv 2) pa_nil))))) pss_nil)
      (pss_cons (ps_set (i := 4) sc_law.nd rfl (.inl rfl) (pe_op op_add_str (pe_op op_add_str (pv 4) pe_str) (pe_call (ok_law_laid T) (hr.mono (by decide)) (by rfl) T.g_law_laid T.k_law_laid.kp T.b_law_laid .nil pass0 (pa_cons (pv 2) (pa_cons (pe_op op_cat (pe_lc (own := [("_law_j", 7)]) (g := gName 7) (tt := tYes) rfl sc_law.nd (pi_range1 (by rfl) T.m_range (pa_cons (pe_call (ok_law_draw T) (hr.mono (by decide)) (by rfl) T.g_law_draw T.k_law_draw.kp T.b_law_draw .nil pass0 (pa_cons (pv 2) (pa_cons pe_int pa_nil))) pa_nil)) (blkOk_by (own := [("_law_j", 7)]) (N := ["_law_script", "_law_k", "_law_bag_here", "_law_words", "_law_text_here", "_law_line_here", "_law_value", "_law_j"]) (sc := defScope s_law) (by decide +kernel)) (fun _ _ _ _ _ => pg_name (i := 7) sc_law.nd rfl (Or.inl rfl)) (fun _ _ _ _ _ => pts_nil) (fun _ _ _ _ _ => (pe_replIx K (pe_call (ok_law_token T) (hr.mono (by decide)) (by rfl) T.g_law_token T.k_law_token.kp T.b_law_token .nil pass0 (pa_cons (pv 2) pa_nil))))) (pe_lst (pa_cons pe_str pa_nil))) pa_nil)))))
      (pss_one (ps_if (PW.pt (pw_or (pt_cmpR op_ne (pe_call (ok_law_line T) (hr.mono (by decide)) (by rfl) T.g_law_line T.k_law_line.kp T.b_law_line .nil pass0 (pa_cons (pv 4) pa_nil)) (pv 5) (nomark _)) (pw_or1 (pt_cmpR op_ne (pe_call (ok_law_parsed T) (hr.mono (by decide)) (by rfl) T.g_law_parsed T.k_law_parsed.kp T.b_law_parsed .nil pass0 (pa_cons (pv 4) pa_nil)) (pv 5) (nomark _))))) (pss_one (ps_ret pe_bl)) pss_nil))))))))))
      (pss_cons (ps_for PassesOwn.never rfl (pi_list (pe_lst (pa_cons pe_non (pa_cons pe_int (pa_cons pe_bl (pa_cons (pe_tup (pa_cons pe_str pa_nil)) (pa_cons (pe_lst (pa_cons pe_str pa_nil)) (pa_cons (pe_op op_mul_str pe_str pe_int) (pa_cons (pe_op op_add_str (pe_op op_mul_str pe_str pe_int) pe_str) (pa_cons (pe_op op_mul_str pe_str pe_int) pa_nil)))))))))) (pg_name (i := 6) sc_law.nd rfl (Or.inl rfl)) (pss_one (ps_if (PW.pt (pw_or (pt_cmpR op_ne (pe_call (ok_law_line T) (hr.mono (by decide)) (by rfl) T.g_law_line T.k_law_line.kp T.b_law_line .nil pass0 (pa_cons (pv 6) pa_nil)) pe_int (nomark _)) (pw_or1 (pt_cmpR op_ne (pe_call (ok_law_parsed T) (hr.mono (by decide)) (by rfl) T.g_law_parsed T.k_law_parsed.kp T.b_law_parsed .nil pass0 (pa_cons (pv 6) pa_nil)) pe_int (nomark _))))) (pss_one (ps_ret pe_bl)) pss_nil)))
      (pss_cons (ps_if (PW.pt (pw_or (pt_cmpR op_ne (pe_call (ok_law_line T) (hr.mono (by decide)) (by rfl) T.g_law_line T.k_law_line.kp T.b_law_line .nil pass0 (pa_cons (pe_op op_add_str (pe_op op_mul_str pe_str pe_int) pe_str) pa_nil)) pe_int (nomark _)) (pw_or1 (pt_cmpR op_ne (pe_call (ok_law_line T) (hr.mono (by decide)) (by rfl) T.g_law_line T.k_law_line.kp T.b_law_line .nil pass0 (pa_cons (pe_op op_add_str (pe_op op_mul_str pe_str pe_int) pe_str) pa_nil)) pe_int (nomark _))))) (pss_one (ps_ret pe_bl)) pss_nil)
      (pss_one (ps_ret (pe_and (pe_cmpR op_eq (pe_call (ok_law_line T) (hr.mono (by decide)) (by rfl) T.g_law_line T.k_law_line.kp T.b_law_line .nil pass0 (pa_cons pe_str pa_nil)) pe_int (nomark _)) (pe_and (pe_cmpR op_eq (pe_call (ok_law_line T) (hr.mono (by decide)) (by rfl) T.g_law_line T.k_law_line.kp T.b_law_line .nil pass0 (pa_cons pe_str pa_nil)) pe_int (nomark _)) (pe_one (pe_cmpR op_eq (pe_call (ok_law_line T) (hr.mono (by decide)) (by rfl) T.g_law_line T.k_law_line.kp T.b_law_line .nil pass0 (pa_cons pe_str pa_nil)) pe_int (nomark _)))))))))), ?_⟩
    walk_at "rd"
    refine rdSeq ?_
    walk_at "rd"
    refine i_lenL hS ?_
    rw [List.length_map]
    refine ⟨_, rfl, ?_⟩
    obtain ⟨N, eN, hN⟩ : ∃ N : Nat, (if (if (ns.length : Int) < 12 then (ns.length : Int) else 12) > 1 then (if (ns.length : Int) < 12 then (ns.length : Int) else 12) else 1) = (N : Int) ∧ N ≤ 12 := by
      refine ⟨(if (if (ns.length : Int) < 12 then (ns.length : Int) else 12) > 1 then (if (ns.length : Int) < 12 then (ns.length : Int) else 12) else 1).toNat, ?_, ?_⟩ <;> (split <;> split <;> omega)
    rw [eN]
    refine ⟨by omega, by omega, i_for walk_range (fun i σ H' => Same H H' ∧ ∃ y1 y2 y3 y4 y5 y6 y7, σ = [some (.ref sa), y1, y2, y3, y4, y5, y6, y7]) ⟨Same.refl H, _, _, _, _, _, _, _, rfl⟩ (fun _ _ _ _ _ => trivial) ?_ ?_⟩
    · rintro i _ σ _ H1 hi ⟨s1, y1, y2, y3, y4, y5, y6, y7, rfl⟩ ⟨rfl, rfl⟩
      refine rdSeq ?_
      walk_at "rd"
      refine ⟨sa, ns, i, by rw [Int.zero_add], s1.seq hS, fun b H2 hb hB s2 => ?_⟩
      refine rdSeq ?_
      walk_at "rd"
      refine i_draw (Mv.refl hB) (by decide) (by decide) fun r H3 r0 r1 _ mv3 => ?_
      obtain ⟨n, rfl⟩ := Int.eq_ofNat_of_zero_le r0
      have hn : n ≤ 12 := by omega
      refine ⟨_, rfl, by omega, by omega, ?_⟩
      refine i_lcD walk_range mv3.bag (fun y => ∃ w, y = .str w ∧ TW w) (by rw [sizeLine_eq]; omega) (fun _ _ => trivial) (fun i H x H' y => y.1) (fun j x H4 Q' hj y mv q' => ?_) (fun D H4 ys hD mv4 eD hl2 hP => ?_)
      · obtain ⟨_, rfl⟩ := y
        walk_at "rd"
        refine ⟨b, rfl, mv.bag, fun p H5 k v w mv5 hpn hp htk hvo l20 asc hq => ?_⟩
        exact i_ixT (sqT_of hp) rfl (q' _ _ ⟨w, rfl, tw_of htk l20 asc hq⟩ mv5)
      obtain ⟨ws, rfl, hws⟩ := strs_of hP
      have nD : D ≠ b := bag_ne mv3.bag hD
      rw [List.length_map] at hl2
      have hl3 : ws.length = n := by rw [hl2]; rfl
      have mv4 := mv3.trans mv4
      refine rdSeq ?_
      walk_at "rd"
      refine ⟨b, D, ws, rfl, mv4.bag, nD, eD, by omega, fun w hw => (hws w hw).w1, fun z H5 mv5 lz pre => ?_⟩
      have mv5 := mv4.trans mv5
      obtain ⟨ts, wl, pre⟩ := pre fun w hw => (hws w hw).tk
      intro p6 hp6
      refine i_draw (mv5.new hp6) (by decide) (by decide) fun r7 H7 g0 g1 mvd mv7 => ?_
      obtain ⟨o, ev, ho⟩ := at_of (xs := [V.str (Str.ofString " "), V.str (Str.ofString "\n"), V.str (Str.ofString " \n\n")]) g0 g1
      refine i_ixL (sqL_of (mvd.old p6 _ (mv5.ne hp6) upd_same)) ev ?_
      obtain ⟨sp, rfl, hsp, hsl, c0, t0, e0, hc0⟩ : ∃ sp : Str, o = .str sp ∧ Gp sp.cps.toList ∧ sp.length ≤ 3 ∧ ∃ c t, sp.cps.toList = c :: t ∧ (c = 32 ∨ c = 10 ∨ c = 35) := by
        simp only [List.mem_cons, List.not_mem_nil, or_false] at ho
        rcases ho with rfl | rfl | rfl
        · exact ⟨_, rfl, Gp.sp, by decide +kernel, 32, [], rfl, .inl rfl⟩
        · exact ⟨_, rfl, Gp.nl, by decide +kernel, 10, [], rfl, .inr (.inl rfl)⟩
        · exact ⟨_, rfl, Gp.append (a := [32]) Gp.sp (Gp.append (a := [10]) Gp.nl Gp.nl), by decide +kernel, 32, [10, 10], rfl, .inl rfl⟩
      refine ⟨_, rfl, _, rfl, line5 (by omega), ?_⟩
      refine rdSeq ?_
      walk_at "rd"
      refine ⟨rfl, ?_⟩
      have ec : (1 : Int) + Txt.count (z ++ sp) (Str.ofString "\n") = ((1 + (z ++ sp).cps.toList.count 10 : Nat) : Int) := by
        rw [show Txt.count (z ++ sp) (Str.ofString "\n") = (((z ++ sp).cps.toList.count 10 : Nat) : Int) from count_chr _ 10]
        omega
      rw [ec]
      have base : ∀ (F : Str) (c : Nat) (t : List Nat), Flt F.cps.toList → (c = 32 ∨ c = 10) → Run ((z ++ sp ++ F).cps.toList ++ c :: t) 1 ts (some (1 + (z ++ sp).cps.toList.count 10)) := fun F c t hF hc => by
        have r1 := hF c t (1 + z.cps.toList.count 10 + sp.cps.toList.count 10) hc
        have r2 := hsp _ _ _ _ r1
        have r3 := pre (sp.cps.toList ++ (F.cps.toList ++ c :: t)) [] (by rw [e0]; exact fol_gap hc0) r2
        rw [List.append_nil] at r3
        rw [cl_append, cl_append, List.append_assoc, List.append_assoc]
        rw [List.count_append, ← Nat.add_assoc]
        exact r3
      generalize 1 + (z ++ sp).cps.toList.count 10 = line at base
      refine rdSeq ?_
      walk_at "rd"
      refine ⟨b, rfl, mv7.bag, fun F H8 mv8 hF lF => ⟨_, rfl, line5 (by rw [len_append]; omega), ?_⟩⟩
      have base := fun c t => base F c t hF
      have lTF : (z ++ sp ++ F).length ≤ 600 := by rw [len_append, len_append]; omega
      generalize z ++ sp ++ F = TF at base lTF
      have mv8 := mv7.trans mv8
      refine rdCut (MidF H2 b TF (fun T' => [some (.ref sa), some (.int (0 + (i : Int))), some (.ref b), some (.ref D), some (.str T'), some (.int (line : Nat)), y6, y7])) ?_ ?_
      · walk_at "rd"
        refine i_draw mv8 (by decide) (by decide) fun r9 H9 k0 k1 _ mv9 => ?_
        refine ⟨rfl, ite2 (fun h => ?_) (fun h => ⟨Str.ofString "", mv9, .inl rfl, by decide +kernel, by rw [app_empty]⟩)⟩
        intro p hp
        refine i_draw (mv9.new hp) (by decide) (by decide) fun r10 H10 g0 g1 mvd mv10 => ?_
        obtain ⟨o, ev, ho⟩ := at_of (xs := [V.str (Str.ofString " "), V.str (Str.ofString "\n")]) g0 g1
        refine i_ixL (sqL_of (mvd.old p _ (mv9.ne hp) upd_same)) ev ?_
        obtain ⟨s2, rfl, c, es2, hc⟩ : ∃ s2 : Str, o = .str s2 ∧ ∃ c, s2.cps.toList = [c] ∧ (c = 32 ∨ c = 10) := by
          simp only [List.mem_cons, List.not_mem_nil, or_false] at ho
          rcases ho with rfl | rfl
          · exact ⟨_, rfl, 32, rfl, .inl rfl⟩
          · exact ⟨_, rfl, 10, rfl, .inr rfl⟩
        have ls2 : s2.length = 1 := by rw [← cl_length, es2]; rfl
        refine ⟨_, rfl, line5 (by omega), b, rfl, mv10.bag, fun F2 H11 mv11 hF2 lF2 => ⟨_, rfl, line5 (by rw [len_append]; omega), ?_⟩⟩
        exact ⟨s2 ++ F2, mv10.trans mv11, .inr ⟨c, F2.cps.toList, by rw [cl_append, es2]; rfl, hc⟩, by rw [len_append]; omega, by rw [app_assoc]⟩
      rintro σ H9 ⟨X0, mv9, hx, lx, rfl⟩
      refine rdSeq ?_
      walk_at "rd"
      have l32 : (Str.ofString " ").length = 1 := by decide +kernel
      refine ⟨line5 (by rw [len_append]; omega), ?_⟩
      refine i_draw mv9 (by decide) (by decide) fun r10 H10 k0 k1 _ mv10 => ?_
      obtain ⟨n2, rfl⟩ := Int.eq_ofNat_of_zero_le k0
      have hn2 : n2 ≤ 8 := by omega
      refine ⟨_, rfl, by omega, by omega, ?_⟩
      refine i_lcD walk_range mv10.bag (fun y => ∃ w, y = .str w ∧ W1 w) (by rw [sizeLine_eq]; omega) (fun _ _ => trivial) (fun i H x H' y => y.1) (fun j x H4 Q' hj y mv q' => ?_) (fun D2 H11 ys hD2 mv11 eD2 hl4 hP2 => ?_)
      · obtain ⟨_, rfl⟩ := y
        walk_at "rd"
        refine ⟨b, rfl, mv.bag, fun p H5 k v w mv5 hpn hp htk hvo l20 asc hq => ?_⟩
        refine i_ixT (sqT_of hp) rfl ?_
        exact ⟨w, rfl, by rw [show (Str.ofString "").length = 0 from rfl]; omega, q' _ _ ⟨_, rfl, w1_unquote (tw_of htk l20 asc hq)⟩ mv5⟩
      obtain ⟨ws2, rfl, hws2⟩ := strs_of hP2
      rw [List.length_map] at hl4
      have hl5 : ws2.length = n2 := by rw [hl4]; rfl
      have mv11 := mv10.trans mv11
      intro p12 hp12
      have eD3 := same_new (o := .lst [V.str (Str.ofString "x")]) hp12 _ _ eD2
      refine i_cat eD3 upd_same (line5 (by rw [List.length_map]; show ws2.length + 1 ≤ 100000; omega)) fun p13 hp13 => ?_
      have mv13 := (mv11.new (o := .lst [V.str (Str.ofString "x")]) hp12).new (o := .lst (ws2.map V.str ++ [V.str (Str.ofString "x")])) hp13
      have n13 := (mv11.new (o := .lst [V.str (Str.ofString "x")]) hp12).ne hp13
      refine ⟨b, p13, ws2 ++ [Str.ofString "x"], rfl, mv13.bag, n13, by rw [upd_same, List.map_append]; rfl, by rw [List.length_append]; show ws2.length + 1 ≤ 30; omega, fun w hw => ?_, fun z2 H14 mv14 lz2 _ => ?_⟩
      · rcases List.mem_append.mp hw with hw | hw
        · exact hws2 w hw
        · rw [List.mem_singleton.mp hw]
          refine ⟨by decide +kernel, by decide +kernel, fun c hc => ?_⟩
          have hc : c ∈ [120] := hc
          rw [List.mem_singleton.mp hc]; decide
      have mv14 := mv13.trans mv14
      have lz3 : z2.length ≤ 44 * 9 := by
        rw [List.length_append] at lz2
        have : [Str.ofString "x"].length = 1 := rfl
        omega
      refine ⟨_, rfl, line5 (by rw [len_append, len_append]; omega), ?_⟩
      have hG : Run (TF ++ X0 ++ Str.ofString " " ++ z2).cps.toList 1 ts (some line) := by
        have ecl : (TF ++ X0 ++ Str.ofString " " ++ z2).cps.toList = TF.cps.toList ++ (X0.cps.toList ++ 32 :: z2.cps.toList) := by
          rw [cl_append, cl_append, cl_append]
          show TF.cps.toList ++ X0.cps.toList ++ [32] ++ z2.cps.toList = _
          simp
        rw [ecl]
        rcases hx with hx | ⟨c, t, hx, hc⟩
        · rw [hx]; exact base 32 z2.cps.toList (.inl rfl)
        · rw [hx, List.cons_append]; exact base c _ hc
      have lG : (TF ++ X0 ++ Str.ofString " " ++ z2).length ≤ 20000 := by rw [len_append, len_append, len_append]; omega
      generalize TF ++ X0 ++ Str.ofString " " ++ z2 = G at hG lG
      refine ⟨.str G, line, rfl, .inl ⟨G, ts, rfl, lG, hG⟩, fun H15 s15 => ⟨rfl, i_else (by simp) ?_⟩⟩
      refine ⟨.str G, line, rfl, .inl ⟨G, ts, rfl, lG, hG⟩, fun H16 s16 => ⟨rfl, i_else (by simp) fun bb o e => ?_⟩⟩
      have e1 := s1 _ _ e
      exact s16 _ _ (s15 _ _ (mv14.old bb o (ne_of_none e1 hb) (s2 _ _ e1)))
    · rintro σ H1 ⟨s1, y1, y2, y3, y4, y5, y6, y7, rfl⟩
      dsimp only
      refine rdSeq ?_
      walk_at "rd"
      intro p hp p1 hp1
      have ht0 : upd (upd H1 p (.tup [V.str (Str.ofString "x")])) p1 (.lst [V.str (Str.ofString "package")]) p = some (.tup [V.str (Str.ofString "x")]) := same_new hp1 _ _ upd_same
      have hl0 : upd (upd H1 p (.tup [V.str (Str.ofString "x")])) p1 (.lst [V.str (Str.ofString "package")]) p1 = some (.lst [V.str (Str.ofString "package")]) := upd_same
      generalize upd (upd H1 p (.tup [V.str (Str.ofString "x")])) p1 (.lst [V.str (Str.ofString "package")]) = Hc at ht0 hl0
      have m1 := mul_cl (z := Str.ofString " ") (n := 20001) (by decide)
      have l1 : (Txt.mul (Str.ofString " ") 20001).length = 20001 := by
        rw [show (Str.ofString " ") = (⟨#[32]⟩ : Str) from rfl, ← cl_length, mul_one (by decide), List.length_replicate]; rfl
      have l3 : (Txt.mul (Str.ofString "!") 20001).length = 20001 := by
        rw [show (Str.ofString "!") = (⟨#[33]⟩ : Str) from rfl, ← cl_length, mul_one (by decide), List.length_replicate]; rfl
      have l2 : (Txt.mul (Str.ofString "x ") 10000).length = 20000 := by
        rw [← cl_length, mul_cl (by decide)]
        have : ∀ k : Nat, (List.replicate k (Str.ofString "x ").cps.toList).flatten.length = 2 * k := fun k => by
          have e2 : (Str.ofString "x ").cps.toList = [120, 32] := rfl
          rw [e2]; simp [Nat.mul_comm]
        rw [this]; rfl
      refine ⟨_, _, rfl, rfl, mul_ok (by decide +kernel) (by decide) (by decide), _, _, rfl, rfl, mul_ok (by decide +kernel) (by decide) (by decide), _, rfl, line5 (by rw [l2]; decide +kernel), _, _, rfl, rfl, mul_ok (by decide +kernel) (by decide) (by decide), fun p2 hp2 => ?_⟩
      generalize Txt.mul (Str.ofString " ") 20001 = Z1 at l1
      generalize Txt.mul (Str.ofString "!") 20001 = Z3 at l3
      generalize Txt.mul (Str.ofString "x ") 10000 = Z2 at l2
      have l2' : (Z2 ++ Str.ofString "!").length = 20001 := by rw [len_append, l2]; rfl
      generalize Z2 ++ Str.ofString "!" = Z4 at l2'
      have hlst : upd Hc p2 (.lst [V.non, V.int 5, V.bl true, V.ref p, V.ref p1, V.str Z1, V.str Z4, V.str Z3]) p2 = some (.lst [V.non, V.int 5, V.bl true, V.ref p, V.ref p1, V.str Z1, V.str Z4, V.str Z3]) := upd_same
      have ht1 := same_new (o := .lst [V.non, V.int 5, V.bl true, V.ref p, V.ref p1, V.str Z1, V.str Z4, V.str Z3]) hp2 _ _ ht0
      have hl1 := same_new (o := .lst [V.non, V.int 5, V.bl true, V.ref p, V.ref p1, V.str Z1, V.str Z4, V.str Z3]) hp2 _ _ hl0
      generalize upd Hc p2 (.lst [V.non, V.int 5, V.bl true, V.ref p, V.ref p1, V.str Z1, V.str Z4, V.str Z3]) = Hd at hlst ht1 hl1
      have hbad : ∀ v ∈ [V.non, V.int 5, V.bl true, V.ref p, V.ref p1, V.str Z1, V.str Z4, V.str Z3], BadT K Hd v 0 := by
        intro v hv
        simp only [List.mem_cons, List.not_mem_nil, or_false] at hv
        rcases hv with rfl | rfl | rfl | rfl | rfl | rfl | rfl | rfl
        · exact .inr ⟨.inl ⟨_, ty_non, kb_ns⟩, rfl⟩
        · exact .inr ⟨.inl ⟨_, ty_int, kb_is⟩, rfl⟩
        · exact .inr ⟨.inl ⟨_, ty_bl, kb_bs⟩, rfl⟩
        · exact .inr ⟨.inl ⟨_, ty_tup ht1, kb_ts⟩, rfl⟩
        · exact .inr ⟨.inl ⟨_, ty_lst hl1, kb_ls⟩, rfl⟩
        · exact .inr ⟨.inr ⟨_, rfl, by omega, by omega⟩, rfl⟩
        · exact .inr ⟨.inr ⟨_, rfl, by omega, by omega⟩, rfl⟩
        · exact .inr ⟨.inr ⟨_, rfl, by omega, by omega⟩, rfl⟩
      generalize [V.non, V.int 5, V.bl true, V.ref p, V.ref p1, V.str Z1, V.str Z4, V.str Z3] = vals at hlst hbad
      refine ⟨⟨_, sqL_of hlst⟩, ?_⟩
      refine i_for (walk_listL (l := vals) (r := fun v => v)) (fun i σ H' => Same Hd H' ∧ ∃ y1 y2 y3 y4 y5 y6 y7, σ = [some (.ref sa), y1, y2, y3, y4, y5, y6, y7]) ⟨Same.refl Hd, _, _, _, _, _, _, _, rfl⟩ (fun i σ H' _ h => sqL_of (by rw [List.map_id']; exact h.1 _ _ hlst)) ?_ ?_
      · rintro i x σ _ H5 hi ⟨s5, y1, y2, y3, y4, y5, y6, y7, rfl⟩ ⟨rfl, v, hv, e⟩
        have hx : x ∈ vals := by
          rw [show x = v from e]; exact List.mem_of_getElem? hv
        have hbv := (hbad x hx).same s5
        walk_at "rd"
        refine ⟨x, 0, rfl, hbv, fun H6 s6 => ⟨rfl, i_else (by simp) ?_⟩⟩
        exact ⟨x, 0, rfl, hbv.same s6, fun H7 s7 => ⟨rfl, i_else (by simp) (s5.trans (s6.trans s7))⟩⟩
      · rintro σ H5 ⟨s5, y1, y2, y3, y4, y5, y6, y7, rfl⟩
        dsimp only
        refine rdSeq ?_
        walk_at "rd"
        have b1 := bang_run 19999
        have e1 : (Txt.mul (Str.ofString "\n") 19999 ++ Str.ofString "!").cps.toList = List.replicate 19999 10 ++ [33] := by
          rw [cl_append, show (Str.ofString "\n") = (⟨#[10]⟩ : Str) from rfl, mul_one (by decide)]; rfl
        have k1 : (Txt.mul (Str.ofString "\n") 19999).length = 19999 := by
          rw [show (Str.ofString "\n") = (⟨#[10]⟩ : Str) from rfl, ← cl_length, mul_one (by decide), List.length_replicate]; rfl
        have k2 : (Txt.mul (Str.ofString "\n") 20000).length = 20000 := by
          rw [show (Str.ofString "\n") = (⟨#[10]⟩ : Str) from rfl, ← cl_length, mul_one (by decide), List.length_replicate]; rfl
        have q1 : (Str.ofString "!").length = 1 := by decide +kernel
        have k3 : (Txt.mul (Str.ofString "\n") 19999 ++ Str.ofString "!").length = 20000 := by rw [len_append, k1, q1]
        have k4 : (Txt.mul (Str.ofString "\n") 20000 ++ Str.ofString "!").length = 20001 := by rw [len_append, k2, q1]
        have o1 : MulOk (Str.ofString "\n") 19999 := mul_ok (by decide +kernel) (by decide) (by decide)
        have o2 : MulOk (Str.ofString "\n") 20000 := mul_ok (by decide +kernel) (by decide) (by decide)
        rw [← e1] at b1
        refine ⟨Str.ofString "\n", 19999, rfl, rfl, o1, _, rfl, line5 (by rw [k1, q1]; decide), ?_⟩
        generalize Txt.mul (Str.ofString "\n") 19999 ++ Str.ofString "!" = G1 at b1 k3
        refine ⟨.str G1, 1 + 19999, rfl, .inl ⟨G1, [], rfl, by omega, b1⟩, fun H6 s6 => ⟨rfl, i_else (by decide +kernel) ?_⟩⟩
        refine ⟨Str.ofString "\n", 20000, rfl, rfl, o2, _, rfl, line5 (by rw [k2, q1]; decide), ?_⟩
        generalize Txt.mul (Str.ofString "\n") 20000 ++ Str.ofString "!" = G2 at k4
        refine ⟨.str G2, 0, rfl, .inr ⟨.inr ⟨G2, rfl, by omega, by omega⟩, rfl⟩, fun H7 s7 => ⟨rfl, i_else (by decide +kernel) ?_⟩⟩
        obtain ⟨tx, rx⟩ := run_x2
        refine ⟨_, 2, rfl, .inl ⟨_, tx, rfl, by decide +kernel, rx⟩, fun H8 s8 => ⟨rfl, i_then (by decide +kernel) ?_⟩⟩
        refine ⟨_, 1, rfl, .inl ⟨_, [], rfl, by decide +kernel, run_q⟩, fun H9 s9 => ⟨rfl, i_then (by decide +kernel) ?_⟩⟩
        refine ⟨_, 3, rfl, .inl ⟨_, [], rfl, by decide +kernel, run_c3⟩, fun H10 s10 => ⟨rfl, ?_⟩⟩
        exact q _

theorem all_mk {l : PySem.W.OpenLaw} {w : World} {K : PySem.W.Frag} {h : Heap} {mg : Str → Option Value} {fa : Addr} (X : K.In h) (G : h.Ns mainGlobals mg) (hfa : mg "law" = some (.ref fa))
    {f0 : Addr} {od0 an0 : Option Addr} {sl0 : Array (Option Value)} {oc0 kV0 dc0 pm0 cd0 ct0 : Value}
    {f1 : Addr} {od1 an1 : Option Addr} {sl1 : Array (Option Value)} {oc1 kV1 dc1 pm1 cd1 ct1 : Value}
    {f2 : Addr} {od2 an2 : Option Addr} {sl2 : Array (Option Value)} {oc2 kV2 dc2 pm2 cd2 ct2 : Value}
    {f3 : Addr} {od3 an3 : Option Addr} {sl3 : Array (Option Value)} {oc3 kV3 dc3 pm3 cd3 ct3 : Value}
    {f4 : Addr} {od4 an4 : Option Addr} {sl4 : Array (Option Value)} {oc4 kV4 dc4 pm4 cd4 ct4 : Value}
    {f5 : Addr} {od5 an5 : Option Addr} {sl5 : Array (Option Value)} {oc5 kV5 dc5 pm5 cd5 ct5 : Value}
    {f6 : Addr} {od6 an6 : Option Addr} {sl6 : Array (Option Value)} {oc6 kV6 dc6 pm6 cd6 ct6 : Value}
    {f7 : Addr} {od7 an7 : Option Addr} {sl7 : Array (Option Value)} {oc7 kV7 dc7 pm7 cd7 ct7 : Value}
    {f8 : Addr} {od8 an8 : Option Addr} {sl8 : Array (Option Value)} {oc8 kV8 dc8 pm8 cd8 ct8 : Value}
    {f9 : Addr} {od9 an9 : Option Addr} {sl9 : Array (Option Value)} {oc9 kV9 dc9 pm9 cd9 ct9 : Value}
    {f10 : Addr} {od10 an10 : Option Addr} {sl10 : Array (Option Value)} {oc10 kV10 dc10 pm10 cd10 ct10 : Value}
    {f11 : Addr} {od11 an11 : Option Addr} {sl11 : Array (Option Value)} {oc11 kV11 dc11 pm11 cd11 ct11 : Value}
    {f12 : Addr} {od12 an12 : Option Addr} {sl12 : Array (Option Value)} {oc12 kV12 dc12 pm12 cd12 ct12 : Value}
    {f13 : Addr} {od13 an13 : Option Addr} {sl13 : Array (Option Value)} {oc13 kV13 dc13 pm13 cd13 ct13 : Value}
    {f14 : Addr} {od14 an14 : Option Addr} {sl14 : Array (Option Value)} {oc14 kV14 dc14 pm14 cd14 ct14 : Value}
    {f15 : Addr} {od15 an15 : Option Addr} {sl15 : Array (Option Value)} {oc15 kV15 dc15 pm15 cd15 ct15 : Value}
    {f16 : Addr} {od16 an16 : Option Addr} {sl16 : Array (Option Value)} {oc16 kV16 dc16 pm16 cd16 ct16 : Value}
    {f17 : Addr} {od17 an17 : Option Addr} {sl17 : Array (Option Value)} {oc17 kV17 dc17 pm17 cd17 ct17 : Value}
    {f18 : Addr} {od18 an18 : Option Addr} {sl18 : Array (Option Value)} {oc18 kV18 dc18 pm18 cd18 ct18 : Value}
    {f19 : Addr} {od19 an19 : Option Addr} {sl19 : Array (Option Value)} {oc19 kV19 dc19 pm19 cd19 ct19 : Value}
    {f20 : Addr} {od20 an20 : Option Addr} {sl20 : Array (Option Value)} {oc20 kV20 dc20 pm20 cd20 ct20 : Value}
    {f21 : Addr} {od21 an21 : Option Addr} {sl21 : Array (Option Value)} {oc21 kV21 dc21 pm21 cd21 ct21 : Value}
    {f22 : Addr} {od22 an22 : Option Addr} {sl22 : Array (Option Value)} {oc22 kV22 dc22 pm22 cd22 ct22 : Value}
    {f23 : Addr} {od23 an23 : Option Addr} {sl23 : Array (Option Value)} {oc23 kV23 dc23 pm23 cd23 ct23 : Value}
    {f24 : Addr} {od24 an24 : Option Addr} {sl24 : Array (Option Value)} {oc24 kV24 dc24 pm24 cd24 ct24 : Value}
    {f25 : Addr} {od25 an25 : Option Addr} {sl25 : Array (Option Value)} {oc25 kV25 dc25 pm25 cd25 ct25 : Value}
    {f26 : Addr} {od26 an26 : Option Addr} {sl26 : Array (Option Value)} {oc26 kV26 dc26 pm26 cd26 ct26 : Value}
    {f27 : Addr} {od27 an27 : Option Addr} {sl27 : Array (Option Value)} {oc27 kV27 dc27 pm27 cd27 ct27 : Value}
    {c_CardError : Addr}
    {c_BadSource : Addr}
    {em0_BadSource em1_BadSource : Str} {em2_BadSource : Addr} {em3_BadSource em4_BadSource : List Value} {em5_BadSource : List Str} {em6_BadSource : List Value} {em7_BadSource : Bool} {em8_BadSource : Option Bool} {em9_BadSource : Option Addr} {em10_BadSource em11_BadSource em12_BadSource em13_BadSource em14_BadSource : Option Value}
    {c_Reader : Addr}
    {tk0 : Tok}
    {tk1 : Tok}
    {tk2 : Tok}
    {tk3 : Tok}
    {tk4 : Tok}
    {tk5 : Tok}
    {qa6 : Addr} {qd6 : Option Addr} {qn6 : Nat} {qs6 : Array (Option Value)} {tq6_0 tq6_1 tq6_2 tq6_3 tq6_4 tq6_5 tq6_6 tq6_7 tq6_8 tq6_9 tq6_10 tq6_11 tq6_12 tq6_13 tq6_14 tq6_15 tq6_16 tq6_17 tq6_18 tq6_19 tq6_20 tq6_21 tq6_22 tq6_23 tq6_24 tq6_25 tq6_26 tq6_27 tq6_28 tq6_29 tq6_30 tq6_31 tq6_32 tq6_33 : Tok}
    {qa7 : Addr} {qd7 : Option Addr} {qn7 : Nat} {qs7 : Array (Option Value)} {tq7_0 tq7_1 tq7_2 tq7_3 tq7_4 tq7_5 : Tok}
    {tk8 : Tok}
    {tk9 : Tok}
    (l0 : K.lookup f0 = some ⟨oc0, od0, .func (PySem.W.fnOf "__init__" "BadSource.__init__" (defArgs s_BadSource_init) (defBody s_BadSource_init) (defScope s_BadSource_init) .none kV0 dc0 pm0 an0 cd0 ct0), sl0⟩) (c0 : PySem.W.codeIn K cd0 "BadSource.__init__" = true) (k0 : PySem.W.keepIn K (.ref f0) = true)
    (a1 : PySem.W.nsIn K mainGlobals "is_printable" = some (some (.ref f1)))
    (l1 : K.lookup f1 = some ⟨oc1, od1, .func (PySem.W.fnOf "is_printable" "is_printable" (defArgs s_is_printable) (defBody s_is_printable) (defScope s_is_printable) .none kV1 dc1 pm1 an1 cd1 ct1), sl1⟩) (c1 : PySem.W.codeIn K cd1 "is_printable" = true) (k1 : PySem.W.keepIn K (.ref f1) = true)
    (a2 : PySem.W.nsIn K mainGlobals "is_name" = some (some (.ref f2)))
    (l2 : K.lookup f2 = some ⟨oc2, od2, .func (PySem.W.fnOf "is_name" "is_name" (defArgs s_is_name) (defBody s_is_name) (defScope s_is_name) .none kV2 dc2 pm2 an2 cd2 ct2), sl2⟩) (c2 : PySem.W.codeIn K cd2 "is_name" = true) (k2 : PySem.W.keepIn K (.ref f2) = true)
    (a3 : PySem.W.nsIn K mainGlobals "is_text" = some (some (.ref f3)))
    (l3 : K.lookup f3 = some ⟨oc3, od3, .func (PySem.W.fnOf "is_text" "is_text" (defArgs s_is_text) (defBody s_is_text) (defScope s_is_text) .none kV3 dc3 pm3 an3 cd3 ct3), sl3⟩) (c3 : PySem.W.codeIn K cd3 "is_text" = true) (k3 : PySem.W.keepIn K (.ref f3) = true)
    (a4 : PySem.W.nsIn K mainGlobals "word_end" = some (some (.ref f4)))
    (l4 : K.lookup f4 = some ⟨oc4, od4, .func (PySem.W.fnOf "word_end" "word_end" (defArgs s_word_end) (defBody s_word_end) (defScope s_word_end) .none kV4 dc4 pm4 an4 cd4 ct4), sl4⟩) (c4 : PySem.W.codeIn K cd4 "word_end" = true) (k4 : PySem.W.keepIn K (.ref f4) = true)
    (a5 : PySem.W.nsIn K mainGlobals "comment_end" = some (some (.ref f5)))
    (l5 : K.lookup f5 = some ⟨oc5, od5, .func (PySem.W.fnOf "comment_end" "comment_end" (defArgs s_comment_end) (defBody s_comment_end) (defScope s_comment_end) .none kV5 dc5 pm5 an5 cd5 ct5), sl5⟩) (c5 : PySem.W.codeIn K cd5 "comment_end" = true) (k5 : PySem.W.keepIn K (.ref f5) = true)
    (a6 : PySem.W.nsIn K mainGlobals "number_of" = some (some (.ref f6)))
    (l6 : K.lookup f6 = some ⟨oc6, od6, .func (PySem.W.fnOf "number_of" "number_of" (defArgs s_number_of) (defBody s_number_of) (defScope s_number_of) .none kV6 dc6 pm6 an6 cd6 ct6), sl6⟩) (c6 : PySem.W.codeIn K cd6 "number_of" = true) (k6 : PySem.W.keepIn K (.ref f6) = true)
    (a7 : PySem.W.nsIn K mainGlobals "word_token" = some (some (.ref f7)))
    (l7 : K.lookup f7 = some ⟨oc7, od7, .func (PySem.W.fnOf "word_token" "word_token" (defArgs s_word_token) (defBody s_word_token) (defScope s_word_token) .none kV7 dc7 pm7 an7 cd7 ct7), sl7⟩) (c7 : PySem.W.codeIn K cd7 "word_token" = true) (k7 : PySem.W.keepIn K (.ref f7) = true)
    (a8 : PySem.W.nsIn K mainGlobals "token_at" = some (some (.ref f8)))
    (l8 : K.lookup f8 = some ⟨oc8, od8, .func (PySem.W.fnOf "token_at" "token_at" (defArgs s_token_at) (defBody s_token_at) (defScope s_token_at) .none kV8 dc8 pm8 an8 cd8 ct8), sl8⟩) (c8 : PySem.W.codeIn K cd8 "token_at" = true) (k8 : PySem.W.keepIn K (.ref f8) = true)
    (a9 : PySem.W.nsIn K mainGlobals "tokens" = some (some (.ref f9)))
    (l9 : K.lookup f9 = some ⟨oc9, od9, .func (PySem.W.fnOf "tokens" "tokens" (defArgs s_tokens) (defBody s_tokens) (defScope s_tokens) .none kV9 dc9 pm9 an9 cd9 ct9), sl9⟩) (c9 : PySem.W.codeIn K cd9 "tokens" = true) (k9 : PySem.W.keepIn K (.ref f9) = true)
    (a10 : PySem.W.nsIn K mainGlobals "is_tree" = some (some (.ref f10)))
    (l10 : K.lookup f10 = some ⟨oc10, od10, .func (PySem.W.fnOf "is_tree" "is_tree" (defArgs s_is_tree) (defBody s_is_tree) (defScope s_is_tree) .none kV10 dc10 pm10 an10 cd10 ct10), sl10⟩) (c10 : PySem.W.codeIn K cd10 "is_tree" = true) (k10 : PySem.W.keepIn K (.ref f10) = true)
    (l11 : K.lookup f11 = some ⟨oc11, od11, .func (PySem.W.fnOf "__init__" "Cursor.__init__" (defArgs s_Cursor_init) (defBody s_Cursor_init) (defScope s_Cursor_init) .none kV11 dc11 pm11 an11 cd11 ct11), sl11⟩) (c11 : PySem.W.codeIn K cd11 "Cursor.__init__" = true) (k11 : PySem.W.keepIn K (.ref f11) = true)
    (l12 : K.lookup f12 = some ⟨oc12, od12, .func (PySem.W.fnOf "read_package" "Reader.read_package" (defArgs s_Reader_read_package) (defBody s_Reader_read_package) (defScope s_Reader_read_package) .none kV12 dc12 pm12 an12 cd12 ct12), sl12⟩) (c12 : PySem.W.codeIn K cd12 "Reader.read_package" = true) (k12 : PySem.W.keepIn K (.ref f12) = true)
    (a13 : PySem.W.nsIn K mainGlobals "parse" = some (some (.ref f13)))
    (l13 : K.lookup f13 = some ⟨oc13, od13, .func (PySem.W.fnOf "parse" "parse" (defArgs s_parse) (defBody s_parse) (defScope s_parse) .none kV13 dc13 pm13 an13 cd13 ct13), sl13⟩) (c13 : PySem.W.codeIn K cd13 "parse" = true) (k13 : PySem.W.keepIn K (.ref f13) = true)
    (a14 : PySem.W.nsIn K mainGlobals "_law_bag" = some (some (.ref f14)))
    (l14 : K.lookup f14 = some ⟨oc14, od14, .func (PySem.W.fnOf "_law_bag" "_law_bag" (defArgs s_law_bag) (defBody s_law_bag) (defScope s_law_bag) .none kV14 dc14 pm14 an14 cd14 ct14), sl14⟩) (c14 : PySem.W.codeIn K cd14 "_law_bag" = true) (k14 : PySem.W.keepIn K (.ref f14) = true)
    (a15 : PySem.W.nsIn K mainGlobals "_law_draw" = some (some (.ref f15)))
    (l15 : K.lookup f15 = some ⟨oc15, od15, .func (PySem.W.fnOf "_law_draw" "_law_draw" (defArgs s_law_draw) (defBody s_law_draw) (defScope s_law_draw) .none kV15 dc15 pm15 an15 cd15 ct15), sl15⟩) (c15 : PySem.W.codeIn K cd15 "_law_draw" = true) (k15 : PySem.W.keepIn K (.ref f15) = true)
    (a16 : PySem.W.nsIn K mainGlobals "_law_letters" = some (some (.ref f16)))
    (l16 : K.lookup f16 = some ⟨oc16, od16, .func (PySem.W.fnOf "_law_letters" "_law_letters" (defArgs s_law_letters) (defBody s_law_letters) (defScope s_law_letters) .none kV16 dc16 pm16 an16 cd16 ct16), sl16⟩) (c16 : PySem.W.codeIn K cd16 "_law_letters" = true) (k16 : PySem.W.keepIn K (.ref f16) = true)
    (a17 : PySem.W.nsIn K mainGlobals "_law_text" = some (some (.ref f17)))
    (l17 : K.lookup f17 = some ⟨oc17, od17, .func (PySem.W.fnOf "_law_text" "_law_text" (defArgs s_law_text) (defBody s_law_text) (defScope s_law_text) .none kV17 dc17 pm17 an17 cd17 ct17), sl17⟩) (c17 : PySem.W.codeIn K cd17 "_law_text" = true) (k17 : PySem.W.keepIn K (.ref f17) = true)
    (a18 : PySem.W.nsIn K mainGlobals "_law_keys" = some (some (.ref f18)))
    (l18 : K.lookup f18 = some ⟨oc18, od18, .func (PySem.W.fnOf "_law_keys" "_law_keys" (defArgs s_law_keys) (defBody s_law_keys) (defScope s_law_keys) .none kV18 dc18 pm18 an18 cd18 ct18), sl18⟩) (c18 : PySem.W.codeIn K cd18 "_law_keys" = true) (k18 : PySem.W.keepIn K (.ref f18) = true)
    (a19 : PySem.W.nsIn K mainGlobals "_law_name" = some (some (.ref f19)))
    (l19 : K.lookup f19 = some ⟨oc19, od19, .func (PySem.W.fnOf "_law_name" "_law_name" (defArgs s_law_name) (defBody s_law_name) (defScope s_law_name) .none kV19 dc19 pm19 an19 cd19 ct19), sl19⟩) (c19 : PySem.W.codeIn K cd19 "_law_name" = true) (k19 : PySem.W.keepIn K (.ref f19) = true)
    (a20 : PySem.W.nsIn K mainGlobals "_law_token" = some (some (.ref f20)))
    (l20 : K.lookup f20 = some ⟨oc20, od20, .func (PySem.W.fnOf "_law_token" "_law_token" (defArgs s_law_token) (defBody s_law_token) (defScope s_law_token) .none kV20 dc20 pm20 an20 cd20 ct20), sl20⟩) (c20 : PySem.W.codeIn K cd20 "_law_token" = true) (k20 : PySem.W.keepIn K (.ref f20) = true)
    (a21 : PySem.W.nsIn K mainGlobals "_law_is_word" = some (some (.ref f21)))
    (l21 : K.lookup f21 = some ⟨oc21, od21, .func (PySem.W.fnOf "_law_is_word" "_law_is_word" (defArgs s_law_is_word) (defBody s_law_is_word) (defScope s_law_is_word) .none kV21 dc21 pm21 an21 cd21 ct21), sl21⟩) (c21 : PySem.W.codeIn K cd21 "_law_is_word" = true) (k21 : PySem.W.keepIn K (.ref f21) = true)
    (a22 : PySem.W.nsIn K mainGlobals "_law_gap" = some (some (.ref f22)))
    (l22 : K.lookup f22 = some ⟨oc22, od22, .func (PySem.W.fnOf "_law_gap" "_law_gap" (defArgs s_law_gap) (defBody s_law_gap) (defScope s_law_gap) .none kV22 dc22 pm22 an22 cd22 ct22), sl22⟩) (c22 : PySem.W.codeIn K cd22 "_law_gap" = true) (k22 : PySem.W.keepIn K (.ref f22) = true)
    (a23 : PySem.W.nsIn K mainGlobals "_law_laid" = some (some (.ref f23)))
    (l23 : K.lookup f23 = some ⟨oc23, od23, .func (PySem.W.fnOf "_law_laid" "_law_laid" (defArgs s_law_laid) (defBody s_law_laid) (defScope s_law_laid) .none kV23 dc23 pm23 an23 cd23 ct23), sl23⟩) (c23 : PySem.W.codeIn K cd23 "_law_laid" = true) (k23 : PySem.W.keepIn K (.ref f23) = true)
    (a24 : PySem.W.nsIn K mainGlobals "_law_fault" = some (some (.ref f24)))
    (l24 : K.lookup f24 = some ⟨oc24, od24, .func (PySem.W.fnOf "_law_fault" "_law_fault" (defArgs s_law_fault) (defBody s_law_fault) (defScope s_law_fault) .none kV24 dc24 pm24 an24 cd24 ct24), sl24⟩) (c24 : PySem.W.codeIn K cd24 "_law_fault" = true) (k24 : PySem.W.keepIn K (.ref f24) = true)
    (a25 : PySem.W.nsIn K mainGlobals "_law_line" = some (some (.ref f25)))
    (l25 : K.lookup f25 = some ⟨oc25, od25, .func (PySem.W.fnOf "_law_line" "_law_line" (defArgs s_law_line) (defBody s_law_line) (defScope s_law_line) .none kV25 dc25 pm25 an25 cd25 ct25), sl25⟩) (c25 : PySem.W.codeIn K cd25 "_law_line" = true) (k25 : PySem.W.keepIn K (.ref f25) = true)
    (a26 : PySem.W.nsIn K mainGlobals "_law_parsed" = some (some (.ref f26)))
    (l26 : K.lookup f26 = some ⟨oc26, od26, .func (PySem.W.fnOf "_law_parsed" "_law_parsed" (defArgs s_law_parsed) (defBody s_law_parsed) (defScope s_law_parsed) .none kV26 dc26 pm26 an26 cd26 ct26), sl26⟩) (c26 : PySem.W.codeIn K cd26 "_law_parsed" = true) (k26 : PySem.W.keepIn K (.ref f26) = true)
    (a27 : PySem.W.nsIn K mainGlobals "law" = some (some (.ref f27)))
    (l27 : K.lookup f27 = some ⟨oc27, od27, .func (PySem.W.fnOf "law" "law" (defArgs s_law) (defBody s_law) (defScope s_law) .none kV27 dc27 pm27 an27 cd27 ct27), sl27⟩) (c27 : PySem.W.codeIn K cd27 "law" = true) (k27 : PySem.W.keepIn K (.ref f27) = true)
    (aC_CardError : PySem.W.nsIn K mainGlobals "CardError" = some (some (.ref c_CardError)))
    (aC_BadSource : PySem.W.nsIn K mainGlobals "BadSource" = some (some (.ref c_BadSource)))
    (aC_Reader : PySem.W.nsIn K mainGlobals "Reader" = some (some (.ref c_Reader)))
    (w1oe : K.lookup c_BadSource = some (excClassObj em0_BadSource em1_BadSource c_BadSource em2_BadSource em3_BadSource em4_BadSource true em5_BadSource em6_BadSource em7_BadSource em8_BadSource em9_BadSource em10_BadSource em11_BadSource em12_BadSource em13_BadSource em14_BadSource "ValueError.__new__"))
    (w2rv : PySem.HandSPX.refsVE em4_BadSource = true)
    (w3os : PySem.W.findIn K (.ref c_BadSource) "__setattr__" = some (some (.builtin "object.__setattr__")))
    (w4ob : PySem.W.subIn K (.ref c_BadSource) (.type "BaseException") = some true)
    (w5ot : PySem.W.typeIn K (.ref c_BadSource) = some (.type "type"))
    (w6ok : PySem.W.keepIn K (.ref c_BadSource) = true)
    (w7in : PySem.W.findIn K (.ref c_BadSource) "__init__" = some (some (.ref f0)))
    (w8ti : PySem.W.typeIn K (.ref f0) = some (.type "function"))
    (w9on : PySem.W.findIn K (.ref c_BadSource) "line" = some none)
    (w10on : PySem.W.findIn K (.ref c_BadSource) "reason" = some none)
    (w11xg : PySem.W.findIn K (.ref c_BadSource) "__getattribute__" = some (some (.builtin "BaseException.__getattribute__")))
    (w12xh : PySem.W.findIn K (.ref c_BadSource) "__getattr__" = some none)
    (w13xe : PySem.W.subIn K (.ref c_BadSource) (.type "BaseException") = some true)
    (w14xd : PySem.W.hasDictIn K c_BadSource = true)
    (w15eb : PySem.W.subIn K (.ref c_BadSource) (.type "BaseException") = some true)
    (w16ei : PySem.W.isClsIn K c_BadSource = true)
    (w17et : PySem.W.typeIn K (.ref c_BadSource) = some (.type "type"))
    (w18es : PySem.W.subIn K (.ref c_BadSource) (.ref c_BadSource) = some true)
    (w19pg : PySem.W.plainGet K c_Reader Str.empty = true)
    (w20hd : PySem.W.hasDictIn K c_Reader = true)
    (w21po : PySem.W.plainOver K c_Reader = true)
    (w22sa : PySem.W.findIn K (.ref c_Reader) "__setattr__" = some (some (.builtin "object.__setattr__")))
    (w23at : PySem.W.findIn K (.ref c_Reader) "read_package" = some (some (.ref f12)))
    (w24fn : PySem.W.isFn K (.ref f12) = true)
    (w25km : PySem.W.keepIn K (.ref f12) = true)
    (w26mk : PySem.W.makesIn K c_Reader = true)
    (w27in : PySem.W.findIn K (.ref c_Reader) "__init__" = some (some (.ref f11)))
    (w28fi : PySem.W.isFn K (.ref f11) = true)
    (w29kc : PySem.W.keepIn K (.ref c_Reader) = true)
    (w30eg : PySem.W.findIn K (.ref c_BadSource) "__getattribute__" = some (some (.builtin "BaseException.__getattribute__")))
    (w31ek : PySem.W.findIn K (.ref c_BadSource) "__getattr__" = some none)
    (w32eb : PySem.W.subIn K (.ref c_BadSource) (.type "BaseException") = some true)
    (w33ed : PySem.W.hasDictIn K c_BadSource = true)
    (w34ea : PySem.W.findIn K (.ref c_BadSource) "__class__" = some (some (.builtin "object.__class__")))
    (w35en : PySem.W.specialIn K (.builtin "object.__class__") "__get__" = some (some (.builtin "getset_descriptor.__get__")))
    (w36et : PySem.W.takesIn K (.builtin "object.__class__") = some true)
    (w37em : PySem.W.mroIn K c_BadSource (.type "object") = some true)
    (w38nes : decide (c_BadSource = c_CardError) = false)
    (w39oc : PySem.W.isClsIn K c_CardError = true)
    (w40ot : PySem.W.typeIn K (.ref c_CardError) = some (.type "type"))
    (w41ou : PySem.W.subIn K (.ref c_BadSource) (.ref c_CardError) = some true)
    (w42ov : PySem.W.subIn K (.ref c_BadSource) (.type "ValueError") = some true)
    (z0 : PySem.W.nsIn K mainGlobals "all" = some none)
    (z1 : PySem.W.nsIn K mainGlobals "bool" = some none)
    (z2 : PySem.W.nsIn K mainGlobals "int" = some none)
    (z3 : PySem.W.nsIn K mainGlobals "isinstance" = some none)
    (z4 : PySem.W.nsIn K mainGlobals "len" = some none)
    (z5 : PySem.W.nsIn K mainGlobals "max" = some none)
    (z6 : PySem.W.nsIn K mainGlobals "min" = some none)
    (z7 : PySem.W.nsIn K mainGlobals "ord" = some none)
    (z8 : PySem.W.nsIn K mainGlobals "range" = some none)
    (z9 : PySem.W.nsIn K mainGlobals "str" = some none)
    (z10 : PySem.W.nsIn K mainGlobals "tuple" = some none)
    (y0 : PySem.W.nsIn K mainGlobals "MOST_SOURCE" = some (some (.int (20000) tk0)))
    (y1 : PySem.W.nsIn K mainGlobals "MOST_NAME" = some (some (.int (20) tk1)))
    (y2 : PySem.W.nsIn K mainGlobals "MOST_TEXT" = some (some (.int (16) tk2)))
    (y3 : PySem.W.nsIn K mainGlobals "MOST_INT" = some (some (.int (32767) tk3)))
    (y4 : PySem.W.nsIn K mainGlobals "LETTERS" = some (some (.str "ABCDEFGHIJKLMNOPQRSTUVWXYZabcdefghijklmnopqrstuvwxyz" tk4)))
    (y5 : PySem.W.nsIn K mainGlobals "DIGITS" = some (some (.str "0123456789" tk5)))
    (y6 : PySem.W.nsIn K mainGlobals "KEYWORDS" = some (some (.ref qa6))) (u6 : K.lookup qa6 = some ⟨.type "tuple", qd6, .seq #[.str "abort" tq6_0, .str "and" tq6_1, .str "applet" tq6_2, .str "as" tq6_3, .str "begin" tq6_4, .str "buffer" tq6_5, .str "bytes" tq6_6, .str "catch" tq6_7, .str "class" tq6_8, .str "commit" tq6_9, .str "else" tq6_10, .str "face" tq6_11, .str "field" tq6_12, .str "has" tq6_13, .str "if" tq6_14, .str "int" tq6_15, .str "is" tq6_16, .str "mod" tq6_17, .str "new" tq6_18, .str "not" tq6_19, .str "nothing" tq6_20, .str "null" tq6_21, .str "of" tq6_22, .str "or" tq6_23, .str "package" tq6_24, .str "return" tq6_25, .str "seek" tq6_26, .str "size" tq6_27, .str "temp" tq6_28, .str "this" tq6_29, .str "throw" tq6_30, .str "try" tq6_31, .str "use" tq6_32, .str "while" tq6_33] qn6, qs6⟩)
    (y7 : PySem.W.nsIn K mainGlobals "PAIRS" = some (some (.ref qa7))) (u7 : K.lookup qa7 = some ⟨.type "tuple", qd7, .seq #[.str "<<" tq7_0, .str ">>" tq7_1, .str "==" tq7_2, .str "!=" tq7_3, .str "<=" tq7_4, .str ">=" tq7_5] qn7, qs7⟩)
    (y8 : PySem.W.nsIn K mainGlobals "SINGLES" = some (some (.str "{}()[];,.=+-*/&|^<>" tk8)))
    (y9 : PySem.W.nsIn K mainGlobals "MOST_DIGITS" = some (some (.int (5) tk9))) :
    ∃ fd : FuncData, (∀ (s : Shared) (v : Value), BindsTo s fd ⟨[v], []⟩ [("_law_script", v)]) ∧ ∀ base : Heap, K.In base → base.Ns mainGlobals mg → FnOk l.prog w K mg base CX0 107 fa fd ["_law_script"] (sp_law K) := by
  have e := hfa.symm.trans (PySem.W.mg_of X G a27)
  cases e
  let T : Txt K mg := {
    f_BadSource_init := f0,
    d_BadSource_init := _,
    k_BadSource_init := (fun_mk (st := s_BadSource_init) l0 c0 k0),
    b_BadSource_init := (Fun.binds (ps := ["self", "line", "reason"]) (fun_mk (st := s_BadSource_init) l0 c0 k0) fun _ _ _ _ _ _ us hl => match us, hl with | [_, _, _], _ => rfl),
    f_is_printable := f1,
    d_is_printable := _,
    k_is_printable := (fun_mk (st := s_is_printable) l1 c1 k1),
    b_is_printable := (Fun.binds (ps := ["value"]) (fun_mk (st := s_is_printable) l1 c1 k1) fun _ _ _ _ _ _ us hl => match us, hl with | [_], _ => rfl),
    g_is_printable := PySem.W.mg_of X G a1,
    f_is_name := f2,
    d_is_name := _,
    k_is_name := (fun_mk (st := s_is_name) l2 c2 k2),
    b_is_name := (Fun.binds (ps := ["value"]) (fun_mk (st := s_is_name) l2 c2 k2) fun _ _ _ _ _ _ us hl => match us, hl with | [_], _ => rfl),
    g_is_name := PySem.W.mg_of X G a2,
    f_is_text := f3,
    d_is_text := _,
    k_is_text := (fun_mk (st := s_is_text) l3 c3 k3),
    b_is_text := (Fun.binds (ps := ["value"]) (fun_mk (st := s_is_text) l3 c3 k3) fun _ _ _ _ _ _ us hl => match us, hl with | [_], _ => rfl),
    g_is_text := PySem.W.mg_of X G a3,
    f_word_end := f4,
    d_word_end := _,
    k_word_end := (fun_mk (st := s_word_end) l4 c4 k4),
    b_word_end := (Fun.binds (ps := ["text", "start"]) (fun_mk (st := s_word_end) l4 c4 k4) fun _ _ _ _ _ _ us hl => match us, hl with | [_, _], _ => rfl),
    g_word_end := PySem.W.mg_of X G a4,
    f_comment_end := f5,
    d_comment_end := _,
    k_comment_end := (fun_mk (st := s_comment_end) l5 c5 k5),
    b_comment_end := (Fun.binds (ps := ["text", "start", "line"]) (fun_mk (st := s_comment_end) l5 c5 k5) fun _ _ _ _ _ _ us hl => match us, hl with | [_, _, _], _ => rfl),
    g_comment_end := PySem.W.mg_of X G a5,
    f_number_of := f6,
    d_number_of := _,
    k_number_of := (fun_mk (st := s_number_of) l6 c6 k6),
    b_number_of := (Fun.binds (ps := ["word", "line"]) (fun_mk (st := s_number_of) l6 c6 k6) fun _ _ _ _ _ _ us hl => match us, hl with | [_, _], _ => rfl),
    g_number_of := PySem.W.mg_of X G a6,
    f_word_token := f7,
    d_word_token := _,
    k_word_token := (fun_mk (st := s_word_token) l7 c7 k7),
    b_word_token := (Fun.binds (ps := ["word", "line"]) (fun_mk (st := s_word_token) l7 c7 k7) fun _ _ _ _ _ _ us hl => match us, hl with | [_, _], _ => rfl),
    g_word_token := PySem.W.mg_of X G a7,
    f_token_at := f8,
    d_token_at := _,
    k_token_at := (fun_mk (st := s_token_at) l8 c8 k8),
    b_token_at := (Fun.binds (ps := ["text", "start", "line"]) (fun_mk (st := s_token_at) l8 c8 k8) fun _ _ _ _ _ _ us hl => match us, hl with | [_, _, _], _ => rfl),
    g_token_at := PySem.W.mg_of X G a8,
    f_tokens := f9,
    d_tokens := _,
    k_tokens := (fun_mk (st := s_tokens) l9 c9 k9),
    b_tokens := (Fun.binds (ps := ["text"]) (fun_mk (st := s_tokens) l9 c9 k9) fun _ _ _ _ _ _ us hl => match us, hl with | [_], _ => rfl),
    g_tokens := PySem.W.mg_of X G a9,
    f_is_tree := f10,
    d_is_tree := _,
    k_is_tree := (fun_mk (st := s_is_tree) l10 c10 k10),
    b_is_tree := (Fun.binds (ps := ["value"]) (fun_mk (st := s_is_tree) l10 c10 k10) fun _ _ _ _ _ _ us hl => match us, hl with | [_], _ => rfl),
    g_is_tree := PySem.W.mg_of X G a10,
    f_Cursor_init := f11,
    d_Cursor_init := _,
    k_Cursor_init := (fun_mk (st := s_Cursor_init) l11 c11 k11),
    b_Cursor_init := (Fun.binds (ps := ["self", "text"]) (fun_mk (st := s_Cursor_init) l11 c11 k11) fun _ _ _ _ _ _ us hl => match us, hl with | [_, _], _ => rfl),
    f_Reader_read_package := f12,
    d_Reader_read_package := _,
    k_Reader_read_package := (fun_mk (st := s_Reader_read_package) l12 c12 k12),
    b_Reader_read_package := (Fun.binds (ps := ["self"]) (fun_mk (st := s_Reader_read_package) l12 c12 k12) fun _ _ _ _ _ _ us hl => match us, hl with | [_], _ => rfl),
    f_parse := f13,
    d_parse := _,
    k_parse := (fun_mk (st := s_parse) l13 c13 k13),
    b_parse := (Fun.binds (ps := ["text"]) (fun_mk (st := s_parse) l13 c13 k13) fun _ _ _ _ _ _ us hl => match us, hl with | [_], _ => rfl),
    g_parse := PySem.W.mg_of X G a13,
    f_law_bag := f14,
    d_law_bag := _,
    k_law_bag := (fun_mk (st := s_law_bag) l14 c14 k14),
    b_law_bag := (Fun.binds (ps := ["_law_script", "_law_k"]) (fun_mk (st := s_law_bag) l14 c14 k14) fun _ _ _ _ _ _ us hl => match us, hl with | [_, _], _ => rfl),
    g_law_bag := PySem.W.mg_of X G a14,
    f_law_draw := f15,
    d_law_draw := _,
    k_law_draw := (fun_mk (st := s_law_draw) l15 c15 k15),
    b_law_draw := (Fun.binds (ps := ["_law_bag_here", "_law_many"]) (fun_mk (st := s_law_draw) l15 c15 k15) fun _ _ _ _ _ _ us hl => match us, hl with | [_, _], _ => rfl),
    g_law_draw := PySem.W.mg_of X G a15,
    f_law_letters := f16,
    d_law_letters := _,
    k_law_letters := (fun_mk (st := s_law_letters) l16 c16 k16),
    b_law_letters := (Fun.binds (ps := ["_law_bag_here", "_law_many"]) (fun_mk (st := s_law_letters) l16 c16 k16) fun _ _ _ _ _ _ us hl => match us, hl with | [_, _], _ => rfl),
    g_law_letters := PySem.W.mg_of X G a16,
    f_law_text := f17,
    d_law_text := _,
    k_law_text := (fun_mk (st := s_law_text) l17 c17 k17),
    b_law_text := (Fun.binds (ps := ["_law_bag_here"]) (fun_mk (st := s_law_text) l17 c17 k17) fun _ _ _ _ _ _ us hl => match us, hl with | [_], _ => rfl),
    g_law_text := PySem.W.mg_of X G a17,
    f_law_keys := f18,
    d_law_keys := _,
    k_law_keys := (fun_mk (st := s_law_keys) l18 c18 k18),
    b_law_keys := (Fun.binds (ps := []) (fun_mk (st := s_law_keys) l18 c18 k18) fun _ _ _ _ _ _ us hl => match us, hl with | [], _ => rfl),
    g_law_keys := PySem.W.mg_of X G a18,
    f_law_name := f19,
    d_law_name := _,
    k_law_name := (fun_mk (st := s_law_name) l19 c19 k19),
    b_law_name := (Fun.binds (ps := ["_law_bag_here"]) (fun_mk (st := s_law_name) l19 c19 k19) fun _ _ _ _ _ _ us hl => match us, hl with | [_], _ => rfl),
    g_law_name := PySem.W.mg_of X G a19,
    f_law_token := f20,
    d_law_token := _,
    k_law_token := (fun_mk (st := s_law_token) l20 c20 k20),
    b_law_token := (Fun.binds (ps := ["_law_bag_here"]) (fun_mk (st := s_law_token) l20 c20 k20) fun _ _ _ _ _ _ us hl => match us, hl with | [_], _ => rfl),
    g_law_token := PySem.W.mg_of X G a20,
    f_law_is_word := f21,
    d_law_is_word := _,
    k_law_is_word := (fun_mk (st := s_law_is_word) l21 c21 k21),
    b_law_is_word := (Fun.binds (ps := ["_law_sign"]) (fun_mk (st := s_law_is_word) l21 c21 k21) fun _ _ _ _ _ _ us hl => match us, hl with | [_], _ => rfl),
    g_law_is_word := PySem.W.mg_of X G a21,
    f_law_gap := f22,
    d_law_gap := _,
    k_law_gap := (fun_mk (st := s_law_gap) l22 c22 k22),
    b_law_gap := (Fun.binds (ps := ["_law_bag_here", "_law_left", "_law_right"]) (fun_mk (st := s_law_gap) l22 c22 k22) fun _ _ _ _ _ _ us hl => match us, hl with | [_, _, _], _ => rfl),
    g_law_gap := PySem.W.mg_of X G a22,
    f_law_laid := f23,
    d_law_laid := _,
    k_law_laid := (fun_mk (st := s_law_laid) l23 c23 k23),
    b_law_laid := (Fun.binds (ps := ["_law_bag_here", "_law_words"]) (fun_mk (st := s_law_laid) l23 c23 k23) fun _ _ _ _ _ _ us hl => match us, hl with | [_, _], _ => rfl),
    g_law_laid := PySem.W.mg_of X G a23,
    f_law_fault := f24,
    d_law_fault := _,
    k_law_fault := (fun_mk (st := s_law_fault) l24 c24 k24),
    b_law_fault := (Fun.binds (ps := ["_law_bag_here"]) (fun_mk (st := s_law_fault) l24 c24 k24) fun _ _ _ _ _ _ us hl => match us, hl with | [_], _ => rfl),
    g_law_fault := PySem.W.mg_of X G a24,
    f_law_line := f25,
    d_law_line := _,
    k_law_line := (fun_mk (st := s_law_line) l25 c25 k25),
    b_law_line := (Fun.binds (ps := ["_law_value"]) (fun_mk (st := s_law_line) l25 c25 k25) fun _ _ _ _ _ _ us hl => match us, hl with | [_], _ => rfl),
    g_law_line := PySem.W.mg_of X G a25,
    f_law_parsed := f26,
    d_law_parsed := _,
    k_law_parsed := (fun_mk (st := s_law_parsed) l26 c26 k26),
    b_law_parsed := (Fun.binds (ps := ["_law_value"]) (fun_mk (st := s_law_parsed) l26 c26 k26) fun _ _ _ _ _ _ us hl => match us, hl with | [_], _ => rfl),
    g_law_parsed := PySem.W.mg_of X G a26,
    f_law := fa,
    d_law := _,
    k_law := (fun_mk (st := s_law) l27 c27 k27),
    b_law := (Fun.binds (ps := ["_law_script"]) (fun_mk (st := s_law) l27 c27 k27) fun _ _ _ _ _ _ us hl => match us, hl with | [_], _ => rfl),
    g_law := PySem.W.mg_of X G a27,
    c_CardError := c_CardError,
    g_CardError := PySem.W.mg_of X G aC_CardError,
    c_BadSource := c_BadSource,
    g_BadSource := PySem.W.mg_of X G aC_BadSource,
    c_Reader := c_Reader,
    g_Reader := PySem.W.mg_of X G aC_Reader,
    ox_BadSource := ⟨⟨_, _, _, _, _, _, _, _, _, _, _, _, _, _, _, w1oe, w2rv⟩, w3os, w4ob, w5ot, w6ok⟩,
    in_BadSource := w7in,
    ti_BadSource := w8ti,
    on_BadSource_line := w9on,
    on_BadSource_reason := w10on,
    xf_BadSource := ⟨w11xg, w12xh, w13xe, w14xd⟩,
    ex_BadSource_BadSource := exm_two w15eb w16ei w17et w18es,
    cl_Reader := ⟨w19pg, w20hd, w21po, w22sa⟩,
    me_Reader_read_package := ⟨w23at, w24fn, w25km⟩,
    mk_Reader := ⟨w26mk, w27in, w28fi, w29kc⟩,
    er_BadSource := ⟨⟨w30eg, w31ek, w32eb, w33ed, w34ea, w35en, w36et, w37em⟩, .cons kit_self (.nil), kit_own w38nes w39oc w40ot w41ou, kit_blt (by decide +kernel) w42ov⟩,
    m_all := PySem.W.mg_none_of X G z0,
    m_bool := PySem.W.mg_none_of X G z1,
    m_int := PySem.W.mg_none_of X G z2,
    m_isinstance := PySem.W.mg_none_of X G z3,
    m_len := PySem.W.mg_none_of X G z4,
    m_max := PySem.W.mg_none_of X G z5,
    m_min := PySem.W.mg_none_of X G z6,
    m_ord := PySem.W.mg_none_of X G z7,
    m_range := PySem.W.mg_none_of X G z8,
    m_str := PySem.W.mg_none_of X G z9,
    m_tuple := PySem.W.mg_none_of X G z10,
    t_MOST_SOURCE := tk0,
    g_MOST_SOURCE := PySem.W.mg_of X G y0,
    t_MOST_NAME := tk1,
    g_MOST_NAME := PySem.W.mg_of X G y1,
    t_MOST_TEXT := tk2,
    g_MOST_TEXT := PySem.W.mg_of X G y2,
    t_MOST_INT := tk3,
    g_MOST_INT := PySem.W.mg_of X G y3,
    t_LETTERS := tk4,
    g_LETTERS := PySem.W.mg_of X G y4,
    t_DIGITS := tk5,
    g_DIGITS := PySem.W.mg_of X G y5,
    a_KEYWORDS := qa6,
    g_KEYWORDS := PySem.W.mg_of X G y6,
    s_KEYWORDS := fun H => .inr ⟨_, _, _, u6, rfl, rfl, by show 34 ≤ sizeLine; decide, (.cons ⟨_, rfl⟩ (.cons ⟨_, rfl⟩ (.cons ⟨_, rfl⟩ (.cons ⟨_, rfl⟩ (.cons ⟨_, rfl⟩ (.cons ⟨_, rfl⟩ (.cons ⟨_, rfl⟩ (.cons ⟨_, rfl⟩ (.cons ⟨_, rfl⟩ (.cons ⟨_, rfl⟩ (.cons ⟨_, rfl⟩ (.cons ⟨_, rfl⟩ (.cons ⟨_, rfl⟩ (.cons ⟨_, rfl⟩ (.cons ⟨_, rfl⟩ (.cons ⟨_, rfl⟩ (.cons ⟨_, rfl⟩ (.cons ⟨_, rfl⟩ (.cons ⟨_, rfl⟩ (.cons ⟨_, rfl⟩ (.cons ⟨_, rfl⟩ (.cons ⟨_, rfl⟩ (.cons ⟨_, rfl⟩ (.cons ⟨_, rfl⟩ (.cons ⟨_, rfl⟩ (.cons ⟨_, rfl⟩ (.cons ⟨_, rfl⟩ (.cons ⟨_, rfl⟩ (.cons ⟨_, rfl⟩ (.cons ⟨_, rfl⟩ (.cons ⟨_, rfl⟩ (.cons ⟨_, rfl⟩ (.cons ⟨_, rfl⟩ (.cons ⟨_, rfl⟩ .nil))))))))))))))))))))))))))))))))))⟩,
    y_KEYWORDS := ⟨_, u6, rfl⟩,
    a_PAIRS := qa7,
    g_PAIRS := PySem.W.mg_of X G y7,
    s_PAIRS := fun H => .inr ⟨_, _, _, u7, rfl, rfl, by show 6 ≤ sizeLine; decide, (.cons ⟨_, rfl⟩ (.cons ⟨_, rfl⟩ (.cons ⟨_, rfl⟩ (.cons ⟨_, rfl⟩ (.cons ⟨_, rfl⟩ (.cons ⟨_, rfl⟩ .nil))))))⟩,
    y_PAIRS := ⟨_, u7, rfl⟩,
    t_SINGLES := tk8,
    g_SINGLES := PySem.W.mg_of X G y8,
    t_MOST_DIGITS := tk9,
    g_MOST_DIGITS := PySem.W.mg_of X G y9 }
  exact ⟨T.d_law, fun s v => .of_eq rfl, fun base _ _ => ok_law T⟩
end
end My
open PySem PySem.W PyProof.Rows
set_option maxHeartbeats 0 in
theorem PySem.Challenge.cw_warycard_k06_texts_that_cannot_be_split_holds : PySem.Challenge.rw_warycard_k06_texts_that_cannot_be_split.Holds := by
  w_on; o_law; k_head; (case hw => w_witness2)
  k_fill
  refine L2.walk_of (l := PySem.Challenge.rw_warycard_k06_texts_that_cannot_be_split) (n := 63) (k := 107) (x := "_law_script") (CX := fun _ => L2.CX0) (sp := fun w => My.sp_law _) rfl (by decide) rfl ⟨rfl, by decide, by decide⟩ (fun w h Y => PySem.W.kIn_of Y) ?F (fun _ _ a ns hl _ hS => ⟨a, ns, rfl, hS, hl, fun _ => rfl⟩) (fun _ _ _ _ _ h => h)
  case F =>
    intro w mg fa h KX G hmg
    refine' My.all_mk KX G hmg ?l0 ?c0 ?k0 ?a1 ?l1 ?c1 ?k1 ?a2 ?l2 ?c2 ?k2 ?a3 ?l3 ?c3 ?k3 ?a4 ?l4 ?c4 ?k4 ?a5 ?l5 ?c5 ?k5 ?a6 ?l6 ?c6 ?k6 ?a7 ?l7 ?c7 ?k7 ?a8 ?l8 ?c8 ?k8 ?a9 ?l9 ?c9 ?k9 ?a10 ?l10 ?c10 ?k10 ?l11 ?c11 ?k11 ?l12 ?c12 ?k12 ?a13 ?l13 ?c13 ?k13 ?a14 ?l14 ?c14 ?k14 ?a15 ?l15 ?c15 ?k15 ?a16 ?l16 ?c16 ?k16 ?a17 ?l17 ?c17 ?k17 ?a18 ?l18 ?c18 ?k18 ?a19 ?l19 ?c19 ?k19 ?a20 ?l20 ?c20 ?k20 ?a21 ?l21 ?c21 ?k21 ?a22 ?l22 ?c22 ?k22 ?a23 ?l23 ?c23 ?k23 ?a24 ?l24 ?c24 ?k24 ?a25 ?l25 ?c25 ?k25 ?a26 ?l26 ?c26 ?k26 ?a27 ?l27 ?c27 ?k27 ?aC_CardError ?aC_BadSource ?aC_Reader ?w1oe ?w2rv ?w3os ?w4ob ?w5ot ?w6ok ?w7in ?w8ti ?w9on ?w10on ?w11xg ?w12xh ?w13xe ?w14xd ?w15eb ?w16ei ?w17et ?w18es ?w19pg ?w20hd ?w21po ?w22sa ?w23at ?w24fn ?w25km ?w26mk ?w27in ?w28fi ?w29kc ?w30eg ?w31ek ?w32eb ?w33ed ?w34ea ?w35en ?w36et ?w37em ?w38nes ?w39oc ?w40ot ?w41ou ?w42ov ?z0 ?z1 ?z2 ?z3 ?z4 ?z5 ?z6 ?z7 ?z8 ?z9 ?z10 ?y0 ?y1 ?y2 ?y3 ?y4 ?y5 ?y6 ?u6 ?y7 ?u7 ?y8 ?y9
    (case a1 => k_is); (case a2 => k_is); (case a3 => k_is); (case a4 => k_is); (case a5 => k_is); (case a6 => k_is); (case a7 => k_is); (case a8 => k_is); (case a9 => k_is); (case a10 => k_is); (case a13 => k_is); (case a14 => k_is); (case a15 => k_is); (case a16 => k_is); (case a17 => k_is); (case a18 => k_is); (case a19 => k_is); (case a20 => k_is); (case a21 => k_is); (case a22 => k_is); (case a23 => k_is); (case a24 => k_is); (case a25 => k_is); (case a26 => k_is); (case a27 => k_is); (case aC_CardError => k_is); (case aC_BadSource => k_is); (case aC_Reader => k_is); (case z0 => k_is); (case z1 => k_is); (case z2 => k_is); (case z3 => k_is); (case z4 => k_is); (case z5 => k_is); (case z6 => k_is); (case z7 => k_is); (case z8 => k_is); (case z9 => k_is); (case z10 => k_is); (case y0 => k_is); (case y1 => k_is); (case y2 => k_is); (case y3 => k_is); (case y4 => k_is); (case y5 => k_is); (case y6 => k_is); (case y7 => k_is); (case y8 => k_is); (case y9 => k_is); (case w7in => k_is); (case w23at => k_is); (case w27in => k_is); (case l0 => k_is); (case l1 => k_is); (case l2 => k_is); (case l3 => k_is); (case l4 => k_is); (case l5 => k_is); (case l6 => k_is); (case l7 => k_is); (case l8 => k_is); (case l9 => k_is); (case l10 => k_is); (case l11 => k_is); (case l12 => k_is); (case l13 => k_is); (case l14 => k_is); (case l15 => k_is); (case l16 => k_is); (case l17 => k_is); (case l18 => k_is); (case l19 => k_is); (case l20 => k_is); (case l21 => k_is); (case l22 => k_is); (case l23 => k_is); (case l24 => k_is); (case l25 => k_is); (case l26 => k_is); (case l27 => k_is); (case w1oe => k_is); (case u6 => k_is); (case u7 => k_is); (case c0 => k_is); (case k0 => k_is); (case c1 => k_is); (case k1 => k_is); (case c2 => k_is); (case k2 => k_is); (case c3 => k_is); (case k3 => k_is); (case c4 => k_is); (case k4 => k_is); (case c5 => k_is); (case k5 => k_is); (case c6 => k_is); (case k6 => k_is); (case c7 => k_is); (case k7 => k_is); (case c8 => k_is); (case k8 => k_is); (case c9 => k_is); (case k9 => k_is); (case c10 => k_is); (case k10 => k_is); (case c11 => k_is); (case k11 => k_is); (case c12 => k_is); (case k12 => k_is); (case c13 => k_is); (case k13 => k_is); (case c14 => k_is); (case k14 => k_is); (case c15 => k_is); (case k15 => k_is); (case c16 => k_is); (case k16 => k_is); (case c17 => k_is); (case k17 => k_is); (case c18 => k_is); (case k18 => k_is); (case c19 => k_is); (case k19 => k_is); (case c20 => k_is); (case k20 => k_is); (case c21 => k_is); (case k21 => k_is); (case c22 => k_is); (case k22 => k_is); (case c23 => k_is); (case k23 => k_is); (case c24 => k_is); (case k24 => k_is); (case c25 => k_is); (case k25 => k_is); (case c26 => k_is); (case k26 => k_is); (case c27 => k_is); (case k27 => k_is); (case w2rv => rfl); (case w3os => k_is); (case w4ob => k_is); (case w5ot => k_is); (case w6ok => k_is); (case w8ti => k_is); (case w9on => k_is); (case w10on => k_is); (case w11xg => k_is); (case w12xh => k_is); (case w13xe => k_is); (case w14xd => k_is); (case w15eb => k_is); (case w16ei => k_is); (case w17et => k_is); (case w18es => first | rfl | k_is); (case w19pg => k_is); (case w20hd => k_is); (case w21po => k_is); (case w22sa => k_is); (case w24fn => k_is); (case w25km => k_is); (case w26mk => k_is); (case w28fi => k_is); (case w29kc => k_is); (case w30eg => k_is); (case w31ek => k_is); (case w32eb => k_is); (case w33ed => k_is); (case w34ea => k_is); (case w35en => k_is); (case w36et => k_is); (case w37em => k_is); (case w38nes => first | rfl | k_is); (case w39oc => k_is); (case w40ot => k_is); (case w41ou => k_is); (case w42ov => k_is)
#print axioms PySem.Challenge.cw_warycard_k06_texts_that_cannot_be_split_holds
