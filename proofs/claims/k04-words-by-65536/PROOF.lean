import PyProof.Rows.All
import Wide.All
import OpenK.AllK
import Wide.FinOn
import HandS.ForMost
import HandS.Wide
import HandS.IsInst
import HandS.Style
import HandS.Walk
import HandS.Codes
import PySem.Challenge.RW_warycard_k04_whole_words_are_numbers_by
set_option Elab.async false
set_option maxRecDepth 100000
set_option maxHeartbeats 4000000
namespace My
open PySem PySem.Spec PyProof.Rows L2
/-! ### readings -/
theorem OpR.imp' {X : Cx} {f : Value → Value → Sem Value} {r r' : R2} (h : OpR X f r) (i : ∀ x y H Q, r' x y H Q → r x y H Q) : OpR X f r' := fun pins s σ H x y u v Q I rx ry q => h pins s σ H x y u v Q I rx ry (i _ _ _ _ q)
theorem op_modP {X : Cx} : OpR X (binaryOp .Mod) (rI (fun _ j => 0 < j) fun i j => .int (i % j)) := OpR.imp' op_modN fun x y H Q ⟨i, j, e1, e2, hj, q⟩ => ⟨i, j, e1, e2, by have hj : 0 < j := hj; show j ≠ 0; omega, by
  have hj : 0 < j := hj
  have e : i.fmod j = i % j := Int.fmod_eq_emod_of_nonneg i (by omega)
  show Q (V.int (i.fmod j)) H
  rw [e]; exact q⟩
theorem rdSeq {t u : TS} {D : Ends} {σ : L2.St} {H : Hp} (h : t { D with nx := u D } σ H) : tSeq t u D σ H := h
/-- all that was tracked is kept but the list at a, which holds three ints -/
def Bag (H : Hp) (a : Addr) : Prop := ∃ x y z : Int, H a = some (.lst [.int x, .int y, .int z])
structure Mv (a : Addr) (H H' : Hp) : Prop where
  bag : Bag H' a
  old : ∀ b o, b ≠ a → H b = some o → H' b = some o
theorem Mv.refl {a : Addr} {H : Hp} (h : Bag H a) : Mv a H H := ⟨h, fun _ _ _ e => e⟩
theorem Mv.trans {a : Addr} {H H1 H2 : Hp} (h : Mv a H H1) (k : Mv a H1 H2) : Mv a H H2 := ⟨k.bag, fun b o n e => k.old b o n (h.old b o n e)⟩
theorem Mv.new {a p : Addr} {o : HO} {H H1 : Hp} (h : Mv a H H1) (n : H1 p = none) : Mv a H (upd H1 p o) := by
  obtain ⟨x, y, z, e⟩ := h.bag
  have ne : a ≠ p := fun q => by subst q; rw [n] at e; cases e
  exact ⟨⟨x, y, z, by rw [upd_ne ne]; exact e⟩, fun b u hb hu => by
    have := h.old b u hb hu
    rw [upd_ne (ne_of_none this n)]; exact this⟩
theorem Mv.ne {a p : Addr} {H H1 : Hp} (h : Mv a H H1) (n : H1 p = none) : p ≠ a := fun q => by
  obtain ⟨x, y, z, e⟩ := h.bag
  subst q; rw [n] at e; cases e
theorem Mv.free {a p : Addr} {H H1 : Hp} (h : Mv a H H1) (n : H1 p = none) : H p = none := by
  cases e : H p with
  | none => rfl
  | some o => rw [h.old p o (h.ne n) e] at n; cases n
theorem bag_ne {a p : Addr} {H : Hp} (h : Bag H a) (n : H p = none) : p ≠ a := fun q => by
  obtain ⟨x, y, z, e⟩ := h
  subst q; rw [n] at e; cases e
theorem sqL_of {K : PySem.W.Frag} {H : Hp} {a : Addr} {xs : List V} (h : H a = some (.lst xs)) : SqL K H a xs := .inl (.inl h)
theorem sqT_of {K : PySem.W.Frag} {H : Hp} {a : Addr} {xs : List V} (h : H a = some (.tup xs)) : SqT K H a xs := .inl (.inl h)
def rIntA : List V → Hp → VK → Prop := fun xs H Q => ∃ x, xs = [x] ∧ match x with
  | .int i => Q (.int i) H
  | .bl k => Q (.int (if k = true then 1 else 0)) H
  | _ => False
theorem call_intI {X : Cx} : CallR X (.type "int") rIntA := fun pins s σ H xs us Q I r ⟨x, e, q⟩ => by
  cases x with
  | int i => exact call_int1 pins s σ H xs us Q I r (.inl ⟨i, e, q⟩)
  | bl k => exact call_int1 pins s σ H xs us Q I r (.inr ⟨k, e, q⟩)
  | _ => exact False.elim q
/-- len of a list, of a tuple -/
def rLenL (K : PySem.W.Frag) : List V → Hp → VK → Prop := fun xs H Q => ∃ p ys, xs = [.ref p] ∧ SqL K H p ys ∧ Q (.int ys.length) H
def rLenT (K : PySem.W.Frag) : List V → Hp → VK → Prop := fun xs H Q => ∃ p ys, xs = [.ref p] ∧ SqT K H p ys ∧ Q (.int ys.length) H
theorem call_lenL {X : Cx} : CallR X (.builtin "len") (rLenL X.K) := fun pins s σ H xs us Q I r ⟨p, ys, e, h, q⟩ => call_len_seq pins s σ H xs us Q I r ⟨p, ys, e, .inl h, q⟩
theorem call_lenT {X : Cx} : CallR X (.builtin "len") (rLenT X.K) := fun pins s σ H xs us Q I r ⟨p, ys, e, h, q⟩ => call_len_seq pins s σ H xs us Q I r ⟨p, ys, e, .inr h, q⟩
theorem i_lenL {K : PySem.W.Frag} {H : Hp} {Q : VK} {p : Addr} {ys : List V} (h : SqL K H p ys) (q : Q (.int ys.length) H) : rLenL K [.ref p] H Q := ⟨p, ys, rfl, h, q⟩
theorem i_lenT {K : PySem.W.Frag} {H : Hp} {Q : VK} {p : Addr} {ys : List V} (h : SqT K H p ys) (q : Q (.int ys.length) H) : rLenT K [.ref p] H Q := ⟨p, ys, rfl, h, q⟩
theorem i_ixL {K : PySem.W.Frag} {H : Hp} {Q : VK} {p : Addr} {xs : List V} {i : Int} {v : V} (h : SqL K H p xs) (e : atI xs i = some v) (q : Q v H) : rIxL K (.ref p) (.int i) H Q := ⟨p, xs, i, v, rfl, rfl, h, e, q⟩
theorem i_ixT {K : PySem.W.Frag} {H : Hp} {Q : VK} {p : Addr} {xs : List V} {i : Int} {v : V} (h : SqT K H p xs) (e : atI xs i = some v) (q : Q v H) : rIxT K (.ref p) (.int i) H Q := ⟨p, xs, i, v, rfl, rfl, h, e, q⟩
theorem i_setL {H : Hp} {p : Addr} {xs : List V} {i : Int} {j : Nat} {v : V} {Q : Hp → Prop} (h : H p = some (.lst xs)) (e : ixN xs.length i = some j) (q : Q (upd H p (.lst (xs.set j v)))) : rSetL (.ref p) (.int i) v H Q := ⟨p, xs, i, j, rfl, rfl, h, e, q⟩
theorem i_lst {H : Hp} {xs : List V} {Q : VK} (hl : xs.length ≤ sizeLine) (q : ∀ p, H p = none → Q (.ref p) (upd H p (.lst xs))) : xs.length ≤ sizeLine ∧ ∀ p, H p = none → Q (.ref p) (upd H p (.lst xs)) := ⟨hl, q⟩
/-- an item at a drawn place of a written list -/
theorem at_of {α : Type} {xs : List α} {i : Int} (h0 : 0 ≤ i) (h1 : i < xs.length) : ∃ v, atI xs i = some v ∧ v ∈ xs := by
  obtain ⟨j, rfl⟩ := Int.eq_ofNat_of_zero_le h0
  have hi : j < xs.length := by omega
  exact ⟨xs[j], atI_nat (List.getElem?_eq_getElem hi), List.getElem_mem hi⟩
theorem pow18 : CPow 10 18 := ⟨by decide, by decide, by decide⟩
theorem cm_r {i j : Int} (h : decide (-(2 ^ 64) < j) && decide (j < 2 ^ 64) = true) : CMul i j := by
  simp only [Bool.and_eq_true, decide_eq_true_eq] at h
  exact .inr h
theorem cm_l {i j : Int} (h : decide (-(2 ^ 64) < i) && decide (i < 2 ^ 64) = true) : CMul i j := by
  simp only [Bool.and_eq_true, decide_eq_true_eq] at h
  exact .inl h
theorem i_isi {K : PySem.W.Frag} {H : Hp} {Q : VK} {x : V} {t c : String} {b : Bool} (ty : TyX K H x (.type t)) (hk : kitB t c = some b) (q : Q (.bl b) H) : rIsi K [x, .ty c] H Q := ⟨x, .ty c, .type t, .type c, b, rfl, .ty c, ty, kit_ty hk, q⟩
theorem ty_int {K : PySem.W.Frag} {H : Hp} {i : Int} : TyX K H (.int i) (.type "int") := .base (.int _)
theorem ty_bl {K : PySem.W.Frag} {H : Hp} {i : Bool} : TyX K H (.bl i) (.type "bool") := .base (.bl _)
theorem ty_str {K : PySem.W.Frag} {H : Hp} {i : Str} : TyX K H (.str i) (.type "str") := .base (.str _)
theorem ty_non {K : PySem.W.Frag} {H : Hp} : TyX K H .non (.type "NoneType") := .base .non
theorem kb_ii : kitB "int" "int" = some true := by decide +kernel
theorem kb_bi : kitB "bool" "int" = some true := by decide +kernel
theorem kb_ib : kitB "int" "bool" = some false := by decide +kernel
theorem kb_bb : kitB "bool" "bool" = some true := by decide +kernel
theorem pow17 : CPow 10 17 := ⟨by decide, by decide, by decide⟩
/-- for over range(n) -/
def rForR (lo : Int) (n : Nat) (g : TG) (tb : TS) : TS := fun D σ H => ∃ W : Nat → Nat → L2.St → Hp → Prop, (∃ m, W 0 m σ H) ∧ ∀ i m σ H, W i m σ H →
  ((Itr lo n).stop i H ∧ D.nx σ H) ∨ ((Itr lo n).go i H ∧ ∃ Nx : L2.St → Hp → Prop, (∀ σ' H', Nx σ' H' → ∃ m', m' < m ∧ W (i + 1) m' σ' H') ∧ ∀ x H', (Itr lo n).yld i H x H' → g x σ H' fun σ2 H2 => tb { D with nx := Nx, ct := Nx, bk := D.nx } σ2 H2)
theorem i_forR1 {ta : TA} {g : TG} {tb : TS} {D : Ends} {σ : L2.St} {H : Hp} (h : ta σ H fun vs H1 => ∃ j : Int, vs = [.int j] ∧ -(2 ^ 62) ≤ j ∧ j < 2 ^ 62 ∧ rForR 0 j.toNat g tb D σ H1) : tFor (iRng1 ta) g tb D σ H := h
theorem i_forR2 {ta : TA} {g : TG} {tb : TS} {D : Ends} {σ : L2.St} {H : Hp} (h : ta σ H fun vs H1 => ∃ i j : Int, vs = [.int i, .int j] ∧ (-(2 ^ 62) ≤ i ∧ i < 2 ^ 62 ∧ -(2 ^ 62) ≤ j ∧ j < 2 ^ 62) ∧ rForR i (j - i).toNat g tb D σ H1) : tFor (iRng2 ta) g tb D σ H := h
theorem i_loopR {lo : Int} {n : Nat} {j : Nat} {tb : TS} {D : Ends} {σ : L2.St} {H : Hp} (Pv : Nat → L2.St → Hp → Prop) (h0 : Pv 0 σ H)
    (hs : ∀ (i : Nat) σ H, i < n → Pv i σ H → tb { D with nx := Pv (i + 1), ct := Pv (i + 1), bk := D.nx } (σ.set j (some (.int (lo + i)))) H) (hd : ∀ σ H, Pv n σ H → D.nx σ H) : rForR lo n (gName j) tb D σ H := for_range Pv h0 hs hd
theorem i_else {c A B : Prop} [Decidable c] (h : ¬ c) (b : B) : if c then A else B := by rw [if_neg h]; exact b
theorem i_then {c A B : Prop} [Decidable c] (h : c) (a : A) : if c then A else B := by rw [if_pos h]; exact a
/-- two ways that meet -/
theorem i_both {c A B T : Prop} [Decidable c] (t : T) (h1 : c → T → A) (h2 : ¬ c → T → B) : if c then A else B := ite2 (fun h => h1 h t) (fun h => h2 h t)
theorem ty_tup {K : PySem.W.Frag} {H : Hp} {p : Addr} {xs : List V} (h : H p = some (.tup xs)) : TyX K H (.ref p) (.type "tuple") := .base (.tup h)
theorem ty_lst {K : PySem.W.Frag} {H : Hp} {p : Addr} {xs : List V} (h : H p = some (.lst xs)) : TyX K H (.ref p) (.type "list") := .base (.lst h)
theorem kb_ni : kitB "NoneType" "int" = some false := by decide +kernel
theorem kb_si : kitB "str" "int" = some false := by decide +kernel
theorem kb_li : kitB "list" "int" = some false := by decide +kernel
theorem kb_ti : kitB "tuple" "int" = some false := by decide +kernel
theorem kb_di : kitB "dict" "int" = some false := by decide +kernel
/-! ### loops by what is walked -/
def rForJ (J : It) (g : TG) (tb : TS) : TS := fun D σ H => ∃ W : Nat → Nat → L2.St → Hp → Prop, (∃ m, W 0 m σ H) ∧ ∀ i m σ H, W i m σ H →
  (J.stop i H ∧ D.nx σ H) ∨ (J.go i H ∧ ∃ Nx : L2.St → Hp → Prop, (∀ σ' H', Nx σ' H' → ∃ m', m' < m ∧ W (i + 1) m' σ' H') ∧ ∀ x H', J.yld i H x H' → g x σ H' fun σ2 H2 => tb { D with nx := Nx, ct := Nx, bk := D.nx } σ2 H2)
theorem tFor_J {wi : TI} {g : TG} {tb : TS} {D : Ends} {σ : L2.St} {H : Hp} : tFor wi g tb D σ H = wi σ H fun J H1 => rForJ J g tb D σ H1 := rfl
def rLcJ (J : It) (g : TG) (tt : TT) (te : TE) (vs : List Nat) : TE := fun σ H1 Q => ∀ D, H1 D = none → ∃ W : Nat → Nat → Hp → Prop, (∃ m, W 0 m (upd H1 D (.lst []))) ∧ ∀ i m H, W i m H →
  (J.stop i H ∧ Q (.ref D) H) ∨ (J.go i H ∧ ∃ Nx : Hp → Prop, (∀ H', Nx H' → ∃ m', m' < m ∧ W (i + 1) m' H') ∧ ∀ x H', J.yld i H x H' → g x (wipe σ vs) H' fun σ2 H2 => wipe σ2 vs = wipe σ vs ∧ tt σ2 H2 fun b H3 =>
    if b = true then te σ2 H3 fun y H4 => ∃ acc, H4 D = some (.lst acc) ∧ acc.length < sizeLine ∧ Nx (upd H4 D (.lst (acc ++ [y]))) else Nx H3)
theorem tLc_J {wi : TI} {g : TG} {tt : TT} {te : TE} {vs : List Nat} {σ : L2.St} {H : Hp} {Q : VK} : tLc wi g tt te vs σ H Q = wi σ H fun J H1 => rLcJ J g tt te vs σ H1 Q := rfl
theorem i_for {J : It} {n : Nat} {G : Hp → Prop} {Y : Nat → Hp → V → Hp → Prop} (w : Walk J n G Y) {j : Nat} {tb : TS} {D : Ends} {σ : L2.St} {H : Hp} (Pv : Nat → L2.St → Hp → Prop) (h0 : Pv 0 σ H) (hG : ∀ i σ H, i ≤ n → Pv i σ H → G H)
    (hs : ∀ i x σ H H', i < n → Pv i σ H → Y i H x H' → tb { D with nx := Pv (i + 1), ct := Pv (i + 1), bk := D.nx } (σ.set j (some x)) H') (hd : ∀ σ H, Pv n σ H → D.nx σ H) : rForJ J (gName j) tb D σ H := for_it w Pv h0 hG hs hd
theorem wipe_one {σ : L2.St} {j : Nat} {x : V} : wipe ((wipe σ [j]).set j (some x)) [j] = wipe σ [j] := by
  show ((σ.set j none).set j (some x)).set j none = σ.set j none
  rw [List.set_set, List.set_set]
def YL {α : Type} (l : List α) (r : α → V) : Nat → Hp → V → Hp → Prop := fun i H v H' => H' = H ∧ ∃ c, l[i]? = some c ∧ v = r c
/-- [e for x in ..], e without an effect -/
theorem i_lcL {α : Type} {J : It} {l : List α} {r : α → V} {G : Hp → Prop} (w : Walk J l.length G (YL l r)) {j : Nat} {te : TE} {σ : L2.St} {H : Hp} {Q : VK} (g : α → V) (hn : l.length < sizeLine) (hG : ∀ D ys, H D = none → G (upd H D (.lst ys)))
    (hs : ∀ c ∈ l, ∀ H1 (Q' : VK), Same H H1 → Q' (g c) H1 → te ((wipe σ [j]).set j (some (r c))) H1 Q') (q : ∀ D, H D = none → Q (.ref D) (upd H D (.lst (l.map g)))) : rLcJ J (gName j) tYes te [j] σ H Q := by
  intro D hD
  refine lc_it w (fun i H' => H' = upd H D (.lst ((l.take i).map g))) rfl (fun i H' _ e => by subst e; exact hG D _ hD) (fun i x H1 H2 hi e y => ?_) (fun H' e => by subst e; rw [List.take_length]; exact q D hD)
  obtain ⟨e2, c, hc, rfl⟩ := y
  subst e2
  refine ⟨wipe_one, hs c (List.mem_of_getElem? hc) H2 (fun y H4 => ∃ acc, H4 D = some (.lst acc) ∧ acc.length < sizeLine ∧ upd H4 D (.lst (acc ++ [y])) = upd H D (.lst ((l.take (i + 1)).map g))) (by subst e; intro b o h; rw [upd_ne (ne_of_none h hD)]; exact h) ?_⟩
  subst e
  refine ⟨_, upd_same, by rw [List.length_map, List.length_take]; omega, ?_⟩
  rw [upd_upd, List.take_add_one, hc, List.map_append]; rfl
/-- for x in ..: if not p: return False -/
theorem i_forall {α : Type} {J : It} {l : List α} {r : α → V} {G : Hp → Prop} (w : Walk J l.length G (YL l r)) {j : Nat} {tb : TS} {D : Ends} {σ : L2.St} {H : Hp} (p : α → Bool) (v : V) (hG : G H)
    (hs : ∀ c ∈ l, ∀ D' : Ends, (p c = true → D'.nx (σ.set j (some (r c))) H) → (p c = false → D'.rt v H) → tb D' (σ.set j (some (r c))) H) (h1 : l.all p = true → D.nx σ H ∧ ∀ u, D.nx (σ.set j u) H) (h2 : l.all p = false → D.rt v H) : rForJ J (gName j) tb D σ H := by
  refine i_for w (fun i σ' H' => H' = H ∧ (σ' = σ ∨ ∃ u, σ' = σ.set j u) ∧ ∀ c ∈ l.take i, p c = true) ⟨rfl, .inl rfl, by simp⟩ (fun i σ' H' _ h => by rw [h.1]; exact hG) ?_ ?_
  · rintro i x σ' H' H2 hi ⟨rfl, hσ, hp⟩ ⟨rfl, c, hc, rfl⟩
    have hm := List.mem_of_getElem? hc
    have es : σ'.set j (some (r c)) = σ.set j (some (r c)) := by
      rcases hσ with rfl | ⟨u, rfl⟩
      · rfl
      · rw [List.set_set]
    rw [es]
    refine hs c hm _ (fun hpc => ⟨rfl, .inr ⟨_, rfl⟩, fun d hd => ?_⟩) (fun hpc => h2 ?_)
    · rw [List.take_add_one, hc] at hd
      rcases List.mem_append.mp hd with h | h
      · exact hp d h
      · rw [List.mem_singleton.mp h]; exact hpc
    · rw [List.all_eq_false]
      exact ⟨c, hm, by rw [hpc]; simp⟩
  · rintro σ' H' ⟨rfl, hσ, hp⟩
    rw [List.take_length] at hp
    have h := h1 (List.all_eq_true.mpr hp)
    rcases hσ with rfl | ⟨u, rfl⟩
    · exact h.1
    · exact h.2 u
/-- [e for x in ..], e draws from the bag at a -/
theorem i_lcD {J : It} {n : Nat} {G : Hp → Prop} {Y : Nat → Hp → V → Hp → Prop} (w : Walk J n G Y) {a : Addr} {j : Nat} {te : TE} {σ : L2.St} {H : Hp} {Q : VK} (hB : Bag H a) (P : V → Prop) (hn : n < sizeLine) (hG : ∀ H', Mv a H H' → G H') (hY : ∀ i H x H', Y i H x H' → H' = H)
    (hs : ∀ i x H1 (Q' : VK), i < n → Y i H1 x H1 → Mv a H H1 → (∀ y H2, P y → Mv a H1 H2 → Q' y H2) → te ((wipe σ [j]).set j (some x)) H1 Q') (q : ∀ D H' ys, H D = none → Mv a H H' → H' D = some (.lst ys) → ys.length = n → (∀ y ∈ ys, P y) → Q (.ref D) H') : rLcJ J (gName j) tYes te [j] σ H Q := by
  intro D hD
  have nD := bag_ne hB hD
  refine lc_it w (fun i H' => Mv a H H' ∧ ∃ ys, H' D = some (.lst ys) ∧ ys.length = i ∧ ∀ y ∈ ys, P y) ⟨(Mv.refl hB).new hD, [], upd_same, rfl, fun _ h => nomatch h⟩ (fun i H' _ e => hG H' e.1) (fun i x H1 H2 hi e y => ?_) (fun H' e => ?_)
  · have e2 := hY i H1 x H2 y
    subst e2
    obtain ⟨mv, ys, e1, e2, e3⟩ := e
    refine ⟨wipe_one, hs i x H2 (fun y H4 => ∃ acc, H4 D = some (.lst acc) ∧ acc.length < sizeLine ∧ (Mv a H (upd H4 D (.lst (acc ++ [y]))) ∧ ∃ ys, upd H4 D (.lst (acc ++ [y])) D = some (.lst ys) ∧ ys.length = i + 1 ∧ ∀ y ∈ ys, P y)) hi y mv fun v H3 hv mv3 => ?_⟩
    refine ⟨ys, mv3.old D _ nD e1, by omega, ?_⟩
    have m3 := mv.trans mv3
    refine ⟨⟨?_, fun b o hb e => ?_⟩, ys ++ [v], upd_same, by simp [e2], fun y hy => ?_⟩
    · obtain ⟨x1, x2, x3, hx⟩ := m3.bag
      exact ⟨x1, x2, x3, by rw [upd_ne nD.symm]; exact hx⟩
    · rw [upd_ne (ne_of_none e hD)]; exact m3.old b o hb e
    · rcases List.mem_append.mp hy with h | h
      · exact e3 y h
      · rw [List.mem_singleton.mp h]; exact hv
  · obtain ⟨mv, ys, e1, e2, e3⟩ := e
    exact q D H' ys hD mv e1 e2 e3
theorem rdCut {t u : TS} {D : Ends} {σ : L2.St} {H : Hp} (Mid : L2.St → Hp → Prop) (h : t { D with nx := Mid } σ H) (k : ∀ σ' H', Mid σ' H' → u D σ' H') : C8.tCut t u D σ H := ⟨Mid, h, k⟩
theorem pow9 : CPow 10 9 := ⟨by decide, by decide, by decide⟩
theorem pow8 : CPow 10 8 := ⟨by decide, by decide, by decide⟩
theorem pow12 : CPow 10 12 := ⟨by decide, by decide, by decide⟩
theorem walk_rangeL {lo : Int} {n : Nat} : Walk (Itr lo n) (List.range n).length (fun _ => True) (YL (List.range n) fun i => .int (lo + i)) := by
  rw [List.length_range]
  exact walk_range.mono (fun _ h => h) fun i H x H' hi _ y => ⟨y.1, i, by rw [List.getElem?_range hi], y.2⟩
theorem i_app {H : Hp} {l : Addr} {xs : List V} {v : V} {Q : VK} (h : H l = some (.lst xs)) (hz : xs.length < sizeLine) (q : Q .non (upd H l (.lst (xs ++ [v])))) : rAppend (.ref l) [v] H Q := ⟨l, xs, v, rfl, rfl, h, hz, q⟩
theorem ty_app {K : PySem.W.Frag} {H : Hp} {l : Addr} {xs : List V} (h : SqL K H l xs) : tyV K "list" (.ref l) H := .inl ⟨rfl, xs, h⟩
theorem i_slL {K : PySem.W.Frag} {H : Hp} {a : Addr} {xs : List V} {lo hi : Option Int} {Q : VK} (h : SqL K H a xs) (q : ∀ p, H p = none → Q (.ref p) (upd H p (.lst (cutV xs lo hi)))) : rSlL K (.ref a) lo hi H Q := ⟨a, xs, rfl, h, q⟩
theorem i_cat {H : Hp} {l b : Addr} {xs zs : List V} {Q : VK} (h1 : H l = some (.lst xs)) (h2 : H b = some (.lst zs)) (hz : xs.length + zs.length ≤ sizeLine) (q : ∀ p, H p = none → Q (.ref p) (upd H p (.lst (xs ++ zs)))) : rCat (.ref l) (.ref b) H Q := ⟨l, b, xs, zs, rfl, rfl, h1, h2, hz, q⟩
theorem i_inL {K : PySem.W.Frag} {neg : Bool} {x : V} {H : Hp} {p : Addr} {xs : List V} {Q : VK} (h : SqL K H p xs ∨ SqT K H p xs) (h1 : flatV x = true) (h2 : xs.all flatV = true) (q : Q (.bl (if neg then !inV x xs else inV x xs)) H) : rIn K neg x (.ref p) H Q := ⟨p, xs, rfl, h, h1, h2, q⟩
theorem cut_take {xs : List V} {n : Nat} : cutV xs none (some (n : Int)) = xs.take n := by
  unfold cutV
  rw [HT.sIx_none, HT.sIx_nat]
  simp only [List.drop_zero, Nat.sub_zero]
  rw [Nat.min_comm, ← List.take_take, List.take_of_length_le (by rw [List.length_take]; omega)]
theorem cut_drop {xs : List V} {n : Nat} : cutV xs (some (n : Int)) none = xs.drop n := by
  unfold cutV
  rw [HT.sIx_none, HT.sIx_nat]
  by_cases h : n ≤ xs.length
  · rw [Nat.min_eq_left h, List.take_of_length_le (by rw [List.length_drop]; omega)]
  · rw [Nat.min_eq_right (by omega), List.drop_of_length_le (by omega), List.drop_of_length_le (by omega)]; simp
theorem line5 {n : Nat} (h : n ≤ 100000) : n ≤ sizeLine := Nat.le_trans h (by decide)
theorem line5' {n : Nat} (h : n ≤ 100000) : n < sizeLine := Nat.lt_of_le_of_lt h (by decide)
/-! ### the same rules with the written part named (for a comprehension's block) -/
theorem ix_listK (K : PySem.W.Frag) {X : Cx} (h : X.K = K := by rfl) : IxR X (rIxL K) := h ▸ ix_list
theorem ix_tupK (K : PySem.W.Frag) {X : Cx} (h : X.K = K := by rfl) : IxR X (rIxT K) := h ▸ ix_tup
theorem sl_listK (K : PySem.W.Frag) {X : Cx} (h : X.K = K := by rfl) : SlR X (rSlL K) := h ▸ sl_list
theorem sl_tupK (K : PySem.W.Frag) {X : Cx} (h : X.K = K := by rfl) : SlR X (rSlT K) := h ▸ sl_tup
theorem lenLK (K : PySem.W.Frag) {X : Cx} (h : X.K = K := by rfl) : CallR X (.builtin "len") (rLenL K) := h ▸ call_lenL
theorem lenTK (K : PySem.W.Frag) {X : Cx} (h : X.K = K := by rfl) : CallR X (.builtin "len") (rLenT K) := h ▸ call_lenT
theorem isiK (K : PySem.W.Frag) {X : Cx} (h : X.K = K := by rfl) : CallR X (.builtin "isinstance") (rIsi K) := h ▸ call_isi
theorem isiTK (K : PySem.W.Frag) {X : Cx} (h : X.K = K := by rfl) : CallR X (.builtin "isinstance") (rIsiT K) := h ▸ call_isiT
theorem in_seqK (K : PySem.W.Frag) {X : Cx} (h : X.K = K := by rfl) : OpR X (compareOp .In) (rIn K false) := h ▸ op_in_seq
theorem notIn_seqK (K : PySem.W.Frag) {X : Cx} (h : X.K = K := by rfl) : OpR X (compareOp .NotIn) (rIn K true) := h ▸ op_notIn_seq
theorem i_indexS {K : PySem.W.Frag} {H : Hp} {Q : VK} {p : Addr} {l : List Str} {s : Str} {j : Nat} (h : SqL K H p (l.map V.str)) (hj : l[j]? = some s) (hn : s ∉ l.take j) (q : Q (.int (j : Nat)) H) : rIndex K (.ref p) [.str s] H Q := by
  refine ⟨p, _, .str s, j, .str s, rfl, rfl, h, rfl, ?_, by rw [List.getElem?_map, hj]; rfl, by simp [eqV], ?_, q⟩
  · rw [List.all_map, List.all_eq_true]; intro x _; rfl
  · intro m z hm hz
    rw [List.getElem?_map] at hz
    cases e : l[m]? with
    | none => rw [e] at hz; cases hz
    | some t =>
      rw [e] at hz
      have hz : V.str t = z := Option.some.inj hz
      subst hz
      show (t == s) = false
      rw [beq_eq_false_iff_ne]
      intro et; subst et
      exact hn (List.mem_of_getElem? (by rw [List.getElem?_take_of_lt hm]; exact e))
theorem walk_listL {K : PySem.W.Frag} {a : Addr} {α : Type} {l : List α} {r : α → V} : Walk (Itl K a) l.length (fun H => SqL K H a (l.map r)) (YL l r) := by
  have w := walk_list (K := K) (a := a) (xs := l.map r)
  rw [List.length_map] at w
  exact w.mono (fun _ h => h) fun i H x H' hi _ y => ⟨y.1, l[i], List.getElem?_eq_getElem hi, by
    have := y.2
    rw [List.getElem?_map, List.getElem?_eq_getElem hi] at this
    exact (Option.some.inj this).symm⟩
theorem walk_tupL {K : PySem.W.Frag} {a : Addr} {α : Type} {l : List α} {r : α → V} : Walk (Itt K a) l.length (fun H => SqT K H a (l.map r)) (YL l r) := by
  have w := walk_tup (K := K) (a := a) (xs := l.map r)
  rw [List.length_map] at w
  exact w.mono (fun _ h => h) fun i H x H' hi _ y => ⟨y.1, l[i], List.getElem?_eq_getElem hi, by
    have := y.2
    rw [List.getElem?_map, List.getElem?_eq_getElem hi] at this
    exact (Option.some.inj this).symm⟩
theorem dpStrs {K : PySem.W.Frag} {H : Hp} : ∀ l : List Str, DpAll K H (l.map V.str) (l.map PyData.str)
  | [] => .nil
  | x :: l => .cons (.str x) (dpStrs l)
theorem dpInts {K : PySem.W.Frag} {H : Hp} : ∀ l : List Int, DpAll K H (l.map V.int) (l.map PyData.int)
  | [] => .nil
  | x :: l => .cons (.int x) (dpInts l)
theorem kb_tt : kitB "tuple" "tuple" = some true := by decide +kernel
theorem pow15 : CPow 10 15 := ⟨by decide, by decide, by decide⟩
theorem sc_ii {a b : Int} : scal (.int a) (.int b) = true := rfl
theorem sc_ss {a b : Str} : scal (.str a) (.str b) = true := rfl
theorem sc_bb {a b : Bool} : scal (.bl a) (.bl b) = true := rfl
theorem sc_in {a : Int} : scal (.int a) .non = true := rfl
theorem sc_ni {a : Int} : scal .non (.int a) = true := rfl
theorem sc_nn : scal .non .non = true := rfl
theorem sc_is {a : Int} {b : Str} : scal (.int a) (.str b) = true := rfl
theorem sc_si {a : Int} {b : Str} : scal (.str b) (.int a) = true := rfl
theorem sc_ns {b : Str} : scal .non (.str b) = true := rfl
theorem sc_sn {b : Str} : scal (.str b) .non = true := rfl
theorem sc_bn {b : Bool} : scal (.bl b) .non = true := rfl
theorem sc_nb {b : Bool} : scal .non (.bl b) = true := rfl
theorem sc_sb {b : Bool} {a : Str} : scal (.str a) (.bl b) = true := rfl
theorem sc_bs {b : Bool} {a : Str} : scal (.bl b) (.str a) = true := rfl

local macro_rules | `(tactic| walk_at "rd") => `(tactic| try simp only [L2.start, cxOf, tVar, tC, tOp, tUn, rI0, rI, rU, tCB, tCons, tNil, tAsg, gName, gSub, tDrop, tSub, tAdd, tMul, tCmp, t2I, tIsN, tNotN, tRet, rIntA, tDNewK, wipe, tFor_J, tLc_J, iRng1, iRng2, iList, iTup, iStr, tM1, tM0, tBM, tBM0, tSl, tPart, tNoPart, tLst, tTup, sizeLine_eq, Nat.reduceLeDiff, true_and, tIfS, tTest, tB, tAnd, tOr, tNot, tAndV, tOrV, tNotV, tChain, rEq, rNe, rNotB, rIsB, sc_ii, sc_ss, sc_bb, sc_in, sc_ni, sc_nn, sc_is, sc_si, sc_ns, sc_sn, sc_bn, sc_nb, sc_sb, sc_bs, tCall, tNext,  List.map, List.length, List.replicate, List.cons_append, List.nil_append, List.append_nil, List.getElem?_cons_zero, List.getElem?_cons_succ, List.set_cons_zero, List.set_cons_succ, Option.some.injEq, exists_eq_left', exists_eq_left, exists_eq', V.int.injEq, V.str.injEq, V.ref.injEq, V.bl.injEq, List.cons.injEq, and_true, true_and, and_assoc, exists_and_left, Int.reduceLT, Int.reduceNeg, Int.reduceLE, ↓reduceIte, Bool.false_eq_true, Bool.not_true, Bool.not_false, reduceCtorEq, false_and, and_false, exists_false, or_false, false_or, Nat.reduceAdd, Nat.reduceSub, decide_eq_true_eq, decide_true, decide_false])

def topS (i : Nat) : Stmt := PySem.Challenge.pw_warycard_k04_whole_words_are_numbers_by.main.body.getD i (.Pass ⟨0, 0, 0, 0⟩)
abbrev s_wrap : Stmt := topS 2
theorem sc_wrap : FnScope ["number"] ["number"] (defScope s_wrap) := ⟨rfl, rfl, rfl, by decide +kernel, rfl, by decide +kernel, by decide +kernel⟩
abbrev s_divided : Stmt := topS 3
theorem sc_divided : FnScope ["left", "right", "size"] ["left", "right"] (defScope s_divided) := ⟨rfl, rfl, rfl, by decide +kernel, rfl, by decide +kernel, by decide +kernel⟩
abbrev s_arithmetic : Stmt := topS 4
theorem sc_arithmetic : FnScope ["sign", "left", "right"] ["sign", "left", "right"] (defScope s_arithmetic) := ⟨rfl, rfl, rfl, by decide +kernel, rfl, by decide +kernel, by decide +kernel⟩
abbrev s_compared : Stmt := topS 5
theorem sc_compared : FnScope ["sign", "left", "right"] ["sign", "left", "right"] (defScope s_compared) := ⟨rfl, rfl, rfl, by decide +kernel, rfl, by decide +kernel, by decide +kernel⟩
abbrev s_op : Stmt := topS 6
theorem sc_op : FnScope ["sign", "left", "right", "quotient"] ["sign", "left", "right"] (defScope s_op) := ⟨rfl, rfl, rfl, by decide +kernel, rfl, by decide +kernel, by decide +kernel⟩
abbrev s_law_bag : Stmt := topS 8
theorem sc_law_bag : FnScope ["_law_script", "_law_k", "_law_cell"] ["_law_script", "_law_k"] (defScope s_law_bag) := ⟨rfl, rfl, rfl, by decide +kernel, rfl, by decide +kernel, by decide +kernel⟩
abbrev s_law_draw : Stmt := topS 9
theorem sc_law_draw : FnScope ["_law_bag_here", "_law_many", "_law_seed", "_law_rest"] ["_law_bag_here", "_law_many"] (defScope s_law_draw) := ⟨rfl, rfl, rfl, by decide +kernel, rfl, by decide +kernel, by decide +kernel⟩
abbrev s_law_integer : Stmt := topS 10
theorem sc_law_integer : FnScope ["_law_bag_here", "_law_number"] ["_law_bag_here"] (defScope s_law_integer) := ⟨rfl, rfl, rfl, by decide +kernel, rfl, by decide +kernel, by decide +kernel⟩
abbrev s_law_power : Stmt := topS 11
theorem sc_law_power : FnScope ["_law_many", "_law_power_here", "_law_k"] ["_law_many"] (defScope s_law_power) := ⟨rfl, rfl, rfl, by decide +kernel, rfl, by decide +kernel, by decide +kernel⟩
abbrev s_law_ring : Stmt := topS 12
theorem sc_law_ring : FnScope ["_law_one", "_law_two", "_law_three", "_law_left", "_law_right", "_law_last", "_law_sign"] ["_law_one", "_law_two", "_law_three"] (defScope s_law_ring) := ⟨rfl, rfl, rfl, by decide +kernel, rfl, by decide +kernel, by decide +kernel⟩
abbrev s_law_division : Stmt := topS 13
theorem sc_law_division : FnScope ["_law_left", "_law_right", "_law_power_here", "_law_down", "_law_rest"] ["_law_left", "_law_right"] (defScope s_law_division) := ⟨rfl, rfl, rfl, by decide +kernel, rfl, by decide +kernel, by decide +kernel⟩
abbrev s_law_compared : Stmt := topS 14
theorem sc_law_compared : FnScope ["_law_left", "_law_right", "_law_less", "_law_same", "_law_more"] ["_law_left", "_law_right"] (defScope s_law_compared) := ⟨rfl, rfl, rfl, by decide +kernel, rfl, by decide +kernel, by decide +kernel⟩
abbrev s_law : Stmt := topS 15
theorem sc_law : FnScope ["_law_script", "_law_k", "_law_bag_here", "_law_one", "_law_two", "_law_three"] ["_law_script"] (defScope s_law) := ⟨rfl, rfl, rfl, by decide +kernel, rfl, by decide +kernel, by decide +kernel⟩
/-- what the top has left -/
structure Txt (K : PySem.W.Frag) (mg : Str → Option Value) where
  f_wrap : Addr
  d_wrap : FuncData
  k_wrap : Fun K "wrap" "wrap" s_wrap f_wrap d_wrap
  b_wrap : Binds K d_wrap ["number"] []
  g_wrap : mg "wrap" = some (.ref f_wrap)
  f_divided : Addr
  d_divided : FuncData
  k_divided : Fun K "divided" "divided" s_divided f_divided d_divided
  b_divided : Binds K d_divided ["left", "right"] []
  g_divided : mg "divided" = some (.ref f_divided)
  f_arithmetic : Addr
  d_arithmetic : FuncData
  k_arithmetic : Fun K "arithmetic" "arithmetic" s_arithmetic f_arithmetic d_arithmetic
  b_arithmetic : Binds K d_arithmetic ["sign", "left", "right"] []
  g_arithmetic : mg "arithmetic" = some (.ref f_arithmetic)
  f_compared : Addr
  d_compared : FuncData
  k_compared : Fun K "compared" "compared" s_compared f_compared d_compared
  b_compared : Binds K d_compared ["sign", "left", "right"] []
  g_compared : mg "compared" = some (.ref f_compared)
  f_op : Addr
  d_op : FuncData
  k_op : Fun K "op" "op" s_op f_op d_op
  b_op : Binds K d_op ["sign", "left", "right"] []
  g_op : mg "op" = some (.ref f_op)
  f_law_bag : Addr
  d_law_bag : FuncData
  k_law_bag : Fun K "_law_bag" "_law_bag" s_law_bag f_law_bag d_law_bag
  b_law_bag : Binds K d_law_bag ["_law_script", "_law_k"] []
  g_law_bag : mg "_law_bag" = some (.ref f_law_bag)
  f_law_draw : Addr
  d_law_draw : FuncData
  k_law_draw : Fun K "_law_draw" "_law_draw" s_law_draw f_law_draw d_law_draw
  b_law_draw : Binds K d_law_draw ["_law_bag_here", "_law_many"] []
  g_law_draw : mg "_law_draw" = some (.ref f_law_draw)
  f_law_integer : Addr
  d_law_integer : FuncData
  k_law_integer : Fun K "_law_integer" "_law_integer" s_law_integer f_law_integer d_law_integer
  b_law_integer : Binds K d_law_integer ["_law_bag_here"] []
  g_law_integer : mg "_law_integer" = some (.ref f_law_integer)
  f_law_power : Addr
  d_law_power : FuncData
  k_law_power : Fun K "_law_power" "_law_power" s_law_power f_law_power d_law_power
  b_law_power : Binds K d_law_power ["_law_many"] []
  g_law_power : mg "_law_power" = some (.ref f_law_power)
  f_law_ring : Addr
  d_law_ring : FuncData
  k_law_ring : Fun K "_law_ring" "_law_ring" s_law_ring f_law_ring d_law_ring
  b_law_ring : Binds K d_law_ring ["_law_one", "_law_two", "_law_three"] []
  g_law_ring : mg "_law_ring" = some (.ref f_law_ring)
  f_law_division : Addr
  d_law_division : FuncData
  k_law_division : Fun K "_law_division" "_law_division" s_law_division f_law_division d_law_division
  b_law_division : Binds K d_law_division ["_law_left", "_law_right"] []
  g_law_division : mg "_law_division" = some (.ref f_law_division)
  f_law_compared : Addr
  d_law_compared : FuncData
  k_law_compared : Fun K "_law_compared" "_law_compared" s_law_compared f_law_compared d_law_compared
  b_law_compared : Binds K d_law_compared ["_law_left", "_law_right"] []
  g_law_compared : mg "_law_compared" = some (.ref f_law_compared)
  f_law : Addr
  d_law : FuncData
  k_law : Fun K "law" "law" s_law f_law d_law
  b_law : Binds K d_law ["_law_script"] []
  g_law : mg "law" = some (.ref f_law)
  m_abs : mg "abs" = none
  m_int : mg "int" = none
  m_len : mg "len" = none
  m_max : mg "max" = none
  m_min : mg "min" = none
  m_range : mg "range" = none
  m_sorted : mg "sorted" = none
  t_LEAST : Tok
  g_LEAST : mg "LEAST" = some (.int (-32768) t_LEAST)
/-! ### bits of integers, lowest first -/
def bitsL : Nat → Int → List Int
  | 0, _ => []
  | n + 1, x => x % 2 :: bitsL n (x / 2)
def sumL : List Int → List Int → Int → List Int
  | a :: xs, b :: ys, c => (a + b + c) % 2 :: sumL xs ys ((a + b + c) / 2)
  | _, _, _ => []
def valL : Nat → List Int → Int
  | _, [] => 0
  | 0, b :: _ => -b
  | n + 1, b :: r => b + 2 * valL n r
theorem bitsL_length : ∀ (n : Nat) (x : Int), (bitsL n x).length = n
  | 0, _ => rfl
  | n + 1, x => by rw [bitsL, List.length_cons, bitsL_length n]
theorem bitsL_01 : ∀ (n : Nat) (x : Int), ∀ b ∈ bitsL n x, b = 0 ∨ b = 1
  | 0, _, b, h => nomatch h
  | n + 1, x, b, h => by
    rw [bitsL] at h
    rcases List.mem_cons.mp h with rfl | h
    · omega
    · exact bitsL_01 n _ b h
theorem bitsL_sum : ∀ (n : Nat) (x y c : Int), sumL (bitsL n x) (bitsL n y) c = bitsL n (x + y + c)
  | 0, _, _, _ => rfl
  | n + 1, x, y, c => by
    rw [bitsL, bitsL, sumL, bitsL_sum n, bitsL]
    congr 1
    · omega
    · congr 1; omega
theorem bitsL_mod : ∀ (n : Nat) (x y k : Int), x = y + 2 ^ n * k → bitsL n x = bitsL n y
  | 0, _, _, _, _ => rfl
  | n + 1, x, y, k, h => by
    have e : (2 : Int) ^ (n + 1) * k = 2 * (2 ^ n * k) := by rw [Int.pow_succ]; simp only [Int.mul_assoc, Int.mul_comm, Int.mul_left_comm]
    rw [e] at h
    rw [bitsL, bitsL, bitsL_mod n (x / 2) (y / 2) k (by omega)]
    congr 1; omega
theorem bitsL_neg (x : Int) : bitsL 16 (x + 65536) = bitsL 16 x := bitsL_mod 16 _ _ 1 (by omega)
theorem bitsL_val : ∀ (n : Nat) (x : Int), valL n (bitsL (n + 1) x) = (x + 2 ^ n) % 2 ^ (n + 1) - 2 ^ n
  | 0, x => by
    show -(x % 2) = (x + 1) % 2 - 1
    omega
  | n + 1, x => by
    rw [bitsL]
    show x % 2 + 2 * valL n (bitsL (n + 1) (x / 2)) = _
    rw [bitsL_val n]
    have e1 : (2 : Int) ^ (n + 1) = 2 * 2 ^ n := by rw [Int.pow_succ, Int.mul_comm]
    have e2 : (2 : Int) ^ (n + 1 + 1) = 2 * 2 ^ (n + 1) := by rw [Int.pow_succ, Int.mul_comm]
    have hp : (0 : Int) < 2 ^ n := Int.pow_pos (by decide)
    have hm : ∀ (u v m : Int), 0 < m → u = 2 * v + (u % 2) → u % (2 * m) = 2 * (v % m) + u % 2 := by
      intro u v m hm hu
      have h1 := Int.emod_nonneg v (show m ≠ 0 by omega)
      have h2 := Int.emod_lt_of_pos v hm
      have h3 := Int.mul_ediv_add_emod v m
      have h4 : u = (2 * (v % m) + u % 2) + (2 * m) * (v / m) := by
        have : (2 * m) * (v / m) = 2 * (m * (v / m)) := by rw [Int.mul_assoc]
        omega
      rw [h4, Int.add_mul_emod_self_left]
      rw [Int.emod_eq_of_lt (by omega) (by omega)]
      omega
    rw [e2, hm (x + 2 ^ (n + 1)) (x / 2 + 2 ^ n) (2 ^ (n + 1)) (by omega) (by omega)]
    omega
theorem bitsL_val16 (x : Int) : valL 15 (bitsL 16 x) = (x - -32768) % 65536 + -32768 := by
  rw [bitsL_val 15]
  have e1 : (2 : Int) ^ 15 = 32768 := by decide
  have e2 : (2 : Int) ^ (15 + 1) = 65536 := by decide
  rw [e1, e2]
  have : x - -32768 = x + 32768 := by omega
  rw [this]; omega
theorem bitsL_take : ∀ (n m : Nat) (x : Int), (bitsL (n + m) x).take n = bitsL n x
  | 0, _, _ => rfl
  | n + 1, m, x => by
    rw [show n + 1 + m = (n + m) + 1 by omega, bitsL, List.take_succ_cons, bitsL_take n m, bitsL]
theorem bitsL_shl : ∀ (d n : Nat) (x : Int), List.replicate d (0 : Int) ++ bitsL n x = bitsL (d + n) (x * 2 ^ d)
  | 0, n, x => by simp
  | d + 1, n, x => by
    rw [List.replicate_succ, List.cons_append, bitsL_shl d n x, show d + 1 + n = (d + n) + 1 by omega, bitsL]
    have e : x * 2 ^ (d + 1) = 2 * (x * 2 ^ d) := by rw [Int.pow_succ]; simp only [Int.mul_assoc, Int.mul_comm, Int.mul_left_comm]
    rw [e]
    congr 1
    · omega
    · congr 1; omega
theorem bitsL_drop : ∀ (d n : Nat) (x : Int), (bitsL (d + n) x).drop d = bitsL n (x / 2 ^ d)
  | 0, n, x => by simp
  | d + 1, n, x => by
    rw [show d + 1 + n = (d + n) + 1 by omega, bitsL, List.drop_succ_cons, bitsL_drop d n]
    congr 1
    rw [Int.pow_succ, Int.mul_comm, Int.ediv_ediv_of_nonneg (by decide)]
theorem bitsL_append : ∀ (n m : Nat) (x : Int), bitsL (n + m) x = bitsL n x ++ bitsL m (x / 2 ^ n)
  | 0, m, x => by simp [bitsL]
  | n + 1, m, x => by
    rw [show n + 1 + m = (n + m) + 1 by omega, bitsL, bitsL_append n m, bitsL, List.cons_append]
    congr 2
    rw [Int.pow_succ, Int.mul_comm, Int.ediv_ediv_of_nonneg (by decide)]
theorem bitsL_neg1 : ∀ n : Nat, bitsL n (-1) = List.replicate n 1
  | 0 => rfl
  | n + 1 => by rw [bitsL, List.replicate_succ]; exact congrArg (List.cons 1) (bitsL_neg1 n)
theorem bitsL_zero : ∀ n : Nat, bitsL n 0 = List.replicate n 0
  | 0 => rfl
  | n + 1 => by rw [bitsL, List.replicate_succ]; exact congrArg (List.cons 0) (bitsL_zero n)
theorem bitsL_get : ∀ (n i : Nat) (x : Int), i < n → (bitsL n x)[i]? = some ((x / 2 ^ i) % 2)
  | n + 1, 0, x, _ => by rw [bitsL]; simp
  | n + 1, i + 1, x, h => by
    rw [bitsL, List.getElem?_cons_succ, bitsL_get n i _ (by omega), Int.pow_succ, Int.mul_comm, Int.ediv_ediv_of_nonneg (by decide)]
  | 0, _, _, h => absurd h (by omega)
theorem wbit15 {x : Int} (h0 : -32768 ≤ x) (h1 : x ≤ 32767) : (x / 32768) % 2 = if x < 0 then 1 else 0 := by
  split <;> omega
/-- one[d:] + [one[15]] * d -/
theorem bitsL_shr {x : Int} (h0 : -32768 ≤ x) (h1 : x ≤ 32767) {d : Nat} (hd : d ≤ 15) : (bitsL 16 x).drop d ++ List.replicate d ((x / 32768) % 2) = bitsL 16 (x / 2 ^ d) := by
  have e1 : (bitsL 16 x).drop d = bitsL (16 - d) (x / 2 ^ d) := by
    have := bitsL_drop d (16 - d) x
    rw [show d + (16 - d) = 16 by omega] at this
    exact this
  have e2 : bitsL 16 (x / 2 ^ d) = bitsL (16 - d) (x / 2 ^ d) ++ bitsL d (x / 2 ^ d / 2 ^ (16 - d)) := by
    have := bitsL_append (16 - d) d (x / 2 ^ d)
    rw [show 16 - d + d = 16 by omega] at this
    exact this
  rw [e1, e2]
  congr 1
  have e3 : x / 2 ^ d / 2 ^ (16 - d) = x / 65536 := by
    rw [Int.ediv_ediv_of_nonneg (Int.le_of_lt (Int.pow_pos (by decide))), ← Int.pow_add, show d + (16 - d) = 16 by omega]
    rfl
  rw [e3, wbit15 h0 h1]
  by_cases h : x < 0
  · rw [if_pos h, show x / 65536 = -1 by omega, bitsL_neg1]
  · rw [if_neg h, show x / 65536 = 0 by omega, bitsL_zero]

/-! ### and, or, exclusive or, bit by bit -/
theorem nand_div (a b : Nat) : (a &&& b) / 2 = (a / 2) &&& (b / 2) := Nat.eq_of_testBit_eq fun i => by
  rw [← Nat.testBit_succ, Nat.testBit_and, Nat.testBit_and, Nat.testBit_succ, Nat.testBit_succ]
theorem nand_mod (a b : Nat) : (a &&& b) % 2 = (a % 2) * (b % 2) := by
  have h : ((a &&& b) % 2 = 1) ↔ (a % 2 = 1 ∧ b % 2 = 1) := by
    have e := Nat.testBit_and a b 0
    rw [Nat.testBit_zero, Nat.testBit_zero, Nat.testBit_zero] at e
    constructor
    · intro h
      rw [decide_eq_true h] at e
      have := e.symm
      simp only [Bool.and_eq_true, decide_eq_true_eq] at this
      exact this
    · rintro ⟨h1, h2⟩
      rw [decide_eq_true h1, decide_eq_true h2] at e
      exact of_decide_eq_true e
  rcases Nat.mod_two_eq_zero_or_one a with ha | ha <;> rcases Nat.mod_two_eq_zero_or_one b with hb | hb <;> rw [ha, hb] at h ⊢ <;> omega
theorem nor_div (a b : Nat) : (a ||| b) / 2 = (a / 2) ||| (b / 2) := Nat.eq_of_testBit_eq fun i => by
  rw [← Nat.testBit_succ, Nat.testBit_or, Nat.testBit_or, Nat.testBit_succ, Nat.testBit_succ]
theorem nor_mod (a b : Nat) : (a ||| b) % 2 = (a % 2) + (b % 2) - (a % 2) * (b % 2) := by
  have h : ((a ||| b) % 2 = 1) ↔ (a % 2 = 1 ∨ b % 2 = 1) := by
    have e := Nat.testBit_or a b 0
    rw [Nat.testBit_zero, Nat.testBit_zero, Nat.testBit_zero] at e
    constructor
    · intro h
      rw [decide_eq_true h] at e
      have := e.symm
      simp only [Bool.or_eq_true, decide_eq_true_eq] at this
      exact this
    · intro h
      have : (decide (a % 2 = 1) || decide (b % 2 = 1)) = true := by simpa using h
      rw [this] at e
      exact of_decide_eq_true e
  rcases Nat.mod_two_eq_zero_or_one a with ha | ha <;> rcases Nat.mod_two_eq_zero_or_one b with hb | hb <;> rw [ha, hb] at h ⊢ <;> omega
theorem bnot_div (x : Int) : Builtin.bitNot x / 2 = Builtin.bitNot (x / 2) := by unfold Builtin.bitNot; omega
theorem bnot_mod (x : Int) : Builtin.bitNot x % 2 = 1 - x % 2 := by unfold Builtin.bitNot; omega
theorem band_pp {x y : Int} (hx : 0 ≤ x) (hy : 0 ≤ y) : Builtin.bitAnd x y = ((x.toNat &&& y.toNat : Nat) : Int) := by unfold Builtin.bitAnd; rw [decide_eq_true hx, decide_eq_true hy]
theorem band_pn {x y : Int} (hx : 0 ≤ x) (hy : ¬ 0 ≤ y) : Builtin.bitAnd x y = x - ((x.toNat &&& (Builtin.bitNot y).toNat : Nat) : Int) := by unfold Builtin.bitAnd; rw [decide_eq_true hx, decide_eq_false hy]
theorem band_np {x y : Int} (hx : ¬ 0 ≤ x) (hy : 0 ≤ y) : Builtin.bitAnd x y = y - ((y.toNat &&& (Builtin.bitNot x).toNat : Nat) : Int) := by unfold Builtin.bitAnd; rw [decide_eq_false hx, decide_eq_true hy]
theorem band_nn {x y : Int} (hx : ¬ 0 ≤ x) (hy : ¬ 0 ≤ y) : Builtin.bitAnd x y = Builtin.bitNot (((Builtin.bitNot x).toNat ||| (Builtin.bitNot y).toNat : Nat) : Int) := by unfold Builtin.bitAnd; rw [decide_eq_false hx, decide_eq_false hy]
theorem toNat_div (x : Int) : (x / 2).toNat = x.toNat / 2 := by omega
theorem bnot_toNat_div (x : Int) : (Builtin.bitNot (x / 2)).toNat = (Builtin.bitNot x).toNat / 2 := by rw [← bnot_div, toNat_div]
theorem m01 (a : Int) : a % 2 = 0 ∨ a % 2 = 1 := by omega
theorem band_div (x y : Int) : Builtin.bitAnd x y / 2 = Builtin.bitAnd (x / 2) (y / 2) := by
  by_cases hx : 0 ≤ x <;> by_cases hy : 0 ≤ y
  · rw [band_pp hx hy, band_pp (by omega) (by omega), toNat_div, toNat_div, ← nand_div]; omega
  · rw [band_pn hx hy, band_pn (by omega) (by omega), toNat_div, bnot_toNat_div, ← nand_div]
    have h1 := nand_mod x.toNat (Builtin.bitNot y).toNat
    have h2 : x.toNat % 2 = 0 ∨ x.toNat % 2 = 1 := by omega
    rcases h2 with h2 | h2
    · rw [h2, Nat.zero_mul] at h1; omega
    · rw [h2, Nat.one_mul] at h1; omega
  · rw [band_np hx hy, band_np (by omega) (by omega), toNat_div, bnot_toNat_div, ← nand_div]
    have h1 := nand_mod y.toNat (Builtin.bitNot x).toNat
    have h2 : y.toNat % 2 = 0 ∨ y.toNat % 2 = 1 := by omega
    rcases h2 with h2 | h2
    · rw [h2, Nat.zero_mul] at h1; omega
    · rw [h2, Nat.one_mul] at h1; omega
  · rw [band_nn hx hy, band_nn (by omega) (by omega), bnot_toNat_div, bnot_toNat_div, ← nor_div, bnot_div]
    congr 1
theorem band_mod (x y : Int) : Builtin.bitAnd x y % 2 = (x % 2) * (y % 2) := by
  by_cases hx : 0 ≤ x <;> by_cases hy : 0 ≤ y
  · rw [band_pp hx hy]
    have h1 := nand_mod x.toNat y.toNat
    have e1 : x % 2 = ((x.toNat % 2 : Nat) : Int) := by omega
    have e2 : y % 2 = ((y.toNat % 2 : Nat) : Int) := by omega
    rw [e1, e2, ← Int.natCast_mul, ← h1]; omega
  · rw [band_pn hx hy]
    have h1 := nand_mod x.toNat (Builtin.bitNot y).toNat
    have h3 : (Builtin.bitNot y).toNat % 2 = 1 - y.toNat % 2 - (y % 2).toNat := by unfold Builtin.bitNot; omega
    rcases m01 x with h | h <;> rcases m01 y with k | k <;> rw [h, k]
    · have : x.toNat % 2 = 0 := by omega
      rw [this, Nat.zero_mul] at h1; omega
    · have : x.toNat % 2 = 0 := by omega
      rw [this, Nat.zero_mul] at h1; omega
    · have e1 : x.toNat % 2 = 1 := by omega
      have e2 : (Builtin.bitNot y).toNat % 2 = 1 := by unfold Builtin.bitNot; omega
      rw [e1, e2] at h1; omega
    · have e1 : x.toNat % 2 = 1 := by omega
      have e2 : (Builtin.bitNot y).toNat % 2 = 0 := by unfold Builtin.bitNot; omega
      rw [e1, e2] at h1; omega
  · rw [band_np hx hy]
    have h1 := nand_mod y.toNat (Builtin.bitNot x).toNat
    rcases m01 x with h | h <;> rcases m01 y with k | k <;> rw [h, k]
    · have : y.toNat % 2 = 0 := by omega
      rw [this, Nat.zero_mul] at h1; omega
    · have e1 : y.toNat % 2 = 1 := by omega
      have e2 : (Builtin.bitNot x).toNat % 2 = 1 := by unfold Builtin.bitNot; omega
      rw [e1, e2] at h1; omega
    · have : y.toNat % 2 = 0 := by omega
      rw [this, Nat.zero_mul] at h1; omega
    · have e1 : y.toNat % 2 = 1 := by omega
      have e2 : (Builtin.bitNot x).toNat % 2 = 0 := by unfold Builtin.bitNot; omega
      rw [e1, e2] at h1; omega
  · rw [band_nn hx hy, bnot_mod]
    have h1 := nor_mod (Builtin.bitNot x).toNat (Builtin.bitNot y).toNat
    rcases m01 x with h | h <;> rcases m01 y with k | k <;> rw [h, k]
    · have e1 : (Builtin.bitNot x).toNat % 2 = 1 := by unfold Builtin.bitNot; omega
      have e2 : (Builtin.bitNot y).toNat % 2 = 1 := by unfold Builtin.bitNot; omega
      rw [e1, e2] at h1; omega
    · have e1 : (Builtin.bitNot x).toNat % 2 = 1 := by unfold Builtin.bitNot; omega
      have e2 : (Builtin.bitNot y).toNat % 2 = 0 := by unfold Builtin.bitNot; omega
      rw [e1, e2] at h1; omega
    · have e1 : (Builtin.bitNot x).toNat % 2 = 0 := by unfold Builtin.bitNot; omega
      have e2 : (Builtin.bitNot y).toNat % 2 = 1 := by unfold Builtin.bitNot; omega
      rw [e1, e2] at h1; omega
    · have e1 : (Builtin.bitNot x).toNat % 2 = 0 := by unfold Builtin.bitNot; omega
      have e2 : (Builtin.bitNot y).toNat % 2 = 0 := by unfold Builtin.bitNot; omega
      rw [e1, e2] at h1; omega
theorem bor_div (x y : Int) : Builtin.bitOr x y / 2 = Builtin.bitOr (x / 2) (y / 2) := by
  unfold Builtin.bitOr; rw [bnot_div, band_div, bnot_div, bnot_div]
theorem bor_mod (x y : Int) : Builtin.bitOr x y % 2 = x % 2 + y % 2 - (x % 2) * (y % 2) := by
  unfold Builtin.bitOr; rw [bnot_mod, band_mod, bnot_mod, bnot_mod]
  rcases m01 x with h | h <;> rcases m01 y with k | k <;> rw [h, k] <;> decide
theorem bxor_mod (x y : Int) : Builtin.bitXor x y % 2 = (x % 2 + y % 2) % 2 := by
  unfold Builtin.bitXor
  have h1 := bor_mod x y
  have h2 := band_mod x y
  rcases m01 x with h | h <;> rcases m01 y with k | k <;> rw [h, k] at h1 h2 ⊢ <;> omega
theorem bxor_div (x y : Int) : Builtin.bitXor x y / 2 = Builtin.bitXor (x / 2) (y / 2) := by
  unfold Builtin.bitXor
  rw [← bor_div, ← band_div]
  have h1 := bor_mod x y
  have h2 := band_mod x y
  rcases m01 x with h | h <;> rcases m01 y with k | k <;> rw [h, k] at h1 h2 <;> omega
theorem bits_op (f : Int → Int → Int) (g : Int → Int → Int) (hd : ∀ x y, f x y / 2 = f (x / 2) (y / 2)) (hm : ∀ x y, f x y % 2 = g (x % 2) (y % 2)) : ∀ (n : Nat) (x y : Int), bitsL n (f x y) = List.zipWith g (bitsL n x) (bitsL n y)
  | 0, _, _ => rfl
  | n + 1, x, y => by rw [bitsL, bitsL, bitsL, List.zipWith_cons_cons, hm, hd, bits_op f g hd hm n]

section
variable {P : Program} {w : World} {K : PySem.W.Frag} {mg : Str → Option Value} {base : Heap}
/-! ### the draws -/
def sp_law_bag (K : PySem.W.Frag) : Sp := fun vs H Q _ => ∃ (a : Addr) (ns : List Int) (k : Nat), vs = [.ref a, .int k] ∧ SqL K H a (ns.map V.int) ∧ ∀ (p : Addr) (H' : Hp), H p = none → Bag H' p → Same H H' → Q (.ref p) H'
theorem bag_new {H : Hp} {p : Addr} {x y z : Int} : Bag (upd H p (.lst [.int x, .int y, .int z])) p := ⟨x, y, z, upd_same⟩
theorem same_new {H : Hp} {p : Addr} {o : HO} (n : H p = none) : Same H (upd H p o) := fun b u e => by rw [upd_ne (ne_of_none e n)]; exact e
theorem ok_law_bag (T : Txt K mg) : FnOk P w K mg base CX0 1 T.f_law_bag T.d_law_bag ["_law_script", "_law_k"] (sp_law_bag K) := by
  refine T.k_law_bag.ok sc_law_bag (fun vs H Q E h => ?_) (fun cdv A outer s H vs Q E hr h => ?_)
  · obtain ⟨a, ns, k, rfl, _⟩ := h
    rfl
  · obtain ⟨a, ns, k, rfl, hS, q⟩ := h
    refine ⟨_, (pss_cons (ps_set (i := 2) sc_law_bag.nd rfl (.inl rfl) pe_int)
      (C8.pss_cut (ps_if (pt_cmpR op_lt (pv 1) (pe_callB (lenLK K) (by rfl) T.m_len (by decide +kernel) (pa_cons (pv 0) pa_nil)) (nomark _)) (pss_one (ps_set (i := 2) sc_law_bag.nd rfl (.inl rfl) (pe_callTy call_intI (by rfl) T.m_int (by decide +kernel) (pa_cons (pe_ix (ix_listK K) (pv 0) (pv 1) (fun _ _ => rfl)) pa_nil)))) pss_nil)
      (pss_cons (ps_if (pt_cmpR op_ge (pv 2) (pe_op op_pow pe_int pe_int) (nomark _)) (pss_one (ps_ret (pe_lst (pa_cons (pv 2) (pa_cons (pv 2) (pa_cons (pv 1) pa_nil)))))) pss_nil)
      (pss_one (ps_ret (pe_lst (pa_cons pe_int (pa_cons (pv 2) (pa_cons (pv 1) pa_nil))))))))), ?_⟩
    walk_at "rd"
    refine rdSeq ?_
    walk_at "rd"
    refine rdCut (fun σ H' => H' = H ∧ ∃ c : Int, σ = [some (V.ref a), some (V.int (k : Int)), some (V.int c)]) ?_ ?_
    · walk_at "rd"
      refine i_lenL hS ?_
      walk_at "rd"
      refine ite2 (fun hk => ?_) (fun _ => trivial)
      rw [List.length_map] at hk
      have hk : k < ns.length := by omega
      refine i_ixL hS (atI_nat (j := k) (by rw [List.getElem?_map, List.getElem?_eq_getElem hk]; rfl)) ?_
      walk_at "rd"
    · rintro σ H' ⟨rfl, c, rfl⟩
      refine rdSeq ?_
      walk_at "rd"
      refine ⟨pow18, ite2 (fun _ => ?_) (fun _ => ?_)⟩
      · exact fun p hp => q p _ hp bag_new (same_new hp)
      · walk_at "rd"
        exact fun p hp => q p _ hp bag_new (same_new hp)
def sp_law_draw (K : PySem.W.Frag) : Sp := fun vs H Q _ => ∃ (a : Addr) (m : Int), vs = [.ref a, .int m] ∧ Bag H a ∧ 0 < m ∧ m.natAbs < 2 ^ 200 ∧ ∀ (r : Int) (H' : Hp), 0 ≤ r → r < m → Mv a H H' → Q (.int r) H'
theorem mv_set {H : Hp} {a : Addr} {x y z : Int} : Mv a H (upd H a (.lst [.int x, .int y, .int z])) := ⟨bag_new, fun b o n e => by rw [upd_ne n]; exact e⟩
theorem draw_size {m : Int} (h0 : 0 < m) (h : m.natAbs < 2 ^ 200) : CDivW x m := wide_div h0 h (by decide) (by decide)
theorem ok_law_draw (T : Txt K mg) : FnOk P w K mg base CX0 1 T.f_law_draw T.d_law_draw ["_law_bag_here", "_law_many"] (sp_law_draw K) := by
  refine T.k_law_draw.ok sc_law_draw (fun vs H Q E h => ?_) (fun cdv A outer s H vs Q E hr h => ?_)
  · obtain ⟨a, m, rfl, _⟩ := h
    rfl
  · obtain ⟨a, m, rfl, ⟨x, y, z, hB⟩, hm, hm2, q⟩ := h
    refine ⟨_, (C8.pss_cut (ps_if (pt_cmpR op_eq (pe_ix (ix_listK K) (pv 0) pe_int (fun _ _ => rfl)) pe_int (nomark _)) (pss_cons (ps_set (i := 2) sc_law_draw.nd rfl (.inl rfl) (pe_op op_modP (pe_callTy call_intI (by rfl) T.m_int (by decide +kernel) (pa_cons (pe_op op_add (pe_op op_add (pe_op op_mul (pe_ix (ix_listK K) (pv 0) pe_int (fun _ _ => rfl)) pe_int) (pe_op op_mul (pe_ix (ix_listK K) (pv 0) pe_int (fun _ _ => rfl)) pe_int)) pe_int) pa_nil)) pe_int))
      (pss_cons (ps_asg (pe_op op_add (pe_op op_mul (pv 2) pe_int) (pe_op op_modP (pe_callTy call_intI (by rfl) T.m_int (by decide +kernel) (pa_cons (pe_op op_add (pe_op op_mul (pv 2) (pv 2)) (pe_op op_mul (pe_ix (ix_listK K) (pv 0) pe_int (fun _ _ => rfl)) pe_int)) pa_nil)) pe_int)) (pg_sub (pv 0) pe_int set_list))
      (pss_one (ps_asg (pv 2) (pg_sub (pv 0) pe_int set_list))))) pss_nil)
      (pss_cons (ps_set (i := 3) sc_law_draw.nd rfl (.inl rfl) (pe_ix (ix_listK K) (pv 0) pe_int (fun _ _ => rfl)))
      (pss_cons (ps_asg (pe_op op_fdivW (pv 3) (pv 1)) (pg_sub (pv 0) pe_int set_list))
      (pss_one (ps_ret (pe_op op_modP (pe_callTy call_intI (by rfl) T.m_int (by decide +kernel) (pa_cons (pv 3) pa_nil)) (pv 1))))))), ?_⟩
    refine rdCut (fun σ H' => ∃ (x1 y1 z1 : Int) (u : Option V), H' a = some (.lst [.int x1, .int y1, .int z1]) ∧ Mv a H H' ∧ σ = [some (V.ref a), some (V.int m), u, none]) ?_ ?_
    · walk_at "rd"
      refine i_ixL (sqL_of hB) (v := .int x) rfl ?_
      walk_at "rd"
      refine ite2 (fun _ => ?_) (fun _ => ⟨x, y, z, hB, Mv.refl ⟨x, y, z, hB⟩⟩)
      refine rdSeq ?_
      walk_at "rd"
      refine i_ixL (sqL_of hB) (v := .int y) rfl ?_
      walk_at "rd"
      refine ⟨cm_r (by decide), i_ixL (sqL_of hB) (v := .int z) rfl ?_⟩
      walk_at "rd"
      refine ⟨cm_r (by decide), ?_⟩
      have h0 := Int.emod_nonneg (y * 48271 + z * 69621 + 11) (show (2147483647 : Int) ≠ 0 by decide)
      have h1 := Int.emod_lt_of_pos (y * 48271 + z * 69621 + 11) (show (0 : Int) < 2147483647 by decide)
      generalize (y * 48271 + z * 69621 + 11) % 2147483647 = sd at h0 h1
      refine rdSeq ?_
      walk_at "rd"
      refine ⟨cm_r (by decide), .inl ⟨by omega, by omega⟩, i_ixL (sqL_of hB) (v := .int z) rfl ?_⟩
      walk_at "rd"
      refine ⟨cm_r (by decide), i_setL hB (j := 0) rfl ?_⟩
      walk_at "rd"
      refine i_setL upd_same (j := 1) rfl ?_
      walk_at "rd"
      rw [upd_upd]
      exact ⟨_, _, _, upd_same, mv_set⟩
    · rintro σ H1 ⟨x1, y1, z1, u, h1, mv, rfl⟩
      refine rdSeq ?_
      walk_at "rd"
      refine i_ixL (sqL_of h1) (v := .int x1) rfl ?_
      refine rdSeq ?_
      walk_at "rd"
      refine ⟨draw_size hm hm2, i_setL h1 (j := 0) rfl ?_⟩
      walk_at "rd"
      refine ⟨hm, q _ _ (Int.emod_nonneg _ (by omega)) (Int.emod_lt_of_pos _ hm) (mv.trans mv_set)⟩
theorem i_draw {K : PySem.W.Frag} {H0 H : Hp} {a : Addr} {m : Int} {Q : VK} {E : XK} (mv : Mv a H0 H) (hm : 0 < m) (hs : m.natAbs < 2 ^ 200) (q : ∀ (r : Int) (H' : Hp), 0 ≤ r → r < m → Mv a H H' → Mv a H0 H' → Q (.int r) H') : sp_law_draw K [.ref a, .int m] H Q E :=
  ⟨a, m, rfl, mv.bag, hm, hs, fun r H' h0 h1 mv' => q r H' h0 h1 mv' (mv.trans mv')⟩
theorem at_int {ns : List Int} {i : Int} (h0 : 0 ≤ i) (h1 : i < ns.length) : ∃ v, atI (ns.map V.int) i = some (.int v) ∧ v ∈ ns := by
  obtain ⟨j, rfl⟩ := Int.eq_ofNat_of_zero_le h0
  have hi : j < ns.length := by omega
  exact ⟨ns[j], atI_nat (by rw [List.getElem?_map, List.getElem?_eq_getElem hi]; rfl), List.getElem_mem hi⟩

def wrapI (n : Int) : Int := (n - -32768) % 65536 + -32768
def sp_wrap (K : PySem.W.Frag) : Sp := fun vs H Q _ => ∃ (n : Int), vs = [.int n] ∧ Q (.int (wrapI n)) H
theorem ok_wrap (T : Txt K mg) : FnOk P w K mg base CX0 1 T.f_wrap T.d_wrap ["number"] (sp_wrap K) := by
  refine T.k_wrap.ok sc_wrap (fun vs H Q E h => ?_) (fun cdv A outer s H vs Q E hr h => ?_)
  · obtain ⟨x, rfl, _⟩ := h
    rfl
  · obtain ⟨x, rfl, h⟩ := h
    refine ⟨_, (pss_one (ps_ret (pe_op op_add (pe_op op_modP (pe_op op_sub (pv 0) (pe_glob (v := .int _) rfl T.g_LEAST ⟨_, rfl⟩)) pe_int) (pe_glob (v := .int _) rfl T.g_LEAST ⟨_, rfl⟩)))), ?_⟩
    walk_at "rd"
    exact h


/-! ### words.py -/
def Wd (x : Int) : Prop := -32768 ≤ x ∧ x ≤ 32767
def absI (x : Int) : Int := if x < 0 then -x else x
def divI (l r : Int) : Int := if decide (l < 0) = decide (r < 0) then absI l / absI r else -(absI l / absI r)
def sp_divided (K : PySem.W.Frag) : Sp := fun vs H Q _ => ∃ (l r : Int), vs = [.int l, .int r] ∧ Wd r ∧ r ≠ 0 ∧ Q (.int (divI l r)) H
theorem ok_divided (T : Txt K mg) : FnOk P w K mg base CX0 1 T.f_divided T.d_divided ["left", "right"] (sp_divided K) := by
  refine T.k_divided.ok sc_divided (fun vs H Q E h => ?_) (fun cdv A outer s H vs Q E hr h => ?_)
  · obtain ⟨l, r, rfl, _⟩ := h
    rfl
  · obtain ⟨l, r, rfl, hw, h0, q⟩ := h
    refine ⟨_, (pss_cons (ps_set (i := 2) sc_divided.nd rfl (.inl rfl) (pe_op op_fdivW (pe_callB call_abs (by rfl) T.m_abs (by decide +kernel) (pa_cons (pv 0) pa_nil)) (pe_callB call_abs (by rfl) T.m_abs (by decide +kernel) (pa_cons (pv 1) pa_nil))))
      (pss_cons (ps_if (pt_cmpR op_ne (pe_cmpR op_lt (pv 0) pe_int (nomark _)) (pe_cmpR op_lt (pv 1) pe_int (nomark _)) (nomark _)) (pss_one (ps_ret (pe_un un_neg (pv 2)))) pss_nil)
      (pss_one (ps_ret (pv 2))))), ?_⟩
    walk_at "rd"
    refine rdSeq ?_
    walk_at "rd"
    have ha : (if l < 0 then -l else l) / (if r < 0 then -r else r) = absI l / absI r := rfl
    refine ⟨wide_div (b := 20) (by split <;> omega) (by unfold Wd at hw; split <;> omega) (by decide) (by decide), rdSeq ?_⟩
    walk_at "rd"
    rw [ha]
    unfold divI at q
    by_cases h : decide (l < 0) = decide (r < 0)
    · rw [if_pos h] at q
      exact i_else (by simp [h]) q
    · rw [if_neg h] at q
      exact i_then (by simpa using h) q
def arI (s : Str) (l r : Int) : Int :=
  if s = "+" then l + r else if s = "-" then l - r else if s = "*" then l * r else if s = "&" then Builtin.bitAnd l r else if s = "|" then Builtin.bitOr l r else if s = "^" then Builtin.bitXor l r
  else if s = "<<" then l * 2 ^ (Builtin.bitAnd r 15).toNat else l / 2 ^ (Builtin.bitAnd r 15).toNat
def sp_arithmetic (K : PySem.W.Frag) : Sp := fun vs H Q _ => ∃ (s : Str) (l r : Int), vs = [.str s, .int l, .int r] ∧ Wd l ∧ Q (.int (arI s l r)) H
theorem ok_arithmetic (T : Txt K mg) : FnOk P w K mg base CX0 1 T.f_arithmetic T.d_arithmetic ["sign", "left", "right"] (sp_arithmetic K) := by
  refine T.k_arithmetic.ok sc_arithmetic (fun vs H Q E h => ?_) (fun cdv A outer s H vs Q E hr h => ?_)
  · obtain ⟨s, l, r, rfl, _⟩ := h
    rfl
  · obtain ⟨s, l, r, rfl, hw, q⟩ := h
    refine ⟨_, (pss_cons (ps_if (pt_cmpR op_eq (pv 0) pe_str (nomark _)) (pss_one (ps_ret (pe_op op_add (pv 1) (pv 2)))) pss_nil)
      (pss_cons (ps_if (pt_cmpR op_eq (pv 0) pe_str (nomark _)) (pss_one (ps_ret (pe_op op_sub (pv 1) (pv 2)))) pss_nil)
      (pss_cons (ps_if (pt_cmpR op_eq (pv 0) pe_str (nomark _)) (pss_one (ps_ret (pe_op op_mul (pv 1) (pv 2)))) pss_nil)
      (pss_cons (ps_if (pt_cmpR op_eq (pv 0) pe_str (nomark _)) (pss_one (ps_ret (pe_op op_and (pv 1) (pv 2)))) pss_nil)
      (pss_cons (ps_if (pt_cmpR op_eq (pv 0) pe_str (nomark _)) (pss_one (ps_ret (pe_op op_or (pv 1) (pv 2)))) pss_nil)
      (pss_cons (ps_if (pt_cmpR op_eq (pv 0) pe_str (nomark _)) (pss_one (ps_ret (pe_op op_xor (pv 1) (pv 2)))) pss_nil)
      (pss_cons (ps_if (pt_cmpR op_eq (pv 0) pe_str (nomark _)) (pss_one (ps_ret (pe_op op_shl (pv 1) (pe_op op_and (pv 2) pe_int)))) pss_nil)
      (pss_one (ps_ret (pe_op op_shr (pv 1) (pe_op op_and (pv 2) pe_int))))))))))), ?_⟩
    walk_at "rd"
    refine rdSeq ?_
    walk_at "rd"
    unfold arI at q
    refine ite2 (fun h => ?_) (fun h => rdSeq ?_)
    · rw [if_pos h] at q; exact q
    rw [if_neg h] at q
    walk_at "rd"
    refine ite2 (fun h => ?_) (fun h => rdSeq ?_)
    · rw [if_pos h] at q; exact q
    rw [if_neg h] at q
    walk_at "rd"
    refine ite2 (fun h => ?_) (fun h => rdSeq ?_)
    · rw [if_pos h] at q; exact ⟨.inl ⟨by unfold Wd at hw; omega, by unfold Wd at hw; omega⟩, q⟩
    rw [if_neg h] at q
    walk_at "rd"
    refine ite2 (fun h => ?_) (fun h => rdSeq ?_)
    · rw [if_pos h] at q; exact q
    rw [if_neg h] at q
    walk_at "rd"
    refine ite2 (fun h => ?_) (fun h => rdSeq ?_)
    · rw [if_pos h] at q; exact q
    rw [if_neg h] at q
    walk_at "rd"
    refine ite2 (fun h => ?_) (fun h => rdSeq ?_)
    · rw [if_pos h] at q; exact q
    rw [if_neg h] at q
    walk_at "rd"
    have h15 := PyProof.Rows.bitAnd_range r (y := 15) (by decide)
    refine ite2 (fun h => ?_) (fun h => ?_)
    · rw [if_pos h] at q; exact ⟨⟨h15.1, by omega, by unfold Wd at hw; omega⟩, q⟩
    · rw [if_neg h] at q
      walk_at "rd"
      exact ⟨h15.1, q⟩
def cmpI (s : Str) (l r : Int) : Bool :=
  if s = "==" then decide (l = r) else if s = "!=" then !decide (l = r) else if s = "<" then decide (l < r) else if s = "<=" then decide (l ≤ r) else if s = ">" then decide (r < l) else decide (r ≤ l)
def sp_compared (K : PySem.W.Frag) : Sp := fun vs H Q _ => ∃ (s : Str) (l r : Int), vs = [.str s, .int l, .int r] ∧ Q (.bl (cmpI s l r)) H
theorem ok_compared (T : Txt K mg) : FnOk P w K mg base CX0 1 T.f_compared T.d_compared ["sign", "left", "right"] (sp_compared K) := by
  refine T.k_compared.ok sc_compared (fun vs H Q E h => ?_) (fun cdv A outer s H vs Q E hr h => ?_)
  · obtain ⟨s, l, r, rfl, _⟩ := h
    rfl
  · obtain ⟨s, l, r, rfl, q⟩ := h
    refine ⟨_, (pss_cons (ps_if (pt_cmpR op_eq (pv 0) pe_str (nomark _)) (pss_one (ps_ret (pe_cmpR op_eq (pv 1) (pv 2) (nomark _)))) pss_nil)
      (pss_cons (ps_if (pt_cmpR op_eq (pv 0) pe_str (nomark _)) (pss_one (ps_ret (pe_cmpR op_ne (pv 1) (pv 2) (nomark _)))) pss_nil)
      (pss_cons (ps_if (pt_cmpR op_eq (pv 0) pe_str (nomark _)) (pss_one (ps_ret (pe_cmpR op_lt (pv 1) (pv 2) (nomark _)))) pss_nil)
      (pss_cons (ps_if (pt_cmpR op_eq (pv 0) pe_str (nomark _)) (pss_one (ps_ret (pe_cmpR op_le (pv 1) (pv 2) (nomark _)))) pss_nil)
      (pss_cons (ps_if (pt_cmpR op_eq (pv 0) pe_str (nomark _)) (pss_one (ps_ret (pe_cmpR op_gt (pv 1) (pv 2) (nomark _)))) pss_nil)
      (pss_one (ps_ret (pe_cmpR op_ge (pv 1) (pv 2) (nomark _))))))))), ?_⟩
    walk_at "rd"
    refine rdSeq ?_
    walk_at "rd"
    unfold cmpI at q
    refine ite2 (fun h => ?_) (fun h => rdSeq ?_)
    · rw [if_pos h] at q; exact q
    rw [if_neg h] at q
    walk_at "rd"
    refine ite2 (fun h => ?_) (fun h => rdSeq ?_)
    · rw [if_pos h] at q; exact q
    rw [if_neg h] at q
    walk_at "rd"
    refine ite2 (fun h => ?_) (fun h => rdSeq ?_)
    · rw [if_pos h] at q; exact q
    rw [if_neg h] at q
    walk_at "rd"
    refine ite2 (fun h => ?_) (fun h => rdSeq ?_)
    · rw [if_pos h] at q; exact q
    rw [if_neg h] at q
    walk_at "rd"
    refine ite2 (fun h => ?_) (fun h => ?_)
    · rw [if_pos h] at q; exact q
    · rw [if_neg h] at q
      exact q
def inS (s : Str) (l : List Str) : Bool := inV (.str s) (l.map V.str)
def opV (s : Str) (l r : Int) : V :=
  if inS s ["/", "mod"] = true then (if r = 0 then .non else if s = "mod" then .int (l - r * divI l r) else .int (wrapI (divI l r)))
  else if inS s ["==", "!=", "<", "<=", ">", ">="] = true then .int (if cmpI s l r = true then 1 else 0) else .int (wrapI (arI s l r))
def sp_op (K : PySem.W.Frag) : Sp := fun vs H Q _ => ∃ (s : Str) (l r : Int), vs = [.str s, .int l, .int r] ∧ Wd l ∧ Wd r ∧ ∀ H', Same H H' → Q (opV s l r) H'
theorem ok_op (T : Txt K mg) : FnOk P w K mg base CX0 2 T.f_op T.d_op ["sign", "left", "right"] (sp_op K) := by
  refine T.k_op.ok sc_op (fun vs H Q E h => ?_) (fun cdv A outer s H vs Q E hr h => ?_)
  · obtain ⟨s, l, r, rfl, _⟩ := h
    rfl
  · obtain ⟨s, l, r, rfl, hl, hr', q⟩ := h
    refine ⟨_, (pss_cons (ps_if (pt_cmpR (in_seqK K) (pv 0) (pe_tup (pa_cons pe_str (pa_cons pe_str pa_nil))) rfl) (pss_cons (ps_if (pt_cmpR op_eq (pv 2) pe_int (nomark _)) (pss_one (ps_ret pe_non)) pss_nil)
      (pss_cons (ps_set (i := 3) sc_op.nd rfl (.inl rfl) (pe_call (ok_divided T) (hr.mono (by decide)) (by rfl) T.g_divided T.k_divided.kp T.b_divided .nil pass0 (pa_cons (pv 1) (pa_cons (pv 2) pa_nil))))
      (pss_cons (ps_if (pt_cmpR op_eq (pv 0) pe_str (nomark _)) (pss_one (ps_ret (pe_op op_sub (pv 1) (pe_op op_mul (pv 2) (pv 3))))) pss_nil)
      (pss_one (ps_ret (pe_call (ok_wrap T) (hr.mono (by decide)) (by rfl) T.g_wrap T.k_wrap.kp T.b_wrap .nil pass0 (pa_cons (pv 3) pa_nil))))))) pss_nil)
      (pss_cons (ps_if (pt_cmpR (in_seqK K) (pv 0) (pe_tup (pa_cons pe_str (pa_cons pe_str (pa_cons pe_str (pa_cons pe_str (pa_cons pe_str (pa_cons pe_str pa_nil))))))) rfl) (pss_one (ps_ret (pe_callTy call_intI (by rfl) T.m_int (by decide +kernel) (pa_cons (pe_call (ok_compared T) (hr.mono (by decide)) (by rfl) T.g_compared T.k_compared.kp T.b_compared .nil pass0 (pa_cons (pv 0) (pa_cons (pv 1) (pa_cons (pv 2) pa_nil)))) pa_nil)))) pss_nil)
      (pss_one (ps_ret (pe_call (ok_wrap T) (hr.mono (by decide)) (by rfl) T.g_wrap T.k_wrap.kp T.b_wrap .nil pass0 (pa_cons (pe_call (ok_arithmetic T) (hr.mono (by decide)) (by rfl) T.g_arithmetic T.k_arithmetic.kp T.b_arithmetic .nil pass0 (pa_cons (pv 0) (pa_cons (pv 1) (pa_cons (pv 2) pa_nil)))) pa_nil)))))), ?_⟩
    walk_at "rd"
    refine rdSeq ?_
    walk_at "rd"
    have q : ∀ H' v, Same H H' → v = opV s l r → Q v H' := fun H' v sm e => by rw [e]; exact q H' sm
    intro p hp
    have sm := same_new (o := HO.tup [V.str (Str.ofString "/"), V.str (Str.ofString "mod")]) hp
    refine i_inL (xs := [V.str (Str.ofString "/"), V.str (Str.ofString "mod")]) (.inr (sqT_of upd_same)) rfl rfl ?_
    walk_at "rd"
    refine ite2 (fun h1 => rdSeq ?_) (fun h1 => rdSeq ?_)
    · have h1 : inS s ["/", "mod"] = true := h1
      walk_at "rd"
      refine ite2 (fun h2 => ?_) (fun h2 => rdSeq ?_)
      · exact q _ _ sm (by unfold opV; rw [if_pos h1, if_pos h2])
      · walk_at "rd"
        refine ⟨l, r, rfl, hr', h2, rdSeq ?_⟩
        walk_at "rd"
        refine ite2 (fun h3 => ?_) (fun h3 => ?_)
        · exact ⟨.inl ⟨by unfold Wd at hr'; omega, by unfold Wd at hr'; omega⟩, q _ _ sm (by unfold opV; rw [if_pos h1, if_neg h2, if_pos h3])⟩
        · walk_at "rd"
          exact ⟨_, rfl, q _ _ sm (by unfold opV; rw [if_pos h1, if_neg h2, if_neg h3])⟩
    · have h1 : ¬ inS s ["/", "mod"] = true := h1
      walk_at "rd"
      intro p2 hp2
      have sm2 := sm.trans (same_new (o := HO.tup [V.str (Str.ofString "=="), V.str (Str.ofString "!="), V.str (Str.ofString "<"), V.str (Str.ofString "<="), V.str (Str.ofString ">"), V.str (Str.ofString ">=")]) hp2)
      refine i_inL (xs := [V.str (Str.ofString "=="), V.str (Str.ofString "!="), V.str (Str.ofString "<"), V.str (Str.ofString "<="), V.str (Str.ofString ">"), V.str (Str.ofString ">=")]) (.inr (sqT_of upd_same)) rfl rfl ?_
      walk_at "rd"
      refine ite2 (fun h2 => ?_) (fun h2 => ?_)
      · have h2 : inS s ["==", "!=", "<", "<=", ">", ">="] = true := h2
        refine ⟨s, l, r, rfl, ?_⟩
        walk_at "rd"
        exact q _ _ sm2 (by unfold opV; rw [if_neg h1, if_pos h2])
      · have h2 : ¬ inS s ["==", "!=", "<", "<=", ">", ">="] = true := h2
        walk_at "rd"
        refine ⟨s, l, r, rfl, hl, _, rfl, ?_⟩
        exact q _ _ sm2 (by unfold opV; rw [if_neg h1, if_neg h2])

theorem opV_add {l r : Int} : opV "+" l r = .int (wrapI (l + r)) := rfl
theorem opV_sub {l r : Int} : opV "-" l r = .int (wrapI (l - r)) := rfl
theorem opV_mul {l r : Int} : opV "*" l r = .int (wrapI (l * r)) := rfl
theorem opV_and {l r : Int} : opV "&" l r = .int (wrapI (Builtin.bitAnd l r)) := rfl
theorem opV_or {l r : Int} : opV "|" l r = .int (wrapI (Builtin.bitOr l r)) := rfl
theorem opV_xor {l r : Int} : opV "^" l r = .int (wrapI (Builtin.bitXor l r)) := rfl
theorem opV_shl {l r : Int} : opV "<<" l r = .int (wrapI (l * 2 ^ (r % 16).toNat)) := by rw [← PyProof.Rows.bitAnd_m4]; rfl
theorem opV_shr {l r : Int} : opV ">>" l r = .int (wrapI (l / 2 ^ (r % 16).toNat)) := by rw [← PyProof.Rows.bitAnd_m4]; rfl
theorem opV_div {l r : Int} (h : r ≠ 0) : opV "/" l r = .int (wrapI (divI l r)) := by
  show (if r = 0 then V.non else V.int (wrapI (divI l r))) = _
  rw [if_neg h]
theorem opV_mod {l r : Int} (h : r ≠ 0) : opV "mod" l r = .int (l - r * divI l r) := by
  show (if r = 0 then V.non else V.int (l - r * divI l r)) = _
  rw [if_neg h]

/-! ### words as numbers by 65536 -/
theorem wrap_wd (x : Int) : Wd (wrapI x) := by unfold Wd wrapI; omega
theorem wrap_id {x : Int} (h : Wd x) : wrapI x = x := by unfold Wd at h; unfold wrapI; omega
theorem wrap_k (x : Int) : ∃ k, wrapI x = x + 65536 * k := ⟨-((x - -32768) / 65536), by unfold wrapI; omega⟩
theorem wrap_congr {x y k : Int} (h : x = y + 65536 * k) : wrapI x = wrapI y := by unfold wrapI; omega
theorem wrap_add (a b : Int) : wrapI (wrapI a + wrapI b) = wrapI (a + b) := by unfold wrapI; omega
theorem wrap_sub (a b : Int) : wrapI (wrapI a - wrapI b) = wrapI (a - b) := by unfold wrapI; omega
theorem wrap_mul_l (a b : Int) : wrapI (wrapI a * b) = wrapI (a * b) := by
  obtain ⟨k, e⟩ := wrap_k a
  refine wrap_congr (k := k * b) ?_
  rw [e, Int.add_mul, Int.mul_assoc]
theorem wrap_mul_r (a b : Int) : wrapI (a * wrapI b) = wrapI (a * b) := by rw [Int.mul_comm, wrap_mul_l, Int.mul_comm]
theorem wrap_mul (a b : Int) : wrapI (wrapI a * wrapI b) = wrapI (a * b) := by rw [wrap_mul_l, wrap_mul_r]
theorem wrap_add_l (a b : Int) : wrapI (wrapI a + b) = wrapI (a + b) := by unfold wrapI; omega
theorem wrap_add_r (a b : Int) : wrapI (a + wrapI b) = wrapI (a + b) := by unfold wrapI; omega
theorem wrap_bits {x y : Int} (h : bitsL 16 x = bitsL 16 y) : wrapI x = wrapI y := by
  have h1 := bitsL_val16 x
  have h2 := bitsL_val16 y
  rw [h] at h1
  exact h1.symm.trans h2
theorem bits_wrap (x : Int) : bitsL 16 (wrapI x) = bitsL 16 x := by
  obtain ⟨k, e⟩ := wrap_k x
  exact bitsL_mod 16 _ _ k (by rw [e]; rfl)
section
variable (f g : Int → Int → Int) (hd : ∀ x y, f x y / 2 = f (x / 2) (y / 2)) (hm : ∀ x y, f x y % 2 = g (x % 2) (y % 2))
include hd hm
theorem wrap_bit (a b : Int) : wrapI (f (wrapI a) (wrapI b)) = wrapI (f a b) := wrap_bits (by rw [bits_op f g hd hm, bits_op f g hd hm, bits_wrap, bits_wrap])
theorem wrap_bit_l (a b : Int) : wrapI (f (wrapI a) b) = wrapI (f a b) := wrap_bits (by rw [bits_op f g hd hm, bits_op f g hd hm, bits_wrap])
theorem wrap_bit_r (a b : Int) : wrapI (f a (wrapI b)) = wrapI (f a b) := wrap_bits (by rw [bits_op f g hd hm, bits_op f g hd hm, bits_wrap])
theorem bits_comm (hg : ∀ a b, g a b = g b a) : ∀ (n : Nat) (x y : Int), bitsL n (f x y) = bitsL n (f y x)
  | 0, _, _ => rfl
  | n + 1, x, y => by rw [bitsL, bitsL, hm, hm, hd, hd, hg, bits_comm hg n]
theorem bits_assoc (hg : ∀ a b c, (a = 0 ∨ a = 1) → (b = 0 ∨ b = 1) → (c = 0 ∨ c = 1) → g (g a b) c = g a (g b c)) : ∀ (n : Nat) (x y z : Int), bitsL n (f (f x y) z) = bitsL n (f x (f y z))
  | 0, _, _, _ => rfl
  | n + 1, x, y, z => by rw [bitsL, bitsL, hm, hm, hm, hm, hd, hd, hd, hd, hg _ _ _ (m01 x) (m01 y) (m01 z), bits_assoc hg n]
end
theorem wrap_and (a b : Int) : wrapI (Builtin.bitAnd (wrapI a) (wrapI b)) = wrapI (Builtin.bitAnd a b) := wrap_bit Builtin.bitAnd (fun a b => a * b) band_div band_mod a b
theorem wrap_or (a b : Int) : wrapI (Builtin.bitOr (wrapI a) (wrapI b)) = wrapI (Builtin.bitOr a b) := wrap_bit Builtin.bitOr (fun a b => a + b - a * b) bor_div bor_mod a b
theorem wrap_xor (a b : Int) : wrapI (Builtin.bitXor (wrapI a) (wrapI b)) = wrapI (Builtin.bitXor a b) := wrap_bit Builtin.bitXor (fun a b => (a + b) % 2) bxor_div bxor_mod a b
/-- the five signs whose order and brackets do not matter -/
def fS (s : Str) (l r : Int) : Int := if s = "+" then l + r else if s = "*" then l * r else if s = "&" then Builtin.bitAnd l r else if s = "|" then Builtin.bitOr l r else Builtin.bitXor l r
def S5 : List Str := ["+", "*", "&", "|", "^"]
theorem opV_S5 {s : Str} (h : s ∈ S5) (l r : Int) : opV s l r = .int (wrapI (fS s l r)) := by
  simp only [S5, List.mem_cons, List.not_mem_nil, or_false] at h
  rcases h with rfl | rfl | rfl | rfl | rfl <;> rfl
theorem fS_comm {s : Str} (h : s ∈ S5) (l r : Int) : wrapI (fS s l r) = wrapI (fS s r l) := by
  simp only [S5, List.mem_cons, List.not_mem_nil, or_false] at h
  rcases h with rfl | rfl | rfl | rfl | rfl
  · show wrapI (l + r) = wrapI (r + l)
    rw [Int.add_comm]
  · show wrapI (l * r) = wrapI (r * l)
    rw [Int.mul_comm]
  · exact wrap_bits (bits_comm Builtin.bitAnd (fun a b => a * b) band_div band_mod (fun a b => Int.mul_comm a b) 16 l r)
  · exact wrap_bits (bits_comm Builtin.bitOr (fun a b => a + b - a * b) bor_div bor_mod (fun a b => by show a + b - a * b = b + a - b * a; rw [Int.add_comm, Int.mul_comm]) 16 l r)
  · exact wrap_bits (bits_comm Builtin.bitXor (fun a b => (a + b) % 2) bxor_div bxor_mod (fun a b => by show (a + b) % 2 = (b + a) % 2; rw [Int.add_comm]) 16 l r)
theorem fS_assoc {s : Str} (h : s ∈ S5) (l r t : Int) : wrapI (fS s (wrapI (fS s l r)) t) = wrapI (fS s l (wrapI (fS s r t))) := by
  simp only [S5, List.mem_cons, List.not_mem_nil, or_false] at h
  rcases h with rfl | rfl | rfl | rfl | rfl
  · show wrapI (wrapI (l + r) + t) = wrapI (l + wrapI (r + t))
    rw [wrap_add_l, wrap_add_r, Int.add_assoc]
  · show wrapI (wrapI (l * r) * t) = wrapI (l * wrapI (r * t))
    rw [wrap_mul_l, wrap_mul_r, Int.mul_assoc]
  · exact (wrap_bit_l Builtin.bitAnd (fun a b => a * b) band_div band_mod _ _).trans ((wrap_bits (bits_assoc Builtin.bitAnd (fun a b => a * b) band_div band_mod (fun a b c _ _ _ => Int.mul_assoc a b c) 16 l r t)).trans (wrap_bit_r Builtin.bitAnd (fun a b => a * b) band_div band_mod _ _).symm)
  · exact (wrap_bit_l Builtin.bitOr (fun a b => a + b - a * b) bor_div bor_mod _ _).trans ((wrap_bits (bits_assoc Builtin.bitOr (fun a b => a + b - a * b) bor_div bor_mod (fun a b c ha hb hc => by rcases ha with rfl | rfl <;> rcases hb with rfl | rfl <;> rcases hc with rfl | rfl <;> decide) 16 l r t)).trans (wrap_bit_r Builtin.bitOr (fun a b => a + b - a * b) bor_div bor_mod _ _).symm)
  · exact (wrap_bit_l Builtin.bitXor (fun a b => (a + b) % 2) bxor_div bxor_mod _ _).trans ((wrap_bits (bits_assoc Builtin.bitXor (fun a b => (a + b) % 2) bxor_div bxor_mod (fun a b c ha hb hc => by rcases ha with rfl | rfl <;> rcases hb with rfl | rfl <;> rcases hc with rfl | rfl <;> decide) 16 l r t)).trans (wrap_bit_r Builtin.bitXor (fun a b => (a + b) % 2) bxor_div bxor_mod _ _).symm)
theorem wrap_m16 (b : Int) : wrapI b % 16 = b % 16 := by unfold wrapI; omega
theorem shr_wd {l : Int} (h : Wd l) (d : Nat) : wrapI (l / 2 ^ d) = l / 2 ^ d := by
  refine wrap_id ?_
  have hp : (0 : Int) < 2 ^ d := Int.pow_pos (by decide)
  have h1 := Int.mul_ediv_add_emod l (2 ^ d)
  have h2 := Int.emod_nonneg l (show (2 : Int) ^ d ≠ 0 by omega)
  have h3 := Int.emod_lt_of_pos l hp
  unfold Wd at h ⊢
  constructor
  · refine (Int.le_ediv_iff_mul_le hp).mpr ?_
    have : -32768 * 2 ^ d ≤ (-32768 : Int) * 1 := by
      rw [Int.neg_mul, Int.neg_mul]
      have : (32768 : Int) * 1 ≤ 32768 * 2 ^ d := Int.mul_le_mul_of_nonneg_left (by omega) (by decide)
      omega
    omega
  · refine Int.le_of_lt_add_one ((Int.ediv_lt_iff_lt_mul hp).mpr ?_)
    have : (32768 : Int) * 1 ≤ 32768 * 2 ^ d := Int.mul_le_mul_of_nonneg_left (by omega) (by decide)
    show l < 32768 * 2 ^ d
    omega
theorem shr_le {l : Int} (d : Nat) : l / 2 ^ d * 2 ^ d ≤ l ∧ l < (l / 2 ^ d + 1) * 2 ^ d := by
  have hp : (0 : Int) < 2 ^ d := Int.pow_pos (by decide)
  have h1 := Int.mul_ediv_add_emod l (2 ^ d)
  have h2 := Int.emod_nonneg l (show (2 : Int) ^ d ≠ 0 by omega)
  have h3 := Int.emod_lt_of_pos l hp
  rw [Int.add_mul, Int.mul_comm (l / 2 ^ d)]
  omega
theorem rest_facts {l r : Int} (h : r ≠ 0) : absI (l - r * divI l r) < absI r ∧ (l - r * divI l r ≠ 0 → (l - r * divI l r < 0 ↔ l < 0)) := by
  have hS : 0 < absI r := by unfold absI; split <;> omega
  have h1 := Int.mul_ediv_add_emod (absI l) (absI r)
  have h2 := Int.emod_nonneg (absI l) (show absI r ≠ 0 by omega)
  have h3 := Int.emod_lt_of_pos (absI l) hS
  have e : (if l < 0 then -(absI l % absI r) else absI l % absI r) = l - r * divI l r := by
    unfold divI
    generalize hq : absI l / absI r = q at h1 ⊢
    generalize absI l % absI r = t at h1 h2 h3 ⊢
    unfold absI at h1
    by_cases k1 : l < 0 <;> by_cases k2 : r < 0 <;> simp only [k1, k2, if_true, if_false, decide_true, decide_false, Bool.true_eq_false, Bool.false_eq_true, Int.neg_mul, Int.mul_neg, reduceCtorEq] at h1 ⊢ <;> omega
  rw [← e]
  generalize absI l % absI r = t at h2 h3 ⊢
  constructor
  · unfold absI at h3 ⊢; split <;> split <;> omega
  · intro hn; split at hn <;> split <;> omega
def Big (x : Int) : Prop := x.natAbs < 2 ^ 200
def sp_law_integer (K : PySem.W.Frag) : Sp := fun vs H Q _ => ∃ (a : Addr), vs = [.ref a] ∧ Bag H a ∧ ∀ (r : Int) (H' : Hp), r.natAbs < 2 ^ 150 → Mv a H H' → Q (.int r) H'
theorem ok_law_integer (T : Txt K mg) : FnOk P w K mg base CX0 2 T.f_law_integer T.d_law_integer ["_law_bag_here"] (sp_law_integer K) := by
  refine T.k_law_integer.ok sc_law_integer (fun vs H Q E h => ?_) (fun cdv A outer s H vs Q E hr h => ?_)
  · obtain ⟨x, rfl, _⟩ := h
    rfl
  · obtain ⟨a, rfl, hB, q⟩ := h
    refine ⟨_, (pss_cons (ps_set (i := 1) sc_law_integer.nd rfl (.inl rfl) (pe_op op_sub (pe_call (ok_law_draw T) (hr.mono (by decide)) (by rfl) T.g_law_draw T.k_law_draw.kp T.b_law_draw .nil pass0 (pa_cons (pv 0) (pa_cons pe_int pa_nil))) pe_int))
      (C8.pss_cut (ps_if (pt_cmpR op_eq (pe_call (ok_law_draw T) (hr.mono (by decide)) (by rfl) T.g_law_draw T.k_law_draw.kp T.b_law_draw .nil pass0 (pa_cons (pv 0) (pa_cons pe_int pa_nil))) pe_int (nomark _)) (pss_one (ps_set (i := 1) sc_law_integer.nd rfl (.inl rfl) (pe_ix (ix_listK K) (pe_lst (pa_cons pe_int (pa_cons pe_int (pa_cons (pe_un un_neg pe_int) (pa_cons pe_int (pa_cons (pe_un un_neg pe_int) (pa_cons pe_int (pa_cons (pe_un un_neg pe_int) pa_nil)))))))) (pe_call (ok_law_draw T) (hr.mono (by decide)) (by rfl) T.g_law_draw T.k_law_draw.kp T.b_law_draw .nil pass0 (pa_cons (pv 0) (pa_cons pe_int pa_nil))) (fun _ _ => rfl)))) pss_nil)
      (pss_one (ps_ret (pe_op op_add (pv 1) (pe_op op_mul pe_int (pe_ix (ix_listK K) (pe_lst (pa_cons pe_int (pa_cons pe_int (pa_cons (pe_op op_sub (pe_call (ok_law_draw T) (hr.mono (by decide)) (by rfl) T.g_law_draw T.k_law_draw.kp T.b_law_draw .nil pass0 (pa_cons (pv 0) (pa_cons pe_int pa_nil))) pe_int) (pa_cons (pe_op op_mul (pe_op op_sub (pe_call (ok_law_draw T) (hr.mono (by decide)) (by rfl) T.g_law_draw T.k_law_draw.kp T.b_law_draw .nil pass0 (pa_cons (pv 0) (pa_cons (pe_op op_pow pe_int pe_int) pa_nil))) pe_int) (pe_op op_pow pe_int pe_int)) pa_nil))))) (pe_call (ok_law_draw T) (hr.mono (by decide)) (by rfl) T.g_law_draw T.k_law_draw.kp T.b_law_draw .nil pass0 (pa_cons (pv 0) (pa_cons pe_int pa_nil))) (fun _ _ => rfl)))))))), ?_⟩
    walk_at "rd"
    refine rdSeq ?_
    walk_at "rd"
    refine i_draw (Mv.refl hB) (by decide) (by decide) fun r1 H1 _ _ _ mv => ?_
    walk_at "rd"
    refine rdCut (fun σ H' => Mv a H H' ∧ ∃ v : Int, -32768 ≤ v ∧ v ≤ 32767 ∧ σ = [some (V.ref a), some (V.int v)]) ?_ ?_
    · walk_at "rd"
      refine i_draw mv (by decide) (by decide) fun r3 H2 _ _ _ mv => ?_
      walk_at "rd"
      refine ite2 (fun _ => ?_) (fun _ => ⟨mv, _, by omega, by omega, rfl⟩)
      intro p hp
      have mv1 := mv.new (o := HO.lst ([0, 1, -1, 32767, -32768, 2, -2].map V.int)) hp
      refine i_draw mv1 (by decide) (by decide) fun r H1 h0 h1 mv2 mv3 => ?_
      obtain ⟨v, ev, hv⟩ := at_int (ns := [0, 1, -1, 32767, -32768, 2, -2]) h0 h1
      refine i_ixL (sqL_of (mv2.old p _ (mv.ne hp) upd_same)) ev ?_
      simp only [List.mem_cons, List.not_mem_nil, or_false] at hv
      exact ⟨mv3, _, by omega, by omega, rfl⟩
    · rintro σ H2 ⟨mv, v, v0, v1, rfl⟩
      walk_at "rd"
      refine i_draw mv (by decide) (by decide) fun r3 H3 a0 a1 _ mv => ?_
      walk_at "rd"
      refine ⟨pow9, i_draw mv (by decide) (by decide) fun r4 H4 b0 b1 _ mv => ⟨_, rfl, pow15, cm_r (by decide), fun p hp => ?_⟩⟩
      have mv1 := mv.new (o := HO.lst ([0, 0, r3 - 50, (r4 - 7) * 10 ^ Int.toNat 15].map V.int)) hp
      refine i_draw mv1 (by decide) (by decide) fun r H1 h0 h1 mv2 mv3 => ?_
      obtain ⟨x, ev, hx⟩ := at_int (ns := [0, 0, r3 - 50, (r4 - 7) * 10 ^ Int.toNat 15]) h0 h1
      refine i_ixL (sqL_of (mv2.old p _ (mv.ne hp) upd_same)) ev ?_
      walk_at "rd"
      refine ⟨cm_l (by decide), q _ _ ?_ mv3⟩
      have e15 : (10 : Int) ^ Int.toNat 15 = 1000000000000000 := by decide
      have e9 : (10 : Int) ^ Int.toNat 9 = 1000000000 := by decide
      rw [e15] at hx
      rw [e9] at b1
      simp only [List.mem_cons, List.not_mem_nil, or_false] at hx
      have hx : -10000000000000000000000000 ≤ x ∧ x ≤ 10000000000000000000000000 := by omega
      omega
def sp_law_power (K : PySem.W.Frag) : Sp := fun vs H Q _ => ∃ (n : Nat), vs = [.int n] ∧ n ≤ 15 ∧ Q (.int (2 ^ n)) H
theorem ok_law_power (T : Txt K mg) : FnOk P w K mg base CX0 1 T.f_law_power T.d_law_power ["_law_many"] (sp_law_power K) := by
  refine T.k_law_power.ok sc_law_power (fun vs H Q E h => ?_) (fun cdv A outer s H vs Q E hr h => ?_)
  · obtain ⟨x, rfl, _⟩ := h
    rfl
  · obtain ⟨n, rfl, hn, q⟩ := h
    refine ⟨_, (pss_cons (ps_set (i := 1) sc_law_power.nd rfl (.inl rfl) pe_int)
      (pss_cons (ps_for PassesOwn.never rfl (pi_range1 (by rfl) T.m_range (pa_cons (pv 0) pa_nil)) (pg_name (i := 2) sc_law_power.nd rfl (Or.inl rfl)) (pss_one (ps_set (i := 1) sc_law_power.nd rfl (.inl rfl) (pe_op op_mul pe_int (pv 1)))))
      (pss_one (ps_ret (pv 1))))), ?_⟩
    walk_at "rd"
    refine rdSeq ?_
    walk_at "rd"
    refine rdSeq ?_
    walk_at "rd"
    refine ⟨by omega, by omega, i_for walk_range (fun i σ H2 => H2 = H ∧ ∃ u, σ = [some (.int (n : Int)), some (.int (2 ^ i)), u]) ⟨rfl, none, rfl⟩ (fun _ _ _ _ _ => trivial) ?_ ?_⟩
    · rintro i _ σ H2 _ hi ⟨rfl, u, rfl⟩ ⟨rfl, rfl⟩
      walk_at "rd"
      refine ⟨cm_l (by decide), ?_⟩
      rw [Int.pow_succ, Int.mul_comm]
    · rintro σ H2 ⟨rfl, u, rfl⟩
      walk_at "rd"
      exact q
def sp_law_ring (K : PySem.W.Frag) : Sp := fun vs H Q _ => ∃ (x y z : Int), vs = [.int x, .int y, .int z] ∧ Big x ∧ Big y ∧ ∀ H', Same H H' → Q (.bl true) H'
theorem ok_law_ring (T : Txt K mg) : FnOk P w K mg base CX0 3 T.f_law_ring T.d_law_ring ["_law_one", "_law_two", "_law_three"] (sp_law_ring K) := by
  refine T.k_law_ring.ok sc_law_ring (fun vs H Q E h => ?_) (fun cdv A outer s H vs Q E hr h => ?_)
  · obtain ⟨x, y, z, rfl, _⟩ := h
    rfl
  · obtain ⟨x, y, z, rfl, hx, hy, q⟩ := h
    refine ⟨_, (pss_cons (ps_set (i := 3) sc_law_ring.nd rfl (.inl rfl) (pe_call (ok_wrap T) (hr.mono (by decide)) (by rfl) T.g_wrap T.k_wrap.kp T.b_wrap .nil pass0 (pa_cons (pv 0) pa_nil)))
      (pss_cons (ps_set (i := 4) sc_law_ring.nd rfl (.inl rfl) (pe_call (ok_wrap T) (hr.mono (by decide)) (by rfl) T.g_wrap T.k_wrap.kp T.b_wrap .nil pass0 (pa_cons (pv 1) pa_nil)))
      (pss_cons (ps_set (i := 5) sc_law_ring.nd rfl (.inl rfl) (pe_call (ok_wrap T) (hr.mono (by decide)) (by rfl) T.g_wrap T.k_wrap.kp T.b_wrap .nil pass0 (pa_cons (pv 2) pa_nil)))
      (pss_cons (ps_if (PW.pt (pw_or (pt_cmpR op_ne (pe_call (ok_op T) (hr.mono (by decide)) (by rfl) T.g_op T.k_op.kp T.b_op .nil pass0 (pa_cons pe_str (pa_cons (pv 3) (pa_cons (pv 4) pa_nil)))) (pe_call (ok_wrap T) (hr.mono (by decide)) (by rfl) T.g_wrap T.k_wrap.kp T.b_wrap .nil pass0 (pa_cons (pe_op op_add (pv 0) (pv 1)) pa_nil)) (nomark _)) (pw_or1 (pt_cmpR op_ne (pe_call (ok_op T) (hr.mono (by decide)) (by rfl) T.g_op T.k_op.kp T.b_op .nil pass0 (pa_cons pe_str (pa_cons (pv 3) (pa_cons (pv 4) pa_nil)))) (pe_call (ok_wrap T) (hr.mono (by decide)) (by rfl) T.g_wrap T.k_wrap.kp T.b_wrap .nil pass0 (pa_cons (pe_op op_sub (pv 0) (pv 1)) pa_nil)) (nomark _))))) (pss_one (ps_ret pe_bl)) pss_nil)
      (pss_cons (ps_if (pt_cmpR op_ne (pe_call (ok_op T) (hr.mono (by decide)) (by rfl) T.g_op T.k_op.kp T.b_op .nil pass0 (pa_cons pe_str (pa_cons (pv 3) (pa_cons (pv 4) pa_nil)))) (pe_call (ok_wrap T) (hr.mono (by decide)) (by rfl) T.g_wrap T.k_wrap.kp T.b_wrap .nil pass0 (pa_cons (pe_op op_mulW (pv 0) (pv 1)) pa_nil)) (nomark _)) (pss_one (ps_ret pe_bl)) pss_nil)
      (pss_cons (ps_if (PW.pt (pw_or (pt_cmpR op_ne (pe_call (ok_op T) (hr.mono (by decide)) (by rfl) T.g_op T.k_op.kp T.b_op .nil pass0 (pa_cons pe_str (pa_cons (pv 3) (pa_cons (pv 4) pa_nil)))) (pe_call (ok_wrap T) (hr.mono (by decide)) (by rfl) T.g_wrap T.k_wrap.kp T.b_wrap .nil pass0 (pa_cons (pe_op op_and (pv 0) (pv 1)) pa_nil)) (nomark _)) (pw_or1 (pt_cmpR op_ne (pe_call (ok_op T) (hr.mono (by decide)) (by rfl) T.g_op T.k_op.kp T.b_op .nil pass0 (pa_cons pe_str (pa_cons (pv 3) (pa_cons (pv 4) pa_nil)))) (pe_call (ok_wrap T) (hr.mono (by decide)) (by rfl) T.g_wrap T.k_wrap.kp T.b_wrap .nil pass0 (pa_cons (pe_op op_or (pv 0) (pv 1)) pa_nil)) (nomark _))))) (pss_one (ps_ret pe_bl)) pss_nil)
      (pss_cons (ps_if (PW.pt (pw_or (pt_cmpR op_ne (pe_call (ok_op T) (hr.mono (by decide)) (by rfl) T.g_op T.k_op.kp T.b_op .nil pass0 (pa_cons pe_str (pa_cons (pv 3) (pa_cons (pv 4) pa_nil)))) (pe_call (ok_wrap T) (hr.mono (by decide)) (by rfl) T.g_wrap T.k_wrap.kp T.b_wrap .nil pass0 (pa_cons (pe_op op_xor (pv 0) (pv 1)) pa_nil)) (nomark _)) (pw_or1 (pt_cmpR op_ne (pe_call (ok_op T) (hr.mono (by decide)) (by rfl) T.g_op T.k_op.kp T.b_op .nil pass0 (pa_cons pe_str (pa_cons (pv 3) (pa_cons (pv 4) pa_nil)))) (pe_call (ok_wrap T) (hr.mono (by decide)) (by rfl) T.g_wrap T.k_wrap.kp T.b_wrap .nil pass0 (pa_cons (pe_op op_mul (pv 0) (pe_call (ok_law_power T) (hr.mono (by decide)) (by rfl) T.g_law_power T.k_law_power.kp T.b_law_power .nil pass0 (pa_cons (pe_op op_modP (pe_callTy call_intI (by rfl) T.m_int (by decide +kernel) (pa_cons (pv 1) pa_nil)) pe_int) pa_nil))) pa_nil)) (nomark _))))) (pss_one (ps_ret pe_bl)) pss_nil)
      (pss_cons (ps_for PassesOwn.never rfl (pi_list (pe_lst (pa_cons pe_str (pa_cons pe_str (pa_cons pe_str (pa_cons pe_str (pa_cons pe_str pa_nil))))))) (pg_name (i := 6) sc_law_ring.nd rfl (Or.inl rfl)) (pss_cons (ps_if (pt_cmpR op_ne (pe_call (ok_op T) (hr.mono (by decide)) (by rfl) T.g_op T.k_op.kp T.b_op .nil pass0 (pa_cons (pv 6) (pa_cons (pv 3) (pa_cons (pv 4) pa_nil)))) (pe_call (ok_op T) (hr.mono (by decide)) (by rfl) T.g_op T.k_op.kp T.b_op .nil pass0 (pa_cons (pv 6) (pa_cons (pv 4) (pa_cons (pv 3) pa_nil)))) (nomark _)) (pss_one (ps_ret pe_bl)) pss_nil)
      (pss_one (ps_if (pt_cmpR op_ne (pe_call (ok_op T) (hr.mono (by decide)) (by rfl) T.g_op T.k_op.kp T.b_op .nil pass0 (pa_cons (pv 6) (pa_cons (pe_call (ok_op T) (hr.mono (by decide)) (by rfl) T.g_op T.k_op.kp T.b_op .nil pass0 (pa_cons (pv 6) (pa_cons (pv 3) (pa_cons (pv 4) pa_nil)))) (pa_cons (pv 5) pa_nil)))) (pe_call (ok_op T) (hr.mono (by decide)) (by rfl) T.g_op T.k_op.kp T.b_op .nil pass0 (pa_cons (pv 6) (pa_cons (pv 3) (pa_cons (pe_call (ok_op T) (hr.mono (by decide)) (by rfl) T.g_op T.k_op.kp T.b_op .nil pass0 (pa_cons (pv 6) (pa_cons (pv 4) (pa_cons (pv 5) pa_nil)))) pa_nil)))) (nomark _)) (pss_one (ps_ret pe_bl)) pss_nil))))
      (pss_one (ps_ret (pe_cmpR op_eq (pe_call (ok_op T) (hr.mono (by decide)) (by rfl) T.g_op T.k_op.kp T.b_op .nil pass0 (pa_cons pe_str (pa_cons (pv 3) (pa_cons (pe_call (ok_op T) (hr.mono (by decide)) (by rfl) T.g_op T.k_op.kp T.b_op .nil pass0 (pa_cons pe_str (pa_cons (pv 4) (pa_cons (pv 5) pa_nil)))) pa_nil)))) (pe_call (ok_op T) (hr.mono (by decide)) (by rfl) T.g_op T.k_op.kp T.b_op .nil pass0 (pa_cons pe_str (pa_cons (pe_call (ok_op T) (hr.mono (by decide)) (by rfl) T.g_op T.k_op.kp T.b_op .nil pass0 (pa_cons pe_str (pa_cons (pv 3) (pa_cons (pv 4) pa_nil)))) (pa_cons (pe_call (ok_op T) (hr.mono (by decide)) (by rfl) T.g_op T.k_op.kp T.b_op .nil pass0 (pa_cons pe_str (pa_cons (pv 3) (pa_cons (pv 5) pa_nil)))) pa_nil)))) (nomark _)))))))))))), ?_⟩
    walk_at "rd"
    refine rdSeq ?_
    walk_at "rd"
    refine ⟨x, rfl, rdSeq ?_⟩
    walk_at "rd"
    refine ⟨y, rfl, rdSeq ?_⟩
    walk_at "rd"
    refine ⟨z, rfl, rdSeq ?_⟩
    walk_at "rd"
    refine ⟨_, _, _, rfl, wrap_wd x, wrap_wd y, fun H1 s1 => ⟨_, rfl, ?_⟩⟩
    rw [opV_add, wrap_add]
    walk_at "rd"
    refine ⟨_, _, _, rfl, wrap_wd x, wrap_wd y, fun H2 s2 => ⟨_, rfl, ?_⟩⟩
    rw [opV_sub, wrap_sub]
    walk_at "rd"
    refine rdSeq ?_
    walk_at "rd"
    refine ⟨_, _, _, rfl, wrap_wd x, wrap_wd y, fun H3 s3 => ⟨wide_mul hx hy (by decide) (by decide) (by decide), _, rfl, ?_⟩⟩
    rw [opV_mul, wrap_mul]
    walk_at "rd"
    refine rdSeq ?_
    walk_at "rd"
    refine ⟨_, _, _, rfl, wrap_wd x, wrap_wd y, fun H4 s4 => ⟨_, rfl, ?_⟩⟩
    rw [opV_and, wrap_and]
    walk_at "rd"
    refine ⟨_, _, _, rfl, wrap_wd x, wrap_wd y, fun H5 s5 => ⟨_, rfl, ?_⟩⟩
    rw [opV_or, wrap_or]
    walk_at "rd"
    refine rdSeq ?_
    walk_at "rd"
    refine ⟨_, _, _, rfl, wrap_wd x, wrap_wd y, fun H6 s6 => ⟨_, rfl, ?_⟩⟩
    rw [opV_xor, wrap_xor]
    walk_at "rd"
    refine ⟨_, _, _, rfl, wrap_wd x, wrap_wd y, fun H7 s7 => ⟨(y % 16).toNat, by rw [show y % 16 = (((y % 16).toNat : Nat) : Int) by omega]; rfl, by omega, ?_⟩⟩
    rw [opV_shl, wrap_m16]
    have pw : -(2 ^ 64) < (2 : Int) ^ (y % 16).toNat ∧ (2 : Int) ^ (y % 16).toNat < 2 ^ 64 := by
      have : ∀ n, n ≤ 15 → -(2 ^ 64) < (2 : Int) ^ n ∧ (2 : Int) ^ n < 2 ^ 64 := by decide
      exact this _ (by omega)
    walk_at "rd"
    refine ⟨.inr pw, _, rfl, ?_⟩
    rw [wrap_mul_l]
    walk_at "rd"
    refine rdSeq ?_
    walk_at "rd"
    intro p hp
    refine ⟨⟨_, sqL_of upd_same⟩, ?_⟩
    have sm := ((((((s1.trans s2).trans s3).trans s4).trans s5).trans s6).trans s7).trans (same_new (o := HO.lst (S5.map V.str)) hp)
    refine i_for (walk_listL (l := S5) (r := V.str)) (fun _ σ H' => Same H H' ∧ H' p = some (.lst (S5.map V.str)) ∧ ∃ u, σ = [some (.int x), some (.int y), some (.int z), some (.int (wrapI x)), some (.int (wrapI y)), some (.int (wrapI z)), u]) ⟨sm, upd_same, none, rfl⟩ (fun i σ H' _ h => sqL_of h.2.1) ?_ ?_
    · rintro i _ σ H8 _ hi ⟨sm, hP, u, rfl⟩ ⟨rfl, s, hs, rfl⟩
      have hs : s ∈ S5 := List.mem_of_getElem? hs
      refine rdSeq ?_
      walk_at "rd"
      refine ⟨_, _, _, rfl, wrap_wd x, wrap_wd y, fun H9 s9 => ⟨_, _, _, rfl, wrap_wd y, wrap_wd x, fun H10 s10 => ?_⟩⟩
      rw [opV_S5 hs, opV_S5 hs, fS_comm hs]
      walk_at "rd"
      refine ⟨_, _, _, rfl, wrap_wd x, wrap_wd y, fun H11 s11 => ?_⟩
      rw [opV_S5 hs]
      refine ⟨_, _, _, rfl, wrap_wd _, wrap_wd z, fun H12 s12 => ⟨_, _, _, rfl, wrap_wd y, wrap_wd z, fun H13 s13 => ?_⟩⟩
      rw [opV_S5 hs, opV_S5 hs]
      refine ⟨_, _, _, rfl, wrap_wd x, wrap_wd _, fun H14 s14 => ?_⟩
      rw [opV_S5 hs, fS_assoc hs]
      walk_at "rd"
      have s8 := ((((s9.trans s10).trans s11).trans s12).trans s13).trans s14
      exact ⟨sm.trans s8, s8 _ _ hP⟩
    · rintro σ H8 ⟨sm, hP, u, rfl⟩
      walk_at "rd"
      refine ⟨_, _, _, rfl, wrap_wd y, wrap_wd z, fun H9 s9 => ?_⟩
      rw [opV_add]
      refine ⟨_, _, _, rfl, wrap_wd x, wrap_wd _, fun H10 s10 => ⟨_, _, _, rfl, wrap_wd x, wrap_wd y, fun H11 s11 => ⟨_, _, _, rfl, wrap_wd x, wrap_wd z, fun H12 s12 => ?_⟩⟩⟩
      rw [opV_mul, opV_mul, opV_mul]
      refine ⟨_, _, _, rfl, wrap_wd _, wrap_wd _, fun H13 s13 => ?_⟩
      rw [opV_add]
      have e : wrapI (wrapI x * wrapI (wrapI y + wrapI z)) = wrapI (wrapI (wrapI x * wrapI y) + wrapI (wrapI x * wrapI z)) := by
        rw [wrap_mul_r, wrap_add, Int.mul_add]
      rw [e]
      walk_at "rd"
      exact q _ (sm.trans ((((s9.trans s10).trans s11).trans s12).trans s13))
def sp_law_division (K : PySem.W.Frag) : Sp := fun vs H Q _ => ∃ (l r : Int), vs = [.int l, .int r] ∧ Wd l ∧ Wd r ∧ ∀ H', Same H H' → Q (.bl true) H'
theorem ok_law_division (T : Txt K mg) : FnOk P w K mg base CX0 3 T.f_law_division T.d_law_division ["_law_left", "_law_right"] (sp_law_division K) := by
  refine T.k_law_division.ok sc_law_division (fun vs H Q E h => ?_) (fun cdv A outer s H vs Q E hr h => ?_)
  · obtain ⟨x, y, rfl, _⟩ := h
    rfl
  · obtain ⟨l, r, rfl, hl, hr', q⟩ := h
    refine ⟨_, (pss_cons (ps_set (i := 2) sc_law_division.nd rfl (.inl rfl) (pe_call (ok_law_power T) (hr.mono (by decide)) (by rfl) T.g_law_power T.k_law_power.kp T.b_law_power .nil pass0 (pa_cons (pe_op op_modP (pe_callTy call_intI (by rfl) T.m_int (by decide +kernel) (pa_cons (pv 1) pa_nil)) pe_int) pa_nil)))
      (pss_cons (ps_set (i := 3) sc_law_division.nd rfl (.inl rfl) (pe_call (ok_op T) (hr.mono (by decide)) (by rfl) T.g_op T.k_op.kp T.b_op .nil pass0 (pa_cons pe_str (pa_cons (pv 0) (pa_cons (pv 1) pa_nil)))))
      (pss_cons (ps_if (PW.pt (pw_or (pt_cmpR op_gt (pe_op op_mul (pv 3) (pv 2)) (pv 0) (nomark _)) (pw_or1 (pt_cmpR op_le (pe_op op_mul (pe_op op_add (pv 3) pe_int) (pv 2)) (pv 0) (nomark _))))) (pss_one (ps_ret pe_bl)) pss_nil)
      (pss_cons (ps_if (pt_cmpR op_eq (pv 1) pe_int (nomark _)) (pss_one (ps_ret (pe_and (pe_cmpR op_isN (pe_call (ok_op T) (hr.mono (by decide)) (by rfl) T.g_op T.k_op.kp T.b_op .nil pass0 (pa_cons pe_str (pa_cons (pv 0) (pa_cons (pv 1) pa_nil)))) pe_non (nomark _)) (pe_one (pe_cmpR op_isN (pe_call (ok_op T) (hr.mono (by decide)) (by rfl) T.g_op T.k_op.kp T.b_op .nil pass0 (pa_cons pe_str (pa_cons (pv 0) (pa_cons (pv 1) pa_nil)))) pe_non (nomark _)))))) pss_nil)
      (pss_cons (ps_set (i := 4) sc_law_division.nd rfl (.inl rfl) (pe_call (ok_op T) (hr.mono (by decide)) (by rfl) T.g_op T.k_op.kp T.b_op .nil pass0 (pa_cons pe_str (pa_cons (pv 0) (pa_cons (pv 1) pa_nil)))))
      (pss_cons (ps_if (pt_cmpR op_ne (pe_call (ok_op T) (hr.mono (by decide)) (by rfl) T.g_op T.k_op.kp T.b_op .nil pass0 (pa_cons pe_str (pa_cons (pe_call (ok_op T) (hr.mono (by decide)) (by rfl) T.g_op T.k_op.kp T.b_op .nil pass0 (pa_cons pe_str (pa_cons (pe_call (ok_op T) (hr.mono (by decide)) (by rfl) T.g_op T.k_op.kp T.b_op .nil pass0 (pa_cons pe_str (pa_cons (pv 0) (pa_cons (pv 1) pa_nil)))) (pa_cons (pv 1) pa_nil)))) (pa_cons (pv 4) pa_nil)))) (pv 0) (nomark _)) (pss_one (ps_ret pe_bl)) pss_nil)
      (pss_cons (ps_if (PW.pt (pw_and (pt_cmpR op_ne (pv 4) pe_int (nomark _)) (pw_and1 (pt_cmpR op_ne (pe_cmpR op_lt (pv 4) pe_int (nomark _)) (pe_cmpR op_lt (pv 0) pe_int (nomark _)) (nomark _))))) (pss_one (ps_ret pe_bl)) pss_nil)
      (pss_one (ps_ret (pe_cmpR op_lt (pe_callB (call_max2 rfl) (by rfl) T.m_max (by decide +kernel) (pa_cons (pv 4) (pa_cons (pe_un un_neg (pv 4)) pa_nil))) (pe_callB (call_max2 rfl) (by rfl) T.m_max (by decide +kernel) (pa_cons (pv 1) (pa_cons (pe_un un_neg (pv 1)) pa_nil))) (nomark _))))))))))), ?_⟩
    walk_at "rd"
    refine rdSeq ?_
    walk_at "rd"
    refine ⟨(r % 16).toNat, by rw [show r % 16 = (((r % 16).toNat : Nat) : Int) by omega]; rfl, by omega, rdSeq ?_⟩
    have pw : -(2 ^ 64) < (2 : Int) ^ (r % 16).toNat ∧ (2 : Int) ^ (r % 16).toNat < 2 ^ 64 := by
      have : ∀ n, n ≤ 15 → -(2 ^ 64) < (2 : Int) ^ n ∧ (2 : Int) ^ n < 2 ^ 64 := by decide
      exact this _ (by omega)
    walk_at "rd"
    refine ⟨_, _, _, rfl, hl, hr', fun H1 s1 => rdSeq ?_⟩
    rw [opV_shr, shr_wd hl]
    have hsh := shr_le (l := l) (r % 16).toNat
    walk_at "rd"
    refine ⟨.inr pw, i_else (by omega) ⟨.inr pw, i_else (by omega) (rdSeq ?_)⟩⟩
    walk_at "rd"
    refine ite2 (fun h => ?_) (fun h => rdSeq ?_)
    · subst h
      refine ⟨_, _, _, rfl, hl, hr', fun H2 s2 => ?_⟩
      rw [show opV "/" l 0 = .non from rfl]
      walk_at "rd"
      refine ⟨_, _, _, rfl, hl, hr', fun H3 s3 => ?_⟩
      rw [show opV "mod" l 0 = .non from rfl]
      walk_at "rd"
      exact q _ ((s1.trans s2).trans s3)
    · walk_at "rd"
      refine ⟨_, _, _, rfl, hl, hr', fun H2 s2 => rdSeq ?_⟩
      rw [opV_mod h]
      have rf := rest_facts (l := l) h
      walk_at "rd"
      refine ⟨_, _, _, rfl, hl, hr', fun H3 s3 => ?_⟩
      rw [opV_div h]
      refine ⟨_, _, _, rfl, wrap_wd _, hr', fun H4 s4 => ?_⟩
      have wr : Wd (l - r * divI l r) := by
        have := rf.1
        unfold absI at this
        unfold Wd at hr' ⊢
        split at this <;> split at this <;> omega
      rw [opV_mul, wrap_mul_l]
      refine ⟨_, _, _, rfl, wrap_wd _, wr, fun H5 s5 => ?_⟩
      have e : wrapI (wrapI (divI l r * r) + (l - r * divI l r)) = l := by
        rw [wrap_add_l, Int.mul_comm, show r * divI l r + (l - r * divI l r) = l by omega, wrap_id hl]
      rw [opV_add, e]
      have smm := (((s1.trans s2).trans s3).trans s4).trans s5
      generalize l - r * divI l r = rest at rf wr
      walk_at "rd"
      refine rdSeq ?_
      have e2 : decide ((if -rest > rest then -rest else rest) < (if -r > r then -r else r)) = true := by
        have := rf.1
        unfold absI at this
        refine decide_eq_true ?_
        split at this <;> split at this <;> split <;> split <;> omega
      have fin : Q (V.bl (decide ((if -rest > rest then -rest else rest) < (if -r > r then -r else r)))) H5 := by
        rw [e2]
        exact q _ smm
      walk_at "rd"
      refine ite2 (fun h => i_else ?_ fin) (fun _ => fin)
      have h : rest ≠ 0 := by simpa using h
      have := rf.2 h
      by_cases h1 : rest < 0
      · simp [h1, this.mp h1]
      · have : ¬ l < 0 := fun k => h1 (this.mpr k)
        simp [h1, this]
def sp_law_compared (K : PySem.W.Frag) : Sp := fun vs H Q _ => ∃ (l r : Int), vs = [.int l, .int r] ∧ Wd l ∧ Wd r ∧ ∀ H', Same H H' → Q (.bl true) H'
theorem ok_law_compared (T : Txt K mg) : FnOk P w K mg base CX0 3 T.f_law_compared T.d_law_compared ["_law_left", "_law_right"] (sp_law_compared K) := by
  refine T.k_law_compared.ok sc_law_compared (fun vs H Q E h => ?_) (fun cdv A outer s H vs Q E hr h => ?_)
  · obtain ⟨x, y, rfl, _⟩ := h
    rfl
  · obtain ⟨l, r, rfl, hl, hr', q⟩ := h
    refine ⟨_, (pss_cons (ps_set (i := 2) sc_law_compared.nd rfl (.inl rfl) (pe_call (ok_op T) (hr.mono (by decide)) (by rfl) T.g_op T.k_op.kp T.b_op .nil pass0 (pa_cons pe_str (pa_cons (pv 0) (pa_cons (pv 1) pa_nil)))))
      (pss_cons (ps_set (i := 3) sc_law_compared.nd rfl (.inl rfl) (pe_call (ok_op T) (hr.mono (by decide)) (by rfl) T.g_op T.k_op.kp T.b_op .nil pass0 (pa_cons pe_str (pa_cons (pv 0) (pa_cons (pv 1) pa_nil)))))
      (pss_cons (ps_set (i := 4) sc_law_compared.nd rfl (.inl rfl) (pe_call (ok_op T) (hr.mono (by decide)) (by rfl) T.g_op T.k_op.kp T.b_op .nil pass0 (pa_cons pe_str (pa_cons (pv 0) (pa_cons (pv 1) pa_nil)))))
      (pss_cons (ps_if (PW.pt (pw_or (pt_cmpR (op_neD hr.units) (pe_callB cr_sorted (by rfl) T.m_sorted (by decide +kernel) (pa_cons (pe_lst (pa_cons (pv 2) (pa_cons (pv 3) (pa_cons (pv 4) pa_nil)))) pa_nil)) (pe_lst (pa_cons pe_int (pa_cons pe_int (pa_cons pe_int pa_nil)))) (nomark _)) (pw_or (pt_cmpR op_ne (pv 2) (pe_call (ok_op T) (hr.mono (by decide)) (by rfl) T.g_op T.k_op.kp T.b_op .nil pass0 (pa_cons pe_str (pa_cons (pv 1) (pa_cons (pv 0) pa_nil)))) (nomark _)) (pw_or1 (pt_cmpR op_ne (pv 3) (pe_call (ok_op T) (hr.mono (by decide)) (by rfl) T.g_op T.k_op.kp T.b_op .nil pass0 (pa_cons pe_str (pa_cons (pv 1) (pa_cons (pv 0) pa_nil)))) (nomark _)))))) (pss_one (ps_ret pe_bl)) pss_nil)
      (pss_cons (ps_if (PW.pt (pw_or (pt_cmpR op_ne (pe_cmpR op_eq (pv 2) pe_int (nomark _)) (pe_cmpR op_lt (pv 0) (pv 1) (nomark _)) (nomark _)) (pw_or1 (pt_cmpR op_ne (pe_cmpR op_eq (pv 3) pe_int (nomark _)) (pe_cmpR op_eq (pv 0) (pv 1) (nomark _)) (nomark _))))) (pss_one (ps_ret pe_bl)) pss_nil)
      (pss_one (ps_ret (pe_cmpR (op_eqD hr.units) (pe_lst (pa_cons (pe_call (ok_op T) (hr.mono (by decide)) (by rfl) T.g_op T.k_op.kp T.b_op .nil pass0 (pa_cons pe_str (pa_cons (pv 0) (pa_cons (pv 1) pa_nil)))) (pa_cons (pe_call (ok_op T) (hr.mono (by decide)) (by rfl) T.g_op T.k_op.kp T.b_op .nil pass0 (pa_cons pe_str (pa_cons (pv 0) (pa_cons (pv 1) pa_nil)))) (pa_cons (pe_call (ok_op T) (hr.mono (by decide)) (by rfl) T.g_op T.k_op.kp T.b_op .nil pass0 (pa_cons pe_str (pa_cons (pv 0) (pa_cons (pv 1) pa_nil)))) pa_nil)))) (pe_lst (pa_cons (pe_op op_sub pe_int (pv 4)) (pa_cons (pe_op op_sub pe_int (pv 2)) (pa_cons (pe_op op_sub pe_int (pv 3)) pa_nil)))) (nomark _))))))))), ?_⟩
    walk_at "rd"
    refine rdSeq ?_
    walk_at "rd"
    refine ⟨_, _, _, rfl, hl, hr', fun H1 s1 => rdSeq ?_⟩
    walk_at "rd"
    refine ⟨_, _, _, rfl, hl, hr', fun H2 s2 => rdSeq ?_⟩
    walk_at "rd"
    refine ⟨_, _, _, rfl, hl, hr', fun H3 s3 => rdSeq ?_⟩
    have elt : ∀ l r, opV "<" l r = .int (if decide (l < r) = true then 1 else 0) := fun l r => rfl
    have ele : ∀ l r, opV "<=" l r = .int (if decide (l ≤ r) = true then 1 else 0) := fun l r => rfl
    have egt : ∀ l r, opV ">" l r = .int (if decide (r < l) = true then 1 else 0) := fun l r => rfl
    have ege : ∀ l r, opV ">=" l r = .int (if decide (r ≤ l) = true then 1 else 0) := fun l r => rfl
    have eeq : ∀ l r, opV "==" l r = .int (if decide (l = r) = true then 1 else 0) := fun l r => rfl
    have ene : ∀ l r, opV "!=" l r = .int (if (!decide (l = r)) = true then 1 else 0) := fun l r => rfl
    rw [elt, eeq, egt]
    walk_at "rd"
    obtain ⟨a, b, c, ea, eb, ec, hc⟩ : ∃ a b c : Int, (if l < r then (1 : Int) else 0) = a ∧ (if l = r then (1 : Int) else 0) = b ∧ (if r < l then (1 : Int) else 0) = c ∧ ((a = 1 ∧ b = 0 ∧ c = 0 ∧ l < r) ∨ (a = 0 ∧ b = 1 ∧ c = 0 ∧ l = r) ∨ (a = 0 ∧ b = 0 ∧ c = 1 ∧ r < l)) := by
      refine ⟨_, _, _, rfl, rfl, rfl, ?_⟩
      rcases Int.lt_trichotomy l r with h | h | h
      · exact .inl ⟨if_pos h, if_neg (by omega), if_neg (by omega), h⟩
      · exact .inr (.inl ⟨if_neg (by omega), if_pos h, if_neg (by omega), h⟩)
      · exact .inr (.inr ⟨if_neg (by omega), if_neg (by omega), if_pos h, h⟩)
    rw [ea, eb, ec]
    intro p hp
    refine ⟨p, [a, b, c], rfl, sqL_of upd_same, by show 3 < 64; decide, fun ns' d pm srt hd => ?_⟩
    have s4 := same_new (o := HO.lst [V.int a, V.int b, V.int c]) hp
    have e : ns' = [0, 0, 1] := by
      refine PySem.W.ksm_same ?_ srt (by decide)
      refine pm.trans ?_
      rcases hc with ⟨rfl, rfl, rfl, _⟩ | ⟨rfl, rfl, rfl, _⟩ | ⟨rfl, rfl, rfl, _⟩ <;> decide
    subst e
    intro t ht
    have nt : d ≠ t := ne_of_none upd_same ht
    refine ⟨.list [.int 0, .int 0, .int 1], .list [.int 0, .int 0, .int 1], .lst (sqL_of (by rw [upd_ne nt]; exact upd_same)) (dpInts [0, 0, 1]), .lst (sqL_of upd_same) (dpInts [0, 0, 1]), by decide +kernel, by decide +kernel, ?_⟩
    walk_at "rd"
    refine i_else (by decide +kernel) ?_
    have smm := ((((s1.trans s2).trans s3).trans s4).trans (same_new hd)).trans (same_new ht (o := HO.lst [V.int 0, V.int 0, V.int 1]))
    refine ⟨_, _, _, rfl, hr', hl, fun H5 s5 => ?_⟩
    rw [egt]
    walk_at "rd"
    refine i_else (by rw [ea]; simp) ⟨_, _, _, rfl, hr', hl, fun H6 s6 => ?_⟩
    rw [eeq]
    have eb' : (if r = l then (1 : Int) else 0) = b := by
      rw [← eb]
      by_cases h : l = r
      · rw [if_pos h, if_pos h.symm]
      · rw [if_neg h, if_neg (fun k => h k.symm)]
    have c1 : decide (a = 1) = decide (l < r) := by
      rcases hc with ⟨rfl, rfl, rfl, h⟩ | ⟨rfl, rfl, rfl, h⟩ | ⟨rfl, rfl, rfl, h⟩
      · rw [decide_eq_true h]; rfl
      · rw [decide_eq_false (show ¬ l < r by omega)]; rfl
      · rw [decide_eq_false (show ¬ l < r by omega)]; rfl
    have c2 : decide (b = 1) = decide (l = r) := by
      rcases hc with ⟨rfl, rfl, rfl, h⟩ | ⟨rfl, rfl, rfl, h⟩ | ⟨rfl, rfl, rfl, h⟩
      · rw [decide_eq_false (show ¬ l = r by omega)]; rfl
      · rw [decide_eq_true h]; rfl
      · rw [decide_eq_false (show ¬ l = r by omega)]; rfl
    walk_at "rd"
    refine i_else (by rw [eb']; simp) (rdSeq ?_)
    walk_at "rd"
    refine i_else (by rw [c1]; simp) (i_else (by rw [c2]; simp) ?_)
    refine ⟨_, _, _, rfl, hl, hr', fun H7 s7 => ⟨_, _, _, rfl, hl, hr', fun H8 s8 => ⟨_, _, _, rfl, hl, hr', fun H9 s9 => ?_⟩⟩⟩
    have e1 : (if decide (l ≤ r) = true then (1 : Int) else 0) = 1 - c := by
      rcases hc with ⟨rfl, rfl, rfl, h⟩ | ⟨rfl, rfl, rfl, h⟩ | ⟨rfl, rfl, rfl, h⟩
      · rw [if_pos (decide_eq_true (by omega))]; rfl
      · rw [if_pos (decide_eq_true (by omega))]; rfl
      · rw [if_neg (by simp; omega)]; rfl
    have e2 : (if decide (r ≤ l) = true then (1 : Int) else 0) = 1 - a := by
      rcases hc with ⟨rfl, rfl, rfl, h⟩ | ⟨rfl, rfl, rfl, h⟩ | ⟨rfl, rfl, rfl, h⟩
      · rw [if_neg (by simp; omega)]; rfl
      · rw [if_pos (decide_eq_true (by omega))]; rfl
      · rw [if_pos (decide_eq_true (by omega))]; rfl
    have e3 : (if (!decide (l = r)) = true then (1 : Int) else 0) = 1 - b := by
      rcases hc with ⟨rfl, rfl, rfl, h⟩ | ⟨rfl, rfl, rfl, h⟩ | ⟨rfl, rfl, rfl, h⟩
      · rw [if_pos (by simp; omega)]; rfl
      · rw [if_neg (by simp; omega)]; rfl
      · rw [if_pos (by simp; omega)]; rfl
    rw [ele, ege, ene, e1, e2, e3]
    walk_at "rd"
    intro p5 hp5 p6 hp6
    have n56 : p5 ≠ p6 := ne_of_none upd_same hp6
    have hd : ∀ x y z : Int, SeqAt.shaped (.list [.int x, .int y, .int z]) = true := fun _ _ _ => rfl
    refine ⟨.list [.int (1 - c), .int (1 - a), .int (1 - b)], .list [.int (1 - c), .int (1 - a), .int (1 - b)], .lst (sqL_of (by rw [upd_ne n56]; exact upd_same)) (dpInts [1 - c, 1 - a, 1 - b]), .lst (sqL_of upd_same) (dpInts [1 - c, 1 - a, 1 - b]), hd _ _ _, hd _ _ _, ?_⟩
    rw [SeqAt.eqv_refl _ (by rfl)]
    exact q _ (smm.trans (((((s5.trans s6).trans s7).trans s8).trans s9).trans ((same_new hp5).trans (same_new hp6))))
def sp_law (K : PySem.W.Frag) : Sp := fun vs H Q _ => ∃ (a : Addr) (ns : List Int), vs = [.ref a] ∧ SqL K H a (ns.map V.int) ∧ ns.length ≤ 63 ∧ ∀ H', Q (.bl true) H'
theorem same_mv {b : Addr} {H H1 H2 : Hp} (n : H b = none) (s : Same H H1) (m : Mv b H1 H2) : Same H H2 := fun c o e => m.old c o (ne_of_none e n) (s c o e)
theorem ok_law (T : Txt K mg) : FnOk P w K mg base CX0 4 T.f_law T.d_law ["_law_script"] (sp_law K) := by
  refine T.k_law.ok sc_law (fun vs H Q E h => ?_) (fun cdv A outer s H vs Q E hr h => ?_)
  · obtain ⟨a, ns, rfl, _⟩ := h
    rfl
  · obtain ⟨a, ns, rfl, hS, hl, q⟩ := h
    refine ⟨_, (pss_cons (ps_for PassesOwn.never rfl (pi_range1 (by rfl) T.m_range (pa_cons (pe_callB (call_max2 rfl) (by rfl) T.m_max (by decide +kernel) (pa_cons pe_int (pa_cons (pe_callB (call_min2 rfl) (by rfl) T.m_min (by decide +kernel) (pa_cons pe_int (pa_cons (pe_callB (lenLK K) (by rfl) T.m_len (by decide +kernel) (pa_cons (pv 0) pa_nil)) pa_nil))) pa_nil))) pa_nil)) (pg_name (i := 1) sc_law.nd rfl (Or.inl rfl)) (pss_cons (ps_set (i := 2) sc_law.nd rfl (.inl rfl) (pe_call (ok_law_bag T) (hr.mono (by decide)) (by rfl) T.g_law_bag T.k_law_bag.kp T.b_law_bag .nil pass0 (pa_cons (pv 0) (pa_cons (pv 1) pa_nil))))
      (pss_cons (ps_set (i := 3) sc_law.nd rfl (.inl rfl) (pe_call (ok_law_integer T) (hr.mono (by decide)) (by rfl) T.g_law_integer T.k_law_integer.kp T.b_law_integer .nil pass0 (pa_cons (pv 2) pa_nil)))
      (pss_cons (ps_set (i := 4) sc_law.nd rfl (.inl rfl) (pe_call (ok_law_integer T) (hr.mono (by decide)) (by rfl) T.g_law_integer T.k_law_integer.kp T.b_law_integer .nil pass0 (pa_cons (pv 2) pa_nil)))
      (pss_cons (ps_set (i := 5) sc_law.nd rfl (.inl rfl) (pe_call (ok_law_integer T) (hr.mono (by decide)) (by rfl) T.g_law_integer T.k_law_integer.kp T.b_law_integer .nil pass0 (pa_cons (pv 2) pa_nil)))
      (C8.pss_cut (ps_if (pt_cmpR op_eq (pe_call (ok_law_draw T) (hr.mono (by decide)) (by rfl) T.g_law_draw T.k_law_draw.kp T.b_law_draw .nil pass0 (pa_cons (pv 2) (pa_cons pe_int pa_nil))) pe_int (nomark _)) (pss_one (ps_set (i := 4) sc_law.nd rfl (.inl rfl) (pe_op op_add (pv 3) (pe_op op_mul pe_int (pv 5))))) pss_nil)
      (pss_cons (ps_if (pt_not (pt_val (pe_call (ok_law_ring T) (hr.mono (by decide)) (by rfl) T.g_law_ring T.k_law_ring.kp T.b_law_ring .nil pass0 (pa_cons (pv 3) (pa_cons (pv 4) (pa_cons (pv 5) pa_nil)))))) (pss_one (ps_ret pe_bl)) pss_nil)
      (pss_one (ps_if (PW.pt (pw_or (pt_not (pt_val (pe_call (ok_law_division T) (hr.mono (by decide)) (by rfl) T.g_law_division T.k_law_division.kp T.b_law_division .nil pass0 (pa_cons (pe_call (ok_wrap T) (hr.mono (by decide)) (by rfl) T.g_wrap T.k_wrap.kp T.b_wrap .nil pass0 (pa_cons (pv 3) pa_nil)) (pa_cons (pe_call (ok_wrap T) (hr.mono (by decide)) (by rfl) T.g_wrap T.k_wrap.kp T.b_wrap .nil pass0 (pa_cons (pv 4) pa_nil)) pa_nil))))) (pw_or1 (pt_not (pt_val (pe_call (ok_law_compared T) (hr.mono (by decide)) (by rfl) T.g_law_compared T.k_law_compared.kp T.b_law_compared .nil pass0 (pa_cons (pe_call (ok_wrap T) (hr.mono (by decide)) (by rfl) T.g_wrap T.k_wrap.kp T.b_wrap .nil pass0 (pa_cons (pv 3) pa_nil)) (pa_cons (pe_call (ok_wrap T) (hr.mono (by decide)) (by rfl) T.g_wrap T.k_wrap.kp T.b_wrap .nil pass0 (pa_cons (pv 4) pa_nil)) pa_nil)))))))) (pss_one (ps_ret pe_bl)) pss_nil)))))))))
      (pss_one (ps_ret pe_bl))), ?_⟩
    walk_at "rd"
    refine rdSeq ?_
    walk_at "rd"
    refine i_lenL hS ?_
    walk_at "rd"
    rw [List.length_map]
    have hj : -(2 ^ 62) ≤ (if (if (ns.length : Int) < 12 then (ns.length : Int) else 12) > 1 then (if (ns.length : Int) < 12 then (ns.length : Int) else 12) else 1) ∧ (if (if (ns.length : Int) < 12 then (ns.length : Int) else 12) > 1 then (if (ns.length : Int) < 12 then (ns.length : Int) else 12) else 1) < 2 ^ 62 := by split <;> (try split) <;> omega
    refine ⟨hj.1, hj.2, i_for walk_range (fun _ σ H' => Same H H' ∧ ∃ y1 y2 y3 y4 y5, σ = [some (.ref a), y1, y2, y3, y4, y5]) ⟨Same.refl H, _, _, _, _, _, rfl⟩ (fun _ _ _ _ _ => trivial) ?_ (fun σ H' _ => q H')⟩
    rintro i x σ H1 H2 hi ⟨sm, y1, y2, y3, y4, y5, rfl⟩ ⟨rfl, rfl⟩
    walk_at "rd"
    refine rdSeq ?_
    walk_at "rd"
    refine ⟨a, ns, 0 + i, by simp, sm.seq hS, fun b H3 hb hB sm2 => rdSeq ?_⟩
    have sm3 := sm.trans sm2
    walk_at "rd"
    refine ⟨b, rfl, hB, fun x H4 hx mv1 => rdSeq ?_⟩
    walk_at "rd"
    refine ⟨b, rfl, mv1.bag, fun y H5 hy mv2 => rdSeq ?_⟩
    walk_at "rd"
    refine ⟨b, rfl, mv2.bag, fun z H6 hz mv3 => ?_⟩
    have mv := mv1.trans (mv2.trans mv3)
    refine rdCut (fun σ H' => Mv b H3 H' ∧ ∃ y2 : Int, y2.natAbs < 2 ^ 200 ∧ σ = [some (.ref a), some (.int (0 + (i : Int))), some (.ref b), some (.int x), some (.int y2), some (.int z)]) ?_ ?_
    · walk_at "rd"
      refine i_draw mv (by decide) (by decide) fun r1 H1 _ _ _ mv => ?_
      walk_at "rd"
      refine ite2 (fun _ => ⟨cm_l (by decide), mv, _, ?_, rfl⟩) (fun _ => ⟨mv, _, ?_, rfl⟩)
      · omega
      · omega
    · rintro σ H7 ⟨mv, y2, hy2, rfl⟩
      refine rdSeq ?_
      walk_at "rd"
      refine ⟨_, _, _, rfl, Nat.lt_trans hx (by decide), hy2, fun H8 s8 => ?_⟩
      walk_at "rd"
      refine ⟨_, rfl, _, rfl, _, _, rfl, wrap_wd _, wrap_wd _, fun H9 s9 => ?_⟩
      walk_at "rd"
      refine ⟨_, rfl, _, rfl, _, _, rfl, wrap_wd _, wrap_wd _, fun H10 s10 => ?_⟩
      walk_at "rd"
      exact (same_mv (sm.free hb) sm3 mv).trans ((s8.trans s9).trans s10)

theorem all_mk {l : PySem.W.OpenLaw} {w : World} {K : PySem.W.Frag} {h : Heap} {mg : Str → Option Value} {fa : Addr} (X : K.In h) (G : h.Ns mainGlobals mg) (hfa : mg "law" = some (.ref fa))
    {f0 : Addr} {od0 an0 : Option Addr} {sl0 : Array (Option Value)} {oc0 kV0 dc0 pm0 cd0 ct0 : Value}
    {f1 : Addr} {od1 an1 : Option Addr} {sl1 : Array (Option Value)} {oc1 kV1 dc1 pm1 cd1 ct1 : Value}
    {f2 : Addr} {od2 an2 : Option Addr} {sl2 : Array (Option Value)} {oc2 kV2 dc2 pm2 cd2 ct2 : Value}
    {f3 : Addr} {od3 an3 : Option Addr} {sl3 : Array (Option Value)} {oc3 kV3 dc3 pm3 cd3 ct3 : Value}
    {f4 : Addr} {od4 an4 : Option Addr} {sl4 : Array (Option Value)} {oc4 kV4 dc4 pm4 cd4 ct4 : Value}
    {f5 : Addr} {od5 an5 : Option Addr} {sl5 : Array (Option Value)} {oc5 kV5 dc5 pm5 cd5 ct5 : Value}
    {f6 : Addr} {od6 an6 : Option Addr} {sl6 : Array (Option Value)} {oc6 kV6 dc6 pm6 cd6 ct6 : Value}
    {f7 : Addr} {od7 an7 : Option Addr} {sl7 : Array (Option Value)} {oc7 kV7 dc7 pm7 cd7 ct7 : Value}
    {f8 : Addr} {od8 an8 : Option Addr} {sl8 : Array (Option Value)} {oc8 kV8 dc8 pm8 cd8 ct8 : Value}
    {f9 : Addr} {od9 an9 : Option Addr} {sl9 : Array (Option Value)} {oc9 kV9 dc9 pm9 cd9 ct9 : Value}
    {f10 : Addr} {od10 an10 : Option Addr} {sl10 : Array (Option Value)} {oc10 kV10 dc10 pm10 cd10 ct10 : Value}
    {f11 : Addr} {od11 an11 : Option Addr} {sl11 : Array (Option Value)} {oc11 kV11 dc11 pm11 cd11 ct11 : Value}
    {f12 : Addr} {od12 an12 : Option Addr} {sl12 : Array (Option Value)} {oc12 kV12 dc12 pm12 cd12 ct12 : Value}
    {tk0 : Tok}
    (a0 : PySem.W.nsIn K mainGlobals "wrap" = some (some (.ref f0)))
    (l0 : K.lookup f0 = some ⟨oc0, od0, .func (PySem.W.fnOf "wrap" "wrap" (defArgs s_wrap) (defBody s_wrap) (defScope s_wrap) .none kV0 dc0 pm0 an0 cd0 ct0), sl0⟩) (c0 : PySem.W.codeIn K cd0 "wrap" = true) (k0 : PySem.W.keepIn K (.ref f0) = true)
    (a1 : PySem.W.nsIn K mainGlobals "divided" = some (some (.ref f1)))
    (l1 : K.lookup f1 = some ⟨oc1, od1, .func (PySem.W.fnOf "divided" "divided" (defArgs s_divided) (defBody s_divided) (defScope s_divided) .none kV1 dc1 pm1 an1 cd1 ct1), sl1⟩) (c1 : PySem.W.codeIn K cd1 "divided" = true) (k1 : PySem.W.keepIn K (.ref f1) = true)
    (a2 : PySem.W.nsIn K mainGlobals "arithmetic" = some (some (.ref f2)))
    (l2 : K.lookup f2 = some ⟨oc2, od2, .func (PySem.W.fnOf "arithmetic" "arithmetic" (defArgs s_arithmetic) (defBody s_arithmetic) (defScope s_arithmetic) .none kV2 dc2 pm2 an2 cd2 ct2), sl2⟩) (c2 : PySem.W.codeIn K cd2 "arithmetic" = true) (k2 : PySem.W.keepIn K (.ref f2) = true)
    (a3 : PySem.W.nsIn K mainGlobals "compared" = some (some (.ref f3)))
    (l3 : K.lookup f3 = some ⟨oc3, od3, .func (PySem.W.fnOf "compared" "compared" (defArgs s_compared) (defBody s_compared) (defScope s_compared) .none kV3 dc3 pm3 an3 cd3 ct3), sl3⟩) (c3 : PySem.W.codeIn K cd3 "compared" = true) (k3 : PySem.W.keepIn K (.ref f3) = true)
    (a4 : PySem.W.nsIn K mainGlobals "op" = some (some (.ref f4)))
    (l4 : K.lookup f4 = some ⟨oc4, od4, .func (PySem.W.fnOf "op" "op" (defArgs s_op) (defBody s_op) (defScope s_op) .none kV4 dc4 pm4 an4 cd4 ct4), sl4⟩) (c4 : PySem.W.codeIn K cd4 "op" = true) (k4 : PySem.W.keepIn K (.ref f4) = true)
    (a5 : PySem.W.nsIn K mainGlobals "_law_bag" = some (some (.ref f5)))
    (l5 : K.lookup f5 = some ⟨oc5, od5, .func (PySem.W.fnOf "_law_bag" "_law_bag" (defArgs s_law_bag) (defBody s_law_bag) (defScope s_law_bag) .none kV5 dc5 pm5 an5 cd5 ct5), sl5⟩) (c5 : PySem.W.codeIn K cd5 "_law_bag" = true) (k5 : PySem.W.keepIn K (.ref f5) = true)
    (a6 : PySem.W.nsIn K mainGlobals "_law_draw" = some (some (.ref f6)))
    (l6 : K.lookup f6 = some ⟨oc6, od6, .func (PySem.W.fnOf "_law_draw" "_law_draw" (defArgs s_law_draw) (defBody s_law_draw) (defScope s_law_draw) .none kV6 dc6 pm6 an6 cd6 ct6), sl6⟩) (c6 : PySem.W.codeIn K cd6 "_law_draw" = true) (k6 : PySem.W.keepIn K (.ref f6) = true)
    (a7 : PySem.W.nsIn K mainGlobals "_law_integer" = some (some (.ref f7)))
    (l7 : K.lookup f7 = some ⟨oc7, od7, .func (PySem.W.fnOf "_law_integer" "_law_integer" (defArgs s_law_integer) (defBody s_law_integer) (defScope s_law_integer) .none kV7 dc7 pm7 an7 cd7 ct7), sl7⟩) (c7 : PySem.W.codeIn K cd7 "_law_integer" = true) (k7 : PySem.W.keepIn K (.ref f7) = true)
    (a8 : PySem.W.nsIn K mainGlobals "_law_power" = some (some (.ref f8)))
    (l8 : K.lookup f8 = some ⟨oc8, od8, .func (PySem.W.fnOf "_law_power" "_law_power" (defArgs s_law_power) (defBody s_law_power) (defScope s_law_power) .none kV8 dc8 pm8 an8 cd8 ct8), sl8⟩) (c8 : PySem.W.codeIn K cd8 "_law_power" = true) (k8 : PySem.W.keepIn K (.ref f8) = true)
    (a9 : PySem.W.nsIn K mainGlobals "_law_ring" = some (some (.ref f9)))
    (l9 : K.lookup f9 = some ⟨oc9, od9, .func (PySem.W.fnOf "_law_ring" "_law_ring" (defArgs s_law_ring) (defBody s_law_ring) (defScope s_law_ring) .none kV9 dc9 pm9 an9 cd9 ct9), sl9⟩) (c9 : PySem.W.codeIn K cd9 "_law_ring" = true) (k9 : PySem.W.keepIn K (.ref f9) = true)
    (a10 : PySem.W.nsIn K mainGlobals "_law_division" = some (some (.ref f10)))
    (l10 : K.lookup f10 = some ⟨oc10, od10, .func (PySem.W.fnOf "_law_division" "_law_division" (defArgs s_law_division) (defBody s_law_division) (defScope s_law_division) .none kV10 dc10 pm10 an10 cd10 ct10), sl10⟩) (c10 : PySem.W.codeIn K cd10 "_law_division" = true) (k10 : PySem.W.keepIn K (.ref f10) = true)
    (a11 : PySem.W.nsIn K mainGlobals "_law_compared" = some (some (.ref f11)))
    (l11 : K.lookup f11 = some ⟨oc11, od11, .func (PySem.W.fnOf "_law_compared" "_law_compared" (defArgs s_law_compared) (defBody s_law_compared) (defScope s_law_compared) .none kV11 dc11 pm11 an11 cd11 ct11), sl11⟩) (c11 : PySem.W.codeIn K cd11 "_law_compared" = true) (k11 : PySem.W.keepIn K (.ref f11) = true)
    (a12 : PySem.W.nsIn K mainGlobals "law" = some (some (.ref f12)))
    (l12 : K.lookup f12 = some ⟨oc12, od12, .func (PySem.W.fnOf "law" "law" (defArgs s_law) (defBody s_law) (defScope s_law) .none kV12 dc12 pm12 an12 cd12 ct12), sl12⟩) (c12 : PySem.W.codeIn K cd12 "law" = true) (k12 : PySem.W.keepIn K (.ref f12) = true)
    (z0 : PySem.W.nsIn K mainGlobals "abs" = some none)
    (z1 : PySem.W.nsIn K mainGlobals "int" = some none)
    (z2 : PySem.W.nsIn K mainGlobals "len" = some none)
    (z3 : PySem.W.nsIn K mainGlobals "max" = some none)
    (z4 : PySem.W.nsIn K mainGlobals "min" = some none)
    (z5 : PySem.W.nsIn K mainGlobals "range" = some none)
    (z6 : PySem.W.nsIn K mainGlobals "sorted" = some none)
    (y0 : PySem.W.nsIn K mainGlobals "LEAST" = some (some (.int (-32768) tk0))) :
    ∃ fd : FuncData, (∀ (s : Shared) (v : Value), BindsTo s fd ⟨[v], []⟩ [("_law_script", v)]) ∧ ∀ base : Heap, K.In base → base.Ns mainGlobals mg → FnOk l.prog w K mg base CX0 4 fa fd ["_law_script"] (sp_law K) := by
  have e := hfa.symm.trans (PySem.W.mg_of X G a12)
  cases e
  let T : Txt K mg := {
    f_wrap := f0,
    d_wrap := _,
    k_wrap := (fun_mk (st := s_wrap) l0 c0 k0),
    b_wrap := (Fun.binds (ps := ["number"]) (fun_mk (st := s_wrap) l0 c0 k0) fun _ _ _ _ _ _ us hl => match us, hl with | [_], _ => rfl),
    g_wrap := PySem.W.mg_of X G a0,
    f_divided := f1,
    d_divided := _,
    k_divided := (fun_mk (st := s_divided) l1 c1 k1),
    b_divided := (Fun.binds (ps := ["left", "right"]) (fun_mk (st := s_divided) l1 c1 k1) fun _ _ _ _ _ _ us hl => match us, hl with | [_, _], _ => rfl),
    g_divided := PySem.W.mg_of X G a1,
    f_arithmetic := f2,
    d_arithmetic := _,
    k_arithmetic := (fun_mk (st := s_arithmetic) l2 c2 k2),
    b_arithmetic := (Fun.binds (ps := ["sign", "left", "right"]) (fun_mk (st := s_arithmetic) l2 c2 k2) fun _ _ _ _ _ _ us hl => match us, hl with | [_, _, _], _ => rfl),
    g_arithmetic := PySem.W.mg_of X G a2,
    f_compared := f3,
    d_compared := _,
    k_compared := (fun_mk (st := s_compared) l3 c3 k3),
    b_compared := (Fun.binds (ps := ["sign", "left", "right"]) (fun_mk (st := s_compared) l3 c3 k3) fun _ _ _ _ _ _ us hl => match us, hl with | [_, _, _], _ => rfl),
    g_compared := PySem.W.mg_of X G a3,
    f_op := f4,
    d_op := _,
    k_op := (fun_mk (st := s_op) l4 c4 k4),
    b_op := (Fun.binds (ps := ["sign", "left", "right"]) (fun_mk (st := s_op) l4 c4 k4) fun _ _ _ _ _ _ us hl => match us, hl with | [_, _, _], _ => rfl),
    g_op := PySem.W.mg_of X G a4,
    f_law_bag := f5,
    d_law_bag := _,
    k_law_bag := (fun_mk (st := s_law_bag) l5 c5 k5),
    b_law_bag := (Fun.binds (ps := ["_law_script", "_law_k"]) (fun_mk (st := s_law_bag) l5 c5 k5) fun _ _ _ _ _ _ us hl => match us, hl with | [_, _], _ => rfl),
    g_law_bag := PySem.W.mg_of X G a5,
    f_law_draw := f6,
    d_law_draw := _,
    k_law_draw := (fun_mk (st := s_law_draw) l6 c6 k6),
    b_law_draw := (Fun.binds (ps := ["_law_bag_here", "_law_many"]) (fun_mk (st := s_law_draw) l6 c6 k6) fun _ _ _ _ _ _ us hl => match us, hl with | [_, _], _ => rfl),
    g_law_draw := PySem.W.mg_of X G a6,
    f_law_integer := f7,
    d_law_integer := _,
    k_law_integer := (fun_mk (st := s_law_integer) l7 c7 k7),
    b_law_integer := (Fun.binds (ps := ["_law_bag_here"]) (fun_mk (st := s_law_integer) l7 c7 k7) fun _ _ _ _ _ _ us hl => match us, hl with | [_], _ => rfl),
    g_law_integer := PySem.W.mg_of X G a7,
    f_law_power := f8,
    d_law_power := _,
    k_law_power := (fun_mk (st := s_law_power) l8 c8 k8),
    b_law_power := (Fun.binds (ps := ["_law_many"]) (fun_mk (st := s_law_power) l8 c8 k8) fun _ _ _ _ _ _ us hl => match us, hl with | [_], _ => rfl),
    g_law_power := PySem.W.mg_of X G a8,
    f_law_ring := f9,
    d_law_ring := _,
    k_law_ring := (fun_mk (st := s_law_ring) l9 c9 k9),
    b_law_ring := (Fun.binds (ps := ["_law_one", "_law_two", "_law_three"]) (fun_mk (st := s_law_ring) l9 c9 k9) fun _ _ _ _ _ _ us hl => match us, hl with | [_, _, _], _ => rfl),
    g_law_ring := PySem.W.mg_of X G a9,
    f_law_division := f10,
    d_law_division := _,
    k_law_division := (fun_mk (st := s_law_division) l10 c10 k10),
    b_law_division := (Fun.binds (ps := ["_law_left", "_law_right"]) (fun_mk (st := s_law_division) l10 c10 k10) fun _ _ _ _ _ _ us hl => match us, hl with | [_, _], _ => rfl),
    g_law_division := PySem.W.mg_of X G a10,
    f_law_compared := f11,
    d_law_compared := _,
    k_law_compared := (fun_mk (st := s_law_compared) l11 c11 k11),
    b_law_compared := (Fun.binds (ps := ["_law_left", "_law_right"]) (fun_mk (st := s_law_compared) l11 c11 k11) fun _ _ _ _ _ _ us hl => match us, hl with | [_, _], _ => rfl),
    g_law_compared := PySem.W.mg_of X G a11,
    f_law := fa,
    d_law := _,
    k_law := (fun_mk (st := s_law) l12 c12 k12),
    b_law := (Fun.binds (ps := ["_law_script"]) (fun_mk (st := s_law) l12 c12 k12) fun _ _ _ _ _ _ us hl => match us, hl with | [_], _ => rfl),
    g_law := PySem.W.mg_of X G a12,
    m_abs := PySem.W.mg_none_of X G z0,
    m_int := PySem.W.mg_none_of X G z1,
    m_len := PySem.W.mg_none_of X G z2,
    m_max := PySem.W.mg_none_of X G z3,
    m_min := PySem.W.mg_none_of X G z4,
    m_range := PySem.W.mg_none_of X G z5,
    m_sorted := PySem.W.mg_none_of X G z6,
    t_LEAST := tk0,
    g_LEAST := PySem.W.mg_of X G y0 }
  exact ⟨T.d_law, fun s v => .of_eq rfl, fun base _ _ => ok_law T⟩
end
end My
open PySem PySem.W PyProof.Rows
set_option maxHeartbeats 0 in
theorem PySem.Challenge.cw_warycard_k04_whole_words_are_numbers_by_holds : PySem.Challenge.rw_warycard_k04_whole_words_are_numbers_by.Holds := by
  w_on; o_law; k_head; (case hw => w_witness2)
  k_fill
  refine L2.walk_of (l := PySem.Challenge.rw_warycard_k04_whole_words_are_numbers_by) (n := 63) (k := 4) (x := "_law_script") (CX := fun _ => L2.CX0) (sp := fun w => My.sp_law _) rfl (by decide) rfl ⟨rfl, by decide, by decide⟩ (fun w h Y => PySem.W.kIn_of Y) ?F (fun _ _ a ns hl _ hS => ⟨a, ns, rfl, hS, hl, fun _ => rfl⟩) (fun _ _ _ _ _ h => h)
  case F =>
    intro w mg fa h KX G hmg
    refine' My.all_mk KX G hmg ?a0 ?l0 ?c0 ?k0 ?a1 ?l1 ?c1 ?k1 ?a2 ?l2 ?c2 ?k2 ?a3 ?l3 ?c3 ?k3 ?a4 ?l4 ?c4 ?k4 ?a5 ?l5 ?c5 ?k5 ?a6 ?l6 ?c6 ?k6 ?a7 ?l7 ?c7 ?k7 ?a8 ?l8 ?c8 ?k8 ?a9 ?l9 ?c9 ?k9 ?a10 ?l10 ?c10 ?k10 ?a11 ?l11 ?c11 ?k11 ?a12 ?l12 ?c12 ?k12 ?z0 ?z1 ?z2 ?z3 ?z4 ?z5 ?z6 ?y0
    (case a0 => k_is); (case l0 => k_is); (case c0 => k_is); (case k0 => k_is); (case a1 => k_is); (case l1 => k_is); (case c1 => k_is); (case k1 => k_is); (case a2 => k_is); (case l2 => k_is); (case c2 => k_is); (case k2 => k_is); (case a3 => k_is); (case l3 => k_is); (case c3 => k_is); (case k3 => k_is); (case a4 => k_is); (case l4 => k_is); (case c4 => k_is); (case k4 => k_is); (case a5 => k_is); (case l5 => k_is); (case c5 => k_is); (case k5 => k_is); (case a6 => k_is); (case l6 => k_is); (case c6 => k_is); (case k6 => k_is); (case a7 => k_is); (case l7 => k_is); (case c7 => k_is); (case k7 => k_is); (case a8 => k_is); (case l8 => k_is); (case c8 => k_is); (case k8 => k_is); (case a9 => k_is); (case l9 => k_is); (case c9 => k_is); (case k9 => k_is); (case a10 => k_is); (case l10 => k_is); (case c10 => k_is); (case k10 => k_is); (case a11 => k_is); (case l11 => k_is); (case c11 => k_is); (case k11 => k_is); (case a12 => k_is); (case l12 => k_is); (case c12 => k_is); (case k12 => k_is); (case z0 => k_is); (case z1 => k_is); (case z2 => k_is); (case z3 => k_is); (case z4 => k_is); (case z5 => k_is); (case z6 => k_is); (case y0 => k_is)
#print axioms PySem.Challenge.cw_warycard_k04_whole_words_are_numbers_by_holds
