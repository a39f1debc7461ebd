import PyProof.Rows.All
import Wide.All
import OpenK.AllK
import Wide.FinOn
import HandS.ForMost
import HandS.Wide
import HandS.IsInst
import HandS.Walk
import HandS.Codes
import HandS.ForExc
import HandS.Style
import PySem.Challenge.RW_warycard_k69_cells
set_option Elab.async false
set_option maxRecDepth 100000
set_option maxHeartbeats 4000000
namespace My
open PySem PySem.Spec PyProof.Rows L2
/-! ### readings -/
theorem OpR.imp' {X : Cx} {f : Value → Value → Sem Value} {r r' : R2} (h : OpR X f r) (i : ∀ x y H Q, r' x y H Q → r x y H Q) : OpR X f r' := fun pins s σ H x y u v Q I rx ry q => h pins s σ H x y u v Q I rx ry (i _ _ _ _ q)
theorem op_modP {X : Cx} : OpR X (binaryOp .Mod) (rI (fun _ j => 0 < j) fun i j => .int (i % j)) := OpR.imp' op_modN fun x y H Q ⟨i, j, e1, e2, hj, q⟩ => ⟨i, j, e1, e2, by have hj : 0 < j := hj; show j ≠ 0; omega, by
  have hj : 0 < j := hj
  have e : i.fmod j = i % j := Int.fmod_eq_emod_of_nonneg i (by omega)
  show Q (V.int (i.fmod j)) H
  rw [e]; exact q⟩
theorem rdSeq {t u : TS} {D : Ends} {σ : L2.St} {H : Hp} (h : t { D with nx := u D } σ H) : tSeq t u D σ H := h
/-- all that was tracked is kept but the list at a, which holds three ints -/
def Bag (H : Hp) (a : Addr) : Prop := ∃ x y z : Int, H a = some (.lst [.int x, .int y, .int z])
structure Mv (a : Addr) (H H' : Hp) : Prop where
  bag : Bag H' a
  old : ∀ b o, b ≠ a → H b = some o → H' b = some o
theorem Mv.refl {a : Addr} {H : Hp} (h : Bag H a) : Mv a H H := ⟨h, fun _ _ _ e => e⟩
theorem Mv.trans {a : Addr} {H H1 H2 : Hp} (h : Mv a H H1) (k : Mv a H1 H2) : Mv a H H2 := ⟨k.bag, fun b o n e => k.old b o n (h.old b o n e)⟩
theorem Mv.new {a p : Addr} {o : HO} {H H1 : Hp} (h : Mv a H H1) (n : H1 p = none) : Mv a H (upd H1 p o) := by
  obtain ⟨x, y, z, e⟩ := h.bag
  have ne : a ≠ p := fun q => by subst q; rw [n] at e; cases e
  exact ⟨⟨x, y, z, by rw [upd_ne ne]; exact e⟩, fun b u hb hu => by
    have := h.old b u hb hu
    rw [upd_ne (ne_of_none this n)]; exact this⟩
theorem Mv.ne {a p : Addr} {H H1 : Hp} (h : Mv a H H1) (n : H1 p = none) : p ≠ a := fun q => by
  obtain ⟨x, y, z, e⟩ := h.bag
  subst q; rw [n] at e; cases e
theorem Mv.free {a p : Addr} {H H1 : Hp} (h : Mv a H H1) (n : H1 p = none) : H p = none := by
  cases e : H p with
  | none => rfl
  | some o => rw [h.old p o (h.ne n) e] at n; cases n
theorem bag_ne {a p : Addr} {H : Hp} (h : Bag H a) (n : H p = none) : p ≠ a := fun q => by
  obtain ⟨x, y, z, e⟩ := h
  subst q; rw [n] at e; cases e
theorem sqL_of {K : PySem.W.Frag} {H : Hp} {a : Addr} {xs : List V} (h : H a = some (.lst xs)) : SqL K H a xs := .inl (.inl h)
theorem sqT_of {K : PySem.W.Frag} {H : Hp} {a : Addr} {xs : List V} (h : H a = some (.tup xs)) : SqT K H a xs := .inl (.inl h)
def rIntA : List V → Hp → VK → Prop := fun xs H Q => ∃ x, xs = [x] ∧ match x with
  | .int i => Q (.int i) H
  | .bl k => Q (.int (if k = true then 1 else 0)) H
  | _ => False
theorem call_intI {X : Cx} : CallR X (.type "int") rIntA := fun pins s σ H xs us Q I r ⟨x, e, q⟩ => by
  cases x with
  | int i => exact call_int1 pins s σ H xs us Q I r (.inl ⟨i, e, q⟩)
  | bl k => exact call_int1 pins s σ H xs us Q I r (.inr ⟨k, e, q⟩)
  | _ => exact False.elim q
/-- len of a list, of a tuple -/
def rLenL (K : PySem.W.Frag) : List V → Hp → VK → Prop := fun xs H Q => ∃ p ys, xs = [.ref p] ∧ SqL K H p ys ∧ Q (.int ys.length) H
def rLenT (K : PySem.W.Frag) : List V → Hp → VK → Prop := fun xs H Q => ∃ p ys, xs = [.ref p] ∧ SqT K H p ys ∧ Q (.int ys.length) H
theorem call_lenL {X : Cx} : CallR X (.builtin "len") (rLenL X.K) := fun pins s σ H xs us Q I r ⟨p, ys, e, h, q⟩ => call_len_seq pins s σ H xs us Q I r ⟨p, ys, e, .inl h, q⟩
theorem call_lenT {X : Cx} : CallR X (.builtin "len") (rLenT X.K) := fun pins s σ H xs us Q I r ⟨p, ys, e, h, q⟩ => call_len_seq pins s σ H xs us Q I r ⟨p, ys, e, .inr h, q⟩
theorem i_lenL {K : PySem.W.Frag} {H : Hp} {Q : VK} {p : Addr} {ys : List V} (h : SqL K H p ys) (q : Q (.int ys.length) H) : rLenL K [.ref p] H Q := ⟨p, ys, rfl, h, q⟩
theorem i_lenT {K : PySem.W.Frag} {H : Hp} {Q : VK} {p : Addr} {ys : List V} (h : SqT K H p ys) (q : Q (.int ys.length) H) : rLenT K [.ref p] H Q := ⟨p, ys, rfl, h, q⟩
theorem i_ixL {K : PySem.W.Frag} {H : Hp} {Q : VK} {p : Addr} {xs : List V} {i : Int} {v : V} (h : SqL K H p xs) (e : atI xs i = some v) (q : Q v H) : rIxL K (.ref p) (.int i) H Q := ⟨p, xs, i, v, rfl, rfl, h, e, q⟩
theorem i_ixT {K : PySem.W.Frag} {H : Hp} {Q : VK} {p : Addr} {xs : List V} {i : Int} {v : V} (h : SqT K H p xs) (e : atI xs i = some v) (q : Q v H) : rIxT K (.ref p) (.int i) H Q := ⟨p, xs, i, v, rfl, rfl, h, e, q⟩
theorem i_setL {H : Hp} {p : Addr} {xs : List V} {i : Int} {j : Nat} {v : V} {Q : Hp → Prop} (h : H p = some (.lst xs)) (e : ixN xs.length i = some j) (q : Q (upd H p (.lst (xs.set j v)))) : rSetL (.ref p) (.int i) v H Q := ⟨p, xs, i, j, rfl, rfl, h, e, q⟩
theorem i_lst {H : Hp} {xs : List V} {Q : VK} (hl : xs.length ≤ sizeLine) (q : ∀ p, H p = none → Q (.ref p) (upd H p (.lst xs))) : xs.length ≤ sizeLine ∧ ∀ p, H p = none → Q (.ref p) (upd H p (.lst xs)) := ⟨hl, q⟩
/-- an item at a drawn place of a written list -/
theorem at_of {α : Type} {xs : List α} {i : Int} (h0 : 0 ≤ i) (h1 : i < xs.length) : ∃ v, atI xs i = some v ∧ v ∈ xs := by
  obtain ⟨j, rfl⟩ := Int.eq_ofNat_of_zero_le h0
  have hi : j < xs.length := by omega
  exact ⟨xs[j], atI_nat (List.getElem?_eq_getElem hi), List.getElem_mem hi⟩
theorem pow18 : CPow 10 18 := ⟨by decide, by decide, by decide⟩
theorem cm_r {i j : Int} (h : decide (-(2 ^ 64) < j) && decide (j < 2 ^ 64) = true) : CMul i j := by
  simp only [Bool.and_eq_true, decide_eq_true_eq] at h
  exact .inr h
theorem cm_l {i j : Int} (h : decide (-(2 ^ 64) < i) && decide (i < 2 ^ 64) = true) : CMul i j := by
  simp only [Bool.and_eq_true, decide_eq_true_eq] at h
  exact .inl h
theorem i_isi {K : PySem.W.Frag} {H : Hp} {Q : VK} {x : V} {t c : String} {b : Bool} (ty : TyX K H x (.type t)) (hk : kitB t c = some b) (q : Q (.bl b) H) : rIsi K [x, .ty c] H Q := ⟨x, .ty c, .type t, .type c, b, rfl, .ty c, ty, kit_ty hk, q⟩
theorem ty_int {K : PySem.W.Frag} {H : Hp} {i : Int} : TyX K H (.int i) (.type "int") := .base (.int _)
theorem ty_bl {K : PySem.W.Frag} {H : Hp} {i : Bool} : TyX K H (.bl i) (.type "bool") := .base (.bl _)
theorem ty_str {K : PySem.W.Frag} {H : Hp} {i : Str} : TyX K H (.str i) (.type "str") := .base (.str _)
theorem ty_non {K : PySem.W.Frag} {H : Hp} : TyX K H .non (.type "NoneType") := .base .non
theorem kb_ii : kitB "int" "int" = some true := by decide +kernel
theorem kb_bi : kitB "bool" "int" = some true := by decide +kernel
theorem kb_ib : kitB "int" "bool" = some false := by decide +kernel
theorem kb_bb : kitB "bool" "bool" = some true := by decide +kernel
theorem pow17 : CPow 10 17 := ⟨by decide, by decide, by decide⟩
/-- for over range(n) -/
def rForR (lo : Int) (n : Nat) (g : TG) (tb : TS) : TS := fun D σ H => ∃ W : Nat → Nat → L2.St → Hp → Prop, (∃ m, W 0 m σ H) ∧ ∀ i m σ H, W i m σ H →
  ((Itr lo n).stop i H ∧ D.nx σ H) ∨ ((Itr lo n).go i H ∧ ∃ Nx : L2.St → Hp → Prop, (∀ σ' H', Nx σ' H' → ∃ m', m' < m ∧ W (i + 1) m' σ' H') ∧ ∀ x H', (Itr lo n).yld i H x H' → g x σ H' fun σ2 H2 => tb { D with nx := Nx, ct := Nx, bk := D.nx } σ2 H2)
theorem i_forR1 {ta : TA} {g : TG} {tb : TS} {D : Ends} {σ : L2.St} {H : Hp} (h : ta σ H fun vs H1 => ∃ j : Int, vs = [.int j] ∧ -(2 ^ 62) ≤ j ∧ j < 2 ^ 62 ∧ rForR 0 j.toNat g tb D σ H1) : tFor (iRng1 ta) g tb D σ H := h
theorem i_forR2 {ta : TA} {g : TG} {tb : TS} {D : Ends} {σ : L2.St} {H : Hp} (h : ta σ H fun vs H1 => ∃ i j : Int, vs = [.int i, .int j] ∧ (-(2 ^ 62) ≤ i ∧ i < 2 ^ 62 ∧ -(2 ^ 62) ≤ j ∧ j < 2 ^ 62) ∧ rForR i (j - i).toNat g tb D σ H1) : tFor (iRng2 ta) g tb D σ H := h
theorem i_loopR {lo : Int} {n : Nat} {j : Nat} {tb : TS} {D : Ends} {σ : L2.St} {H : Hp} (Pv : Nat → L2.St → Hp → Prop) (h0 : Pv 0 σ H)
    (hs : ∀ (i : Nat) σ H, i < n → Pv i σ H → tb { D with nx := Pv (i + 1), ct := Pv (i + 1), bk := D.nx } (σ.set j (some (.int (lo + i)))) H) (hd : ∀ σ H, Pv n σ H → D.nx σ H) : rForR lo n (gName j) tb D σ H := for_range Pv h0 hs hd
theorem i_else {c A B : Prop} [Decidable c] (h : ¬ c) (b : B) : if c then A else B := by rw [if_neg h]; exact b
theorem i_then {c A B : Prop} [Decidable c] (h : c) (a : A) : if c then A else B := by rw [if_pos h]; exact a
/-- two ways that meet -/
theorem i_both {c A B T : Prop} [Decidable c] (t : T) (h1 : c → T → A) (h2 : ¬ c → T → B) : if c then A else B := ite2 (fun h => h1 h t) (fun h => h2 h t)
theorem ty_tup {K : PySem.W.Frag} {H : Hp} {p : Addr} {xs : List V} (h : H p = some (.tup xs)) : TyX K H (.ref p) (.type "tuple") := .base (.tup h)
theorem ty_lst {K : PySem.W.Frag} {H : Hp} {p : Addr} {xs : List V} (h : H p = some (.lst xs)) : TyX K H (.ref p) (.type "list") := .base (.lst h)
theorem kb_ni : kitB "NoneType" "int" = some false := by decide +kernel
theorem kb_si : kitB "str" "int" = some false := by decide +kernel
theorem kb_li : kitB "list" "int" = some false := by decide +kernel
theorem kb_ti : kitB "tuple" "int" = some false := by decide +kernel
theorem kb_di : kitB "dict" "int" = some false := by decide +kernel
/-! ### loops by what is walked -/
def rForJ (J : It) (g : TG) (tb : TS) : TS := fun D σ H => ∃ W : Nat → Nat → L2.St → Hp → Prop, (∃ m, W 0 m σ H) ∧ ∀ i m σ H, W i m σ H →
  (J.stop i H ∧ D.nx σ H) ∨ (J.go i H ∧ ∃ Nx : L2.St → Hp → Prop, (∀ σ' H', Nx σ' H' → ∃ m', m' < m ∧ W (i + 1) m' σ' H') ∧ ∀ x H', J.yld i H x H' → g x σ H' fun σ2 H2 => tb { D with nx := Nx, ct := Nx, bk := D.nx } σ2 H2)
theorem tFor_J {wi : TI} {g : TG} {tb : TS} {D : Ends} {σ : L2.St} {H : Hp} : tFor wi g tb D σ H = wi σ H fun J H1 => rForJ J g tb D σ H1 := rfl
def rLcJ (J : It) (g : TG) (tt : TT) (te : TE) (vs : List Nat) : TE := fun σ H1 Q => ∀ D, H1 D = none → ∃ W : Nat → Nat → Hp → Prop, (∃ m, W 0 m (upd H1 D (.lst []))) ∧ ∀ i m H, W i m H →
  (J.stop i H ∧ Q (.ref D) H) ∨ (J.go i H ∧ ∃ Nx : Hp → Prop, (∀ H', Nx H' → ∃ m', m' < m ∧ W (i + 1) m' H') ∧ ∀ x H', J.yld i H x H' → g x (wipe σ vs) H' fun σ2 H2 => wipe σ2 vs = wipe σ vs ∧ tt σ2 H2 fun b H3 =>
    if b = true then te σ2 H3 fun y H4 => ∃ acc, H4 D = some (.lst acc) ∧ acc.length < sizeLine ∧ Nx (upd H4 D (.lst (acc ++ [y]))) else Nx H3)
theorem tLc_J {wi : TI} {g : TG} {tt : TT} {te : TE} {vs : List Nat} {σ : L2.St} {H : Hp} {Q : VK} : tLc wi g tt te vs σ H Q = wi σ H fun J H1 => rLcJ J g tt te vs σ H1 Q := rfl
theorem i_for {J : It} {n : Nat} {G : Hp → Prop} {Y : Nat → Hp → V → Hp → Prop} (w : Walk J n G Y) {j : Nat} {tb : TS} {D : Ends} {σ : L2.St} {H : Hp} (Pv : Nat → L2.St → Hp → Prop) (h0 : Pv 0 σ H) (hG : ∀ i σ H, i ≤ n → Pv i σ H → G H)
    (hs : ∀ i x σ H H', i < n → Pv i σ H → Y i H x H' → tb { D with nx := Pv (i + 1), ct := Pv (i + 1), bk := D.nx } (σ.set j (some x)) H') (hd : ∀ σ H, Pv n σ H → D.nx σ H) : rForJ J (gName j) tb D σ H := for_it w Pv h0 hG hs hd
theorem wipe_one {σ : L2.St} {j : Nat} {x : V} : wipe ((wipe σ [j]).set j (some x)) [j] = wipe σ [j] := by
  show ((σ.set j none).set j (some x)).set j none = σ.set j none
  rw [List.set_set, List.set_set]
def YL {α : Type} (l : List α) (r : α → V) : Nat → Hp → V → Hp → Prop := fun i H v H' => H' = H ∧ ∃ c, l[i]? = some c ∧ v = r c
/-- [e for x in ..], e without an effect -/
theorem i_lcL {α : Type} {J : It} {l : List α} {r : α → V} {G : Hp → Prop} (w : Walk J l.length G (YL l r)) {j : Nat} {te : TE} {σ : L2.St} {H : Hp} {Q : VK} (g : α → V) (hn : l.length < sizeLine) (hG : ∀ D ys, H D = none → G (upd H D (.lst ys)))
    (hs : ∀ c ∈ l, ∀ H1 (Q' : VK), Same H H1 → Q' (g c) H1 → te ((wipe σ [j]).set j (some (r c))) H1 Q') (q : ∀ D, H D = none → Q (.ref D) (upd H D (.lst (l.map g)))) : rLcJ J (gName j) tYes te [j] σ H Q := by
  intro D hD
  refine lc_it w (fun i H' => H' = upd H D (.lst ((l.take i).map g))) rfl (fun i H' _ e => by subst e; exact hG D _ hD) (fun i x H1 H2 hi e y => ?_) (fun H' e => by subst e; rw [List.take_length]; exact q D hD)
  obtain ⟨e2, c, hc, rfl⟩ := y
  subst e2
  refine ⟨wipe_one, hs c (List.mem_of_getElem? hc) H2 (fun y H4 => ∃ acc, H4 D = some (.lst acc) ∧ acc.length < sizeLine ∧ upd H4 D (.lst (acc ++ [y])) = upd H D (.lst ((l.take (i + 1)).map g))) (by subst e; intro b o h; rw [upd_ne (ne_of_none h hD)]; exact h) ?_⟩
  subst e
  refine ⟨_, upd_same, by rw [List.length_map, List.length_take]; omega, ?_⟩
  rw [upd_upd, List.take_add_one, hc, List.map_append]; rfl
/-- for x in ..: if not p: return False -/
theorem i_forall {α : Type} {J : It} {l : List α} {r : α → V} {G : Hp → Prop} (w : Walk J l.length G (YL l r)) {j : Nat} {tb : TS} {D : Ends} {σ : L2.St} {H : Hp} (p : α → Bool) (v : V) (hG : G H)
    (hs : ∀ c ∈ l, ∀ D' : Ends, (p c = true → D'.nx (σ.set j (some (r c))) H) → (p c = false → D'.rt v H) → tb D' (σ.set j (some (r c))) H) (h1 : l.all p = true → D.nx σ H ∧ ∀ u, D.nx (σ.set j u) H) (h2 : l.all p = false → D.rt v H) : rForJ J (gName j) tb D σ H := by
  refine i_for w (fun i σ' H' => H' = H ∧ (σ' = σ ∨ ∃ u, σ' = σ.set j u) ∧ ∀ c ∈ l.take i, p c = true) ⟨rfl, .inl rfl, by simp⟩ (fun i σ' H' _ h => by rw [h.1]; exact hG) ?_ ?_
  · rintro i x σ' H' H2 hi ⟨rfl, hσ, hp⟩ ⟨rfl, c, hc, rfl⟩
    have hm := List.mem_of_getElem? hc
    have es : σ'.set j (some (r c)) = σ.set j (some (r c)) := by
      rcases hσ with rfl | ⟨u, rfl⟩
      · rfl
      · rw [List.set_set]
    rw [es]
    refine hs c hm _ (fun hpc => ⟨rfl, .inr ⟨_, rfl⟩, fun d hd => ?_⟩) (fun hpc => h2 ?_)
    · rw [List.take_add_one, hc] at hd
      rcases List.mem_append.mp hd with h | h
      · exact hp d h
      · rw [List.mem_singleton.mp h]; exact hpc
    · rw [List.all_eq_false]
      exact ⟨c, hm, by rw [hpc]; simp⟩
  · rintro σ' H' ⟨rfl, hσ, hp⟩
    rw [List.take_length] at hp
    have h := h1 (List.all_eq_true.mpr hp)
    rcases hσ with rfl | ⟨u, rfl⟩
    · exact h.1
    · exact h.2 u
/-- [e for x in ..], e draws from the bag at a -/
theorem i_lcD {J : It} {n : Nat} {G : Hp → Prop} {Y : Nat → Hp → V → Hp → Prop} (w : Walk J n G Y) {a : Addr} {j : Nat} {te : TE} {σ : L2.St} {H : Hp} {Q : VK} (hB : Bag H a) (P : V → Prop) (hn : n < sizeLine) (hG : ∀ H', Mv a H H' → G H') (hY : ∀ i H x H', Y i H x H' → H' = H)
    (hs : ∀ i x H1 (Q' : VK), i < n → Y i H1 x H1 → Mv a H H1 → (∀ y H2, P y → Mv a H1 H2 → Q' y H2) → te ((wipe σ [j]).set j (some x)) H1 Q') (q : ∀ D H' ys, H D = none → Mv a H H' → H' D = some (.lst ys) → ys.length = n → (∀ y ∈ ys, P y) → Q (.ref D) H') : rLcJ J (gName j) tYes te [j] σ H Q := by
  intro D hD
  have nD := bag_ne hB hD
  refine lc_it w (fun i H' => Mv a H H' ∧ ∃ ys, H' D = some (.lst ys) ∧ ys.length = i ∧ ∀ y ∈ ys, P y) ⟨(Mv.refl hB).new hD, [], upd_same, rfl, fun _ h => nomatch h⟩ (fun i H' _ e => hG H' e.1) (fun i x H1 H2 hi e y => ?_) (fun H' e => ?_)
  · have e2 := hY i H1 x H2 y
    subst e2
    obtain ⟨mv, ys, e1, e2, e3⟩ := e
    refine ⟨wipe_one, hs i x H2 (fun y H4 => ∃ acc, H4 D = some (.lst acc) ∧ acc.length < sizeLine ∧ (Mv a H (upd H4 D (.lst (acc ++ [y]))) ∧ ∃ ys, upd H4 D (.lst (acc ++ [y])) D = some (.lst ys) ∧ ys.length = i + 1 ∧ ∀ y ∈ ys, P y)) hi y mv fun v H3 hv mv3 => ?_⟩
    refine ⟨ys, mv3.old D _ nD e1, by omega, ?_⟩
    have m3 := mv.trans mv3
    refine ⟨⟨?_, fun b o hb e => ?_⟩, ys ++ [v], upd_same, by simp [e2], fun y hy => ?_⟩
    · obtain ⟨x1, x2, x3, hx⟩ := m3.bag
      exact ⟨x1, x2, x3, by rw [upd_ne nD.symm]; exact hx⟩
    · rw [upd_ne (ne_of_none e hD)]; exact m3.old b o hb e
    · rcases List.mem_append.mp hy with h | h
      · exact e3 y h
      · rw [List.mem_singleton.mp h]; exact hv
  · obtain ⟨mv, ys, e1, e2, e3⟩ := e
    exact q D H' ys hD mv e1 e2 e3
theorem rdCut {t u : TS} {D : Ends} {σ : L2.St} {H : Hp} (Mid : L2.St → Hp → Prop) (h : t { D with nx := Mid } σ H) (k : ∀ σ' H', Mid σ' H' → u D σ' H') : C8.tCut t u D σ H := ⟨Mid, h, k⟩
theorem pow9 : CPow 10 9 := ⟨by decide, by decide, by decide⟩
theorem pow8 : CPow 10 8 := ⟨by decide, by decide, by decide⟩
theorem pow12 : CPow 10 12 := ⟨by decide, by decide, by decide⟩
theorem walk_rangeL {lo : Int} {n : Nat} : Walk (Itr lo n) (List.range n).length (fun _ => True) (YL (List.range n) fun i => .int (lo + i)) := by
  rw [List.length_range]
  exact walk_range.mono (fun _ h => h) fun i H x H' hi _ y => ⟨y.1, i, by rw [List.getElem?_range hi], y.2⟩
theorem i_app {H : Hp} {l : Addr} {xs : List V} {v : V} {Q : VK} (h : H l = some (.lst xs)) (hz : xs.length < sizeLine) (q : Q .non (upd H l (.lst (xs ++ [v])))) : rAppend (.ref l) [v] H Q := ⟨l, xs, v, rfl, rfl, h, hz, q⟩
theorem ty_app {K : PySem.W.Frag} {H : Hp} {l : Addr} {xs : List V} (h : SqL K H l xs) : tyV K "list" (.ref l) H := .inl ⟨rfl, xs, h⟩
theorem i_slL {K : PySem.W.Frag} {H : Hp} {a : Addr} {xs : List V} {lo hi : Option Int} {Q : VK} (h : SqL K H a xs) (q : ∀ p, H p = none → Q (.ref p) (upd H p (.lst (cutV xs lo hi)))) : rSlL K (.ref a) lo hi H Q := ⟨a, xs, rfl, h, q⟩
theorem i_cat {H : Hp} {l b : Addr} {xs zs : List V} {Q : VK} (h1 : H l = some (.lst xs)) (h2 : H b = some (.lst zs)) (hz : xs.length + zs.length ≤ sizeLine) (q : ∀ p, H p = none → Q (.ref p) (upd H p (.lst (xs ++ zs)))) : rCat (.ref l) (.ref b) H Q := ⟨l, b, xs, zs, rfl, rfl, h1, h2, hz, q⟩
theorem i_inL {K : PySem.W.Frag} {neg : Bool} {x : V} {H : Hp} {p : Addr} {xs : List V} {Q : VK} (h : SqL K H p xs ∨ SqT K H p xs) (h1 : flatV x = true) (h2 : xs.all flatV = true) (q : Q (.bl (if neg then !inV x xs else inV x xs)) H) : rIn K neg x (.ref p) H Q := ⟨p, xs, rfl, h, h1, h2, q⟩
theorem cut_take {xs : List V} {n : Nat} : cutV xs none (some (n : Int)) = xs.take n := by
  unfold cutV
  rw [HT.sIx_none, HT.sIx_nat]
  simp only [List.drop_zero, Nat.sub_zero]
  rw [Nat.min_comm, ← List.take_take, List.take_of_length_le (by rw [List.length_take]; omega)]
theorem cut_drop {xs : List V} {n : Nat} : cutV xs (some (n : Int)) none = xs.drop n := by
  unfold cutV
  rw [HT.sIx_none, HT.sIx_nat]
  by_cases h : n ≤ xs.length
  · rw [Nat.min_eq_left h, List.take_of_length_le (by rw [List.length_drop]; omega)]
  · rw [Nat.min_eq_right (by omega), List.drop_of_length_le (by omega), List.drop_of_length_le (by omega)]; simp
theorem line5 {n : Nat} (h : n ≤ 100000) : n ≤ sizeLine := Nat.le_trans h (by decide)
theorem line5' {n : Nat} (h : n ≤ 100000) : n < sizeLine := Nat.lt_of_le_of_lt h (by decide)
/-! ### the same rules with the written part named (for a comprehension's block) -/
theorem ix_listK (K : PySem.W.Frag) {X : Cx} (h : X.K = K := by rfl) : IxR X (rIxL K) := h ▸ ix_list
theorem ix_tupK (K : PySem.W.Frag) {X : Cx} (h : X.K = K := by rfl) : IxR X (rIxT K) := h ▸ ix_tup
theorem sl_listK (K : PySem.W.Frag) {X : Cx} (h : X.K = K := by rfl) : SlR X (rSlL K) := h ▸ sl_list
theorem sl_tupK (K : PySem.W.Frag) {X : Cx} (h : X.K = K := by rfl) : SlR X (rSlT K) := h ▸ sl_tup
theorem lenLK (K : PySem.W.Frag) {X : Cx} (h : X.K = K := by rfl) : CallR X (.builtin "len") (rLenL K) := h ▸ call_lenL
theorem lenTK (K : PySem.W.Frag) {X : Cx} (h : X.K = K := by rfl) : CallR X (.builtin "len") (rLenT K) := h ▸ call_lenT
theorem isiK (K : PySem.W.Frag) {X : Cx} (h : X.K = K := by rfl) : CallR X (.builtin "isinstance") (rIsi K) := h ▸ call_isi
theorem isiTK (K : PySem.W.Frag) {X : Cx} (h : X.K = K := by rfl) : CallR X (.builtin "isinstance") (rIsiT K) := h ▸ call_isiT
theorem in_seqK (K : PySem.W.Frag) {X : Cx} (h : X.K = K := by rfl) : OpR X (compareOp .In) (rIn K false) := h ▸ op_in_seq
theorem notIn_seqK (K : PySem.W.Frag) {X : Cx} (h : X.K = K := by rfl) : OpR X (compareOp .NotIn) (rIn K true) := h ▸ op_notIn_seq
theorem i_indexS {K : PySem.W.Frag} {H : Hp} {Q : VK} {p : Addr} {l : List Str} {s : Str} {j : Nat} (h : SqL K H p (l.map V.str)) (hj : l[j]? = some s) (hn : s ∉ l.take j) (q : Q (.int (j : Nat)) H) : rIndex K (.ref p) [.str s] H Q := by
  refine ⟨p, _, .str s, j, .str s, rfl, rfl, h, rfl, ?_, by rw [List.getElem?_map, hj]; rfl, by simp [eqV], ?_, q⟩
  · rw [List.all_map, List.all_eq_true]; intro x _; rfl
  · intro m z hm hz
    rw [List.getElem?_map] at hz
    cases e : l[m]? with
    | none => rw [e] at hz; cases hz
    | some t =>
      rw [e] at hz
      have hz : V.str t = z := Option.some.inj hz
      subst hz
      show (t == s) = false
      rw [beq_eq_false_iff_ne]
      intro et; subst et
      exact hn (List.mem_of_getElem? (by rw [List.getElem?_take_of_lt hm]; exact e))
theorem walk_listL {K : PySem.W.Frag} {a : Addr} {α : Type} {l : List α} {r : α → V} : Walk (Itl K a) l.length (fun H => SqL K H a (l.map r)) (YL l r) := by
  have w := walk_list (K := K) (a := a) (xs := l.map r)
  rw [List.length_map] at w
  exact w.mono (fun _ h => h) fun i H x H' hi _ y => ⟨y.1, l[i], List.getElem?_eq_getElem hi, by
    have := y.2
    rw [List.getElem?_map, List.getElem?_eq_getElem hi] at this
    exact (Option.some.inj this).symm⟩
theorem walk_tupL {K : PySem.W.Frag} {a : Addr} {α : Type} {l : List α} {r : α → V} : Walk (Itt K a) l.length (fun H => SqT K H a (l.map r)) (YL l r) := by
  have w := walk_tup (K := K) (a := a) (xs := l.map r)
  rw [List.length_map] at w
  exact w.mono (fun _ h => h) fun i H x H' hi _ y => ⟨y.1, l[i], List.getElem?_eq_getElem hi, by
    have := y.2
    rw [List.getElem?_map, List.getElem?_eq_getElem hi] at this
    exact (Option.some.inj this).symm⟩
theorem dpStrs {K : PySem.W.Frag} {H : Hp} : ∀ l : List Str, DpAll K H (l.map V.str) (l.map PyData.str)
  | [] => .nil
  | x :: l => .cons (.str x) (dpStrs l)
theorem dpInts {K : PySem.W.Frag} {H : Hp} : ∀ l : List Int, DpAll K H (l.map V.int) (l.map PyData.int)
  | [] => .nil
  | x :: l => .cons (.int x) (dpInts l)
theorem kb_tt : kitB "tuple" "tuple" = some true := by decide +kernel
theorem pow15 : CPow 10 15 := ⟨by decide, by decide, by decide⟩
theorem sc_ii {a b : Int} : scal (.int a) (.int b) = true := rfl
theorem sc_ss {a b : Str} : scal (.str a) (.str b) = true := rfl
theorem sc_bb {a b : Bool} : scal (.bl a) (.bl b) = true := rfl
theorem sc_in {a : Int} : scal (.int a) .non = true := rfl
theorem sc_ni {a : Int} : scal .non (.int a) = true := rfl
theorem sc_nn : scal .non .non = true := rfl
theorem sc_is {a : Int} {b : Str} : scal (.int a) (.str b) = true := rfl
theorem sc_si {a : Int} {b : Str} : scal (.str b) (.int a) = true := rfl
theorem sc_ns {b : Str} : scal .non (.str b) = true := rfl
theorem sc_sn {b : Str} : scal (.str b) .non = true := rfl
theorem sc_bn {b : Bool} : scal (.bl b) .non = true := rfl
theorem sc_nb {b : Bool} : scal .non (.bl b) = true := rfl
theorem sc_sb {b : Bool} {a : Str} : scal (.str a) (.bl b) = true := rfl
theorem sc_bs {b : Bool} {a : Str} : scal (.bl b) (.str a) = true := rfl
/-- a new list at p, all else kept -/
structure NewL (H H' : Hp) (p : Addr) (xs : List V) : Prop where
  free : H p = none
  same : Same H H'
  at_ : H' p = some (.lst xs)
theorem NewL.sq {K : PySem.W.Frag} {H H' : Hp} {p : Addr} {xs : List V} (n : NewL H H' p xs) : SqL K H' p xs := sqL_of n.at_
theorem NewL.set {H H' : Hp} {p : Addr} {xs ys : List V} (n : NewL H H' p xs) : NewL H (upd H' p (.lst ys)) p ys := ⟨n.free, fun b o e => by rw [upd_ne (ne_of_none e n.free)]; exact n.same b o e, upd_same⟩
theorem NewL.more {H H' H2 : Hp} {p : Addr} {xs : List V} (n : NewL H H' p xs) (s : Same H' H2) : NewL H H2 p xs := ⟨n.free, n.same.trans s, s _ _ n.at_⟩
theorem same_new {H : Hp} {p : Addr} {o : HO} (n : H p = none) : Same H (upd H p o) := fun b u e => by rw [upd_ne (ne_of_none e n)]; exact e
theorem cut_all {xs : List V} : cutV xs (some 0) none = xs := cut_drop (n := 0)
theorem pow14 : CPow 10 14 := ⟨by decide, by decide, by decide⟩
theorem ixN_of {n j : Nat} (h : j < n) : ixN n (j : Int) = some j := by
  unfold ixN
  rw [if_pos (by omega), if_pos (by omega)]; simp

/-! ### fields, methods and exceptions, the written part named -/
section
variable {X : Cx} {K : PySem.W.Frag}
theorem pe_fldK (K : PySem.W.Frag) {e : Expr} {ta : TE} {f : Str} {pos : Pos} (he : PE X e ta) (hb : attributeBase e f X.env (eval e X.env) = eval e X.env) (hK : X.K = K := by rfl) : PE X (.Attribute e f pos) (tFld K ta f) := by
  have h := pe_fld (pos := pos) he hb
  rw [hK] at h
  exact h
theorem ps_fldK (K : PySem.W.Frag) {o value : Expr} {ta tv : TE} {f : Str} {pos pos' : Pos} (ha : PE X o ta) (hv : PE X value tv) (hs : swapsWith value (some (.Attribute o f pos')) pos.line X.env = pure false) (hK : X.K = K := by rfl) : PS X (.Assign [.Attribute o f pos'] value pos) (sFld K ta tv f) := by
  have h := ps_fld (pos := pos) ha hv hs
  rw [hK] at h
  exact h
theorem ps_fldaugK (K : PySem.W.Frag) {o value : Expr} {ta tv : TE} {f : Str} {pos tpos : Pos} {op : Operator} {rd : V → V → Hp → VK → Prop} (ha : PE X o ta) (hv : PE X value tv) (hop : InOp X op rd) (hK : X.K = K := by rfl) : PS X (.AugAssign (.Attribute o f tpos) op value pos) (sFldAug K ta tv rd f) := by
  have h := ps_fldaug (f := f) (pos := pos) (tpos := tpos) ha hv hop
  rw [hK] at h
  exact h
theorem pe_bmK (K : PySem.W.Frag) {T id : String} {name : Str} {r : V → List V → Hp → VK → Prop} {o e : Expr} {es : List Expr} {to : TE} {t : TA} {apos cpos : Pos} (pa : PlainAttrs T) (slot : Slot T name id) (hty : typeOf (.builtin id) = pure (.type "method_descriptor")) (hm : MtR X id r) (ho : PE X o to) (ha : PA X (e :: es) t)
    (hbase : attributeBase o name X.env (eval o X.env) = eval o X.env := by rfl)
    (hfew : ((backTo cpos (starEach (e :: es) X.env)).all (fun x => !x.1) && (backToKw cpos (keywordEach [] X.env)).all (fun x => x.1.isSome)
      && decide ((e :: es).length + ([] : List Keyword).length + (if ([] : List Keyword).isEmpty then 0 else 1) < 30)) = true := by rfl)
    (hline : (apos.endLine == cpos.line) = true := by rfl) (hs : starEach (e :: es) X.env = (false, eval e X.env) :: starEach es X.env := by rfl) (hplain : (backTo cpos (starEach es X.env)).any (·.1) = false := by rfl) (hK : X.K = K := by rfl) :
    PE X (.Call (.Attribute o name apos) (e :: es) [] cpos) (tBM K T r to t) := by
  have h := pe_bm pa slot hty hm ho ha hbase hfew hline hs hplain
  rw [hK] at h
  exact h
theorem pe_bm0K (K : PySem.W.Frag) {T id : String} {name : Str} {r : V → List V → Hp → VK → Prop} {o : Expr} {to : TE} {apos cpos : Pos} (pa : PlainAttrs T) (slot : Slot T name id) (hty : typeOf (.builtin id) = pure (.type "method_descriptor")) (hm : MtR X id r) (ho : PE X o to)
    (hbase : attributeBase o name X.env (eval o X.env) = eval o X.env := by rfl) (hline : (apos.endLine == cpos.line) = true := by rfl) (hK : X.K = K := by rfl) : PE X (.Call (.Attribute o name apos) [] [] cpos) (tBM0 K T r to) := by
  have h := pe_bm0 pa slot hty hm ho hbase hline
  rw [hK] at h
  exact h
/-- o.m(..) that may raise, what is raised wished for at the caller's slots -/
def tMethS (C : Addr) (m : Str) (sp : Sp) (E : L2.St → XK) (ta : TE) (t : TA) : TE := fun σ H Q => ta σ H fun x H1 => ∃ a dx fs, x = .ref a ∧ H1 a = some (.ins C dx fs) ∧ fs.lookup m = none ∧ t σ H1 fun vs H2 => sp (x :: vs) H2 Q (E σ)
variable {CX : CXT} {k : Nat} {f C : Addr} {fd : FuncData} {ps : List Str} {sp : Sp} {E : L2.St → XK} {m : Str} {pos apos : Pos} {e o : Expr} {es : List Expr} {ta : TE} {t : TA}
theorem pe_methS {pl : Sem Bool} (he : PE X o ta) (c : Cls X.K C) (hm : Meth X.K C m f) (F : FnOk X.prog X.w X.K X.mg X.base CX k f fd ps sp) (hr : Room k X.A) (hb : Binds X.K fd ps []) (hx : ∀ σ, PassesAt CX X σ (E σ)) (ha : PA X (e :: es) t)
    (hst : starEach (e :: es) X.env = (false, eval e X.env) :: starEach es X.env := by rfl) (hpl : (backTo pos (starEach es X.env)).any (·.1) = false := by rfl)
    (ht : eval (.Call (.Attribute o m apos) (e :: es) [] pos) X.env = (do
      let ov ← eval o X.env
      standAt apos.atName
      let (f, first) ← holding [ov] (getMethod ov m pl)
      callWith pos f first (backTo pos (starEach (e :: es) X.env)) (backToKw pos (keywordEach [] X.env))) := by rfl) :
    PE X (.Call (.Attribute o m apos) (e :: es) [] pos) (tMethS C m sp E ta t) := by
  refine ⟨fun pins s σ H Q I h => ?_⟩
  refine PySem.W.methodCall_KW (pl := pl) (thn (he.run pins s σ H _ I h) fun u s1 ⟨x, H1, I1, rx, a, dx, fs, ex, ea, l, q⟩ => ?_) ht
  subst ex
  obtain rfl : u = Value.ref a := rx
  refine getmeth_ok I1 ea c hm l ?_
  refine PySem.W.callWith_K (first := [.ref a]) (h₀ := X.base) I.ok.mod.kin hm.kp (thn (ha.run pos pins s1 σ H1 _ I1 q) fun us s2 ⟨vs, H2, I2, r, q2⟩ => ⟨I2.kIn, ?_⟩) hst hpl
  exact run_fnS (us := .ref a :: us) (vs := .ref a :: vs) F hr hb (hx σ) I2 (.cons rfl r) q2
theorem pe_meth0S {pl : Sem Bool} (he : PE X o ta) (c : Cls X.K C) (hm : Meth X.K C m f) (F : FnOk X.prog X.w X.K X.mg X.base CX k f fd ps sp) (hr : Room k X.A) (hb : Binds X.K fd ps []) (hx : ∀ σ, PassesAt CX X σ (E σ))
    (ht : eval (.Call (.Attribute o m apos) [] [] pos) X.env = (do
      let ov ← eval o X.env
      standAt apos.atName
      let (f, first) ← holding [ov] (getMethod ov m pl)
      callWith pos f first (backTo pos (starEach [] X.env)) (backToKw pos (keywordEach [] X.env))) := by rfl) :
    PE X (.Call (.Attribute o m apos) [] [] pos) (tMethS C m sp E ta tNil) := by
  refine ⟨fun pins s σ H Q I h => ?_⟩
  refine PySem.W.methodCall_KW (pl := pl) (thn (he.run pins s σ H _ I h) fun u s1 ⟨x, H1, I1, rx, a, dx, fs, ex, ea, l, q⟩ => ?_) ht
  subst ex
  obtain rfl : u = Value.ref a := rx
  refine getmeth_ok I1 ea c hm l ?_
  exact PySem.W.callWith_K0 (first := [.ref a]) I1.kIn hm.kp (run_fnS (us := [.ref a]) (vs := [.ref a]) F hr hb (hx σ) I1 (.cons rfl .nil) q)
theorem pe_call0S {x : Str} {p : Pos} (F : FnOk X.prog X.w X.K X.mg X.base CX k f fd ps sp) (hr : Room k X.A) (hg : Gl X x) (hm : X.mg x = some (.ref f)) (hk : PySem.W.keepIn X.K (.ref f) = true) (hb : Binds X.K fd ps []) (hx : ∀ σ, PassesAt CX X σ (E σ))
    (hdb : (x == ("__debug__" : Str)) = false := by decide) : PE X (.Call (.Name x p) [] [] pos) (tCallS sp E tNil) := by
  refine ⟨fun pins s σ H Q I h => ?_⟩
  refine wpAny_Call_Name_kw (ld_glob I hg hm ?_ hdb)
  exact PySem.W.callWith_K0 I.kIn hk (run_fnS (us := []) F hr hb (hx σ) I .nil h)
/-- X(), X an own exception class without own __init__ -/
theorem pmk_own0 {C : Addr} {bmB : List Value} {B newId initId : String} {x : Str} {p pos : Pos} (F : ExcBaseFacts B newId initId bmB) (q : PySem.W.excIn X.K C bmB newId = true) (gC : X.mg x = some (.ref C))
    (kC : PySem.W.keepIn X.K (.ref C) = true) (r : Raises X (.ref C)) (hg : Gl X x) (hdb : (x == ("__debug__" : Str)) = false := by decide) :
    PMk X (.Call (.Name x p) [] [] pos) (fun _ H Q => Q (.ref C) none H) := by
  intro pins s σ H Q I h
  refine wpAny_Call_Name_kw (ld_glob I hg gC ?_ hdb)
  refine PySem.W.callWith_K0 I.kIn kC ?_
  show wpAny _ _ (call (.ref C) []) _ _ _
  obtain ⟨bm, N, nm, qn, bs, hdct, sn, sub, ab, col, dd, k0, k1, k2, k3, k5, mN, hC, hN, hni, T⟩ := exc_obj I.kIn q
  refine wpAny_call_exc_subT F T hC hN hni (fun h' e hm => ?_) (Nat.zero_le _)
  exact mk_of I hm r h (I.hok.gone hm.new)
end
/-- an error of the class at B met by «except A» -/
theorem exm_two {K : PySem.W.Frag} {B A : Addr} {b : Bool} (h1 : PySem.W.subIn K (.ref A) (.type "BaseException") = some true) (h2 : PySem.W.isClsIn K A = true) (h3 : PySem.W.typeIn K (.ref A) = some (.type "type")) (h4 : PySem.W.subIn K (.ref B) (.ref A) = some b) :
    PySem.W.exmOne K (.ref B) (.ref A) = some b := by
  have e1 : (PySem.W.subIn K (.ref A) (.type "BaseException") == some true) = true := by rw [h1] <;> rfl
  have e2 : ((PySem.W.clsIn K A).isSome && PySem.W.typeIn K (.ref A) == some (.type "type")) = true := by
    have h2' : (PySem.W.clsIn K A).isSome = true := h2
    rw [h2', h3] <;> rfl
  show (if (PySem.W.subIn K (.ref A) (.type "BaseException") == some true) = true then (if ((PySem.W.clsIn K A).isSome && PySem.W.typeIn K (.ref A) == some (.type "type")) = true then PySem.W.subIn K (.ref B) (.ref A) else none) else none) = some b
  rw [if_pos e1, if_pos e2]
  exact h4
/-- a class of exceptions without own __init__, raised -/
structure Exc (K : PySem.W.Frag) (C : Addr) : Prop where
  x : PySem.W.excIn K C [.type "ValueError", .type "Exception", .type "BaseException", .type "object"] "ValueError.__new__" = true
  kp : PySem.W.keepIn K (.ref C) = true
  be : PySem.W.subIn K (.ref C) (.type "BaseException") = some true
  ty : PySem.W.typeIn K (.ref C) = some (.type "type")
/-! ### dicts with written keys -/
def rDGet : R2 := fun x y H Q => ∃ a v, x = .ref a ∧ DGet H a y (some v) ∧ Q v H
theorem tDGet_eq {td ty : TE} {σ : L2.St} {H : Hp} {Q : VK} : tDGet td ty σ H Q = td σ H fun x H1 => ty σ H1 fun y H2 => rDGet x y H2 Q := rfl
def rDPut : V → V → V → Hp → (Hp → Prop) → Prop := fun x y v H Q => ∃ a H4, x = .ref a ∧ DPut H a y v H4 ∧ Q H4
theorem sDPut_eq {td ty tv : TE} {D : Ends} {σ : L2.St} {H : Hp} : sDPut td ty tv D σ H = tv σ H fun v H1 => td σ H1 fun x H2 => ty σ H2 fun y H3 => rDPut x y v H3 fun H4 => D.nx σ H4 := rfl
theorem i_dget {H : Hp} {a : Addr} {kvs : List (Key × V)} {k : Str} {v : V} {Q : VK} (h : H a = some (.dK kvs)) (e : valV kvs (.inr k) = some v) (q : Q v H) : rDGet (.ref a) (.str k) H Q := ⟨a, v, rfl, by rw [← e]; exact DGet.k (k := .inr k) h, q⟩
theorem i_dput {H : Hp} {a : Addr} {kvs : List (Key × V)} {k : Str} {v : V} {Q : Hp → Prop} (h : H a = some (.dK kvs)) (hl : kvs.length < sizeLine) (q : Q (upd H a (.dK (putK kvs (.inr k) v)))) : rDPut (.ref a) (.str k) v H Q := ⟨a, _, rfl, DPut.k (k := .inr k) h hl, q⟩
/-! ### what is kept but for some objects -/
def Kp (X : List Addr) (H H' : Hp) : Prop := ∀ b o, b ∉ X → H b = some o → H' b = some o
theorem Kp.refl (X : List Addr) (H : Hp) : Kp X H H := fun _ _ _ e => e
theorem Kp.trans {X : List Addr} {H H1 H2 : Hp} (a : Kp X H H1) (b : Kp X H1 H2) : Kp X H H2 := fun c o n e => b c o n (a c o n e)
theorem Kp.mono {X Y : List Addr} {H H1 : Hp} (a : Kp X H H1) (h : ∀ b ∈ X, b ∈ Y) : Kp Y H H1 := fun c o n e => a c o (fun k => n (h c k)) e
theorem Kp.set {X : List Addr} {H : Hp} {a : Addr} {o : HO} (h : a ∈ X) : Kp X H (upd H a o) := fun b u n e => by
  rw [upd_ne (fun k => n (by rw [k]; exact h))]; exact e
theorem Kp.new {X : List Addr} {H : Hp} {a : Addr} {o : HO} (h : H a = none) : Kp X H (upd H a o) := fun b u n e => by
  rw [upd_ne (ne_of_none e h)]; exact e
theorem Kp.of {X : List Addr} {H H' : Hp} (s : Same H H') : Kp X H H' := fun b u _ e => s b u e
theorem Kp.same {X : List Addr} {H H' H0 : Hp} (k : Kp X H H') (s : Same H0 H) (n : ∀ a ∈ X, H0 a = none) : Same H0 H' := fun b o e => k b o (fun h => by rw [n b h] at e; cases e) (s b o e)
/-! ### fields -/
def rFld (K : PySem.W.Frag) (f : Str) : V → Hp → VK → Prop := fun x H1 Q => ∃ a C dx fs v, x = .ref a ∧ H1 a = some (.ins C dx fs) ∧ Cls K C ∧ NoAttr K C f ∧ fs.lookup f = some v ∧ Q v H1
theorem tFld_eq {K : PySem.W.Frag} {ta : TE} {f : Str} {σ : L2.St} {H : Hp} {Q : VK} : tFld K ta f σ H Q = ta σ H fun x H1 => rFld K f x H1 Q := rfl
def rFldS (K : PySem.W.Frag) (f : Str) : V → V → Hp → (Hp → Prop) → Prop := fun x y H2 Q => ∃ a C dx fs, x = .ref a ∧ H2 a = some (.ins C dx fs) ∧ Cls K C ∧ NoAttr K C f ∧ fs.length < 1000 ∧ Q (upd H2 a (.ins C dx (putF f y fs)))
theorem sFld_eq {K : PySem.W.Frag} {ta tv : TE} {f : Str} {D : Ends} {σ : L2.St} {H : Hp} : sFld K ta tv f D σ H = tv σ H fun y H1 => ta σ H1 fun x H2 => rFldS K f x y H2 fun H3 => D.nx σ H3 := rfl
theorem i_fld {K : PySem.W.Frag} {a C dx : Addr} {fs : List (Str × V)} {f : Str} {v : V} {H : Hp} {Q : VK} (c : Cls K C) (n : NoAttr K C f) (h : H a = some (.ins C dx fs)) (l : fs.lookup f = some v) (q : Q v H) : rFld K f (.ref a) H Q := ⟨a, C, dx, fs, v, rfl, h, c, n, l, q⟩
theorem i_fldS {K : PySem.W.Frag} {a C dx : Addr} {fs : List (Str × V)} {f : Str} {y : V} {H : Hp} {Q : Hp → Prop} (c : Cls K C) (n : NoAttr K C f) (h : H a = some (.ins C dx fs)) (l : fs.length < 1000) (q : Q (upd H a (.ins C dx (putF f y fs)))) : rFldS K f (.ref a) y H Q := ⟨a, C, dx, fs, rfl, h, c, n, l, q⟩
theorem i_rep {H : Hp} {l : Addr} {k : Int} {xs : List V} {Q : VK} (h : H l = some (.lst xs)) (h1 : -(2 ^ 63) ≤ k) (h2 : k < 2 ^ 63) (hz : xs.length * k.toNat ≤ sizeLine) (q : ∀ p, H p = none → Q (.ref p) (upd H p (.lst (List.replicate k.toNat xs).flatten))) : rRep (.ref l) (.int k) H Q := ⟨l, k, xs, rfl, rfl, h, h1, h2, hz, q⟩
theorem rep1 {n : Nat} {v : V} : (List.replicate n [v]).flatten = List.replicate n v := by
  induction n with
  | zero => rfl
  | succ n ih => rw [List.replicate_succ, List.flatten_cons, ih, List.replicate_succ]; rfl
/-- a call of a method -/
def rMeth (C : Addr) (m : Str) (sp : Sp) (E : XK) (t : (List V → Hp → Prop) → Hp → Prop) : V → Hp → VK → Prop := fun x H1 Q => ∃ a dx fs, x = .ref a ∧ H1 a = some (.ins C dx fs) ∧ fs.lookup m = none ∧ t (fun vs H2 => sp (x :: vs) H2 Q E) H1
theorem tMeth_eq {C : Addr} {m : Str} {sp : Sp} {dvs : List V} {E : XK} {ta : TE} {t : TA} {σ : L2.St} {H : Hp} {Q : VK} : tMeth C m sp dvs E ta t σ H Q = ta σ H fun x H1 => rMeth C m sp E (fun k H => t σ H fun vs H2 => k (vs ++ dvs) H2) x H1 Q := rfl
theorem tMethS_eq {C : Addr} {m : Str} {sp : Sp} {E : L2.St → XK} {ta : TE} {t : TA} {σ : L2.St} {H : Hp} {Q : VK} : tMethS C m sp E ta t σ H Q = ta σ H fun x H1 => rMeth C m sp (E σ) (fun k H => t σ H k) x H1 Q := rfl
theorem i_meth {C : Addr} {m : Str} {sp : Sp} {E : XK} {t : (List V → Hp → Prop) → Hp → Prop} {a dx : Addr} {fs : List (Str × V)} {H : Hp} {Q : VK} (h : H a = some (.ins C dx fs)) (l : fs.lookup m = none) (q : t (fun vs H2 => sp (.ref a :: vs) H2 Q E) H) : rMeth C m sp E t (.ref a) H Q := ⟨a, dx, fs, rfl, h, l, q⟩
def rFldA (K : PySem.W.Frag) (f : Str) (tv : (V → Hp → Prop) → Hp → Prop) (rd : V → V → Hp → VK → Prop) : V → Hp → (Hp → Prop) → Prop := fun x H1 Q => ∃ a C dx fs v, x = .ref a ∧ H1 a = some (.ins C dx fs) ∧ Cls K C ∧ NoAttr K C f ∧ fs.lookup f = some v ∧
  tv (fun y H2 => rd v y H2 fun z H3 => ∃ dx' fs', H3 a = some (.ins C dx' fs') ∧ fs'.length < 1000 ∧ Q (upd H3 a (.ins C dx' (putF f z fs')))) H1
theorem sFldAug_eq {K : PySem.W.Frag} {ta tv : TE} {rd : V → V → Hp → VK → Prop} {f : Str} {D : Ends} {σ : L2.St} {H : Hp} : sFldAug K ta tv rd f D σ H = ta σ H fun x H1 => rFldA K f (fun k H => tv σ H k) rd x H1 fun H3 => D.nx σ H3 := rfl
theorem i_fldA {K : PySem.W.Frag} {f : Str} {tv : (V → Hp → Prop) → Hp → Prop} {rd : V → V → Hp → VK → Prop} {a C dx : Addr} {fs : List (Str × V)} {v : V} {H : Hp} {Q : Hp → Prop} (c : Cls K C) (n : NoAttr K C f) (h : H a = some (.ins C dx fs)) (l : fs.lookup f = some v)
    (q : tv (fun y H2 => rd v y H2 fun z H3 => ∃ dx' fs', H3 a = some (.ins C dx' fs') ∧ fs'.length < 1000 ∧ Q (upd H3 a (.ins C dx' (putF f z fs')))) H) : rFldA K f tv rd (.ref a) H Q := ⟨a, C, dx, fs, v, rfl, h, c, n, l, q⟩
/-! ### == and != of data that is the same -/
theorem shaped_lay {d : PyData} (h : SeqAt.shaped d = true) : d.canLay0 = true := by
  unfold SeqAt.shaped at h
  simp only [Bool.and_eq_true] at h
  exact h.1
theorem i_neD {K : PySem.W.Frag} {x y : V} {d : PyData} {H : Hp} {Q : VK} (h1 : Dp K H x d) (h2 : Dp K H y d) (hs : SeqAt.shaped d = true) (q : Q (.bl false) H) : rNeD K x y H Q :=
  ⟨d, d, h1, h2, hs, hs, by rw [SeqAt.eqv_refl d (shaped_lay hs)]; exact q⟩
theorem i_eqD {K : PySem.W.Frag} {x y : V} {d : PyData} {H : Hp} {Q : VK} (h1 : Dp K H x d) (h2 : Dp K H y d) (hs : SeqAt.shaped d = true) (q : Q (.bl true) H) : rEqD K x y H Q :=
  ⟨d, d, h1, h2, hs, hs, by rw [SeqAt.eqv_refl d (shaped_lay hs)]; exact q⟩

local macro_rules | `(tactic| walk_at "rd") => `(tactic| try simp only [L2.start, cxOf, tVar, tC, tOp, tUn, rI0, rI, rU, tCB, tCons, tNil, tAsg, gName, gSub, tDrop, tSub, tAdd, tMul, tCmp, t2I, tIsN, tNotN, tRet, tDGet_eq, sDPut_eq, tMeth_eq, tMethS_eq, tMake, tFld_eq, sFld_eq, sFldAug_eq, rSub, rAdd, tCallS, tDisp, tPairs, rIntA, tDNewK, wipe, tFor_J, tLc_J, iRng1, iRng2, iList, iTup, iStr, tM1, tM0, tBM, tBM0, tSl, tPart, tNoPart, tLst, tTup, sizeLine_eq, Nat.reduceLeDiff, true_and, tIfS, tTest, tB, tAnd, tOr, tNot, tAndV, tOrV, tNotV, tChain, rEq, rNe, rNotB, rIsB, sc_ii, sc_ss, sc_bb, sc_in, sc_ni, sc_nn, sc_is, sc_si, sc_ns, sc_sn, sc_bn, sc_nb, sc_sb, sc_bs, tCall, tNext,  List.map, List.length, List.replicate, List.cons_append, List.nil_append, List.append_nil, List.getElem?_cons_zero, List.getElem?_cons_succ, List.set_cons_zero, List.set_cons_succ, Option.some.injEq, exists_eq_left', exists_eq_left, exists_eq', V.int.injEq, V.str.injEq, V.ref.injEq, V.bl.injEq, List.cons.injEq, and_true, true_and, and_assoc, exists_and_left, Int.reduceLT, Int.reduceNeg, Int.reduceLE, ↓reduceIte, Bool.false_eq_true, Bool.not_true, Bool.not_false, reduceCtorEq, false_and, and_false, exists_false, or_false, false_or, Nat.reduceAdd, Nat.reduceSub, decide_eq_true_eq, decide_true, decide_false])

def topS (i : Nat) : Stmt := PySem.Challenge.pw_warycard_k69_cells.main.body.getD i (.Pass ⟨0, 0, 0, 0⟩)
abbrev s_Cells_init : Stmt := inClass (topS 4) 0
theorem sc_Cells_init : FnScope ["self", "count"] ["self", "count"] (defScope s_Cells_init) := ⟨rfl, rfl, rfl, by decide +kernel, rfl, by decide +kernel, by decide +kernel⟩
abbrev s_Cells_on : Stmt := inClass (topS 4) 1
theorem sc_Cells_on : FnScope ["self"] ["self"] (defScope s_Cells_on) := ⟨rfl, rfl, rfl, by decide +kernel, rfl, by decide +kernel, by decide +kernel⟩
abbrev s_Cells_cut : Stmt := inClass (topS 4) 2
theorem sc_Cells_cut : FnScope ["self", "writes"] ["self", "writes"] (defScope s_Cells_cut) := ⟨rfl, rfl, rfl, by decide +kernel, rfl, by decide +kernel, by decide +kernel⟩
abbrev s_Cells_restore : Stmt := inClass (topS 4) 3
theorem sc_Cells_restore : FnScope ["self"] ["self"] (defScope s_Cells_restore) := ⟨rfl, rfl, rfl, by decide +kernel, rfl, by decide +kernel, by decide +kernel⟩
abbrev s_Cells_read : Stmt := inClass (topS 4) 4
theorem sc_Cells_read : FnScope ["self", "place"] ["self", "place"] (defScope s_Cells_read) := ⟨rfl, rfl, rfl, by decide +kernel, rfl, by decide +kernel, by decide +kernel⟩
abbrev s_Cells_write : Stmt := inClass (topS 4) 5
theorem sc_Cells_write : FnScope ["self", "place", "word"] ["self", "place", "word"] (defScope s_Cells_write) := ⟨rfl, rfl, rfl, by decide +kernel, rfl, by decide +kernel, by decide +kernel⟩
abbrev s_law_draws : Stmt := topS 6
theorem sc_law_draws : FnScope ["_law_script", "_law_start", "_law_most", "_law_draws_here", "_law_cell", "_law_number", "_law_mixed", "_law_k"] ["_law_script", "_law_start", "_law_most"] (defScope s_law_draws) := ⟨rfl, rfl, rfl, by decide +kernel, rfl, by decide +kernel, by decide +kernel⟩
abbrev s_law_act : Stmt := topS 7
theorem sc_law_act : FnScope ["_law_cells", "_law_deed"] ["_law_cells", "_law_deed"] (defScope s_law_act) := ⟨rfl, rfl, rfl, by decide +kernel, rfl, by decide +kernel, by decide +kernel⟩
abbrev s_law_expect : Stmt := topS 8
theorem sc_law_expect : FnScope ["_law_state", "_law_deed", "_law_words"] ["_law_state", "_law_deed"] (defScope s_law_expect) := ⟨rfl, rfl, rfl, by decide +kernel, rfl, by decide +kernel, by decide +kernel⟩
abbrev s_law : Stmt := topS 9
theorem sc_law : FnScope ["_law_script", "_law_count", "_law_cells", "_law_state", "_law_draw", "_law_kind", "_law_rest", "_law_deed", "_law_place"] ["_law_script"] (defScope s_law) := ⟨rfl, rfl, rfl, by decide +kernel, rfl, by decide +kernel, by decide +kernel⟩
/-- what the top has left -/
structure Txt (K : PySem.W.Frag) (mg : Str → Option Value) where
  f_Cells_init : Addr
  d_Cells_init : FuncData
  k_Cells_init : Fun K "__init__" "Cells.__init__" s_Cells_init f_Cells_init d_Cells_init
  b_Cells_init : Binds K d_Cells_init ["self", "count"] []
  f_Cells_on : Addr
  d_Cells_on : FuncData
  k_Cells_on : Fun K "on" "Cells.on" s_Cells_on f_Cells_on d_Cells_on
  b_Cells_on : Binds K d_Cells_on ["self"] []
  f_Cells_cut : Addr
  d_Cells_cut : FuncData
  k_Cells_cut : Fun K "cut" "Cells.cut" s_Cells_cut f_Cells_cut d_Cells_cut
  b_Cells_cut : Binds K d_Cells_cut ["self", "writes"] []
  f_Cells_restore : Addr
  d_Cells_restore : FuncData
  k_Cells_restore : Fun K "restore" "Cells.restore" s_Cells_restore f_Cells_restore d_Cells_restore
  b_Cells_restore : Binds K d_Cells_restore ["self"] []
  f_Cells_read : Addr
  d_Cells_read : FuncData
  k_Cells_read : Fun K "read" "Cells.read" s_Cells_read f_Cells_read d_Cells_read
  b_Cells_read : Binds K d_Cells_read ["self", "place"] []
  f_Cells_write : Addr
  d_Cells_write : FuncData
  k_Cells_write : Fun K "write" "Cells.write" s_Cells_write f_Cells_write d_Cells_write
  b_Cells_write : Binds K d_Cells_write ["self", "place", "word"] []
  f_law_draws : Addr
  d_law_draws : FuncData
  k_law_draws : Fun K "_law_draws" "_law_draws" s_law_draws f_law_draws d_law_draws
  b_law_draws : Binds K d_law_draws ["_law_script", "_law_start", "_law_most"] []
  g_law_draws : mg "_law_draws" = some (.ref f_law_draws)
  f_law_act : Addr
  d_law_act : FuncData
  k_law_act : Fun K "_law_act" "_law_act" s_law_act f_law_act d_law_act
  b_law_act : Binds K d_law_act ["_law_cells", "_law_deed"] []
  g_law_act : mg "_law_act" = some (.ref f_law_act)
  f_law_expect : Addr
  d_law_expect : FuncData
  k_law_expect : Fun K "_law_expect" "_law_expect" s_law_expect f_law_expect d_law_expect
  b_law_expect : Binds K d_law_expect ["_law_state", "_law_deed"] []
  g_law_expect : mg "_law_expect" = some (.ref f_law_expect)
  f_law : Addr
  d_law : FuncData
  k_law : Fun K "law" "law" s_law f_law d_law
  b_law : Binds K d_law ["_law_script"] []
  g_law : mg "law" = some (.ref f_law)
  c_CardError : Addr
  g_CardError : mg "CardError" = some (.ref c_CardError)
  c_PowerCut : Addr
  g_PowerCut : mg "PowerCut" = some (.ref c_PowerCut)
  x_PowerCut : Exc K c_PowerCut
  ex_PowerCut_PowerCut : PySem.W.exmOne K (.ref c_PowerCut) (.ref c_PowerCut) = some true
  c_Cells : Addr
  g_Cells : mg "Cells" = some (.ref c_Cells)
  cl_Cells : Cls K c_Cells
  mk_Cells : Mk K c_Cells f_Cells_init
  me_Cells_on : Meth K c_Cells "on" f_Cells_on
  me_Cells_cut : Meth K c_Cells "cut" f_Cells_cut
  me_Cells_restore : Meth K c_Cells "restore" f_Cells_restore
  me_Cells_read : Meth K c_Cells "read" f_Cells_read
  me_Cells_write : Meth K c_Cells "write" f_Cells_write
  nf_Cells_words : NoAttr K c_Cells "_words"
  nf_Cells_left : NoAttr K c_Cells "_left"
  nf_Cells_on : NoAttr K c_Cells "_on"
  m_abs : mg "abs" = none
  m_bool : mg "bool" = none
  m_int : mg "int" = none
  m_isinstance : mg "isinstance" = none
  m_len : mg "len" = none
  m_range : mg "range" = none
section
variable {P : Program} {w : World} {K : PySem.W.Frag} {mg : Str → Option Value} {base : Heap}

/-! ### cells.py -/
def cf (l : Addr) (lv : V) (b : Bool) : List (Str × V) := [("_words", .ref l), ("_left", lv), ("_on", .bl b)]
structure CS where
  words : List Int
  left : Option Int
  on : Bool
def lfV : Option Int → V
  | none => .non
  | some i => .int i
/-- a Cells object stands at a, its words at l -/
structure CellsAt (C : Addr) (H : Hp) (a l : Addr) (S : CS) : Prop where
  ob : ∃ dx, H a = some (.ins C dx (cf l (lfV S.left) S.on))
  ws : H l = some (.lst (S.words.map V.int))
  sz : S.words.length ≤ 1000
theorem CellsAt.ne {C : Addr} {H : Hp} {a l : Addr} {S : CS} (c : CellsAt C H a l S) : a ≠ l := by
  obtain ⟨dx, h⟩ := c.ob
  exact ne_of h c.ws (by intro z; cases z)
theorem CellsAt.keep {C : Addr} {H H' : Hp} {a l : Addr} {S : CS} {X : List Addr} (c : CellsAt C H a l S) (k : Kp X H H') (h1 : a ∉ X) (h2 : l ∉ X) : CellsAt C H' a l S := by
  obtain ⟨dx, h⟩ := c.ob
  exact ⟨⟨dx, k a _ h1 h⟩, k l _ h2 c.ws, c.sz⟩
def sp_Cells_init {K : PySem.W.Frag} {mg : Str → Option Value} (T : Txt K mg) : Sp := fun vs H Q _ => ∃ (x dx : Addr) (n : Nat), vs = [.ref x, .int n] ∧ H x = some (.ins T.c_Cells dx []) ∧ n ≤ 1000 ∧
  ∀ H' l, CellsAt T.c_Cells H' x l ⟨List.replicate n 0, none, true⟩ → H l = none → Kp [x] H H' → Q .non H'
theorem ok_Cells_init (T : Txt K mg) : FnOk P w K mg base CX0 1 T.f_Cells_init T.d_Cells_init ["self", "count"] (sp_Cells_init T) := by
  refine T.k_Cells_init.ok sc_Cells_init (fun vs H Q E h => ?_) (fun cdv A outer s H vs Q E hr h => ?_)
  · obtain ⟨x, dx, n, rfl, _⟩ := h
    rfl
  · obtain ⟨x, dx, n, rfl, hx, hn, q⟩ := h
    refine ⟨_, (pss_cons (ps_fldK K (pv 0) (pe_op op_rep (pe_lst (pa_cons pe_int pa_nil)) (pv 1)) rfl)
      (pss_cons (ps_fldK K (pv 0) pe_non rfl)
      (pss_one (ps_fldK K (pv 0) pe_bl rfl)))), ?_⟩
    walk_at "rd"
    refine rdSeq ?_
    walk_at "rd"
    intro p hp
    have xp : x ≠ p := ne_of_none hx hp
    refine i_rep upd_same (by omega) (by omega) (by show 1 * _ ≤ _; rw [sizeLine_eq]; omega) fun l hl => ?_
    have xl : x ≠ l := ne_of_none (same_new hp _ _ hx) hl
    have hx2 : upd (upd H p (.lst [.int 0])) l (.lst (List.replicate ((n : Int)).toNat [V.int 0]).flatten) x = some (.ins T.c_Cells dx []) := same_new hl _ _ (same_new hp _ _ hx)
    refine i_fldS T.cl_Cells T.nf_Cells_words hx2 (by decide) (rdSeq ?_)
    walk_at "rd"
    refine i_fldS T.cl_Cells T.nf_Cells_left upd_same (by show 1 < 1000; decide) ?_
    refine i_fldS T.cl_Cells T.nf_Cells_on upd_same (by show 2 < 1000; decide) ?_
    rw [upd_upd, upd_upd]
    refine q _ l ⟨⟨dx, by rw [upd_same]; rfl⟩, ?_, by show (List.replicate n (0 : Int)).length ≤ 1000; rw [List.length_replicate]; exact hn⟩ ?_ ?_
    · rw [upd_ne (Ne.symm xl), upd_same, rep1, List.map_replicate]; rfl
    · exact (same_new hp).free hl
    · intro b o hb e
      rw [upd_ne (by simpa using hb)]
      exact same_new hl _ _ (same_new hp _ _ e)
def sp_Cells_on {K : PySem.W.Frag} {mg : Str → Option Value} (T : Txt K mg) : Sp := fun vs H Q _ => ∃ (a l : Addr) (S : CS), vs = [.ref a] ∧ CellsAt T.c_Cells H a l S ∧ Q (.bl S.on) H
theorem ok_Cells_on (T : Txt K mg) : FnOk P w K mg base CX0 1 T.f_Cells_on T.d_Cells_on ["self"] (sp_Cells_on T) := by
  refine T.k_Cells_on.ok sc_Cells_on (fun vs H Q E h => ?_) (fun cdv A outer s H vs Q E hr h => ?_)
  · obtain ⟨a, l, S, rfl, _⟩ := h
    rfl
  · obtain ⟨a, l, S, rfl, c, q⟩ := h
    refine ⟨_, (pss_one (ps_ret (pe_fldK K (pv 0) rfl))), ?_⟩
    walk_at "rd"
    obtain ⟨dx, h⟩ := c.ob
    exact i_fld T.cl_Cells T.nf_Cells_on h rfl q
def sp_Cells_read {K : PySem.W.Frag} {mg : Str → Option Value} (T : Txt K mg) : Sp := fun vs H Q E => ∃ (a l : Addr) (S : CS) (i : Nat), vs = [.ref a, .int i] ∧ CellsAt T.c_Cells H a l S ∧ i < S.words.length ∧
  (S.on = true → Q (.int (S.words.getD i 0)) H) ∧ (S.on = false → E (.ref T.c_PowerCut) none H)
theorem ok_Cells_read (T : Txt K mg) : FnOk P w K mg base (L2.CX P w) 1 T.f_Cells_read T.d_Cells_read ["self", "place"] (sp_Cells_read T) := by
  refine T.k_Cells_read.okX sc_Cells_read (fun vs H Q E h => ?_) (fun cdv A outer s H vs Q E hr h => ?_)
  · obtain ⟨a, l, S, i, rfl, _⟩ := h
    rfl
  · obtain ⟨a, l, S, i, rfl, c, hi, q1, q2⟩ := h
    refine ⟨_, (pss_cons (ps_if (pt_not (pt_val (pe_fldK K (pv 0) rfl))) (pss_one (ps_raise rfl (takes_of rfl rfl rfl rfl) (pmk_own0 PySem.F.excBase_ValueError T.x_PowerCut.x T.g_PowerCut T.x_PowerCut.kp (raises_own T.x_PowerCut.be T.x_PowerCut.ty) (by exact rfl)))) pss_nil)
      (pss_one (ps_ret (pe_ix (ix_listK K) (pe_fldK K (pv 0) rfl) (pv 1) (fun _ _ => rfl))))), ?_⟩
    walk_at "rd"
    refine rdSeq ?_
    walk_at "rd"
    obtain ⟨dx, h⟩ := c.ob
    refine i_fld T.cl_Cells T.nf_Cells_on h rfl ?_
    walk_at "rd"
    cases e : S.on with
    | false => exact q2 e
    | true =>
      refine i_else (by simp) (i_fld T.cl_Cells T.nf_Cells_words h rfl ?_)
      refine i_ixL (sqL_of c.ws) (atI_nat (j := i) (v := .int (S.words.getD i 0)) ?_) (q1 e)
      rw [List.getElem?_map, List.getElem?_eq_getElem hi, List.getD_eq_getElem?_getD, List.getElem?_eq_getElem hi]; rfl
def writeS (S : CS) (i : Nat) (w : Int) : CS × Bool :=
  if S.on = false then (S, false) else if S.left = some 0 then (⟨S.words, S.left, false⟩, false) else (⟨S.words.set i w, S.left.map (· - 1), true⟩, true)
def sp_Cells_write {K : PySem.W.Frag} {mg : Str → Option Value} (T : Txt K mg) : Sp := fun vs H Q E => ∃ (a l : Addr) (S : CS) (i : Nat) (w : Int), vs = [.ref a, .int i, .int w] ∧ CellsAt T.c_Cells H a l S ∧ i < S.words.length ∧
  ∀ H', CellsAt T.c_Cells H' a l (writeS S i w).1 → Kp [a, l] H H' → ((writeS S i w).2 = true → Q .non H') ∧ ((writeS S i w).2 = false → E (.ref T.c_PowerCut) none H')
theorem ok_Cells_write (T : Txt K mg) : FnOk P w K mg base (L2.CX P w) 1 T.f_Cells_write T.d_Cells_write ["self", "place", "word"] (sp_Cells_write T) := by
  refine T.k_Cells_write.okX sc_Cells_write (fun vs H Q E h => ?_) (fun cdv A outer s H vs Q E hr h => ?_)
  · obtain ⟨a, l, S, i, w, rfl, _⟩ := h
    rfl
  · obtain ⟨a, l, S, i, w, rfl, c, hi, q⟩ := h
    refine ⟨_, (pss_cons (ps_if (pt_not (pt_val (pe_fldK K (pv 0) rfl))) (pss_one (ps_raise rfl (takes_of rfl rfl rfl rfl) (pmk_own0 PySem.F.excBase_ValueError T.x_PowerCut.x T.g_PowerCut T.x_PowerCut.kp (raises_own T.x_PowerCut.be T.x_PowerCut.ty) (by exact rfl)))) pss_nil)
      (pss_cons (ps_if (pt_cmpR op_eq (pe_fldK K (pv 0) rfl) pe_int (nomark _)) (pss_cons (ps_fldK K (pv 0) pe_bl rfl)
      (pss_one (ps_raise rfl (takes_of rfl rfl rfl rfl) (pmk_own0 PySem.F.excBase_ValueError T.x_PowerCut.x T.g_PowerCut T.x_PowerCut.kp (raises_own T.x_PowerCut.be T.x_PowerCut.ty) (by exact rfl))))) pss_nil)
      (C8.pss_cut (ps_if (pt_cmpR op_notN (pe_fldK K (pv 0) rfl) pe_non (nomark _)) (pss_one (ps_fldaugK K (pv 0) pe_int in_sub)) pss_nil)
      (pss_one (ps_asg (pv 2) (pg_sub (pe_fldK K (pv 0) rfl) (pv 1) set_list)))))), ?_⟩
    walk_at "rd"
    refine rdSeq ?_
    walk_at "rd"
    obtain ⟨dx, h⟩ := c.ob
    refine i_fld T.cl_Cells T.nf_Cells_on h rfl ?_
    walk_at "rd"
    have hne := c.ne
    cases e : S.on with
    | false =>
      have ew : writeS S i w = (S, false) := by unfold writeS; rw [if_pos e]
      rw [ew] at q
      exact (q H c (Kp.refl _ _)).2 rfl
    | true =>
      refine i_else (by simp) (rdSeq ?_)
      walk_at "rd"
      refine i_fld T.cl_Cells T.nf_Cells_left h rfl ?_
      have fin : ∀ (dx : Addr) (lv : Option Int) (H1 : Hp), S.left ≠ some 0 → lv = S.left.map (· - 1) → Kp [a, l] H H1 → H1 a = some (.ins T.c_Cells dx (cf l (lfV lv) true)) → H1 l = some (.lst (S.words.map V.int)) →
          tAsg (tVar 2) (gSub (tFld K (tVar 0) (Str.ofString "_words")) (tVar 1) rSetL) { nx := fun x H' => Q V.non H', rt := Q } [some (V.ref a), some (V.int (i : Int)), some (V.int w)] H1 := fun dx lv H1 n0 el kp ha hl => by
        walk_at "rd"
        refine i_fld T.cl_Cells T.nf_Cells_words ha rfl ?_
        refine i_setL hl (j := i) (by rw [List.length_map]; unfold ixN; rw [if_pos (by omega), if_pos (by omega)]; simp) ?_
        have ew : writeS S i w = (⟨S.words.set i w, S.left.map (· - 1), true⟩, true) := by unfold writeS; rw [if_neg (by rw [e]; simp), if_neg n0]
        rw [ew] at q
        refine (q _ ⟨⟨dx, ?_⟩, ?_, by show (S.words.set i w).length ≤ 1000; rw [List.length_set]; exact c.sz⟩ (kp.trans (Kp.set (by simp)))).1 rfl
        · rw [upd_ne hne, ha, el]
        · rw [upd_same, List.map_set]
      cases el : S.left with
      | none =>
        rw [el] at h
        simp only [lfV]
        walk_at "rd"
        refine rdCut (fun σ H1 => H1 = H ∧ σ = [some (V.ref a), some (V.int (i : Int)), some (V.int w)]) ?_ ?_
        · walk_at "rd"
          refine i_fld T.cl_Cells T.nf_Cells_left h rfl ?_
          simp only [lfV]
          walk_at "rd"
        · rintro σ H1 ⟨rfl, rfl⟩
          exact fin dx none _ (by rw [el]; simp) (by rw [el]; rfl) (Kp.refl _ _) (by rw [e] at h; exact h) c.ws
      | some z =>
        rw [el] at h
        simp only [lfV]
        walk_at "rd"
        by_cases hz : z = 0
        · subst hz
          refine i_then rfl (rdSeq ?_)
          walk_at "rd"
          refine i_fldS T.cl_Cells T.nf_Cells_on h (by show 3 < 1000; decide) ?_
          have ew : writeS S i w = (⟨S.words, S.left, false⟩, false) := by unfold writeS; rw [if_neg (by rw [e]; simp), if_pos el]
          rw [ew] at q
          exact (q _ ⟨⟨dx, by rw [upd_same, el]; rfl⟩, by rw [upd_ne (Ne.symm hne)]; exact c.ws, c.sz⟩ (Kp.set (by simp))).2 rfl
        · refine i_else hz (rdCut (fun σ H1 => (∃ dx, H1 a = some (.ins T.c_Cells dx (cf l (lfV (some (z - 1))) true))) ∧ H1 l = some (.lst (S.words.map V.int)) ∧ Kp [a, l] H H1 ∧ σ = [some (V.ref a), some (V.int (i : Int)), some (V.int w)]) ?_ ?_)
          · walk_at "rd"
            refine i_fld T.cl_Cells T.nf_Cells_left h rfl ?_
            simp only [lfV]
            walk_at "rd"
            rw [e] at h
            refine i_fldA T.cl_Cells T.nf_Cells_left h rfl ⟨z, 1, rfl, rfl, dx, _, h, by show 3 < 1000; decide, ⟨dx, by rw [upd_same]; rfl⟩, by rw [upd_ne (Ne.symm hne)]; exact c.ws, Kp.set (by simp)⟩
          · rintro σ H1 ⟨⟨dx', h1⟩, h2, h3, rfl⟩
            exact fin dx' (some (z - 1)) _ (by rw [el]; simpa using hz) (by rw [el]; rfl) h3 h1 h2
def sp_Cells_cut {K : PySem.W.Frag} {mg : Str → Option Value} (T : Txt K mg) : Sp := fun vs H Q _ => ∃ (a l : Addr) (S : CS) (n : Int), vs = [.ref a, .int n] ∧ CellsAt T.c_Cells H a l S ∧ ∀ H', CellsAt T.c_Cells H' a l ⟨S.words, some n, S.on⟩ → Kp [a, l] H H' → Q .non H'
theorem ok_Cells_cut (T : Txt K mg) : FnOk P w K mg base CX0 1 T.f_Cells_cut T.d_Cells_cut ["self", "writes"] (sp_Cells_cut T) := by
  refine T.k_Cells_cut.ok sc_Cells_cut (fun vs H Q E h => ?_) (fun cdv A outer s H vs Q E hr h => ?_)
  · obtain ⟨a, l, S, n, rfl, _⟩ := h
    rfl
  · obtain ⟨a, l, S, n, rfl, c, q⟩ := h
    refine ⟨_, (pss_one (ps_fldK K (pv 0) (pv 1) rfl)), ?_⟩
    walk_at "rd"
    obtain ⟨dx, h⟩ := c.ob
    refine i_fldS T.cl_Cells T.nf_Cells_left h (by show 3 < 1000; decide) ?_
    exact q _ ⟨⟨dx, by rw [upd_same]; rfl⟩, by rw [upd_ne (Ne.symm c.ne)]; exact c.ws, c.sz⟩ (Kp.set (by simp))
def sp_Cells_restore {K : PySem.W.Frag} {mg : Str → Option Value} (T : Txt K mg) : Sp := fun vs H Q _ => ∃ (a l : Addr) (S : CS), vs = [.ref a] ∧ CellsAt T.c_Cells H a l S ∧ ∀ H', CellsAt T.c_Cells H' a l ⟨S.words, none, true⟩ → Kp [a, l] H H' → Q .non H'
theorem ok_Cells_restore (T : Txt K mg) : FnOk P w K mg base CX0 1 T.f_Cells_restore T.d_Cells_restore ["self"] (sp_Cells_restore T) := by
  refine T.k_Cells_restore.ok sc_Cells_restore (fun vs H Q E h => ?_) (fun cdv A outer s H vs Q E hr h => ?_)
  · obtain ⟨a, l, S, rfl, _⟩ := h
    rfl
  · obtain ⟨a, l, S, rfl, c, q⟩ := h
    refine ⟨_, (pss_cons (ps_fldK K (pv 0) pe_non rfl)
      (pss_one (ps_fldK K (pv 0) pe_bl rfl))), ?_⟩
    walk_at "rd"
    refine rdSeq ?_
    walk_at "rd"
    obtain ⟨dx, h⟩ := c.ob
    refine i_fldS T.cl_Cells T.nf_Cells_left h (by show 3 < 1000; decide) ?_
    refine i_fldS T.cl_Cells T.nf_Cells_on upd_same (by show 3 < 1000; decide) ?_
    rw [upd_upd]
    exact q _ ⟨⟨dx, by rw [upd_same]; rfl⟩, by rw [upd_ne (Ne.symm c.ne)]; exact c.ws, c.sz⟩ (Kp.set (by simp))


/-! ### the draws of a script -/
def sp_law_draws {K : PySem.W.Frag} {mg : Str → Option Value} (_ : Txt K mg) : Sp := fun vs H Q _ => ∃ (a : Addr) (ns : List Int) (m : Nat), vs = [.ref a, .int 0, .int m] ∧ SqL K H a (ns.map V.int) ∧ ns.length ≤ 63 ∧
  ∀ (p : Addr) (H' : Hp) (ms : List Int), NewL H H' p (ms.map V.int) → ms.length ≤ m → Q (.ref p) H'
theorem ok_law_draws (T : Txt K mg) : FnOk P w K mg base CX0 1 T.f_law_draws T.d_law_draws ["_law_script", "_law_start", "_law_most"] (sp_law_draws T) := by
  refine T.k_law_draws.ok sc_law_draws (fun vs H Q E h => ?_) (fun cdv A outer s H vs Q E hr h => ?_)
  · obtain ⟨a, ns, m, rfl, _⟩ := h
    rfl
  · obtain ⟨a, ns, m, rfl, hS, hl, q⟩ := h
    refine ⟨_, (pss_cons (ps_set (i := 3) sc_law_draws.nd rfl (.inl rfl) (pe_lst pa_nil))
      (pss_cons (ps_for PassesOwn.never rfl (pi_list (pe_slice (sl_listK K) (pv 0) (po_some (pv 1)) po_none)) (pg_name (i := 4) sc_law_draws.nd rfl (Or.inl rfl)) (pss_cons (ps_set (i := 5) sc_law_draws.nd rfl (.inl rfl) (pe_callB call_abs (by rfl) T.m_abs (by decide +kernel) (pa_cons (pe_callTy call_intI (by rfl) T.m_int (by decide +kernel) (pa_cons (pv 4) pa_nil)) pa_nil)))
      (pss_one (ps_if (pt_cmpR op_lt (pv 5) (pe_op op_pow pe_int pe_int) (nomark _)) (pss_cons (ps_set (i := 6) sc_law_draws.nd rfl (.inl rfl) (pe_op op_modP (pe_callTy call_intI (by rfl) T.m_int (by decide +kernel) (pa_cons (pe_op op_add (pe_op op_mul (pv 5) pe_int) pe_int) pa_nil)) pe_int))
      (pss_cons (ps_expr (pe_bmK K PySem.F.plainAttrs_list PySem.F.slot_list_append PySem.F.type_list_append mt_append (pv 3) (pa_cons (pe_op op_add (pe_op op_mul (pv 6) pe_int) (pe_op op_modP (pe_callTy call_intI (by rfl) T.m_int (by decide +kernel) (pa_cons (pe_op op_add (pe_op op_mul (pv 6) pe_int) (pv 5)) pa_nil)) pe_int)) pa_nil)))
      (pss_one (ps_expr (pe_bmK K PySem.F.plainAttrs_list PySem.F.slot_list_append PySem.F.type_list_append mt_append (pv 3) (pa_cons (pe_op op_add (pe_op op_mul (pe_op op_modP (pe_callTy call_intI (by rfl) T.m_int (by decide +kernel) (pa_cons (pe_op op_add (pe_op op_add (pe_op op_mul (pv 6) pe_int) (pe_op op_fdivW (pv 5) pe_int)) pe_int) pa_nil)) pe_int) pe_int) (pe_op op_modP (pv 5) pe_int)) pa_nil)))))) (pss_one (ps_for PassesOwn.never rfl (pi_range1 (by rfl) T.m_range (pa_cons pe_int pa_nil)) (pg_name (i := 7) sc_law_draws.nd rfl (Or.inl rfl)) (C8.pss_cut (ps_if (pt_cmpR op_gt (pv 5) pe_int (nomark _)) (pss_one (ps_expr (pe_bmK K PySem.F.plainAttrs_list PySem.F.slot_list_append PySem.F.type_list_append mt_append (pv 3) (pa_cons (pe_op op_modP (pe_callTy call_intI (by rfl) T.m_int (by decide +kernel) (pa_cons (pv 5) pa_nil)) (pe_op op_pow pe_int pe_int)) pa_nil)))) pss_nil)
      (pss_one (ps_set (i := 5) sc_law_draws.nd rfl (.inl rfl) (pe_op op_fdivW (pv 5) (pe_op op_pow pe_int pe_int)))))))))))
      (pss_one (ps_ret (pe_slice (sl_listK K) (pv 3) po_none (po_some (pv 2))))))), ?_⟩
    walk_at "rd"
    refine rdSeq ?_
    walk_at "rd"
    intro p hp
    refine rdSeq ?_
    walk_at "rd"
    refine i_slL ((same_new hp).seq hS) fun c hc => ?_
    rw [cut_all]
    have npc : p ≠ c := ne_of_none upd_same hc
    walk_at "rd"
    refine ⟨⟨_, sqL_of upd_same⟩, ?_⟩
    refine i_for (walk_listL (l := ns) (r := V.int)) (fun i σ H' => (∃ ms : List Int, NewL H H' p (ms.map V.int) ∧ ms.length ≤ 12 * i) ∧ H' c = some (.lst (ns.map V.int)) ∧ ∃ y1 y2 y3 y4, σ = [some (.ref a), some (.int 0), some (.int (m : Int)), some (.ref p), y1, y2, y3, y4])
      ⟨⟨[], ⟨hp, (same_new hp).trans (same_new hc), by rw [upd_ne npc]; exact upd_same⟩, Nat.zero_le _⟩, upd_same, _, _, _, _, rfl⟩ (fun i σ H' _ h => sqL_of h.2.1) ?_ ?_
    · rintro i _ σ H1 _ hi ⟨⟨ms, n, hm⟩, hC, y1, y2, y3, y4, rfl⟩ ⟨rfl, x, hx, rfl⟩
      refine rdSeq ?_
      walk_at "rd"
      generalize (if x < 0 then -x else x) = y
      refine ⟨pow18, ite2 (fun _ => rdSeq ?_) (fun _ => ?_)⟩
      · walk_at "rd"
        refine ⟨cm_r (by decide), ?_⟩
        generalize (y * 48611 + 43) % 2147483647 = z
        refine rdSeq ?_
        walk_at "rd"
        refine ⟨ty_app n.sq, cm_r (by decide), cm_r (by decide), i_app n.at_ (by rw [List.length_map]; exact line5' (by omega)) ?_⟩
        have n2 := n.set (ys := List.map V.int ms ++ [V.int (z * 2147483629 + (z * 16807 + y) % 2147483629)])
        refine ⟨ty_app n2.sq, cm_r (by decide), ⟨by decide, by decide⟩, cm_r (by decide), i_app n2.at_ (by rw [List.length_append, List.length_map]; exact line5' (by show _ + 1 ≤ _; omega)) ?_⟩
        have n3 := n2.set (ys := List.map V.int ms ++ [V.int (z * 2147483629 + (z * 16807 + y) % 2147483629)] ++ [V.int ((z * 69621 + y / 9 + 3) % 2147483399 * 7919 + y % 7919)])
        refine ⟨⟨ms ++ [z * 2147483629 + (z * 16807 + y) % 2147483629] ++ [(z * 69621 + y / 9 + 3) % 2147483399 * 7919 + y % 7919], by rw [List.map_append, List.map_append]; exact n3, by simp; omega⟩, ?_⟩
        rw [upd_ne (Ne.symm npc), upd_ne (Ne.symm npc)]; exact hC
      · walk_at "rd"
        refine ⟨by decide, by decide, i_for walk_range (fun j σ H' => (∃ ms : List Int, NewL H H' p (ms.map V.int) ∧ ms.length ≤ 12 * i + j) ∧ H' c = some (.lst (ns.map V.int)) ∧ ∃ (u : Int) (y3 y4 : Option V), σ = [some (.ref a), some (.int 0), some (.int (m : Int)), some (.ref p), some (.int x), some (.int u), y3, y4])
          ⟨⟨ms, n, by omega⟩, hC, y, _, _, rfl⟩ (fun _ _ _ _ _ => trivial) ?_ ?_⟩
        · rintro j _ σ H2 _ hj ⟨⟨ms, n, hm⟩, hC, u, y3, y4, rfl⟩ ⟨rfl, rfl⟩
          have hj : j < 12 := hj
          have hi : i < ns.length := hi
          refine rdCut (fun σ H' => (∃ ms : List Int, NewL H H' p (ms.map V.int) ∧ ms.length ≤ 12 * i + (j + 1)) ∧ H' c = some (.lst (ns.map V.int)) ∧ ∃ (y3 y4 : Option V), σ = [some (.ref a), some (.int 0), some (.int (m : Int)), some (.ref p), some (.int x), some (.int u), y3, y4]) ?_ ?_
          · walk_at "rd"
            refine ite2 (fun _ => ⟨ty_app n.sq, pow14, by decide, i_app n.at_ (by rw [List.length_map]; exact line5' (by omega)) ?_⟩) (fun _ => ⟨⟨ms, n, by omega⟩, hC⟩)
            refine ⟨⟨ms ++ [u % 10 ^ Int.toNat 14], by rw [List.map_append]; exact n.set, by simp; omega⟩, ?_⟩
            rw [upd_ne (Ne.symm npc)]; exact hC
          · rintro σ H3 ⟨⟨ms, n, hm⟩, hC, y3, y4, rfl⟩
            walk_at "rd"
            exact ⟨pow14, ⟨by decide, by decide⟩, ⟨ms, n, hm⟩, hC⟩
        · rintro σ H2 ⟨⟨ms, n, hm⟩, hC, u, y3, y4, rfl⟩
          exact ⟨⟨ms, n, by have : Int.toNat 12 = 12 := rfl; omega⟩, hC, _, _, _, _, rfl⟩
    · rintro σ H1 ⟨⟨ms, n, hm⟩, hC, y1, y2, y3, y4, rfl⟩
      walk_at "rd"
      refine i_slL n.sq fun d hd => ?_
      rw [cut_take, ← List.map_take]
      refine q _ _ _ ⟨n.same.free hd, n.same.trans (same_new hd), upd_same⟩ (List.length_take_le _ _)

/-! ### the law -/
inductive Deed where
  | write (i : Nat) (w : Int)
  | read (i : Nat)
  | cut (n : Int)
  | restore
def Deed.vs : Deed → List V
  | .write i w => [.str "write", .int i, .int w]
  | .read i => [.str "read", .int i]
  | .cut n => [.str "cut", .int n]
  | .restore => [.str "restore"]
def Deed.ok (n : Nat) : Deed → Prop
  | .write i _ => i < n
  | .read i => i < n
  | _ => True
def stepS (S : CS) : Deed → CS × Bool × V
  | .write i w => ((writeS S i w).1, (writeS S i w).2, .non)
  | .read i => (S, S.on, if S.on = true then .int (S.words.getD i 0) else .non)
  | .cut n => (⟨S.words, some n, S.on⟩, true, .non)
  | .restore => (⟨S.words, none, true⟩, true, .non)
def ansV (b : Bool) (v : V) : List V := [.str (if b then "done" else "cut"), v]
theorem i_catch {K : PySem.W.Frag} {c cls : Value} {ts : Addr → Value → Option Addr → TS} {Wout : WX} {D : Ends} {d : Option Addr} {σ : L2.St} {H : Hp} (h : PySem.W.exmOne K cls c = some true) (q : ∀ a, H a = none → ts a cls d D σ H) : wOnly K c ts Wout D cls d σ H := ⟨true, h, fun _ a n => q a n, fun z => nomatch z⟩
def sp_law_act {K : PySem.W.Frag} {mg : Str → Option Value} (T : Txt K mg) : Sp := fun vs H Q _ => ∃ (c l p : Addr) (S : CS) (d : Deed), vs = [.ref c, .ref p] ∧ CellsAt T.c_Cells H c l S ∧ H p = some (.tup d.vs) ∧ d.ok S.words.length ∧
  ∀ H' r, CellsAt T.c_Cells H' c l (stepS S d).1 → Kp [c, l] H H' → H r = none → H' r = some (.tup (ansV (stepS S d).2.1 (stepS S d).2.2)) → Q (.ref r) H'
theorem ok_law_act (T : Txt K mg) : FnOk P w K mg base CX0 2 T.f_law_act T.d_law_act ["_law_cells", "_law_deed"] (sp_law_act T) := by
  refine T.k_law_act.ok sc_law_act (fun vs H Q E h => ?_) (fun cdv A outer s H vs Q E hr h => ?_)
  · obtain ⟨c, l, p, S, d, rfl, _⟩ := h
    rfl
  · obtain ⟨c, l, p, S, d, rfl, hc, hp, hd, q⟩ := h
    refine ⟨_, (pss_one (ps_try_only rfl rfl ⟨rfl, by decide, .inl T.g_PowerCut⟩ takes0 (fun W pn xe tk po => (pss_cons (ps_if (pt_cmpR op_eq (pe_ix (ix_tupK K) (pv 1) pe_int (fun _ _ => rfl)) pe_str (nomark _)) (pss_one (ps_ret (pe_tup (pa_cons pe_str (pa_cons (pe_methS (pv 0) T.cl_Cells T.me_Cells_write (ok_Cells_write T) (hr.mono (by decide)) T.b_Cells_write (fun σ => passAt tk σ) (pa_cons (pe_ix (ix_tupK K) (pv 1) pe_int (fun _ _ => rfl)) (pa_cons (pe_ix (ix_tupK K) (pv 1) pe_int (fun _ _ => rfl)) pa_nil))) pa_nil))))) pss_nil)
      (pss_cons (ps_if (pt_cmpR op_eq (pe_ix (ix_tupK K) (pv 1) pe_int (fun _ _ => rfl)) pe_str (nomark _)) (pss_one (ps_ret (pe_tup (pa_cons pe_str (pa_cons (pe_methS (pv 0) T.cl_Cells T.me_Cells_read (ok_Cells_read T) (hr.mono (by decide)) T.b_Cells_read (fun σ => passAt tk σ) (pa_cons (pe_ix (ix_tupK K) (pv 1) pe_int (fun _ _ => rfl)) pa_nil)) pa_nil))))) pss_nil)
      (pss_cons (ps_if (pt_cmpR op_eq (pe_ix (ix_tupK K) (pv 1) pe_int (fun _ _ => rfl)) pe_str (nomark _)) (pss_one (ps_ret (pe_tup (pa_cons pe_str (pa_cons (pe_meth (pv 0) T.cl_Cells T.me_Cells_cut (ok_Cells_cut T) (hr.mono (by decide)) T.b_Cells_cut .nil pass0 (pa_cons (pe_ix (ix_tupK K) (pv 1) pe_int (fun _ _ => rfl)) pa_nil)) pa_nil))))) pss_nil)
      (pss_one (ps_ret (pe_tup (pa_cons pe_str (pa_cons (pe_meth0 (pv 0) T.cl_Cells T.me_Cells_restore (ok_Cells_restore T) (hr.mono (by decide)) T.b_Cells_restore .nil pass0) pa_nil))))))))) (fun a oe cls d pn hz hf => (pss_one (ps_ret (pe_tup (pa_cons pe_str (pa_cons pe_non pa_nil)))))))), ?_⟩
    walk_at "rd"
    obtain ⟨dx, ho⟩ := hc.ob
    cases d with
    | write i w =>
      refine rdSeq ?_
      walk_at "rd"
      refine i_ixT (sqT_of hp) (atI_nat (j := 0) rfl) ?_
      walk_at "rd"
      refine i_meth ho rfl (i_ixT (sqT_of hp) (atI_nat (j := 1) rfl) (i_ixT (sqT_of hp) (atI_nat (j := 2) rfl) ?_))
      refine ⟨c, l, S, i, w, rfl, hc, hd, fun H' hc' kp => ⟨fun e r hr => ?_, fun e => i_catch T.ex_PowerCut_PowerCut fun a _ => ?_⟩⟩
      · refine q _ r (hc'.keep (Kp.new hr (X := [])) (by simp) (by simp)) (kp.trans (Kp.new hr)) ?_ (by rw [upd_same]; simp only [stepS, e]; rfl)
        cases hh : H r with
        | none => rfl
        | some o =>
          by_cases hb : r ∈ [c, l]
          · simp only [List.mem_cons, List.not_mem_nil, or_false] at hb
            rcases hb with rfl | rfl
            · obtain ⟨dx', h'⟩ := hc'.ob; rw [hr] at h'; cases h'
            · have := hc'.ws; rw [hr] at this; cases this
          · rw [kp r o hb hh] at hr; cases hr
      · walk_at "rd"
        intro r hr
        refine q _ r (hc'.keep (Kp.new hr (X := [])) (by simp) (by simp)) (kp.trans (Kp.new hr)) ?_ (by rw [upd_same]; simp only [stepS, e]; rfl)
        cases hh : H r with
        | none => rfl
        | some o =>
          by_cases hb : r ∈ [c, l]
          · simp only [List.mem_cons, List.not_mem_nil, or_false] at hb
            rcases hb with rfl | rfl
            · obtain ⟨dx', h'⟩ := hc'.ob; rw [hr] at h'; cases h'
            · have := hc'.ws; rw [hr] at this; cases this
          · rw [kp r o hb hh] at hr; cases hr
    | read i =>
      refine rdSeq ?_
      walk_at "rd"
      refine i_ixT (sqT_of hp) (atI_nat (j := 0) rfl) ?_
      walk_at "rd"
      refine i_else (by decide) (rdSeq ?_)
      walk_at "rd"
      refine i_ixT (sqT_of hp) (atI_nat (j := 0) rfl) ?_
      walk_at "rd"
      refine i_meth ho rfl (i_ixT (sqT_of hp) (atI_nat (j := 1) rfl) ?_)
      refine ⟨c, l, S, i, rfl, hc, hd, fun e r hr => ?_, fun e => i_catch T.ex_PowerCut_PowerCut fun a _ => ?_⟩
      · exact q _ r (hc.keep (Kp.new hr (X := [])) (by simp) (by simp)) (Kp.new hr) hr (by rw [upd_same]; simp only [stepS, e]; rfl)
      · walk_at "rd"
        intro r hr
        exact q _ r (hc.keep (Kp.new hr (X := [])) (by simp) (by simp)) (Kp.new hr) hr (by rw [upd_same]; simp only [stepS, e]; rfl)
    | cut n =>
      refine rdSeq ?_
      walk_at "rd"
      refine i_ixT (sqT_of hp) (atI_nat (j := 0) rfl) ?_
      walk_at "rd"
      refine i_else (by decide) (rdSeq ?_)
      walk_at "rd"
      refine i_ixT (sqT_of hp) (atI_nat (j := 0) rfl) ?_
      walk_at "rd"
      refine i_else (by decide) (rdSeq ?_)
      walk_at "rd"
      refine i_ixT (sqT_of hp) (atI_nat (j := 0) rfl) ?_
      walk_at "rd"
      refine i_meth ho rfl (i_ixT (sqT_of hp) (atI_nat (j := 1) rfl) ?_)
      refine ⟨c, l, S, n, rfl, hc, fun H' hc' kp r hr => ?_⟩
      refine q _ r (hc'.keep (Kp.new hr (X := [])) (by simp) (by simp)) (kp.trans (Kp.new hr)) ?_ (by rw [upd_same]; rfl)
      cases hh : H r with
      | none => rfl
      | some o =>
        by_cases hb : r ∈ [c, l]
        · simp only [List.mem_cons, List.not_mem_nil, or_false] at hb
          rcases hb with rfl | rfl
          · obtain ⟨dx', h'⟩ := hc'.ob; rw [hr] at h'; cases h'
          · have := hc'.ws; rw [hr] at this; cases this
        · rw [kp r o hb hh] at hr; cases hr
    | restore =>
      refine rdSeq ?_
      walk_at "rd"
      refine i_ixT (sqT_of hp) (atI_nat (j := 0) rfl) ?_
      walk_at "rd"
      refine i_else (by decide) (rdSeq ?_)
      walk_at "rd"
      refine i_ixT (sqT_of hp) (atI_nat (j := 0) rfl) ?_
      walk_at "rd"
      refine i_else (by decide) (rdSeq ?_)
      walk_at "rd"
      refine i_ixT (sqT_of hp) (atI_nat (j := 0) rfl) ?_
      walk_at "rd"
      refine i_else (by decide) ?_
      walk_at "rd"
      refine i_meth ho rfl ⟨c, l, S, rfl, hc, fun H' hc' kp r hr => ?_⟩
      refine q _ r (hc'.keep (Kp.new hr (X := [])) (by simp) (by simp)) (kp.trans (Kp.new hr)) ?_ (by rw [upd_same]; rfl)
      cases hh : H r with
      | none => rfl
      | some o =>
        by_cases hb : r ∈ [c, l]
        · simp only [List.mem_cons, List.not_mem_nil, or_false] at hb
          rcases hb with rfl | rfl
          · obtain ⟨dx', h'⟩ := hc'.ob; rw [hr] at h'; cases h'
          · have := hc'.ws; rw [hr] at this; cases this
        · rw [kp r o hb hh] at hr; cases hr
def sd (w : Addr) (lv : V) (b : Bool) : List (Key × V) := [(.inr "words", .ref w), (.inr "left", lv), (.inr "on", .bl b)]
/-- the law's state at d, its words at w -/
structure StAt (H : Hp) (d w : Addr) (S : CS) : Prop where
  ob : H d = some (.dK (sd w (lfV S.left) S.on))
  ws : H w = some (.lst (S.words.map V.int))
theorem StAt.ne {H : Hp} {d w : Addr} {S : CS} (s : StAt H d w S) : d ≠ w := ne_of s.ob s.ws (by intro z; cases z)
theorem StAt.keep {H H' : Hp} {d w : Addr} {S : CS} {X : List Addr} (s : StAt H d w S) (k : Kp X H H') (h1 : d ∉ X) (h2 : w ∉ X) : StAt H' d w S := ⟨k d _ h1 s.ob, k w _ h2 s.ws⟩
def sp_law_expect {K : PySem.W.Frag} {mg : Str → Option Value} (_ : Txt K mg) : Sp := fun vs H Q _ => ∃ (s w p : Addr) (S : CS) (d : Deed), vs = [.ref s, .ref p] ∧ StAt H s w S ∧ H p = some (.tup d.vs) ∧ d.ok S.words.length ∧
  ∀ H' r, StAt H' s w (stepS S d).1 → Kp [s, w] H H' → H r = none → H' r = some (.tup (ansV (stepS S d).2.1 (stepS S d).2.2)) → Q (.ref r) H'
theorem ok_law_expect (T : Txt K mg) : FnOk P w K mg base CX0 1 T.f_law_expect T.d_law_expect ["_law_state", "_law_deed"] (sp_law_expect T) := by
  refine T.k_law_expect.ok sc_law_expect (fun vs H Q E h => ?_) (fun cdv A outer s H vs Q E hr h => ?_)
  · obtain ⟨c, l, p, S, d, rfl, _⟩ := h
    rfl
  · obtain ⟨s, w, p, S, d, rfl, hs, hp, hd, q⟩ := h
    refine ⟨_, (pss_cons (ps_set (i := 2) sc_law_expect.nd rfl (.inl rfl) (pe_dget (hu_of hr) (pv 0) pe_str (fun _ _ => rfl)))
      (pss_cons (ps_if (pt_cmpR op_eq (pe_ix (ix_tupK K) (pv 1) pe_int (fun _ _ => rfl)) pe_str (nomark _)) (pss_cons (ps_dput (hu_of hr) (pv 0) pe_str (pe_ix (ix_tupK K) (pv 1) pe_int (fun _ _ => rfl)) rfl)
      (pss_one (ps_ret (pe_tup (pa_cons pe_str (pa_cons pe_non pa_nil)))))) pss_nil)
      (pss_cons (ps_if (pt_cmpR op_eq (pe_ix (ix_tupK K) (pv 1) pe_int (fun _ _ => rfl)) pe_str (nomark _)) (pss_cons (ps_dput (hu_of hr) (pv 0) pe_str pe_non rfl)
      (pss_cons (ps_dput (hu_of hr) (pv 0) pe_str pe_bl rfl)
      (pss_one (ps_ret (pe_tup (pa_cons pe_str (pa_cons pe_non pa_nil))))))) pss_nil)
      (C8.pss_cut (ps_if (PW.pt (pw_and (pt_val (pe_dget (hu_of hr) (pv 0) pe_str (fun _ _ => rfl))) (pw_and (pt_cmpR op_eq (pe_ix (ix_tupK K) (pv 1) pe_int (fun _ _ => rfl)) pe_str (nomark _)) (pw_and1 (pt_cmpR op_eq (pe_dget (hu_of hr) (pv 0) pe_str (fun _ _ => rfl)) pe_int (nomark _)))))) (pss_one (ps_dput (hu_of hr) (pv 0) pe_str pe_bl rfl)) pss_nil)
      (pss_cons (ps_if (pt_not (pt_val (pe_dget (hu_of hr) (pv 0) pe_str (fun _ _ => rfl)))) (pss_one (ps_ret (pe_tup (pa_cons pe_str (pa_cons pe_non pa_nil))))) pss_nil)
      (pss_cons (ps_if (pt_cmpR op_eq (pe_ix (ix_tupK K) (pv 1) pe_int (fun _ _ => rfl)) pe_str (nomark _)) (pss_one (ps_ret (pe_tup (pa_cons pe_str (pa_cons (pe_ix (ix_listK K) (pv 2) (pe_ix (ix_tupK K) (pv 1) pe_int (fun _ _ => rfl)) (fun _ _ => rfl)) pa_nil))))) pss_nil)
      (C8.pss_cut (ps_if (pt_cmpR op_notN (pe_dget (hu_of hr) (pv 0) pe_str (fun _ _ => rfl)) pe_non (nomark _)) (pss_one (ps_dput (hu_of hr) (pv 0) pe_str (pe_op op_sub (pe_dget (hu_of hr) (pv 0) pe_str (fun _ _ => rfl)) pe_int) rfl)) pss_nil)
      (pss_cons (ps_asg (pe_ix (ix_tupK K) (pv 1) pe_int (fun _ _ => rfl)) (pg_sub (pv 2) (pe_ix (ix_tupK K) (pv 1) pe_int (fun _ _ => rfl)) set_list))
      (pss_one (ps_ret (pe_tup (pa_cons pe_str (pa_cons pe_non pa_nil))))))))))))), ?_⟩
    walk_at "rd"
    refine rdSeq ?_
    walk_at "rd"
    refine i_dget hs.ob rfl (rdSeq ?_)
    have fr : ∀ {H1 : Hp} {r : Addr} {S1 : CS}, StAt H1 s w S1 → Kp [s, w] H H1 → H1 r = none → H r = none := fun {H1 r S1} st kp hr => by
      cases hh : H r with
      | none => rfl
      | some o =>
        by_cases hb : r ∈ [s, w]
        · simp only [List.mem_cons, List.not_mem_nil, or_false] at hb
          rcases hb with rfl | rfl
          · have := st.ob; rw [hr] at this; cases this
          · have := st.ws; rw [hr] at this; cases this
        · rw [kp r o hb hh] at hr; cases hr
    have fin : ∀ {H1 : Hp} {S1 : CS} {b : Bool} {v : V}, StAt H1 s w S1 → Kp [s, w] H H1 → (stepS S d) = (S1, b, v) → ∀ r, H1 r = none → Q (.ref r) (upd H1 r (.tup (ansV b v))) := fun {H1 S1 b v} st kp e r hr => by
      refine q _ r ?_ (kp.trans (Kp.new hr)) (fr st kp hr) (by rw [upd_same, e])
      rw [e]
      exact st.keep (Kp.new hr (X := [])) (by simp) (by simp)
    have hne := hs.ne
    have so := hs.ob
    have sw := hs.ws
    obtain ⟨words, left, on⟩ := S
    cases d with
    | cut n =>
      walk_at "rd"
      refine i_ixT (sqT_of hp) (atI_nat (j := 0) rfl) ?_
      walk_at "rd"
      refine rdSeq ?_
      walk_at "rd"
      refine i_ixT (sqT_of hp) (atI_nat (j := 1) rfl) (i_dput so (by show 3 < sizeLine; decide) ?_)
      walk_at "rd"
      exact fin ⟨by rw [upd_same]; rfl, by rw [upd_ne (Ne.symm hne)]; exact sw⟩ (Kp.set (by simp)) rfl
    | restore =>
      walk_at "rd"
      refine i_ixT (sqT_of hp) (atI_nat (j := 0) rfl) ?_
      walk_at "rd"
      refine i_else (by decide) (rdSeq ?_)
      walk_at "rd"
      refine i_ixT (sqT_of hp) (atI_nat (j := 0) rfl) ?_
      walk_at "rd"
      refine rdSeq ?_
      walk_at "rd"
      refine i_dput so (by show 3 < sizeLine; decide) (rdSeq ?_)
      walk_at "rd"
      refine i_dput upd_same (by show 3 < sizeLine; decide) ?_
      walk_at "rd"
      rw [upd_upd]
      exact fin ⟨by rw [upd_same]; rfl, by rw [upd_ne (Ne.symm hne)]; exact sw⟩ (Kp.set (by simp)) rfl
    | read i =>
      walk_at "rd"
      refine i_ixT (sqT_of hp) (atI_nat (j := 0) rfl) ?_
      walk_at "rd"
      refine i_else (by decide) (rdSeq ?_)
      walk_at "rd"
      refine i_ixT (sqT_of hp) (atI_nat (j := 0) rfl) ?_
      walk_at "rd"
      refine i_else (by decide) (rdCut (fun σ H1 => H1 = H ∧ σ = [some (V.ref s), some (V.ref p), some (V.ref w)]) ?_ ?_)
      · walk_at "rd"
        refine i_dget so rfl ?_
        walk_at "rd"
        cases on with
        | false => exact i_else (by simp) trivial
        | true =>
          walk_at "rd"
          refine i_ixT (sqT_of hp) (atI_nat (j := 0) rfl) ?_
          walk_at "rd"
          exact i_else (by decide) trivial
      · rintro σ H1 ⟨rfl, rfl⟩
        refine rdSeq ?_
        walk_at "rd"
        refine i_dget so rfl ?_
        walk_at "rd"
        cases on with
        | false =>
          walk_at "rd"
          exact fin hs (Kp.refl _ _) rfl
        | true =>
          walk_at "rd"
          refine rdSeq ?_
          walk_at "rd"
          refine i_ixT (sqT_of hp) (atI_nat (j := 0) rfl) ?_
          walk_at "rd"
          have hi : i < words.length := hd
          refine i_ixT (sqT_of hp) (atI_nat (j := 1) rfl) (i_ixL (sqL_of sw) (atI_nat (j := i) (v := .int (words.getD i 0)) (by rw [List.getElem?_map, List.getElem?_eq_getElem hi, List.getD_eq_getElem?_getD, List.getElem?_eq_getElem hi]; rfl)) ?_)
          exact fin hs (Kp.refl _ _) rfl
    | write i u =>
      walk_at "rd"
      refine i_ixT (sqT_of hp) (atI_nat (j := 0) rfl) ?_
      walk_at "rd"
      refine i_else (by decide) (rdSeq ?_)
      walk_at "rd"
      refine i_ixT (sqT_of hp) (atI_nat (j := 0) rfl) ?_
      walk_at "rd"
      have hi : i < words.length := hd
      have wr : ∀ (lv : Option Int) (H1 : Hp), left ≠ some 0 → lv = left.map (· - 1) → on = true → StAt H1 s w ⟨words, lv, true⟩ → Kp [s, w] H H1 → H1 p = some (.tup (Deed.write i u).vs) →
          tSeq (tAsg (tOp (rIxT K) (tVar 1) (tC (V.int 2))) (gSub (tVar 2) (tOp (rIxT K) (tVar 1) (tC (V.int 1))) rSetL)) (tRet (tTup (tCons (tC (V.str (Str.ofString "done"))) (tCons (tC V.non) tNil))))
            { nx := fun x H' => Q V.non H', rt := Q } [some (V.ref s), some (V.ref p), some (V.ref w)] H1 := fun lv H1 n0 el eo st kp hp1 => by
        refine rdSeq ?_
        walk_at "rd"
        refine i_ixT (sqT_of hp1) (atI_nat (j := 2) rfl) (i_ixT (sqT_of hp1) (atI_nat (j := 1) rfl) ?_)
        refine i_setL st.ws (j := i) (ixN_of (by rw [List.length_map]; exact hi)) ?_
        walk_at "rd"
        refine fin (H1 := upd H1 w (.lst ((words.map V.int).set i (V.int u)))) (S1 := ⟨words.set i u, lv, true⟩) (b := true) (v := .non) ⟨by rw [upd_ne hne]; exact st.ob, by rw [upd_same, List.map_set]⟩ (kp.trans (Kp.set (by simp))) ?_
        subst eo
        show ((writeS ⟨words, left, true⟩ i u).1, (writeS ⟨words, left, true⟩ i u).2, V.non) = _
        unfold writeS
        rw [if_neg (by simp), if_neg (by exact n0), el]
      cases on with
      | false =>
        refine i_else (by decide) (rdCut (fun σ H1 => H1 = H ∧ σ = [some (V.ref s), some (V.ref p), some (V.ref w)]) ?_ ?_)
        · walk_at "rd"
          refine i_dget so rfl ?_
          walk_at "rd"
        · rintro σ H1 ⟨rfl, rfl⟩
          refine rdSeq ?_
          walk_at "rd"
          refine i_dget so rfl ?_
          walk_at "rd"
          exact fin hs (Kp.refl _ _) rfl
      | true =>
        by_cases h0 : left = some 0
        · subst h0
          refine i_else (by decide) (rdCut (fun σ H1 => StAt H1 s w ⟨words, some 0, false⟩ ∧ Kp [s, w] H H1 ∧ H1 p = some (.tup (Deed.write i u).vs) ∧ σ = [some (V.ref s), some (V.ref p), some (V.ref w)]) ?_ ?_)
          · walk_at "rd"
            refine i_dget so rfl ?_
            walk_at "rd"
            refine i_ixT (sqT_of hp) (atI_nat (j := 0) rfl) ?_
            walk_at "rd"
            refine i_dget so rfl ?_
            simp only [lfV]
            walk_at "rd"
            refine i_dput so (by show 3 < sizeLine; decide) ?_
            exact ⟨⟨by rw [upd_same]; rfl, by rw [upd_ne (Ne.symm hne)]; exact sw⟩, Kp.set (by simp), by rw [upd_ne (ne_of hp so (by intro z; cases z))]; exact hp⟩
          · rintro σ H1 ⟨st, kp, hp1, rfl⟩
            refine rdSeq ?_
            walk_at "rd"
            refine i_dget st.ob rfl ?_
            walk_at "rd"
            exact fin st kp rfl
        · refine i_else (by decide) (rdCut (fun σ H1 => H1 = H ∧ σ = [some (V.ref s), some (V.ref p), some (V.ref w)]) ?_ ?_)
          · walk_at "rd"
            refine i_dget so rfl ?_
            walk_at "rd"
            refine i_ixT (sqT_of hp) (atI_nat (j := 0) rfl) ?_
            walk_at "rd"
            refine i_dget so rfl ?_
            cases left with
            | none => simp only [lfV]; walk_at "rd"
            | some z =>
              simp only [lfV]
              walk_at "rd"
              exact i_else (fun h => h0 (by rw [h])) trivial
          · rintro σ H1 ⟨rfl, rfl⟩
            refine rdSeq ?_
            walk_at "rd"
            refine i_dget so rfl ?_
            walk_at "rd"
            refine rdSeq ?_
            walk_at "rd"
            refine i_ixT (sqT_of hp) (atI_nat (j := 0) rfl) ?_
            walk_at "rd"
            refine i_else (by decide) ?_
            cases left with
            | none =>
              refine rdCut (fun σ H2 => H2 = H1 ∧ σ = [some (V.ref s), some (V.ref p), some (V.ref w)]) ?_ ?_
              · walk_at "rd"
                refine i_dget so rfl ?_
                simp only [lfV]
                walk_at "rd"
              · rintro σ H2 ⟨rfl, rfl⟩
                exact wr none H2 h0 rfl rfl hs (Kp.refl _ _) hp
            | some z =>
              refine rdCut (fun σ H2 => StAt H2 s w ⟨words, some (z - 1), true⟩ ∧ Kp [s, w] H1 H2 ∧ H2 p = some (.tup (Deed.write i u).vs) ∧ σ = [some (V.ref s), some (V.ref p), some (V.ref w)]) ?_ ?_
              · walk_at "rd"
                refine i_dget so rfl ?_
                simp only [lfV]
                walk_at "rd"
                refine i_dget so rfl ?_
                simp only [lfV]
                walk_at "rd"
                refine i_dput so (by show 3 < sizeLine; decide) ?_
                exact ⟨⟨by rw [upd_same]; rfl, by rw [upd_ne (Ne.symm hne)]; exact sw⟩, Kp.set (by simp), by rw [upd_ne (ne_of hp so (by intro z; cases z))]; exact hp⟩
              · rintro σ H2 ⟨st, kp, hp1, rfl⟩
                exact wr (some (z - 1)) H2 h0 rfl rfl st kp hp1
theorem range_words {ws : List Int} {n : Nat} (e : ws.length = n) : (List.range n).map (fun i => V.int (ws.getD i 0)) = ws.map V.int := by
  subst e
  apply List.ext_getElem?
  intro i
  rw [List.getElem?_map, List.getElem?_map]
  by_cases h : i < ws.length
  · rw [List.getElem?_range h, List.getElem?_eq_getElem h, Option.map_some, Option.map_some, List.getD_eq_getElem?_getD, List.getElem?_eq_getElem h]; rfl
  · rw [List.getElem?_eq_none (by rw [List.length_range]; omega), List.getElem?_eq_none (by omega)]; rfl
/-- the deed of this turn stands at t -/
inductive MidD (n : Nat) (H4 : Hp) (pre : Option V → Option V → L2.St) (σ : L2.St) (H' : Hp) : Prop where
  | mk (t : Addr) (d : Deed) (u : Option V) (s : Same H4 H') (h : H' t = some (.tup d.vs)) (o : d.ok n) (e : σ = pre (some (.ref t)) u)
theorem stepS_len {S : CS} {d : Deed} : (stepS S d).1.words.length = S.words.length := by
  cases d with
  | write i w =>
    show (writeS S i w).1.words.length = _
    unfold writeS
    split
    · rfl
    · split
      · rfl
      · exact List.length_set
  | read i => rfl
  | cut n => rfl
  | restore => rfl
theorem dp_ans {K : PySem.W.Frag} {H : Hp} {p : Addr} {b : Bool} {v : V} {dv : PyData} (h : H p = some (.tup (ansV b v))) (hv : Dp K H v dv) : Dp K H (.ref p) (.tuple [.str (if b then "done" else "cut"), dv]) :=
  .tup (sqT_of h) (.cons (.str _) (.cons hv .nil))
def sp_law (K : PySem.W.Frag) : Sp := fun vs H Q _ => ∃ (a : Addr) (ns : List Int), vs = [.ref a] ∧ SqL K H a (ns.map V.int) ∧ ns.length ≤ 63 ∧ ∀ H', Q (.bl true) H'
theorem ok_law (T : Txt K mg) : FnOk P w K mg base CX0 3 T.f_law T.d_law ["_law_script"] (sp_law K) := by
  refine T.k_law.ok sc_law (fun vs H Q E h => ?_) (fun cdv A outer s H vs Q E hr h => ?_)
  · obtain ⟨a, ns, rfl, _⟩ := h
    rfl
  · obtain ⟨a, ns', rfl, hS, hl', q⟩ := h
    refine ⟨_, (pss_cons (ps_set (i := 1) sc_law.nd rfl (.inl rfl) (pe_op op_add pe_int (pe_op op_modP (pe_callB (lenLK K) (by rfl) T.m_len (by decide +kernel) (pa_cons (pv 0) pa_nil)) pe_int)))
      (pss_cons (ps_set (i := 2) sc_law.nd rfl (.inr rfl) (pe_make T.mk_Cells (ok_Cells_init T) (hr.mono (by decide)) (by rfl) T.g_Cells T.b_Cells_init .nil pass0 (pa_cons (pv 1) pa_nil)))
      (pss_cons (ps_set (i := 3) sc_law.nd rfl (.inl rfl) (pe_disp (pps_cons pe_str (pe_op op_rep (pe_lst (pa_cons pe_int pa_nil)) (pv 1)) (pps_cons pe_str pe_non (pps_cons pe_str pe_bl pps_nil))) (by rfl) (by rfl) (fun z => by cases z) (by decide)))
      (pss_cons (ps_for PassesOwn.never rfl (pi_list (pe_call (ok_law_draws T) (hr.mono (by decide)) (by rfl) T.g_law_draws T.k_law_draws.kp T.b_law_draws .nil pass0 (pa_cons (pv 0) (pa_cons pe_int (pa_cons pe_int pa_nil))))) (pg_name (i := 4) sc_law.nd rfl (Or.inl rfl)) (pss_cons (ps_set (i := 5) sc_law.nd rfl (.inl rfl) (pe_op op_modP (pv 4) pe_int))
      (pss_cons (ps_set (i := 6) sc_law.nd rfl (.inl rfl) (pe_op op_fdivW (pv 4) pe_int))
      (pss_cons (ps_set (i := 7) sc_law.nd rfl (.inl rfl) (pe_tup (pa_cons pe_str (pa_cons (pe_op op_modP (pv 6) (pv 1)) (pa_cons (pe_op op_sub (pe_op op_modP (pe_op op_fdivW (pv 6) pe_int) pe_int) pe_int) pa_nil)))))
      (C8.pss_cut (ps_if (pt_cmpR op_eq (pv 5) pe_int (nomark _)) (pss_one (ps_set (i := 7) sc_law.nd rfl (.inl rfl) (pe_tup (pa_cons pe_str (pa_cons (pe_op op_modP (pv 6) (pv 1)) pa_nil))))) pss_nil)
      (C8.pss_cut (ps_if (pt_cmpR op_eq (pv 5) pe_int (nomark _)) (pss_one (ps_set (i := 7) sc_law.nd rfl (.inl rfl) (pe_tup (pa_cons pe_str (pa_cons (pe_op op_modP (pv 6) pe_int) pa_nil))))) pss_nil)
      (C8.pss_cut (ps_if (pt_cmpR op_eq (pv 5) pe_int (nomark _)) (pss_one (ps_set (i := 7) sc_law.nd rfl (.inl rfl) (pe_tup (pa_cons pe_str pa_nil)))) pss_nil)
      (pss_cons (ps_if (PW.pt (pw_or (pt_cmpR (op_neD hr.units) (pe_call (ok_law_act T) (hr.mono (by decide)) (by rfl) T.g_law_act T.k_law_act.kp T.b_law_act .nil pass0 (pa_cons (pv 2) (pa_cons (pv 7) pa_nil))) (pe_call (ok_law_expect T) (hr.mono (by decide)) (by rfl) T.g_law_expect T.k_law_expect.kp T.b_law_expect .nil pass0 (pa_cons (pv 3) (pa_cons (pv 7) pa_nil))) (nomark _)) (pw_or (pt_not (pt_val (pe_callB (isiK K) (by rfl) T.m_isinstance (by decide +kernel) (pa_cons (pe_meth0 (pv 2) T.cl_Cells T.me_Cells_on (ok_Cells_on T) (hr.mono (by decide)) T.b_Cells_on .nil pass0) (pa_cons (pe_bltn (v := .ty "bool") (by rfl) T.m_bool (by decide +kernel) rfl) pa_nil))))) (pw_or1 (pt_cmpR op_ne (pe_meth0 (pv 2) T.cl_Cells T.me_Cells_on (ok_Cells_on T) (hr.mono (by decide)) T.b_Cells_on .nil pass0) (pe_dget (hu_of hr) (pv 3) pe_str (fun _ _ => rfl)) (nomark _)))))) (pss_one (ps_ret pe_bl)) pss_nil)
      (pss_one (ps_if (PW.pt (pw_and (pt_val (pe_dget (hu_of hr) (pv 3) pe_str (fun _ _ => rfl))) (pw_and1 (pt_cmpR (op_neD hr.units) (pe_lc (own := [("_law_place", 8)]) (g := gName 8) (tt := tYes) rfl sc_law.nd (pi_range1 (by rfl) T.m_range (pa_cons (pv 1) pa_nil)) (blkOk_by (own := [("_law_place", 8)]) (N := ["_law_script", "_law_count", "_law_cells", "_law_state", "_law_draw", "_law_kind", "_law_rest", "_law_deed", "_law_place"]) (sc := defScope s_law) (by decide +kernel)) (fun _ _ _ _ _ => pg_name (i := 8) sc_law.nd rfl (Or.inl rfl)) (fun _ _ _ _ _ => pts_nil) (fun _ _ _ _ _ => (pe_meth (pv 2) T.cl_Cells T.me_Cells_read (ok_Cells_read T) (hr.mono (by decide)) T.b_Cells_read .nil passL (pa_cons (pv 8) pa_nil)))) (pe_dget (hu_of hr) (pv 3) pe_str (fun _ _ => rfl)) (nomark _))))) (pss_one (ps_ret pe_bl)) pss_nil))))))))))
      (pss_cons (ps_expr (pe_meth0 (pv 2) T.cl_Cells T.me_Cells_restore (ok_Cells_restore T) (hr.mono (by decide)) T.b_Cells_restore .nil pass0))
      (pss_one (ps_ret (pe_cmpR (op_eqD hr.units) (pe_lc (own := [("_law_place", 8)]) (g := gName 8) (tt := tYes) rfl sc_law.nd (pi_range1 (by rfl) T.m_range (pa_cons (pv 1) pa_nil)) (blkOk_by (own := [("_law_place", 8)]) (N := ["_law_script", "_law_count", "_law_cells", "_law_state", "_law_draw", "_law_kind", "_law_rest", "_law_deed", "_law_place"]) (sc := defScope s_law) (by decide +kernel)) (fun _ _ _ _ _ => pg_name (i := 8) sc_law.nd rfl (Or.inl rfl)) (fun _ _ _ _ _ => pts_nil) (fun _ _ _ _ _ => (pe_meth (pv 2) T.cl_Cells T.me_Cells_read (ok_Cells_read T) (hr.mono (by decide)) T.b_Cells_read .nil passL (pa_cons (pv 8) pa_nil)))) (pe_dget (hu_of hr) (pv 3) pe_str (fun _ _ => rfl)) (nomark _))))))))), ?_⟩
    walk_at "rd"
    refine rdSeq ?_
    walk_at "rd"
    refine i_lenL hS ?_
    rw [List.length_map]
    obtain ⟨n, en, hn⟩ : ∃ n : Nat, 1 + (ns'.length : Int) % 9 = (n : Int) ∧ 1 ≤ n ∧ n ≤ 9 := ⟨(1 + (ns'.length : Int) % 9).toNat, by omega, by omega, by omega⟩
    walk_at "rd"
    rw [en]
    refine rdSeq ?_
    walk_at "rd"
    intro c dx hc hdx ndx
    have s0 : Same H (upd (upd H dx (.own c)) c (.ins T.c_Cells dx [])) := (same_new hdx).trans (same_new (by rw [upd_ne (Ne.symm ndx)]; exact hc))
    refine ⟨c, dx, n, rfl, upd_same, by omega, fun H1 l hC hl kp1 => ⟨rfl, rdSeq ?_⟩⟩
    have s1 : Same H H1 := kp1.same s0 (by simp [hc])
    walk_at "rd"
    intro s hs p hp
    have ns : s ≠ p := ne_of_none upd_same hp
    refine i_rep upd_same (by omega) (by omega) (by show 1 * _ ≤ _; rw [sizeLine_eq]; omega) fun w hw => ?_
    have nsw : s ≠ w := ne_of_none (same_new hp _ _ upd_same) hw
    refine ⟨same_new hw _ _ (same_new hp _ _ upd_same), sd w .non true, rfl, by show 3 ≤ 15; decide, rdSeq ?_⟩
    have s2 : Same H1 (upd (upd (upd (upd H1 s (.dK [])) p (.lst [V.int 0])) w (.lst (List.replicate ((n : Int)).toNat [V.int 0]).flatten)) s (.dK (mergeK [] (sd w .non true)))) := by
      intro b o e
      rw [upd_ne (ne_of_none e hs)]
      exact same_new hw _ _ (same_new hp _ _ (same_new hs _ _ e))
    have hS1 : StAt (upd (upd (upd (upd H1 s (.dK [])) p (.lst [V.int 0])) w (.lst (List.replicate ((n : Int)).toNat [V.int 0]).flatten)) s (.dK (mergeK [] (sd w .non true)))) s w ⟨List.replicate n 0, none, true⟩ :=
      ⟨upd_same, by rw [upd_ne (Ne.symm nsw), upd_same, rep1, List.map_replicate]; rfl⟩
    have hwn : H1 w = none := by
      have := (same_new hs).free ((same_new hp).free hw)
      exact this
    generalize upd (upd (upd (upd H1 s (.dK [])) p (.lst [V.int 0])) w (.lst (List.replicate ((n : Int)).toNat [V.int 0]).flatten)) s (.dK (mergeK [] (sd w .non true))) = H2 at s2 hS1
    have hC2 : CellsAt T.c_Cells H2 c l ⟨List.replicate n 0, none, true⟩ := hC.keep (Kp.of s2 (X := [])) (by simp) (by simp)
    have nlw : l ≠ w := ne_of_none hC.ws hwn
    walk_at "rd"
    refine ⟨a, ns', 60, rfl, (s1.trans s2).seq hS, hl', fun pd H3 ms nw hm => ?_⟩
    walk_at "rd"
    have nlp : l ≠ pd := ne_of_none hC2.ws nw.free
    have nwp : w ≠ pd := ne_of_none hS1.ws nw.free
    refine ⟨⟨_, nw.sq⟩, ?_⟩
    refine i_for (walk_listL (l := ms) (r := V.int)) (fun _ σ H' => (∃ S : CS, CellsAt T.c_Cells H' c l S ∧ StAt H' s w S ∧ S.words.length = n) ∧ H' pd = some (.lst (ms.map V.int)) ∧ ∃ y4 y5 y6 y7 y8, σ = [some (.ref a), some (.int (n : Int)), some (.ref c), some (.ref s), y4, y5, y6, y7, y8])
      ⟨⟨_, hC2.keep (Kp.of nw.same (X := [])) (by simp) (by simp), hS1.keep (Kp.of nw.same (X := [])) (by simp) (by simp), List.length_replicate⟩, nw.at_, _, _, _, _, _, rfl⟩ (fun i σ H' _ h => sqL_of h.2.1) ?_ ?_
    · rintro i _ σ _ H4 hi ⟨⟨S, hc4, hs4, hlen⟩, hpd, y4, y5, y6, y7, y8, rfl⟩ ⟨rfl, x, hx, rfl⟩
      refine rdSeq ?_
      walk_at "rd"
      refine rdSeq ?_
      walk_at "rd"
      refine ⟨⟨by decide, by decide⟩, rdSeq ?_⟩
      walk_at "rd"
      have mod_ok : ∀ y : Int, ∃ j : Nat, y % (n : Int) = (j : Int) ∧ j < n := fun y => ⟨(y % (n : Int)).toNat, by have := Int.emod_nonneg y (show (n : Int) ≠ 0 by omega); omega, by have := Int.emod_nonneg y (show (n : Int) ≠ 0 by omega); have := Int.emod_lt_of_pos y (show (0 : Int) < n by omega); omega⟩
      obtain ⟨j, ej, hj⟩ := mod_ok (x / 7)
      rw [ej]
      refine ⟨by omega, ⟨by decide, by decide⟩, fun t ht => ?_⟩
      refine rdCut (MidD n H4 (fun x8 x9 => [some (.ref a), some (.int (n : Int)), some (.ref c), some (.ref s), some (.int x), some (.int (x % 7)), some (.int (x / 7)), x8, x9])) ?_ ?_
      · walk_at "rd"
        refine ite2 (fun _ => ?_) (fun _ => ⟨t, .write j (x / 7 / 9 % 65536 - 32768), _, same_new ht, upd_same, hj, rfl⟩)
        rw [ej]
        refine ⟨by omega, fun r hr => ⟨r, .read j, _, (same_new ht).trans (same_new hr), upd_same, hj, rfl⟩⟩
      rintro σ H5 ⟨t, d, u, s5, ht, hd, rfl⟩
      refine rdCut (MidD n H4 (fun x8 x9 => [some (.ref a), some (.int (n : Int)), some (.ref c), some (.ref s), some (.int x), some (.int (x % 7)), some (.int (x / 7)), x8, x9])) ?_ ?_
      · walk_at "rd"
        refine ite2 (fun _ r hr => ⟨r, .cut (x / 7 % 5), _, s5.trans (same_new hr), upd_same, trivial, rfl⟩) (fun _ => ⟨t, d, _, s5, ht, hd, rfl⟩)
      rintro σ H6 ⟨t, d, u, s5, ht, hd, rfl⟩
      refine rdCut (MidD n H4 (fun x8 x9 => [some (.ref a), some (.int (n : Int)), some (.ref c), some (.ref s), some (.int x), some (.int (x % 7)), some (.int (x / 7)), x8, x9])) ?_ ?_
      · walk_at "rd"
        refine ite2 (fun _ r hr => ⟨r, .restore, _, s5.trans (same_new hr), upd_same, trivial, rfl⟩) (fun _ => ⟨t, d, _, s5, ht, hd, rfl⟩)
      rintro σ H7 ⟨t, d, u, s5, ht, hd, rfl⟩
      refine rdSeq ?_
      walk_at "rd"
      have hc7 := hc4.keep (Kp.of s5 (X := [])) (by simp) (by simp)
      have hs7 := hs4.keep (Kp.of s5 (X := [])) (by simp) (by simp)
      have hp7 := s5 _ _ hpd
      refine ⟨c, l, t, S, d, rfl, hc7, ht, by rw [hlen]; exact hd, fun H8 r1 hc8 kp8 hr1 er1 => ?_⟩
      have nlw4 : l ≠ w := nlw
      have ncs : c ≠ s := by obtain ⟨dx, h⟩ := hc7.ob; exact ne_of h hs7.ob (by intro z; cases z)
      have ncw : c ≠ w := by obtain ⟨dx, h⟩ := hc7.ob; exact ne_of h hs7.ws (by intro z; cases z)
      have nls : l ≠ s := ne_of hc7.ws hs7.ob (by intro z; cases z)
      have npc : pd ≠ c := by obtain ⟨dx, h⟩ := hc7.ob; exact ne_of hp7 h (by intro z; cases z)
      have nps : pd ≠ s := ne_of hp7 hs7.ob (by intro z; cases z)
      have ntc : t ≠ c := by obtain ⟨dx, h⟩ := hc7.ob; exact ne_of ht h (by intro z; cases z)
      have ntl : t ≠ l := ne_of ht hc7.ws (by intro z; cases z)
      have hs8 := hs7.keep kp8 (by simp [Ne.symm ncs, Ne.symm nls]) (by simp [Ne.symm ncw, Ne.symm nlw])
      have ht8 := kp8 _ _ (by simp [ntc, ntl]) ht
      have hp8 := kp8 _ _ (by simp [npc, Ne.symm nlp]) hp7
      walk_at "rd"
      refine ⟨s, w, t, S, d, rfl, hs8, ht8, by rw [hlen]; exact hd, fun H9 r2 hs9 kp9 hr2 er2 => ?_⟩
      have hr1s : r1 ≠ s := fun e => by subst e; rw [hs7.ob] at hr1; cases hr1
      have hr1w : r1 ≠ w := fun e => by subst e; rw [hs7.ws] at hr1; cases hr1
      have er1' := kp9 _ _ (by simp [hr1s, hr1w]) er1
      have hc9 := hc8.keep kp9 (by simp [ncs, ncw]) (by simp [nls, nlw])
      have hp9 := kp9 _ _ (by simp [nps, Ne.symm nwp]) hp8
      have hlen9 : (stepS S d).1.words.length = n := by rw [stepS_len, hlen]
      have hsv : ∃ dv, (∀ H, Dp K H (stepS S d).2.2 dv) ∧ SeqAt.shaped (.tuple [.str (if (stepS S d).2.1 then "done" else "cut"), dv]) = true := by
        have : (stepS S d).2.2 = .non ∨ ∃ z, (stepS S d).2.2 = .int z := by
          cases d with
          | read i =>
            show (if S.on = true then V.int (S.words.getD i 0) else .non) = .non ∨ ∃ z, (if S.on = true then V.int (S.words.getD i 0) else .non) = .int z
            cases S.on with
            | true => exact .inr ⟨_, rfl⟩
            | false => exact .inl rfl
          | _ => exact .inl rfl
        rcases this with e | ⟨z, e⟩
        · rw [e]; exact ⟨.none, fun _ => .non, by simp [SeqAt.shaped, PyData.canLay0, PyData.canLayAll0, PyData.depth, PyData.depthAll]; cases (stepS S d).2.1 <;> decide +kernel⟩
        · rw [e]; exact ⟨.int z, fun _ => .int z, by simp [SeqAt.shaped, PyData.canLay0, PyData.canLayAll0, PyData.depth, PyData.depthAll]; cases (stepS S d).2.1 <;> decide +kernel⟩
      obtain ⟨dv, hdv, hsh⟩ := hsv
      refine i_neD (dp_ans er1' (hdv _)) (dp_ans er2 (hdv _)) hsh ?_
      generalize (stepS S d).1 = S9 at hc9 hs9 hlen9
      walk_at "rd"
      obtain ⟨dx9, ho9⟩ := hc9.ob
      refine i_meth ho9 rfl ⟨c, l, S9, rfl, hc9, i_isi ty_bl kb_bb ?_⟩
      walk_at "rd"
      refine i_meth ho9 rfl ⟨c, l, S9, rfl, hc9, i_dget hs9.ob rfl ?_⟩
      walk_at "rd"
      refine i_dget hs9.ob rfl ?_
      walk_at "rd"
      refine ite2 (fun e => ?_) (fun _ => ⟨⟨S9, hc9, hs9, hlen9⟩, hp9⟩)
      refine ⟨by omega, by omega, i_lcL (walk_rangeL (lo := 0) (n := n)) (fun i => .int (S9.words.getD i 0)) (by rw [List.length_range]; exact line5' (by omega)) (fun _ _ _ => trivial) (fun i hi H1 Q' sm q' => ?_) fun D hD => ?_⟩
      · walk_at "rd"
        have hi : i < n := List.mem_range.mp hi
        rw [Int.zero_add]
        exact i_meth (sm _ _ ho9) rfl ⟨c, l, S9, i, rfl, hc9.keep (Kp.of sm (X := [])) (by simp) (by simp), by omega, fun _ => q', fun e2 => by rw [e] at e2; cases e2⟩
      · rw [range_words hlen9]
        refine i_dget (same_new hD _ _ hs9.ob) rfl ?_
        refine i_neD (.lst (sqL_of upd_same) (dpInts _)) (.lst (sqL_of (same_new hD _ _ hs9.ws)) (dpInts _)) (PySem.W.ke_shaped_ints _) ?_
        walk_at "rd"
        exact ⟨⟨S9, hc9.keep (Kp.new hD (X := [])) (by simp) (by simp), hs9.keep (Kp.new hD (X := [])) (by simp) (by simp), hlen9⟩, same_new hD _ _ hp9⟩
    · rintro σ H4 ⟨⟨S, hc4, hs4, hlen⟩, hpd, y4, y5, y6, y7, y8, rfl⟩
      obtain ⟨dx4, ho4⟩ := hc4.ob
      dsimp only
      refine rdSeq ?_
      walk_at "rd"
      refine i_meth ho4 rfl ?_
      refine ⟨c, l, S, rfl, hc4, fun H5 hc5 kp5 => ?_⟩
      have ncs : c ≠ s := ne_of ho4 hs4.ob (by intro z; cases z)
      have ncw : c ≠ w := ne_of ho4 hs4.ws (by intro z; cases z)
      have nls : l ≠ s := ne_of hc4.ws hs4.ob (by intro z; cases z)
      have hs5 := hs4.keep kp5 (by simp [Ne.symm ncs, Ne.symm nls]) (by simp [Ne.symm ncw, Ne.symm nlw])
      walk_at "rd"
      obtain ⟨dx5, ho5⟩ := hc5.ob
      refine ⟨by omega, by omega, i_lcL (walk_rangeL (lo := 0) (n := n)) (fun i => .int (S.words.getD i 0)) (by rw [List.length_range]; exact line5' (by omega)) (fun _ _ _ => trivial) (fun i hi H1 Q' sm q' => ?_) fun D hD => ?_⟩
      · walk_at "rd"
        have hi : i < n := List.mem_range.mp hi
        rw [Int.zero_add]
        exact i_meth (sm _ _ ho5) rfl ⟨c, l, ⟨S.words, none, true⟩, i, rfl, hc5.keep (Kp.of sm (X := [])) (by simp) (by simp), by show i < S.words.length; omega, fun _ => q', fun e2 => nomatch e2⟩
      · rw [range_words hlen]
        refine i_dget (same_new hD _ _ hs5.ob) rfl ?_
        exact i_eqD (.lst (sqL_of upd_same) (dpInts _)) (.lst (sqL_of (same_new hD _ _ hs5.ws)) (dpInts _)) (PySem.W.ke_shaped_ints _) (q _)

theorem all_mk {l : PySem.W.OpenLaw} {w : World} {K : PySem.W.Frag} {h : Heap} {mg : Str → Option Value} {fa : Addr} (X : K.In h) (G : h.Ns mainGlobals mg) (hfa : mg "law" = some (.ref fa))
    {f0 : Addr} {od0 an0 : Option Addr} {sl0 : Array (Option Value)} {oc0 kV0 dc0 pm0 cd0 ct0 : Value}
    {f1 : Addr} {od1 an1 : Option Addr} {sl1 : Array (Option Value)} {oc1 kV1 dc1 pm1 cd1 ct1 : Value}
    {f2 : Addr} {od2 an2 : Option Addr} {sl2 : Array (Option Value)} {oc2 kV2 dc2 pm2 cd2 ct2 : Value}
    {f3 : Addr} {od3 an3 : Option Addr} {sl3 : Array (Option Value)} {oc3 kV3 dc3 pm3 cd3 ct3 : Value}
    {f4 : Addr} {od4 an4 : Option Addr} {sl4 : Array (Option Value)} {oc4 kV4 dc4 pm4 cd4 ct4 : Value}
    {f5 : Addr} {od5 an5 : Option Addr} {sl5 : Array (Option Value)} {oc5 kV5 dc5 pm5 cd5 ct5 : Value}
    {f6 : Addr} {od6 an6 : Option Addr} {sl6 : Array (Option Value)} {oc6 kV6 dc6 pm6 cd6 ct6 : Value}
    {f7 : Addr} {od7 an7 : Option Addr} {sl7 : Array (Option Value)} {oc7 kV7 dc7 pm7 cd7 ct7 : Value}
    {f8 : Addr} {od8 an8 : Option Addr} {sl8 : Array (Option Value)} {oc8 kV8 dc8 pm8 cd8 ct8 : Value}
    {f9 : Addr} {od9 an9 : Option Addr} {sl9 : Array (Option Value)} {oc9 kV9 dc9 pm9 cd9 ct9 : Value}
    {c_CardError : Addr}
    {c_PowerCut : Addr}
    {c_Cells : Addr}
    (l0 : K.lookup f0 = some ⟨oc0, od0, .func (PySem.W.fnOf "__init__" "Cells.__init__" (defArgs s_Cells_init) (defBody s_Cells_init) (defScope s_Cells_init) .none kV0 dc0 pm0 an0 cd0 ct0), sl0⟩) (c0 : PySem.W.codeIn K cd0 "Cells.__init__" = true) (k0 : PySem.W.keepIn K (.ref f0) = true)
    (l1 : K.lookup f1 = some ⟨oc1, od1, .func (PySem.W.fnOf "on" "Cells.on" (defArgs s_Cells_on) (defBody s_Cells_on) (defScope s_Cells_on) .none kV1 dc1 pm1 an1 cd1 ct1), sl1⟩) (c1 : PySem.W.codeIn K cd1 "Cells.on" = true) (k1 : PySem.W.keepIn K (.ref f1) = true)
    (l2 : K.lookup f2 = some ⟨oc2, od2, .func (PySem.W.fnOf "cut" "Cells.cut" (defArgs s_Cells_cut) (defBody s_Cells_cut) (defScope s_Cells_cut) .none kV2 dc2 pm2 an2 cd2 ct2), sl2⟩) (c2 : PySem.W.codeIn K cd2 "Cells.cut" = true) (k2 : PySem.W.keepIn K (.ref f2) = true)
    (l3 : K.lookup f3 = some ⟨oc3, od3, .func (PySem.W.fnOf "restore" "Cells.restore" (defArgs s_Cells_restore) (defBody s_Cells_restore) (defScope s_Cells_restore) .none kV3 dc3 pm3 an3 cd3 ct3), sl3⟩) (c3 : PySem.W.codeIn K cd3 "Cells.restore" = true) (k3 : PySem.W.keepIn K (.ref f3) = true)
    (l4 : K.lookup f4 = some ⟨oc4, od4, .func (PySem.W.fnOf "read" "Cells.read" (defArgs s_Cells_read) (defBody s_Cells_read) (defScope s_Cells_read) .none kV4 dc4 pm4 an4 cd4 ct4), sl4⟩) (c4 : PySem.W.codeIn K cd4 "Cells.read" = true) (k4 : PySem.W.keepIn K (.ref f4) = true)
    (l5 : K.lookup f5 = some ⟨oc5, od5, .func (PySem.W.fnOf "write" "Cells.write" (defArgs s_Cells_write) (defBody s_Cells_write) (defScope s_Cells_write) .none kV5 dc5 pm5 an5 cd5 ct5), sl5⟩) (c5 : PySem.W.codeIn K cd5 "Cells.write" = true) (k5 : PySem.W.keepIn K (.ref f5) = true)
    (a6 : PySem.W.nsIn K mainGlobals "_law_draws" = some (some (.ref f6)))
    (l6 : K.lookup f6 = some ⟨oc6, od6, .func (PySem.W.fnOf "_law_draws" "_law_draws" (defArgs s_law_draws) (defBody s_law_draws) (defScope s_law_draws) .none kV6 dc6 pm6 an6 cd6 ct6), sl6⟩) (c6 : PySem.W.codeIn K cd6 "_law_draws" = true) (k6 : PySem.W.keepIn K (.ref f6) = true)
    (a7 : PySem.W.nsIn K mainGlobals "_law_act" = some (some (.ref f7)))
    (l7 : K.lookup f7 = some ⟨oc7, od7, .func (PySem.W.fnOf "_law_act" "_law_act" (defArgs s_law_act) (defBody s_law_act) (defScope s_law_act) .none kV7 dc7 pm7 an7 cd7 ct7), sl7⟩) (c7 : PySem.W.codeIn K cd7 "_law_act" = true) (k7 : PySem.W.keepIn K (.ref f7) = true)
    (a8 : PySem.W.nsIn K mainGlobals "_law_expect" = some (some (.ref f8)))
    (l8 : K.lookup f8 = some ⟨oc8, od8, .func (PySem.W.fnOf "_law_expect" "_law_expect" (defArgs s_law_expect) (defBody s_law_expect) (defScope s_law_expect) .none kV8 dc8 pm8 an8 cd8 ct8), sl8⟩) (c8 : PySem.W.codeIn K cd8 "_law_expect" = true) (k8 : PySem.W.keepIn K (.ref f8) = true)
    (a9 : PySem.W.nsIn K mainGlobals "law" = some (some (.ref f9)))
    (l9 : K.lookup f9 = some ⟨oc9, od9, .func (PySem.W.fnOf "law" "law" (defArgs s_law) (defBody s_law) (defScope s_law) .none kV9 dc9 pm9 an9 cd9 ct9), sl9⟩) (c9 : PySem.W.codeIn K cd9 "law" = true) (k9 : PySem.W.keepIn K (.ref f9) = true)
    (aC_CardError : PySem.W.nsIn K mainGlobals "CardError" = some (some (.ref c_CardError)))
    (aC_PowerCut : PySem.W.nsIn K mainGlobals "PowerCut" = some (some (.ref c_PowerCut)))
    (aC_Cells : PySem.W.nsIn K mainGlobals "Cells" = some (some (.ref c_Cells)))
    (w1x : PySem.W.excIn K c_PowerCut [.type "ValueError", .type "Exception", .type "BaseException", .type "object"] "ValueError.__new__" = true)
    (w2kx : PySem.W.keepIn K (.ref c_PowerCut) = true)
    (w3be : PySem.W.subIn K (.ref c_PowerCut) (.type "BaseException") = some true)
    (w4ty : PySem.W.typeIn K (.ref c_PowerCut) = some (.type "type"))
    (w5eb : PySem.W.subIn K (.ref c_PowerCut) (.type "BaseException") = some true)
    (w6ei : PySem.W.isClsIn K c_PowerCut = true)
    (w7et : PySem.W.typeIn K (.ref c_PowerCut) = some (.type "type"))
    (w8es : PySem.W.subIn K (.ref c_PowerCut) (.ref c_PowerCut) = some true)
    (w9pg : PySem.W.plainGet K c_Cells Str.empty = true)
    (w10hd : PySem.W.hasDictIn K c_Cells = true)
    (w11po : PySem.W.plainOver K c_Cells = true)
    (w12sa : PySem.W.findIn K (.ref c_Cells) "__setattr__" = some (some (.builtin "object.__setattr__")))
    (w13mk : PySem.W.makesIn K c_Cells = true)
    (w14in : PySem.W.findIn K (.ref c_Cells) "__init__" = some (some (.ref f0)))
    (w15fi : PySem.W.isFn K (.ref f0) = true)
    (w16kc : PySem.W.keepIn K (.ref c_Cells) = true)
    (w17at : PySem.W.findIn K (.ref c_Cells) "on" = some (some (.ref f1)))
    (w18fn : PySem.W.isFn K (.ref f1) = true)
    (w19km : PySem.W.keepIn K (.ref f1) = true)
    (w20at : PySem.W.findIn K (.ref c_Cells) "cut" = some (some (.ref f2)))
    (w21fn : PySem.W.isFn K (.ref f2) = true)
    (w22km : PySem.W.keepIn K (.ref f2) = true)
    (w23at : PySem.W.findIn K (.ref c_Cells) "restore" = some (some (.ref f3)))
    (w24fn : PySem.W.isFn K (.ref f3) = true)
    (w25km : PySem.W.keepIn K (.ref f3) = true)
    (w26at : PySem.W.findIn K (.ref c_Cells) "read" = some (some (.ref f4)))
    (w27fn : PySem.W.isFn K (.ref f4) = true)
    (w28km : PySem.W.keepIn K (.ref f4) = true)
    (w29at : PySem.W.findIn K (.ref c_Cells) "write" = some (some (.ref f5)))
    (w30fn : PySem.W.isFn K (.ref f5) = true)
    (w31km : PySem.W.keepIn K (.ref f5) = true)
    (w32na : PySem.W.findIn K (.ref c_Cells) "_words" = some none)
    (w33na : PySem.W.findIn K (.ref c_Cells) "_left" = some none)
    (w34na : PySem.W.findIn K (.ref c_Cells) "_on" = some none)
    (z0 : PySem.W.nsIn K mainGlobals "abs" = some none)
    (z1 : PySem.W.nsIn K mainGlobals "bool" = some none)
    (z2 : PySem.W.nsIn K mainGlobals "int" = some none)
    (z3 : PySem.W.nsIn K mainGlobals "isinstance" = some none)
    (z4 : PySem.W.nsIn K mainGlobals "len" = some none)
    (z5 : PySem.W.nsIn K mainGlobals "range" = some none) :
    ∃ fd : FuncData, (∀ (s : Shared) (v : Value), BindsTo s fd ⟨[v], []⟩ [("_law_script", v)]) ∧ ∀ base : Heap, K.In base → base.Ns mainGlobals mg → FnOk l.prog w K mg base CX0 3 fa fd ["_law_script"] (sp_law K) := by
  have e := hfa.symm.trans (PySem.W.mg_of X G a9)
  cases e
  let T : Txt K mg := {
    f_Cells_init := f0,
    d_Cells_init := _,
    k_Cells_init := (fun_mk (st := s_Cells_init) l0 c0 k0),
    b_Cells_init := (Fun.binds (ps := ["self", "count"]) (fun_mk (st := s_Cells_init) l0 c0 k0) fun _ _ _ _ _ _ us hl => match us, hl with | [_, _], _ => rfl),
    f_Cells_on := f1,
    d_Cells_on := _,
    k_Cells_on := (fun_mk (st := s_Cells_on) l1 c1 k1),
    b_Cells_on := (Fun.binds (ps := ["self"]) (fun_mk (st := s_Cells_on) l1 c1 k1) fun _ _ _ _ _ _ us hl => match us, hl with | [_], _ => rfl),
    f_Cells_cut := f2,
    d_Cells_cut := _,
    k_Cells_cut := (fun_mk (st := s_Cells_cut) l2 c2 k2),
    b_Cells_cut := (Fun.binds (ps := ["self", "writes"]) (fun_mk (st := s_Cells_cut) l2 c2 k2) fun _ _ _ _ _ _ us hl => match us, hl with | [_, _], _ => rfl),
    f_Cells_restore := f3,
    d_Cells_restore := _,
    k_Cells_restore := (fun_mk (st := s_Cells_restore) l3 c3 k3),
    b_Cells_restore := (Fun.binds (ps := ["self"]) (fun_mk (st := s_Cells_restore) l3 c3 k3) fun _ _ _ _ _ _ us hl => match us, hl with | [_], _ => rfl),
    f_Cells_read := f4,
    d_Cells_read := _,
    k_Cells_read := (fun_mk (st := s_Cells_read) l4 c4 k4),
    b_Cells_read := (Fun.binds (ps := ["self", "place"]) (fun_mk (st := s_Cells_read) l4 c4 k4) fun _ _ _ _ _ _ us hl => match us, hl with | [_, _], _ => rfl),
    f_Cells_write := f5,
    d_Cells_write := _,
    k_Cells_write := (fun_mk (st := s_Cells_write) l5 c5 k5),
    b_Cells_write := (Fun.binds (ps := ["self", "place", "word"]) (fun_mk (st := s_Cells_write) l5 c5 k5) fun _ _ _ _ _ _ us hl => match us, hl with | [_, _, _], _ => rfl),
    f_law_draws := f6,
    d_law_draws := _,
    k_law_draws := (fun_mk (st := s_law_draws) l6 c6 k6),
    b_law_draws := (Fun.binds (ps := ["_law_script", "_law_start", "_law_most"]) (fun_mk (st := s_law_draws) l6 c6 k6) fun _ _ _ _ _ _ us hl => match us, hl with | [_, _, _], _ => rfl),
    g_law_draws := PySem.W.mg_of X G a6,
    f_law_act := f7,
    d_law_act := _,
    k_law_act := (fun_mk (st := s_law_act) l7 c7 k7),
    b_law_act := (Fun.binds (ps := ["_law_cells", "_law_deed"]) (fun_mk (st := s_law_act) l7 c7 k7) fun _ _ _ _ _ _ us hl => match us, hl with | [_, _], _ => rfl),
    g_law_act := PySem.W.mg_of X G a7,
    f_law_expect := f8,
    d_law_expect := _,
    k_law_expect := (fun_mk (st := s_law_expect) l8 c8 k8),
    b_law_expect := (Fun.binds (ps := ["_law_state", "_law_deed"]) (fun_mk (st := s_law_expect) l8 c8 k8) fun _ _ _ _ _ _ us hl => match us, hl with | [_, _], _ => rfl),
    g_law_expect := PySem.W.mg_of X G a8,
    f_law := fa,
    d_law := _,
    k_law := (fun_mk (st := s_law) l9 c9 k9),
    b_law := (Fun.binds (ps := ["_law_script"]) (fun_mk (st := s_law) l9 c9 k9) fun _ _ _ _ _ _ us hl => match us, hl with | [_], _ => rfl),
    g_law := PySem.W.mg_of X G a9,
    c_CardError := c_CardError,
    g_CardError := PySem.W.mg_of X G aC_CardError,
    c_PowerCut := c_PowerCut,
    g_PowerCut := PySem.W.mg_of X G aC_PowerCut,
    c_Cells := c_Cells,
    g_Cells := PySem.W.mg_of X G aC_Cells,
    x_PowerCut := ⟨w1x, w2kx, w3be, w4ty⟩,
    ex_PowerCut_PowerCut := exm_two w5eb w6ei w7et w8es,
    cl_Cells := ⟨w9pg, w10hd, w11po, w12sa⟩,
    mk_Cells := ⟨w13mk, w14in, w15fi, w16kc⟩,
    me_Cells_on := ⟨w17at, w18fn, w19km⟩,
    me_Cells_cut := ⟨w20at, w21fn, w22km⟩,
    me_Cells_restore := ⟨w23at, w24fn, w25km⟩,
    me_Cells_read := ⟨w26at, w27fn, w28km⟩,
    me_Cells_write := ⟨w29at, w30fn, w31km⟩,
    nf_Cells_words := w32na,
    nf_Cells_left := w33na,
    nf_Cells_on := w34na,
    m_abs := PySem.W.mg_none_of X G z0,
    m_bool := PySem.W.mg_none_of X G z1,
    m_int := PySem.W.mg_none_of X G z2,
    m_isinstance := PySem.W.mg_none_of X G z3,
    m_len := PySem.W.mg_none_of X G z4,
    m_range := PySem.W.mg_none_of X G z5 }
  exact ⟨T.d_law, fun s v => .of_eq rfl, fun base _ _ => ok_law T⟩
end
end My
open PySem PySem.W PyProof.Rows
set_option maxHeartbeats 0 in
theorem PySem.Challenge.cw_warycard_k69_cells_holds : PySem.Challenge.rw_warycard_k69_cells.Holds := by
  w_on; o_law; k_head; (case hw => w_witness2)
  k_fill
  refine L2.walk_of (l := PySem.Challenge.rw_warycard_k69_cells) (n := 63) (k := 3) (x := "_law_script") (CX := fun _ => L2.CX0) (sp := fun w => My.sp_law _) rfl (by decide) rfl ⟨rfl, by decide, by decide⟩ (fun w h Y => PySem.W.kIn_of Y) ?F (fun _ _ a ns hl _ hS => ⟨a, ns, rfl, hS, hl, fun _ => rfl⟩) (fun _ _ _ _ _ h => h)
  case F =>
    intro w mg fa h KX G hmg
    refine' My.all_mk KX G hmg ?l0 ?c0 ?k0 ?l1 ?c1 ?k1 ?l2 ?c2 ?k2 ?l3 ?c3 ?k3 ?l4 ?c4 ?k4 ?l5 ?c5 ?k5 ?a6 ?l6 ?c6 ?k6 ?a7 ?l7 ?c7 ?k7 ?a8 ?l8 ?c8 ?k8 ?a9 ?l9 ?c9 ?k9 ?aC_CardError ?aC_PowerCut ?aC_Cells ?w1x ?w2kx ?w3be ?w4ty ?w5eb ?w6ei ?w7et ?w8es ?w9pg ?w10hd ?w11po ?w12sa ?w13mk ?w14in ?w15fi ?w16kc ?w17at ?w18fn ?w19km ?w20at ?w21fn ?w22km ?w23at ?w24fn ?w25km ?w26at ?w27fn ?w28km ?w29at ?w30fn ?w31km ?w32na ?w33na ?w34na ?z0 ?z1 ?z2 ?z3 ?z4 ?z5
    (case a6 => k_is); (case a7 => k_is); (case a8 => k_is); (case a9 => k_is); (case aC_CardError => k_is); (case aC_PowerCut => k_is); (case aC_Cells => k_is); (case z0 => k_is); (case z1 => k_is); (case z2 => k_is); (case z3 => k_is); (case z4 => k_is); (case z5 => k_is); (case w14in => k_is); (case w17at => k_is); (case w20at => k_is); (case w23at => k_is); (case w26at => k_is); (case w29at => k_is); (case l0 => k_is); (case l1 => k_is); (case l2 => k_is); (case l3 => k_is); (case l4 => k_is); (case l5 => k_is); (case l6 => k_is); (case l7 => k_is); (case l8 => k_is); (case l9 => k_is); (case c0 => k_is); (case k0 => k_is); (case c1 => k_is); (case k1 => k_is); (case c2 => k_is); (case k2 => k_is); (case c3 => k_is); (case k3 => k_is); (case c4 => k_is); (case k4 => k_is); (case c5 => k_is); (case k5 => k_is); (case c6 => k_is); (case k6 => k_is); (case c7 => k_is); (case k7 => k_is); (case c8 => k_is); (case k8 => k_is); (case c9 => k_is); (case k9 => k_is); (case w1x => k_exc); (case w2kx => k_is); (case w3be => k_is); (case w4ty => k_is); (case w5eb => k_is); (case w6ei => k_is); (case w7et => k_is); (case w8es => first | rfl | k_is); (case w9pg => k_is); (case w10hd => k_is); (case w11po => k_is); (case w12sa => k_is); (case w13mk => k_is); (case w15fi => k_is); (case w16kc => k_is); (case w18fn => k_is); (case w19km => k_is); (case w21fn => k_is); (case w22km => k_is); (case w24fn => k_is); (case w25km => k_is); (case w27fn => k_is); (case w28km => k_is); (case w30fn => k_is); (case w31km => k_is); (case w32na => k_is); (case w33na => k_is); (case w34na => k_is)
#print axioms PySem.Challenge.cw_warycard_k69_cells_holds
