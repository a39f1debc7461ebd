import PyProof.Rows.All
import Wide.All
import OpenK.AllK
import Wide.FinOn
import HandS.ForMost
import HandS.Wide
import HandS.IsInst
import HandS.Style
import HandS.Walk
import HandS.Codes
import PySem.Challenge.RW_warycard_k03_operations
set_option Elab.async false
set_option maxRecDepth 100000
set_option maxHeartbeats 4000000
namespace My
open PySem PySem.Spec PyProof.Rows L2
/-! ### readings -/
theorem OpR.imp' {X : Cx} {f : Value → Value → Sem Value} {r r' : R2} (h : OpR X f r) (i : ∀ x y H Q, r' x y H Q → r x y H Q) : OpR X f r' := fun pins s σ H x y u v Q I rx ry q => h pins s σ H x y u v Q I rx ry (i _ _ _ _ q)
theorem op_modP {X : Cx} : OpR X (binaryOp .Mod) (rI (fun _ j => 0 < j) fun i j => .int (i % j)) := OpR.imp' op_modN fun x y H Q ⟨i, j, e1, e2, hj, q⟩ => ⟨i, j, e1, e2, by have hj : 0 < j := hj; show j ≠ 0; omega, by
  have hj : 0 < j := hj
  have e : i.fmod j = i % j := Int.fmod_eq_emod_of_nonneg i (by omega)
  show Q (V.int (i.fmod j)) H
  rw [e]; exact q⟩
theorem rdSeq {t u : TS} {D : Ends} {σ : L2.St} {H : Hp} (h : t { D with nx := u D } σ H) : tSeq t u D σ H := h
/-- all that was tracked is kept but the list at a, which holds three ints -/
def Bag (H : Hp) (a : Addr) : Prop := ∃ x y z : Int, H a = some (.lst [.int x, .int y, .int z])
structure Mv (a : Addr) (H H' : Hp) : Prop where
  bag : Bag H' a
  old : ∀ b o, b ≠ a → H b = some o → H' b = some o
theorem Mv.refl {a : Addr} {H : Hp} (h : Bag H a) : Mv a H H := ⟨h, fun _ _ _ e => e⟩
theorem Mv.trans {a : Addr} {H H1 H2 : Hp} (h : Mv a H H1) (k : Mv a H1 H2) : Mv a H H2 := ⟨k.bag, fun b o n e => k.old b o n (h.old b o n e)⟩
theorem Mv.new {a p : Addr} {o : HO} {H H1 : Hp} (h : Mv a H H1) (n : H1 p = none) : Mv a H (upd H1 p o) := by
  obtain ⟨x, y, z, e⟩ := h.bag
  have ne : a ≠ p := fun q => by subst q; rw [n] at e; cases e
  exact ⟨⟨x, y, z, by rw [upd_ne ne]; exact e⟩, fun b u hb hu => by
    have := h.old b u hb hu
    rw [upd_ne (ne_of_none this n)]; exact this⟩
theorem Mv.ne {a p : Addr} {H H1 : Hp} (h : Mv a H H1) (n : H1 p = none) : p ≠ a := fun q => by
  obtain ⟨x, y, z, e⟩ := h.bag
  subst q; rw [n] at e; cases e
theorem Mv.free {a p : Addr} {H H1 : Hp} (h : Mv a H H1) (n : H1 p = none) : H p = none := by
  cases e : H p with
  | none => rfl
  | some o => rw [h.old p o (h.ne n) e] at n; cases n
theorem bag_ne {a p : Addr} {H : Hp} (h : Bag H a) (n : H p = none) : p ≠ a := fun q => by
  obtain ⟨x, y, z, e⟩ := h
  subst q; rw [n] at e; cases e
theorem sqL_of {K : PySem.W.Frag} {H : Hp} {a : Addr} {xs : List V} (h : H a = some (.lst xs)) : SqL K H a xs := .inl (.inl h)
theorem sqT_of {K : PySem.W.Frag} {H : Hp} {a : Addr} {xs : List V} (h : H a = some (.tup xs)) : SqT K H a xs := .inl (.inl h)
def rIntA : List V → Hp → VK → Prop := fun xs H Q => ∃ x, xs = [x] ∧ match x with
  | .int i => Q (.int i) H
  | .bl k => Q (.int (if k = true then 1 else 0)) H
  | _ => False
theorem call_intI {X : Cx} : CallR X (.type "int") rIntA := fun pins s σ H xs us Q I r ⟨x, e, q⟩ => by
  cases x with
  | int i => exact call_int1 pins s σ H xs us Q I r (.inl ⟨i, e, q⟩)
  | bl k => exact call_int1 pins s σ H xs us Q I r (.inr ⟨k, e, q⟩)
  | _ => exact False.elim q
/-- len of a list, of a tuple -/
def rLenL (K : PySem.W.Frag) : List V → Hp → VK → Prop := fun xs H Q => ∃ p ys, xs = [.ref p] ∧ SqL K H p ys ∧ Q (.int ys.length) H
def rLenT (K : PySem.W.Frag) : List V → Hp → VK → Prop := fun xs H Q => ∃ p ys, xs = [.ref p] ∧ SqT K H p ys ∧ Q (.int ys.length) H
theorem call_lenL {X : Cx} : CallR X (.builtin "len") (rLenL X.K) := fun pins s σ H xs us Q I r ⟨p, ys, e, h, q⟩ => call_len_seq pins s σ H xs us Q I r ⟨p, ys, e, .inl h, q⟩
theorem call_lenT {X : Cx} : CallR X (.builtin "len") (rLenT X.K) := fun pins s σ H xs us Q I r ⟨p, ys, e, h, q⟩ => call_len_seq pins s σ H xs us Q I r ⟨p, ys, e, .inr h, q⟩
theorem i_lenL {K : PySem.W.Frag} {H : Hp} {Q : VK} {p : Addr} {ys : List V} (h : SqL K H p ys) (q : Q (.int ys.length) H) : rLenL K [.ref p] H Q := ⟨p, ys, rfl, h, q⟩
theorem i_lenT {K : PySem.W.Frag} {H : Hp} {Q : VK} {p : Addr} {ys : List V} (h : SqT K H p ys) (q : Q (.int ys.length) H) : rLenT K [.ref p] H Q := ⟨p, ys, rfl, h, q⟩
theorem i_ixL {K : PySem.W.Frag} {H : Hp} {Q : VK} {p : Addr} {xs : List V} {i : Int} {v : V} (h : SqL K H p xs) (e : atI xs i = some v) (q : Q v H) : rIxL K (.ref p) (.int i) H Q := ⟨p, xs, i, v, rfl, rfl, h, e, q⟩
theorem i_ixT {K : PySem.W.Frag} {H : Hp} {Q : VK} {p : Addr} {xs : List V} {i : Int} {v : V} (h : SqT K H p xs) (e : atI xs i = some v) (q : Q v H) : rIxT K (.ref p) (.int i) H Q := ⟨p, xs, i, v, rfl, rfl, h, e, q⟩
theorem i_setL {H : Hp} {p : Addr} {xs : List V} {i : Int} {j : Nat} {v : V} {Q : Hp → Prop} (h : H p = some (.lst xs)) (e : ixN xs.length i = some j) (q : Q (upd H p (.lst (xs.set j v)))) : rSetL (.ref p) (.int i) v H Q := ⟨p, xs, i, j, rfl, rfl, h, e, q⟩
theorem i_lst {H : Hp} {xs : List V} {Q : VK} (hl : xs.length ≤ sizeLine) (q : ∀ p, H p = none → Q (.ref p) (upd H p (.lst xs))) : xs.length ≤ sizeLine ∧ ∀ p, H p = none → Q (.ref p) (upd H p (.lst xs)) := ⟨hl, q⟩
/-- an item at a drawn place of a written list -/
theorem at_of {α : Type} {xs : List α} {i : Int} (h0 : 0 ≤ i) (h1 : i < xs.length) : ∃ v, atI xs i = some v ∧ v ∈ xs := by
  obtain ⟨j, rfl⟩ := Int.eq_ofNat_of_zero_le h0
  have hi : j < xs.length := by omega
  exact ⟨xs[j], atI_nat (List.getElem?_eq_getElem hi), List.getElem_mem hi⟩
theorem pow18 : CPow 10 18 := ⟨by decide, by decide, by decide⟩
theorem cm_r {i j : Int} (h : decide (-(2 ^ 64) < j) && decide (j < 2 ^ 64) = true) : CMul i j := by
  simp only [Bool.and_eq_true, decide_eq_true_eq] at h
  exact .inr h
theorem cm_l {i j : Int} (h : decide (-(2 ^ 64) < i) && decide (i < 2 ^ 64) = true) : CMul i j := by
  simp only [Bool.and_eq_true, decide_eq_true_eq] at h
  exact .inl h
theorem i_isi {K : PySem.W.Frag} {H : Hp} {Q : VK} {x : V} {t c : String} {b : Bool} (ty : TyX K H x (.type t)) (hk : kitB t c = some b) (q : Q (.bl b) H) : rIsi K [x, .ty c] H Q := ⟨x, .ty c, .type t, .type c, b, rfl, .ty c, ty, kit_ty hk, q⟩
theorem ty_int {K : PySem.W.Frag} {H : Hp} {i : Int} : TyX K H (.int i) (.type "int") := .base (.int _)
theorem ty_bl {K : PySem.W.Frag} {H : Hp} {i : Bool} : TyX K H (.bl i) (.type "bool") := .base (.bl _)
theorem ty_str {K : PySem.W.Frag} {H : Hp} {i : Str} : TyX K H (.str i) (.type "str") := .base (.str _)
theorem ty_non {K : PySem.W.Frag} {H : Hp} : TyX K H .non (.type "NoneType") := .base .non
theorem kb_ii : kitB "int" "int" = some true := by decide +kernel
theorem kb_bi : kitB "bool" "int" = some true := by decide +kernel
theorem kb_ib : kitB "int" "bool" = some false := by decide +kernel
theorem kb_bb : kitB "bool" "bool" = some true := by decide +kernel
theorem pow17 : CPow 10 17 := ⟨by decide, by decide, by decide⟩
/-- for over range(n) -/
def rForR (lo : Int) (n : Nat) (g : TG) (tb : TS) : TS := fun D σ H => ∃ W : Nat → Nat → L2.St → Hp → Prop, (∃ m, W 0 m σ H) ∧ ∀ i m σ H, W i m σ H →
  ((Itr lo n).stop i H ∧ D.nx σ H) ∨ ((Itr lo n).go i H ∧ ∃ Nx : L2.St → Hp → Prop, (∀ σ' H', Nx σ' H' → ∃ m', m' < m ∧ W (i + 1) m' σ' H') ∧ ∀ x H', (Itr lo n).yld i H x H' → g x σ H' fun σ2 H2 => tb { D with nx := Nx, ct := Nx, bk := D.nx } σ2 H2)
theorem i_forR1 {ta : TA} {g : TG} {tb : TS} {D : Ends} {σ : L2.St} {H : Hp} (h : ta σ H fun vs H1 => ∃ j : Int, vs = [.int j] ∧ -(2 ^ 62) ≤ j ∧ j < 2 ^ 62 ∧ rForR 0 j.toNat g tb D σ H1) : tFor (iRng1 ta) g tb D σ H := h
theorem i_forR2 {ta : TA} {g : TG} {tb : TS} {D : Ends} {σ : L2.St} {H : Hp} (h : ta σ H fun vs H1 => ∃ i j : Int, vs = [.int i, .int j] ∧ (-(2 ^ 62) ≤ i ∧ i < 2 ^ 62 ∧ -(2 ^ 62) ≤ j ∧ j < 2 ^ 62) ∧ rForR i (j - i).toNat g tb D σ H1) : tFor (iRng2 ta) g tb D σ H := h
theorem i_loopR {lo : Int} {n : Nat} {j : Nat} {tb : TS} {D : Ends} {σ : L2.St} {H : Hp} (Pv : Nat → L2.St → Hp → Prop) (h0 : Pv 0 σ H)
    (hs : ∀ (i : Nat) σ H, i < n → Pv i σ H → tb { D with nx := Pv (i + 1), ct := Pv (i + 1), bk := D.nx } (σ.set j (some (.int (lo + i)))) H) (hd : ∀ σ H, Pv n σ H → D.nx σ H) : rForR lo n (gName j) tb D σ H := for_range Pv h0 hs hd
theorem i_else {c A B : Prop} [Decidable c] (h : ¬ c) (b : B) : if c then A else B := by rw [if_neg h]; exact b
theorem i_then {c A B : Prop} [Decidable c] (h : c) (a : A) : if c then A else B := by rw [if_pos h]; exact a
/-- two ways that meet -/
theorem i_both {c A B T : Prop} [Decidable c] (t : T) (h1 : c → T → A) (h2 : ¬ c → T → B) : if c then A else B := ite2 (fun h => h1 h t) (fun h => h2 h t)
theorem ty_tup {K : PySem.W.Frag} {H : Hp} {p : Addr} {xs : List V} (h : H p = some (.tup xs)) : TyX K H (.ref p) (.type "tuple") := .base (.tup h)
theorem ty_lst {K : PySem.W.Frag} {H : Hp} {p : Addr} {xs : List V} (h : H p = some (.lst xs)) : TyX K H (.ref p) (.type "list") := .base (.lst h)
theorem kb_ni : kitB "NoneType" "int" = some false := by decide +kernel
theorem kb_si : kitB "str" "int" = some false := by decide +kernel
theorem kb_li : kitB "list" "int" = some false := by decide +kernel
theorem kb_ti : kitB "tuple" "int" = some false := by decide +kernel
theorem kb_di : kitB "dict" "int" = some false := by decide +kernel
/-! ### loops by what is walked -/
def rForJ (J : It) (g : TG) (tb : TS) : TS := fun D σ H => ∃ W : Nat → Nat → L2.St → Hp → Prop, (∃ m, W 0 m σ H) ∧ ∀ i m σ H, W i m σ H →
  (J.stop i H ∧ D.nx σ H) ∨ (J.go i H ∧ ∃ Nx : L2.St → Hp → Prop, (∀ σ' H', Nx σ' H' → ∃ m', m' < m ∧ W (i + 1) m' σ' H') ∧ ∀ x H', J.yld i H x H' → g x σ H' fun σ2 H2 => tb { D with nx := Nx, ct := Nx, bk := D.nx } σ2 H2)
theorem tFor_J {wi : TI} {g : TG} {tb : TS} {D : Ends} {σ : L2.St} {H : Hp} : tFor wi g tb D σ H = wi σ H fun J H1 => rForJ J g tb D σ H1 := rfl
def rLcJ (J : It) (g : TG) (tt : TT) (te : TE) (vs : List Nat) : TE := fun σ H1 Q => ∀ D, H1 D = none → ∃ W : Nat → Nat → Hp → Prop, (∃ m, W 0 m (upd H1 D (.lst []))) ∧ ∀ i m H, W i m H →
  (J.stop i H ∧ Q (.ref D) H) ∨ (J.go i H ∧ ∃ Nx : Hp → Prop, (∀ H', Nx H' → ∃ m', m' < m ∧ W (i + 1) m' H') ∧ ∀ x H', J.yld i H x H' → g x (wipe σ vs) H' fun σ2 H2 => wipe σ2 vs = wipe σ vs ∧ tt σ2 H2 fun b H3 =>
    if b = true then te σ2 H3 fun y H4 => ∃ acc, H4 D = some (.lst acc) ∧ acc.length < sizeLine ∧ Nx (upd H4 D (.lst (acc ++ [y]))) else Nx H3)
theorem tLc_J {wi : TI} {g : TG} {tt : TT} {te : TE} {vs : List Nat} {σ : L2.St} {H : Hp} {Q : VK} : tLc wi g tt te vs σ H Q = wi σ H fun J H1 => rLcJ J g tt te vs σ H1 Q := rfl
theorem i_for {J : It} {n : Nat} {G : Hp → Prop} {Y : Nat → Hp → V → Hp → Prop} (w : Walk J n G Y) {j : Nat} {tb : TS} {D : Ends} {σ : L2.St} {H : Hp} (Pv : Nat → L2.St → Hp → Prop) (h0 : Pv 0 σ H) (hG : ∀ i σ H, i ≤ n → Pv i σ H → G H)
    (hs : ∀ i x σ H H', i < n → Pv i σ H → Y i H x H' → tb { D with nx := Pv (i + 1), ct := Pv (i + 1), bk := D.nx } (σ.set j (some x)) H') (hd : ∀ σ H, Pv n σ H → D.nx σ H) : rForJ J (gName j) tb D σ H := for_it w Pv h0 hG hs hd
theorem wipe_one {σ : L2.St} {j : Nat} {x : V} : wipe ((wipe σ [j]).set j (some x)) [j] = wipe σ [j] := by
  show ((σ.set j none).set j (some x)).set j none = σ.set j none
  rw [List.set_set, List.set_set]
def YL {α : Type} (l : List α) (r : α → V) : Nat → Hp → V → Hp → Prop := fun i H v H' => H' = H ∧ ∃ c, l[i]? = some c ∧ v = r c
/-- [e for x in ..], e without an effect -/
theorem i_lcL {α : Type} {J : It} {l : List α} {r : α → V} {G : Hp → Prop} (w : Walk J l.length G (YL l r)) {j : Nat} {te : TE} {σ : L2.St} {H : Hp} {Q : VK} (g : α → V) (hn : l.length < sizeLine) (hG : ∀ D ys, H D = none → G (upd H D (.lst ys)))
    (hs : ∀ c ∈ l, ∀ H1 (Q' : VK), Same H H1 → Q' (g c) H1 → te ((wipe σ [j]).set j (some (r c))) H1 Q') (q : ∀ D, H D = none → Q (.ref D) (upd H D (.lst (l.map g)))) : rLcJ J (gName j) tYes te [j] σ H Q := by
  intro D hD
  refine lc_it w (fun i H' => H' = upd H D (.lst ((l.take i).map g))) rfl (fun i H' _ e => by subst e; exact hG D _ hD) (fun i x H1 H2 hi e y => ?_) (fun H' e => by subst e; rw [List.take_length]; exact q D hD)
  obtain ⟨e2, c, hc, rfl⟩ := y
  subst e2
  refine ⟨wipe_one, hs c (List.mem_of_getElem? hc) H2 (fun y H4 => ∃ acc, H4 D = some (.lst acc) ∧ acc.length < sizeLine ∧ upd H4 D (.lst (acc ++ [y])) = upd H D (.lst ((l.take (i + 1)).map g))) (by subst e; intro b o h; rw [upd_ne (ne_of_none h hD)]; exact h) ?_⟩
  subst e
  refine ⟨_, upd_same, by rw [List.length_map, List.length_take]; omega, ?_⟩
  rw [upd_upd, List.take_add_one, hc, List.map_append]; rfl
/-- for x in ..: if not p: return False -/
theorem i_forall {α : Type} {J : It} {l : List α} {r : α → V} {G : Hp → Prop} (w : Walk J l.length G (YL l r)) {j : Nat} {tb : TS} {D : Ends} {σ : L2.St} {H : Hp} (p : α → Bool) (v : V) (hG : G H)
    (hs : ∀ c ∈ l, ∀ D' : Ends, (p c = true → D'.nx (σ.set j (some (r c))) H) → (p c = false → D'.rt v H) → tb D' (σ.set j (some (r c))) H) (h1 : l.all p = true → D.nx σ H ∧ ∀ u, D.nx (σ.set j u) H) (h2 : l.all p = false → D.rt v H) : rForJ J (gName j) tb D σ H := by
  refine i_for w (fun i σ' H' => H' = H ∧ (σ' = σ ∨ ∃ u, σ' = σ.set j u) ∧ ∀ c ∈ l.take i, p c = true) ⟨rfl, .inl rfl, by simp⟩ (fun i σ' H' _ h => by rw [h.1]; exact hG) ?_ ?_
  · rintro i x σ' H' H2 hi ⟨rfl, hσ, hp⟩ ⟨rfl, c, hc, rfl⟩
    have hm := List.mem_of_getElem? hc
    have es : σ'.set j (some (r c)) = σ.set j (some (r c)) := by
      rcases hσ with rfl | ⟨u, rfl⟩
      · rfl
      · rw [List.set_set]
    rw [es]
    refine hs c hm _ (fun hpc => ⟨rfl, .inr ⟨_, rfl⟩, fun d hd => ?_⟩) (fun hpc => h2 ?_)
    · rw [List.take_add_one, hc] at hd
      rcases List.mem_append.mp hd with h | h
      · exact hp d h
      · rw [List.mem_singleton.mp h]; exact hpc
    · rw [List.all_eq_false]
      exact ⟨c, hm, by rw [hpc]; simp⟩
  · rintro σ' H' ⟨rfl, hσ, hp⟩
    rw [List.take_length] at hp
    have h := h1 (List.all_eq_true.mpr hp)
    rcases hσ with rfl | ⟨u, rfl⟩
    · exact h.1
    · exact h.2 u
/-- [e for x in ..], e draws from the bag at a -/
theorem i_lcD {J : It} {n : Nat} {G : Hp → Prop} {Y : Nat → Hp → V → Hp → Prop} (w : Walk J n G Y) {a : Addr} {j : Nat} {te : TE} {σ : L2.St} {H : Hp} {Q : VK} (hB : Bag H a) (P : V → Prop) (hn : n < sizeLine) (hG : ∀ H', Mv a H H' → G H') (hY : ∀ i H x H', Y i H x H' → H' = H)
    (hs : ∀ i x H1 (Q' : VK), i < n → Y i H1 x H1 → Mv a H H1 → (∀ y H2, P y → Mv a H1 H2 → Q' y H2) → te ((wipe σ [j]).set j (some x)) H1 Q') (q : ∀ D H' ys, H D = none → Mv a H H' → H' D = some (.lst ys) → ys.length = n → (∀ y ∈ ys, P y) → Q (.ref D) H') : rLcJ J (gName j) tYes te [j] σ H Q := by
  intro D hD
  have nD := bag_ne hB hD
  refine lc_it w (fun i H' => Mv a H H' ∧ ∃ ys, H' D = some (.lst ys) ∧ ys.length = i ∧ ∀ y ∈ ys, P y) ⟨(Mv.refl hB).new hD, [], upd_same, rfl, fun _ h => nomatch h⟩ (fun i H' _ e => hG H' e.1) (fun i x H1 H2 hi e y => ?_) (fun H' e => ?_)
  · have e2 := hY i H1 x H2 y
    subst e2
    obtain ⟨mv, ys, e1, e2, e3⟩ := e
    refine ⟨wipe_one, hs i x H2 (fun y H4 => ∃ acc, H4 D = some (.lst acc) ∧ acc.length < sizeLine ∧ (Mv a H (upd H4 D (.lst (acc ++ [y]))) ∧ ∃ ys, upd H4 D (.lst (acc ++ [y])) D = some (.lst ys) ∧ ys.length = i + 1 ∧ ∀ y ∈ ys, P y)) hi y mv fun v H3 hv mv3 => ?_⟩
    refine ⟨ys, mv3.old D _ nD e1, by omega, ?_⟩
    have m3 := mv.trans mv3
    refine ⟨⟨?_, fun b o hb e => ?_⟩, ys ++ [v], upd_same, by simp [e2], fun y hy => ?_⟩
    · obtain ⟨x1, x2, x3, hx⟩ := m3.bag
      exact ⟨x1, x2, x3, by rw [upd_ne nD.symm]; exact hx⟩
    · rw [upd_ne (ne_of_none e hD)]; exact m3.old b o hb e
    · rcases List.mem_append.mp hy with h | h
      · exact e3 y h
      · rw [List.mem_singleton.mp h]; exact hv
  · obtain ⟨mv, ys, e1, e2, e3⟩ := e
    exact q D H' ys hD mv e1 e2 e3
theorem rdCut {t u : TS} {D : Ends} {σ : L2.St} {H : Hp} (Mid : L2.St → Hp → Prop) (h : t { D with nx := Mid } σ H) (k : ∀ σ' H', Mid σ' H' → u D σ' H') : C8.tCut t u D σ H := ⟨Mid, h, k⟩
theorem pow9 : CPow 10 9 := ⟨by decide, by decide, by decide⟩
theorem pow8 : CPow 10 8 := ⟨by decide, by decide, by decide⟩
theorem pow12 : CPow 10 12 := ⟨by decide, by decide, by decide⟩
theorem walk_rangeL {lo : Int} {n : Nat} : Walk (Itr lo n) (List.range n).length (fun _ => True) (YL (List.range n) fun i => .int (lo + i)) := by
  rw [List.length_range]
  exact walk_range.mono (fun _ h => h) fun i H x H' hi _ y => ⟨y.1, i, by rw [List.getElem?_range hi], y.2⟩
theorem i_app {H : Hp} {l : Addr} {xs : List V} {v : V} {Q : VK} (h : H l = some (.lst xs)) (hz : xs.length < sizeLine) (q : Q .non (upd H l (.lst (xs ++ [v])))) : rAppend (.ref l) [v] H Q := ⟨l, xs, v, rfl, rfl, h, hz, q⟩
theorem ty_app {K : PySem.W.Frag} {H : Hp} {l : Addr} {xs : List V} (h : SqL K H l xs) : tyV K "list" (.ref l) H := .inl ⟨rfl, xs, h⟩
theorem i_slL {K : PySem.W.Frag} {H : Hp} {a : Addr} {xs : List V} {lo hi : Option Int} {Q : VK} (h : SqL K H a xs) (q : ∀ p, H p = none → Q (.ref p) (upd H p (.lst (cutV xs lo hi)))) : rSlL K (.ref a) lo hi H Q := ⟨a, xs, rfl, h, q⟩
theorem i_cat {H : Hp} {l b : Addr} {xs zs : List V} {Q : VK} (h1 : H l = some (.lst xs)) (h2 : H b = some (.lst zs)) (hz : xs.length + zs.length ≤ sizeLine) (q : ∀ p, H p = none → Q (.ref p) (upd H p (.lst (xs ++ zs)))) : rCat (.ref l) (.ref b) H Q := ⟨l, b, xs, zs, rfl, rfl, h1, h2, hz, q⟩
theorem i_inL {K : PySem.W.Frag} {neg : Bool} {x : V} {H : Hp} {p : Addr} {xs : List V} {Q : VK} (h : SqL K H p xs ∨ SqT K H p xs) (h1 : flatV x = true) (h2 : xs.all flatV = true) (q : Q (.bl (if neg then !inV x xs else inV x xs)) H) : rIn K neg x (.ref p) H Q := ⟨p, xs, rfl, h, h1, h2, q⟩
theorem cut_take {xs : List V} {n : Nat} : cutV xs none (some (n : Int)) = xs.take n := by
  unfold cutV
  rw [HT.sIx_none, HT.sIx_nat]
  simp only [List.drop_zero, Nat.sub_zero]
  rw [Nat.min_comm, ← List.take_take, List.take_of_length_le (by rw [List.length_take]; omega)]
theorem cut_drop {xs : List V} {n : Nat} : cutV xs (some (n : Int)) none = xs.drop n := by
  unfold cutV
  rw [HT.sIx_none, HT.sIx_nat]
  by_cases h : n ≤ xs.length
  · rw [Nat.min_eq_left h, List.take_of_length_le (by rw [List.length_drop]; omega)]
  · rw [Nat.min_eq_right (by omega), List.drop_of_length_le (by omega), List.drop_of_length_le (by omega)]; simp
theorem line5 {n : Nat} (h : n ≤ 100000) : n ≤ sizeLine := Nat.le_trans h (by decide)
theorem line5' {n : Nat} (h : n ≤ 100000) : n < sizeLine := Nat.lt_of_le_of_lt h (by decide)
/-! ### the same rules with the written part named (for a comprehension's block) -/
theorem ix_listK (K : PySem.W.Frag) {X : Cx} (h : X.K = K := by rfl) : IxR X (rIxL K) := h ▸ ix_list
theorem ix_tupK (K : PySem.W.Frag) {X : Cx} (h : X.K = K := by rfl) : IxR X (rIxT K) := h ▸ ix_tup
theorem sl_listK (K : PySem.W.Frag) {X : Cx} (h : X.K = K := by rfl) : SlR X (rSlL K) := h ▸ sl_list
theorem sl_tupK (K : PySem.W.Frag) {X : Cx} (h : X.K = K := by rfl) : SlR X (rSlT K) := h ▸ sl_tup
theorem lenLK (K : PySem.W.Frag) {X : Cx} (h : X.K = K := by rfl) : CallR X (.builtin "len") (rLenL K) := h ▸ call_lenL
theorem lenTK (K : PySem.W.Frag) {X : Cx} (h : X.K = K := by rfl) : CallR X (.builtin "len") (rLenT K) := h ▸ call_lenT
theorem isiK (K : PySem.W.Frag) {X : Cx} (h : X.K = K := by rfl) : CallR X (.builtin "isinstance") (rIsi K) := h ▸ call_isi
theorem isiTK (K : PySem.W.Frag) {X : Cx} (h : X.K = K := by rfl) : CallR X (.builtin "isinstance") (rIsiT K) := h ▸ call_isiT
theorem in_seqK (K : PySem.W.Frag) {X : Cx} (h : X.K = K := by rfl) : OpR X (compareOp .In) (rIn K false) := h ▸ op_in_seq
theorem notIn_seqK (K : PySem.W.Frag) {X : Cx} (h : X.K = K := by rfl) : OpR X (compareOp .NotIn) (rIn K true) := h ▸ op_notIn_seq
theorem i_indexS {K : PySem.W.Frag} {H : Hp} {Q : VK} {p : Addr} {l : List Str} {s : Str} {j : Nat} (h : SqL K H p (l.map V.str)) (hj : l[j]? = some s) (hn : s ∉ l.take j) (q : Q (.int (j : Nat)) H) : rIndex K (.ref p) [.str s] H Q := by
  refine ⟨p, _, .str s, j, .str s, rfl, rfl, h, rfl, ?_, by rw [List.getElem?_map, hj]; rfl, by simp [eqV], ?_, q⟩
  · rw [List.all_map, List.all_eq_true]; intro x _; rfl
  · intro m z hm hz
    rw [List.getElem?_map] at hz
    cases e : l[m]? with
    | none => rw [e] at hz; cases hz
    | some t =>
      rw [e] at hz
      have hz : V.str t = z := Option.some.inj hz
      subst hz
      show (t == s) = false
      rw [beq_eq_false_iff_ne]
      intro et; subst et
      exact hn (List.mem_of_getElem? (by rw [List.getElem?_take_of_lt hm]; exact e))
theorem walk_listL {K : PySem.W.Frag} {a : Addr} {α : Type} {l : List α} {r : α → V} : Walk (Itl K a) l.length (fun H => SqL K H a (l.map r)) (YL l r) := by
  have w := walk_list (K := K) (a := a) (xs := l.map r)
  rw [List.length_map] at w
  exact w.mono (fun _ h => h) fun i H x H' hi _ y => ⟨y.1, l[i], List.getElem?_eq_getElem hi, by
    have := y.2
    rw [List.getElem?_map, List.getElem?_eq_getElem hi] at this
    exact (Option.some.inj this).symm⟩
theorem walk_tupL {K : PySem.W.Frag} {a : Addr} {α : Type} {l : List α} {r : α → V} : Walk (Itt K a) l.length (fun H => SqT K H a (l.map r)) (YL l r) := by
  have w := walk_tup (K := K) (a := a) (xs := l.map r)
  rw [List.length_map] at w
  exact w.mono (fun _ h => h) fun i H x H' hi _ y => ⟨y.1, l[i], List.getElem?_eq_getElem hi, by
    have := y.2
    rw [List.getElem?_map, List.getElem?_eq_getElem hi] at this
    exact (Option.some.inj this).symm⟩
theorem dpStrs {K : PySem.W.Frag} {H : Hp} : ∀ l : List Str, DpAll K H (l.map V.str) (l.map PyData.str)
  | [] => .nil
  | x :: l => .cons (.str x) (dpStrs l)
theorem dpInts {K : PySem.W.Frag} {H : Hp} : ∀ l : List Int, DpAll K H (l.map V.int) (l.map PyData.int)
  | [] => .nil
  | x :: l => .cons (.int x) (dpInts l)
theorem kb_tt : kitB "tuple" "tuple" = some true := by decide +kernel

local macro_rules | `(tactic| walk_at "rd") => `(tactic| try simp only [L2.start, cxOf, tVar, tC, tOp, tUn, rI0, rI, rU, tCB, tCons, tNil, tAsg, gName, gSub, tDrop, tSub, tAdd, tMul, tCmp, t2I, tIsN, tNotN, tRet, rIntA, tDNewK, wipe, tFor_J, tLc_J, iRng1, iRng2, iList, iTup, iStr, tM1, tM0, tBM, tBM0, tSl, tPart, tNoPart, tLst, tTup, sizeLine_eq, Nat.reduceLeDiff, true_and, tIfS, tTest, tB, tAnd, tOr, tNot, tAndV, tOrV, tNotV, tChain, rEq, rNe, rNotB, rIsB, scal, tCall, tNext,  List.map, List.length, List.replicate, List.cons_append, List.nil_append, List.append_nil, List.getElem?_cons_zero, List.getElem?_cons_succ, List.set_cons_zero, List.set_cons_succ, Option.some.injEq, exists_eq_left', exists_eq_left, exists_eq', V.int.injEq, V.str.injEq, V.ref.injEq, V.bl.injEq, List.cons.injEq, and_true, true_and, and_assoc, exists_and_left, Int.reduceLT, Int.reduceNeg, Int.reduceLE, ↓reduceIte, Bool.false_eq_true, Bool.not_true, Bool.not_false, reduceCtorEq, false_and, and_false, exists_false, or_false, false_or, Nat.reduceAdd, Nat.reduceSub, decide_eq_true_eq, decide_true, decide_false])

def topS (i : Nat) : Stmt := PySem.Challenge.pw_warycard_k03_operations.main.body.getD i (.Pass ⟨0, 0, 0, 0⟩)
abbrev s_wrap : Stmt := topS 3
theorem sc_wrap : FnScope ["number"] ["number"] (defScope s_wrap) := ⟨rfl, rfl, rfl, by decide +kernel, rfl, by decide +kernel, by decide +kernel⟩
abbrev s_divided : Stmt := topS 4
theorem sc_divided : FnScope ["left", "right", "size"] ["left", "right"] (defScope s_divided) := ⟨rfl, rfl, rfl, by decide +kernel, rfl, by decide +kernel, by decide +kernel⟩
abbrev s_arithmetic : Stmt := topS 5
theorem sc_arithmetic : FnScope ["sign", "left", "right"] ["sign", "left", "right"] (defScope s_arithmetic) := ⟨rfl, rfl, rfl, by decide +kernel, rfl, by decide +kernel, by decide +kernel⟩
abbrev s_compared : Stmt := topS 6
theorem sc_compared : FnScope ["sign", "left", "right"] ["sign", "left", "right"] (defScope s_compared) := ⟨rfl, rfl, rfl, by decide +kernel, rfl, by decide +kernel, by decide +kernel⟩
abbrev s_op : Stmt := topS 7
theorem sc_op : FnScope ["sign", "left", "right", "quotient"] ["sign", "left", "right"] (defScope s_op) := ⟨rfl, rfl, rfl, by decide +kernel, rfl, by decide +kernel, by decide +kernel⟩
abbrev s_law_bag : Stmt := topS 9
theorem sc_law_bag : FnScope ["_law_script", "_law_k", "_law_cell"] ["_law_script", "_law_k"] (defScope s_law_bag) := ⟨rfl, rfl, rfl, by decide +kernel, rfl, by decide +kernel, by decide +kernel⟩
abbrev s_law_draw : Stmt := topS 10
theorem sc_law_draw : FnScope ["_law_bag_here", "_law_many", "_law_seed", "_law_rest"] ["_law_bag_here", "_law_many"] (defScope s_law_draw) := ⟨rfl, rfl, rfl, by decide +kernel, rfl, by decide +kernel, by decide +kernel⟩
abbrev s_law_word : Stmt := topS 11
theorem sc_law_word : FnScope ["_law_bag_here", "_law_other", "_law_pick"] ["_law_bag_here", "_law_other"] (defScope s_law_word) := ⟨rfl, rfl, rfl, by decide +kernel, rfl, by decide +kernel, by decide +kernel⟩
abbrev s_law_bits : Stmt := topS 12
theorem sc_law_bits : FnScope ["_law_word_here", "_law_rest", "_law_bits_here", "_law_k"] ["_law_word_here"] (defScope s_law_bits) := ⟨rfl, rfl, rfl, by decide +kernel, rfl, by decide +kernel, by decide +kernel⟩
abbrev s_law_value : Stmt := topS 13
theorem sc_law_value : FnScope ["_law_bits_here", "_law_total", "_law_k"] ["_law_bits_here"] (defScope s_law_value) := ⟨rfl, rfl, rfl, by decide +kernel, rfl, by decide +kernel, by decide +kernel⟩
abbrev s_law_sum : Stmt := topS 14
theorem sc_law_sum : FnScope ["_law_one", "_law_two", "_law_carry", "_law_bits_here", "_law_k", "_law_total"] ["_law_one", "_law_two", "_law_carry"] (defScope s_law_sum) := ⟨rfl, rfl, rfl, by decide +kernel, rfl, by decide +kernel, by decide +kernel⟩
abbrev s_law_product : Stmt := topS 15
theorem sc_law_product : FnScope ["_law_one", "_law_two", "_law_k", "_law_total", "_law_j"] ["_law_one", "_law_two"] (defScope s_law_product) := ⟨rfl, rfl, rfl, by decide +kernel, rfl, by decide +kernel, by decide +kernel⟩
abbrev s_law_quotient : Stmt := topS 16
theorem sc_law_quotient : FnScope ["_law_left", "_law_right", "_law_rest", "_law_size", "_law_quotient_here", "_law_k", "_law_step"] ["_law_left", "_law_right"] (defScope s_law_quotient) := ⟨rfl, rfl, rfl, by decide +kernel, rfl, by decide +kernel, by decide +kernel⟩
abbrev s_law_bitwise : Stmt := topS 17
theorem sc_law_bitwise : FnScope ["_law_sign", "_law_one", "_law_two", "_law_k"] ["_law_sign", "_law_one", "_law_two"] (defScope s_law_bitwise) := ⟨rfl, rfl, rfl, by decide +kernel, rfl, by decide +kernel, by decide +kernel⟩
abbrev s_law_shifted : Stmt := topS 18
theorem sc_law_shifted : FnScope ["_law_sign", "_law_one", "_law_two", "_law_many", "_law_k"] ["_law_sign", "_law_one", "_law_two"] (defScope s_law_shifted) := ⟨rfl, rfl, rfl, by decide +kernel, rfl, by decide +kernel, by decide +kernel⟩
abbrev s_law_compared : Stmt := topS 19
theorem sc_law_compared : FnScope ["_law_sign", "_law_left", "_law_right", "_law_holds", "_law_signs"] ["_law_sign", "_law_left", "_law_right"] (defScope s_law_compared) := ⟨rfl, rfl, rfl, by decide +kernel, rfl, by decide +kernel, by decide +kernel⟩
abbrev s_law_expected : Stmt := topS 20
theorem sc_law_expected : FnScope ["_law_sign", "_law_left", "_law_right", "_law_one", "_law_two", "_law_pair", "_law_bit"] ["_law_sign", "_law_left", "_law_right"] (defScope s_law_expected) := ⟨rfl, rfl, rfl, by decide +kernel, rfl, by decide +kernel, by decide +kernel⟩
abbrev s_law : Stmt := topS 21
theorem sc_law : FnScope ["_law_script", "_law_signs", "_law_k", "_law_bag_here", "_law_sign", "_law_left", "_law_right", "_law_actual", "_law_expected_here"] ["_law_script"] (defScope s_law) := ⟨rfl, rfl, rfl, by decide +kernel, rfl, by decide +kernel, by decide +kernel⟩
/-- what the top has left -/
structure Txt (K : PySem.W.Frag) (mg : Str → Option Value) where
  f_wrap : Addr
  d_wrap : FuncData
  k_wrap : Fun K "wrap" "wrap" s_wrap f_wrap d_wrap
  b_wrap : Binds K d_wrap ["number"] []
  g_wrap : mg "wrap" = some (.ref f_wrap)
  f_divided : Addr
  d_divided : FuncData
  k_divided : Fun K "divided" "divided" s_divided f_divided d_divided
  b_divided : Binds K d_divided ["left", "right"] []
  g_divided : mg "divided" = some (.ref f_divided)
  f_arithmetic : Addr
  d_arithmetic : FuncData
  k_arithmetic : Fun K "arithmetic" "arithmetic" s_arithmetic f_arithmetic d_arithmetic
  b_arithmetic : Binds K d_arithmetic ["sign", "left", "right"] []
  g_arithmetic : mg "arithmetic" = some (.ref f_arithmetic)
  f_compared : Addr
  d_compared : FuncData
  k_compared : Fun K "compared" "compared" s_compared f_compared d_compared
  b_compared : Binds K d_compared ["sign", "left", "right"] []
  g_compared : mg "compared" = some (.ref f_compared)
  f_op : Addr
  d_op : FuncData
  k_op : Fun K "op" "op" s_op f_op d_op
  b_op : Binds K d_op ["sign", "left", "right"] []
  g_op : mg "op" = some (.ref f_op)
  f_law_bag : Addr
  d_law_bag : FuncData
  k_law_bag : Fun K "_law_bag" "_law_bag" s_law_bag f_law_bag d_law_bag
  b_law_bag : Binds K d_law_bag ["_law_script", "_law_k"] []
  g_law_bag : mg "_law_bag" = some (.ref f_law_bag)
  f_law_draw : Addr
  d_law_draw : FuncData
  k_law_draw : Fun K "_law_draw" "_law_draw" s_law_draw f_law_draw d_law_draw
  b_law_draw : Binds K d_law_draw ["_law_bag_here", "_law_many"] []
  g_law_draw : mg "_law_draw" = some (.ref f_law_draw)
  f_law_word : Addr
  d_law_word : FuncData
  k_law_word : Fun K "_law_word" "_law_word" s_law_word f_law_word d_law_word
  b_law_word : Binds K d_law_word ["_law_bag_here", "_law_other"] []
  g_law_word : mg "_law_word" = some (.ref f_law_word)
  f_law_bits : Addr
  d_law_bits : FuncData
  k_law_bits : Fun K "_law_bits" "_law_bits" s_law_bits f_law_bits d_law_bits
  b_law_bits : Binds K d_law_bits ["_law_word_here"] []
  g_law_bits : mg "_law_bits" = some (.ref f_law_bits)
  f_law_value : Addr
  d_law_value : FuncData
  k_law_value : Fun K "_law_value" "_law_value" s_law_value f_law_value d_law_value
  b_law_value : Binds K d_law_value ["_law_bits_here"] []
  g_law_value : mg "_law_value" = some (.ref f_law_value)
  f_law_sum : Addr
  d_law_sum : FuncData
  k_law_sum : Fun K "_law_sum" "_law_sum" s_law_sum f_law_sum d_law_sum
  b_law_sum : Binds K d_law_sum ["_law_one", "_law_two", "_law_carry"] []
  g_law_sum : mg "_law_sum" = some (.ref f_law_sum)
  f_law_product : Addr
  d_law_product : FuncData
  k_law_product : Fun K "_law_product" "_law_product" s_law_product f_law_product d_law_product
  b_law_product : Binds K d_law_product ["_law_one", "_law_two"] []
  g_law_product : mg "_law_product" = some (.ref f_law_product)
  f_law_quotient : Addr
  d_law_quotient : FuncData
  k_law_quotient : Fun K "_law_quotient" "_law_quotient" s_law_quotient f_law_quotient d_law_quotient
  b_law_quotient : Binds K d_law_quotient ["_law_left", "_law_right"] []
  g_law_quotient : mg "_law_quotient" = some (.ref f_law_quotient)
  f_law_bitwise : Addr
  d_law_bitwise : FuncData
  k_law_bitwise : Fun K "_law_bitwise" "_law_bitwise" s_law_bitwise f_law_bitwise d_law_bitwise
  b_law_bitwise : Binds K d_law_bitwise ["_law_sign", "_law_one", "_law_two"] []
  g_law_bitwise : mg "_law_bitwise" = some (.ref f_law_bitwise)
  f_law_shifted : Addr
  d_law_shifted : FuncData
  k_law_shifted : Fun K "_law_shifted" "_law_shifted" s_law_shifted f_law_shifted d_law_shifted
  b_law_shifted : Binds K d_law_shifted ["_law_sign", "_law_one", "_law_two"] []
  g_law_shifted : mg "_law_shifted" = some (.ref f_law_shifted)
  f_law_compared : Addr
  d_law_compared : FuncData
  k_law_compared : Fun K "_law_compared" "_law_compared" s_law_compared f_law_compared d_law_compared
  b_law_compared : Binds K d_law_compared ["_law_sign", "_law_left", "_law_right"] []
  g_law_compared : mg "_law_compared" = some (.ref f_law_compared)
  f_law_expected : Addr
  d_law_expected : FuncData
  k_law_expected : Fun K "_law_expected" "_law_expected" s_law_expected f_law_expected d_law_expected
  b_law_expected : Binds K d_law_expected ["_law_sign", "_law_left", "_law_right"] []
  g_law_expected : mg "_law_expected" = some (.ref f_law_expected)
  f_law : Addr
  d_law : FuncData
  k_law : Fun K "law" "law" s_law f_law d_law
  b_law : Binds K d_law ["_law_script"] []
  g_law : mg "law" = some (.ref f_law)
  m_abs : mg "abs" = none
  m_bool : mg "bool" = none
  m_int : mg "int" = none
  m_isinstance : mg "isinstance" = none
  m_len : mg "len" = none
  m_list : mg "list" = none
  m_max : mg "max" = none
  m_min : mg "min" = none
  m_range : mg "range" = none
  m_tuple : mg "tuple" = none
  a_SIGNS : Addr
  g_SIGNS : mg "SIGNS" = some (.ref a_SIGNS)
  s_SIGNS : ∀ H, SqT K H a_SIGNS [.str "+", .str "-", .str "*", .str "/", .str "mod", .str "&", .str "|", .str "^", .str "<<", .str ">>", .str "==", .str "!=", .str "<", .str "<=", .str ">", .str ">="]
  y_SIGNS : ∃ o, K.lookup a_SIGNS = some o ∧ o.cls = .type "tuple"
  t_LEAST : Tok
  g_LEAST : mg "LEAST" = some (.int (-32768) t_LEAST)
/-! ### bits of integers, lowest first -/
def bitsL : Nat → Int → List Int
  | 0, _ => []
  | n + 1, x => x % 2 :: bitsL n (x / 2)
def sumL : List Int → List Int → Int → List Int
  | a :: xs, b :: ys, c => (a + b + c) % 2 :: sumL xs ys ((a + b + c) / 2)
  | _, _, _ => []
def valL : Nat → List Int → Int
  | _, [] => 0
  | 0, b :: _ => -b
  | n + 1, b :: r => b + 2 * valL n r
theorem bitsL_length : ∀ (n : Nat) (x : Int), (bitsL n x).length = n
  | 0, _ => rfl
  | n + 1, x => by rw [bitsL, List.length_cons, bitsL_length n]
theorem bitsL_01 : ∀ (n : Nat) (x : Int), ∀ b ∈ bitsL n x, b = 0 ∨ b = 1
  | 0, _, b, h => nomatch h
  | n + 1, x, b, h => by
    rw [bitsL] at h
    rcases List.mem_cons.mp h with rfl | h
    · omega
    · exact bitsL_01 n _ b h
theorem bitsL_sum : ∀ (n : Nat) (x y c : Int), sumL (bitsL n x) (bitsL n y) c = bitsL n (x + y + c)
  | 0, _, _, _ => rfl
  | n + 1, x, y, c => by
    rw [bitsL, bitsL, sumL, bitsL_sum n, bitsL]
    congr 1
    · omega
    · congr 1; omega
theorem bitsL_mod : ∀ (n : Nat) (x y k : Int), x = y + 2 ^ n * k → bitsL n x = bitsL n y
  | 0, _, _, _, _ => rfl
  | n + 1, x, y, k, h => by
    have e : (2 : Int) ^ (n + 1) * k = 2 * (2 ^ n * k) := by rw [Int.pow_succ]; simp only [Int.mul_assoc, Int.mul_comm, Int.mul_left_comm]
    rw [e] at h
    rw [bitsL, bitsL, bitsL_mod n (x / 2) (y / 2) k (by omega)]
    congr 1; omega
theorem bitsL_neg (x : Int) : bitsL 16 (x + 65536) = bitsL 16 x := bitsL_mod 16 _ _ 1 (by omega)
theorem bitsL_val : ∀ (n : Nat) (x : Int), valL n (bitsL (n + 1) x) = (x + 2 ^ n) % 2 ^ (n + 1) - 2 ^ n
  | 0, x => by
    show -(x % 2) = (x + 1) % 2 - 1
    omega
  | n + 1, x => by
    rw [bitsL]
    show x % 2 + 2 * valL n (bitsL (n + 1) (x / 2)) = _
    rw [bitsL_val n]
    have e1 : (2 : Int) ^ (n + 1) = 2 * 2 ^ n := by rw [Int.pow_succ, Int.mul_comm]
    have e2 : (2 : Int) ^ (n + 1 + 1) = 2 * 2 ^ (n + 1) := by rw [Int.pow_succ, Int.mul_comm]
    have hp : (0 : Int) < 2 ^ n := Int.pow_pos (by decide)
    have hm : ∀ (u v m : Int), 0 < m → u = 2 * v + (u % 2) → u % (2 * m) = 2 * (v % m) + u % 2 := by
      intro u v m hm hu
      have h1 := Int.emod_nonneg v (show m ≠ 0 by omega)
      have h2 := Int.emod_lt_of_pos v hm
      have h3 := Int.mul_ediv_add_emod v m
      have h4 : u = (2 * (v % m) + u % 2) + (2 * m) * (v / m) := by
        have : (2 * m) * (v / m) = 2 * (m * (v / m)) := by rw [Int.mul_assoc]
        omega
      rw [h4, Int.add_mul_emod_self_left]
      rw [Int.emod_eq_of_lt (by omega) (by omega)]
      omega
    rw [e2, hm (x + 2 ^ (n + 1)) (x / 2 + 2 ^ n) (2 ^ (n + 1)) (by omega) (by omega)]
    omega
theorem bitsL_val16 (x : Int) : valL 15 (bitsL 16 x) = (x - -32768) % 65536 + -32768 := by
  rw [bitsL_val 15]
  have e1 : (2 : Int) ^ 15 = 32768 := by decide
  have e2 : (2 : Int) ^ (15 + 1) = 65536 := by decide
  rw [e1, e2]
  have : x - -32768 = x + 32768 := by omega
  rw [this]; omega
theorem bitsL_take : ∀ (n m : Nat) (x : Int), (bitsL (n + m) x).take n = bitsL n x
  | 0, _, _ => rfl
  | n + 1, m, x => by
    rw [show n + 1 + m = (n + m) + 1 by omega, bitsL, List.take_succ_cons, bitsL_take n m, bitsL]
theorem bitsL_shl : ∀ (d n : Nat) (x : Int), List.replicate d (0 : Int) ++ bitsL n x = bitsL (d + n) (x * 2 ^ d)
  | 0, n, x => by simp
  | d + 1, n, x => by
    rw [List.replicate_succ, List.cons_append, bitsL_shl d n x, show d + 1 + n = (d + n) + 1 by omega, bitsL]
    have e : x * 2 ^ (d + 1) = 2 * (x * 2 ^ d) := by rw [Int.pow_succ]; simp only [Int.mul_assoc, Int.mul_comm, Int.mul_left_comm]
    rw [e]
    congr 1
    · omega
    · congr 1; omega
theorem bitsL_drop : ∀ (d n : Nat) (x : Int), (bitsL (d + n) x).drop d = bitsL n (x / 2 ^ d)
  | 0, n, x => by simp
  | d + 1, n, x => by
    rw [show d + 1 + n = (d + n) + 1 by omega, bitsL, List.drop_succ_cons, bitsL_drop d n]
    congr 1
    rw [Int.pow_succ, Int.mul_comm, Int.ediv_ediv_of_nonneg (by decide)]
theorem bitsL_append : ∀ (n m : Nat) (x : Int), bitsL (n + m) x = bitsL n x ++ bitsL m (x / 2 ^ n)
  | 0, m, x => by simp [bitsL]
  | n + 1, m, x => by
    rw [show n + 1 + m = (n + m) + 1 by omega, bitsL, bitsL_append n m, bitsL, List.cons_append]
    congr 2
    rw [Int.pow_succ, Int.mul_comm, Int.ediv_ediv_of_nonneg (by decide)]
theorem bitsL_neg1 : ∀ n : Nat, bitsL n (-1) = List.replicate n 1
  | 0 => rfl
  | n + 1 => by rw [bitsL, List.replicate_succ]; exact congrArg (List.cons 1) (bitsL_neg1 n)
theorem bitsL_zero : ∀ n : Nat, bitsL n 0 = List.replicate n 0
  | 0 => rfl
  | n + 1 => by rw [bitsL, List.replicate_succ]; exact congrArg (List.cons 0) (bitsL_zero n)
theorem bitsL_get : ∀ (n i : Nat) (x : Int), i < n → (bitsL n x)[i]? = some ((x / 2 ^ i) % 2)
  | n + 1, 0, x, _ => by rw [bitsL]; simp
  | n + 1, i + 1, x, h => by
    rw [bitsL, List.getElem?_cons_succ, bitsL_get n i _ (by omega), Int.pow_succ, Int.mul_comm, Int.ediv_ediv_of_nonneg (by decide)]
  | 0, _, _, h => absurd h (by omega)
theorem wbit15 {x : Int} (h0 : -32768 ≤ x) (h1 : x ≤ 32767) : (x / 32768) % 2 = if x < 0 then 1 else 0 := by
  split <;> omega
/-- one[d:] + [one[15]] * d -/
theorem bitsL_shr {x : Int} (h0 : -32768 ≤ x) (h1 : x ≤ 32767) {d : Nat} (hd : d ≤ 15) : (bitsL 16 x).drop d ++ List.replicate d ((x / 32768) % 2) = bitsL 16 (x / 2 ^ d) := by
  have e1 : (bitsL 16 x).drop d = bitsL (16 - d) (x / 2 ^ d) := by
    have := bitsL_drop d (16 - d) x
    rw [show d + (16 - d) = 16 by omega] at this
    exact this
  have e2 : bitsL 16 (x / 2 ^ d) = bitsL (16 - d) (x / 2 ^ d) ++ bitsL d (x / 2 ^ d / 2 ^ (16 - d)) := by
    have := bitsL_append (16 - d) d (x / 2 ^ d)
    rw [show 16 - d + d = 16 by omega] at this
    exact this
  rw [e1, e2]
  congr 1
  have e3 : x / 2 ^ d / 2 ^ (16 - d) = x / 65536 := by
    rw [Int.ediv_ediv_of_nonneg (Int.le_of_lt (Int.pow_pos (by decide))), ← Int.pow_add, show d + (16 - d) = 16 by omega]
    rfl
  rw [e3, wbit15 h0 h1]
  by_cases h : x < 0
  · rw [if_pos h, show x / 65536 = -1 by omega, bitsL_neg1]
  · rw [if_neg h, show x / 65536 = 0 by omega, bitsL_zero]

/-! ### and, or, exclusive or, bit by bit -/
theorem nand_div (a b : Nat) : (a &&& b) / 2 = (a / 2) &&& (b / 2) := Nat.eq_of_testBit_eq fun i => by
  rw [← Nat.testBit_succ, Nat.testBit_and, Nat.testBit_and, Nat.testBit_succ, Nat.testBit_succ]
theorem nand_mod (a b : Nat) : (a &&& b) % 2 = (a % 2) * (b % 2) := by
  have h : ((a &&& b) % 2 = 1) ↔ (a % 2 = 1 ∧ b % 2 = 1) := by
    have e := Nat.testBit_and a b 0
    rw [Nat.testBit_zero, Nat.testBit_zero, Nat.testBit_zero] at e
    constructor
    · intro h
      rw [decide_eq_true h] at e
      have := e.symm
      simp only [Bool.and_eq_true, decide_eq_true_eq] at this
      exact this
    · rintro ⟨h1, h2⟩
      rw [decide_eq_true h1, decide_eq_true h2] at e
      exact of_decide_eq_true e
  rcases Nat.mod_two_eq_zero_or_one a with ha | ha <;> rcases Nat.mod_two_eq_zero_or_one b with hb | hb <;> rw [ha, hb] at h ⊢ <;> omega
theorem nor_div (a b : Nat) : (a ||| b) / 2 = (a / 2) ||| (b / 2) := Nat.eq_of_testBit_eq fun i => by
  rw [← Nat.testBit_succ, Nat.testBit_or, Nat.testBit_or, Nat.testBit_succ, Nat.testBit_succ]
theorem nor_mod (a b : Nat) : (a ||| b) % 2 = (a % 2) + (b % 2) - (a % 2) * (b % 2) := by
  have h : ((a ||| b) % 2 = 1) ↔ (a % 2 = 1 ∨ b % 2 = 1) := by
    have e := Nat.testBit_or a b 0
    rw [Nat.testBit_zero, Nat.testBit_zero, Nat.testBit_zero] at e
    constructor
    · intro h
      rw [decide_eq_true h] at e
      have := e.symm
      simp only [Bool.or_eq_true, decide_eq_true_eq] at this
      exact this
    · intro h
      have : (decide (a % 2 = 1) || decide (b % 2 = 1)) = true := by simpa using h
      rw [this] at e
      exact of_decide_eq_true e
  rcases Nat.mod_two_eq_zero_or_one a with ha | ha <;> rcases Nat.mod_two_eq_zero_or_one b with hb | hb <;> rw [ha, hb] at h ⊢ <;> omega
theorem bnot_div (x : Int) : Builtin.bitNot x / 2 = Builtin.bitNot (x / 2) := by unfold Builtin.bitNot; omega
theorem bnot_mod (x : Int) : Builtin.bitNot x % 2 = 1 - x % 2 := by unfold Builtin.bitNot; omega
theorem band_pp {x y : Int} (hx : 0 ≤ x) (hy : 0 ≤ y) : Builtin.bitAnd x y = ((x.toNat &&& y.toNat : Nat) : Int) := by unfold Builtin.bitAnd; rw [decide_eq_true hx, decide_eq_true hy]
theorem band_pn {x y : Int} (hx : 0 ≤ x) (hy : ¬ 0 ≤ y) : Builtin.bitAnd x y = x - ((x.toNat &&& (Builtin.bitNot y).toNat : Nat) : Int) := by unfold Builtin.bitAnd; rw [decide_eq_true hx, decide_eq_false hy]
theorem band_np {x y : Int} (hx : ¬ 0 ≤ x) (hy : 0 ≤ y) : Builtin.bitAnd x y = y - ((y.toNat &&& (Builtin.bitNot x).toNat : Nat) : Int) := by unfold Builtin.bitAnd; rw [decide_eq_false hx, decide_eq_true hy]
theorem band_nn {x y : Int} (hx : ¬ 0 ≤ x) (hy : ¬ 0 ≤ y) : Builtin.bitAnd x y = Builtin.bitNot (((Builtin.bitNot x).toNat ||| (Builtin.bitNot y).toNat : Nat) : Int) := by unfold Builtin.bitAnd; rw [decide_eq_false hx, decide_eq_false hy]
theorem toNat_div (x : Int) : (x / 2).toNat = x.toNat / 2 := by omega
theorem bnot_toNat_div (x : Int) : (Builtin.bitNot (x / 2)).toNat = (Builtin.bitNot x).toNat / 2 := by rw [← bnot_div, toNat_div]
theorem m01 (a : Int) : a % 2 = 0 ∨ a % 2 = 1 := by omega
theorem band_div (x y : Int) : Builtin.bitAnd x y / 2 = Builtin.bitAnd (x / 2) (y / 2) := by
  by_cases hx : 0 ≤ x <;> by_cases hy : 0 ≤ y
  · rw [band_pp hx hy, band_pp (by omega) (by omega), toNat_div, toNat_div, ← nand_div]; omega
  · rw [band_pn hx hy, band_pn (by omega) (by omega), toNat_div, bnot_toNat_div, ← nand_div]
    have h1 := nand_mod x.toNat (Builtin.bitNot y).toNat
    have h2 : x.toNat % 2 = 0 ∨ x.toNat % 2 = 1 := by omega
    rcases h2 with h2 | h2
    · rw [h2, Nat.zero_mul] at h1; omega
    · rw [h2, Nat.one_mul] at h1; omega
  · rw [band_np hx hy, band_np (by omega) (by omega), toNat_div, bnot_toNat_div, ← nand_div]
    have h1 := nand_mod y.toNat (Builtin.bitNot x).toNat
    have h2 : y.toNat % 2 = 0 ∨ y.toNat % 2 = 1 := by omega
    rcases h2 with h2 | h2
    · rw [h2, Nat.zero_mul] at h1; omega
    · rw [h2, Nat.one_mul] at h1; omega
  · rw [band_nn hx hy, band_nn (by omega) (by omega), bnot_toNat_div, bnot_toNat_div, ← nor_div, bnot_div]
    congr 1
theorem band_mod (x y : Int) : Builtin.bitAnd x y % 2 = (x % 2) * (y % 2) := by
  by_cases hx : 0 ≤ x <;> by_cases hy : 0 ≤ y
  · rw [band_pp hx hy]
    have h1 := nand_mod x.toNat y.toNat
    have e1 : x % 2 = ((x.toNat % 2 : Nat) : Int) := by omega
    have e2 : y % 2 = ((y.toNat % 2 : Nat) : Int) := by omega
    rw [e1, e2, ← Int.natCast_mul, ← h1]; omega
  · rw [band_pn hx hy]
    have h1 := nand_mod x.toNat (Builtin.bitNot y).toNat
    have h3 : (Builtin.bitNot y).toNat % 2 = 1 - y.toNat % 2 - (y % 2).toNat := by unfold Builtin.bitNot; omega
    rcases m01 x with h | h <;> rcases m01 y with k | k <;> rw [h, k]
    · have : x.toNat % 2 = 0 := by omega
      rw [this, Nat.zero_mul] at h1; omega
    · have : x.toNat % 2 = 0 := by omega
      rw [this, Nat.zero_mul] at h1; omega
    · have e1 : x.toNat % 2 = 1 := by omega
      have e2 : (Builtin.bitNot y).toNat % 2 = 1 := by unfold Builtin.bitNot; omega
      rw [e1, e2] at h1; omega
    · have e1 : x.toNat % 2 = 1 := by omega
      have e2 : (Builtin.bitNot y).toNat % 2 = 0 := by unfold Builtin.bitNot; omega
      rw [e1, e2] at h1; omega
  · rw [band_np hx hy]
    have h1 := nand_mod y.toNat (Builtin.bitNot x).toNat
    rcases m01 x with h | h <;> rcases m01 y with k | k <;> rw [h, k]
    · have : y.toNat % 2 = 0 := by omega
      rw [this, Nat.zero_mul] at h1; omega
    · have e1 : y.toNat % 2 = 1 := by omega
      have e2 : (Builtin.bitNot x).toNat % 2 = 1 := by unfold Builtin.bitNot; omega
      rw [e1, e2] at h1; omega
    · have : y.toNat % 2 = 0 := by omega
      rw [this, Nat.zero_mul] at h1; omega
    · have e1 : y.toNat % 2 = 1 := by omega
      have e2 : (Builtin.bitNot x).toNat % 2 = 0 := by unfold Builtin.bitNot; omega
      rw [e1, e2] at h1; omega
  · rw [band_nn hx hy, bnot_mod]
    have h1 := nor_mod (Builtin.bitNot x).toNat (Builtin.bitNot y).toNat
    rcases m01 x with h | h <;> rcases m01 y with k | k <;> rw [h, k]
    · have e1 : (Builtin.bitNot x).toNat % 2 = 1 := by unfold Builtin.bitNot; omega
      have e2 : (Builtin.bitNot y).toNat % 2 = 1 := by unfold Builtin.bitNot; omega
      rw [e1, e2] at h1; omega
    · have e1 : (Builtin.bitNot x).toNat % 2 = 1 := by unfold Builtin.bitNot; omega
      have e2 : (Builtin.bitNot y).toNat % 2 = 0 := by unfold Builtin.bitNot; omega
      rw [e1, e2] at h1; omega
    · have e1 : (Builtin.bitNot x).toNat % 2 = 0 := by unfold Builtin.bitNot; omega
      have e2 : (Builtin.bitNot y).toNat % 2 = 1 := by unfold Builtin.bitNot; omega
      rw [e1, e2] at h1; omega
    · have e1 : (Builtin.bitNot x).toNat % 2 = 0 := by unfold Builtin.bitNot; omega
      have e2 : (Builtin.bitNot y).toNat % 2 = 0 := by unfold Builtin.bitNot; omega
      rw [e1, e2] at h1; omega
theorem bor_div (x y : Int) : Builtin.bitOr x y / 2 = Builtin.bitOr (x / 2) (y / 2) := by
  unfold Builtin.bitOr; rw [bnot_div, band_div, bnot_div, bnot_div]
theorem bor_mod (x y : Int) : Builtin.bitOr x y % 2 = x % 2 + y % 2 - (x % 2) * (y % 2) := by
  unfold Builtin.bitOr; rw [bnot_mod, band_mod, bnot_mod, bnot_mod]
  rcases m01 x with h | h <;> rcases m01 y with k | k <;> rw [h, k] <;> decide
theorem bxor_mod (x y : Int) : Builtin.bitXor x y % 2 = (x % 2 + y % 2) % 2 := by
  unfold Builtin.bitXor
  have h1 := bor_mod x y
  have h2 := band_mod x y
  rcases m01 x with h | h <;> rcases m01 y with k | k <;> rw [h, k] at h1 h2 ⊢ <;> omega
theorem bxor_div (x y : Int) : Builtin.bitXor x y / 2 = Builtin.bitXor (x / 2) (y / 2) := by
  unfold Builtin.bitXor
  rw [← bor_div, ← band_div]
  have h1 := bor_mod x y
  have h2 := band_mod x y
  rcases m01 x with h | h <;> rcases m01 y with k | k <;> rw [h, k] at h1 h2 <;> omega
theorem bits_op (f : Int → Int → Int) (g : Int → Int → Int) (hd : ∀ x y, f x y / 2 = f (x / 2) (y / 2)) (hm : ∀ x y, f x y % 2 = g (x % 2) (y % 2)) : ∀ (n : Nat) (x y : Int), bitsL n (f x y) = List.zipWith g (bitsL n x) (bitsL n y)
  | 0, _, _ => rfl
  | n + 1, x, y => by rw [bitsL, bitsL, bitsL, List.zipWith_cons_cons, hm, hd, bits_op f g hd hm n]

section
variable {P : Program} {w : World} {K : PySem.W.Frag} {mg : Str → Option Value} {base : Heap}
/-! ### the draws -/
def sp_law_bag (K : PySem.W.Frag) : Sp := fun vs H Q _ => ∃ (a : Addr) (ns : List Int) (k : Nat), vs = [.ref a, .int k] ∧ SqL K H a (ns.map V.int) ∧ ∀ (p : Addr) (H' : Hp), H p = none → Bag H' p → Same H H' → Q (.ref p) H'
theorem bag_new {H : Hp} {p : Addr} {x y z : Int} : Bag (upd H p (.lst [.int x, .int y, .int z])) p := ⟨x, y, z, upd_same⟩
theorem same_new {H : Hp} {p : Addr} {o : HO} (n : H p = none) : Same H (upd H p o) := fun b u e => by rw [upd_ne (ne_of_none e n)]; exact e
theorem ok_law_bag (T : Txt K mg) : FnOk P w K mg base CX0 1 T.f_law_bag T.d_law_bag ["_law_script", "_law_k"] (sp_law_bag K) := by
  refine T.k_law_bag.ok sc_law_bag (fun vs H Q E h => ?_) (fun cdv A outer s H vs Q E hr h => ?_)
  · obtain ⟨a, ns, k, rfl, _⟩ := h
    rfl
  · obtain ⟨a, ns, k, rfl, hS, q⟩ := h
    refine ⟨_, (pss_cons (ps_set (i := 2) sc_law_bag.nd rfl (.inl rfl) pe_int)
      (C8.pss_cut (ps_if (pt_cmpR op_lt (pv 1) (pe_callB (lenLK K) (by rfl) T.m_len (by decide +kernel) (pa_cons (pv 0) pa_nil)) (nomark _)) (pss_one (ps_set (i := 2) sc_law_bag.nd rfl (.inl rfl) (pe_callTy call_intI (by rfl) T.m_int (by decide +kernel) (pa_cons (pe_ix (ix_listK K) (pv 0) (pv 1) (fun _ _ => rfl)) pa_nil)))) pss_nil)
      (pss_cons (ps_if (pt_cmpR op_ge (pv 2) (pe_op op_pow pe_int pe_int) (nomark _)) (pss_one (ps_ret (pe_lst (pa_cons (pv 2) (pa_cons (pv 2) (pa_cons (pv 1) pa_nil)))))) pss_nil)
      (pss_one (ps_ret (pe_lst (pa_cons pe_int (pa_cons (pv 2) (pa_cons (pv 1) pa_nil))))))))), ?_⟩
    walk_at "rd"
    refine rdSeq ?_
    walk_at "rd"
    refine rdCut (fun σ H' => H' = H ∧ ∃ c : Int, σ = [some (V.ref a), some (V.int (k : Int)), some (V.int c)]) ?_ ?_
    · walk_at "rd"
      refine i_lenL hS ?_
      walk_at "rd"
      refine ite2 (fun hk => ?_) (fun _ => trivial)
      rw [List.length_map] at hk
      have hk : k < ns.length := by omega
      refine i_ixL hS (atI_nat (j := k) (by rw [List.getElem?_map, List.getElem?_eq_getElem hk]; rfl)) ?_
      walk_at "rd"
    · rintro σ H' ⟨rfl, c, rfl⟩
      refine rdSeq ?_
      walk_at "rd"
      refine ⟨pow18, ite2 (fun _ => ?_) (fun _ => ?_)⟩
      · exact fun p hp => q p _ hp bag_new (same_new hp)
      · walk_at "rd"
        exact fun p hp => q p _ hp bag_new (same_new hp)
def sp_law_draw (K : PySem.W.Frag) : Sp := fun vs H Q _ => ∃ (a : Addr) (m : Int), vs = [.ref a, .int m] ∧ Bag H a ∧ 0 < m ∧ m.natAbs < 2 ^ 200 ∧ ∀ (r : Int) (H' : Hp), 0 ≤ r → r < m → Mv a H H' → Q (.int r) H'
theorem mv_set {H : Hp} {a : Addr} {x y z : Int} : Mv a H (upd H a (.lst [.int x, .int y, .int z])) := ⟨bag_new, fun b o n e => by rw [upd_ne n]; exact e⟩
theorem draw_size {m : Int} (h0 : 0 < m) (h : m.natAbs < 2 ^ 200) : CDivW x m := wide_div h0 h (by decide) (by decide)
theorem ok_law_draw (T : Txt K mg) : FnOk P w K mg base CX0 1 T.f_law_draw T.d_law_draw ["_law_bag_here", "_law_many"] (sp_law_draw K) := by
  refine T.k_law_draw.ok sc_law_draw (fun vs H Q E h => ?_) (fun cdv A outer s H vs Q E hr h => ?_)
  · obtain ⟨a, m, rfl, _⟩ := h
    rfl
  · obtain ⟨a, m, rfl, ⟨x, y, z, hB⟩, hm, hm2, q⟩ := h
    refine ⟨_, (C8.pss_cut (ps_if (pt_cmpR op_eq (pe_ix (ix_listK K) (pv 0) pe_int (fun _ _ => rfl)) pe_int (nomark _)) (pss_cons (ps_set (i := 2) sc_law_draw.nd rfl (.inl rfl) (pe_op op_modP (pe_callTy call_intI (by rfl) T.m_int (by decide +kernel) (pa_cons (pe_op op_add (pe_op op_add (pe_op op_mul (pe_ix (ix_listK K) (pv 0) pe_int (fun _ _ => rfl)) pe_int) (pe_op op_mul (pe_ix (ix_listK K) (pv 0) pe_int (fun _ _ => rfl)) pe_int)) pe_int) pa_nil)) pe_int))
      (pss_cons (ps_asg (pe_op op_add (pe_op op_mul (pv 2) pe_int) (pe_op op_modP (pe_callTy call_intI (by rfl) T.m_int (by decide +kernel) (pa_cons (pe_op op_add (pe_op op_mul (pv 2) (pv 2)) (pe_op op_mul (pe_ix (ix_listK K) (pv 0) pe_int (fun _ _ => rfl)) pe_int)) pa_nil)) pe_int)) (pg_sub (pv 0) pe_int set_list))
      (pss_one (ps_asg (pv 2) (pg_sub (pv 0) pe_int set_list))))) pss_nil)
      (pss_cons (ps_set (i := 3) sc_law_draw.nd rfl (.inl rfl) (pe_ix (ix_listK K) (pv 0) pe_int (fun _ _ => rfl)))
      (pss_cons (ps_asg (pe_op op_fdivW (pv 3) (pv 1)) (pg_sub (pv 0) pe_int set_list))
      (pss_one (ps_ret (pe_op op_modP (pe_callTy call_intI (by rfl) T.m_int (by decide +kernel) (pa_cons (pv 3) pa_nil)) (pv 1))))))), ?_⟩
    refine rdCut (fun σ H' => ∃ (x1 y1 z1 : Int) (u : Option V), H' a = some (.lst [.int x1, .int y1, .int z1]) ∧ Mv a H H' ∧ σ = [some (V.ref a), some (V.int m), u, none]) ?_ ?_
    · walk_at "rd"
      refine i_ixL (sqL_of hB) (v := .int x) rfl ?_
      walk_at "rd"
      refine ite2 (fun _ => ?_) (fun _ => ⟨x, y, z, hB, Mv.refl ⟨x, y, z, hB⟩⟩)
      refine rdSeq ?_
      walk_at "rd"
      refine i_ixL (sqL_of hB) (v := .int y) rfl ?_
      walk_at "rd"
      refine ⟨cm_r (by decide), i_ixL (sqL_of hB) (v := .int z) rfl ?_⟩
      walk_at "rd"
      refine ⟨cm_r (by decide), ?_⟩
      have h0 := Int.emod_nonneg (y * 48271 + z * 69621 + 11) (show (2147483647 : Int) ≠ 0 by decide)
      have h1 := Int.emod_lt_of_pos (y * 48271 + z * 69621 + 11) (show (0 : Int) < 2147483647 by decide)
      generalize (y * 48271 + z * 69621 + 11) % 2147483647 = sd at h0 h1
      refine rdSeq ?_
      walk_at "rd"
      refine ⟨cm_r (by decide), .inl ⟨by omega, by omega⟩, i_ixL (sqL_of hB) (v := .int z) rfl ?_⟩
      walk_at "rd"
      refine ⟨cm_r (by decide), i_setL hB (j := 0) rfl ?_⟩
      walk_at "rd"
      refine i_setL upd_same (j := 1) rfl ?_
      walk_at "rd"
      rw [upd_upd]
      exact ⟨_, _, _, upd_same, mv_set⟩
    · rintro σ H1 ⟨x1, y1, z1, u, h1, mv, rfl⟩
      refine rdSeq ?_
      walk_at "rd"
      refine i_ixL (sqL_of h1) (v := .int x1) rfl ?_
      refine rdSeq ?_
      walk_at "rd"
      refine ⟨draw_size hm hm2, i_setL h1 (j := 0) rfl ?_⟩
      walk_at "rd"
      refine ⟨hm, q _ _ (Int.emod_nonneg _ (by omega)) (Int.emod_lt_of_pos _ hm) (mv.trans mv_set)⟩
theorem i_draw {K : PySem.W.Frag} {H0 H : Hp} {a : Addr} {m : Int} {Q : VK} {E : XK} (mv : Mv a H0 H) (hm : 0 < m) (hs : m.natAbs < 2 ^ 200) (q : ∀ (r : Int) (H' : Hp), 0 ≤ r → r < m → Mv a H H' → Mv a H0 H' → Q (.int r) H') : sp_law_draw K [.ref a, .int m] H Q E :=
  ⟨a, m, rfl, mv.bag, hm, hs, fun r H' h0 h1 mv' => q r H' h0 h1 mv' (mv.trans mv')⟩
theorem at_int {ns : List Int} {i : Int} (h0 : 0 ≤ i) (h1 : i < ns.length) : ∃ v, atI (ns.map V.int) i = some (.int v) ∧ v ∈ ns := by
  obtain ⟨j, rfl⟩ := Int.eq_ofNat_of_zero_le h0
  have hi : j < ns.length := by omega
  exact ⟨ns[j], atI_nat (by rw [List.getElem?_map, List.getElem?_eq_getElem hi]; rfl), List.getElem_mem hi⟩

def wrapI (n : Int) : Int := (n - -32768) % 65536 + -32768
def sp_wrap (K : PySem.W.Frag) : Sp := fun vs H Q _ => ∃ (n : Int), vs = [.int n] ∧ Q (.int (wrapI n)) H
theorem ok_wrap (T : Txt K mg) : FnOk P w K mg base CX0 1 T.f_wrap T.d_wrap ["number"] (sp_wrap K) := by
  refine T.k_wrap.ok sc_wrap (fun vs H Q E h => ?_) (fun cdv A outer s H vs Q E hr h => ?_)
  · obtain ⟨x, rfl, _⟩ := h
    rfl
  · obtain ⟨x, rfl, h⟩ := h
    refine ⟨_, (pss_one (ps_ret (pe_op op_add (pe_op op_modP (pe_op op_sub (pv 0) (pe_glob (v := .int _) rfl T.g_LEAST ⟨_, rfl⟩)) pe_int) (pe_glob (v := .int _) rfl T.g_LEAST ⟨_, rfl⟩)))), ?_⟩
    walk_at "rd"
    exact h


/-! ### words.py -/
def Wd (x : Int) : Prop := -32768 ≤ x ∧ x ≤ 32767
def absI (x : Int) : Int := if x < 0 then -x else x
def divI (l r : Int) : Int := if decide (l < 0) = decide (r < 0) then absI l / absI r else -(absI l / absI r)
def sp_divided (K : PySem.W.Frag) : Sp := fun vs H Q _ => ∃ (l r : Int), vs = [.int l, .int r] ∧ Wd r ∧ r ≠ 0 ∧ Q (.int (divI l r)) H
theorem ok_divided (T : Txt K mg) : FnOk P w K mg base CX0 1 T.f_divided T.d_divided ["left", "right"] (sp_divided K) := by
  refine T.k_divided.ok sc_divided (fun vs H Q E h => ?_) (fun cdv A outer s H vs Q E hr h => ?_)
  · obtain ⟨l, r, rfl, _⟩ := h
    rfl
  · obtain ⟨l, r, rfl, hw, h0, q⟩ := h
    refine ⟨_, (pss_cons (ps_set (i := 2) sc_divided.nd rfl (.inl rfl) (pe_op op_fdivW (pe_callB call_abs (by rfl) T.m_abs (by decide +kernel) (pa_cons (pv 0) pa_nil)) (pe_callB call_abs (by rfl) T.m_abs (by decide +kernel) (pa_cons (pv 1) pa_nil))))
      (pss_cons (ps_if (pt_cmpR op_ne (pe_cmpR op_lt (pv 0) pe_int (nomark _)) (pe_cmpR op_lt (pv 1) pe_int (nomark _)) (nomark _)) (pss_one (ps_ret (pe_un un_neg (pv 2)))) pss_nil)
      (pss_one (ps_ret (pv 2))))), ?_⟩
    walk_at "rd"
    refine rdSeq ?_
    walk_at "rd"
    have ha : (if l < 0 then -l else l) / (if r < 0 then -r else r) = absI l / absI r := rfl
    refine ⟨wide_div (b := 20) (by split <;> omega) (by unfold Wd at hw; split <;> omega) (by decide) (by decide), rdSeq ?_⟩
    walk_at "rd"
    rw [ha]
    unfold divI at q
    by_cases h : decide (l < 0) = decide (r < 0)
    · rw [if_pos h] at q
      exact i_else (by simp [h]) q
    · rw [if_neg h] at q
      exact i_then (by simpa using h) q
def arI (s : Str) (l r : Int) : Int :=
  if s = "+" then l + r else if s = "-" then l - r else if s = "*" then l * r else if s = "&" then Builtin.bitAnd l r else if s = "|" then Builtin.bitOr l r else if s = "^" then Builtin.bitXor l r
  else if s = "<<" then l * 2 ^ (Builtin.bitAnd r 15).toNat else l / 2 ^ (Builtin.bitAnd r 15).toNat
def sp_arithmetic (K : PySem.W.Frag) : Sp := fun vs H Q _ => ∃ (s : Str) (l r : Int), vs = [.str s, .int l, .int r] ∧ Wd l ∧ Q (.int (arI s l r)) H
theorem ok_arithmetic (T : Txt K mg) : FnOk P w K mg base CX0 1 T.f_arithmetic T.d_arithmetic ["sign", "left", "right"] (sp_arithmetic K) := by
  refine T.k_arithmetic.ok sc_arithmetic (fun vs H Q E h => ?_) (fun cdv A outer s H vs Q E hr h => ?_)
  · obtain ⟨s, l, r, rfl, _⟩ := h
    rfl
  · obtain ⟨s, l, r, rfl, hw, q⟩ := h
    refine ⟨_, (pss_cons (ps_if (pt_cmpR op_eq (pv 0) pe_str (nomark _)) (pss_one (ps_ret (pe_op op_add (pv 1) (pv 2)))) pss_nil)
      (pss_cons (ps_if (pt_cmpR op_eq (pv 0) pe_str (nomark _)) (pss_one (ps_ret (pe_op op_sub (pv 1) (pv 2)))) pss_nil)
      (pss_cons (ps_if (pt_cmpR op_eq (pv 0) pe_str (nomark _)) (pss_one (ps_ret (pe_op op_mul (pv 1) (pv 2)))) pss_nil)
      (pss_cons (ps_if (pt_cmpR op_eq (pv 0) pe_str (nomark _)) (pss_one (ps_ret (pe_op op_and (pv 1) (pv 2)))) pss_nil)
      (pss_cons (ps_if (pt_cmpR op_eq (pv 0) pe_str (nomark _)) (pss_one (ps_ret (pe_op op_or (pv 1) (pv 2)))) pss_nil)
      (pss_cons (ps_if (pt_cmpR op_eq (pv 0) pe_str (nomark _)) (pss_one (ps_ret (pe_op op_xor (pv 1) (pv 2)))) pss_nil)
      (pss_cons (ps_if (pt_cmpR op_eq (pv 0) pe_str (nomark _)) (pss_one (ps_ret (pe_op op_shl (pv 1) (pe_op op_and (pv 2) pe_int)))) pss_nil)
      (pss_one (ps_ret (pe_op op_shr (pv 1) (pe_op op_and (pv 2) pe_int))))))))))), ?_⟩
    walk_at "rd"
    refine rdSeq ?_
    walk_at "rd"
    unfold arI at q
    refine ite2 (fun h => ?_) (fun h => rdSeq ?_)
    · rw [if_pos h] at q; exact q
    rw [if_neg h] at q
    walk_at "rd"
    refine ite2 (fun h => ?_) (fun h => rdSeq ?_)
    · rw [if_pos h] at q; exact q
    rw [if_neg h] at q
    walk_at "rd"
    refine ite2 (fun h => ?_) (fun h => rdSeq ?_)
    · rw [if_pos h] at q; exact ⟨.inl ⟨by unfold Wd at hw; omega, by unfold Wd at hw; omega⟩, q⟩
    rw [if_neg h] at q
    walk_at "rd"
    refine ite2 (fun h => ?_) (fun h => rdSeq ?_)
    · rw [if_pos h] at q; exact q
    rw [if_neg h] at q
    walk_at "rd"
    refine ite2 (fun h => ?_) (fun h => rdSeq ?_)
    · rw [if_pos h] at q; exact q
    rw [if_neg h] at q
    walk_at "rd"
    refine ite2 (fun h => ?_) (fun h => rdSeq ?_)
    · rw [if_pos h] at q; exact q
    rw [if_neg h] at q
    walk_at "rd"
    have h15 := PyProof.Rows.bitAnd_range r (y := 15) (by decide)
    refine ite2 (fun h => ?_) (fun h => ?_)
    · rw [if_pos h] at q; exact ⟨⟨h15.1, by omega, by unfold Wd at hw; omega⟩, q⟩
    · rw [if_neg h] at q
      walk_at "rd"
      exact ⟨h15.1, q⟩
def cmpI (s : Str) (l r : Int) : Bool :=
  if s = "==" then decide (l = r) else if s = "!=" then !decide (l = r) else if s = "<" then decide (l < r) else if s = "<=" then decide (l ≤ r) else if s = ">" then decide (r < l) else decide (r ≤ l)
def sp_compared (K : PySem.W.Frag) : Sp := fun vs H Q _ => ∃ (s : Str) (l r : Int), vs = [.str s, .int l, .int r] ∧ Q (.bl (cmpI s l r)) H
theorem ok_compared (T : Txt K mg) : FnOk P w K mg base CX0 1 T.f_compared T.d_compared ["sign", "left", "right"] (sp_compared K) := by
  refine T.k_compared.ok sc_compared (fun vs H Q E h => ?_) (fun cdv A outer s H vs Q E hr h => ?_)
  · obtain ⟨s, l, r, rfl, _⟩ := h
    rfl
  · obtain ⟨s, l, r, rfl, q⟩ := h
    refine ⟨_, (pss_cons (ps_if (pt_cmpR op_eq (pv 0) pe_str (nomark _)) (pss_one (ps_ret (pe_cmpR op_eq (pv 1) (pv 2) (nomark _)))) pss_nil)
      (pss_cons (ps_if (pt_cmpR op_eq (pv 0) pe_str (nomark _)) (pss_one (ps_ret (pe_cmpR op_ne (pv 1) (pv 2) (nomark _)))) pss_nil)
      (pss_cons (ps_if (pt_cmpR op_eq (pv 0) pe_str (nomark _)) (pss_one (ps_ret (pe_cmpR op_lt (pv 1) (pv 2) (nomark _)))) pss_nil)
      (pss_cons (ps_if (pt_cmpR op_eq (pv 0) pe_str (nomark _)) (pss_one (ps_ret (pe_cmpR op_le (pv 1) (pv 2) (nomark _)))) pss_nil)
      (pss_cons (ps_if (pt_cmpR op_eq (pv 0) pe_str (nomark _)) (pss_one (ps_ret (pe_cmpR op_gt (pv 1) (pv 2) (nomark _)))) pss_nil)
      (pss_one (ps_ret (pe_cmpR op_ge (pv 1) (pv 2) (nomark _))))))))), ?_⟩
    walk_at "rd"
    refine rdSeq ?_
    walk_at "rd"
    unfold cmpI at q
    refine ite2 (fun h => ?_) (fun h => rdSeq ?_)
    · rw [if_pos h] at q; exact q
    rw [if_neg h] at q
    walk_at "rd"
    refine ite2 (fun h => ?_) (fun h => rdSeq ?_)
    · rw [if_pos h] at q; exact q
    rw [if_neg h] at q
    walk_at "rd"
    refine ite2 (fun h => ?_) (fun h => rdSeq ?_)
    · rw [if_pos h] at q; exact q
    rw [if_neg h] at q
    walk_at "rd"
    refine ite2 (fun h => ?_) (fun h => rdSeq ?_)
    · rw [if_pos h] at q; exact q
    rw [if_neg h] at q
    walk_at "rd"
    refine ite2 (fun h => ?_) (fun h => ?_)
    · rw [if_pos h] at q; exact q
    · rw [if_neg h] at q
      exact q
def inS (s : Str) (l : List Str) : Bool := inV (.str s) (l.map V.str)
def opV (s : Str) (l r : Int) : V :=
  if inS s ["/", "mod"] = true then (if r = 0 then .non else if s = "mod" then .int (l - r * divI l r) else .int (wrapI (divI l r)))
  else if inS s ["==", "!=", "<", "<=", ">", ">="] = true then .int (if cmpI s l r = true then 1 else 0) else .int (wrapI (arI s l r))
def sp_op (K : PySem.W.Frag) : Sp := fun vs H Q _ => ∃ (s : Str) (l r : Int), vs = [.str s, .int l, .int r] ∧ Wd l ∧ Wd r ∧ ∀ H', Same H H' → Q (opV s l r) H'
theorem ok_op (T : Txt K mg) : FnOk P w K mg base CX0 2 T.f_op T.d_op ["sign", "left", "right"] (sp_op K) := by
  refine T.k_op.ok sc_op (fun vs H Q E h => ?_) (fun cdv A outer s H vs Q E hr h => ?_)
  · obtain ⟨s, l, r, rfl, _⟩ := h
    rfl
  · obtain ⟨s, l, r, rfl, hl, hr', q⟩ := h
    refine ⟨_, (pss_cons (ps_if (pt_cmpR (in_seqK K) (pv 0) (pe_tup (pa_cons pe_str (pa_cons pe_str pa_nil))) rfl) (pss_cons (ps_if (pt_cmpR op_eq (pv 2) pe_int (nomark _)) (pss_one (ps_ret pe_non)) pss_nil)
      (pss_cons (ps_set (i := 3) sc_op.nd rfl (.inl rfl) (pe_call (ok_divided T) (hr.mono (by decide)) (by rfl) T.g_divided T.k_divided.kp T.b_divided .nil pass0 (pa_cons (pv 1) (pa_cons (pv 2) pa_nil))))
      (pss_cons (ps_if (pt_cmpR op_eq (pv 0) pe_str (nomark _)) (pss_one (ps_ret (pe_op op_sub (pv 1) (pe_op op_mul (pv 2) (pv 3))))) pss_nil)
      (pss_one (ps_ret (pe_call (ok_wrap T) (hr.mono (by decide)) (by rfl) T.g_wrap T.k_wrap.kp T.b_wrap .nil pass0 (pa_cons (pv 3) pa_nil))))))) pss_nil)
      (pss_cons (ps_if (pt_cmpR (in_seqK K) (pv 0) (pe_tup (pa_cons pe_str (pa_cons pe_str (pa_cons pe_str (pa_cons pe_str (pa_cons pe_str (pa_cons pe_str pa_nil))))))) rfl) (pss_one (ps_ret (pe_callTy call_intI (by rfl) T.m_int (by decide +kernel) (pa_cons (pe_call (ok_compared T) (hr.mono (by decide)) (by rfl) T.g_compared T.k_compared.kp T.b_compared .nil pass0 (pa_cons (pv 0) (pa_cons (pv 1) (pa_cons (pv 2) pa_nil)))) pa_nil)))) pss_nil)
      (pss_one (ps_ret (pe_call (ok_wrap T) (hr.mono (by decide)) (by rfl) T.g_wrap T.k_wrap.kp T.b_wrap .nil pass0 (pa_cons (pe_call (ok_arithmetic T) (hr.mono (by decide)) (by rfl) T.g_arithmetic T.k_arithmetic.kp T.b_arithmetic .nil pass0 (pa_cons (pv 0) (pa_cons (pv 1) (pa_cons (pv 2) pa_nil)))) pa_nil)))))), ?_⟩
    walk_at "rd"
    refine rdSeq ?_
    walk_at "rd"
    have q : ∀ H' v, Same H H' → v = opV s l r → Q v H' := fun H' v sm e => by rw [e]; exact q H' sm
    intro p hp
    have sm := same_new (o := HO.tup [V.str (Str.ofString "/"), V.str (Str.ofString "mod")]) hp
    refine i_inL (xs := [V.str (Str.ofString "/"), V.str (Str.ofString "mod")]) (.inr (sqT_of upd_same)) rfl rfl ?_
    walk_at "rd"
    refine ite2 (fun h1 => rdSeq ?_) (fun h1 => rdSeq ?_)
    · have h1 : inS s ["/", "mod"] = true := h1
      walk_at "rd"
      refine ite2 (fun h2 => ?_) (fun h2 => rdSeq ?_)
      · exact q _ _ sm (by unfold opV; rw [if_pos h1, if_pos h2])
      · walk_at "rd"
        refine ⟨l, r, rfl, hr', h2, rdSeq ?_⟩
        walk_at "rd"
        refine ite2 (fun h3 => ?_) (fun h3 => ?_)
        · exact ⟨.inl ⟨by unfold Wd at hr'; omega, by unfold Wd at hr'; omega⟩, q _ _ sm (by unfold opV; rw [if_pos h1, if_neg h2, if_pos h3])⟩
        · walk_at "rd"
          exact ⟨_, rfl, q _ _ sm (by unfold opV; rw [if_pos h1, if_neg h2, if_neg h3])⟩
    · have h1 : ¬ inS s ["/", "mod"] = true := h1
      walk_at "rd"
      intro p2 hp2
      have sm2 := sm.trans (same_new (o := HO.tup [V.str (Str.ofString "=="), V.str (Str.ofString "!="), V.str (Str.ofString "<"), V.str (Str.ofString "<="), V.str (Str.ofString ">"), V.str (Str.ofString ">=")]) hp2)
      refine i_inL (xs := [V.str (Str.ofString "=="), V.str (Str.ofString "!="), V.str (Str.ofString "<"), V.str (Str.ofString "<="), V.str (Str.ofString ">"), V.str (Str.ofString ">=")]) (.inr (sqT_of upd_same)) rfl rfl ?_
      walk_at "rd"
      refine ite2 (fun h2 => ?_) (fun h2 => ?_)
      · have h2 : inS s ["==", "!=", "<", "<=", ">", ">="] = true := h2
        refine ⟨s, l, r, rfl, ?_⟩
        walk_at "rd"
        exact q _ _ sm2 (by unfold opV; rw [if_neg h1, if_pos h2])
      · have h2 : ¬ inS s ["==", "!=", "<", "<=", ">", ">="] = true := h2
        walk_at "rd"
        refine ⟨s, l, r, rfl, hl, _, rfl, ?_⟩
        exact q _ _ sm2 (by unfold opV; rw [if_neg h1, if_neg h2])

/-! ### the law's own way -/
def sp_law_word (K : PySem.W.Frag) : Sp := fun vs H Q _ => ∃ (a : Addr) (o : Int), vs = [.ref a, .int o] ∧ Bag H a ∧ Wd o ∧ ∀ (r : Int) (H' : Hp), Wd r → Mv a H H' → Q (.int r) H'
theorem ok_law_word (T : Txt K mg) : FnOk P w K mg base CX0 2 T.f_law_word T.d_law_word ["_law_bag_here", "_law_other"] (sp_law_word K) := by
  refine T.k_law_word.ok sc_law_word (fun vs H Q E h => ?_) (fun cdv A outer s H vs Q E hr h => ?_)
  · obtain ⟨a, o, rfl, _⟩ := h
    rfl
  · obtain ⟨a, o, rfl, hB, ho, q⟩ := h
    have q : ∀ (r : Int) (H' : Hp), -32768 ≤ r → r ≤ 32767 → Mv a H H' → Q (.int r) H' := fun r H' h0 h1 m => q r H' ⟨h0, h1⟩ m
    refine ⟨_, (pss_cons (ps_set (i := 2) sc_law_word.nd rfl (.inl rfl) (pe_call (ok_law_draw T) (hr.mono (by decide)) (by rfl) T.g_law_draw T.k_law_draw.kp T.b_law_draw .nil pass0 (pa_cons (pv 0) (pa_cons pe_int pa_nil))))
      (pss_cons (ps_if (pt_cmpR op_lt (pv 2) pe_int (nomark _)) (pss_one (ps_ret (pe_op op_sub (pe_call (ok_law_draw T) (hr.mono (by decide)) (by rfl) T.g_law_draw T.k_law_draw.kp T.b_law_draw .nil pass0 (pa_cons (pv 0) (pa_cons pe_int pa_nil))) pe_int))) pss_nil)
      (pss_cons (ps_if (pt_cmpR op_eq (pv 2) pe_int (nomark _)) (pss_one (ps_ret (pe_op op_sub (pe_call (ok_law_draw T) (hr.mono (by decide)) (by rfl) T.g_law_draw T.k_law_draw.kp T.b_law_draw .nil pass0 (pa_cons (pv 0) (pa_cons pe_int pa_nil))) pe_int))) pss_nil)
      (pss_cons (ps_if (pt_cmpR op_eq (pv 2) pe_int (nomark _)) (pss_one (ps_ret (pv 1))) pss_nil)
      (pss_one (ps_ret (pe_ix (ix_listK K) (pe_lst (pa_cons pe_int (pa_cons pe_int (pa_cons (pe_un un_neg pe_int) (pa_cons pe_int (pa_cons (pe_un un_neg pe_int) (pa_cons pe_int (pa_cons pe_int (pa_cons (pe_un un_neg pe_int) (pa_cons pe_int (pa_cons pe_int pa_nil))))))))))) (pe_call (ok_law_draw T) (hr.mono (by decide)) (by rfl) T.g_law_draw T.k_law_draw.kp T.b_law_draw .nil pass0 (pa_cons (pv 0) (pa_cons pe_int pa_nil))) (fun _ _ => rfl)))))))), ?_⟩
    walk_at "rd"
    refine rdSeq ?_
    walk_at "rd"
    refine i_draw (Mv.refl hB) (by decide) (by decide) fun r1 H1 _ _ _ mv => ?_
    refine rdSeq ?_
    walk_at "rd"
    refine ite2 (fun _ => ?_) (fun _ => rdSeq ?_)
    · refine i_draw mv (by decide) (by decide) fun r2 H2 _ _ _ mv => ?_
      walk_at "rd"
      exact q _ _ (by omega) (by omega) mv
    walk_at "rd"
    refine ite2 (fun _ => ?_) (fun _ => rdSeq ?_)
    · refine i_draw mv (by decide) (by decide) fun r2 H2 _ _ _ mv => ?_
      walk_at "rd"
      exact q _ _ (by omega) (by omega) mv
    walk_at "rd"
    refine ite2 (fun _ => ?_) (fun _ => ?_)
    · exact q _ _ ho.1 ho.2 mv
    walk_at "rd"
    intro p hp
    have mv1 := mv.new (o := HO.lst ([0, 1, -1, 32767, -32768, 16, 15, -32767, 256, 255].map V.int)) hp
    refine i_draw mv1 (by decide) (by decide) fun r H1 h0 h1 mv2 mv3 => ?_
    obtain ⟨v, ev, hv⟩ := at_int (ns := [0, 1, -1, 32767, -32768, 16, 15, -32767, 256, 255]) h0 h1
    refine i_ixL (sqL_of (mv2.old p _ (mv.ne hp) upd_same)) ev ?_
    simp only [List.mem_cons, List.not_mem_nil, or_false] at hv
    exact q _ _ (by omega) (by omega) mv3
/-- a new list at p, all else kept -/
structure NewL (H H' : Hp) (p : Addr) (xs : List V) : Prop where
  free : H p = none
  same : Same H H'
  at_ : H' p = some (.lst xs)
theorem NewL.sq {K : PySem.W.Frag} {H H' : Hp} {p : Addr} {xs : List V} (n : NewL H H' p xs) : SqL K H' p xs := sqL_of n.at_
theorem NewL.set {H H' : Hp} {p : Addr} {xs ys : List V} (n : NewL H H' p xs) : NewL H (upd H' p (.lst ys)) p ys := ⟨n.free, fun b o e => by rw [upd_ne (ne_of_none e n.free)]; exact n.same b o e, upd_same⟩
theorem NewL.more {H H' H2 : Hp} {p : Addr} {xs : List V} (n : NewL H H' p xs) (s : Same H' H2) : NewL H H2 p xs := ⟨n.free, n.same.trans s, s _ _ n.at_⟩
def sp_law_bits (K : PySem.W.Frag) : Sp := fun vs H Q _ => ∃ (x : Int), vs = [.int x] ∧ ∀ p H', NewL H H' p ((bitsL 16 x).map V.int) → Q (.ref p) H'
theorem ok_law_bits (T : Txt K mg) : FnOk P w K mg base CX0 1 T.f_law_bits T.d_law_bits ["_law_word_here"] (sp_law_bits K) := by
  refine T.k_law_bits.ok sc_law_bits (fun vs H Q E h => ?_) (fun cdv A outer s H vs Q E hr h => ?_)
  · obtain ⟨x, rfl, _⟩ := h
    rfl
  · obtain ⟨x, rfl, q⟩ := h
    refine ⟨_, (pss_cons (ps_set (i := 1) sc_law_bits.nd rfl (.inl rfl) (pv 0))
      (C8.pss_cut (ps_if (pt_cmpR op_lt (pv 0) pe_int (nomark _)) (pss_one (ps_set (i := 1) sc_law_bits.nd rfl (.inl rfl) (pe_op op_add (pv 0) pe_int))) pss_nil)
      (pss_cons (ps_set (i := 2) sc_law_bits.nd rfl (.inl rfl) (pe_lst pa_nil))
      (pss_cons (ps_for PassesOwn.never rfl (pi_range1 (by rfl) T.m_range (pa_cons pe_int pa_nil)) (pg_name (i := 3) sc_law_bits.nd rfl (Or.inl rfl)) (pss_cons (ps_expr (pe_bm PySem.F.plainAttrs_list PySem.F.slot_list_append PySem.F.type_list_append mt_append (pv 2) (pa_cons (pe_op op_modP (pe_callTy call_intI (by rfl) T.m_int (by decide +kernel) (pa_cons (pv 1) pa_nil)) pe_int) pa_nil)))
      (pss_one (ps_set (i := 1) sc_law_bits.nd rfl (.inl rfl) (pe_op op_fdivW (pv 1) pe_int)))))
      (pss_one (ps_ret (pv 2))))))), ?_⟩
    walk_at "rd"
    refine rdSeq ?_
    walk_at "rd"
    refine rdCut (fun σ H' => H' = H ∧ ∃ y : Int, bitsL 16 y = bitsL 16 x ∧ σ = [some (.int x), some (.int y), none, none]) ?_ ?_
    · walk_at "rd"
      exact ite2 (fun _ => ⟨_, bitsL_neg x, rfl⟩) (fun _ => ⟨_, rfl, rfl⟩)
    rintro σ H' ⟨rfl, y, hy, rfl⟩
    refine rdSeq ?_
    walk_at "rd"
    intro p hp
    refine rdSeq ?_
    walk_at "rd"
    refine ⟨by decide, by decide, i_for walk_range (fun i σ H2 => ∃ (z : Int) (u : Option V) (acc : List Int), σ = [some (.int x), some (.int z), some (.ref p), u] ∧ NewL H' H2 p (acc.map V.int) ∧ acc.length = i ∧ acc ++ bitsL (16 - i) z = bitsL 16 x)
      ⟨y, none, [], rfl, ⟨hp, same_new hp, upd_same⟩, rfl, hy⟩ (fun _ _ _ _ _ => trivial) ?_ ?_⟩
    · rintro i _ σ H2 _ hi ⟨z, u, acc, rfl, n, hl, he⟩ ⟨rfl, rfl⟩
      have hi : i < 16 := hi
      refine rdSeq ?_
      walk_at "rd"
      refine ⟨ty_app n.sq, i_app n.at_ (by rw [List.length_map, hl]; exact line5' (by omega)) ?_⟩
      walk_at "rd"
      refine ⟨⟨by decide, by decide⟩, acc ++ [z % 2], ?_, by simp [hl], ?_⟩
      · rw [List.map_append]; exact n.set
      · rw [← he, show 16 - i = (16 - (i + 1)) + 1 by omega, bitsL, List.append_assoc]; rfl
    · rintro σ H2 ⟨z, u, acc, rfl, n, hl, he⟩
      walk_at "rd"
      rw [show 16 - Int.toNat 16 = 0 by decide, bitsL, List.append_nil] at he
      rw [← he] at q
      exact q _ _ n
def sp_law_value (K : PySem.W.Frag) : Sp := fun vs H Q _ => ∃ (a : Addr) (x : Int), vs = [.ref a] ∧ SqL K H a ((bitsL 16 x).map V.int) ∧ ∀ H', Same H H' → Q (.int (wrapI x)) H'
theorem ok_law_value (T : Txt K mg) : FnOk P w K mg base CX0 1 T.f_law_value T.d_law_value ["_law_bits_here"] (sp_law_value K) := by
  refine T.k_law_value.ok sc_law_value (fun vs H Q E h => ?_) (fun cdv A outer s H vs Q E hr h => ?_)
  · obtain ⟨a, x, rfl, _⟩ := h
    rfl
  · obtain ⟨a, x, rfl, hS, q⟩ := h
    refine ⟨_, (pss_cons (ps_set (i := 1) sc_law_value.nd rfl (.inl rfl) pe_int)
      (pss_cons (ps_for PassesOwn.never rfl (pi_range1 (by rfl) T.m_range (pa_cons pe_int pa_nil)) (pg_name (i := 2) sc_law_value.nd rfl (Or.inl rfl)) (pss_one (ps_set (i := 1) sc_law_value.nd rfl (.inl rfl) (pe_op op_add (pv 1) (pe_op op_mul (pe_ix (ix_listK K) (pv 0) (pv 2) (fun _ _ => rfl)) (pe_ix (ix_listK K) (pe_lst (pa_cons pe_int (pa_cons pe_int (pa_cons pe_int (pa_cons pe_int (pa_cons pe_int (pa_cons pe_int (pa_cons pe_int (pa_cons pe_int (pa_cons pe_int (pa_cons pe_int (pa_cons pe_int (pa_cons pe_int (pa_cons pe_int (pa_cons pe_int (pa_cons pe_int pa_nil)))))))))))))))) (pv 2) (fun _ _ => rfl)))))))
      (pss_one (ps_ret (pe_op op_sub (pv 1) (pe_op op_mul pe_int (pe_ix (ix_listK K) (pv 0) pe_int (fun _ _ => rfl)))))))), ?_⟩
    walk_at "rd"
    refine rdSeq ?_
    walk_at "rd"
    refine rdSeq ?_
    walk_at "rd"
    have gx : ∀ i : Nat, i < 16 → atI ((bitsL 16 x).map V.int) (i : Int) = some (.int ((x / 2 ^ i) % 2)) := fun i hi => atI_nat (by rw [List.getElem?_map, bitsL_get 16 i x hi]; rfl)
    refine ⟨by decide, by decide, i_for walk_range (fun i σ H2 => Same H H2 ∧ ∃ (u : Option V), σ = [some (.ref a), some (.int (x % 2 ^ i)), u])
      ⟨Same.refl H, none, by rw [show x % 2 ^ 0 = 0 by omega]⟩ (fun _ _ _ _ _ => trivial) ?_ ?_⟩
    · rintro i _ σ H2 _ hi ⟨sm, u, rfl⟩ ⟨rfl, rfl⟩
      have hi : i < 15 := hi
      walk_at "rd"
      rw [show (0 : Int) + (i : Int) = (i : Int) by omega]
      refine i_ixL (sm.seq hS) (gx i (by omega)) ?_
      intro p hp
      have pw : ∀ i, i < 15 → ([1, 2, 4, 8, 16, 32, 64, 128, 256, 512, 1024, 2048, 4096, 8192, 16384] : List Int)[i]? = some (2 ^ i) := by decide
      refine i_ixL (sqL_of upd_same) (atI_nat (j := i) (v := .int (2 ^ i)) (by
        show (([1, 2, 4, 8, 16, 32, 64, 128, 256, 512, 1024, 2048, 4096, 8192, 16384] : List Int).map V.int)[i]? = _
        rw [List.getElem?_map, pw i hi]; rfl)) ?_
      walk_at "rd"
      refine ⟨.inl ⟨by omega, by omega⟩, sm.trans (same_new hp), ?_⟩
      have hp2 : (0 : Int) < 2 ^ i := Int.pow_pos (by decide)
      rw [Int.pow_succ]
      have h1 := Int.mul_ediv_add_emod x (2 ^ i)
      have h2 := Int.mul_ediv_add_emod x (2 ^ i * 2)
      have h3 : x / (2 ^ i * 2) = x / 2 ^ i / 2 := (Int.ediv_ediv_of_nonneg (Int.le_of_lt hp2)).symm
      rw [h3] at h2
      have h4 : 2 ^ i * (x / 2 ^ i) = 2 ^ i * 2 * (x / 2 ^ i / 2) + x / 2 ^ i % 2 * 2 ^ i := by
        have h5 := Int.mul_ediv_add_emod (x / 2 ^ i) 2
        have : 2 ^ i * (x / 2 ^ i) = 2 ^ i * (2 * (x / 2 ^ i / 2) + x / 2 ^ i % 2) := by rw [h5]
        rw [this, Int.mul_add, ← Int.mul_assoc, Int.mul_comm (2 ^ i) (x / 2 ^ i % 2)]
      omega
    · rintro σ H2 ⟨sm, u, rfl⟩
      walk_at "rd"
      refine i_ixL (sm.seq hS) (gx 15 (by omega)) ?_
      walk_at "rd"
      refine ⟨cm_l (by decide), ?_⟩
      have e : x % 2 ^ Int.toNat 15 - 32768 * (x / 2 ^ 15 % 2) = wrapI x := by
        show x % 32768 - 32768 * (x / 32768 % 2) = wrapI x
        unfold wrapI; omega
      rw [e]
      exact q _ sm
def sp_law_sum (K : PySem.W.Frag) : Sp := fun vs H Q _ => ∃ (a b : Addr) (x y c : Int), vs = [.ref a, .ref b, .int c] ∧ SqL K H a ((bitsL 16 x).map V.int) ∧ SqL K H b ((bitsL 16 y).map V.int) ∧ ∀ p H', NewL H H' p ((bitsL 16 (x + y + c)).map V.int) → Q (.ref p) H'
theorem ok_law_sum (T : Txt K mg) : FnOk P w K mg base CX0 1 T.f_law_sum T.d_law_sum ["_law_one", "_law_two", "_law_carry"] (sp_law_sum K) := by
  refine T.k_law_sum.ok sc_law_sum (fun vs H Q E h => ?_) (fun cdv A outer s H vs Q E hr h => ?_)
  · obtain ⟨a, b, x, y, c, rfl, _⟩ := h
    rfl
  · obtain ⟨a, b, x, y, c, rfl, hA, hB, q⟩ := h
    refine ⟨_, (pss_cons (ps_set (i := 3) sc_law_sum.nd rfl (.inl rfl) (pe_lst pa_nil))
      (pss_cons (ps_for PassesOwn.never rfl (pi_range1 (by rfl) T.m_range (pa_cons pe_int pa_nil)) (pg_name (i := 4) sc_law_sum.nd rfl (Or.inl rfl)) (pss_cons (ps_set (i := 5) sc_law_sum.nd rfl (.inl rfl) (pe_op op_add (pe_op op_add (pe_ix (ix_listK K) (pv 0) (pv 4) (fun _ _ => rfl)) (pe_ix (ix_listK K) (pv 1) (pv 4) (fun _ _ => rfl))) (pv 2)))
      (pss_cons (ps_expr (pe_bm PySem.F.plainAttrs_list PySem.F.slot_list_append PySem.F.type_list_append mt_append (pv 3) (pa_cons (pe_op op_modP (pe_callTy call_intI (by rfl) T.m_int (by decide +kernel) (pa_cons (pv 5) pa_nil)) pe_int) pa_nil)))
      (pss_one (ps_set (i := 2) sc_law_sum.nd rfl (.inl rfl) (pe_op op_fdivW (pv 5) pe_int))))))
      (pss_one (ps_ret (pv 3))))), ?_⟩
    walk_at "rd"
    refine rdSeq ?_
    walk_at "rd"
    intro p hp
    refine rdSeq ?_
    walk_at "rd"
    have gg : ∀ (x : Int) (i : Nat), i < 16 → atI ((bitsL 16 x).map V.int) (i : Int) = some (.int ((x / 2 ^ i) % 2)) := fun x i hi => atI_nat (by rw [List.getElem?_map, bitsL_get 16 i x hi]; rfl)
    refine ⟨by decide, by decide, i_for walk_range (fun i σ H2 => ∃ (z : Int) (u v : Option V) (acc : List Int), σ = [some (.ref a), some (.ref b), some (.int z), some (.ref p), u, v] ∧ NewL H H2 p (acc.map V.int) ∧ acc.length = i ∧ acc ++ sumL (bitsL (16 - i) (x / 2 ^ i)) (bitsL (16 - i) (y / 2 ^ i)) z = bitsL 16 (x + y + c))
      ⟨c, none, none, [], rfl, ⟨hp, same_new hp, upd_same⟩, rfl, by simpa using bitsL_sum 16 x y c⟩ (fun _ _ _ _ _ => trivial) ?_ ?_⟩
    · rintro i _ σ H2 _ hi ⟨z, u, v, acc, rfl, n, hl, he⟩ ⟨rfl, rfl⟩
      have hi : i < 16 := hi
      refine rdSeq ?_
      walk_at "rd"
      rw [show (0 : Int) + (i : Int) = (i : Int) by omega]
      refine i_ixL (n.same.seq hA) (gg x i hi) (i_ixL (n.same.seq hB) (gg y i hi) ?_)
      walk_at "rd"
      refine rdSeq ?_
      walk_at "rd"
      refine ⟨ty_app n.sq, i_app n.at_ (by rw [List.length_map, hl]; exact line5' (by omega)) ?_⟩
      walk_at "rd"
      refine ⟨⟨by decide, by decide⟩, acc ++ [(x / 2 ^ i % 2 + y / 2 ^ i % 2 + z) % 2], ?_, by simp [hl], ?_⟩
      · rw [List.map_append]; exact n.set
      · have hh : ∀ x : Int, x / 2 ^ (i + 1) = x / 2 ^ i / 2 := fun x => by rw [Int.pow_succ]; exact (Int.ediv_ediv_of_nonneg (Int.le_of_lt (Int.pow_pos (by decide)))).symm
        rw [← he, show 16 - i = (16 - (i + 1)) + 1 by omega, bitsL, bitsL, sumL, hh, hh, List.append_assoc]; rfl
    · rintro σ H2 ⟨z, u, v, acc, rfl, n, hl, he⟩
      walk_at "rd"
      rw [show 16 - Int.toNat 16 = 0 by decide, bitsL, bitsL, sumL, List.append_nil] at he
      · rw [← he] at q
        exact q _ _ n
      · intro _ _ _ _ h; cases h

theorem rep_eq {n : Nat} {v : Int} : (List.range n).map (fun _ => V.int v) = (List.replicate n v).map V.int := by
  rw [List.map_const', List.map_replicate, List.length_range]
def sp_law_product (K : PySem.W.Frag) : Sp := fun vs H Q _ => ∃ (a b : Addr) (x y : Int), vs = [.ref a, .ref b] ∧ SqL K H a ((bitsL 16 x).map V.int) ∧ SqL K H b ((bitsL 16 y).map V.int) ∧ ∀ p H', NewL H H' p ((bitsL 16 (x * y)).map V.int) → Q (.ref p) H'
theorem ok_law_product (T : Txt K mg) : FnOk P w K mg base CX0 2 T.f_law_product T.d_law_product ["_law_one", "_law_two"] (sp_law_product K) := by
  refine T.k_law_product.ok sc_law_product (fun vs H Q E h => ?_) (fun cdv A outer s H vs Q E hr h => ?_)
  · obtain ⟨a, b, x, y, rfl, _⟩ := h
    rfl
  · obtain ⟨a, b, x, y, rfl, hA, hB, q⟩ := h
    refine ⟨_, (pss_cons (ps_setLc (i := 3) (own := [("_law_k", 2)]) (g := gName 2) (tt := tYes) rfl sc_law_product.nd rfl rfl (sw_true rfl rfl rfl (by decide +kernel)) (pi_range1 (by rfl) T.m_range (pa_cons pe_int pa_nil)) (blkOk_by (own := [("_law_k", 2)]) (N := ["_law_one", "_law_two", "_law_k", "_law_total", "_law_j"]) (sc := defScope s_law_product) (by decide +kernel)) (fun _ _ _ _ _ => pg_name (i := 2) sc_law_product.nd rfl (Or.inl rfl)) (fun _ _ _ _ _ => pts_nil) (fun _ _ _ _ _ => pe_int))
      (pss_cons (ps_for PassesOwn.never rfl (pi_range1 (by rfl) T.m_range (pa_cons pe_int pa_nil)) (pg_name (i := 2) sc_law_product.nd rfl (Or.inl rfl)) (pss_one (ps_if (pt_cmpR op_eq (pe_ix (ix_listK K) (pv 1) (pv 2) (fun _ _ => rfl)) pe_int (nomark _)) (pss_one (ps_set (i := 3) sc_law_product.nd rfl (.inl rfl) (pe_call (ok_law_sum T) (hr.mono (by decide)) (by rfl) T.g_law_sum T.k_law_sum.kp T.b_law_sum .nil pass0 (pa_cons (pv 3) (pa_cons (pe_op op_cat (pe_lc (own := [("_law_j", 4)]) (g := gName 4) (tt := tYes) rfl sc_law_product.nd (pi_range1 (by rfl) T.m_range (pa_cons (pv 2) pa_nil)) (blkOk_by (own := [("_law_j", 4)]) (N := ["_law_one", "_law_two", "_law_k", "_law_total", "_law_j"]) (sc := defScope s_law_product) (by decide +kernel)) (fun _ _ _ _ _ => pg_name (i := 4) sc_law_product.nd rfl (Or.inl rfl)) (fun _ _ _ _ _ => pts_nil) (fun _ _ _ _ _ => pe_int)) (pe_slice (sl_listK K) (pv 0) po_none (po_some (pe_op op_sub pe_int (pv 2))))) (pa_cons pe_int pa_nil)))))) pss_nil)))
      (pss_one (ps_ret (pv 3))))), ?_⟩
    walk_at "rd"
    refine rdSeq ?_
    walk_at "rd"
    have lz : ∀ (n : Nat), n ≤ 100 → n < sizeLine := fun n h => line5' (by omega)
    refine ⟨by decide, by decide, i_lcL walk_rangeL (fun _ => .int 0) (by rw [List.length_range]; exact lz _ (by decide)) (fun _ _ _ => trivial) (fun c _ H1 Q' _ q' => q') (fun t ht => rdSeq ?_)⟩
    walk_at "rd"
    have e0 : (List.range (Int.toNat 16)).map (fun _ => V.int 0) = (bitsL 16 (x * (y % 2 ^ 0))).map V.int := by
      rw [rep_eq, show y % 2 ^ 0 = 0 by omega, Int.mul_zero, bitsL_zero]; rfl
    refine ⟨by decide, by decide, i_for walk_range (fun i σ H2 => ∃ (t : Addr) (u v : Option V), σ = [some (.ref a), some (.ref b), u, some (.ref t), v] ∧ NewL H H2 t ((bitsL 16 (x * (y % 2 ^ i))).map V.int))
      ⟨t, none, none, rfl, ⟨ht, same_new ht, by rw [upd_same, e0]⟩⟩ (fun _ _ _ _ _ => trivial) ?_ ?_⟩
    · rintro i _ σ H2 _ hi ⟨t, u, v, rfl, n⟩ ⟨rfl, rfl⟩
      have hi : i < 16 := hi
      have hp2 : (0 : Int) < 2 ^ i := Int.pow_pos (by decide)
      have step : y % 2 ^ (i + 1) = y % 2 ^ i + 2 ^ i * (y / 2 ^ i % 2) := by
        rw [Int.pow_succ]
        have h1 := Int.mul_ediv_add_emod y (2 ^ i)
        have h2 := Int.mul_ediv_add_emod y (2 ^ i * 2)
        have h3 : y / (2 ^ i * 2) = y / 2 ^ i / 2 := (Int.ediv_ediv_of_nonneg (Int.le_of_lt hp2)).symm
        rw [h3] at h2
        have h5 := Int.mul_ediv_add_emod (y / 2 ^ i) 2
        have h6 : 2 ^ i * (y / 2 ^ i) = 2 ^ i * 2 * (y / 2 ^ i / 2) + 2 ^ i * (y / 2 ^ i % 2) := by
          have : 2 ^ i * (y / 2 ^ i) = 2 ^ i * (2 * (y / 2 ^ i / 2) + y / 2 ^ i % 2) := by rw [h5]
          rw [this, Int.mul_add, ← Int.mul_assoc]
        omega
      walk_at "rd"
      rw [show (0 : Int) + (i : Int) = (i : Int) by omega]
      refine i_ixL (n.same.seq hB) (atI_nat (j := i) (v := .int ((y / 2 ^ i) % 2)) (by rw [List.getElem?_map, bitsL_get 16 i y hi]; rfl)) ?_
      walk_at "rd"
      refine ite2 (fun h1 => ⟨by omega, by omega, ?_⟩) (fun h1 => ?_)
      · refine i_lcL walk_rangeL (fun _ => .int 0) (by rw [List.length_range]; exact lz _ (by omega)) (fun _ _ _ => trivial) (fun c _ H1 Q' _ q' => q') (fun z hz => ?_)
        refine i_slL (((n.same.trans (same_new hz)).seq hA)) fun c hc => ?_
        have nzc : z ≠ c := ne_of_none upd_same hc
        have s1 := (same_new (o := HO.lst ((List.range ((i : Int)).toNat).map fun _ => V.int 0)) hz)
        have s2 := s1.trans (same_new (o := HO.lst (cutV ((bitsL 16 x).map V.int) none (some (16 - (i : Int))))) hc)
        refine i_cat (by rw [upd_ne nzc]; exact upd_same) upd_same (by
          have := List.length_take_le ((16 : Nat) - i) ((bitsL 16 x).map V.int)
          rw [show (16 : Int) - (i : Int) = ((16 - i : Nat) : Int) by omega, cut_take, List.length_map, List.length_range]
          rw [sizeLine_eq]; omega) fun d hd => ?_
        have e1 : ((List.range ((i : Int)).toNat).map fun _ => V.int 0) ++ cutV ((bitsL 16 x).map V.int) none (some (16 - (i : Int))) = (bitsL 16 (x * 2 ^ i)).map V.int := by
          have h3 := bitsL_take (16 - i) i x
          have h4 := bitsL_shl i (16 - i) x
          rw [show 16 - i + i = 16 by omega] at h3
          rw [show i + (16 - i) = 16 by omega] at h4
          rw [rep_eq, show (16 : Int) - (i : Int) = ((16 - i : Nat) : Int) by omega, cut_take, ← List.map_take, ← List.map_append, h3, ← h4]; rfl
        rw [e1]
        refine ⟨t, d, x * (y % 2 ^ i), x * 2 ^ i, 0, rfl, sqL_of (same_new hd _ _ (s2 _ _ n.at_)), sqL_of upd_same, fun f H3 n3 => ?_⟩
        walk_at "rd"
        have eq : x * (y % 2 ^ i) + x * 2 ^ i + 0 = x * (y % 2 ^ (i + 1)) := by
          rw [step, h1, Int.mul_one, Int.mul_add, Int.add_zero]
        rw [eq] at n3
        exact ⟨(n.same.trans (s2.trans (same_new hd))).free n3.free, (n.same.trans (s2.trans (same_new hd))).trans n3.same, n3.at_⟩
      · have h0 : y / 2 ^ i % 2 = 0 := by omega
        rw [h0, Int.mul_zero, Int.add_zero] at step
        rw [step]
        exact n
    · rintro σ H2 ⟨t, u, v, rfl, n⟩
      walk_at "rd"
      have e : bitsL 16 (x * (y % 2 ^ Int.toNat 16)) = bitsL 16 (x * y) := by
        refine bitsL_mod 16 _ _ (-(x * (y / 65536))) ?_
        have h1 := Int.mul_ediv_add_emod y 65536
        have h2 : x * y = x * (65536 * (y / 65536) + y % 65536) := by rw [h1]
        rw [h2, Int.mul_add]
        show x * (y % 65536) = x * (65536 * (y / 65536)) + x * (y % 65536) + 65536 * -(x * (y / 65536))
        have : 65536 * -(x * (y / 65536)) = -(x * (65536 * (y / 65536))) := by
          rw [Int.mul_neg]; congr 1
          simp only [Int.mul_left_comm, Int.mul_comm, Int.mul_assoc]
        rw [this]; omega
      rw [e] at n
      exact q _ _ n
theorem quo_rest {l r q t : Int} (h : t + absI r * q = absI l) : (if l < 0 then -t else t) = l - r * (if decide (l < 0) = decide (r < 0) then q else -q) := by
  unfold absI at h
  by_cases h1 : l < 0 <;> by_cases h2 : r < 0 <;> simp only [h1, h2, if_true, if_false, decide_true, decide_false, Bool.true_eq_false, Bool.false_eq_true, Int.neg_mul, Int.mul_neg, reduceCtorEq] at h ⊢ <;> omega
def sp_law_quotient (K : PySem.W.Frag) : Sp := fun vs H Q _ => ∃ (l r : Int), vs = [.int l, .int r] ∧ Wd l ∧ Wd r ∧ r ≠ 0 ∧ ∀ p H', H p = none → Same H H' → H' p = some (.tup [.int (divI l r), .int (l - r * divI l r)]) → Q (.ref p) H'
theorem ok_law_quotient (T : Txt K mg) : FnOk P w K mg base CX0 1 T.f_law_quotient T.d_law_quotient ["_law_left", "_law_right"] (sp_law_quotient K) := by
  refine T.k_law_quotient.ok sc_law_quotient (fun vs H Q E h => ?_) (fun cdv A outer s H vs Q E hr h => ?_)
  · obtain ⟨l, r, rfl, _⟩ := h
    rfl
  · obtain ⟨l, r, rfl, hl, hr', h0, q⟩ := h
    refine ⟨_, (pss_cons (ps_set (i := 2) sc_law_quotient.nd rfl (.inl rfl) (pe_callB (call_max2 rfl) (by rfl) T.m_max (by decide +kernel) (pa_cons (pv 0) (pa_cons (pe_un un_neg (pv 0)) pa_nil))))
      (pss_cons (ps_set (i := 3) sc_law_quotient.nd rfl (.inl rfl) (pe_callB (call_max2 rfl) (by rfl) T.m_max (by decide +kernel) (pa_cons (pv 1) (pa_cons (pe_un un_neg (pv 1)) pa_nil))))
      (pss_cons (ps_set (i := 4) sc_law_quotient.nd rfl (.inl rfl) pe_int)
      (pss_cons (ps_for PassesOwn.never rfl (pi_range1 (by rfl) T.m_range (pa_cons pe_int pa_nil)) (pg_name (i := 5) sc_law_quotient.nd rfl (Or.inl rfl)) (pss_cons (ps_set (i := 6) sc_law_quotient.nd rfl (.inl rfl) (pe_ix (ix_listK K) (pe_lst (pa_cons pe_int (pa_cons pe_int (pa_cons pe_int (pa_cons pe_int (pa_cons pe_int (pa_cons pe_int (pa_cons pe_int (pa_cons pe_int (pa_cons pe_int (pa_cons pe_int (pa_cons pe_int (pa_cons pe_int (pa_cons pe_int (pa_cons pe_int (pa_cons pe_int (pa_cons pe_int pa_nil))))))))))))))))) (pv 5) (fun _ _ => rfl)))
      (pss_one (ps_if (pt_cmpR op_le (pe_op op_mul (pv 3) (pv 6)) (pv 2) (nomark _)) (pss_cons (ps_set (i := 2) sc_law_quotient.nd rfl (.inl rfl) (pe_op op_sub (pv 2) (pe_op op_mul (pv 3) (pv 6))))
      (pss_one (ps_set (i := 4) sc_law_quotient.nd rfl (.inl rfl) (pe_op op_add (pv 4) (pv 6))))) pss_nil))))
      (C8.pss_cut (ps_if (pt_cmpR op_ne (pe_cmpR op_lt (pv 0) pe_int (nomark _)) (pe_cmpR op_lt (pv 1) pe_int (nomark _)) (nomark _)) (pss_one (ps_set (i := 4) sc_law_quotient.nd rfl (.inl rfl) (pe_un un_neg (pv 4)))) pss_nil)
      (C8.pss_cut (ps_if (pt_cmpR op_lt (pv 0) pe_int (nomark _)) (pss_one (ps_set (i := 2) sc_law_quotient.nd rfl (.inl rfl) (pe_un un_neg (pv 2)))) pss_nil)
      (pss_one (ps_ret (pe_tup (pa_cons (pv 4) (pa_cons (pv 2) pa_nil))))))))))), ?_⟩
    walk_at "rd"
    refine rdSeq ?_
    walk_at "rd"
    refine rdSeq ?_
    walk_at "rd"
    refine rdSeq ?_
    walk_at "rd"
    refine rdSeq ?_
    walk_at "rd"
    have eL : (if -l > l then -l else l) = absI l := by unfold absI; split <;> split <;> omega
    have eS : (if -r > r then -r else r) = absI r := by unfold absI; split <;> split <;> omega
    rw [eL, eS]
    have hL : 0 ≤ absI l ∧ absI l ≤ 32768 := by unfold absI; unfold Wd at hl; split <;> omega
    have hS : 0 < absI r ∧ absI r ≤ 32768 := by unfold absI; unfold Wd at hr'; split <;> omega
    refine ⟨by decide, by decide, i_for walk_range (fun i σ H2 => Same H H2 ∧ ∃ (t g : Int) (u v : Option V), σ = [some (.int l), some (.int r), some (.int t), some (.int (absI r)), some (.int g), u, v] ∧ t + absI r * g = absI l ∧ 0 ≤ t ∧ t < absI r * 2 ^ (16 - i))
      ⟨Same.refl H, absI l, 0, none, none, rfl, by rw [Int.mul_zero, Int.add_zero], hL.1, by show absI l < absI r * 65536; omega⟩ (fun _ _ _ _ _ => trivial) ?_ ?_⟩
    · rintro i _ σ H2 _ hi ⟨sm, t, g, u, v, rfl, e1, e2, e3⟩ ⟨rfl, rfl⟩
      have hi : i < 16 := hi
      refine rdSeq ?_
      walk_at "rd"
      intro p hp
      rw [show (0 : Int) + (i : Int) = (i : Int) by omega]
      have pw : ∀ i, i < 16 → ([32768, 16384, 8192, 4096, 2048, 1024, 512, 256, 128, 64, 32, 16, 8, 4, 2, 1] : List Int)[i]? = some (2 ^ (15 - i)) := by decide
      refine i_ixL (sqL_of upd_same) (atI_nat (j := i) (v := .int (2 ^ (15 - i))) (by
        show (([32768, 16384, 8192, 4096, 2048, 1024, 512, 256, 128, 64, 32, 16, 8, 4, 2, 1] : List Int).map V.int)[i]? = _
        rw [List.getElem?_map, pw i hi]; rfl)) ?_
      walk_at "rd"
      have e4 : absI r * 2 ^ (16 - i) = 2 * (absI r * 2 ^ (15 - i)) := by
        rw [show 16 - i = (15 - i) + 1 by omega, Int.pow_succ]; simp only [Int.mul_assoc, Int.mul_comm, Int.mul_left_comm]
      have e5 : 16 - (i + 1) = 15 - i := by omega
      rw [e5]
      refine ⟨.inl ⟨by omega, by omega⟩, ite2 (fun h => rdSeq ?_) (fun h => ⟨sm.trans (same_new hp), e1, e2, by omega⟩)⟩
      walk_at "rd"
      refine ⟨.inl ⟨by omega, by omega⟩, sm.trans (same_new hp), ?_, by omega, by omega⟩
      rw [Int.mul_add]; omega
    · rintro σ H2 ⟨sm, t, g, u, v, rfl, e1, e2, e3⟩
      have e3 : t < absI r := by
        have : absI r * 2 ^ (16 - Int.toNat 16) = absI r := by
          show absI r * 1 = absI r
          omega
        omega
      have hq := (Int.ediv_emod_unique hS.1 (a := absI l) (q := g) (r := t)).mpr ⟨e1, e2, e3⟩
      refine rdCut (fun σ H3 => H3 = H2 ∧ ∃ (u v : Option V), σ = [some (.int l), some (.int r), some (.int t), some (.int (absI r)), some (.int (divI l r)), u, v]) ?_ ?_
      · walk_at "rd"
        have ed : divI l r = if decide (l < 0) = decide (r < 0) then g else -g := by unfold divI; rw [hq.1]
        by_cases h : decide (l < 0) = decide (r < 0)
        · rw [if_pos h] at ed
          exact i_else (by simp [h]) ed.symm
        · rw [if_neg h] at ed
          exact i_then (by simpa using h) ed.symm
      rintro σ H3 ⟨rfl, u, v, rfl⟩
      refine rdCut (fun σ H4 => H4 = H3 ∧ ∃ (u v : Option V), σ = [some (.int l), some (.int r), some (.int (l - r * divI l r)), some (.int (absI r)), some (.int (divI l r)), u, v]) ?_ ?_
      · walk_at "rd"
        have er := quo_rest e1
        have ed : divI l r = if decide (l < 0) = decide (r < 0) then g else -g := by unfold divI; rw [hq.1]
        rw [← ed] at er
        refine ite2 (fun h => ?_) (fun h => ?_)
        · rw [if_pos h] at er; exact er
        · rw [if_neg h] at er; exact er
      rintro σ H4 ⟨rfl, u, v, rfl⟩
      walk_at "rd"
      exact fun p hp => q p _ (sm.free hp) (sm.trans (same_new hp)) upd_same
def sp_law_bitwise (K : PySem.W.Frag) : Sp := fun vs H Q _ => ∃ (s : Str) (a b : Addr) (x y : Int), vs = [.str s, .ref a, .ref b] ∧ SqL K H a ((bitsL 16 x).map V.int) ∧ SqL K H b ((bitsL 16 y).map V.int) ∧
  ∀ p H', NewL H H' p ((bitsL 16 (if s = "&" then Builtin.bitAnd x y else if s = "|" then Builtin.bitOr x y else Builtin.bitXor x y)).map V.int) → Q (.ref p) H'
theorem ok_law_bitwise (T : Txt K mg) : FnOk P w K mg base CX0 1 T.f_law_bitwise T.d_law_bitwise ["_law_sign", "_law_one", "_law_two"] (sp_law_bitwise K) := by
  refine T.k_law_bitwise.ok sc_law_bitwise (fun vs H Q E h => ?_) (fun cdv A outer s H vs Q E hr h => ?_)
  · obtain ⟨s, a, b, x, y, rfl, _⟩ := h
    rfl
  · obtain ⟨s, a, b, x, y, rfl, hA, hB, q⟩ := h
    refine ⟨_, (pss_cons (ps_if (pt_cmpR op_eq (pv 0) pe_str (nomark _)) (pss_one (ps_ret (pe_lc (own := [("_law_k", 3)]) (g := gName 3) (tt := tYes) rfl sc_law_bitwise.nd (pi_range1 (by rfl) T.m_range (pa_cons pe_int pa_nil)) (blkOk_by (own := [("_law_k", 3)]) (N := ["_law_sign", "_law_one", "_law_two", "_law_k"]) (sc := defScope s_law_bitwise) (by decide +kernel)) (fun _ _ _ _ _ => pg_name (i := 3) sc_law_bitwise.nd rfl (Or.inl rfl)) (fun _ _ _ _ _ => pts_nil) (fun _ _ _ _ _ => (pe_op op_mul (pe_ix (ix_listK K) (pv 1) (pv 3) (fun _ _ => rfl)) (pe_ix (ix_listK K) (pv 2) (pv 3) (fun _ _ => rfl))))))) pss_nil)
      (pss_cons (ps_if (pt_cmpR op_eq (pv 0) pe_str (nomark _)) (pss_one (ps_ret (pe_lc (own := [("_law_k", 3)]) (g := gName 3) (tt := tYes) rfl sc_law_bitwise.nd (pi_range1 (by rfl) T.m_range (pa_cons pe_int pa_nil)) (blkOk_by (own := [("_law_k", 3)]) (N := ["_law_sign", "_law_one", "_law_two", "_law_k"]) (sc := defScope s_law_bitwise) (by decide +kernel)) (fun _ _ _ _ _ => pg_name (i := 3) sc_law_bitwise.nd rfl (Or.inl rfl)) (fun _ _ _ _ _ => pts_nil) (fun _ _ _ _ _ => (pe_callB (call_max2 rfl) (by rfl) T.m_max (by decide +kernel) (pa_cons (pe_ix (ix_listK K) (pv 1) (pv 3) (fun _ _ => rfl)) (pa_cons (pe_ix (ix_listK K) (pv 2) (pv 3) (fun _ _ => rfl)) pa_nil))))))) pss_nil)
      (pss_one (ps_ret (pe_lc (own := [("_law_k", 3)]) (g := gName 3) (tt := tYes) rfl sc_law_bitwise.nd (pi_range1 (by rfl) T.m_range (pa_cons pe_int pa_nil)) (blkOk_by (own := [("_law_k", 3)]) (N := ["_law_sign", "_law_one", "_law_two", "_law_k"]) (sc := defScope s_law_bitwise) (by decide +kernel)) (fun _ _ _ _ _ => pg_name (i := 3) sc_law_bitwise.nd rfl (Or.inl rfl)) (fun _ _ _ _ _ => pts_nil) (fun _ _ _ _ _ => (pe_callTy call_intI (by rfl) T.m_int (by decide +kernel) (pa_cons (pe_cmpR op_ne (pe_ix (ix_listK K) (pv 1) (pv 3) (fun _ _ => rfl)) (pe_ix (ix_listK K) (pv 2) (pv 3) (fun _ _ => rfl)) (nomark _)) pa_nil)))))))), ?_⟩
    walk_at "rd"
    refine rdSeq ?_
    walk_at "rd"
    have gg : ∀ (x : Int) (i : Nat), i < 16 → atI ((bitsL 16 x).map V.int) (i : Int) = some (.int ((x / 2 ^ i) % 2)) := fun x i hi => atI_nat (by rw [List.getElem?_map, bitsL_get 16 i x hi]; rfl)
    have fin : ∀ (f : Int → Int → Int), (List.range (Int.toNat 16)).map (fun i => V.int (f (x / 2 ^ i % 2) (y / 2 ^ i % 2))) = (List.zipWith f (bitsL 16 x) (bitsL 16 y)).map V.int := fun f => by
      refine List.ext_getElem? fun i => ?_
      by_cases hi : i < 16
      · rw [List.getElem?_map, List.getElem?_map, List.getElem?_zipWith, bitsL_get 16 i x hi, bitsL_get 16 i y hi, List.getElem?_range (show i < Int.toNat 16 from hi)]; rfl
      · rw [List.getElem?_eq_none (by rw [List.length_map, List.length_range]; exact Nat.le_of_not_lt hi), List.getElem?_eq_none (by rw [List.length_map, List.length_zipWith, bitsL_length, bitsL_length]; omega)]
    refine ite2 (fun h => ?_) (fun h => rdSeq ?_)
    · rw [if_pos h] at q
      refine ⟨by decide, by decide, i_lcL walk_rangeL (fun i => .int ((x / 2 ^ i % 2) * (y / 2 ^ i % 2))) (by rw [List.length_range]; exact line5' (by decide)) (fun _ _ _ => trivial) (fun i hi H1 Q' sm q' => ?_) (fun p hp => q _ _ ⟨hp, same_new hp, ?_⟩)⟩
      · have hi : i < 16 := List.mem_range.mp hi
        walk_at "rd"
        rw [show (0 : Int) + (i : Int) = (i : Int) by omega]
        refine i_ixL (sm.seq hA) (gg x i hi) (i_ixL (sm.seq hB) (gg y i hi) ?_)
        walk_at "rd"
        exact ⟨.inl ⟨by omega, by omega⟩, q'⟩
      · rw [upd_same, fin fun a b => a * b, bits_op Builtin.bitAnd (fun a b => a * b) band_div band_mod]
    rw [if_neg h] at q
    walk_at "rd"
    refine ite2 (fun h => ?_) (fun h => ?_)
    · rw [if_pos h] at q
      refine ⟨by decide, by decide, i_lcL walk_rangeL (fun i => .int (if (y / 2 ^ i % 2) > (x / 2 ^ i % 2) then (y / 2 ^ i % 2) else (x / 2 ^ i % 2))) (by rw [List.length_range]; exact line5' (by decide)) (fun _ _ _ => trivial) (fun i hi H1 Q' sm q' => ?_) (fun p hp => q _ _ ⟨hp, same_new hp, ?_⟩)⟩
      · have hi : i < 16 := List.mem_range.mp hi
        walk_at "rd"
        rw [show (0 : Int) + (i : Int) = (i : Int) by omega]
        refine i_ixL (sm.seq hA) (gg x i hi) (i_ixL (sm.seq hB) (gg y i hi) ?_)
        walk_at "rd"
        exact q'
      · rw [upd_same]
        have e : (List.range (Int.toNat 16)).map (fun i => V.int (if (y / 2 ^ i % 2) > (x / 2 ^ i % 2) then (y / 2 ^ i % 2) else (x / 2 ^ i % 2))) = (List.range (Int.toNat 16)).map (fun i => V.int ((x / 2 ^ i % 2) + (y / 2 ^ i % 2) - (x / 2 ^ i % 2) * (y / 2 ^ i % 2))) := by
          refine List.map_congr_left fun i _ => ?_
          congr 1
          rcases m01 (x / 2 ^ i) with h1 | h1 <;> rcases m01 (y / 2 ^ i) with h2 | h2 <;> rw [h1, h2] <;> decide
        rw [e, fin fun a b => a + b - a * b, bits_op Builtin.bitOr (fun a b => a + b - a * b) bor_div bor_mod]
    · rw [if_neg h] at q
      walk_at "rd"
      refine ⟨by decide, by decide, i_lcL walk_rangeL (fun i => .int ((x / 2 ^ i % 2 + y / 2 ^ i % 2) % 2)) (by rw [List.length_range]; exact line5' (by decide)) (fun _ _ _ => trivial) (fun i hi H1 Q' sm q' => ?_) (fun p hp => q _ _ ⟨hp, same_new hp, ?_⟩)⟩
      · have hi : i < 16 := List.mem_range.mp hi
        walk_at "rd"
        rw [show (0 : Int) + (i : Int) = (i : Int) by omega]
        refine i_ixL (sm.seq hA) (gg x i hi) (i_ixL (sm.seq hB) (gg y i hi) ?_)
        walk_at "rd"
        have e : (if (!decide (x / 2 ^ i % 2 = y / 2 ^ i % 2)) = true then (1 : Int) else 0) = (x / 2 ^ i % 2 + y / 2 ^ i % 2) % 2 := by
          rcases m01 (x / 2 ^ i) with h1 | h1 <;> rcases m01 (y / 2 ^ i) with h2 | h2 <;> rw [h1, h2] <;> decide
        rw [e]; exact q'
      · rw [upd_same, fin fun a b => (a + b) % 2, bits_op Builtin.bitXor (fun a b => (a + b) % 2) bxor_div bxor_mod]
def sp_law_shifted (K : PySem.W.Frag) : Sp := fun vs H Q _ => ∃ (s : Str) (a b : Addr) (x y : Int), vs = [.str s, .ref a, .ref b] ∧ Wd x ∧ SqL K H a ((bitsL 16 x).map V.int) ∧ SqL K H b ((bitsL 16 y).map V.int) ∧
  ∀ p H', NewL H H' p ((bitsL 16 (if s = "<<" then x * 2 ^ (y % 16).toNat else x / 2 ^ (y % 16).toNat)).map V.int) → Q (.ref p) H'
theorem ok_law_shifted (T : Txt K mg) : FnOk P w K mg base CX0 1 T.f_law_shifted T.d_law_shifted ["_law_sign", "_law_one", "_law_two"] (sp_law_shifted K) := by
  refine T.k_law_shifted.ok sc_law_shifted (fun vs H Q E h => ?_) (fun cdv A outer s H vs Q E hr h => ?_)
  · obtain ⟨s, a, b, x, y, rfl, _⟩ := h
    rfl
  · obtain ⟨s, a, b, x, y, rfl, hw, hA, hB, q⟩ := h
    refine ⟨_, (pss_cons (ps_set (i := 3) sc_law_shifted.nd rfl (.inl rfl) (pe_op op_add (pe_op op_add (pe_op op_add (pe_ix (ix_listK K) (pv 2) pe_int (fun _ _ => rfl)) (pe_op op_mul pe_int (pe_ix (ix_listK K) (pv 2) pe_int (fun _ _ => rfl)))) (pe_op op_mul pe_int (pe_ix (ix_listK K) (pv 2) pe_int (fun _ _ => rfl)))) (pe_op op_mul pe_int (pe_ix (ix_listK K) (pv 2) pe_int (fun _ _ => rfl)))))
      (pss_cons (ps_if (pt_cmpR op_eq (pv 0) pe_str (nomark _)) (pss_one (ps_ret (pe_op op_cat (pe_lc (own := [("_law_k", 4)]) (g := gName 4) (tt := tYes) rfl sc_law_shifted.nd (pi_range1 (by rfl) T.m_range (pa_cons (pv 3) pa_nil)) (blkOk_by (own := [("_law_k", 4)]) (N := ["_law_sign", "_law_one", "_law_two", "_law_many", "_law_k"]) (sc := defScope s_law_shifted) (by decide +kernel)) (fun _ _ _ _ _ => pg_name (i := 4) sc_law_shifted.nd rfl (Or.inl rfl)) (fun _ _ _ _ _ => pts_nil) (fun _ _ _ _ _ => pe_int)) (pe_slice (sl_listK K) (pv 1) po_none (po_some (pe_op op_sub pe_int (pv 3))))))) pss_nil)
      (pss_one (ps_ret (pe_op op_cat (pe_slice (sl_listK K) (pv 1) (po_some (pv 3)) po_none) (pe_lc (own := [("_law_k", 4)]) (g := gName 4) (tt := tYes) rfl sc_law_shifted.nd (pi_range1 (by rfl) T.m_range (pa_cons (pv 3) pa_nil)) (blkOk_by (own := [("_law_k", 4)]) (N := ["_law_sign", "_law_one", "_law_two", "_law_many", "_law_k"]) (sc := defScope s_law_shifted) (by decide +kernel)) (fun _ _ _ _ _ => pg_name (i := 4) sc_law_shifted.nd rfl (Or.inl rfl)) (fun _ _ _ _ _ => pts_nil) (fun _ _ _ _ _ => (pe_ix (ix_listK K) (pv 1) pe_int (fun _ _ => rfl))))))))), ?_⟩
    walk_at "rd"
    refine rdSeq ?_
    walk_at "rd"
    have gg : ∀ (x : Int) (i : Nat), i < 16 → atI ((bitsL 16 x).map V.int) (i : Int) = some (.int ((x / 2 ^ i) % 2)) := fun x i hi => atI_nat (by rw [List.getElem?_map, bitsL_get 16 i x hi]; rfl)
    refine i_ixL hB (gg y 0 (by decide)) (i_ixL hB (gg y 1 (by decide)) ?_)
    walk_at "rd"
    refine ⟨cm_l (by decide), i_ixL hB (gg y 2 (by decide)) ?_⟩
    walk_at "rd"
    refine ⟨cm_l (by decide), i_ixL hB (gg y 3 (by decide)) ?_⟩
    walk_at "rd"
    refine ⟨cm_l (by decide), rdSeq ?_⟩
    have em : y / 2 ^ 0 % 2 + 2 * (y / 2 ^ 1 % 2) + 4 * (y / 2 ^ 2 % 2) + 8 * (y / 2 ^ 3 % 2) = (((y % 16).toNat : Nat) : Int) := by
      show y / 1 % 2 + 2 * (y / 2 % 2) + 4 * (y / 4 % 2) + 8 * (y / 8 % 2) = _
      omega
    rw [em]
    have hd : (y % 16).toNat ≤ 15 := by omega
    generalize (y % 16).toNat = d at hd q
    walk_at "rd"
    refine ite2 (fun h => ⟨by omega, by omega, ?_⟩) (fun h => ?_)
    · rw [if_pos h] at q
      refine i_lcL walk_rangeL (fun _ => .int 0) (by rw [List.length_range]; exact line5' (by omega)) (fun _ _ _ => trivial) (fun c _ H1 Q' _ q' => q') (fun z hz => ?_)
      refine i_slL ((same_new hz).seq hA) fun c hc => ?_
      have nzc : z ≠ c := ne_of_none upd_same hc
      have s1 := (same_new (o := HO.lst ((List.range ((d : Int)).toNat).map fun _ => V.int 0)) hz)
      have s2 := s1.trans (same_new (o := HO.lst (cutV ((bitsL 16 x).map V.int) none (some (16 - (d : Int))))) hc)
      refine i_cat (by rw [upd_ne nzc]; exact upd_same) upd_same (by
        have := List.length_take_le (16 - d) ((bitsL 16 x).map V.int)
        rw [show (16 : Int) - (d : Int) = ((16 - d : Nat) : Int) by omega, cut_take, List.length_map, List.length_range]
        rw [sizeLine_eq]; omega) fun f hf => ?_
      have e1 : ((List.range ((d : Int)).toNat).map fun _ => V.int 0) ++ cutV ((bitsL 16 x).map V.int) none (some (16 - (d : Int))) = (bitsL 16 (x * 2 ^ d)).map V.int := by
        have h3 := bitsL_take (16 - d) d x
        have h4 := bitsL_shl d (16 - d) x
        rw [show 16 - d + d = 16 by omega] at h3
        rw [show d + (16 - d) = 16 by omega] at h4
        rw [rep_eq, show (16 : Int) - (d : Int) = ((16 - d : Nat) : Int) by omega, cut_take, ← List.map_take, ← List.map_append, h3, ← h4]; rfl
      rw [e1]
      exact q _ _ ⟨s2.free hf, s2.trans (same_new hf), upd_same⟩
    · rw [if_neg h] at q
      walk_at "rd"
      refine i_slL hA fun c hc => ⟨by omega, by omega, ?_⟩
      refine i_lcL walk_rangeL (fun _ => .int ((x / 32768) % 2)) (by rw [List.length_range]; exact line5' (by omega)) (fun _ _ _ => trivial) (fun i _ H1 Q' sm q' => ?_) (fun z hz => ?_)
      · walk_at "rd"
        exact i_ixL (((same_new hc).trans sm).seq hA) (gg x 15 (by decide)) q'
      have nzc : c ≠ z := ne_of_none upd_same hz
      have s1 := (same_new (o := HO.lst (cutV ((bitsL 16 x).map V.int) (some (d : Int)) none)) hc)
      have s2 := s1.trans (same_new (o := HO.lst ((List.range ((d : Int)).toNat).map fun _ => V.int ((x / 32768) % 2))) hz)
      refine i_cat (by rw [upd_ne nzc]; exact upd_same) upd_same (by
        rw [cut_drop, List.length_map, List.length_range, List.length_drop, List.length_map, bitsL_length]
        rw [sizeLine_eq]; omega) fun f hf => ?_
      have e1 : cutV ((bitsL 16 x).map V.int) (some (d : Int)) none ++ ((List.range ((d : Int)).toNat).map fun _ => V.int ((x / 32768) % 2)) = (bitsL 16 (x / 2 ^ d)).map V.int := by
        rw [rep_eq, cut_drop, ← List.map_drop, ← List.map_append]
        exact congrArg (List.map V.int) (bitsL_shr hw.1 hw.2 hd)
      rw [e1]
      exact q _ _ ⟨s2.free hf, s2.trans (same_new hf), upd_same⟩
def sp_law_compared (K : PySem.W.Frag) : Sp := fun vs H Q _ => ∃ (s : Str) (l r : Int), vs = [.str s, .int l, .int r] ∧ inS s ["==", "!=", "<", "<=", ">", ">="] = true ∧ ∀ H', Same H H' → Q (.int (if cmpI s l r = true then 1 else 0)) H'
theorem ok_law_compared (T : Txt K mg) : FnOk P w K mg base CX0 1 T.f_law_compared T.d_law_compared ["_law_sign", "_law_left", "_law_right"] (sp_law_compared K) := by
  refine T.k_law_compared.ok sc_law_compared (fun vs H Q E h => ?_) (fun cdv A outer s H vs Q E hr h => ?_)
  · obtain ⟨s, l, r, rfl, _⟩ := h
    rfl
  · obtain ⟨s, l, r, rfl, hs, q⟩ := h
    refine ⟨_, (pss_cons (ps_set (i := 3) sc_law_compared.nd rfl (.inl rfl) (pe_lst (pa_cons (pe_cmpR op_eq (pv 1) (pv 2) (nomark _)) (pa_cons (pe_cmpR op_ne (pv 1) (pv 2) (nomark _)) (pa_cons (pe_cmpR op_lt (pv 1) (pv 2) (nomark _)) (pa_cons (pe_or (pe_cmpR op_lt (pv 1) (pv 2) (nomark _)) (pe_one (pe_cmpR op_eq (pv 1) (pv 2) (nomark _)))) (pa_cons (pe_cmpR op_lt (pv 2) (pv 1) (nomark _)) pa_nil)))))))
      (pss_cons (ps_expr (pe_bm PySem.F.plainAttrs_list PySem.F.slot_list_append PySem.F.type_list_append mt_append (pv 3) (pa_cons (pe_or (pe_cmpR op_lt (pv 2) (pv 1) (nomark _)) (pe_one (pe_cmpR op_eq (pv 1) (pv 2) (nomark _)))) pa_nil)))
      (pss_cons (ps_set (i := 4) sc_law_compared.nd rfl (.inl rfl) (pe_lst (pa_cons pe_str (pa_cons pe_str (pa_cons pe_str (pa_cons pe_str (pa_cons pe_str (pa_cons pe_str pa_nil))))))))
      (pss_one (ps_ret (pe_callTy call_intI (by rfl) T.m_int (by decide +kernel) (pa_cons (pe_ix (ix_listK K) (pv 3) (pe_bm PySem.F.plainAttrs_list PySem.F.slot_list_index PySem.F.type_list_index mt_index (pv 4) (pa_cons (pv 0) pa_nil)) (fun _ _ => rfl)) pa_nil))))))), ?_⟩
    walk_at "rd"
    refine rdSeq ?_
    walk_at "rd"
    have q : ∀ (H' : Hp) (b : Bool), Same H H' → b = cmpI s l r → Q (.int (if b = true then 1 else 0)) H' := fun H' b sm e => by rw [e]; exact q H' sm
    have hs : s = "==" ∨ s = "!=" ∨ s = "<" ∨ s = "<=" ∨ s = ">" ∨ s = ">=" := by
      simp only [inS, inV, List.map, List.any_cons, List.any_nil, Bool.or_false, Bool.or_eq_true, eqV, beq_iff_eq] at hs
      rcases hs with h | h | h | h | h | h
      · exact .inl h.symm
      · exact .inr (.inl h.symm)
      · exact .inr (.inr (.inl h.symm))
      · exact .inr (.inr (.inr (.inl h.symm)))
      · exact .inr (.inr (.inr (.inr (.inl h.symm))))
      · exact .inr (.inr (.inr (.inr (.inr h.symm))))
    refine ite2 (fun h1 => ?_) (fun h1 => ?_)
    all_goals
      intro p hp
      refine rdSeq ?_
      walk_at "rd"
      refine ⟨ty_app (sqL_of upd_same), ?_⟩
      refine ite2 (fun h2 => i_app upd_same (line5' (by show (5 : Nat) ≤ _; decide)) (rdSeq ?_)) (fun h2 => i_app upd_same (line5' (by show (5 : Nat) ≤ _; decide)) (rdSeq ?_))
      all_goals
        rw [upd_upd]
        walk_at "rd"
        intro p2 hp2
        refine ⟨ty_app (sqL_of upd_same), ?_⟩
        have sq : ∀ {o}, SqL K (upd (upd H p o) p2 (HO.lst [V.str (Str.ofString "=="), V.str (Str.ofString "!="), V.str (Str.ofString "<"), V.str (Str.ofString "<="), V.str (Str.ofString ">"), V.str (Str.ofString ">=")])) p2 ((["==", "!=", "<", "<=", ">", ">="] : List Str).map V.str) := sqL_of upd_same
        have np : p ≠ p2 := ne_of_none upd_same hp2
        have sm := (same_new hp).trans (same_new hp2 (o := HO.lst [V.str (Str.ofString "=="), V.str (Str.ofString "!="), V.str (Str.ofString "<"), V.str (Str.ofString "<="), V.str (Str.ofString ">"), V.str (Str.ofString ">=")]))
        rcases hs with rfl | rfl | rfl | rfl | rfl | rfl
        · refine i_indexS sq (j := 0) rfl (by decide) (i_ixL (sqL_of (by rw [upd_ne np]; exact upd_same)) rfl ?_)
          exact q _ _ sm rfl
        · refine i_indexS sq (j := 1) rfl (by decide) (i_ixL (sqL_of (by rw [upd_ne np]; exact upd_same)) rfl ?_)
          exact q _ _ sm rfl
        · refine i_indexS sq (j := 2) rfl (by decide) (i_ixL (sqL_of (by rw [upd_ne np]; exact upd_same)) rfl ?_)
          exact q _ _ sm rfl
        · refine i_indexS sq (j := 3) rfl (by decide) (i_ixL (sqL_of (by rw [upd_ne np]; exact upd_same)) rfl ?_)
          exact q _ _ sm (by show _ = decide (l ≤ r); first | exact (decide_eq_true (by omega)).symm | exact decide_eq_decide.mpr ⟨fun h => by omega, fun h => by omega⟩)
        · refine i_indexS sq (j := 4) rfl (by decide) (i_ixL (sqL_of (by rw [upd_ne np]; exact upd_same)) rfl ?_)
          exact q _ _ sm rfl
        · refine i_indexS sq (j := 5) rfl (by decide) (i_ixL (sqL_of (by rw [upd_ne np]; exact upd_same)) rfl ?_)
          exact q _ _ sm (by show _ = decide (r ≤ l); first | exact (decide_eq_true (by omega)).symm | exact decide_eq_decide.mpr ⟨fun h => by omega, fun h => by omega⟩)
def SG : List Str := ["+", "-", "*", "/", "mod", "&", "|", "^", "<<", ">>", "==", "!=", "<", "<=", ">", ">="]
theorem opV_add {l r : Int} : opV "+" l r = .int (wrapI (l + r)) := rfl
theorem opV_sub {l r : Int} : opV "-" l r = .int (wrapI (l - r)) := rfl
theorem opV_mul {l r : Int} : opV "*" l r = .int (wrapI (l * r)) := rfl
theorem opV_and {l r : Int} : opV "&" l r = .int (wrapI (Builtin.bitAnd l r)) := rfl
theorem opV_or {l r : Int} : opV "|" l r = .int (wrapI (Builtin.bitOr l r)) := rfl
theorem opV_xor {l r : Int} : opV "^" l r = .int (wrapI (Builtin.bitXor l r)) := rfl
theorem opV_shl {l r : Int} : opV "<<" l r = .int (wrapI (l * 2 ^ (r % 16).toNat)) := by rw [← PyProof.Rows.bitAnd_m4]; rfl
theorem opV_shr {l r : Int} : opV ">>" l r = .int (wrapI (l / 2 ^ (r % 16).toNat)) := by rw [← PyProof.Rows.bitAnd_m4]; rfl
theorem opV_div {l r : Int} (h : r ≠ 0) : opV "/" l r = .int (wrapI (divI l r)) := by
  show (if r = 0 then V.non else V.int (wrapI (divI l r))) = _
  rw [if_neg h]
theorem opV_mod {l r : Int} (h : r ≠ 0) : opV "mod" l r = .int (l - r * divI l r) := by
  show (if r = 0 then V.non else V.int (l - r * divI l r)) = _
  rw [if_neg h]
theorem bits_not : ∀ (n : Nat) (y : Int), (bitsL n y).map (fun b => 1 - b) = bitsL n (-y - 1)
  | 0, _ => rfl
  | n + 1, y => by
    rw [bitsL, bitsL, List.map_cons, bits_not n]
    congr 1
    · omega
    · congr 1; omega
def sp_law_expected (K : PySem.W.Frag) : Sp := fun vs H Q _ => ∃ (s : Str) (l r : Int), vs = [.str s, .int l, .int r] ∧ s ∈ SG ∧ Wd l ∧ Wd r ∧ ∀ H', Same H H' → Q (opV s l r) H'
theorem ok_law_expected (T : Txt K mg) : FnOk P w K mg base CX0 3 T.f_law_expected T.d_law_expected ["_law_sign", "_law_left", "_law_right"] (sp_law_expected K) := by
  refine T.k_law_expected.ok sc_law_expected (fun vs H Q E h => ?_) (fun cdv A outer s H vs Q E hr h => ?_)
  · obtain ⟨s, l, r, rfl, _⟩ := h
    rfl
  · obtain ⟨s, l, r, rfl, hs, hl, hr', q⟩ := h
    have q : ∀ H' v, Same H H' → opV s l r = v → Q v H' := fun H' v sm e => by rw [← e]; exact q H' sm
    refine ⟨_, (pss_cons (ps_set (i := 3) sc_law_expected.nd rfl (.inl rfl) (pe_call (ok_law_bits T) (hr.mono (by decide)) (by rfl) T.g_law_bits T.k_law_bits.kp T.b_law_bits .nil pass0 (pa_cons (pv 1) pa_nil)))
      (pss_cons (ps_set (i := 4) sc_law_expected.nd rfl (.inl rfl) (pe_call (ok_law_bits T) (hr.mono (by decide)) (by rfl) T.g_law_bits T.k_law_bits.kp T.b_law_bits .nil pass0 (pa_cons (pv 2) pa_nil)))
      (pss_cons (ps_if (PW.pt (pw_or (pt_cmpR op_eq (pv 0) pe_str (nomark _)) (pw_or1 (pt_cmpR op_eq (pv 0) pe_str (nomark _))))) (pss_cons (ps_if (pt_cmpR op_eq (pv 2) pe_int (nomark _)) (pss_one (ps_ret pe_non)) pss_nil)
      (pss_cons (ps_set (i := 5) sc_law_expected.nd rfl (.inl rfl) (pe_call (ok_law_quotient T) (hr.mono (by decide)) (by rfl) T.g_law_quotient T.k_law_quotient.kp T.b_law_quotient .nil pass0 (pa_cons (pv 1) (pa_cons (pv 2) pa_nil))))
      (pss_cons (ps_if (pt_cmpR op_eq (pv 0) pe_str (nomark _)) (pss_one (ps_ret (pe_ix (ix_tupK K) (pv 5) pe_int (fun _ _ => rfl)))) pss_nil)
      (pss_one (ps_ret (pe_call (ok_law_value T) (hr.mono (by decide)) (by rfl) T.g_law_value T.k_law_value.kp T.b_law_value .nil pass0 (pa_cons (pe_call (ok_law_bits T) (hr.mono (by decide)) (by rfl) T.g_law_bits T.k_law_bits.kp T.b_law_bits .nil pass0 (pa_cons (pe_op op_sub (pe_op op_modP (pe_callTy call_intI (by rfl) T.m_int (by decide +kernel) (pa_cons (pe_op op_add (pe_ix (ix_tupK K) (pv 5) pe_int (fun _ _ => rfl)) pe_int) pa_nil)) pe_int) pe_int) pa_nil)) pa_nil))))))) pss_nil)
      (pss_cons (ps_if (pt_cmpR op_eq (pv 0) pe_str (nomark _)) (pss_one (ps_ret (pe_call (ok_law_value T) (hr.mono (by decide)) (by rfl) T.g_law_value T.k_law_value.kp T.b_law_value .nil pass0 (pa_cons (pe_call (ok_law_sum T) (hr.mono (by decide)) (by rfl) T.g_law_sum T.k_law_sum.kp T.b_law_sum .nil pass0 (pa_cons (pv 3) (pa_cons (pv 4) (pa_cons pe_int pa_nil)))) pa_nil)))) pss_nil)
      (pss_cons (ps_if (pt_cmpR op_eq (pv 0) pe_str (nomark _)) (pss_one (ps_ret (pe_call (ok_law_value T) (hr.mono (by decide)) (by rfl) T.g_law_value T.k_law_value.kp T.b_law_value .nil pass0 (pa_cons (pe_call (ok_law_sum T) (hr.mono (by decide)) (by rfl) T.g_law_sum T.k_law_sum.kp T.b_law_sum .nil pass0 (pa_cons (pv 3) (pa_cons (pe_lc (own := [("_law_bit", 6)]) (g := gName 6) (tt := tYes) rfl sc_law_expected.nd (pi_list (pv 4)) (blkOk_by (own := [("_law_bit", 6)]) (N := ["_law_sign", "_law_left", "_law_right", "_law_one", "_law_two", "_law_pair", "_law_bit"]) (sc := defScope s_law_expected) (by decide +kernel)) (fun _ _ _ _ _ => pg_name (i := 6) sc_law_expected.nd rfl (Or.inl rfl)) (fun _ _ _ _ _ => pts_nil) (fun _ _ _ _ _ => (pe_op op_sub pe_int (pv 6)))) (pa_cons pe_int pa_nil)))) pa_nil)))) pss_nil)
      (pss_cons (ps_if (pt_cmpR op_eq (pv 0) pe_str (nomark _)) (pss_one (ps_ret (pe_call (ok_law_value T) (hr.mono (by decide)) (by rfl) T.g_law_value T.k_law_value.kp T.b_law_value .nil pass0 (pa_cons (pe_call (ok_law_product T) (hr.mono (by decide)) (by rfl) T.g_law_product T.k_law_product.kp T.b_law_product .nil pass0 (pa_cons (pv 3) (pa_cons (pv 4) pa_nil))) pa_nil)))) pss_nil)
      (pss_cons (ps_if (pt_cmpR (in_seqK K) (pv 0) (pe_lst (pa_cons pe_str (pa_cons pe_str (pa_cons pe_str pa_nil)))) rfl) (pss_one (ps_ret (pe_call (ok_law_value T) (hr.mono (by decide)) (by rfl) T.g_law_value T.k_law_value.kp T.b_law_value .nil pass0 (pa_cons (pe_call (ok_law_bitwise T) (hr.mono (by decide)) (by rfl) T.g_law_bitwise T.k_law_bitwise.kp T.b_law_bitwise .nil pass0 (pa_cons (pv 0) (pa_cons (pv 3) (pa_cons (pv 4) pa_nil)))) pa_nil)))) pss_nil)
      (pss_cons (ps_if (PW.pt (pw_or (pt_cmpR op_eq (pv 0) pe_str (nomark _)) (pw_or1 (pt_cmpR op_eq (pv 0) pe_str (nomark _))))) (pss_one (ps_ret (pe_call (ok_law_value T) (hr.mono (by decide)) (by rfl) T.g_law_value T.k_law_value.kp T.b_law_value .nil pass0 (pa_cons (pe_call (ok_law_shifted T) (hr.mono (by decide)) (by rfl) T.g_law_shifted T.k_law_shifted.kp T.b_law_shifted .nil pass0 (pa_cons (pv 0) (pa_cons (pv 3) (pa_cons (pv 4) pa_nil)))) pa_nil)))) pss_nil)
      (pss_one (ps_ret (pe_call (ok_law_compared T) (hr.mono (by decide)) (by rfl) T.g_law_compared T.k_law_compared.kp T.b_law_compared .nil pass0 (pa_cons (pv 0) (pa_cons (pv 1) (pa_cons (pv 2) pa_nil)))))))))))))), ?_⟩
    walk_at "rd"
    refine rdSeq ?_
    walk_at "rd"
    refine ⟨l, rfl, fun a H1 n1 => rdSeq ?_⟩
    walk_at "rd"
    refine ⟨r, rfl, fun b H2 n2 => rdSeq ?_⟩
    have hA : SqL K H2 a ((bitsL 16 l).map V.int) := n2.same.seq n1.sq
    have hB : SqL K H2 b ((bitsL 16 r).map V.int) := n2.sq
    have sm := n1.same.trans n2.same
    walk_at "rd"
    simp only [SG, List.mem_cons, List.not_mem_nil, or_false] at hs
    rcases hs with rfl | rfl | rfl | rfl | rfl | rfl | rfl | rfl | rfl | rfl | rfl | rfl | rfl | rfl | rfl | rfl
    · refine i_else (by decide) (i_else (by decide) (rdSeq ?_))
      walk_at "rd"
      refine ⟨a, b, l, r, 0, rfl, hA, hB, fun p H3 n3 => ⟨p, _, rfl, n3.sq, fun H4 sm4 => ?_⟩⟩
      exact q _ _ (sm.trans (n3.same.trans sm4)) (by rw [opV_add, Int.add_zero])
    · refine i_else (by decide) (i_else (by decide) (rdSeq ?_))
      walk_at "rd"
      refine i_else (by decide) (rdSeq ?_)
      walk_at "rd"
      refine ⟨⟨_, hB⟩, ?_⟩
      refine i_lcL walk_listL (fun x => .int (1 - x)) (by rw [bitsL_length]; exact line5' (by decide)) (fun D ys hD => (same_new hD).seq hB) (fun x _ H1 Q' _ q' => ?_) (fun p hp => ?_)
      · walk_at "rd"
        exact q'
      refine ⟨a, p, l, -r - 1, 1, rfl, (same_new hp).seq hA, sqL_of (by rw [upd_same, ← bits_not, List.map_map]; rfl), fun c H3 n3 => ⟨c, _, rfl, n3.sq, fun H4 sm4 => ?_⟩⟩
      refine q _ _ (sm.trans ((same_new hp).trans (n3.same.trans sm4))) ?_
      rw [opV_sub]
      congr 1
      unfold wrapI; omega
    · refine i_else (by decide) (i_else (by decide) (rdSeq ?_))
      walk_at "rd"
      refine i_else (by decide) (rdSeq ?_)
      walk_at "rd"
      refine i_else (by decide) (rdSeq ?_)
      walk_at "rd"
      refine ⟨a, b, l, r, rfl, hA, hB, fun p H3 n3 => ⟨p, _, rfl, n3.sq, fun H4 sm4 => ?_⟩⟩
      exact q _ _ (sm.trans (n3.same.trans sm4)) opV_mul
    · refine i_then rfl (rdSeq ?_)
      walk_at "rd"
      refine ite2 (fun h => q _ _ sm (by subst h; rfl)) (fun h => rdSeq ?_)
      walk_at "rd"
      refine ⟨l, r, rfl, hl, hr', h, fun p H3 hp sm3 e3 => rdSeq ?_⟩
      walk_at "rd"
      refine i_else (by decide) ?_
      walk_at "rd"
      refine i_ixT (sqT_of e3) (atI_nat (j := 0) rfl) ?_
      walk_at "rd"
      refine ⟨_, rfl, fun c H4 n4 => ⟨c, _, rfl, n4.sq, fun H5 sm5 => ?_⟩⟩
      refine q _ _ ((sm.trans sm3).trans (n4.same.trans sm5)) ?_
      rw [opV_div h]
      congr 1
      unfold wrapI; omega
    · refine i_else (by decide) (i_then rfl (rdSeq ?_))
      walk_at "rd"
      refine ite2 (fun h => q _ _ sm (by subst h; rfl)) (fun h => rdSeq ?_)
      walk_at "rd"
      refine ⟨l, r, rfl, hl, hr', h, fun p H3 hp sm3 e3 => rdSeq ?_⟩
      walk_at "rd"
      refine i_ixT (sqT_of e3) (atI_nat (j := 1) rfl) ?_
      exact q _ _ (sm.trans sm3) (opV_mod h)
    · refine i_else (by decide) (i_else (by decide) (rdSeq ?_))
      walk_at "rd"
      refine i_else (by decide) (rdSeq ?_)
      walk_at "rd"
      refine i_else (by decide) (rdSeq ?_)
      walk_at "rd"
      refine i_else (by decide) (rdSeq ?_)
      walk_at "rd"
      intro c hc
      refine i_inL (xs := [V.str (Str.ofString "&"), V.str (Str.ofString "|"), V.str (Str.ofString "^")]) (.inl (sqL_of upd_same)) rfl rfl ?_
      walk_at "rd"
      refine i_then (by decide) ?_
      refine ⟨_, a, b, l, r, rfl, (same_new hc).seq hA, (same_new hc).seq hB, fun p H3 n3 => ⟨p, _, rfl, n3.sq, fun H4 sm4 => ?_⟩⟩
      exact q _ _ (sm.trans ((same_new hc).trans (n3.same.trans sm4))) opV_and
    · refine i_else (by decide) (i_else (by decide) (rdSeq ?_))
      walk_at "rd"
      refine i_else (by decide) (rdSeq ?_)
      walk_at "rd"
      refine i_else (by decide) (rdSeq ?_)
      walk_at "rd"
      refine i_else (by decide) (rdSeq ?_)
      walk_at "rd"
      intro c hc
      refine i_inL (xs := [V.str (Str.ofString "&"), V.str (Str.ofString "|"), V.str (Str.ofString "^")]) (.inl (sqL_of upd_same)) rfl rfl ?_
      walk_at "rd"
      refine i_then (by decide) ?_
      refine ⟨_, a, b, l, r, rfl, (same_new hc).seq hA, (same_new hc).seq hB, fun p H3 n3 => ⟨p, _, rfl, n3.sq, fun H4 sm4 => ?_⟩⟩
      exact q _ _ (sm.trans ((same_new hc).trans (n3.same.trans sm4))) opV_or
    · refine i_else (by decide) (i_else (by decide) (rdSeq ?_))
      walk_at "rd"
      refine i_else (by decide) (rdSeq ?_)
      walk_at "rd"
      refine i_else (by decide) (rdSeq ?_)
      walk_at "rd"
      refine i_else (by decide) (rdSeq ?_)
      walk_at "rd"
      intro c hc
      refine i_inL (xs := [V.str (Str.ofString "&"), V.str (Str.ofString "|"), V.str (Str.ofString "^")]) (.inl (sqL_of upd_same)) rfl rfl ?_
      walk_at "rd"
      refine i_then (by decide) ?_
      refine ⟨_, a, b, l, r, rfl, (same_new hc).seq hA, (same_new hc).seq hB, fun p H3 n3 => ⟨p, _, rfl, n3.sq, fun H4 sm4 => ?_⟩⟩
      exact q _ _ (sm.trans ((same_new hc).trans (n3.same.trans sm4))) opV_xor
    · refine i_else (by decide) (i_else (by decide) (rdSeq ?_))
      walk_at "rd"
      refine i_else (by decide) (rdSeq ?_)
      walk_at "rd"
      refine i_else (by decide) (rdSeq ?_)
      walk_at "rd"
      refine i_else (by decide) (rdSeq ?_)
      walk_at "rd"
      intro c hc
      refine i_inL (xs := [V.str (Str.ofString "&"), V.str (Str.ofString "|"), V.str (Str.ofString "^")]) (.inl (sqL_of upd_same)) rfl rfl ?_
      walk_at "rd"
      refine i_else (by decide) (rdSeq ?_)
      have sm := sm.trans (same_new (o := HO.lst [V.str (Str.ofString "&"), V.str (Str.ofString "|"), V.str (Str.ofString "^")]) hc)
      have hA := (same_new (o := HO.lst [V.str (Str.ofString "&"), V.str (Str.ofString "|"), V.str (Str.ofString "^")]) hc).seq hA
      have hB := (same_new (o := HO.lst [V.str (Str.ofString "&"), V.str (Str.ofString "|"), V.str (Str.ofString "^")]) hc).seq hB
      walk_at "rd"
      refine ⟨_, a, b, l, r, rfl, hl, hA, hB, fun p H3 n3 => ⟨p, _, rfl, n3.sq, fun H4 sm4 => ?_⟩⟩
      exact q _ _ (sm.trans (n3.same.trans sm4)) opV_shl
    · refine i_else (by decide) (i_else (by decide) (rdSeq ?_))
      walk_at "rd"
      refine i_else (by decide) (rdSeq ?_)
      walk_at "rd"
      refine i_else (by decide) (rdSeq ?_)
      walk_at "rd"
      refine i_else (by decide) (rdSeq ?_)
      walk_at "rd"
      intro c hc
      refine i_inL (xs := [V.str (Str.ofString "&"), V.str (Str.ofString "|"), V.str (Str.ofString "^")]) (.inl (sqL_of upd_same)) rfl rfl ?_
      walk_at "rd"
      refine i_else (by decide) (rdSeq ?_)
      have sm := sm.trans (same_new (o := HO.lst [V.str (Str.ofString "&"), V.str (Str.ofString "|"), V.str (Str.ofString "^")]) hc)
      have hA := (same_new (o := HO.lst [V.str (Str.ofString "&"), V.str (Str.ofString "|"), V.str (Str.ofString "^")]) hc).seq hA
      have hB := (same_new (o := HO.lst [V.str (Str.ofString "&"), V.str (Str.ofString "|"), V.str (Str.ofString "^")]) hc).seq hB
      walk_at "rd"
      refine i_else (by decide) (⟨_, a, b, l, r, rfl, hl, hA, hB, fun p H3 n3 => ⟨p, _, rfl, n3.sq, fun H4 sm4 => ?_⟩⟩)
      exact q _ _ (sm.trans (n3.same.trans sm4)) opV_shr
    · refine i_else (by decide) (i_else (by decide) (rdSeq ?_))
      walk_at "rd"
      refine i_else (by decide) (rdSeq ?_)
      walk_at "rd"
      refine i_else (by decide) (rdSeq ?_)
      walk_at "rd"
      refine i_else (by decide) (rdSeq ?_)
      walk_at "rd"
      intro c hc
      refine i_inL (xs := [V.str (Str.ofString "&"), V.str (Str.ofString "|"), V.str (Str.ofString "^")]) (.inl (sqL_of upd_same)) rfl rfl ?_
      walk_at "rd"
      refine i_else (by decide) (rdSeq ?_)
      have sm := sm.trans (same_new (o := HO.lst [V.str (Str.ofString "&"), V.str (Str.ofString "|"), V.str (Str.ofString "^")]) hc)
      have hA := (same_new (o := HO.lst [V.str (Str.ofString "&"), V.str (Str.ofString "|"), V.str (Str.ofString "^")]) hc).seq hA
      have hB := (same_new (o := HO.lst [V.str (Str.ofString "&"), V.str (Str.ofString "|"), V.str (Str.ofString "^")]) hc).seq hB
      walk_at "rd"
      refine i_else (by decide) (i_else (by decide) ?_)
      walk_at "rd"
      refine ⟨_, l, r, rfl, by decide, fun H3 sm3 => ?_⟩
      exact q _ _ (sm.trans sm3) rfl
    · refine i_else (by decide) (i_else (by decide) (rdSeq ?_))
      walk_at "rd"
      refine i_else (by decide) (rdSeq ?_)
      walk_at "rd"
      refine i_else (by decide) (rdSeq ?_)
      walk_at "rd"
      refine i_else (by decide) (rdSeq ?_)
      walk_at "rd"
      intro c hc
      refine i_inL (xs := [V.str (Str.ofString "&"), V.str (Str.ofString "|"), V.str (Str.ofString "^")]) (.inl (sqL_of upd_same)) rfl rfl ?_
      walk_at "rd"
      refine i_else (by decide) (rdSeq ?_)
      have sm := sm.trans (same_new (o := HO.lst [V.str (Str.ofString "&"), V.str (Str.ofString "|"), V.str (Str.ofString "^")]) hc)
      have hA := (same_new (o := HO.lst [V.str (Str.ofString "&"), V.str (Str.ofString "|"), V.str (Str.ofString "^")]) hc).seq hA
      have hB := (same_new (o := HO.lst [V.str (Str.ofString "&"), V.str (Str.ofString "|"), V.str (Str.ofString "^")]) hc).seq hB
      walk_at "rd"
      refine i_else (by decide) (i_else (by decide) ?_)
      walk_at "rd"
      refine ⟨_, l, r, rfl, by decide, fun H3 sm3 => ?_⟩
      exact q _ _ (sm.trans sm3) rfl
    · refine i_else (by decide) (i_else (by decide) (rdSeq ?_))
      walk_at "rd"
      refine i_else (by decide) (rdSeq ?_)
      walk_at "rd"
      refine i_else (by decide) (rdSeq ?_)
      walk_at "rd"
      refine i_else (by decide) (rdSeq ?_)
      walk_at "rd"
      intro c hc
      refine i_inL (xs := [V.str (Str.ofString "&"), V.str (Str.ofString "|"), V.str (Str.ofString "^")]) (.inl (sqL_of upd_same)) rfl rfl ?_
      walk_at "rd"
      refine i_else (by decide) (rdSeq ?_)
      have sm := sm.trans (same_new (o := HO.lst [V.str (Str.ofString "&"), V.str (Str.ofString "|"), V.str (Str.ofString "^")]) hc)
      have hA := (same_new (o := HO.lst [V.str (Str.ofString "&"), V.str (Str.ofString "|"), V.str (Str.ofString "^")]) hc).seq hA
      have hB := (same_new (o := HO.lst [V.str (Str.ofString "&"), V.str (Str.ofString "|"), V.str (Str.ofString "^")]) hc).seq hB
      walk_at "rd"
      refine i_else (by decide) (i_else (by decide) ?_)
      walk_at "rd"
      refine ⟨_, l, r, rfl, by decide, fun H3 sm3 => ?_⟩
      exact q _ _ (sm.trans sm3) rfl
    · refine i_else (by decide) (i_else (by decide) (rdSeq ?_))
      walk_at "rd"
      refine i_else (by decide) (rdSeq ?_)
      walk_at "rd"
      refine i_else (by decide) (rdSeq ?_)
      walk_at "rd"
      refine i_else (by decide) (rdSeq ?_)
      walk_at "rd"
      intro c hc
      refine i_inL (xs := [V.str (Str.ofString "&"), V.str (Str.ofString "|"), V.str (Str.ofString "^")]) (.inl (sqL_of upd_same)) rfl rfl ?_
      walk_at "rd"
      refine i_else (by decide) (rdSeq ?_)
      have sm := sm.trans (same_new (o := HO.lst [V.str (Str.ofString "&"), V.str (Str.ofString "|"), V.str (Str.ofString "^")]) hc)
      have hA := (same_new (o := HO.lst [V.str (Str.ofString "&"), V.str (Str.ofString "|"), V.str (Str.ofString "^")]) hc).seq hA
      have hB := (same_new (o := HO.lst [V.str (Str.ofString "&"), V.str (Str.ofString "|"), V.str (Str.ofString "^")]) hc).seq hB
      walk_at "rd"
      refine i_else (by decide) (i_else (by decide) ?_)
      walk_at "rd"
      refine ⟨_, l, r, rfl, by decide, fun H3 sm3 => ?_⟩
      exact q _ _ (sm.trans sm3) rfl
    · refine i_else (by decide) (i_else (by decide) (rdSeq ?_))
      walk_at "rd"
      refine i_else (by decide) (rdSeq ?_)
      walk_at "rd"
      refine i_else (by decide) (rdSeq ?_)
      walk_at "rd"
      refine i_else (by decide) (rdSeq ?_)
      walk_at "rd"
      intro c hc
      refine i_inL (xs := [V.str (Str.ofString "&"), V.str (Str.ofString "|"), V.str (Str.ofString "^")]) (.inl (sqL_of upd_same)) rfl rfl ?_
      walk_at "rd"
      refine i_else (by decide) (rdSeq ?_)
      have sm := sm.trans (same_new (o := HO.lst [V.str (Str.ofString "&"), V.str (Str.ofString "|"), V.str (Str.ofString "^")]) hc)
      have hA := (same_new (o := HO.lst [V.str (Str.ofString "&"), V.str (Str.ofString "|"), V.str (Str.ofString "^")]) hc).seq hA
      have hB := (same_new (o := HO.lst [V.str (Str.ofString "&"), V.str (Str.ofString "|"), V.str (Str.ofString "^")]) hc).seq hB
      walk_at "rd"
      refine i_else (by decide) (i_else (by decide) ?_)
      walk_at "rd"
      refine ⟨_, l, r, rfl, by decide, fun H3 sm3 => ?_⟩
      exact q _ _ (sm.trans sm3) rfl
    · refine i_else (by decide) (i_else (by decide) (rdSeq ?_))
      walk_at "rd"
      refine i_else (by decide) (rdSeq ?_)
      walk_at "rd"
      refine i_else (by decide) (rdSeq ?_)
      walk_at "rd"
      refine i_else (by decide) (rdSeq ?_)
      walk_at "rd"
      intro c hc
      refine i_inL (xs := [V.str (Str.ofString "&"), V.str (Str.ofString "|"), V.str (Str.ofString "^")]) (.inl (sqL_of upd_same)) rfl rfl ?_
      walk_at "rd"
      refine i_else (by decide) (rdSeq ?_)
      have sm := sm.trans (same_new (o := HO.lst [V.str (Str.ofString "&"), V.str (Str.ofString "|"), V.str (Str.ofString "^")]) hc)
      have hA := (same_new (o := HO.lst [V.str (Str.ofString "&"), V.str (Str.ofString "|"), V.str (Str.ofString "^")]) hc).seq hA
      have hB := (same_new (o := HO.lst [V.str (Str.ofString "&"), V.str (Str.ofString "|"), V.str (Str.ofString "^")]) hc).seq hB
      walk_at "rd"
      refine i_else (by decide) (i_else (by decide) ?_)
      walk_at "rd"
      refine ⟨_, l, r, rfl, by decide, fun H3 sm3 => ?_⟩
      exact q _ _ (sm.trans sm3) rfl
def sp_law (K : PySem.W.Frag) : Sp := fun vs H Q _ => ∃ (a : Addr) (ns : List Int), vs = [.ref a] ∧ SqL K H a (ns.map V.int) ∧ ns.length ≤ 63 ∧ ∀ H', Q (.bl true) H'
theorem same_mv {b : Addr} {H H1 H2 : Hp} (n : H b = none) (s : Same H H1) (m : Mv b H1 H2) : Same H H2 := fun c o e => m.old c o (ne_of_none e n) (s c o e)
theorem opV_ty {s : Str} {l r : Int} : opV s l r = .non ∨ ∃ i, opV s l r = .int i := by
  unfold opV
  split
  · split
    · exact .inl rfl
    · split <;> exact .inr ⟨_, rfl⟩
  · split <;> exact .inr ⟨_, rfl⟩
theorem ok_law (T : Txt K mg) : FnOk P w K mg base CX0 4 T.f_law T.d_law ["_law_script"] (sp_law K) := by
  refine T.k_law.ok sc_law (fun vs H Q E h => ?_) (fun cdv A outer s H vs Q E hr h => ?_)
  · obtain ⟨a, ns, rfl, _⟩ := h
    rfl
  · obtain ⟨a, ns, rfl, hS, hl, q⟩ := h
    refine ⟨_, (pss_cons (ps_set (i := 1) sc_law.nd rfl (.inl rfl) (pe_lst (pa_cons pe_str (pa_cons pe_str (pa_cons pe_str (pa_cons pe_str (pa_cons pe_str (pa_cons pe_str (pa_cons pe_str (pa_cons pe_str (pa_cons pe_str (pa_cons pe_str (pa_cons pe_str (pa_cons pe_str (pa_cons pe_str (pa_cons pe_str (pa_cons pe_str (pa_cons pe_str pa_nil))))))))))))))))))
      (pss_cons (ps_if (PW.pt (pw_or (pt_not (pt_val (pe_callB (isiK K) (by rfl) T.m_isinstance (by decide +kernel) (pa_cons (pe_glob (v := .ref T.a_SIGNS) rfl T.g_SIGNS rfl) (pa_cons (pe_bltn (v := .ty "tuple") (by rfl) T.m_tuple (by decide +kernel) rfl) pa_nil))))) (pw_or1 (pt_cmpR (op_neD hr.units) (pe_callTy call_list_of (by rfl) T.m_list (by decide +kernel) (pa_cons (pe_glob (v := .ref T.a_SIGNS) rfl T.g_SIGNS rfl) pa_nil)) (pv 1) (nomark _))))) (pss_one (ps_ret pe_bl)) pss_nil)
      (pss_cons (ps_for PassesOwn.never rfl (pi_range1 (by rfl) T.m_range (pa_cons (pe_callB (call_max2 rfl) (by rfl) T.m_max (by decide +kernel) (pa_cons pe_int (pa_cons (pe_callB (call_min2 rfl) (by rfl) T.m_min (by decide +kernel) (pa_cons pe_int (pa_cons (pe_callB (lenLK K) (by rfl) T.m_len (by decide +kernel) (pa_cons (pv 0) pa_nil)) pa_nil))) pa_nil))) pa_nil)) (pg_name (i := 2) sc_law.nd rfl (Or.inl rfl)) (pss_cons (ps_set (i := 3) sc_law.nd rfl (.inl rfl) (pe_call (ok_law_bag T) (hr.mono (by decide)) (by rfl) T.g_law_bag T.k_law_bag.kp T.b_law_bag .nil pass0 (pa_cons (pv 0) (pa_cons (pv 2) pa_nil))))
      (pss_cons (ps_set (i := 4) sc_law.nd rfl (.inl rfl) (pe_ix (ix_listK K) (pv 1) (pe_call (ok_law_draw T) (hr.mono (by decide)) (by rfl) T.g_law_draw T.k_law_draw.kp T.b_law_draw .nil pass0 (pa_cons (pv 3) (pa_cons pe_int pa_nil))) (fun _ _ => rfl)))
      (pss_cons (ps_set (i := 5) sc_law.nd rfl (.inl rfl) (pe_call (ok_law_word T) (hr.mono (by decide)) (by rfl) T.g_law_word T.k_law_word.kp T.b_law_word .nil pass0 (pa_cons (pv 3) (pa_cons pe_int pa_nil))))
      (pss_cons (ps_set (i := 6) sc_law.nd rfl (.inl rfl) (pe_call (ok_law_word T) (hr.mono (by decide)) (by rfl) T.g_law_word T.k_law_word.kp T.b_law_word .nil pass0 (pa_cons (pv 3) (pa_cons (pv 5) pa_nil))))
      (pss_cons (ps_set (i := 7) sc_law.nd rfl (.inl rfl) (pe_call (ok_op T) (hr.mono (by decide)) (by rfl) T.g_op T.k_op.kp T.b_op .nil pass0 (pa_cons (pv 4) (pa_cons (pv 5) (pa_cons (pv 6) pa_nil)))))
      (pss_cons (ps_set (i := 8) sc_law.nd rfl (.inl rfl) (pe_call (ok_law_expected T) (hr.mono (by decide)) (by rfl) T.g_law_expected T.k_law_expected.kp T.b_law_expected .nil pass0 (pa_cons (pv 4) (pa_cons (pv 5) (pa_cons (pv 6) pa_nil)))))
      (pss_one (ps_if (pt_cmpR op_isN (pv 8) pe_non (nomark _)) (pss_one (ps_if (pt_cmpR op_notN (pv 7) pe_non (nomark _)) (pss_one (ps_ret pe_bl)) pss_nil)) (pss_one (ps_if (PW.pt (pw_or (pt_not (pt_val (pe_callB (isiK K) (by rfl) T.m_isinstance (by decide +kernel) (pa_cons (pv 7) (pa_cons (pe_bltn (v := .ty "int") (by rfl) T.m_int (by decide +kernel) rfl) pa_nil))))) (pw_or (pt_val (pe_callB (isiK K) (by rfl) T.m_isinstance (by decide +kernel) (pa_cons (pv 7) (pa_cons (pe_bltn (v := .ty "bool") (by rfl) T.m_bool (by decide +kernel) rfl) pa_nil)))) (pw_or1 (pt_cmpR op_ne (pv 7) (pv 8) (nomark _)))))) (pss_one (ps_ret pe_bl)) pss_nil)))))))))))
      (pss_one (ps_ret pe_bl))))), ?_⟩
    walk_at "rd"
    refine rdSeq ?_
    walk_at "rd"
    intro p hp
    refine rdSeq ?_
    walk_at "rd"
    obtain ⟨o, ho, hc⟩ := T.y_SIGNS
    refine i_isi (.kTuple ho hc) kb_tt ?_
    walk_at "rd"
    refine ⟨_, .inr (T.s_SIGNS _), fun l hl' => ?_⟩
    have np : p ≠ l := ne_of_none upd_same hl'
    have sm1 := (same_new (o := HO.lst (SG.map V.str)) hp).trans (same_new (o := HO.lst (SG.map V.str)) hl')
    refine ⟨.list (SG.map .str), .list (SG.map .str), .lst (sqL_of upd_same) (dpStrs SG), .lst (sqL_of (by rw [upd_ne np]; exact upd_same)) (dpStrs SG), by decide +kernel, by decide +kernel, ?_⟩
    walk_at "rd"
    refine i_else (by decide +kernel) (rdSeq ?_)
    walk_at "rd"
    refine i_lenL (sm1.seq hS) ?_
    walk_at "rd"
    rw [List.length_map]
    have hj : -(2 ^ 62) ≤ (if (if (ns.length : Int) < 24 then (ns.length : Int) else 24) > 1 then (if (ns.length : Int) < 24 then (ns.length : Int) else 24) else 1) ∧ (if (if (ns.length : Int) < 24 then (ns.length : Int) else 24) > 1 then (if (ns.length : Int) < 24 then (ns.length : Int) else 24) else 1) < 2 ^ 62 := by split <;> (try split) <;> omega
    refine ⟨hj.1, hj.2, i_for walk_range (fun _ σ H' => Same H H' ∧ H' p = some (.lst (SG.map V.str)) ∧ ∃ y1 y2 y3 y4 y5 y6 y7, σ = [some (.ref a), some (.ref p), y1, y2, y3, y4, y5, y6, y7])
      ⟨sm1, by rw [upd_ne np]; exact upd_same, _, _, _, _, _, _, _, rfl⟩ (fun _ _ _ _ _ => trivial) ?_ (fun σ H' _ => q H')⟩
    rintro i x σ H1 H2 hi ⟨sm, hP, y1, y2, y3, y4, y5, y6, y7, rfl⟩ ⟨rfl, rfl⟩
    refine rdSeq ?_
    walk_at "rd"
    refine ⟨a, ns, 0 + i, by simp, sm.seq hS, fun b H3 hb hB sm2 => rdSeq ?_⟩
    have sm3 := sm.trans sm2
    walk_at "rd"
    refine i_draw (Mv.refl hB) (by decide) (by decide) fun r H4 r0 r1 _ mv => ?_
    have nb : p ≠ b := ne_of_none hP hb
    obtain ⟨v, ev, hv⟩ := at_of (xs := SG.map V.str) r0 r1
    obtain ⟨s, hs, rfl⟩ := List.mem_map.mp hv
    refine i_ixL (sqL_of (mv.old p _ nb (sm2 _ _ hP))) ev (rdSeq ?_)
    walk_at "rd"
    refine ⟨b, 7, rfl, mv.bag, ⟨by decide, by decide⟩, fun lf H5 wl mv5 => rdSeq ?_⟩
    walk_at "rd"
    refine ⟨b, lf, rfl, mv5.bag, wl, fun rt H6 wr mv6 => rdSeq ?_⟩
    have mv7 := mv.trans (mv5.trans mv6)
    walk_at "rd"
    refine ⟨s, lf, rt, rfl, wl, wr, fun H7 sm7 => rdSeq ?_⟩
    walk_at "rd"
    refine ⟨s, lf, rt, rfl, hs, wl, wr, fun H8 sm8 => ?_⟩
    have smH := (same_mv (sm.free hb) sm3 mv7).trans (sm7.trans sm8)
    have hP8 : H8 p = some (.lst (SG.map V.str)) := sm8 _ _ (sm7 _ _ (mv7.old p _ nb (sm2 _ _ hP)))
    rcases opV_ty (s := s) (l := lf) (r := rt) with e | ⟨w, e⟩
    · rw [e]
      walk_at "rd"
      exact ⟨smH, hP8⟩
    · rw [e]
      walk_at "rd"
      refine i_isi ty_int kb_ii ?_
      walk_at "rd"
      refine i_isi ty_int kb_ib ?_
      walk_at "rd"
      exact ⟨smH, hP8⟩

theorem all_mk {l : PySem.W.OpenLaw} {w : World} {K : PySem.W.Frag} {h : Heap} {mg : Str → Option Value} {fa : Addr} (X : K.In h) (G : h.Ns mainGlobals mg) (hfa : mg "law" = some (.ref fa))
    {f0 : Addr} {od0 an0 : Option Addr} {sl0 : Array (Option Value)} {oc0 kV0 dc0 pm0 cd0 ct0 : Value}
    {f1 : Addr} {od1 an1 : Option Addr} {sl1 : Array (Option Value)} {oc1 kV1 dc1 pm1 cd1 ct1 : Value}
    {f2 : Addr} {od2 an2 : Option Addr} {sl2 : Array (Option Value)} {oc2 kV2 dc2 pm2 cd2 ct2 : Value}
    {f3 : Addr} {od3 an3 : Option Addr} {sl3 : Array (Option Value)} {oc3 kV3 dc3 pm3 cd3 ct3 : Value}
    {f4 : Addr} {od4 an4 : Option Addr} {sl4 : Array (Option Value)} {oc4 kV4 dc4 pm4 cd4 ct4 : Value}
    {f5 : Addr} {od5 an5 : Option Addr} {sl5 : Array (Option Value)} {oc5 kV5 dc5 pm5 cd5 ct5 : Value}
    {f6 : Addr} {od6 an6 : Option Addr} {sl6 : Array (Option Value)} {oc6 kV6 dc6 pm6 cd6 ct6 : Value}
    {f7 : Addr} {od7 an7 : Option Addr} {sl7 : Array (Option Value)} {oc7 kV7 dc7 pm7 cd7 ct7 : Value}
    {f8 : Addr} {od8 an8 : Option Addr} {sl8 : Array (Option Value)} {oc8 kV8 dc8 pm8 cd8 ct8 : Value}
    {f9 : Addr} {od9 an9 : Option Addr} {sl9 : Array (Option Value)} {oc9 kV9 dc9 pm9 cd9 ct9 : Value}
    {f10 : Addr} {od10 an10 : Option Addr} {sl10 : Array (Option Value)} {oc10 kV10 dc10 pm10 cd10 ct10 : Value}
    {f11 : Addr} {od11 an11 : Option Addr} {sl11 : Array (Option Value)} {oc11 kV11 dc11 pm11 cd11 ct11 : Value}
    {f12 : Addr} {od12 an12 : Option Addr} {sl12 : Array (Option Value)} {oc12 kV12 dc12 pm12 cd12 ct12 : Value}
    {f13 : Addr} {od13 an13 : Option Addr} {sl13 : Array (Option Value)} {oc13 kV13 dc13 pm13 cd13 ct13 : Value}
    {f14 : Addr} {od14 an14 : Option Addr} {sl14 : Array (Option Value)} {oc14 kV14 dc14 pm14 cd14 ct14 : Value}
    {f15 : Addr} {od15 an15 : Option Addr} {sl15 : Array (Option Value)} {oc15 kV15 dc15 pm15 cd15 ct15 : Value}
    {f16 : Addr} {od16 an16 : Option Addr} {sl16 : Array (Option Value)} {oc16 kV16 dc16 pm16 cd16 ct16 : Value}
    {f17 : Addr} {od17 an17 : Option Addr} {sl17 : Array (Option Value)} {oc17 kV17 dc17 pm17 cd17 ct17 : Value}
    {qa0 : Addr} {qd0 : Option Addr} {qn0 : Nat} {qs0 : Array (Option Value)} {tq0_0 tq0_1 tq0_2 tq0_3 tq0_4 tq0_5 tq0_6 tq0_7 tq0_8 tq0_9 tq0_10 tq0_11 tq0_12 tq0_13 tq0_14 tq0_15 : Tok}
    {tk1 : Tok}
    (a0 : PySem.W.nsIn K mainGlobals "wrap" = some (some (.ref f0)))
    (l0 : K.lookup f0 = some ⟨oc0, od0, .func (PySem.W.fnOf "wrap" "wrap" (defArgs s_wrap) (defBody s_wrap) (defScope s_wrap) .none kV0 dc0 pm0 an0 cd0 ct0), sl0⟩) (c0 : PySem.W.codeIn K cd0 "wrap" = true) (k0 : PySem.W.keepIn K (.ref f0) = true)
    (a1 : PySem.W.nsIn K mainGlobals "divided" = some (some (.ref f1)))
    (l1 : K.lookup f1 = some ⟨oc1, od1, .func (PySem.W.fnOf "divided" "divided" (defArgs s_divided) (defBody s_divided) (defScope s_divided) .none kV1 dc1 pm1 an1 cd1 ct1), sl1⟩) (c1 : PySem.W.codeIn K cd1 "divided" = true) (k1 : PySem.W.keepIn K (.ref f1) = true)
    (a2 : PySem.W.nsIn K mainGlobals "arithmetic" = some (some (.ref f2)))
    (l2 : K.lookup f2 = some ⟨oc2, od2, .func (PySem.W.fnOf "arithmetic" "arithmetic" (defArgs s_arithmetic) (defBody s_arithmetic) (defScope s_arithmetic) .none kV2 dc2 pm2 an2 cd2 ct2), sl2⟩) (c2 : PySem.W.codeIn K cd2 "arithmetic" = true) (k2 : PySem.W.keepIn K (.ref f2) = true)
    (a3 : PySem.W.nsIn K mainGlobals "compared" = some (some (.ref f3)))
    (l3 : K.lookup f3 = some ⟨oc3, od3, .func (PySem.W.fnOf "compared" "compared" (defArgs s_compared) (defBody s_compared) (defScope s_compared) .none kV3 dc3 pm3 an3 cd3 ct3), sl3⟩) (c3 : PySem.W.codeIn K cd3 "compared" = true) (k3 : PySem.W.keepIn K (.ref f3) = true)
    (a4 : PySem.W.nsIn K mainGlobals "op" = some (some (.ref f4)))
    (l4 : K.lookup f4 = some ⟨oc4, od4, .func (PySem.W.fnOf "op" "op" (defArgs s_op) (defBody s_op) (defScope s_op) .none kV4 dc4 pm4 an4 cd4 ct4), sl4⟩) (c4 : PySem.W.codeIn K cd4 "op" = true) (k4 : PySem.W.keepIn K (.ref f4) = true)
    (a5 : PySem.W.nsIn K mainGlobals "_law_bag" = some (some (.ref f5)))
    (l5 : K.lookup f5 = some ⟨oc5, od5, .func (PySem.W.fnOf "_law_bag" "_law_bag" (defArgs s_law_bag) (defBody s_law_bag) (defScope s_law_bag) .none kV5 dc5 pm5 an5 cd5 ct5), sl5⟩) (c5 : PySem.W.codeIn K cd5 "_law_bag" = true) (k5 : PySem.W.keepIn K (.ref f5) = true)
    (a6 : PySem.W.nsIn K mainGlobals "_law_draw" = some (some (.ref f6)))
    (l6 : K.lookup f6 = some ⟨oc6, od6, .func (PySem.W.fnOf "_law_draw" "_law_draw" (defArgs s_law_draw) (defBody s_law_draw) (defScope s_law_draw) .none kV6 dc6 pm6 an6 cd6 ct6), sl6⟩) (c6 : PySem.W.codeIn K cd6 "_law_draw" = true) (k6 : PySem.W.keepIn K (.ref f6) = true)
    (a7 : PySem.W.nsIn K mainGlobals "_law_word" = some (some (.ref f7)))
    (l7 : K.lookup f7 = some ⟨oc7, od7, .func (PySem.W.fnOf "_law_word" "_law_word" (defArgs s_law_word) (defBody s_law_word) (defScope s_law_word) .none kV7 dc7 pm7 an7 cd7 ct7), sl7⟩) (c7 : PySem.W.codeIn K cd7 "_law_word" = true) (k7 : PySem.W.keepIn K (.ref f7) = true)
    (a8 : PySem.W.nsIn K mainGlobals "_law_bits" = some (some (.ref f8)))
    (l8 : K.lookup f8 = some ⟨oc8, od8, .func (PySem.W.fnOf "_law_bits" "_law_bits" (defArgs s_law_bits) (defBody s_law_bits) (defScope s_law_bits) .none kV8 dc8 pm8 an8 cd8 ct8), sl8⟩) (c8 : PySem.W.codeIn K cd8 "_law_bits" = true) (k8 : PySem.W.keepIn K (.ref f8) = true)
    (a9 : PySem.W.nsIn K mainGlobals "_law_value" = some (some (.ref f9)))
    (l9 : K.lookup f9 = some ⟨oc9, od9, .func (PySem.W.fnOf "_law_value" "_law_value" (defArgs s_law_value) (defBody s_law_value) (defScope s_law_value) .none kV9 dc9 pm9 an9 cd9 ct9), sl9⟩) (c9 : PySem.W.codeIn K cd9 "_law_value" = true) (k9 : PySem.W.keepIn K (.ref f9) = true)
    (a10 : PySem.W.nsIn K mainGlobals "_law_sum" = some (some (.ref f10)))
    (l10 : K.lookup f10 = some ⟨oc10, od10, .func (PySem.W.fnOf "_law_sum" "_law_sum" (defArgs s_law_sum) (defBody s_law_sum) (defScope s_law_sum) .none kV10 dc10 pm10 an10 cd10 ct10), sl10⟩) (c10 : PySem.W.codeIn K cd10 "_law_sum" = true) (k10 : PySem.W.keepIn K (.ref f10) = true)
    (a11 : PySem.W.nsIn K mainGlobals "_law_product" = some (some (.ref f11)))
    (l11 : K.lookup f11 = some ⟨oc11, od11, .func (PySem.W.fnOf "_law_product" "_law_product" (defArgs s_law_product) (defBody s_law_product) (defScope s_law_product) .none kV11 dc11 pm11 an11 cd11 ct11), sl11⟩) (c11 : PySem.W.codeIn K cd11 "_law_product" = true) (k11 : PySem.W.keepIn K (.ref f11) = true)
    (a12 : PySem.W.nsIn K mainGlobals "_law_quotient" = some (some (.ref f12)))
    (l12 : K.lookup f12 = some ⟨oc12, od12, .func (PySem.W.fnOf "_law_quotient" "_law_quotient" (defArgs s_law_quotient) (defBody s_law_quotient) (defScope s_law_quotient) .none kV12 dc12 pm12 an12 cd12 ct12), sl12⟩) (c12 : PySem.W.codeIn K cd12 "_law_quotient" = true) (k12 : PySem.W.keepIn K (.ref f12) = true)
    (a13 : PySem.W.nsIn K mainGlobals "_law_bitwise" = some (some (.ref f13)))
    (l13 : K.lookup f13 = some ⟨oc13, od13, .func (PySem.W.fnOf "_law_bitwise" "_law_bitwise" (defArgs s_law_bitwise) (defBody s_law_bitwise) (defScope s_law_bitwise) .none kV13 dc13 pm13 an13 cd13 ct13), sl13⟩) (c13 : PySem.W.codeIn K cd13 "_law_bitwise" = true) (k13 : PySem.W.keepIn K (.ref f13) = true)
    (a14 : PySem.W.nsIn K mainGlobals "_law_shifted" = some (some (.ref f14)))
    (l14 : K.lookup f14 = some ⟨oc14, od14, .func (PySem.W.fnOf "_law_shifted" "_law_shifted" (defArgs s_law_shifted) (defBody s_law_shifted) (defScope s_law_shifted) .none kV14 dc14 pm14 an14 cd14 ct14), sl14⟩) (c14 : PySem.W.codeIn K cd14 "_law_shifted" = true) (k14 : PySem.W.keepIn K (.ref f14) = true)
    (a15 : PySem.W.nsIn K mainGlobals "_law_compared" = some (some (.ref f15)))
    (l15 : K.lookup f15 = some ⟨oc15, od15, .func (PySem.W.fnOf "_law_compared" "_law_compared" (defArgs s_law_compared) (defBody s_law_compared) (defScope s_law_compared) .none kV15 dc15 pm15 an15 cd15 ct15), sl15⟩) (c15 : PySem.W.codeIn K cd15 "_law_compared" = true) (k15 : PySem.W.keepIn K (.ref f15) = true)
    (a16 : PySem.W.nsIn K mainGlobals "_law_expected" = some (some (.ref f16)))
    (l16 : K.lookup f16 = some ⟨oc16, od16, .func (PySem.W.fnOf "_law_expected" "_law_expected" (defArgs s_law_expected) (defBody s_law_expected) (defScope s_law_expected) .none kV16 dc16 pm16 an16 cd16 ct16), sl16⟩) (c16 : PySem.W.codeIn K cd16 "_law_expected" = true) (k16 : PySem.W.keepIn K (.ref f16) = true)
    (a17 : PySem.W.nsIn K mainGlobals "law" = some (some (.ref f17)))
    (l17 : K.lookup f17 = some ⟨oc17, od17, .func (PySem.W.fnOf "law" "law" (defArgs s_law) (defBody s_law) (defScope s_law) .none kV17 dc17 pm17 an17 cd17 ct17), sl17⟩) (c17 : PySem.W.codeIn K cd17 "law" = true) (k17 : PySem.W.keepIn K (.ref f17) = true)
    (z0 : PySem.W.nsIn K mainGlobals "abs" = some none)
    (z1 : PySem.W.nsIn K mainGlobals "bool" = some none)
    (z2 : PySem.W.nsIn K mainGlobals "int" = some none)
    (z3 : PySem.W.nsIn K mainGlobals "isinstance" = some none)
    (z4 : PySem.W.nsIn K mainGlobals "len" = some none)
    (z5 : PySem.W.nsIn K mainGlobals "list" = some none)
    (z6 : PySem.W.nsIn K mainGlobals "max" = some none)
    (z7 : PySem.W.nsIn K mainGlobals "min" = some none)
    (z8 : PySem.W.nsIn K mainGlobals "range" = some none)
    (z9 : PySem.W.nsIn K mainGlobals "tuple" = some none)
    (y0 : PySem.W.nsIn K mainGlobals "SIGNS" = some (some (.ref qa0))) (u0 : K.lookup qa0 = some ⟨.type "tuple", qd0, .seq #[.str "+" tq0_0, .str "-" tq0_1, .str "*" tq0_2, .str "/" tq0_3, .str "mod" tq0_4, .str "&" tq0_5, .str "|" tq0_6, .str "^" tq0_7, .str "<<" tq0_8, .str ">>" tq0_9, .str "==" tq0_10, .str "!=" tq0_11, .str "<" tq0_12, .str "<=" tq0_13, .str ">" tq0_14, .str ">=" tq0_15] qn0, qs0⟩)
    (y1 : PySem.W.nsIn K mainGlobals "LEAST" = some (some (.int (-32768) tk1))) :
    ∃ fd : FuncData, (∀ (s : Shared) (v : Value), BindsTo s fd ⟨[v], []⟩ [("_law_script", v)]) ∧ ∀ base : Heap, K.In base → base.Ns mainGlobals mg → FnOk l.prog w K mg base CX0 4 fa fd ["_law_script"] (sp_law K) := by
  have e := hfa.symm.trans (PySem.W.mg_of X G a17)
  cases e
  let T : Txt K mg := {
    f_wrap := f0,
    d_wrap := _,
    k_wrap := (fun_mk (st := s_wrap) l0 c0 k0),
    b_wrap := (Fun.binds (ps := ["number"]) (fun_mk (st := s_wrap) l0 c0 k0) fun _ _ _ _ _ _ us hl => match us, hl with | [_], _ => rfl),
    g_wrap := PySem.W.mg_of X G a0,
    f_divided := f1,
    d_divided := _,
    k_divided := (fun_mk (st := s_divided) l1 c1 k1),
    b_divided := (Fun.binds (ps := ["left", "right"]) (fun_mk (st := s_divided) l1 c1 k1) fun _ _ _ _ _ _ us hl => match us, hl with | [_, _], _ => rfl),
    g_divided := PySem.W.mg_of X G a1,
    f_arithmetic := f2,
    d_arithmetic := _,
    k_arithmetic := (fun_mk (st := s_arithmetic) l2 c2 k2),
    b_arithmetic := (Fun.binds (ps := ["sign", "left", "right"]) (fun_mk (st := s_arithmetic) l2 c2 k2) fun _ _ _ _ _ _ us hl => match us, hl with | [_, _, _], _ => rfl),
    g_arithmetic := PySem.W.mg_of X G a2,
    f_compared := f3,
    d_compared := _,
    k_compared := (fun_mk (st := s_compared) l3 c3 k3),
    b_compared := (Fun.binds (ps := ["sign", "left", "right"]) (fun_mk (st := s_compared) l3 c3 k3) fun _ _ _ _ _ _ us hl => match us, hl with | [_, _, _], _ => rfl),
    g_compared := PySem.W.mg_of X G a3,
    f_op := f4,
    d_op := _,
    k_op := (fun_mk (st := s_op) l4 c4 k4),
    b_op := (Fun.binds (ps := ["sign", "left", "right"]) (fun_mk (st := s_op) l4 c4 k4) fun _ _ _ _ _ _ us hl => match us, hl with | [_, _, _], _ => rfl),
    g_op := PySem.W.mg_of X G a4,
    f_law_bag := f5,
    d_law_bag := _,
    k_law_bag := (fun_mk (st := s_law_bag) l5 c5 k5),
    b_law_bag := (Fun.binds (ps := ["_law_script", "_law_k"]) (fun_mk (st := s_law_bag) l5 c5 k5) fun _ _ _ _ _ _ us hl => match us, hl with | [_, _], _ => rfl),
    g_law_bag := PySem.W.mg_of X G a5,
    f_law_draw := f6,
    d_law_draw := _,
    k_law_draw := (fun_mk (st := s_law_draw) l6 c6 k6),
    b_law_draw := (Fun.binds (ps := ["_law_bag_here", "_law_many"]) (fun_mk (st := s_law_draw) l6 c6 k6) fun _ _ _ _ _ _ us hl => match us, hl with | [_, _], _ => rfl),
    g_law_draw := PySem.W.mg_of X G a6,
    f_law_word := f7,
    d_law_word := _,
    k_law_word := (fun_mk (st := s_law_word) l7 c7 k7),
    b_law_word := (Fun.binds (ps := ["_law_bag_here", "_law_other"]) (fun_mk (st := s_law_word) l7 c7 k7) fun _ _ _ _ _ _ us hl => match us, hl with | [_, _], _ => rfl),
    g_law_word := PySem.W.mg_of X G a7,
    f_law_bits := f8,
    d_law_bits := _,
    k_law_bits := (fun_mk (st := s_law_bits) l8 c8 k8),
    b_law_bits := (Fun.binds (ps := ["_law_word_here"]) (fun_mk (st := s_law_bits) l8 c8 k8) fun _ _ _ _ _ _ us hl => match us, hl with | [_], _ => rfl),
    g_law_bits := PySem.W.mg_of X G a8,
    f_law_value := f9,
    d_law_value := _,
    k_law_value := (fun_mk (st := s_law_value) l9 c9 k9),
    b_law_value := (Fun.binds (ps := ["_law_bits_here"]) (fun_mk (st := s_law_value) l9 c9 k9) fun _ _ _ _ _ _ us hl => match us, hl with | [_], _ => rfl),
    g_law_value := PySem.W.mg_of X G a9,
    f_law_sum := f10,
    d_law_sum := _,
    k_law_sum := (fun_mk (st := s_law_sum) l10 c10 k10),
    b_law_sum := (Fun.binds (ps := ["_law_one", "_law_two", "_law_carry"]) (fun_mk (st := s_law_sum) l10 c10 k10) fun _ _ _ _ _ _ us hl => match us, hl with | [_, _, _], _ => rfl),
    g_law_sum := PySem.W.mg_of X G a10,
    f_law_product := f11,
    d_law_product := _,
    k_law_product := (fun_mk (st := s_law_product) l11 c11 k11),
    b_law_product := (Fun.binds (ps := ["_law_one", "_law_two"]) (fun_mk (st := s_law_product) l11 c11 k11) fun _ _ _ _ _ _ us hl => match us, hl with | [_, _], _ => rfl),
    g_law_product := PySem.W.mg_of X G a11,
    f_law_quotient := f12,
    d_law_quotient := _,
    k_law_quotient := (fun_mk (st := s_law_quotient) l12 c12 k12),
    b_law_quotient := (Fun.binds (ps := ["_law_left", "_law_right"]) (fun_mk (st := s_law_quotient) l12 c12 k12) fun _ _ _ _ _ _ us hl => match us, hl with | [_, _], _ => rfl),
    g_law_quotient := PySem.W.mg_of X G a12,
    f_law_bitwise := f13,
    d_law_bitwise := _,
    k_law_bitwise := (fun_mk (st := s_law_bitwise) l13 c13 k13),
    b_law_bitwise := (Fun.binds (ps := ["_law_sign", "_law_one", "_law_two"]) (fun_mk (st := s_law_bitwise) l13 c13 k13) fun _ _ _ _ _ _ us hl => match us, hl with | [_, _, _], _ => rfl),
    g_law_bitwise := PySem.W.mg_of X G a13,
    f_law_shifted := f14,
    d_law_shifted := _,
    k_law_shifted := (fun_mk (st := s_law_shifted) l14 c14 k14),
    b_law_shifted := (Fun.binds (ps := ["_law_sign", "_law_one", "_law_two"]) (fun_mk (st := s_law_shifted) l14 c14 k14) fun _ _ _ _ _ _ us hl => match us, hl with | [_, _, _], _ => rfl),
    g_law_shifted := PySem.W.mg_of X G a14,
    f_law_compared := f15,
    d_law_compared := _,
    k_law_compared := (fun_mk (st := s_law_compared) l15 c15 k15),
    b_law_compared := (Fun.binds (ps := ["_law_sign", "_law_left", "_law_right"]) (fun_mk (st := s_law_compared) l15 c15 k15) fun _ _ _ _ _ _ us hl => match us, hl with | [_, _, _], _ => rfl),
    g_law_compared := PySem.W.mg_of X G a15,
    f_law_expected := f16,
    d_law_expected := _,
    k_law_expected := (fun_mk (st := s_law_expected) l16 c16 k16),
    b_law_expected := (Fun.binds (ps := ["_law_sign", "_law_left", "_law_right"]) (fun_mk (st := s_law_expected) l16 c16 k16) fun _ _ _ _ _ _ us hl => match us, hl with | [_, _, _], _ => rfl),
    g_law_expected := PySem.W.mg_of X G a16,
    f_law := fa,
    d_law := _,
    k_law := (fun_mk (st := s_law) l17 c17 k17),
    b_law := (Fun.binds (ps := ["_law_script"]) (fun_mk (st := s_law) l17 c17 k17) fun _ _ _ _ _ _ us hl => match us, hl with | [_], _ => rfl),
    g_law := PySem.W.mg_of X G a17,
    m_abs := PySem.W.mg_none_of X G z0,
    m_bool := PySem.W.mg_none_of X G z1,
    m_int := PySem.W.mg_none_of X G z2,
    m_isinstance := PySem.W.mg_none_of X G z3,
    m_len := PySem.W.mg_none_of X G z4,
    m_list := PySem.W.mg_none_of X G z5,
    m_max := PySem.W.mg_none_of X G z6,
    m_min := PySem.W.mg_none_of X G z7,
    m_range := PySem.W.mg_none_of X G z8,
    m_tuple := PySem.W.mg_none_of X G z9,
    a_SIGNS := qa0,
    g_SIGNS := PySem.W.mg_of X G y0,
    s_SIGNS := fun H => .inr ⟨_, _, _, u0, rfl, rfl, by show 16 ≤ sizeLine; decide, (.cons ⟨_, rfl⟩ (.cons ⟨_, rfl⟩ (.cons ⟨_, rfl⟩ (.cons ⟨_, rfl⟩ (.cons ⟨_, rfl⟩ (.cons ⟨_, rfl⟩ (.cons ⟨_, rfl⟩ (.cons ⟨_, rfl⟩ (.cons ⟨_, rfl⟩ (.cons ⟨_, rfl⟩ (.cons ⟨_, rfl⟩ (.cons ⟨_, rfl⟩ (.cons ⟨_, rfl⟩ (.cons ⟨_, rfl⟩ (.cons ⟨_, rfl⟩ (.cons ⟨_, rfl⟩ .nil))))))))))))))))⟩,
    y_SIGNS := ⟨_, u0, rfl⟩,
    t_LEAST := tk1,
    g_LEAST := PySem.W.mg_of X G y1 }
  exact ⟨T.d_law, fun s v => .of_eq rfl, fun base _ _ => ok_law T⟩
end
end My
open PySem PySem.W PyProof.Rows
set_option maxHeartbeats 0 in
theorem PySem.Challenge.cw_warycard_k03_operations_holds : PySem.Challenge.rw_warycard_k03_operations.Holds := by
  w_on; o_law; k_head; (case hw => w_witness2)
  k_fill
  refine L2.walk_of (l := PySem.Challenge.rw_warycard_k03_operations) (n := 63) (k := 4) (x := "_law_script") (CX := fun _ => L2.CX0) (sp := fun w => My.sp_law _) rfl (by decide) rfl ⟨rfl, by decide, by decide⟩ (fun w h Y => PySem.W.kIn_of Y) ?F (fun _ _ a ns hl _ hS => ⟨a, ns, rfl, hS, hl, fun _ => rfl⟩) (fun _ _ _ _ _ h => h)
  case F =>
    intro w mg fa h KX G hmg
    refine' My.all_mk KX G hmg ?a0 ?l0 ?c0 ?k0 ?a1 ?l1 ?c1 ?k1 ?a2 ?l2 ?c2 ?k2 ?a3 ?l3 ?c3 ?k3 ?a4 ?l4 ?c4 ?k4 ?a5 ?l5 ?c5 ?k5 ?a6 ?l6 ?c6 ?k6 ?a7 ?l7 ?c7 ?k7 ?a8 ?l8 ?c8 ?k8 ?a9 ?l9 ?c9 ?k9 ?a10 ?l10 ?c10 ?k10 ?a11 ?l11 ?c11 ?k11 ?a12 ?l12 ?c12 ?k12 ?a13 ?l13 ?c13 ?k13 ?a14 ?l14 ?c14 ?k14 ?a15 ?l15 ?c15 ?k15 ?a16 ?l16 ?c16 ?k16 ?a17 ?l17 ?c17 ?k17 ?z0 ?z1 ?z2 ?z3 ?z4 ?z5 ?z6 ?z7 ?z8 ?z9 ?y0 ?u0 ?y1
    (case a0 => k_is); (case l0 => k_is); (case c0 => k_is); (case k0 => k_is); (case a1 => k_is); (case l1 => k_is); (case c1 => k_is); (case k1 => k_is); (case a2 => k_is); (case l2 => k_is); (case c2 => k_is); (case k2 => k_is); (case a3 => k_is); (case l3 => k_is); (case c3 => k_is); (case k3 => k_is); (case a4 => k_is); (case l4 => k_is); (case c4 => k_is); (case k4 => k_is); (case a5 => k_is); (case l5 => k_is); (case c5 => k_is); (case k5 => k_is); (case a6 => k_is); (case l6 => k_is); (case c6 => k_is); (case k6 => k_is); (case a7 => k_is); (case l7 => k_is); (case c7 => k_is); (case k7 => k_is); (case a8 => k_is); (case l8 => k_is); (case c8 => k_is); (case k8 => k_is); (case a9 => k_is); (case l9 => k_is); (case c9 => k_is); (case k9 => k_is); (case a10 => k_is); (case l10 => k_is); (case c10 => k_is); (case k10 => k_is); (case a11 => k_is); (case l11 => k_is); (case c11 => k_is); (case k11 => k_is); (case a12 => k_is); (case l12 => k_is); (case c12 => k_is); (case k12 => k_is); (case a13 => k_is); (case l13 => k_is); (case c13 => k_is); (case k13 => k_is); (case a14 => k_is); (case l14 => k_is); (case c14 => k_is); (case k14 => k_is); (case a15 => k_is); (case l15 => k_is); (case c15 => k_is); (case k15 => k_is); (case a16 => k_is); (case l16 => k_is); (case c16 => k_is); (case k16 => k_is); (case a17 => k_is); (case l17 => k_is); (case c17 => k_is); (case k17 => k_is); (case z0 => k_is); (case z1 => k_is); (case z2 => k_is); (case z3 => k_is); (case z4 => k_is); (case z5 => k_is); (case z6 => k_is); (case z7 => k_is); (case z8 => k_is); (case z9 => k_is); (case y0 => k_is); (case u0 => k_is); (case y1 => k_is)
#print axioms PySem.Challenge.cw_warycard_k03_operations_holds
