import PyProof.Rows.All
import Wide.All
import OpenK.AllK
import Wide.FinOn
import HandS.ForMost
import HandS.Wide
import HandS.IsInst
import HandS.Style
import HandS.Walk
import HandS.Codes
import PySem.Challenge.RW_warycard_k01_names_and_texts
set_option Elab.async false
set_option maxRecDepth 100000
set_option maxHeartbeats 4000000
namespace My
open PySem PySem.Spec PyProof.Rows L2
/-! ### readings -/
theorem OpR.imp' {X : Cx} {f : Value → Value → Sem Value} {r r' : R2} (h : OpR X f r) (i : ∀ x y H Q, r' x y H Q → r x y H Q) : OpR X f r' := fun pins s σ H x y u v Q I rx ry q => h pins s σ H x y u v Q I rx ry (i _ _ _ _ q)
theorem op_modP {X : Cx} : OpR X (binaryOp .Mod) (rI (fun _ j => 0 < j) fun i j => .int (i % j)) := OpR.imp' op_modN fun x y H Q ⟨i, j, e1, e2, hj, q⟩ => ⟨i, j, e1, e2, by have hj : 0 < j := hj; show j ≠ 0; omega, by
  have hj : 0 < j := hj
  have e : i.fmod j = i % j := Int.fmod_eq_emod_of_nonneg i (by omega)
  show Q (V.int (i.fmod j)) H
  rw [e]; exact q⟩
theorem rdSeq {t u : TS} {D : Ends} {σ : L2.St} {H : Hp} (h : t { D with nx := u D } σ H) : tSeq t u D σ H := h
/-- all that was tracked is kept but the list at a, which holds three ints -/
def Bag (H : Hp) (a : Addr) : Prop := ∃ x y z : Int, H a = some (.lst [.int x, .int y, .int z])
structure Mv (a : Addr) (H H' : Hp) : Prop where
  bag : Bag H' a
  old : ∀ b o, b ≠ a → H b = some o → H' b = some o
theorem Mv.refl {a : Addr} {H : Hp} (h : Bag H a) : Mv a H H := ⟨h, fun _ _ _ e => e⟩
theorem Mv.trans {a : Addr} {H H1 H2 : Hp} (h : Mv a H H1) (k : Mv a H1 H2) : Mv a H H2 := ⟨k.bag, fun b o n e => k.old b o n (h.old b o n e)⟩
theorem Mv.new {a p : Addr} {o : HO} {H H1 : Hp} (h : Mv a H H1) (n : H1 p = none) : Mv a H (upd H1 p o) := by
  obtain ⟨x, y, z, e⟩ := h.bag
  have ne : a ≠ p := fun q => by subst q; rw [n] at e; cases e
  exact ⟨⟨x, y, z, by rw [upd_ne ne]; exact e⟩, fun b u hb hu => by
    have := h.old b u hb hu
    rw [upd_ne (ne_of_none this n)]; exact this⟩
theorem Mv.ne {a p : Addr} {H H1 : Hp} (h : Mv a H H1) (n : H1 p = none) : p ≠ a := fun q => by
  obtain ⟨x, y, z, e⟩ := h.bag
  subst q; rw [n] at e; cases e
theorem Mv.free {a p : Addr} {H H1 : Hp} (h : Mv a H H1) (n : H1 p = none) : H p = none := by
  cases e : H p with
  | none => rfl
  | some o => rw [h.old p o (h.ne n) e] at n; cases n
theorem bag_ne {a p : Addr} {H : Hp} (h : Bag H a) (n : H p = none) : p ≠ a := fun q => by
  obtain ⟨x, y, z, e⟩ := h
  subst q; rw [n] at e; cases e
theorem sqL_of {K : PySem.W.Frag} {H : Hp} {a : Addr} {xs : List V} (h : H a = some (.lst xs)) : SqL K H a xs := .inl (.inl h)
theorem sqT_of {K : PySem.W.Frag} {H : Hp} {a : Addr} {xs : List V} (h : H a = some (.tup xs)) : SqT K H a xs := .inl (.inl h)
theorem call_intI {X : Cx} : CallR X (.type "int") (fun xs H Q => ∃ i, xs = [.int i] ∧ Q (.int i) H) := fun pins s σ H xs us Q I r ⟨i, e, q⟩ => call_int1 pins s σ H xs us Q I r (.inl ⟨i, e, q⟩)
/-- len of a list, of a tuple -/
def rLenL (K : PySem.W.Frag) : List V → Hp → VK → Prop := fun xs H Q => ∃ p ys, xs = [.ref p] ∧ SqL K H p ys ∧ Q (.int ys.length) H
def rLenT (K : PySem.W.Frag) : List V → Hp → VK → Prop := fun xs H Q => ∃ p ys, xs = [.ref p] ∧ SqT K H p ys ∧ Q (.int ys.length) H
theorem call_lenL {X : Cx} : CallR X (.builtin "len") (rLenL X.K) := fun pins s σ H xs us Q I r ⟨p, ys, e, h, q⟩ => call_len_seq pins s σ H xs us Q I r ⟨p, ys, e, .inl h, q⟩
theorem call_lenT {X : Cx} : CallR X (.builtin "len") (rLenT X.K) := fun pins s σ H xs us Q I r ⟨p, ys, e, h, q⟩ => call_len_seq pins s σ H xs us Q I r ⟨p, ys, e, .inr h, q⟩
theorem i_lenL {K : PySem.W.Frag} {H : Hp} {Q : VK} {p : Addr} {ys : List V} (h : SqL K H p ys) (q : Q (.int ys.length) H) : rLenL K [.ref p] H Q := ⟨p, ys, rfl, h, q⟩
theorem i_lenT {K : PySem.W.Frag} {H : Hp} {Q : VK} {p : Addr} {ys : List V} (h : SqT K H p ys) (q : Q (.int ys.length) H) : rLenT K [.ref p] H Q := ⟨p, ys, rfl, h, q⟩
theorem i_ixL {K : PySem.W.Frag} {H : Hp} {Q : VK} {p : Addr} {xs : List V} {i : Int} {v : V} (h : SqL K H p xs) (e : atI xs i = some v) (q : Q v H) : rIxL K (.ref p) (.int i) H Q := ⟨p, xs, i, v, rfl, rfl, h, e, q⟩
theorem i_ixT {K : PySem.W.Frag} {H : Hp} {Q : VK} {p : Addr} {xs : List V} {i : Int} {v : V} (h : SqT K H p xs) (e : atI xs i = some v) (q : Q v H) : rIxT K (.ref p) (.int i) H Q := ⟨p, xs, i, v, rfl, rfl, h, e, q⟩
theorem i_setL {H : Hp} {p : Addr} {xs : List V} {i : Int} {j : Nat} {v : V} {Q : Hp → Prop} (h : H p = some (.lst xs)) (e : ixN xs.length i = some j) (q : Q (upd H p (.lst (xs.set j v)))) : rSetL (.ref p) (.int i) v H Q := ⟨p, xs, i, j, rfl, rfl, h, e, q⟩
theorem i_lst {H : Hp} {xs : List V} {Q : VK} (hl : xs.length ≤ sizeLine) (q : ∀ p, H p = none → Q (.ref p) (upd H p (.lst xs))) : xs.length ≤ sizeLine ∧ ∀ p, H p = none → Q (.ref p) (upd H p (.lst xs)) := ⟨hl, q⟩
/-- an item at a drawn place of a written list -/
theorem at_of {α : Type} {xs : List α} {i : Int} (h0 : 0 ≤ i) (h1 : i < xs.length) : ∃ v, atI xs i = some v ∧ v ∈ xs := by
  obtain ⟨j, rfl⟩ := Int.eq_ofNat_of_zero_le h0
  have hi : j < xs.length := by omega
  exact ⟨xs[j], atI_nat (List.getElem?_eq_getElem hi), List.getElem_mem hi⟩
theorem pow18 : CPow 10 18 := ⟨by decide, by decide, by decide⟩
theorem cm_r {i j : Int} (h : decide (-(2 ^ 64) < j) && decide (j < 2 ^ 64) = true) : CMul i j := by
  simp only [Bool.and_eq_true, decide_eq_true_eq] at h
  exact .inr h
theorem cm_l {i j : Int} (h : decide (-(2 ^ 64) < i) && decide (i < 2 ^ 64) = true) : CMul i j := by
  simp only [Bool.and_eq_true, decide_eq_true_eq] at h
  exact .inl h
theorem i_isi {K : PySem.W.Frag} {H : Hp} {Q : VK} {x : V} {t c : String} {b : Bool} (ty : TyX K H x (.type t)) (hk : kitB t c = some b) (q : Q (.bl b) H) : rIsi K [x, .ty c] H Q := ⟨x, .ty c, .type t, .type c, b, rfl, .ty c, ty, kit_ty hk, q⟩
theorem ty_int {K : PySem.W.Frag} {H : Hp} {i : Int} : TyX K H (.int i) (.type "int") := .base (.int _)
theorem ty_bl {K : PySem.W.Frag} {H : Hp} {i : Bool} : TyX K H (.bl i) (.type "bool") := .base (.bl _)
theorem ty_str {K : PySem.W.Frag} {H : Hp} {i : Str} : TyX K H (.str i) (.type "str") := .base (.str _)
theorem ty_non {K : PySem.W.Frag} {H : Hp} : TyX K H .non (.type "NoneType") := .base .non
theorem kb_ii : kitB "int" "int" = some true := by decide +kernel
theorem kb_bi : kitB "bool" "int" = some true := by decide +kernel
theorem kb_ib : kitB "int" "bool" = some false := by decide +kernel
theorem kb_bb : kitB "bool" "bool" = some true := by decide +kernel
theorem pow17 : CPow 10 17 := ⟨by decide, by decide, by decide⟩
/-- for over range(n) -/
def rForR (lo : Int) (n : Nat) (g : TG) (tb : TS) : TS := fun D σ H => ∃ W : Nat → Nat → L2.St → Hp → Prop, (∃ m, W 0 m σ H) ∧ ∀ i m σ H, W i m σ H →
  ((Itr lo n).stop i H ∧ D.nx σ H) ∨ ((Itr lo n).go i H ∧ ∃ Nx : L2.St → Hp → Prop, (∀ σ' H', Nx σ' H' → ∃ m', m' < m ∧ W (i + 1) m' σ' H') ∧ ∀ x H', (Itr lo n).yld i H x H' → g x σ H' fun σ2 H2 => tb { D with nx := Nx, ct := Nx, bk := D.nx } σ2 H2)
theorem i_forR1 {ta : TA} {g : TG} {tb : TS} {D : Ends} {σ : L2.St} {H : Hp} (h : ta σ H fun vs H1 => ∃ j : Int, vs = [.int j] ∧ -(2 ^ 62) ≤ j ∧ j < 2 ^ 62 ∧ rForR 0 j.toNat g tb D σ H1) : tFor (iRng1 ta) g tb D σ H := h
theorem i_forR2 {ta : TA} {g : TG} {tb : TS} {D : Ends} {σ : L2.St} {H : Hp} (h : ta σ H fun vs H1 => ∃ i j : Int, vs = [.int i, .int j] ∧ (-(2 ^ 62) ≤ i ∧ i < 2 ^ 62 ∧ -(2 ^ 62) ≤ j ∧ j < 2 ^ 62) ∧ rForR i (j - i).toNat g tb D σ H1) : tFor (iRng2 ta) g tb D σ H := h
theorem i_loopR {lo : Int} {n : Nat} {j : Nat} {tb : TS} {D : Ends} {σ : L2.St} {H : Hp} (Pv : Nat → L2.St → Hp → Prop) (h0 : Pv 0 σ H)
    (hs : ∀ (i : Nat) σ H, i < n → Pv i σ H → tb { D with nx := Pv (i + 1), ct := Pv (i + 1), bk := D.nx } (σ.set j (some (.int (lo + i)))) H) (hd : ∀ σ H, Pv n σ H → D.nx σ H) : rForR lo n (gName j) tb D σ H := for_range Pv h0 hs hd
theorem i_else {c A B : Prop} [Decidable c] (h : ¬ c) (b : B) : if c then A else B := by rw [if_neg h]; exact b
theorem i_then {c A B : Prop} [Decidable c] (h : c) (a : A) : if c then A else B := by rw [if_pos h]; exact a
/-- two ways that meet -/
theorem i_both {c A B T : Prop} [Decidable c] (t : T) (h1 : c → T → A) (h2 : ¬ c → T → B) : if c then A else B := ite2 (fun h => h1 h t) (fun h => h2 h t)
theorem ty_tup {K : PySem.W.Frag} {H : Hp} {p : Addr} {xs : List V} (h : H p = some (.tup xs)) : TyX K H (.ref p) (.type "tuple") := .base (.tup h)
theorem ty_lst {K : PySem.W.Frag} {H : Hp} {p : Addr} {xs : List V} (h : H p = some (.lst xs)) : TyX K H (.ref p) (.type "list") := .base (.lst h)
theorem kb_ni : kitB "NoneType" "int" = some false := by decide +kernel
theorem kb_si : kitB "str" "int" = some false := by decide +kernel
theorem kb_li : kitB "list" "int" = some false := by decide +kernel
theorem kb_ti : kitB "tuple" "int" = some false := by decide +kernel
theorem kb_di : kitB "dict" "int" = some false := by decide +kernel
/-! ### loops by what is walked -/
def rForJ (J : It) (g : TG) (tb : TS) : TS := fun D σ H => ∃ W : Nat → Nat → L2.St → Hp → Prop, (∃ m, W 0 m σ H) ∧ ∀ i m σ H, W i m σ H →
  (J.stop i H ∧ D.nx σ H) ∨ (J.go i H ∧ ∃ Nx : L2.St → Hp → Prop, (∀ σ' H', Nx σ' H' → ∃ m', m' < m ∧ W (i + 1) m' σ' H') ∧ ∀ x H', J.yld i H x H' → g x σ H' fun σ2 H2 => tb { D with nx := Nx, ct := Nx, bk := D.nx } σ2 H2)
theorem tFor_J {wi : TI} {g : TG} {tb : TS} {D : Ends} {σ : L2.St} {H : Hp} : tFor wi g tb D σ H = wi σ H fun J H1 => rForJ J g tb D σ H1 := rfl
def rLcJ (J : It) (g : TG) (tt : TT) (te : TE) (vs : List Nat) : TE := fun σ H1 Q => ∀ D, H1 D = none → ∃ W : Nat → Nat → Hp → Prop, (∃ m, W 0 m (upd H1 D (.lst []))) ∧ ∀ i m H, W i m H →
  (J.stop i H ∧ Q (.ref D) H) ∨ (J.go i H ∧ ∃ Nx : Hp → Prop, (∀ H', Nx H' → ∃ m', m' < m ∧ W (i + 1) m' H') ∧ ∀ x H', J.yld i H x H' → g x (wipe σ vs) H' fun σ2 H2 => wipe σ2 vs = wipe σ vs ∧ tt σ2 H2 fun b H3 =>
    if b = true then te σ2 H3 fun y H4 => ∃ acc, H4 D = some (.lst acc) ∧ acc.length < sizeLine ∧ Nx (upd H4 D (.lst (acc ++ [y]))) else Nx H3)
theorem tLc_J {wi : TI} {g : TG} {tt : TT} {te : TE} {vs : List Nat} {σ : L2.St} {H : Hp} {Q : VK} : tLc wi g tt te vs σ H Q = wi σ H fun J H1 => rLcJ J g tt te vs σ H1 Q := rfl
theorem i_for {J : It} {n : Nat} {G : Hp → Prop} {Y : Nat → Hp → V → Hp → Prop} (w : Walk J n G Y) {j : Nat} {tb : TS} {D : Ends} {σ : L2.St} {H : Hp} (Pv : Nat → L2.St → Hp → Prop) (h0 : Pv 0 σ H) (hG : ∀ i σ H, i ≤ n → Pv i σ H → G H)
    (hs : ∀ i x σ H H', i < n → Pv i σ H → Y i H x H' → tb { D with nx := Pv (i + 1), ct := Pv (i + 1), bk := D.nx } (σ.set j (some x)) H') (hd : ∀ σ H, Pv n σ H → D.nx σ H) : rForJ J (gName j) tb D σ H := for_it w Pv h0 hG hs hd
theorem wipe_one {σ : L2.St} {j : Nat} {x : V} : wipe ((wipe σ [j]).set j (some x)) [j] = wipe σ [j] := by
  show ((σ.set j none).set j (some x)).set j none = σ.set j none
  rw [List.set_set, List.set_set]
def YL {α : Type} (l : List α) (r : α → V) : Nat → Hp → V → Hp → Prop := fun i H v H' => H' = H ∧ ∃ c, l[i]? = some c ∧ v = r c
/-- [e for x in ..], e without an effect -/
theorem i_lcL {α : Type} {J : It} {l : List α} {r : α → V} {G : Hp → Prop} (w : Walk J l.length G (YL l r)) {j : Nat} {te : TE} {σ : L2.St} {H : Hp} {Q : VK} (g : α → V) (hn : l.length < sizeLine) (hG : ∀ D ys, H D = none → G (upd H D (.lst ys)))
    (hs : ∀ c ∈ l, ∀ H1 (Q' : VK), Same H H1 → Q' (g c) H1 → te ((wipe σ [j]).set j (some (r c))) H1 Q') (q : ∀ D, H D = none → Q (.ref D) (upd H D (.lst (l.map g)))) : rLcJ J (gName j) tYes te [j] σ H Q := by
  intro D hD
  refine lc_it w (fun i H' => H' = upd H D (.lst ((l.take i).map g))) rfl (fun i H' _ e => by subst e; exact hG D _ hD) (fun i x H1 H2 hi e y => ?_) (fun H' e => by subst e; rw [List.take_length]; exact q D hD)
  obtain ⟨e2, c, hc, rfl⟩ := y
  subst e2
  refine ⟨wipe_one, hs c (List.mem_of_getElem? hc) H2 (fun y H4 => ∃ acc, H4 D = some (.lst acc) ∧ acc.length < sizeLine ∧ upd H4 D (.lst (acc ++ [y])) = upd H D (.lst ((l.take (i + 1)).map g))) (by subst e; intro b o h; rw [upd_ne (ne_of_none h hD)]; exact h) ?_⟩
  subst e
  refine ⟨_, upd_same, by rw [List.length_map, List.length_take]; omega, ?_⟩
  rw [upd_upd, List.take_add_one, hc, List.map_append]; rfl
/-- for x in ..: if not p: return False -/
theorem i_forall {α : Type} {J : It} {l : List α} {r : α → V} {G : Hp → Prop} (w : Walk J l.length G (YL l r)) {j : Nat} {tb : TS} {D : Ends} {σ : L2.St} {H : Hp} (p : α → Bool) (v : V) (hG : G H)
    (hs : ∀ c ∈ l, ∀ D' : Ends, (p c = true → D'.nx (σ.set j (some (r c))) H) → (p c = false → D'.rt v H) → tb D' (σ.set j (some (r c))) H) (h1 : l.all p = true → D.nx σ H ∧ ∀ u, D.nx (σ.set j u) H) (h2 : l.all p = false → D.rt v H) : rForJ J (gName j) tb D σ H := by
  refine i_for w (fun i σ' H' => H' = H ∧ (σ' = σ ∨ ∃ u, σ' = σ.set j u) ∧ ∀ c ∈ l.take i, p c = true) ⟨rfl, .inl rfl, by simp⟩ (fun i σ' H' _ h => by rw [h.1]; exact hG) ?_ ?_
  · rintro i x σ' H' H2 hi ⟨rfl, hσ, hp⟩ ⟨rfl, c, hc, rfl⟩
    have hm := List.mem_of_getElem? hc
    have es : σ'.set j (some (r c)) = σ.set j (some (r c)) := by
      rcases hσ with rfl | ⟨u, rfl⟩
      · rfl
      · rw [List.set_set]
    rw [es]
    refine hs c hm _ (fun hpc => ⟨rfl, .inr ⟨_, rfl⟩, fun d hd => ?_⟩) (fun hpc => h2 ?_)
    · rw [List.take_add_one, hc] at hd
      rcases List.mem_append.mp hd with h | h
      · exact hp d h
      · rw [List.mem_singleton.mp h]; exact hpc
    · rw [List.all_eq_false]
      exact ⟨c, hm, by rw [hpc]; simp⟩
  · rintro σ' H' ⟨rfl, hσ, hp⟩
    rw [List.take_length] at hp
    have h := h1 (List.all_eq_true.mpr hp)
    rcases hσ with rfl | ⟨u, rfl⟩
    · exact h.1
    · exact h.2 u
/-- [e for x in ..], e draws from the bag at a -/
theorem i_lcD {J : It} {n : Nat} {G : Hp → Prop} {Y : Nat → Hp → V → Hp → Prop} (w : Walk J n G Y) {a : Addr} {j : Nat} {te : TE} {σ : L2.St} {H : Hp} {Q : VK} (hB : Bag H a) (P : V → Prop) (hn : n < sizeLine) (hG : ∀ H', Mv a H H' → G H') (hY : ∀ i H x H', Y i H x H' → H' = H)
    (hs : ∀ i x H1 (Q' : VK), i < n → Y i H1 x H1 → Mv a H H1 → (∀ y H2, P y → Mv a H1 H2 → Q' y H2) → te ((wipe σ [j]).set j (some x)) H1 Q') (q : ∀ D H' ys, H D = none → Mv a H H' → H' D = some (.lst ys) → ys.length = n → (∀ y ∈ ys, P y) → Q (.ref D) H') : rLcJ J (gName j) tYes te [j] σ H Q := by
  intro D hD
  have nD := bag_ne hB hD
  refine lc_it w (fun i H' => Mv a H H' ∧ ∃ ys, H' D = some (.lst ys) ∧ ys.length = i ∧ ∀ y ∈ ys, P y) ⟨(Mv.refl hB).new hD, [], upd_same, rfl, fun _ h => nomatch h⟩ (fun i H' _ e => hG H' e.1) (fun i x H1 H2 hi e y => ?_) (fun H' e => ?_)
  · have e2 := hY i H1 x H2 y
    subst e2
    obtain ⟨mv, ys, e1, e2, e3⟩ := e
    refine ⟨wipe_one, hs i x H2 (fun y H4 => ∃ acc, H4 D = some (.lst acc) ∧ acc.length < sizeLine ∧ (Mv a H (upd H4 D (.lst (acc ++ [y]))) ∧ ∃ ys, upd H4 D (.lst (acc ++ [y])) D = some (.lst ys) ∧ ys.length = i + 1 ∧ ∀ y ∈ ys, P y)) hi y mv fun v H3 hv mv3 => ?_⟩
    refine ⟨ys, mv3.old D _ nD e1, by omega, ?_⟩
    have m3 := mv.trans mv3
    refine ⟨⟨?_, fun b o hb e => ?_⟩, ys ++ [v], upd_same, by simp [e2], fun y hy => ?_⟩
    · obtain ⟨x1, x2, x3, hx⟩ := m3.bag
      exact ⟨x1, x2, x3, by rw [upd_ne nD.symm]; exact hx⟩
    · rw [upd_ne (ne_of_none e hD)]; exact m3.old b o hb e
    · rcases List.mem_append.mp hy with h | h
      · exact e3 y h
      · rw [List.mem_singleton.mp h]; exact hv
  · obtain ⟨mv, ys, e1, e2, e3⟩ := e
    exact q D H' ys hD mv e1 e2 e3
theorem rdCut {t u : TS} {D : Ends} {σ : L2.St} {H : Hp} (Mid : L2.St → Hp → Prop) (h : t { D with nx := Mid } σ H) (k : ∀ σ' H', Mid σ' H' → u D σ' H') : C8.tCut t u D σ H := ⟨Mid, h, k⟩
theorem pow9 : CPow 10 9 := ⟨by decide, by decide, by decide⟩
theorem pow8 : CPow 10 8 := ⟨by decide, by decide, by decide⟩
theorem pow12 : CPow 10 12 := ⟨by decide, by decide, by decide⟩

/-! ### texts -/
def chr1 (c : Nat) : Str := ⟨#[c]⟩
def rLeC : R2 := fun x y H Q => ∃ c d, x = .str ⟨#[c]⟩ ∧ y = .str ⟨#[d]⟩ ∧ Q (.bl (decide (c ≤ d))) H
theorem op_leC {X : Cx} : OpR X (compareOp .LtE) rLeC := OpR.imp' op_le_str fun x y H Q ⟨c, d, e1, e2, q⟩ => ⟨⟨#[c]⟩, ⟨#[d]⟩, e1, e2, by
  have e : (!decide ((⟨#[d]⟩ : Str).cps.toList < (⟨#[c]⟩ : Str).cps.toList)) = decide (c ≤ d) := by
    show (!decide ([d] < [c])) = decide (c ≤ d)
    have h : ([d] < [c]) ↔ d < c := by
      rw [List.cons_lt_cons_iff]
      constructor
      · rintro (h | ⟨_, h⟩)
        · exact h
        · exact absurd h (by simp)
      · exact fun h => .inl h
    by_cases hc : c ≤ d
    · have : ¬ ([d] < [c]) := fun k => by have := h.mp k; omega
      rw [decide_eq_true hc, decide_eq_false this]; rfl
    · have : [d] < [c] := h.mpr (by omega)
      rw [decide_eq_false hc, decide_eq_true this]; rfl
  show Q (V.bl _) H
  rw [e]; exact q⟩
theorem i_leC {x y : V} {c d : Nat} {H : Hp} {Q : VK} (e1 : x = .str ⟨#[c]⟩) (e2 : y = .str ⟨#[d]⟩) (q : Q (.bl (decide (c ≤ d))) H) : rLeC x y H Q := ⟨c, d, e1, e2, q⟩
def rOrdC : List V → Hp → VK → Prop := fun xs H Q => ∃ c : Nat, xs = [.str ⟨#[c]⟩] ∧ Q (.int c) H
theorem call_ordC {X : Cx} : CallR X (.builtin "ord") rOrdC := fun pins s σ H xs us Q I r ⟨c, e, q⟩ => call_ord pins s σ H xs us Q I r ⟨⟨#[c]⟩, e, rfl, q⟩
theorem i_ordC {x : V} {c : Nat} {H : Hp} {Q : VK} (e1 : x = .str ⟨#[c]⟩) (q : Q (.int c) H) : rOrdC [x] H Q := ⟨c, by rw [e1], q⟩
def rInC (neg : Bool) : R2 := fun x y H Q => ∃ (c : Nat) (z : Str), x = .str ⟨#[c]⟩ ∧ y = .str z ∧ Q (.bl (if neg then !decide (c ∈ z.cps.toList) else decide (c ∈ z.cps.toList))) H
theorem op_inC {X : Cx} : OpR X (compareOp .In) (rInC false) := op_in_sign
theorem op_notInC {X : Cx} : OpR X (compareOp .NotIn) (rInC true) := op_notIn_sign
theorem i_inC {x y : V} {neg : Bool} {c : Nat} {z : Str} {H : Hp} {Q : VK} (e1 : x = .str ⟨#[c]⟩) (e2 : y = .str z) (q : Q (.bl (if neg then !decide (c ∈ z.cps.toList) else decide (c ∈ z.cps.toList))) H) : rInC neg x y H Q := ⟨c, z, e1, e2, q⟩
def rLenS' : List V → Hp → VK → Prop := fun xs H Q => ∃ z : Str, xs = [.str z] ∧ z.length ≤ sizeLine ∧ Q (.int z.length) H
theorem call_lenS {X : Cx} : CallR X (.builtin "len") rLenS' := call_len_str
theorem i_lenS {x : V} {z : Str} {H : Hp} {Q : VK} (e1 : x = .str z) (hz : z.length ≤ sizeLine) (q : Q (.int z.length) H) : rLenS' [x] H Q := ⟨z, by rw [e1], hz, q⟩
theorem i_ixS {z : Str} {i : Int} {c : Nat} {H : Hp} {Q : VK} (hz : z.length ≤ sizeLine) (e : atI z.cps.toList i = some c) (q : Q (.str ⟨#[c]⟩) H) : rIxS (.str z) (.int i) H Q := ⟨z, i, c, rfl, rfl, hz, e, q⟩
/-- a sign at a drawn place -/
theorem at_chr {z : Str} {i : Int} (h0 : 0 ≤ i) (h1 : i < z.length) : ∃ c, atI z.cps.toList i = some c ∧ c ∈ z.cps.toList := at_of h0 (by rw [Array.length_toList]; exact h1)
theorem walk_chars {z : Str} : Walk (Its z) z.cps.toList.length (fun _ => True) (YL z.cps.toList fun c => .str ⟨#[c]⟩) := by
  rw [Array.length_toList]
  exact walk_str.mono (fun _ h => h) fun i H x H' _ _ ⟨e, c, h, hv⟩ => ⟨e, c, by rw [Array.getElem?_toList]; exact h, hv⟩
def rJoin (K : PySem.W.Frag) : V → List V → Hp → VK → Prop := fun x xs H Q => ∃ a p, ∃ ys : List Str, x = .str a ∧ xs = [.ref p] ∧ (SqL K H p (ys.map V.str) ∨ SqT K H p (ys.map V.str)) ∧
      (ys.map (·.length)).sum + ys.length * a.length ≤ 16777216 ∧ Q (.str (Txt.join a ys)) H
theorem pe_joinR {X : Cx} {o e : Expr} {to te : TE} {apos pos : Pos} (ho : PE X o to) (he : PE X e te) (hs : starEach [e] X.env = [(false, eval e X.env)] := by rfl) (hbase : attributeBase o "join" X.env (eval o X.env) = eval o X.env := by rfl) (hline : (apos.endLine == pos.line) = true := by rfl) :
    PE X (.Call (.Attribute o "join" apos) [e] [] pos) (tM1 (rJoin X.K) to te) := pe_join ho he hs hbase hline
theorem kb_ss : kitB "str" "str" = some true := by decide +kernel
theorem kb_bs : kitB "bool" "str" = some false := by decide +kernel
theorem kb_ns : kitB "NoneType" "str" = some false := by decide +kernel
theorem kb_is : kitB "int" "str" = some false := by decide +kernel
theorem kb_ls : kitB "list" "str" = some false := by decide +kernel
theorem kb_ts : kitB "tuple" "str" = some false := by decide +kernel
theorem kb_ds : kitB "dict" "str" = some false := by decide +kernel
theorem line5 {n : Nat} (h : n ≤ 100000) : n ≤ sizeLine := Nat.le_trans h (by decide)
theorem line5' {n : Nat} (h : n ≤ 100000) : n < sizeLine := Nat.lt_of_le_of_lt h (by decide)
theorem i_all {K : PySem.W.Frag} {H : Hp} {Q : VK} {p : Addr} {bs : List Bool} (h : H p = some (.lst (bs.map V.bl))) (q : Q (.bl (bs.all id)) H) : rAll K [.ref p] H Q := ⟨p, bs, rfl, sqL_of h, q⟩
theorem strs_of {P : Str → Prop} : ∀ {ys : List V}, (∀ y ∈ ys, ∃ s, y = .str s ∧ P s) → ∃ zs : List Str, ys = zs.map V.str ∧ ∀ s ∈ zs, P s
  | [], _ => ⟨[], rfl, fun _ h => nomatch h⟩
  | y :: ys, h => by
    obtain ⟨s, rfl, hs⟩ := h y List.mem_cons_self
    obtain ⟨zs, rfl, hz⟩ := strs_of (ys := ys) fun y hy => h y (List.mem_cons_of_mem _ hy)
    exact ⟨s :: zs, rfl, fun t ht => by
      rcases List.mem_cons.mp ht with rfl | ht
      · exact hs
      · exact hz t ht⟩
theorem joinL_nil : ∀ ps : List (List Nat), TL.joinL [] ps = ps.flatten
  | [] => rfl
  | [p] => by simp [TL.joinL]
  | p :: q :: r => by
    show p ++ ([] ++ TL.joinL [] (q :: r)) = _
    rw [joinL_nil (q :: r)]; simp
theorem join_cl (ys : List Str) : (Txt.join Str.empty ys).cps.toList = (ys.map fun s => s.cps.toList).flatten := by
  rw [TL.join_eq]
  have e := TL.tl_join Str.empty ys
  have e2 : TL.tl Str.empty = [] := rfl
  rw [e2, joinL_nil] at e
  exact e
theorem cl_append (a b : Str) : (a ++ b).cps.toList = a.cps.toList ++ b.cps.toList := TL.tl_append a b
theorem cl_length (a : Str) : a.cps.toList.length = a.length := Array.length_toList
theorem len_append (a b : Str) : (a ++ b).length = a.length + b.length := by rw [← cl_length, cl_append, List.length_append, cl_length, cl_length]
theorem mem_cut {z : Str} {lo hi : Option Int} {c : Nat} (h : c ∈ (cutS z lo hi).cps.toList) : c ∈ z.cps.toList := by
  unfold cutS at h
  exact List.mem_of_mem_drop (List.mem_of_mem_take (by simpa using h))
theorem i_slS {z : Str} {lo hi : Option Int} {H : Hp} {Q : VK} (hz : z.length ≤ sizeLine) (q : Q (.str (cutS z lo hi)) H) : rSlS (.str z) lo hi H Q := ⟨z, rfl, hz, q⟩

local macro_rules | `(tactic| walk_at "rd") => `(tactic| try simp only [L2.start, cxOf, tVar, tC, tOp, tUn, rI0, rI, rU, tCB, tCons, tNil, tAsg, gName, gSub, tDrop, tSub, tAdd, tMul, tCmp, t2I, tIsN, tNotN, tRet, tDNewK, wipe, tFor_J, tLc_J, iRng1, iRng2, iList, iTup, iStr, tM1, tM0, tBM, tBM0, tSl, tPart, tNoPart, tLst, tTup, sizeLine_eq, Nat.reduceLeDiff, true_and, tIfS, tTest, tB, tAnd, tOr, tNot, tAndV, tOrV, tNotV, tChain, rEq, rNe, rNotB, rIsB, tCall, tNext,  List.map, List.length, List.replicate, List.cons_append, List.nil_append, List.append_nil, List.getElem?_cons_zero, List.getElem?_cons_succ, List.set_cons_zero, List.set_cons_succ, Option.some.injEq, exists_eq_left', exists_eq_left, exists_eq', V.int.injEq, V.str.injEq, V.ref.injEq, V.bl.injEq, List.cons.injEq, and_true, true_and, and_assoc, exists_and_left, Int.reduceLT, Int.reduceNeg, Int.reduceLE, ↓reduceIte, Bool.false_eq_true, Bool.not_true, Bool.not_false, reduceCtorEq, false_and, and_false, exists_false, or_false, false_or, Nat.reduceAdd, Nat.reduceSub, decide_eq_true_eq, decide_true, decide_false])

def topS (i : Nat) : Stmt := PySem.Challenge.pw_warycard_k01_names_and_texts.main.body.getD i (.Pass ⟨0, 0, 0, 0⟩)
abbrev s_is_integer : Stmt := topS 5
theorem sc_is_integer : FnScope ["value", "least", "greatest"] ["value", "least", "greatest"] (defScope s_is_integer) := ⟨rfl, rfl, rfl, by decide +kernel, rfl, by decide +kernel, by decide +kernel⟩
abbrev s_is_printable : Stmt := topS 6
theorem sc_is_printable : FnScope ["value", "char"] ["value"] (defScope s_is_printable) := ⟨rfl, rfl, rfl, by decide +kernel, rfl, by decide +kernel, by decide +kernel⟩
abbrev s_is_name : Stmt := topS 7
theorem sc_is_name : FnScope ["value", "char"] ["value"] (defScope s_is_name) := ⟨rfl, rfl, rfl, by decide +kernel, rfl, by decide +kernel, by decide +kernel⟩
abbrev s_is_text : Stmt := topS 8
theorem sc_is_text : FnScope ["value"] ["value"] (defScope s_is_text) := ⟨rfl, rfl, rfl, by decide +kernel, rfl, by decide +kernel, by decide +kernel⟩
abbrev s_law_bag : Stmt := topS 10
theorem sc_law_bag : FnScope ["_law_script", "_law_k", "_law_cell"] ["_law_script", "_law_k"] (defScope s_law_bag) := ⟨rfl, rfl, rfl, by decide +kernel, rfl, by decide +kernel, by decide +kernel⟩
abbrev s_law_draw : Stmt := topS 11
theorem sc_law_draw : FnScope ["_law_bag_here", "_law_many", "_law_seed", "_law_rest"] ["_law_bag_here", "_law_many"] (defScope s_law_draw) := ⟨rfl, rfl, rfl, by decide +kernel, rfl, by decide +kernel, by decide +kernel⟩
abbrev s_law_string : Stmt := topS 12
theorem sc_law_string : FnScope ["_law_bag_here", "_law_letters", "_law_chars", "_law_size", "_law_many", "_law_text", "_law_place", "_law_odd", "_law_k"] ["_law_bag_here"] (defScope s_law_string) := ⟨rfl, rfl, rfl, by decide +kernel, rfl, by decide +kernel, by decide +kernel⟩
abbrev s_law_between : Stmt := topS 13
theorem sc_law_between : FnScope ["_law_char", "_law_low", "_law_high"] ["_law_char", "_law_low", "_law_high"] (defScope s_law_between) := ⟨rfl, rfl, rfl, by decide +kernel, rfl, by decide +kernel, by decide +kernel⟩
abbrev s_law_letter : Stmt := topS 14
theorem sc_law_letter : FnScope ["_law_char"] ["_law_char"] (defScope s_law_letter) := ⟨rfl, rfl, rfl, by decide +kernel, rfl, by decide +kernel, by decide +kernel⟩
abbrev s_law_is_printable : Stmt := topS 15
theorem sc_law_is_printable : FnScope ["_law_text", "_law_char"] ["_law_text"] (defScope s_law_is_printable) := ⟨rfl, rfl, rfl, by decide +kernel, rfl, by decide +kernel, by decide +kernel⟩
abbrev s_law_is_name : Stmt := topS 16
theorem sc_law_is_name : FnScope ["_law_text", "_law_char"] ["_law_text"] (defScope s_law_is_name) := ⟨rfl, rfl, rfl, by decide +kernel, rfl, by decide +kernel, by decide +kernel⟩
abbrev s_law_is_text : Stmt := topS 17
theorem sc_law_is_text : FnScope ["_law_text", "_law_char"] ["_law_text"] (defScope s_law_is_text) := ⟨rfl, rfl, rfl, by decide +kernel, rfl, by decide +kernel, by decide +kernel⟩
abbrev s_law_tells : Stmt := topS 18
theorem sc_law_tells : FnScope ["_law_answer", "_law_due"] ["_law_answer", "_law_due"] (defScope s_law_tells) := ⟨rfl, rfl, rfl, by decide +kernel, rfl, by decide +kernel, by decide +kernel⟩
abbrev s_law_integers : Stmt := topS 19
theorem sc_law_integers : FnScope ["_law_bag_here", "_law_value", "_law_least", "_law_greatest", "_law_answer", "_law_odd"] ["_law_bag_here"] (defScope s_law_integers) := ⟨rfl, rfl, rfl, by decide +kernel, rfl, by decide +kernel, by decide +kernel⟩
abbrev s_law : Stmt := topS 20
theorem sc_law : FnScope ["_law_script", "_law_k", "_law_bag_here", "_law_text"] ["_law_script"] (defScope s_law) := ⟨rfl, rfl, rfl, by decide +kernel, rfl, by decide +kernel, by decide +kernel⟩
/-- what the top has left -/
structure Txt (K : PySem.W.Frag) (mg : Str → Option Value) where
  f_is_integer : Addr
  d_is_integer : FuncData
  k_is_integer : Fun K "is_integer" "is_integer" s_is_integer f_is_integer d_is_integer
  b_is_integer : Binds K d_is_integer ["value", "least", "greatest"] []
  g_is_integer : mg "is_integer" = some (.ref f_is_integer)
  f_is_printable : Addr
  d_is_printable : FuncData
  k_is_printable : Fun K "is_printable" "is_printable" s_is_printable f_is_printable d_is_printable
  b_is_printable : Binds K d_is_printable ["value"] []
  g_is_printable : mg "is_printable" = some (.ref f_is_printable)
  f_is_name : Addr
  d_is_name : FuncData
  k_is_name : Fun K "is_name" "is_name" s_is_name f_is_name d_is_name
  b_is_name : Binds K d_is_name ["value"] []
  g_is_name : mg "is_name" = some (.ref f_is_name)
  f_is_text : Addr
  d_is_text : FuncData
  k_is_text : Fun K "is_text" "is_text" s_is_text f_is_text d_is_text
  b_is_text : Binds K d_is_text ["value"] []
  g_is_text : mg "is_text" = some (.ref f_is_text)
  f_law_bag : Addr
  d_law_bag : FuncData
  k_law_bag : Fun K "_law_bag" "_law_bag" s_law_bag f_law_bag d_law_bag
  b_law_bag : Binds K d_law_bag ["_law_script", "_law_k"] []
  g_law_bag : mg "_law_bag" = some (.ref f_law_bag)
  f_law_draw : Addr
  d_law_draw : FuncData
  k_law_draw : Fun K "_law_draw" "_law_draw" s_law_draw f_law_draw d_law_draw
  b_law_draw : Binds K d_law_draw ["_law_bag_here", "_law_many"] []
  g_law_draw : mg "_law_draw" = some (.ref f_law_draw)
  f_law_string : Addr
  d_law_string : FuncData
  k_law_string : Fun K "_law_string" "_law_string" s_law_string f_law_string d_law_string
  b_law_string : Binds K d_law_string ["_law_bag_here"] []
  g_law_string : mg "_law_string" = some (.ref f_law_string)
  f_law_between : Addr
  d_law_between : FuncData
  k_law_between : Fun K "_law_between" "_law_between" s_law_between f_law_between d_law_between
  b_law_between : Binds K d_law_between ["_law_char", "_law_low", "_law_high"] []
  g_law_between : mg "_law_between" = some (.ref f_law_between)
  f_law_letter : Addr
  d_law_letter : FuncData
  k_law_letter : Fun K "_law_letter" "_law_letter" s_law_letter f_law_letter d_law_letter
  b_law_letter : Binds K d_law_letter ["_law_char"] []
  g_law_letter : mg "_law_letter" = some (.ref f_law_letter)
  f_law_is_printable : Addr
  d_law_is_printable : FuncData
  k_law_is_printable : Fun K "_law_is_printable" "_law_is_printable" s_law_is_printable f_law_is_printable d_law_is_printable
  b_law_is_printable : Binds K d_law_is_printable ["_law_text"] []
  g_law_is_printable : mg "_law_is_printable" = some (.ref f_law_is_printable)
  f_law_is_name : Addr
  d_law_is_name : FuncData
  k_law_is_name : Fun K "_law_is_name" "_law_is_name" s_law_is_name f_law_is_name d_law_is_name
  b_law_is_name : Binds K d_law_is_name ["_law_text"] []
  g_law_is_name : mg "_law_is_name" = some (.ref f_law_is_name)
  f_law_is_text : Addr
  d_law_is_text : FuncData
  k_law_is_text : Fun K "_law_is_text" "_law_is_text" s_law_is_text f_law_is_text d_law_is_text
  b_law_is_text : Binds K d_law_is_text ["_law_text"] []
  g_law_is_text : mg "_law_is_text" = some (.ref f_law_is_text)
  f_law_tells : Addr
  d_law_tells : FuncData
  k_law_tells : Fun K "_law_tells" "_law_tells" s_law_tells f_law_tells d_law_tells
  b_law_tells : Binds K d_law_tells ["_law_answer", "_law_due"] []
  g_law_tells : mg "_law_tells" = some (.ref f_law_tells)
  f_law_integers : Addr
  d_law_integers : FuncData
  k_law_integers : Fun K "_law_integers" "_law_integers" s_law_integers f_law_integers d_law_integers
  b_law_integers : Binds K d_law_integers ["_law_bag_here"] []
  g_law_integers : mg "_law_integers" = some (.ref f_law_integers)
  f_law : Addr
  d_law : FuncData
  k_law : Fun K "law" "law" s_law f_law d_law
  b_law : Binds K d_law ["_law_script"] []
  g_law : mg "law" = some (.ref f_law)
  m_all : mg "all" = none
  m_bool : mg "bool" = none
  m_int : mg "int" = none
  m_isinstance : mg "isinstance" = none
  m_len : mg "len" = none
  m_max : mg "max" = none
  m_min : mg "min" = none
  m_ord : mg "ord" = none
  m_range : mg "range" = none
  m_str : mg "str" = none
  t_MOST_NAME : Tok
  g_MOST_NAME : mg "MOST_NAME" = some (.int (20) t_MOST_NAME)
  t_MOST_TEXT : Tok
  g_MOST_TEXT : mg "MOST_TEXT" = some (.int (16) t_MOST_TEXT)
  t_LETTERS : Tok
  g_LETTERS : mg "LETTERS" = some (.str "ABCDEFGHIJKLMNOPQRSTUVWXYZabcdefghijklmnopqrstuvwxyz" t_LETTERS)
  t_DIGITS : Tok
  g_DIGITS : mg "DIGITS" = some (.str "0123456789" t_DIGITS)
section
variable {P : Program} {w : World} {K : PySem.W.Frag} {mg : Str → Option Value} {base : Heap}
/-! ### the draws -/
def sp_law_bag (K : PySem.W.Frag) : Sp := fun vs H Q _ => ∃ (a : Addr) (ns : List Int) (k : Nat), vs = [.ref a, .int k] ∧ SqL K H a (ns.map V.int) ∧ ∀ (p : Addr) (H' : Hp), H p = none → Bag H' p → Same H H' → Q (.ref p) H'
theorem bag_new {H : Hp} {p : Addr} {x y z : Int} : Bag (upd H p (.lst [.int x, .int y, .int z])) p := ⟨x, y, z, upd_same⟩
theorem same_new {H : Hp} {p : Addr} {o : HO} (n : H p = none) : Same H (upd H p o) := fun b u e => by rw [upd_ne (ne_of_none e n)]; exact e
theorem ok_law_bag (T : Txt K mg) : FnOk P w K mg base CX0 1 T.f_law_bag T.d_law_bag ["_law_script", "_law_k"] (sp_law_bag K) := by
  refine T.k_law_bag.ok sc_law_bag (fun vs H Q E h => ?_) (fun cdv A outer s H vs Q E hr h => ?_)
  · obtain ⟨a, ns, k, rfl, _⟩ := h
    rfl
  · obtain ⟨a, ns, k, rfl, hS, q⟩ := h
    refine ⟨_, (pss_cons (ps_set (i := 2) sc_law_bag.nd rfl (.inl rfl) pe_int)
      (C8.pss_cut (ps_if (pt_cmpR op_lt (pv 1) (pe_callB call_lenL (by rfl) T.m_len (by decide +kernel) (pa_cons (pv 0) pa_nil)) (nomark _)) (pss_one (ps_set (i := 2) sc_law_bag.nd rfl (.inl rfl) (pe_callTy call_intI (by rfl) T.m_int (by decide +kernel) (pa_cons (pe_ix ix_list (pv 0) (pv 1) (fun _ _ => rfl)) pa_nil)))) pss_nil)
      (pss_cons (ps_if (pt_cmpR op_ge (pv 2) (pe_op op_pow pe_int pe_int) (nomark _)) (pss_one (ps_ret (pe_lst (pa_cons (pv 2) (pa_cons (pv 2) (pa_cons (pv 1) pa_nil)))))) pss_nil)
      (pss_one (ps_ret (pe_lst (pa_cons pe_int (pa_cons (pv 2) (pa_cons (pv 1) pa_nil))))))))), ?_⟩
    walk_at "rd"
    refine rdSeq ?_
    walk_at "rd"
    refine rdCut (fun σ H' => H' = H ∧ ∃ c : Int, σ = [some (V.ref a), some (V.int (k : Int)), some (V.int c)]) ?_ ?_
    · walk_at "rd"
      refine i_lenL hS ?_
      walk_at "rd"
      refine ite2 (fun hk => ?_) (fun _ => trivial)
      rw [List.length_map] at hk
      have hk : k < ns.length := by omega
      refine i_ixL hS (atI_nat (j := k) (by rw [List.getElem?_map, List.getElem?_eq_getElem hk]; rfl)) ?_
      walk_at "rd"
    · rintro σ H' ⟨rfl, c, rfl⟩
      refine rdSeq ?_
      walk_at "rd"
      refine ⟨pow18, ite2 (fun _ => ?_) (fun _ => ?_)⟩
      · exact fun p hp => q p _ hp bag_new (same_new hp)
      · walk_at "rd"
        exact fun p hp => q p _ hp bag_new (same_new hp)
def sp_law_draw (K : PySem.W.Frag) : Sp := fun vs H Q _ => ∃ (a : Addr) (m : Int), vs = [.ref a, .int m] ∧ Bag H a ∧ 0 < m ∧ m.natAbs < 2 ^ 200 ∧ ∀ (r : Int) (H' : Hp), 0 ≤ r → r < m → Mv a H H' → Q (.int r) H'
theorem mv_set {H : Hp} {a : Addr} {x y z : Int} : Mv a H (upd H a (.lst [.int x, .int y, .int z])) := ⟨bag_new, fun b o n e => by rw [upd_ne n]; exact e⟩
theorem draw_size {m : Int} (h0 : 0 < m) (h : m.natAbs < 2 ^ 200) : CDivW x m := wide_div h0 h (by decide) (by decide)
theorem ok_law_draw (T : Txt K mg) : FnOk P w K mg base CX0 1 T.f_law_draw T.d_law_draw ["_law_bag_here", "_law_many"] (sp_law_draw K) := by
  refine T.k_law_draw.ok sc_law_draw (fun vs H Q E h => ?_) (fun cdv A outer s H vs Q E hr h => ?_)
  · obtain ⟨a, m, rfl, _⟩ := h
    rfl
  · obtain ⟨a, m, rfl, ⟨x, y, z, hB⟩, hm, hm2, q⟩ := h
    refine ⟨_, (C8.pss_cut (ps_if (pt_cmpR op_eq (pe_ix ix_list (pv 0) pe_int (fun _ _ => rfl)) pe_int (nomark _)) (pss_cons (ps_set (i := 2) sc_law_draw.nd rfl (.inl rfl) (pe_op op_modP (pe_callTy call_intI (by rfl) T.m_int (by decide +kernel) (pa_cons (pe_op op_add (pe_op op_add (pe_op op_mul (pe_ix ix_list (pv 0) pe_int (fun _ _ => rfl)) pe_int) (pe_op op_mul (pe_ix ix_list (pv 0) pe_int (fun _ _ => rfl)) pe_int)) pe_int) pa_nil)) pe_int))
      (pss_cons (ps_asg (pe_op op_add (pe_op op_mul (pv 2) pe_int) (pe_op op_modP (pe_callTy call_intI (by rfl) T.m_int (by decide +kernel) (pa_cons (pe_op op_add (pe_op op_mul (pv 2) (pv 2)) (pe_op op_mul (pe_ix ix_list (pv 0) pe_int (fun _ _ => rfl)) pe_int)) pa_nil)) pe_int)) (pg_sub (pv 0) pe_int set_list))
      (pss_one (ps_asg (pv 2) (pg_sub (pv 0) pe_int set_list))))) pss_nil)
      (pss_cons (ps_set (i := 3) sc_law_draw.nd rfl (.inl rfl) (pe_ix ix_list (pv 0) pe_int (fun _ _ => rfl)))
      (pss_cons (ps_asg (pe_op op_fdivW (pv 3) (pv 1)) (pg_sub (pv 0) pe_int set_list))
      (pss_one (ps_ret (pe_op op_modP (pe_callTy call_intI (by rfl) T.m_int (by decide +kernel) (pa_cons (pv 3) pa_nil)) (pv 1))))))), ?_⟩
    refine rdCut (fun σ H' => ∃ (x1 y1 z1 : Int) (u : Option V), H' a = some (.lst [.int x1, .int y1, .int z1]) ∧ Mv a H H' ∧ σ = [some (V.ref a), some (V.int m), u, none]) ?_ ?_
    · walk_at "rd"
      refine i_ixL (sqL_of hB) (v := .int x) rfl ?_
      walk_at "rd"
      refine ⟨rfl, ite2 (fun _ => ?_) (fun _ => ⟨x, y, z, hB, Mv.refl ⟨x, y, z, hB⟩⟩)⟩
      refine rdSeq ?_
      walk_at "rd"
      refine i_ixL (sqL_of hB) (v := .int y) rfl ?_
      walk_at "rd"
      refine ⟨cm_r (by decide), i_ixL (sqL_of hB) (v := .int z) rfl ?_⟩
      walk_at "rd"
      refine ⟨cm_r (by decide), ?_⟩
      have h0 := Int.emod_nonneg (y * 48271 + z * 69621 + 11) (show (2147483647 : Int) ≠ 0 by decide)
      have h1 := Int.emod_lt_of_pos (y * 48271 + z * 69621 + 11) (show (0 : Int) < 2147483647 by decide)
      generalize (y * 48271 + z * 69621 + 11) % 2147483647 = sd at h0 h1
      refine rdSeq ?_
      walk_at "rd"
      refine ⟨cm_r (by decide), .inl ⟨by omega, by omega⟩, i_ixL (sqL_of hB) (v := .int z) rfl ?_⟩
      walk_at "rd"
      refine ⟨cm_r (by decide), i_setL hB (j := 0) rfl ?_⟩
      walk_at "rd"
      refine i_setL upd_same (j := 1) rfl ?_
      walk_at "rd"
      rw [upd_upd]
      exact ⟨_, _, _, upd_same, mv_set⟩
    · rintro σ H1 ⟨x1, y1, z1, u, h1, mv, rfl⟩
      refine rdSeq ?_
      walk_at "rd"
      refine i_ixL (sqL_of h1) (v := .int x1) rfl ?_
      refine rdSeq ?_
      walk_at "rd"
      refine ⟨draw_size hm hm2, i_setL h1 (j := 0) rfl ?_⟩
      walk_at "rd"
      refine ⟨hm, q _ _ (Int.emod_nonneg _ (by omega)) (Int.emod_lt_of_pos _ hm) (mv.trans mv_set)⟩
theorem i_draw {K : PySem.W.Frag} {H0 H : Hp} {a : Addr} {m : Int} {Q : VK} {E : XK} (mv : Mv a H0 H) (hm : 0 < m) (hs : m.natAbs < 2 ^ 200) (q : ∀ (r : Int) (H' : Hp), 0 ≤ r → r < m → Mv a H H' → Mv a H0 H' → Q (.int r) H') : sp_law_draw K [.ref a, .int m] H Q E :=
  ⟨a, m, rfl, mv.bag, hm, hs, fun r H' h0 h1 mv' => q r H' h0 h1 mv' (mv.trans mv')⟩
theorem at_int {ns : List Int} {i : Int} (h0 : 0 ≤ i) (h1 : i < ns.length) : ∃ v, atI (ns.map V.int) i = some (.int v) ∧ v ∈ ns := by
  obtain ⟨j, rfl⟩ := Int.eq_ofNat_of_zero_le h0
  have hi : j < ns.length := by omega
  exact ⟨ns[j], atI_nat (by rw [List.getElem?_map, List.getElem?_eq_getElem hi]; rfl), List.getElem_mem hi⟩


/-! ### is_integer -/
/-- not an integer, by its type -/
def Odd (K : PySem.W.Frag) (H : Hp) (x : V) : Prop := ∃ t, TyX K H x (.type t) ∧ (kitB t "int" = some false ∨ t = "bool")
def sp_is_integer (K : PySem.W.Frag) : Sp := fun vs H Q _ => ∃ (x : V) (lo hi : Int), vs = [x, .int lo, .int hi] ∧ ((∃ v, x = .int v ∧ Q (.bl (decide (lo ≤ v ∧ v ≤ hi))) H) ∨ (Odd K H x ∧ Q (.bl false) H))
theorem ok_is_integer (T : Txt K mg) : FnOk P w K mg base CX0 1 T.f_is_integer T.d_is_integer ["value", "least", "greatest"] (sp_is_integer K) := by
  refine T.k_is_integer.ok sc_is_integer (fun vs H Q E h => ?_) (fun cdv A outer s H vs Q E hr h => ?_)
  · obtain ⟨x, lo, hi, rfl, _⟩ := h
    rfl
  · obtain ⟨x, lo, hi, rfl, h⟩ := h
    refine ⟨_, (pss_one (ps_ret (pe_and (pe_callB call_isi (by rfl) T.m_isinstance (by decide +kernel) (pa_cons (pv 0) (pa_cons (pe_bltn (v := .ty "int") (by rfl) T.m_int (by decide +kernel) rfl) pa_nil))) (pe_and (pe_not (pe_callB call_isi (by rfl) T.m_isinstance (by decide +kernel) (pa_cons (pv 0) (pa_cons (pe_bltn (v := .ty "bool") (by rfl) T.m_bool (by decide +kernel) rfl) pa_nil)))) (pe_one (pe_chain op_le op_le (pv 1) (pv 0) (pv 2))))))), ?_⟩
    walk_at "rd"
    rcases h with ⟨v, rfl, q⟩ | ⟨⟨t, ty, h⟩, q⟩
    · refine i_isi ty_int kb_ii ?_
      walk_at "rd"
      refine i_isi ty_int kb_ib ?_
      walk_at "rd"
      refine ite2 (fun h1 => ?_) (fun h1 => ?_)
      · have e : decide (lo ≤ v ∧ v ≤ hi) = decide (v ≤ hi) := by simp [h1]
        rw [← e]; exact q
      · have e : decide (lo ≤ v ∧ v ≤ hi) = false := by simp [h1]
        rw [← e]; exact q
    · rcases h with h | rfl
      · refine i_isi ty h ?_
        walk_at "rd"
        exact q
      · refine i_isi ty kb_bi ?_
        walk_at "rd"
        refine i_isi ty kb_bb ?_
        walk_at "rd"
        exact q



/-! ### texts.py -/
/-- not a text, by its type -/
def OddS (K : PySem.W.Frag) (H : Hp) (x : V) : Prop := ∃ t, TyX K H x (.type t) ∧ kitB t "str" = some false
def prn (c : Nat) : Bool := decide (32 ≤ c) && (decide (c ≤ 126) && !decide (c = 37))
def sp_is_printable (K : PySem.W.Frag) : Sp := fun vs H Q _ => ∃ x : V, vs = [x] ∧ ((∃ z : Str, x = .str z ∧ z.length ≤ 100000 ∧ ∀ H', Same H H' → Q (.bl (z.cps.toList.all prn)) H') ∨ (OddS K H x ∧ Q (.bl false) H))
theorem ok_is_printable (T : Txt K mg) : FnOk P w K mg base CX0 1 T.f_is_printable T.d_is_printable ["value"] (sp_is_printable K) := by
  refine T.k_is_printable.ok sc_is_printable (fun vs H Q E h => ?_) (fun cdv A outer s H vs Q E hr h => ?_)
  · obtain ⟨x, rfl, _⟩ := h
    rfl
  · obtain ⟨x, rfl, h⟩ := h
    refine ⟨_, (pss_cons (ps_if (pt_not (pt_val (pe_callB call_isi (by rfl) T.m_isinstance (by decide +kernel) (pa_cons (pv 0) (pa_cons (pe_bltn (v := .ty "str") (by rfl) T.m_str (by decide +kernel) rfl) pa_nil))))) (pss_one (ps_ret pe_bl)) pss_nil)
      (pss_one (ps_ret (pe_callB (cr_all rfl) (by rfl) T.m_all (by decide +kernel) (pa_cons (pe_lc (own := [("char", 1)]) (g := gName 1) (tt := tYes) rfl sc_is_printable.nd (pi_str (pv 0)) (blkOk_by (own := [("char", 1)]) (N := ["value", "char"]) (sc := defScope s_is_printable) (by decide +kernel)) (fun _ _ _ _ _ => pg_name (i := 1) sc_is_printable.nd rfl (Or.inl rfl)) (fun _ _ _ _ _ => pts_nil) (fun _ _ _ _ _ => (pe_and (pe_chain op_leC op_leC pe_str (pv 1) pe_str) (pe_one (pe_cmpR op_ne (pe_callB call_ordC (by rfl) T.m_ord (by decide +kernel) (pa_cons (pv 1) pa_nil)) pe_int (nomark _)))))) pa_nil))))), ?_⟩
    walk_at "rd"
    refine rdSeq ?_
    walk_at "rd"
    rcases h with ⟨z, rfl, hz, q⟩ | ⟨⟨t, ty, ht⟩, q⟩
    · refine i_isi ty_str kb_ss ?_
      walk_at "rd"
      refine i_lcL (walk_chars (z := z)) (fun c => .bl (prn c)) (by rw [Array.length_toList]; exact line5' hz) (fun _ _ _ => trivial) (fun c hc H1 Q' sm q' => ?_) (fun D hD => ?_)
      · walk_at "rd"
        refine i_leC (c := 32) (d := c) rfl rfl ?_
        walk_at "rd"
        unfold prn at q'
        refine ite2 (fun h1 => i_leC (c := c) (d := 126) rfl rfl ?_) (fun h1 => by rw [decide_eq_false h1] at q'; exact q')
        rw [decide_eq_true h1] at q'
        walk_at "rd"
        refine ite2 (fun h2 => i_ordC rfl ⟨rfl, ?_⟩) (fun h2 => by rw [decide_eq_false h2] at q'; exact q')
        rw [decide_eq_true h2] at q'
        have e : decide (V.int (c : Int) = V.int 37) = decide (c = 37) := by
          by_cases h : c = 37
          · subst h; rfl
          · rw [decide_eq_false h, decide_eq_false]
            intro k; injection k with k; omega
        rw [e]
        exact q'
      · refine i_all (bs := z.cps.toList.map prn) (by rw [upd_same, List.map_map]; rfl) ?_
        rw [List.all_map]
        exact q _ (same_new hD)
    · refine i_isi ty ht ?_
      walk_at "rd"
      exact q
def letC (c : Nat) : Bool := decide (c ∈ ("ABCDEFGHIJKLMNOPQRSTUVWXYZabcdefghijklmnopqrstuvwxyz" : Str).cps.toList)
def digC (c : Nat) : Bool := decide (c ∈ ("0123456789" : Str).cps.toList)
def nameC (l : List Nat) : Bool := decide (1 ≤ l.length ∧ l.length ≤ 20) && (letC (l.headD 0) && l.all fun c => letC c || digC c)
def sp_is_name (K : PySem.W.Frag) : Sp := fun vs H Q _ => ∃ x : V, vs = [x] ∧ ((∃ z : Str, x = .str z ∧ z.length ≤ 100000 ∧ ∀ H', Same H H' → Q (.bl (nameC z.cps.toList)) H') ∨ (OddS K H x ∧ Q (.bl false) H))
theorem ok_is_name (T : Txt K mg) : FnOk P w K mg base CX0 1 T.f_is_name T.d_is_name ["value"] (sp_is_name K) := by
  refine T.k_is_name.ok sc_is_name (fun vs H Q E h => ?_) (fun cdv A outer s H vs Q E hr h => ?_)
  · obtain ⟨x, rfl, _⟩ := h
    rfl
  · obtain ⟨x, rfl, h⟩ := h
    refine ⟨_, (pss_cons (ps_if (PW.pt (pw_or (pt_not (pt_val (pe_callB call_isi (by rfl) T.m_isinstance (by decide +kernel) (pa_cons (pv 0) (pa_cons (pe_bltn (v := .ty "str") (by rfl) T.m_str (by decide +kernel) rfl) pa_nil))))) (pw_or (pt_not (pt_chain op_le op_le pe_int (pe_callB call_lenS (by rfl) T.m_len (by decide +kernel) (pa_cons (pv 0) pa_nil)) (pe_glob (v := .int _) rfl T.g_MOST_NAME ⟨_, rfl⟩))) (pw_or1 (pt_cmpR op_notInC (pe_ix ix_str (pv 0) pe_int (fun _ _ => rfl)) (pe_glob (v := .str _) rfl T.g_LETTERS ⟨_, rfl⟩) rfl))))) (pss_one (ps_ret pe_bl)) pss_nil)
      (pss_one (ps_ret (pe_callB (cr_all rfl) (by rfl) T.m_all (by decide +kernel) (pa_cons (pe_lc (own := [("char", 1)]) (g := gName 1) (tt := tYes) rfl sc_is_name.nd (pi_str (pv 0)) (blkOk_by (own := [("char", 1)]) (N := ["value", "char"]) (sc := defScope s_is_name) (by decide +kernel)) (fun _ _ _ _ _ => pg_name (i := 1) sc_is_name.nd rfl (Or.inl rfl)) (fun _ _ _ _ _ => pts_nil) (fun _ _ _ _ _ => (pe_or (pe_cmpR op_inC (pv 1) (pe_glob (v := .str _) rfl T.g_LETTERS ⟨_, rfl⟩) rfl) (pe_one (pe_cmpR op_inC (pv 1) (pe_glob (v := .str _) rfl T.g_DIGITS ⟨_, rfl⟩) rfl))))) pa_nil))))), ?_⟩
    walk_at "rd"
    refine rdSeq ?_
    walk_at "rd"
    rcases h with ⟨z, rfl, hz, q⟩ | ⟨⟨t, ty, ht⟩, q⟩
    · refine i_isi ty_str kb_ss ?_
      walk_at "rd"
      have q : ∀ (H' : Hp) b, Same H H' → b = nameC z.cps.toList → Q (V.bl b) H' := fun H' b s e => by rw [e]; exact q H' s
      have ez : z.cps.toList.length = z.length := Array.length_toList
      refine i_lenS rfl (line5 hz) ?_
      walk_at "rd"
      have out : ¬ (1 ≤ z.cps.toList.length ∧ z.cps.toList.length ≤ 20) → nameC z.cps.toList = false := fun h => by unfold nameC; rw [decide_eq_false h]; rfl
      refine ite2 (fun h1 => ?_) (fun h1 => q _ _ (Same.refl H) (out (by omega)).symm)
      by_cases h2 : (z.length : Int) ≤ 20
      case neg => exact i_then (by simp only [Bool.not_eq_true', decide_eq_false_iff_not]; exact h2) (q _ _ (Same.refl H) (out (by omega)).symm)
      refine i_else (by simp [h2]) ?_
      have hd : decide (1 ≤ z.cps.toList.length ∧ z.cps.toList.length ≤ 20) = true := decide_eq_true ⟨by omega, by omega⟩
      obtain ⟨c, r, ec⟩ : ∃ c r, z.cps.toList = c :: r := by
        cases e : z.cps.toList with
        | nil => rw [e] at ez; simp at ez; omega
        | cons c r => exact ⟨c, r, rfl⟩
      refine i_ixS (c := c) (line5 hz) (by rw [ec]; exact atI_nat (j := 0) rfl) (i_inC rfl rfl ?_)
      walk_at "rd"
      have eN : nameC z.cps.toList = (letC c && (z.cps.toList.all fun c => letC c || digC c)) := by
        unfold nameC; rw [hd, ec]; rfl
      by_cases h3 : letC c = true
      case neg => exact i_then (by simp only [Bool.not_eq_true', decide_eq_false_iff_not]; exact fun k => h3 (decide_eq_true k)) (q _ _ (Same.refl H) (by rw [eN]; simp [h3]))
      refine i_else (by simp only [Bool.not_eq_true', decide_eq_false_iff_not]; exact fun k => k (of_decide_eq_true h3)) ?_
      refine i_lcL (walk_chars (z := z)) (fun c => .bl (letC c || digC c)) (by rw [Array.length_toList]; exact line5' hz) (fun _ _ _ => trivial) (fun c hc H1 Q' sm q' => ?_) (fun D hD => ?_)
      · walk_at "rd"
        refine i_inC rfl rfl ?_
        walk_at "rd"
        unfold letC at q'
        refine ite2 (fun h => by rw [decide_eq_true h] at q'; exact q') (fun h => i_inC rfl rfl ?_)
        rw [decide_eq_false h] at q'
        exact q'
      · refine i_all (bs := z.cps.toList.map fun c => letC c || digC c) (by rw [upd_same, List.map_map]; rfl) ?_
        refine q _ _ (same_new hD) ?_
        rw [eN, h3, List.all_map]; rfl
    · refine i_isi ty ht ?_
      walk_at "rd"
      exact q
def txtC (l : List Nat) : Bool := l.all prn && (decide (1 ≤ l.length ∧ l.length ≤ 16) && !decide (34 ∈ l))
def sp_is_text (K : PySem.W.Frag) : Sp := fun vs H Q _ => ∃ x : V, vs = [x] ∧ ((∃ z : Str, x = .str z ∧ z.length ≤ 100000 ∧ ∀ H', Same H H' → Q (.bl (txtC z.cps.toList)) H') ∨ (OddS K H x ∧ Q (.bl false) H))
theorem ok_is_text (T : Txt K mg) : FnOk P w K mg base CX0 2 T.f_is_text T.d_is_text ["value"] (sp_is_text K) := by
  refine T.k_is_text.ok sc_is_text (fun vs H Q E h => ?_) (fun cdv A outer s H vs Q E hr h => ?_)
  · obtain ⟨x, rfl, _⟩ := h
    rfl
  · obtain ⟨x, rfl, h⟩ := h
    refine ⟨_, (pss_one (ps_ret (pe_and (pe_call (ok_is_printable T) (hr.mono (by decide)) (by rfl) T.g_is_printable T.k_is_printable.kp T.b_is_printable .nil pass0 (pa_cons (pv 0) pa_nil)) (pe_and (pe_chain op_le op_le pe_int (pe_callB call_lenS (by rfl) T.m_len (by decide +kernel) (pa_cons (pv 0) pa_nil)) (pe_glob (v := .int _) rfl T.g_MOST_TEXT ⟨_, rfl⟩)) (pe_one (pe_cmpR op_notInC pe_str (pv 0) rfl)))))), ?_⟩
    walk_at "rd"
    rcases h with ⟨z, rfl, hz, q⟩ | ⟨od, q⟩
    · have q : ∀ (H' : Hp) b, Same H H' → b = txtC z.cps.toList → Q (V.bl b) H' := fun H' b s e => by rw [e]; exact q H' s
      have ez : z.cps.toList.length = z.length := Array.length_toList
      refine ⟨_, rfl, .inl ⟨z, rfl, hz, fun H1 sm => ?_⟩⟩
      walk_at "rd"
      refine ite2 (fun h1 => i_lenS rfl (line5 hz) ?_) (fun h1 => q _ _ sm (by unfold txtC; simp [h1]))
      walk_at "rd"
      have out : ¬ (1 ≤ z.cps.toList.length ∧ z.cps.toList.length ≤ 16) → txtC z.cps.toList = false := fun h => by unfold txtC; rw [decide_eq_false h]; simp
      refine ite2 (fun h2 => ?_) (fun h2 => q _ _ sm (out (by omega)).symm)
      refine ite2 (fun h3 => i_inC (c := 34) rfl rfl ?_) (fun h3 => q _ _ sm (out (by omega)).symm)
      refine q _ _ sm ?_
      unfold txtC
      rw [h1, decide_eq_true (show 1 ≤ z.cps.toList.length ∧ z.cps.toList.length ≤ 16 from ⟨by omega, by omega⟩)]
      rfl
    · refine ⟨_, rfl, .inr ⟨od, ?_⟩⟩
      walk_at "rd"
      exact q
/-! ### the law's own -/
def btw (lo hi c : Nat) : Bool := decide (lo ≤ c) && decide (c ≤ hi)
def sp_law_between (K : PySem.W.Frag) : Sp := fun vs H Q _ => ∃ (c lo hi : Nat), vs = [.str ⟨#[c]⟩, .int lo, .int hi] ∧ Q (.bl (btw lo hi c)) H
theorem ok_law_between (T : Txt K mg) : FnOk P w K mg base CX0 1 T.f_law_between T.d_law_between ["_law_char", "_law_low", "_law_high"] (sp_law_between K) := by
  refine T.k_law_between.ok sc_law_between (fun vs H Q E h => ?_) (fun cdv A outer s H vs Q E hr h => ?_)
  · obtain ⟨c, lo, hi, rfl, _⟩ := h
    rfl
  · obtain ⟨c, lo, hi, rfl, q⟩ := h
    refine ⟨_, (pss_one (ps_ret (pe_and (pe_cmpR op_le (pv 1) (pe_callB call_ordC (by rfl) T.m_ord (by decide +kernel) (pa_cons (pv 0) pa_nil)) (nomark _)) (pe_one (pe_cmpR op_le (pe_callB call_ordC (by rfl) T.m_ord (by decide +kernel) (pa_cons (pv 0) pa_nil)) (pv 2) (nomark _)))))), ?_⟩
    walk_at "rd"
    refine i_ordC rfl ?_
    walk_at "rd"
    unfold btw at q
    refine ite2 (fun h => i_ordC rfl ?_) (fun h => ?_)
    · walk_at "rd"
      rw [decide_eq_true (show lo ≤ c by omega)] at q
      have e : decide ((c : Int) ≤ (hi : Int)) = decide (c ≤ hi) := by congr 1; simp
      rw [e]; exact q
    · rw [decide_eq_false (show ¬ lo ≤ c by omega)] at q
      exact q
def letR (c : Nat) : Bool := btw 65 90 c || btw 97 122 c
def sp_law_letter (K : PySem.W.Frag) : Sp := fun vs H Q _ => ∃ (c : Nat), vs = [.str ⟨#[c]⟩] ∧ Q (.bl (letR c)) H
theorem ok_law_letter (T : Txt K mg) : FnOk P w K mg base CX0 2 T.f_law_letter T.d_law_letter ["_law_char"] (sp_law_letter K) := by
  refine T.k_law_letter.ok sc_law_letter (fun vs H Q E h => ?_) (fun cdv A outer s H vs Q E hr h => ?_)
  · obtain ⟨c, rfl, _⟩ := h
    rfl
  · obtain ⟨c, rfl, q⟩ := h
    refine ⟨_, (pss_one (ps_ret (pe_or (pe_call (ok_law_between T) (hr.mono (by decide)) (by rfl) T.g_law_between T.k_law_between.kp T.b_law_between .nil pass0 (pa_cons (pv 0) (pa_cons pe_int (pa_cons pe_int pa_nil)))) (pe_one (pe_call (ok_law_between T) (hr.mono (by decide)) (by rfl) T.g_law_between T.k_law_between.kp T.b_law_between .nil pass0 (pa_cons (pv 0) (pa_cons pe_int (pa_cons pe_int pa_nil)))))))), ?_⟩
    walk_at "rd"
    refine ⟨c, 65, 90, rfl, ?_⟩
    walk_at "rd"
    unfold letR at q
    refine ite2 (fun h => by rw [h] at q; exact q) (fun h => ⟨c, 97, 122, rfl, ?_⟩)
    rw [Bool.not_eq_true] at h
    rw [h] at q
    exact q
def prnR (c : Nat) : Bool := btw 32 126 c
def sp_law_is_printable (K : PySem.W.Frag) : Sp := fun vs H Q _ => ∃ z : Str, vs = [.str z] ∧ z.length ≤ 100000 ∧ Q (.bl (z.cps.toList.all prnR)) H
theorem ok_law_is_printable (T : Txt K mg) : FnOk P w K mg base CX0 2 T.f_law_is_printable T.d_law_is_printable ["_law_text"] (sp_law_is_printable K) := by
  refine T.k_law_is_printable.ok sc_law_is_printable (fun vs H Q E h => ?_) (fun cdv A outer s H vs Q E hr h => ?_)
  · obtain ⟨c, rfl, _⟩ := h
    rfl
  · obtain ⟨z, rfl, hz, q⟩ := h
    refine ⟨_, (pss_cons (ps_for PassesOwn.never rfl (pi_str (pv 0)) (pg_name (i := 1) sc_law_is_printable.nd rfl (Or.inl rfl)) (pss_one (ps_if (pt_not (pt_val (pe_call (ok_law_between T) (hr.mono (by decide)) (by rfl) T.g_law_between T.k_law_between.kp T.b_law_between .nil pass0 (pa_cons (pv 1) (pa_cons pe_int (pa_cons pe_int pa_nil)))))) (pss_one (ps_ret pe_bl)) pss_nil)))
      (pss_one (ps_ret pe_bl))), ?_⟩
    walk_at "rd"
    refine rdSeq ?_
    walk_at "rd"
    refine i_forall (walk_chars (z := z)) prnR (.bl false) trivial (fun c hc D' h1 h2 => ?_) (fun h => ?_) (fun h => by rw [h] at q; exact q)
    · walk_at "rd"
      refine ⟨c, 32, 126, rfl, ?_⟩
      walk_at "rd"
      exact ite2 (fun h => h2 (by simpa [prnR] using h)) (fun h => h1 (by simpa [prnR] using h))
    · walk_at "rd"
      rw [h] at q
      exact ⟨q, fun _ => q⟩
def nameR (l : List Nat) : Bool := decide (1 ≤ l.length ∧ l.length ≤ 20) && (letR (l.headD 0) && l.all fun c => letR c || btw 48 57 c)
def sp_law_is_name (K : PySem.W.Frag) : Sp := fun vs H Q _ => ∃ z : Str, vs = [.str z] ∧ z.length ≤ 100000 ∧ Q (.bl (nameR z.cps.toList)) H
theorem ok_law_is_name (T : Txt K mg) : FnOk P w K mg base CX0 3 T.f_law_is_name T.d_law_is_name ["_law_text"] (sp_law_is_name K) := by
  refine T.k_law_is_name.ok sc_law_is_name (fun vs H Q E h => ?_) (fun cdv A outer s H vs Q E hr h => ?_)
  · obtain ⟨c, rfl, _⟩ := h
    rfl
  · obtain ⟨z, rfl, hz, q⟩ := h
    refine ⟨_, (pss_cons (ps_if (PW.pt (pw_or (pt_cmpR op_lt (pe_callB call_lenS (by rfl) T.m_len (by decide +kernel) (pa_cons (pv 0) pa_nil)) pe_int (nomark _)) (pw_or1 (pt_cmpR op_gt (pe_callB call_lenS (by rfl) T.m_len (by decide +kernel) (pa_cons (pv 0) pa_nil)) pe_int (nomark _))))) (pss_one (ps_ret pe_bl)) pss_nil)
      (pss_cons (ps_for PassesOwn.never rfl (pi_str (pv 0)) (pg_name (i := 1) sc_law_is_name.nd rfl (Or.inl rfl)) (pss_one (ps_if (PW.pt (pw_and (pt_not (pt_val (pe_call (ok_law_letter T) (hr.mono (by decide)) (by rfl) T.g_law_letter T.k_law_letter.kp T.b_law_letter .nil pass0 (pa_cons (pv 1) pa_nil)))) (pw_and1 (pt_not (pt_val (pe_call (ok_law_between T) (hr.mono (by decide)) (by rfl) T.g_law_between T.k_law_between.kp T.b_law_between .nil pass0 (pa_cons (pv 1) (pa_cons pe_int (pa_cons pe_int pa_nil))))))))) (pss_one (ps_ret pe_bl)) pss_nil)))
      (pss_one (ps_ret (pe_call (ok_law_letter T) (hr.mono (by decide)) (by rfl) T.g_law_letter T.k_law_letter.kp T.b_law_letter .nil pass0 (pa_cons (pe_ix ix_str (pv 0) pe_int (fun _ _ => rfl)) pa_nil)))))), ?_⟩
    walk_at "rd"
    refine rdSeq ?_
    walk_at "rd"
    refine i_lenS rfl (line5 hz) ?_
    walk_at "rd"
    have q : ∀ b, b = nameR z.cps.toList → Q (V.bl b) H := fun b e => by rw [e]; exact q
    have ez : z.cps.toList.length = z.length := Array.length_toList
    have out : ¬ (1 ≤ z.cps.toList.length ∧ z.cps.toList.length ≤ 20) → nameR z.cps.toList = false := fun h => by unfold nameR; rw [decide_eq_false h]; rfl
    refine ite2 (fun h1 => q _ (out (by omega)).symm) (fun h1 => i_lenS rfl (line5 hz) ?_)
    walk_at "rd"
    refine ite2 (fun h2 => q _ (out (by omega)).symm) (fun h2 => rdSeq ?_)
    walk_at "rd"
    have hd : decide (1 ≤ z.cps.toList.length ∧ z.cps.toList.length ≤ 20) = true := decide_eq_true ⟨by omega, by omega⟩
    obtain ⟨c, r, ec⟩ : ∃ c r, z.cps.toList = c :: r := by
      cases e : z.cps.toList with
      | nil => rw [e] at ez; simp at ez; omega
      | cons c r => exact ⟨c, r, rfl⟩
    have eN : nameR z.cps.toList = (letR c && (z.cps.toList.all fun c => letR c || btw 48 57 c)) := by
      unfold nameR; rw [hd, ec]; rfl
    refine i_forall (walk_chars (z := z)) (fun c => letR c || btw 48 57 c) (.bl false) trivial (fun c hc D' h1 h2 => ?_) (fun h => ?_) (fun h => q _ (by rw [eN, h, Bool.and_false]))
    · walk_at "rd"
      refine ⟨c, rfl, ?_⟩
      walk_at "rd"
      refine ite2 (fun h => ⟨c, 48, 57, rfl, ?_⟩) (fun h => h1 (by simp at h; simp [h]))
      walk_at "rd"
      simp only [Bool.not_eq_true'] at h
      refine ite2 (fun h' => h2 (by simp at h'; simp [h, h'])) (fun h' => h1 (by simp at h'; simp [h']))
    · have fin : ∀ o, tRet (tCall (sp_law_letter K) [] E0 (tCons (tOp rIxS (tVar 0) (tC (V.int 0))) tNil)) { nx := fun x H' => Q V.non H', rt := Q } [some (V.str z), o] H := fun o => by
        walk_at "rd"
        refine i_ixS (c := c) (line5 hz) (by rw [ec]; exact atI_nat (j := 0) rfl) ⟨c, rfl, ?_⟩
        exact q _ (by rw [eN, h, Bool.and_true])
      exact ⟨fin _, fun u => fin u⟩
def txtR (l : List Nat) : Bool := (l.all fun c => !decide (c = 34)) && (l.all prnR && decide (1 ≤ l.length ∧ l.length ≤ 16))
def sp_law_is_text (K : PySem.W.Frag) : Sp := fun vs H Q _ => ∃ z : Str, vs = [.str z] ∧ z.length ≤ 100000 ∧ Q (.bl (txtR z.cps.toList)) H
theorem ok_law_is_text (T : Txt K mg) : FnOk P w K mg base CX0 3 T.f_law_is_text T.d_law_is_text ["_law_text"] (sp_law_is_text K) := by
  refine T.k_law_is_text.ok sc_law_is_text (fun vs H Q E h => ?_) (fun cdv A outer s H vs Q E hr h => ?_)
  · obtain ⟨c, rfl, _⟩ := h
    rfl
  · obtain ⟨z, rfl, hz, q⟩ := h
    refine ⟨_, (pss_cons (ps_for PassesOwn.never rfl (pi_str (pv 0)) (pg_name (i := 1) sc_law_is_text.nd rfl (Or.inl rfl)) (pss_one (ps_if (pt_cmpR op_eq (pe_callB call_ordC (by rfl) T.m_ord (by decide +kernel) (pa_cons (pv 1) pa_nil)) pe_int (nomark _)) (pss_one (ps_ret pe_bl)) pss_nil)))
      (pss_one (ps_ret (pe_and (pe_call (ok_law_is_printable T) (hr.mono (by decide)) (by rfl) T.g_law_is_printable T.k_law_is_printable.kp T.b_law_is_printable .nil pass0 (pa_cons (pv 0) pa_nil)) (pe_and (pe_cmpR op_ge (pe_callB call_lenS (by rfl) T.m_len (by decide +kernel) (pa_cons (pv 0) pa_nil)) pe_int (nomark _)) (pe_one (pe_cmpR op_le (pe_callB call_lenS (by rfl) T.m_len (by decide +kernel) (pa_cons (pv 0) pa_nil)) pe_int (nomark _)))))))), ?_⟩
    walk_at "rd"
    refine rdSeq ?_
    walk_at "rd"
    have q : ∀ b, b = txtR z.cps.toList → Q (V.bl b) H := fun b e => by rw [e]; exact q
    have ez : z.cps.toList.length = z.length := Array.length_toList
    refine i_forall (walk_chars (z := z)) (fun c => !decide (c = 34)) (.bl false) trivial (fun c hc D' h1 h2 => ?_) (fun h => ?_) (fun h => q _ (by unfold txtR; rw [h]; rfl))
    · walk_at "rd"
      refine i_ordC rfl ⟨rfl, ?_⟩
      walk_at "rd"
      refine ite2 (fun h => h2 (by simp; omega)) (fun h => h1 (by simp; omega))
    · have fin : ∀ o, tRet (tAndV (tCall (sp_law_is_printable K) [] E0 (tCons (tVar 0) tNil))
            (tAndV (tOp (rI0 fun i j => V.bl (decide (j ≤ i))) (tCB rLenS' (tCons (tVar 0) tNil)) (tC (V.int 1)))
              (tOp (rI0 fun i j => V.bl (decide (i ≤ j))) (tCB rLenS' (tCons (tVar 0) tNil)) (tC (V.int 16))))) { nx := fun x H' => Q V.non H', rt := Q } [some (V.str z), o] H := fun o => by
        walk_at "rd"
        refine ⟨z, rfl, hz, ?_⟩
        walk_at "rd"
        refine ite2 (fun h1 => i_lenS rfl (line5 hz) ?_) (fun h1 => q _ (by unfold txtR; simp [h1]))
        walk_at "rd"
        refine ite2 (fun h2 => i_lenS rfl (line5 hz) ?_) (fun h2 => q _ ?_)
        · walk_at "rd"
          refine q _ ?_
          unfold txtR; rw [h, h1, Bool.true_and, Bool.true_and]
          congr 1
          exact propext ⟨fun k => ⟨by omega, by omega⟩, fun k => by omega⟩
        · unfold txtR; rw [h, h1, Bool.true_and, Bool.true_and, decide_eq_false (by omega)]
      exact ⟨fin _, fun u => fin u⟩
def sp_law_tells (K : PySem.W.Frag) : Sp := fun vs H Q _ => ∃ a b : Bool, vs = [.bl a, .bl b] ∧ Q (.bl (decide (a = b))) H
theorem ok_law_tells (T : Txt K mg) : FnOk P w K mg base CX0 1 T.f_law_tells T.d_law_tells ["_law_answer", "_law_due"] (sp_law_tells K) := by
  refine T.k_law_tells.ok sc_law_tells (fun vs H Q E h => ?_) (fun cdv A outer s H vs Q E hr h => ?_)
  · obtain ⟨c, b, rfl, _⟩ := h
    rfl
  · obtain ⟨a, b, rfl, q⟩ := h
    refine ⟨_, (pss_one (ps_ret (pe_and (pe_callB call_isi (by rfl) T.m_isinstance (by decide +kernel) (pa_cons (pv 0) (pa_cons (pe_bltn (v := .ty "bool") (by rfl) T.m_bool (by decide +kernel) rfl) pa_nil))) (pe_one (pe_cmpR op_eq (pv 0) (pv 1) (nomark _)))))), ?_⟩
    walk_at "rd"
    refine i_isi ty_bl kb_bb ?_
    walk_at "rd"
    exact ⟨rfl, q⟩
def sp_law_integers (K : PySem.W.Frag) : Sp := fun vs H Q _ => ∃ (a : Addr), vs = [.ref a] ∧ Bag H a ∧ ∀ (H' : Hp), Mv a H H' → Q (.bl true) H'
theorem ok_law_integers (T : Txt K mg) : FnOk P w K mg base CX0 3 T.f_law_integers T.d_law_integers ["_law_bag_here"] (sp_law_integers K) := by
  refine T.k_law_integers.ok sc_law_integers (fun vs H Q E h => ?_) (fun cdv A outer s H vs Q E hr h => ?_)
  · obtain ⟨x, rfl, _⟩ := h
    rfl
  · obtain ⟨a, rfl, hB, q⟩ := h
    refine ⟨_, (pss_cons (ps_set (i := 1) sc_law_integers.nd rfl (.inl rfl) (pe_op op_sub (pe_call (ok_law_draw T) (hr.mono (by decide)) (by rfl) T.g_law_draw T.k_law_draw.kp T.b_law_draw .nil pass0 (pa_cons (pv 0) (pa_cons pe_int pa_nil))) pe_int))
      (C8.pss_cut (ps_if (pt_cmpR op_eq (pe_call (ok_law_draw T) (hr.mono (by decide)) (by rfl) T.g_law_draw T.k_law_draw.kp T.b_law_draw .nil pass0 (pa_cons (pv 0) (pa_cons pe_int pa_nil))) pe_int (nomark _)) (pss_one (ps_set (i := 1) sc_law_integers.nd rfl (.inl rfl) (pe_op op_mul (pe_op op_sub (pe_call (ok_law_draw T) (hr.mono (by decide)) (by rfl) T.g_law_draw T.k_law_draw.kp T.b_law_draw .nil pass0 (pa_cons (pv 0) (pa_cons (pe_op op_pow pe_int pe_int) pa_nil))) (pe_op op_mul pe_int (pe_op op_pow pe_int pe_int))) (pe_op op_pow pe_int pe_int)))) pss_nil)
      (pss_cons (ps_set (i := 2) sc_law_integers.nd rfl (.inl rfl) (pe_op op_sub (pe_op op_add (pv 1) (pe_call (ok_law_draw T) (hr.mono (by decide)) (by rfl) T.g_law_draw T.k_law_draw.kp T.b_law_draw .nil pass0 (pa_cons (pv 0) (pa_cons pe_int pa_nil)))) pe_int))
      (pss_cons (ps_set (i := 3) sc_law_integers.nd rfl (.inl rfl) (pe_op op_sub (pe_op op_add (pv 1) (pe_call (ok_law_draw T) (hr.mono (by decide)) (by rfl) T.g_law_draw T.k_law_draw.kp T.b_law_draw .nil pass0 (pa_cons (pv 0) (pa_cons pe_int pa_nil)))) pe_int))
      (pss_cons (ps_set (i := 4) sc_law_integers.nd rfl (.inl rfl) (pe_call (ok_is_integer T) (hr.mono (by decide)) (by rfl) T.g_is_integer T.k_is_integer.kp T.b_is_integer .nil pass0 (pa_cons (pv 1) (pa_cons (pv 2) (pa_cons (pv 3) pa_nil)))))
      (pss_cons (ps_if (pt_not (pt_val (pe_call (ok_law_tells T) (hr.mono (by decide)) (by rfl) T.g_law_tells T.k_law_tells.kp T.b_law_tells .nil pass0 (pa_cons (pv 4) (pa_cons (pe_and (pe_cmpR op_le (pv 2) (pv 1) (nomark _)) (pe_one (pe_cmpR op_le (pv 1) (pv 3) (nomark _)))) pa_nil))))) (pss_one (ps_ret pe_bl)) pss_nil)
      (pss_cons (ps_set (i := 5) sc_law_integers.nd rfl (.inl rfl) (pe_ix ix_list (pe_lst (pa_cons pe_bl (pa_cons pe_bl (pa_cons pe_non (pa_cons pe_str (pa_cons (pe_tup (pa_cons pe_int pa_nil)) (pa_cons (pe_lst (pa_cons pe_int pa_nil)) (pa_cons pe_str (pa_cons pe_dnewK pa_nil))))))))) (pe_call (ok_law_draw T) (hr.mono (by decide)) (by rfl) T.g_law_draw T.k_law_draw.kp T.b_law_draw .nil pass0 (pa_cons (pv 0) (pa_cons pe_int pa_nil))) (fun _ _ => rfl)))
      (pss_cons (ps_if (pt_cmpR op_notBl (pe_call (ok_is_integer T) (hr.mono (by decide)) (by rfl) T.g_is_integer T.k_is_integer.kp T.b_is_integer .nil pass0 (pa_cons (pv 5) (pa_cons (pe_un un_neg pe_int) (pa_cons pe_int pa_nil)))) pe_bl (nomark _)) (pss_one (ps_ret pe_bl)) pss_nil)
      (pss_cons (ps_if (pt_val (pe_callB call_isi (by rfl) T.m_isinstance (by decide +kernel) (pa_cons (pv 5) (pa_cons (pe_bltn (v := .ty "str") (by rfl) T.m_str (by decide +kernel) rfl) pa_nil)))) (pss_one (ps_ret pe_bl)) pss_nil)
      (pss_one (ps_ret (pe_and (pe_cmpR op_isBl (pe_call (ok_is_printable T) (hr.mono (by decide)) (by rfl) T.g_is_printable T.k_is_printable.kp T.b_is_printable .nil pass0 (pa_cons (pv 5) pa_nil)) pe_bl (nomark _)) (pe_and (pe_cmpR op_isBl (pe_call (ok_is_name T) (hr.mono (by decide)) (by rfl) T.g_is_name T.k_is_name.kp T.b_is_name .nil pass0 (pa_cons (pv 5) pa_nil)) pe_bl (nomark _)) (pe_one (pe_cmpR op_isBl (pe_call (ok_is_text T) (hr.mono (by decide)) (by rfl) T.g_is_text T.k_is_text.kp T.b_is_text .nil pass0 (pa_cons (pv 5) pa_nil)) pe_bl (nomark _)))))))))))))))), ?_⟩
    walk_at "rd"
    refine rdSeq ?_
    walk_at "rd"
    refine i_draw (Mv.refl hB) (by decide) (by decide) fun r H1 h0 h1 _ mv => ?_
    walk_at "rd"
    refine rdCut (fun σ H' => Mv a H H' ∧ ∃ v : Int, σ = [some (V.ref a), some (V.int v), none, none, none, none]) ?_ ?_
    · walk_at "rd"
      refine i_draw mv (by decide) (by decide) fun r4 H2 _ _ _ mv => ?_
      walk_at "rd"
      refine ⟨rfl, ite2 (fun _ => ⟨pow9, i_draw mv (by decide) (by decide) fun r9 H3 _ _ _ mv => ⟨pow8, cm_l (by decide), _, rfl, pow12, cm_r (by decide), ?_⟩⟩) (fun _ => mv)⟩
      exact mv
    · rintro σ H2 ⟨mv, v, rfl⟩
      refine rdSeq ?_
      walk_at "rd"
      refine i_draw mv (by decide) (by decide) fun r5 H3 _ _ _ mv => ?_
      walk_at "rd"
      refine rdSeq ?_
      walk_at "rd"
      refine i_draw mv (by decide) (by decide) fun r6 H4 _ _ _ mv => ?_
      walk_at "rd"
      refine rdSeq ?_
      walk_at "rd"
      refine ⟨.int v, _, _, rfl, .inl ⟨v, rfl, rdSeq ?_⟩⟩
      walk_at "rd"
      refine i_both ?_ (fun h t => ⟨_, _, rfl, _, rfl, i_else (by simp [h]) t⟩) (fun h t => ⟨_, _, rfl, _, rfl, i_else (by simp [h]) t⟩)
      refine rdSeq ?_
      walk_at "rd"
      intro p hp p1 hp1 p3 hp3 p2 hp2
      have mv1 := (mv.new (o := HO.tup [V.int 1]) hp)
      have mv2 := mv1.new (o := HO.lst [V.int 1]) hp1
      have mv3 := mv2.new (o := HO.dK []) hp3
      have mv4 := mv3.new (o := HO.lst [V.bl true, V.bl false, V.non, V.str (Str.ofString "1"), V.ref p, V.ref p1, V.str (Str.ofString ""), V.ref p3]) hp2
      refine i_draw mv4 (by decide) (by decide) fun r H5 r0 r1 mvd mv5 => ?_
      obtain ⟨o, ev, ho⟩ := at_of (xs := [V.bl true, V.bl false, V.non, V.str (Str.ofString "1"), V.ref p, V.ref p1, V.str (Str.ofString ""), V.ref p3]) r0 r1
      refine i_ixL (sqL_of (mvd.old p2 _ (mv3.ne hp2) upd_same)) ev ?_
      have e1 : H5 p = some (.tup [V.int 1]) := mvd.old p _ (mv.ne hp) (same_new hp2 _ _ (same_new hp3 _ _ (same_new hp1 _ _ upd_same)))
      have e2 : H5 p1 = some (.lst [V.int 1]) := mvd.old p1 _ (mv1.ne hp1) (same_new hp2 _ _ (same_new hp3 _ _ upd_same))
      have e3 : H5 p3 = some (.dK []) := mvd.old p3 _ (mv2.ne hp3) (same_new hp2 _ _ upd_same)
      have odd : Odd K H5 o ∧ ((∃ s, o = .str s) ∨ OddS K H5 o) := by
        simp only [List.mem_cons, List.not_mem_nil, or_false] at ho
        rcases ho with rfl | rfl | rfl | rfl | rfl | rfl | rfl | rfl
        · exact ⟨⟨_, ty_bl, .inr rfl⟩, .inr ⟨_, ty_bl, kb_bs⟩⟩
        · exact ⟨⟨_, ty_bl, .inr rfl⟩, .inr ⟨_, ty_bl, kb_bs⟩⟩
        · exact ⟨⟨_, ty_non, .inl kb_ni⟩, .inr ⟨_, ty_non, kb_ns⟩⟩
        · exact ⟨⟨_, ty_str, .inl kb_si⟩, .inl ⟨_, rfl⟩⟩
        · exact ⟨⟨_, ty_tup e1, .inl kb_ti⟩, .inr ⟨_, ty_tup e1, kb_ts⟩⟩
        · exact ⟨⟨_, ty_lst e2, .inl kb_li⟩, .inr ⟨_, ty_lst e2, kb_ls⟩⟩
        · exact ⟨⟨_, ty_str, .inl kb_si⟩, .inl ⟨_, rfl⟩⟩
        · exact ⟨⟨_, .base (.dK e3), .inl kb_di⟩, .inr ⟨_, .base (.dK e3), kb_ds⟩⟩
      refine rdSeq ?_
      walk_at "rd"
      refine ⟨o, _, _, rfl, .inr ⟨odd.1, ?_⟩⟩
      walk_at "rd"
      refine rdSeq ?_
      walk_at "rd"
      rcases odd.2 with ⟨s, rfl⟩ | od
      · refine i_isi ty_str kb_ss ?_
        walk_at "rd"
        exact q _ mv5
      · obtain ⟨t, ty, ht⟩ := id od
        refine i_isi ty ht ?_
        walk_at "rd"
        refine ⟨o, rfl, .inr ⟨od, ?_⟩⟩
        walk_at "rd"
        refine ⟨o, rfl, .inr ⟨od, ?_⟩⟩
        walk_at "rd"
        refine ⟨o, rfl, .inr ⟨od, ?_⟩⟩
        walk_at "rd"
        exact q _ mv5
def GoodS (z : Str) : Prop := z.length ≤ 100 ∧ ∀ c ∈ z.cps.toList, c ≠ 37
def sp_law_string (K : PySem.W.Frag) : Sp := fun vs H Q _ => ∃ (a : Addr), vs = [.ref a] ∧ Bag H a ∧ ∀ (z : Str) (H' : Hp), GoodS z → Mv a H H' → Q (.str z) H'
theorem ok_law_string (T : Txt K mg) : FnOk P w K mg base CX0 2 T.f_law_string T.d_law_string ["_law_bag_here"] (sp_law_string K) := by
  refine T.k_law_string.ok sc_law_string (fun vs H Q E h => ?_) (fun cdv A outer s H vs Q E hr h => ?_)
  · obtain ⟨x, rfl, _⟩ := h
    rfl
  · obtain ⟨a, rfl, hB, q⟩ := h
    refine ⟨_, (pss_cons (ps_set (i := 1) sc_law_string.nd rfl (.inl rfl) pe_str)
      (pss_cons (ps_set (i := 2) sc_law_string.nd rfl (.inr rfl) (pe_op op_add_str (pv 1) pe_str))
      (pss_cons (ps_set (i := 3) sc_law_string.nd rfl (.inl rfl) (pe_ix ix_list (pe_lst (pa_cons pe_int (pa_cons pe_int (pa_cons pe_int (pa_cons pe_int (pa_cons pe_int (pa_cons pe_int (pa_cons pe_int (pa_cons pe_int (pa_cons pe_int (pa_cons pe_int pa_nil))))))))))) (pe_call (ok_law_draw T) (hr.mono (by decide)) (by rfl) T.g_law_draw T.k_law_draw.kp T.b_law_draw .nil pass0 (pa_cons (pv 0) (pa_cons pe_int pa_nil))) (fun _ _ => rfl)))
      (pss_cons (ps_set (i := 4) sc_law_string.nd rfl (.inr rfl) (pe_ix ix_list (pe_lst (pa_cons pe_int (pa_cons pe_int (pa_cons pe_int (pa_cons pe_int pa_nil))))) (pe_call (ok_law_draw T) (hr.mono (by decide)) (by rfl) T.g_law_draw T.k_law_draw.kp T.b_law_draw .nil pass0 (pa_cons (pv 0) (pa_cons pe_int pa_nil))) (fun _ _ => rfl)))
      (pss_cons (ps_set (i := 5) sc_law_string.nd rfl (.inl rfl) (pe_joinR pe_str (pe_lc (own := [("_law_k", 8)]) (g := gName 8) (tt := tYes) rfl sc_law_string.nd (pi_range1 (by rfl) T.m_range (pa_cons (pv 3) pa_nil)) (blkOk_by (own := [("_law_k", 8)]) (N := ["_law_bag_here", "_law_letters", "_law_chars", "_law_size", "_law_many", "_law_text", "_law_place", "_law_odd", "_law_k"]) (sc := defScope s_law_string) (by decide +kernel)) (fun _ _ _ _ _ => pg_name (i := 8) sc_law_string.nd rfl (Or.inl rfl)) (fun _ _ _ _ _ => pts_nil) (fun _ _ _ _ _ => (pe_ix ix_str (pv 2) (pe_call (ok_law_draw T) (hr.mono (by decide)) (by rfl) T.g_law_draw T.k_law_draw.kp T.b_law_draw .nil pass0 (pa_cons (pv 0) (pa_cons (pv 4) pa_nil))) (fun _ _ => rfl))))))
      (pss_cons (ps_set (i := 6) sc_law_string.nd rfl (.inl rfl) (pe_call (ok_law_draw T) (hr.mono (by decide)) (by rfl) T.g_law_draw T.k_law_draw.kp T.b_law_draw .nil pass0 (pa_cons (pv 0) (pa_cons (pe_op op_add (pv 3) pe_int) pa_nil))))
      (pss_cons (ps_set (i := 7) sc_law_string.nd rfl (.inl rfl) (pe_ix ix_list (pe_lst (pa_cons pe_str (pa_cons pe_str (pa_cons pe_str (pa_cons pe_str (pa_cons pe_str (pa_cons pe_str (pa_cons pe_str (pa_cons (pe_ix ix_str (pv 2) (pe_call (ok_law_draw T) (hr.mono (by decide)) (by rfl) T.g_law_draw T.k_law_draw.kp T.b_law_draw .nil pass0 (pa_cons (pv 0) (pa_cons pe_int pa_nil))) (fun _ _ => rfl)) pa_nil))))))))) (pe_call (ok_law_draw T) (hr.mono (by decide)) (by rfl) T.g_law_draw T.k_law_draw.kp T.b_law_draw .nil pass0 (pa_cons (pv 0) (pa_cons pe_int pa_nil))) (fun _ _ => rfl)))
      (pss_one (ps_ret (pe_op op_add_str (pe_op op_add_str (pe_slice sl_str (pv 5) po_none (po_some (pv 6))) (pv 7)) (pe_slice sl_str (pv 5) (po_some (pv 6)) po_none))))))))))), ?_⟩
    walk_at "rd"
    refine rdSeq ?_
    walk_at "rd"
    refine rdSeq ?_
    walk_at "rd"
    refine ⟨by decide, ?_⟩
    refine rdSeq ?_
    walk_at "rd"
    intro p hp
    have mv := (Mv.refl hB).new (o := HO.lst [V.int 0, V.int 1, V.int 2, V.int 15, V.int 16, V.int 17, V.int 19, V.int 20, V.int 21, V.int 24]) hp
    refine i_draw mv (by decide) (by decide) fun r H1 h0 h1 mv1 mv => ?_
    obtain ⟨sz, ev, hsz⟩ := at_int (ns := [0, 1, 2, 15, 16, 17, 19, 20, 21, 24]) h0 h1
    refine i_ixL (sqL_of (mv1.old p _ (bag_ne hB hp) upd_same)) ev ?_
    have hsz : 0 ≤ sz ∧ sz ≤ 24 := by
      simp only [List.mem_cons, List.not_mem_nil, or_false] at hsz
      omega
    refine rdSeq ?_
    walk_at "rd"
    intro p2 hp2
    have mv2 := mv.new (o := HO.lst [V.int 62, V.int 62, V.int 52, V.int 94]) hp2
    refine i_draw mv2 (by decide) (by decide) fun r H2 h0 h1 mv3 mv4 => ?_
    obtain ⟨mn, ev, hmn⟩ := at_int (ns := [62, 62, 52, 94]) h0 h1
    refine i_ixL (sqL_of (mv3.old p2 _ (mv.ne hp2) upd_same)) ev ?_
    have hmn : 0 < mn ∧ mn ≤ 94 := by
      simp only [List.mem_cons, List.not_mem_nil, or_false] at hmn
      omega
    refine rdSeq ?_
    walk_at "rd"
    have hcs : ∀ c ∈ (Str.ofString "ABCDEFGHIJKLMNOPQRSTUVWXYZabcdefghijklmnopqrstuvwxyz0123456789" ++ Str.ofString " !\"#$&'()*+,-./:;<=>?\x40[\\]^_`{|}~").cps.toList, c ≠ 37 := by decide +kernel
    have hcl : (Str.ofString "ABCDEFGHIJKLMNOPQRSTUVWXYZabcdefghijklmnopqrstuvwxyz0123456789" ++ Str.ofString " !\"#$&'()*+,-./:;<=>?\x40[\\]^_`{|}~").length = 94 := by decide +kernel
    generalize Str.ofString "ABCDEFGHIJKLMNOPQRSTUVWXYZabcdefghijklmnopqrstuvwxyz0123456789" ++ Str.ofString " !\"#$&'()*+,-./:;<=>?\x40[\\]^_`{|}~" = cs at hcs hcl
    refine ⟨by omega, by omega, ?_⟩
    refine i_lcD walk_range mv4.bag (fun y => ∃ s, y = .str s ∧ (s.length = 1 ∧ ∀ c ∈ s.cps.toList, c ≠ 37)) (by rw [sizeLine_eq]; omega) (fun _ _ => trivial) (fun i H x H' y => y.1) (fun i x H1 Q' hi y mv5 q' => ?_) (fun D H3 ys hD mv5 eD hl hP => ?_)
    · obtain ⟨_, rfl⟩ := y
      walk_at "rd"
      refine i_draw mv5 hmn.1 (by omega) fun r H3 r0 r1 mv6 mv7 => ?_
      obtain ⟨c, ec, hc⟩ := at_chr (z := cs) r0 (by omega)
      refine i_ixS (by rw [hcl]; decide) ec (q' _ _ ⟨⟨#[c]⟩, rfl, rfl, ?_⟩ mv6)
      intro d hd
      have e : d = c := by simpa using hd
      rw [e]; exact hcs c hc
    obtain ⟨zs, rfl, hz⟩ := strs_of hP
    have mv6 := mv4.trans mv5
    have hlz : zs.length ≤ 24 := by rw [List.length_map] at hl; omega
    have hsum : ∀ l : List Str, (∀ s ∈ l, s.length = 1 ∧ ∀ c ∈ s.cps.toList, c ≠ 37) → (l.map (·.length)).sum = l.length := by
      intro l
      induction l with
      | nil => intro _; rfl
      | cons s l ih => intro h; rw [List.map_cons, List.sum_cons, ih (fun t ht => h t (List.mem_cons_of_mem _ ht)), (h s List.mem_cons_self).1, List.length_cons]; omega
    refine ⟨Str.empty, D, zs, rfl, rfl, .inl (sqL_of eD), by rw [hsum zs hz]; show zs.length + zs.length * 0 ≤ _; omega, ?_⟩
    have hgood : (Txt.join Str.empty zs).length ≤ 24 ∧ ∀ c ∈ (Txt.join Str.empty zs).cps.toList, c ≠ 37 := by
      constructor
      · rw [← cl_length, join_cl, List.length_flatten, List.map_map]
        have e : (List.map (List.length ∘ fun s => s.cps.toList) zs).sum = (zs.map (·.length)).sum := by
          exact congrArg List.sum (List.map_congr_left fun s _ => cl_length s)
        rw [e, hsum zs hz]; exact hlz
      · intro c hc
        rw [join_cl, List.mem_flatten] at hc
        obtain ⟨l, hl, hc⟩ := hc
        obtain ⟨s, hs, rfl⟩ := List.mem_map.mp hl
        exact (hz s hs).2 c hc
    generalize Txt.join Str.empty zs = tx at hgood
    refine rdSeq ?_
    walk_at "rd"
    refine i_draw mv6 (by omega) (by omega) fun pl H4 _ _ _ mv => ?_
    refine rdSeq ?_
    walk_at "rd"
    refine i_draw mv (by decide) (by decide) fun r H5 r0 r1 _ mv => ?_
    obtain ⟨c, ec, hc⟩ := at_chr (z := cs) r0 (by omega)
    refine i_ixS (by rw [hcl]; decide) ec ?_
    intro p5 hp5
    have mv8 := mv.new (o := HO.lst [V.str (Str.ofString ""), V.str (Str.ofString ""), V.str (Str.ofString ""), V.str (Str.ofString "\n"), V.str (Str.ofString "\t"), V.str (Str.ofString "\""), V.str (Str.ofString "_"), V.str ⟨#[c]⟩]) hp5
    refine i_draw mv8 (by decide) (by decide) fun r H6 r0 r1 mvd mv9 => ?_
    obtain ⟨o, ev, ho⟩ := at_of (xs := [V.str (Str.ofString ""), V.str (Str.ofString ""), V.str (Str.ofString ""), V.str (Str.ofString "\n"), V.str (Str.ofString "\t"), V.str (Str.ofString "\""), V.str (Str.ofString "_"), V.str ⟨#[c]⟩]) r0 r1
    refine i_ixL (sqL_of (mvd.old p5 _ (mv.ne hp5) upd_same)) ev ?_
    have hod : ∃ s, o = .str s ∧ s.length ≤ 1 ∧ ∀ c ∈ s.cps.toList, c ≠ 37 := by
      simp only [List.mem_cons, List.not_mem_nil, or_false] at ho
      rcases ho with rfl | rfl | rfl | rfl | rfl | rfl | rfl | rfl
      · exact ⟨_, rfl, by decide, by decide⟩
      · exact ⟨_, rfl, by decide, by decide⟩
      · exact ⟨_, rfl, by decide, by decide⟩
      · exact ⟨_, rfl, by decide, by decide⟩
      · exact ⟨_, rfl, by decide, by decide⟩
      · exact ⟨_, rfl, by decide, by decide⟩
      · exact ⟨_, rfl, by decide, by decide⟩
      · refine ⟨_, rfl, Nat.le_refl _, fun d hd => ?_⟩
        have : d = c := by simpa using hd
        rw [this]; exact hcs c hc
    obtain ⟨s, rfl, hs1, hs2⟩ := hod
    walk_at "rd"
    have l1 := cutS_length tx none (some pl)
    have l2 := cutS_length tx (some pl) none
    have l3 := len_append (cutS tx none (some pl)) s
    have l4 := len_append (cutS tx none (some pl) ++ s) (cutS tx (some pl) none)
    refine i_slS (line5 (by omega)) ⟨_, rfl, by omega, i_slS (line5 (by omega)) ⟨_, rfl, by omega, q _ _ ⟨by omega, fun c hc => ?_⟩ mv9⟩⟩
    rw [cl_append, cl_append, List.mem_append, List.mem_append] at hc
    rcases hc with (hc | hc) | hc
    · exact hgood.2 c (mem_cut hc)
    · exact hs2 c hc
    · exact hgood.2 c (mem_cut hc)
/-! ### the two readings agree -/
theorem letC_eq (c : Nat) : letC c = letR c := by
  have h1 : ∀ c, c < 128 → decide (c ∈ ("ABCDEFGHIJKLMNOPQRSTUVWXYZabcdefghijklmnopqrstuvwxyz" : Str).cps.toList) = (btw 65 90 c || btw 97 122 c) := by decide +kernel
  by_cases h : c < 128
  · exact h1 c h
  · have h2 : ∀ d ∈ ("ABCDEFGHIJKLMNOPQRSTUVWXYZabcdefghijklmnopqrstuvwxyz" : Str).cps.toList, d < 128 := by decide +kernel
    unfold letC letR btw
    rw [decide_eq_false (fun k => h (h2 c k)), decide_eq_false (show ¬ c ≤ 90 by omega), decide_eq_false (show ¬ c ≤ 122 by omega)]
    simp
theorem digC_eq (c : Nat) : digC c = btw 48 57 c := by
  have h1 : ∀ c, c < 128 → decide (c ∈ ("0123456789" : Str).cps.toList) = btw 48 57 c := by decide +kernel
  by_cases h : c < 128
  · exact h1 c h
  · have h2 : ∀ d ∈ ("0123456789" : Str).cps.toList, d < 128 := by decide +kernel
    unfold digC btw
    rw [decide_eq_false (fun k => h (h2 c k)), decide_eq_false (show ¬ c ≤ 57 by omega)]
    simp
theorem nameC_eq (l : List Nat) : nameC l = nameR l := by
  have e1 : letC = letR := funext letC_eq
  have e2 : digC = btw 48 57 := funext digC_eq
  unfold nameC nameR
  rw [e1, e2]
theorem prn_all {l : List Nat} (h : ∀ c ∈ l, c ≠ 37) : l.all prn = l.all prnR := by
  induction l with
  | nil => rfl
  | cons c l ih =>
    rw [List.all_cons, List.all_cons, ih (fun d hd => h d (List.mem_cons_of_mem _ hd))]
    have : prn c = prnR c := by
      unfold prn prnR btw
      rw [decide_eq_false (h c List.mem_cons_self)]
      simp
    rw [this]
theorem txt_eq {l : List Nat} (h : ∀ c ∈ l, c ≠ 37) : txtC l = txtR l := by
  unfold txtC txtR
  have e : (l.all fun c => !decide (c = 34)) = !decide (34 ∈ l) := by
    induction l with
    | nil => rfl
    | cons c l ih =>
      rw [List.all_cons, ih (fun d hd => h d (List.mem_cons_of_mem _ hd))]
      by_cases hc : c = 34
      · subst hc; simp
      · have : (34 : Nat) ≠ c := fun k => hc k.symm
        simp [hc, this]
  rw [e, prn_all h]
  cases l.all prnR <;> cases (decide (1 ≤ l.length ∧ l.length ≤ 16)) <;> cases decide (34 ∈ l) <;> rfl
def sp_law (K : PySem.W.Frag) : Sp := fun vs H Q _ => ∃ (a : Addr) (ns : List Int), vs = [.ref a] ∧ SqL K H a (ns.map V.int) ∧ ns.length ≤ 63 ∧ ∀ H', Q (.bl true) H'
theorem same_mv {b : Addr} {H H1 H2 : Hp} (n : H b = none) (s : Same H H1) (m : Mv b H1 H2) : Same H H2 := fun c o e => m.old c o (ne_of_none e n) (s c o e)
theorem ok_law (T : Txt K mg) : FnOk P w K mg base CX0 4 T.f_law T.d_law ["_law_script"] (sp_law K) := by
  refine T.k_law.ok sc_law (fun vs H Q E h => ?_) (fun cdv A outer s H vs Q E hr h => ?_)
  · obtain ⟨a, ns, rfl, _⟩ := h
    rfl
  · obtain ⟨a, ns, rfl, hS, hl, q⟩ := h
    refine ⟨_, (pss_cons (ps_for PassesOwn.never rfl (pi_range1 (by rfl) T.m_range (pa_cons (pe_callB (call_max2 rfl) (by rfl) T.m_max (by decide +kernel) (pa_cons pe_int (pa_cons (pe_callB (call_min2 rfl) (by rfl) T.m_min (by decide +kernel) (pa_cons pe_int (pa_cons (pe_callB call_lenL (by rfl) T.m_len (by decide +kernel) (pa_cons (pv 0) pa_nil)) pa_nil))) pa_nil))) pa_nil)) (pg_name (i := 1) sc_law.nd rfl (Or.inl rfl)) (pss_cons (ps_set (i := 2) sc_law.nd rfl (.inl rfl) (pe_call (ok_law_bag T) (hr.mono (by decide)) (by rfl) T.g_law_bag T.k_law_bag.kp T.b_law_bag .nil pass0 (pa_cons (pv 0) (pa_cons (pv 1) pa_nil))))
      (pss_cons (ps_set (i := 3) sc_law.nd rfl (.inl rfl) (pe_call (ok_law_string T) (hr.mono (by decide)) (by rfl) T.g_law_string T.k_law_string.kp T.b_law_string .nil pass0 (pa_cons (pv 2) pa_nil)))
      (pss_cons (ps_if (pt_not (pt_val (pe_call (ok_law_tells T) (hr.mono (by decide)) (by rfl) T.g_law_tells T.k_law_tells.kp T.b_law_tells .nil pass0 (pa_cons (pe_call (ok_is_printable T) (hr.mono (by decide)) (by rfl) T.g_is_printable T.k_is_printable.kp T.b_is_printable .nil pass0 (pa_cons (pv 3) pa_nil)) (pa_cons (pe_call (ok_law_is_printable T) (hr.mono (by decide)) (by rfl) T.g_law_is_printable T.k_law_is_printable.kp T.b_law_is_printable .nil pass0 (pa_cons (pv 3) pa_nil)) pa_nil))))) (pss_one (ps_ret pe_bl)) pss_nil)
      (pss_cons (ps_if (PW.pt (pw_or (pt_not (pt_val (pe_call (ok_law_tells T) (hr.mono (by decide)) (by rfl) T.g_law_tells T.k_law_tells.kp T.b_law_tells .nil pass0 (pa_cons (pe_call (ok_is_name T) (hr.mono (by decide)) (by rfl) T.g_is_name T.k_is_name.kp T.b_is_name .nil pass0 (pa_cons (pv 3) pa_nil)) (pa_cons (pe_call (ok_law_is_name T) (hr.mono (by decide)) (by rfl) T.g_law_is_name T.k_law_is_name.kp T.b_law_is_name .nil pass0 (pa_cons (pv 3) pa_nil)) pa_nil))))) (pw_or1 (pt_not (pt_val (pe_call (ok_law_tells T) (hr.mono (by decide)) (by rfl) T.g_law_tells T.k_law_tells.kp T.b_law_tells .nil pass0 (pa_cons (pe_call (ok_is_text T) (hr.mono (by decide)) (by rfl) T.g_is_text T.k_is_text.kp T.b_is_text .nil pass0 (pa_cons (pv 3) pa_nil)) (pa_cons (pe_call (ok_law_is_text T) (hr.mono (by decide)) (by rfl) T.g_law_is_text T.k_law_is_text.kp T.b_law_is_text .nil pass0 (pa_cons (pv 3) pa_nil)) pa_nil)))))))) (pss_one (ps_ret pe_bl)) pss_nil)
      (pss_one (ps_if (pt_not (pt_val (pe_call (ok_law_integers T) (hr.mono (by decide)) (by rfl) T.g_law_integers T.k_law_integers.kp T.b_law_integers .nil pass0 (pa_cons (pv 2) pa_nil)))) (pss_one (ps_ret pe_bl)) pss_nil)))))))
      (pss_one (ps_ret pe_bl))), ?_⟩
    walk_at "rd"
    refine rdSeq ?_
    walk_at "rd"
    refine i_lenL hS ?_
    walk_at "rd"
    rw [List.length_map]
    have hj : -(2 ^ 62) ≤ (if (if (ns.length : Int) < 24 then (ns.length : Int) else 24) > 1 then (if (ns.length : Int) < 24 then (ns.length : Int) else 24) else 1) ∧ (if (if (ns.length : Int) < 24 then (ns.length : Int) else 24) > 1 then (if (ns.length : Int) < 24 then (ns.length : Int) else 24) else 1) < 2 ^ 62 := by split <;> (try split) <;> omega
    refine ⟨hj.1, hj.2, i_for walk_range (fun _ σ H' => Same H H' ∧ ∃ y1 y2 y3, σ = [some (.ref a), y1, y2, y3]) ⟨Same.refl H, _, _, _, rfl⟩ (fun _ _ _ _ _ => trivial) ?_ (fun σ H' _ => q H')⟩
    rintro i x σ H1 H2 hi ⟨sm, y1, y2, y3, rfl⟩ ⟨rfl, rfl⟩
    walk_at "rd"
    refine rdSeq ?_
    walk_at "rd"
    refine ⟨a, ns, 0 + i, by simp, sm.seq hS, fun b H3 hb hB sm2 => rdSeq ?_⟩
    have sm3 := sm.trans sm2
    walk_at "rd"
    refine ⟨b, rfl, hB, fun z H4 gz mv => rdSeq ?_⟩
    walk_at "rd"
    have h5 : z.length ≤ 100000 := Nat.le_trans gz.1 (by decide)
    refine ⟨_, rfl, .inl ⟨z, rfl, h5, fun H5 s5 => ⟨z, rfl, h5, _, _, rfl, ?_⟩⟩⟩
    walk_at "rd"
    refine i_else (by rw [prn_all gz.2]; simp) (rdSeq ?_)
    walk_at "rd"
    refine ⟨_, rfl, .inl ⟨z, rfl, h5, fun H6 s6 => ⟨z, rfl, h5, _, _, rfl, ?_⟩⟩⟩
    walk_at "rd"
    refine i_else (by rw [nameC_eq]; simp) ?_
    refine ⟨_, rfl, .inl ⟨z, rfl, h5, fun H7 s7 => ⟨z, rfl, h5, _, _, rfl, ?_⟩⟩⟩
    walk_at "rd"
    refine i_else (by rw [txt_eq gz.2]; simp) ?_
    have bag7 : Bag H7 b := by
      obtain ⟨x1, x2, x3, hx⟩ := mv.bag
      exact ⟨x1, x2, x3, s7 _ _ (s6 _ _ (s5 _ _ hx))⟩
    refine ⟨b, rfl, bag7, fun H8 mv8 => ?_⟩
    walk_at "rd"
    exact same_mv (sm.free hb) (((same_mv (sm.free hb) sm3 mv).trans s5).trans (s6.trans s7)) mv8

theorem all_mk {l : PySem.W.OpenLaw} {w : World} {K : PySem.W.Frag} {h : Heap} {mg : Str → Option Value} {fa : Addr} (X : K.In h) (G : h.Ns mainGlobals mg) (hfa : mg "law" = some (.ref fa))
    {f0 : Addr} {od0 an0 : Option Addr} {sl0 : Array (Option Value)} {oc0 kV0 dc0 pm0 cd0 ct0 : Value}
    {f1 : Addr} {od1 an1 : Option Addr} {sl1 : Array (Option Value)} {oc1 kV1 dc1 pm1 cd1 ct1 : Value}
    {f2 : Addr} {od2 an2 : Option Addr} {sl2 : Array (Option Value)} {oc2 kV2 dc2 pm2 cd2 ct2 : Value}
    {f3 : Addr} {od3 an3 : Option Addr} {sl3 : Array (Option Value)} {oc3 kV3 dc3 pm3 cd3 ct3 : Value}
    {f4 : Addr} {od4 an4 : Option Addr} {sl4 : Array (Option Value)} {oc4 kV4 dc4 pm4 cd4 ct4 : Value}
    {f5 : Addr} {od5 an5 : Option Addr} {sl5 : Array (Option Value)} {oc5 kV5 dc5 pm5 cd5 ct5 : Value}
    {f6 : Addr} {od6 an6 : Option Addr} {sl6 : Array (Option Value)} {oc6 kV6 dc6 pm6 cd6 ct6 : Value}
    {f7 : Addr} {od7 an7 : Option Addr} {sl7 : Array (Option Value)} {oc7 kV7 dc7 pm7 cd7 ct7 : Value}
    {f8 : Addr} {od8 an8 : Option Addr} {sl8 : Array (Option Value)} {oc8 kV8 dc8 pm8 cd8 ct8 : Value}
    {f9 : Addr} {od9 an9 : Option Addr} {sl9 : Array (Option Value)} {oc9 kV9 dc9 pm9 cd9 ct9 : Value}
    {f10 : Addr} {od10 an10 : Option Addr} {sl10 : Array (Option Value)} {oc10 kV10 dc10 pm10 cd10 ct10 : Value}
    {f11 : Addr} {od11 an11 : Option Addr} {sl11 : Array (Option Value)} {oc11 kV11 dc11 pm11 cd11 ct11 : Value}
    {f12 : Addr} {od12 an12 : Option Addr} {sl12 : Array (Option Value)} {oc12 kV12 dc12 pm12 cd12 ct12 : Value}
    {f13 : Addr} {od13 an13 : Option Addr} {sl13 : Array (Option Value)} {oc13 kV13 dc13 pm13 cd13 ct13 : Value}
    {f14 : Addr} {od14 an14 : Option Addr} {sl14 : Array (Option Value)} {oc14 kV14 dc14 pm14 cd14 ct14 : Value}
    {tk0 : Tok}
    {tk1 : Tok}
    {tk2 : Tok}
    {tk3 : Tok}
    (a0 : PySem.W.nsIn K mainGlobals "is_integer" = some (some (.ref f0)))
    (l0 : K.lookup f0 = some ⟨oc0, od0, .func (PySem.W.fnOf "is_integer" "is_integer" (defArgs s_is_integer) (defBody s_is_integer) (defScope s_is_integer) .none kV0 dc0 pm0 an0 cd0 ct0), sl0⟩) (c0 : PySem.W.codeIn K cd0 "is_integer" = true) (k0 : PySem.W.keepIn K (.ref f0) = true)
    (a1 : PySem.W.nsIn K mainGlobals "is_printable" = some (some (.ref f1)))
    (l1 : K.lookup f1 = some ⟨oc1, od1, .func (PySem.W.fnOf "is_printable" "is_printable" (defArgs s_is_printable) (defBody s_is_printable) (defScope s_is_printable) .none kV1 dc1 pm1 an1 cd1 ct1), sl1⟩) (c1 : PySem.W.codeIn K cd1 "is_printable" = true) (k1 : PySem.W.keepIn K (.ref f1) = true)
    (a2 : PySem.W.nsIn K mainGlobals "is_name" = some (some (.ref f2)))
    (l2 : K.lookup f2 = some ⟨oc2, od2, .func (PySem.W.fnOf "is_name" "is_name" (defArgs s_is_name) (defBody s_is_name) (defScope s_is_name) .none kV2 dc2 pm2 an2 cd2 ct2), sl2⟩) (c2 : PySem.W.codeIn K cd2 "is_name" = true) (k2 : PySem.W.keepIn K (.ref f2) = true)
    (a3 : PySem.W.nsIn K mainGlobals "is_text" = some (some (.ref f3)))
    (l3 : K.lookup f3 = some ⟨oc3, od3, .func (PySem.W.fnOf "is_text" "is_text" (defArgs s_is_text) (defBody s_is_text) (defScope s_is_text) .none kV3 dc3 pm3 an3 cd3 ct3), sl3⟩) (c3 : PySem.W.codeIn K cd3 "is_text" = true) (k3 : PySem.W.keepIn K (.ref f3) = true)
    (a4 : PySem.W.nsIn K mainGlobals "_law_bag" = some (some (.ref f4)))
    (l4 : K.lookup f4 = some ⟨oc4, od4, .func (PySem.W.fnOf "_law_bag" "_law_bag" (defArgs s_law_bag) (defBody s_law_bag) (defScope s_law_bag) .none kV4 dc4 pm4 an4 cd4 ct4), sl4⟩) (c4 : PySem.W.codeIn K cd4 "_law_bag" = true) (k4 : PySem.W.keepIn K (.ref f4) = true)
    (a5 : PySem.W.nsIn K mainGlobals "_law_draw" = some (some (.ref f5)))
    (l5 : K.lookup f5 = some ⟨oc5, od5, .func (PySem.W.fnOf "_law_draw" "_law_draw" (defArgs s_law_draw) (defBody s_law_draw) (defScope s_law_draw) .none kV5 dc5 pm5 an5 cd5 ct5), sl5⟩) (c5 : PySem.W.codeIn K cd5 "_law_draw" = true) (k5 : PySem.W.keepIn K (.ref f5) = true)
    (a6 : PySem.W.nsIn K mainGlobals "_law_string" = some (some (.ref f6)))
    (l6 : K.lookup f6 = some ⟨oc6, od6, .func (PySem.W.fnOf "_law_string" "_law_string" (defArgs s_law_string) (defBody s_law_string) (defScope s_law_string) .none kV6 dc6 pm6 an6 cd6 ct6), sl6⟩) (c6 : PySem.W.codeIn K cd6 "_law_string" = true) (k6 : PySem.W.keepIn K (.ref f6) = true)
    (a7 : PySem.W.nsIn K mainGlobals "_law_between" = some (some (.ref f7)))
    (l7 : K.lookup f7 = some ⟨oc7, od7, .func (PySem.W.fnOf "_law_between" "_law_between" (defArgs s_law_between) (defBody s_law_between) (defScope s_law_between) .none kV7 dc7 pm7 an7 cd7 ct7), sl7⟩) (c7 : PySem.W.codeIn K cd7 "_law_between" = true) (k7 : PySem.W.keepIn K (.ref f7) = true)
    (a8 : PySem.W.nsIn K mainGlobals "_law_letter" = some (some (.ref f8)))
    (l8 : K.lookup f8 = some ⟨oc8, od8, .func (PySem.W.fnOf "_law_letter" "_law_letter" (defArgs s_law_letter) (defBody s_law_letter) (defScope s_law_letter) .none kV8 dc8 pm8 an8 cd8 ct8), sl8⟩) (c8 : PySem.W.codeIn K cd8 "_law_letter" = true) (k8 : PySem.W.keepIn K (.ref f8) = true)
    (a9 : PySem.W.nsIn K mainGlobals "_law_is_printable" = some (some (.ref f9)))
    (l9 : K.lookup f9 = some ⟨oc9, od9, .func (PySem.W.fnOf "_law_is_printable" "_law_is_printable" (defArgs s_law_is_printable) (defBody s_law_is_printable) (defScope s_law_is_printable) .none kV9 dc9 pm9 an9 cd9 ct9), sl9⟩) (c9 : PySem.W.codeIn K cd9 "_law_is_printable" = true) (k9 : PySem.W.keepIn K (.ref f9) = true)
    (a10 : PySem.W.nsIn K mainGlobals "_law_is_name" = some (some (.ref f10)))
    (l10 : K.lookup f10 = some ⟨oc10, od10, .func (PySem.W.fnOf "_law_is_name" "_law_is_name" (defArgs s_law_is_name) (defBody s_law_is_name) (defScope s_law_is_name) .none kV10 dc10 pm10 an10 cd10 ct10), sl10⟩) (c10 : PySem.W.codeIn K cd10 "_law_is_name" = true) (k10 : PySem.W.keepIn K (.ref f10) = true)
    (a11 : PySem.W.nsIn K mainGlobals "_law_is_text" = some (some (.ref f11)))
    (l11 : K.lookup f11 = some ⟨oc11, od11, .func (PySem.W.fnOf "_law_is_text" "_law_is_text" (defArgs s_law_is_text) (defBody s_law_is_text) (defScope s_law_is_text) .none kV11 dc11 pm11 an11 cd11 ct11), sl11⟩) (c11 : PySem.W.codeIn K cd11 "_law_is_text" = true) (k11 : PySem.W.keepIn K (.ref f11) = true)
    (a12 : PySem.W.nsIn K mainGlobals "_law_tells" = some (some (.ref f12)))
    (l12 : K.lookup f12 = some ⟨oc12, od12, .func (PySem.W.fnOf "_law_tells" "_law_tells" (defArgs s_law_tells) (defBody s_law_tells) (defScope s_law_tells) .none kV12 dc12 pm12 an12 cd12 ct12), sl12⟩) (c12 : PySem.W.codeIn K cd12 "_law_tells" = true) (k12 : PySem.W.keepIn K (.ref f12) = true)
    (a13 : PySem.W.nsIn K mainGlobals "_law_integers" = some (some (.ref f13)))
    (l13 : K.lookup f13 = some ⟨oc13, od13, .func (PySem.W.fnOf "_law_integers" "_law_integers" (defArgs s_law_integers) (defBody s_law_integers) (defScope s_law_integers) .none kV13 dc13 pm13 an13 cd13 ct13), sl13⟩) (c13 : PySem.W.codeIn K cd13 "_law_integers" = true) (k13 : PySem.W.keepIn K (.ref f13) = true)
    (a14 : PySem.W.nsIn K mainGlobals "law" = some (some (.ref f14)))
    (l14 : K.lookup f14 = some ⟨oc14, od14, .func (PySem.W.fnOf "law" "law" (defArgs s_law) (defBody s_law) (defScope s_law) .none kV14 dc14 pm14 an14 cd14 ct14), sl14⟩) (c14 : PySem.W.codeIn K cd14 "law" = true) (k14 : PySem.W.keepIn K (.ref f14) = true)
    (z0 : PySem.W.nsIn K mainGlobals "all" = some none)
    (z1 : PySem.W.nsIn K mainGlobals "bool" = some none)
    (z2 : PySem.W.nsIn K mainGlobals "int" = some none)
    (z3 : PySem.W.nsIn K mainGlobals "isinstance" = some none)
    (z4 : PySem.W.nsIn K mainGlobals "len" = some none)
    (z5 : PySem.W.nsIn K mainGlobals "max" = some none)
    (z6 : PySem.W.nsIn K mainGlobals "min" = some none)
    (z7 : PySem.W.nsIn K mainGlobals "ord" = some none)
    (z8 : PySem.W.nsIn K mainGlobals "range" = some none)
    (z9 : PySem.W.nsIn K mainGlobals "str" = some none)
    (y0 : PySem.W.nsIn K mainGlobals "MOST_NAME" = some (some (.int (20) tk0)))
    (y1 : PySem.W.nsIn K mainGlobals "MOST_TEXT" = some (some (.int (16) tk1)))
    (y2 : PySem.W.nsIn K mainGlobals "LETTERS" = some (some (.str "ABCDEFGHIJKLMNOPQRSTUVWXYZabcdefghijklmnopqrstuvwxyz" tk2)))
    (y3 : PySem.W.nsIn K mainGlobals "DIGITS" = some (some (.str "0123456789" tk3))) :
    ∃ fd : FuncData, (∀ (s : Shared) (v : Value), BindsTo s fd ⟨[v], []⟩ [("_law_script", v)]) ∧ ∀ base : Heap, K.In base → base.Ns mainGlobals mg → FnOk l.prog w K mg base CX0 4 fa fd ["_law_script"] (sp_law K) := by
  have e := hfa.symm.trans (PySem.W.mg_of X G a14)
  cases e
  let T : Txt K mg := {
    f_is_integer := f0,
    d_is_integer := _,
    k_is_integer := (fun_mk (st := s_is_integer) l0 c0 k0),
    b_is_integer := (Fun.binds (ps := ["value", "least", "greatest"]) (fun_mk (st := s_is_integer) l0 c0 k0) fun _ _ _ _ _ _ us hl => match us, hl with | [_, _, _], _ => rfl),
    g_is_integer := PySem.W.mg_of X G a0,
    f_is_printable := f1,
    d_is_printable := _,
    k_is_printable := (fun_mk (st := s_is_printable) l1 c1 k1),
    b_is_printable := (Fun.binds (ps := ["value"]) (fun_mk (st := s_is_printable) l1 c1 k1) fun _ _ _ _ _ _ us hl => match us, hl with | [_], _ => rfl),
    g_is_printable := PySem.W.mg_of X G a1,
    f_is_name := f2,
    d_is_name := _,
    k_is_name := (fun_mk (st := s_is_name) l2 c2 k2),
    b_is_name := (Fun.binds (ps := ["value"]) (fun_mk (st := s_is_name) l2 c2 k2) fun _ _ _ _ _ _ us hl => match us, hl with | [_], _ => rfl),
    g_is_name := PySem.W.mg_of X G a2,
    f_is_text := f3,
    d_is_text := _,
    k_is_text := (fun_mk (st := s_is_text) l3 c3 k3),
    b_is_text := (Fun.binds (ps := ["value"]) (fun_mk (st := s_is_text) l3 c3 k3) fun _ _ _ _ _ _ us hl => match us, hl with | [_], _ => rfl),
    g_is_text := PySem.W.mg_of X G a3,
    f_law_bag := f4,
    d_law_bag := _,
    k_law_bag := (fun_mk (st := s_law_bag) l4 c4 k4),
    b_law_bag := (Fun.binds (ps := ["_law_script", "_law_k"]) (fun_mk (st := s_law_bag) l4 c4 k4) fun _ _ _ _ _ _ us hl => match us, hl with | [_, _], _ => rfl),
    g_law_bag := PySem.W.mg_of X G a4,
    f_law_draw := f5,
    d_law_draw := _,
    k_law_draw := (fun_mk (st := s_law_draw) l5 c5 k5),
    b_law_draw := (Fun.binds (ps := ["_law_bag_here", "_law_many"]) (fun_mk (st := s_law_draw) l5 c5 k5) fun _ _ _ _ _ _ us hl => match us, hl with | [_, _], _ => rfl),
    g_law_draw := PySem.W.mg_of X G a5,
    f_law_string := f6,
    d_law_string := _,
    k_law_string := (fun_mk (st := s_law_string) l6 c6 k6),
    b_law_string := (Fun.binds (ps := ["_law_bag_here"]) (fun_mk (st := s_law_string) l6 c6 k6) fun _ _ _ _ _ _ us hl => match us, hl with | [_], _ => rfl),
    g_law_string := PySem.W.mg_of X G a6,
    f_law_between := f7,
    d_law_between := _,
    k_law_between := (fun_mk (st := s_law_between) l7 c7 k7),
    b_law_between := (Fun.binds (ps := ["_law_char", "_law_low", "_law_high"]) (fun_mk (st := s_law_between) l7 c7 k7) fun _ _ _ _ _ _ us hl => match us, hl with | [_, _, _], _ => rfl),
    g_law_between := PySem.W.mg_of X G a7,
    f_law_letter := f8,
    d_law_letter := _,
    k_law_letter := (fun_mk (st := s_law_letter) l8 c8 k8),
    b_law_letter := (Fun.binds (ps := ["_law_char"]) (fun_mk (st := s_law_letter) l8 c8 k8) fun _ _ _ _ _ _ us hl => match us, hl with | [_], _ => rfl),
    g_law_letter := PySem.W.mg_of X G a8,
    f_law_is_printable := f9,
    d_law_is_printable := _,
    k_law_is_printable := (fun_mk (st := s_law_is_printable) l9 c9 k9),
    b_law_is_printable := (Fun.binds (ps := ["_law_text"]) (fun_mk (st := s_law_is_printable) l9 c9 k9) fun _ _ _ _ _ _ us hl => match us, hl with | [_], _ => rfl),
    g_law_is_printable := PySem.W.mg_of X G a9,
    f_law_is_name := f10,
    d_law_is_name := _,
    k_law_is_name := (fun_mk (st := s_law_is_name) l10 c10 k10),
    b_law_is_name := (Fun.binds (ps := ["_law_text"]) (fun_mk (st := s_law_is_name) l10 c10 k10) fun _ _ _ _ _ _ us hl => match us, hl with | [_], _ => rfl),
    g_law_is_name := PySem.W.mg_of X G a10,
    f_law_is_text := f11,
    d_law_is_text := _,
    k_law_is_text := (fun_mk (st := s_law_is_text) l11 c11 k11),
    b_law_is_text := (Fun.binds (ps := ["_law_text"]) (fun_mk (st := s_law_is_text) l11 c11 k11) fun _ _ _ _ _ _ us hl => match us, hl with | [_], _ => rfl),
    g_law_is_text := PySem.W.mg_of X G a11,
    f_law_tells := f12,
    d_law_tells := _,
    k_law_tells := (fun_mk (st := s_law_tells) l12 c12 k12),
    b_law_tells := (Fun.binds (ps := ["_law_answer", "_law_due"]) (fun_mk (st := s_law_tells) l12 c12 k12) fun _ _ _ _ _ _ us hl => match us, hl with | [_, _], _ => rfl),
    g_law_tells := PySem.W.mg_of X G a12,
    f_law_integers := f13,
    d_law_integers := _,
    k_law_integers := (fun_mk (st := s_law_integers) l13 c13 k13),
    b_law_integers := (Fun.binds (ps := ["_law_bag_here"]) (fun_mk (st := s_law_integers) l13 c13 k13) fun _ _ _ _ _ _ us hl => match us, hl with | [_], _ => rfl),
    g_law_integers := PySem.W.mg_of X G a13,
    f_law := fa,
    d_law := _,
    k_law := (fun_mk (st := s_law) l14 c14 k14),
    b_law := (Fun.binds (ps := ["_law_script"]) (fun_mk (st := s_law) l14 c14 k14) fun _ _ _ _ _ _ us hl => match us, hl with | [_], _ => rfl),
    g_law := PySem.W.mg_of X G a14,
    m_all := PySem.W.mg_none_of X G z0,
    m_bool := PySem.W.mg_none_of X G z1,
    m_int := PySem.W.mg_none_of X G z2,
    m_isinstance := PySem.W.mg_none_of X G z3,
    m_len := PySem.W.mg_none_of X G z4,
    m_max := PySem.W.mg_none_of X G z5,
    m_min := PySem.W.mg_none_of X G z6,
    m_ord := PySem.W.mg_none_of X G z7,
    m_range := PySem.W.mg_none_of X G z8,
    m_str := PySem.W.mg_none_of X G z9,
    t_MOST_NAME := tk0,
    g_MOST_NAME := PySem.W.mg_of X G y0,
    t_MOST_TEXT := tk1,
    g_MOST_TEXT := PySem.W.mg_of X G y1,
    t_LETTERS := tk2,
    g_LETTERS := PySem.W.mg_of X G y2,
    t_DIGITS := tk3,
    g_DIGITS := PySem.W.mg_of X G y3 }
  exact ⟨T.d_law, fun s v => .of_eq rfl, fun base _ _ => ok_law T⟩
end
end My
open PySem PySem.W PyProof.Rows
set_option maxHeartbeats 0 in
theorem PySem.Challenge.cw_warycard_k01_names_and_texts_holds : PySem.Challenge.rw_warycard_k01_names_and_texts.Holds := by
  w_on; o_law; k_head; (case hw => w_witness2)
  k_fill
  refine L2.walk_of (l := PySem.Challenge.rw_warycard_k01_names_and_texts) (n := 63) (k := 4) (x := "_law_script") (CX := fun _ => L2.CX0) (sp := fun w => My.sp_law _) rfl (by decide) rfl ⟨rfl, by decide, by decide⟩ (fun w h Y => PySem.W.kIn_of Y) ?F (fun _ _ a ns hl _ hS => ⟨a, ns, rfl, hS, hl, fun _ => rfl⟩) (fun _ _ _ _ _ h => h)
  case F =>
    intro w mg fa h KX G hmg
    refine' My.all_mk KX G hmg ?a0 ?l0 ?c0 ?k0 ?a1 ?l1 ?c1 ?k1 ?a2 ?l2 ?c2 ?k2 ?a3 ?l3 ?c3 ?k3 ?a4 ?l4 ?c4 ?k4 ?a5 ?l5 ?c5 ?k5 ?a6 ?l6 ?c6 ?k6 ?a7 ?l7 ?c7 ?k7 ?a8 ?l8 ?c8 ?k8 ?a9 ?l9 ?c9 ?k9 ?a10 ?l10 ?c10 ?k10 ?a11 ?l11 ?c11 ?k11 ?a12 ?l12 ?c12 ?k12 ?a13 ?l13 ?c13 ?k13 ?a14 ?l14 ?c14 ?k14 ?z0 ?z1 ?z2 ?z3 ?z4 ?z5 ?z6 ?z7 ?z8 ?z9 ?y0 ?y1 ?y2 ?y3
    (case a0 => k_is); (case l0 => k_is); (case c0 => k_is); (case k0 => k_is); (case a1 => k_is); (case l1 => k_is); (case c1 => k_is); (case k1 => k_is); (case a2 => k_is); (case l2 => k_is); (case c2 => k_is); (case k2 => k_is); (case a3 => k_is); (case l3 => k_is); (case c3 => k_is); (case k3 => k_is); (case a4 => k_is); (case l4 => k_is); (case c4 => k_is); (case k4 => k_is); (case a5 => k_is); (case l5 => k_is); (case c5 => k_is); (case k5 => k_is); (case a6 => k_is); (case l6 => k_is); (case c6 => k_is); (case k6 => k_is); (case a7 => k_is); (case l7 => k_is); (case c7 => k_is); (case k7 => k_is); (case a8 => k_is); (case l8 => k_is); (case c8 => k_is); (case k8 => k_is); (case a9 => k_is); (case l9 => k_is); (case c9 => k_is); (case k9 => k_is); (case a10 => k_is); (case l10 => k_is); (case c10 => k_is); (case k10 => k_is); (case a11 => k_is); (case l11 => k_is); (case c11 => k_is); (case k11 => k_is); (case a12 => k_is); (case l12 => k_is); (case c12 => k_is); (case k12 => k_is); (case a13 => k_is); (case l13 => k_is); (case c13 => k_is); (case k13 => k_is); (case a14 => k_is); (case l14 => k_is); (case c14 => k_is); (case k14 => k_is); (case z0 => k_is); (case z1 => k_is); (case z2 => k_is); (case z3 => k_is); (case z4 => k_is); (case z5 => k_is); (case z6 => k_is); (case z7 => k_is); (case z8 => k_is); (case z9 => k_is); (case y0 => k_is); (case y1 => k_is); (case y2 => k_is); (case y3 => k_is)
#print axioms PySem.Challenge.cw_warycard_k01_names_and_texts_holds
