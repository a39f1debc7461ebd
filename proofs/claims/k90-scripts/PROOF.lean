import PyProof.Rows.All
import Wide.All
import OpenK.AllK
import Wide.FinOn
import HandS.ForMost
import HandS.Wide
import HandS.IsInst
import HandS.Walk
import HandS.Codes
import HandS.ForExc
import HandS.Style
import HandS.ExcInit
import HandS.ExcField
import KE.KIsAll
import HandS.ExcIs
import HandS.ExcValue
import HandS.ReplaceLit
import HandS.ReplaceList
import HandS.RevRange
import HandS.Conv
import HandS.Deep
import HandS.Text
import HandS.StrMore
import HandS.More
import HandS.RaiseFrom
import HandS.SuiteRaise
import HandS.ExcInitHot
import HandS.WordsDict
import HandS.MapJoin
import PyProof.SeqIndex
import PySem.Challenge.RW_warycard_k90_scripts
set_option Elab.async false
set_option maxRecDepth 100000
set_option maxHeartbeats 4000000
namespace My
open PySem PySem.Spec PyProof.Rows L2
/-! ### readings -/
theorem OpR.imp' {X : Cx} {f : Value → Value → Sem Value} {r r' : R2} (h : OpR X f r) (i : ∀ x y H Q, r' x y H Q → r x y H Q) : OpR X f r' := fun pins s σ H x y u v Q I rx ry q => h pins s σ H x y u v Q I rx ry (i _ _ _ _ q)
theorem op_modP {X : Cx} : OpR X (binaryOp .Mod) (rI (fun _ j => 0 < j) fun i j => .int (i % j)) := OpR.imp' op_modN fun x y H Q ⟨i, j, e1, e2, hj, q⟩ => ⟨i, j, e1, e2, by have hj : 0 < j := hj; show j ≠ 0; omega, by
  have hj : 0 < j := hj
  have e : i.fmod j = i % j := Int.fmod_eq_emod_of_nonneg i (by omega)
  show Q (V.int (i.fmod j)) H
  rw [e]; exact q⟩
theorem rdSeq {t u : TS} {D : Ends} {σ : L2.St} {H : Hp} (h : t { D with nx := u D } σ H) : tSeq t u D σ H := h
/-- all that was tracked is kept but the list at a, which holds three ints -/
def Bag (H : Hp) (a : Addr) : Prop := ∃ x y z : Int, H a = some (.lst [.int x, .int y, .int z])
structure Mv (a : Addr) (H H' : Hp) : Prop where
  bag : Bag H' a
  old : ∀ b o, b ≠ a → H b = some o → H' b = some o
theorem Mv.refl {a : Addr} {H : Hp} (h : Bag H a) : Mv a H H := ⟨h, fun _ _ _ e => e⟩
theorem Mv.trans {a : Addr} {H H1 H2 : Hp} (h : Mv a H H1) (k : Mv a H1 H2) : Mv a H H2 := ⟨k.bag, fun b o n e => k.old b o n (h.old b o n e)⟩
theorem Mv.new {a p : Addr} {o : HO} {H H1 : Hp} (h : Mv a H H1) (n : H1 p = none) : Mv a H (upd H1 p o) := by
  obtain ⟨x, y, z, e⟩ := h.bag
  have ne : a ≠ p := fun q => by subst q; rw [n] at e; cases e
  exact ⟨⟨x, y, z, by rw [upd_ne ne]; exact e⟩, fun b u hb hu => by
    have := h.old b u hb hu
    rw [upd_ne (ne_of_none this n)]; exact this⟩
theorem Mv.ne {a p : Addr} {H H1 : Hp} (h : Mv a H H1) (n : H1 p = none) : p ≠ a := fun q => by
  obtain ⟨x, y, z, e⟩ := h.bag
  subst q; rw [n] at e; cases e
theorem Mv.free {a p : Addr} {H H1 : Hp} (h : Mv a H H1) (n : H1 p = none) : H p = none := by
  cases e : H p with
  | none => rfl
  | some o => rw [h.old p o (h.ne n) e] at n; cases n
theorem bag_ne {a p : Addr} {H : Hp} (h : Bag H a) (n : H p = none) : p ≠ a := fun q => by
  obtain ⟨x, y, z, e⟩ := h
  subst q; rw [n] at e; cases e
theorem sqL_of {K : PySem.W.Frag} {H : Hp} {a : Addr} {xs : List V} (h : H a = some (.lst xs)) : SqL K H a xs := .inl (.inl h)
theorem sqT_of {K : PySem.W.Frag} {H : Hp} {a : Addr} {xs : List V} (h : H a = some (.tup xs)) : SqT K H a xs := .inl (.inl h)
def rIntA : List V → Hp → VK → Prop := fun xs H Q => ∃ x, xs = [x] ∧ match x with
  | .int i => Q (.int i) H
  | .bl k => Q (.int (if k = true then 1 else 0)) H
  | _ => False
theorem call_intI {X : Cx} : CallR X (.type "int") rIntA := fun pins s σ H xs us Q I r ⟨x, e, q⟩ => by
  cases x with
  | int i => exact call_int1 pins s σ H xs us Q I r (.inl ⟨i, e, q⟩)
  | bl k => exact call_int1 pins s σ H xs us Q I r (.inr ⟨k, e, q⟩)
  | _ => exact False.elim q
/-- len of a list, of a tuple -/
def rLenL (K : PySem.W.Frag) : List V → Hp → VK → Prop := fun xs H Q => ∃ p ys, xs = [.ref p] ∧ SqL K H p ys ∧ Q (.int ys.length) H
def rLenT (K : PySem.W.Frag) : List V → Hp → VK → Prop := fun xs H Q => ∃ p ys, xs = [.ref p] ∧ SqT K H p ys ∧ Q (.int ys.length) H
theorem call_lenL {X : Cx} : CallR X (.builtin "len") (rLenL X.K) := fun pins s σ H xs us Q I r ⟨p, ys, e, h, q⟩ => call_len_seq pins s σ H xs us Q I r ⟨p, ys, e, .inl h, q⟩
theorem call_lenT {X : Cx} : CallR X (.builtin "len") (rLenT X.K) := fun pins s σ H xs us Q I r ⟨p, ys, e, h, q⟩ => call_len_seq pins s σ H xs us Q I r ⟨p, ys, e, .inr h, q⟩
theorem i_lenL {K : PySem.W.Frag} {H : Hp} {Q : VK} {p : Addr} {ys : List V} (h : SqL K H p ys) (q : Q (.int ys.length) H) : rLenL K [.ref p] H Q := ⟨p, ys, rfl, h, q⟩
theorem i_lenT {K : PySem.W.Frag} {H : Hp} {Q : VK} {p : Addr} {ys : List V} (h : SqT K H p ys) (q : Q (.int ys.length) H) : rLenT K [.ref p] H Q := ⟨p, ys, rfl, h, q⟩
theorem i_ixL {K : PySem.W.Frag} {H : Hp} {Q : VK} {p : Addr} {xs : List V} {i : Int} {v : V} (h : SqL K H p xs) (e : atI xs i = some v) (q : Q v H) : rIxL K (.ref p) (.int i) H Q := ⟨p, xs, i, v, rfl, rfl, h, e, q⟩
theorem i_ixT {K : PySem.W.Frag} {H : Hp} {Q : VK} {p : Addr} {xs : List V} {i : Int} {v : V} (h : SqT K H p xs) (e : atI xs i = some v) (q : Q v H) : rIxT K (.ref p) (.int i) H Q := ⟨p, xs, i, v, rfl, rfl, h, e, q⟩
theorem i_setL {H : Hp} {p : Addr} {xs : List V} {i : Int} {j : Nat} {v : V} {Q : Hp → Prop} (h : H p = some (.lst xs)) (e : ixN xs.length i = some j) (q : Q (upd H p (.lst (xs.set j v)))) : rSetL (.ref p) (.int i) v H Q := ⟨p, xs, i, j, rfl, rfl, h, e, q⟩
theorem i_lst {H : Hp} {xs : List V} {Q : VK} (hl : xs.length ≤ sizeLine) (q : ∀ p, H p = none → Q (.ref p) (upd H p (.lst xs))) : xs.length ≤ sizeLine ∧ ∀ p, H p = none → Q (.ref p) (upd H p (.lst xs)) := ⟨hl, q⟩
/-- an item at a drawn place of a written list -/
theorem at_of {α : Type} {xs : List α} {i : Int} (h0 : 0 ≤ i) (h1 : i < xs.length) : ∃ v, atI xs i = some v ∧ v ∈ xs := by
  obtain ⟨j, rfl⟩ := Int.eq_ofNat_of_zero_le h0
  have hi : j < xs.length := by omega
  exact ⟨xs[j], atI_nat (List.getElem?_eq_getElem hi), List.getElem_mem hi⟩
theorem pow18 : CPow 10 18 := ⟨by decide, by decide, by decide⟩
theorem cm_r {i j : Int} (h : decide (-(2 ^ 64) < j) && decide (j < 2 ^ 64) = true) : CMul i j := by
  simp only [Bool.and_eq_true, decide_eq_true_eq] at h
  exact .inr h
theorem cm_l {i j : Int} (h : decide (-(2 ^ 64) < i) && decide (i < 2 ^ 64) = true) : CMul i j := by
  simp only [Bool.and_eq_true, decide_eq_true_eq] at h
  exact .inl h
theorem i_isi {K : PySem.W.Frag} {H : Hp} {Q : VK} {x : V} {t c : String} {b : Bool} (ty : TyX K H x (.type t)) (hk : kitB t c = some b) (q : Q (.bl b) H) : rIsi K [x, .ty c] H Q := ⟨x, .ty c, .type t, .type c, b, rfl, .ty c, ty, kit_ty hk, q⟩
theorem ty_int {K : PySem.W.Frag} {H : Hp} {i : Int} : TyX K H (.int i) (.type "int") := .base (.int _)
theorem ty_bl {K : PySem.W.Frag} {H : Hp} {i : Bool} : TyX K H (.bl i) (.type "bool") := .base (.bl _)
theorem ty_str {K : PySem.W.Frag} {H : Hp} {i : Str} : TyX K H (.str i) (.type "str") := .base (.str _)
theorem ty_non {K : PySem.W.Frag} {H : Hp} : TyX K H .non (.type "NoneType") := .base .non
theorem kb_ii : kitB "int" "int" = some true := by decide +kernel
theorem kb_bi : kitB "bool" "int" = some true := by decide +kernel
theorem kb_ib : kitB "int" "bool" = some false := by decide +kernel
theorem kb_bb : kitB "bool" "bool" = some true := by decide +kernel
theorem pow17 : CPow 10 17 := ⟨by decide, by decide, by decide⟩
/-- for over range(n) -/
def rForR (lo : Int) (n : Nat) (g : TG) (tb : TS) : TS := fun D σ H => ∃ W : Nat → Nat → L2.St → Hp → Prop, (∃ m, W 0 m σ H) ∧ ∀ i m σ H, W i m σ H →
  ((Itr lo n).stop i H ∧ D.nx σ H) ∨ ((Itr lo n).go i H ∧ ∃ Nx : L2.St → Hp → Prop, (∀ σ' H', Nx σ' H' → ∃ m', m' < m ∧ W (i + 1) m' σ' H') ∧ ∀ x H', (Itr lo n).yld i H x H' → g x σ H' fun σ2 H2 => tb { D with nx := Nx, ct := Nx, bk := D.nx } σ2 H2)
theorem i_forR1 {ta : TA} {g : TG} {tb : TS} {D : Ends} {σ : L2.St} {H : Hp} (h : ta σ H fun vs H1 => ∃ j : Int, vs = [.int j] ∧ -(2 ^ 62) ≤ j ∧ j < 2 ^ 62 ∧ rForR 0 j.toNat g tb D σ H1) : tFor (iRng1 ta) g tb D σ H := h
theorem i_forR2 {ta : TA} {g : TG} {tb : TS} {D : Ends} {σ : L2.St} {H : Hp} (h : ta σ H fun vs H1 => ∃ i j : Int, vs = [.int i, .int j] ∧ (-(2 ^ 62) ≤ i ∧ i < 2 ^ 62 ∧ -(2 ^ 62) ≤ j ∧ j < 2 ^ 62) ∧ rForR i (j - i).toNat g tb D σ H1) : tFor (iRng2 ta) g tb D σ H := h
theorem i_loopR {lo : Int} {n : Nat} {j : Nat} {tb : TS} {D : Ends} {σ : L2.St} {H : Hp} (Pv : Nat → L2.St → Hp → Prop) (h0 : Pv 0 σ H)
    (hs : ∀ (i : Nat) σ H, i < n → Pv i σ H → tb { D with nx := Pv (i + 1), ct := Pv (i + 1), bk := D.nx } (σ.set j (some (.int (lo + i)))) H) (hd : ∀ σ H, Pv n σ H → D.nx σ H) : rForR lo n (gName j) tb D σ H := for_range Pv h0 hs hd
theorem i_else {c A B : Prop} [Decidable c] (h : ¬ c) (b : B) : if c then A else B := by rw [if_neg h]; exact b
theorem i_then {c A B : Prop} [Decidable c] (h : c) (a : A) : if c then A else B := by rw [if_pos h]; exact a
/-- two ways that meet -/
theorem i_both {c A B T : Prop} [Decidable c] (t : T) (h1 : c → T → A) (h2 : ¬ c → T → B) : if c then A else B := ite2 (fun h => h1 h t) (fun h => h2 h t)
theorem ty_tup {K : PySem.W.Frag} {H : Hp} {p : Addr} {xs : List V} (h : H p = some (.tup xs)) : TyX K H (.ref p) (.type "tuple") := .base (.tup h)
theorem ty_lst {K : PySem.W.Frag} {H : Hp} {p : Addr} {xs : List V} (h : H p = some (.lst xs)) : TyX K H (.ref p) (.type "list") := .base (.lst h)
theorem kb_ni : kitB "NoneType" "int" = some false := by decide +kernel
theorem kb_si : kitB "str" "int" = some false := by decide +kernel
theorem kb_li : kitB "list" "int" = some false := by decide +kernel
theorem kb_ti : kitB "tuple" "int" = some false := by decide +kernel
theorem kb_di : kitB "dict" "int" = some false := by decide +kernel
/-! ### loops by what is walked -/
def rForJ (J : It) (g : TG) (tb : TS) : TS := fun D σ H => ∃ W : Nat → Nat → L2.St → Hp → Prop, (∃ m, W 0 m σ H) ∧ ∀ i m σ H, W i m σ H →
  (J.stop i H ∧ D.nx σ H) ∨ (J.go i H ∧ ∃ Nx : L2.St → Hp → Prop, (∀ σ' H', Nx σ' H' → ∃ m', m' < m ∧ W (i + 1) m' σ' H') ∧ ∀ x H', J.yld i H x H' → g x σ H' fun σ2 H2 => tb { D with nx := Nx, ct := Nx, bk := D.nx } σ2 H2)
theorem tFor_J {wi : TI} {g : TG} {tb : TS} {D : Ends} {σ : L2.St} {H : Hp} : tFor wi g tb D σ H = wi σ H fun J H1 => rForJ J g tb D σ H1 := rfl
def rLcJ (J : It) (g : TG) (tt : TT) (te : TE) (vs : List Nat) : TE := fun σ H1 Q => ∀ D, H1 D = none → ∃ W : Nat → Nat → Hp → Prop, (∃ m, W 0 m (upd H1 D (.lst []))) ∧ ∀ i m H, W i m H →
  (J.stop i H ∧ Q (.ref D) H) ∨ (J.go i H ∧ ∃ Nx : Hp → Prop, (∀ H', Nx H' → ∃ m', m' < m ∧ W (i + 1) m' H') ∧ ∀ x H', J.yld i H x H' → g x (wipe σ vs) H' fun σ2 H2 => wipe σ2 vs = wipe σ vs ∧ tt σ2 H2 fun b H3 =>
    if b = true then te σ2 H3 fun y H4 => ∃ acc, H4 D = some (.lst acc) ∧ acc.length < sizeLine ∧ Nx (upd H4 D (.lst (acc ++ [y]))) else Nx H3)
theorem tLc_J {wi : TI} {g : TG} {tt : TT} {te : TE} {vs : List Nat} {σ : L2.St} {H : Hp} {Q : VK} : tLc wi g tt te vs σ H Q = wi σ H fun J H1 => rLcJ J g tt te vs σ H1 Q := rfl
theorem i_for {J : It} {n : Nat} {G : Hp → Prop} {Y : Nat → Hp → V → Hp → Prop} (w : Walk J n G Y) {j : Nat} {tb : TS} {D : Ends} {σ : L2.St} {H : Hp} (Pv : Nat → L2.St → Hp → Prop) (h0 : Pv 0 σ H) (hG : ∀ i σ H, i ≤ n → Pv i σ H → G H)
    (hs : ∀ i x σ H H', i < n → Pv i σ H → Y i H x H' → tb { D with nx := Pv (i + 1), ct := Pv (i + 1), bk := D.nx } (σ.set j (some x)) H') (hd : ∀ σ H, Pv n σ H → D.nx σ H) : rForJ J (gName j) tb D σ H := for_it w Pv h0 hG hs hd
theorem wipe_one {σ : L2.St} {j : Nat} {x : V} : wipe ((wipe σ [j]).set j (some x)) [j] = wipe σ [j] := by
  show ((σ.set j none).set j (some x)).set j none = σ.set j none
  rw [List.set_set, List.set_set]
def YL {α : Type} (l : List α) (r : α → V) : Nat → Hp → V → Hp → Prop := fun i H v H' => H' = H ∧ ∃ c, l[i]? = some c ∧ v = r c
/-- [e for x in ..], e without an effect -/
theorem i_lcL {α : Type} {J : It} {l : List α} {r : α → V} {G : Hp → Prop} (w : Walk J l.length G (YL l r)) {j : Nat} {te : TE} {σ : L2.St} {H : Hp} {Q : VK} (g : α → V) (hn : l.length < sizeLine) (hG : ∀ D ys, H D = none → G (upd H D (.lst ys)))
    (hs : ∀ c ∈ l, ∀ H1 (Q' : VK), Same H H1 → Q' (g c) H1 → te ((wipe σ [j]).set j (some (r c))) H1 Q') (q : ∀ D, H D = none → Q (.ref D) (upd H D (.lst (l.map g)))) : rLcJ J (gName j) tYes te [j] σ H Q := by
  intro D hD
  refine lc_it w (fun i H' => H' = upd H D (.lst ((l.take i).map g))) rfl (fun i H' _ e => by subst e; exact hG D _ hD) (fun i x H1 H2 hi e y => ?_) (fun H' e => by subst e; rw [List.take_length]; exact q D hD)
  obtain ⟨e2, c, hc, rfl⟩ := y
  subst e2
  refine ⟨wipe_one, hs c (List.mem_of_getElem? hc) H2 (fun y H4 => ∃ acc, H4 D = some (.lst acc) ∧ acc.length < sizeLine ∧ upd H4 D (.lst (acc ++ [y])) = upd H D (.lst ((l.take (i + 1)).map g))) (by subst e; intro b o h; rw [upd_ne (ne_of_none h hD)]; exact h) ?_⟩
  subst e
  refine ⟨_, upd_same, by rw [List.length_map, List.length_take]; omega, ?_⟩
  rw [upd_upd, List.take_add_one, hc, List.map_append]; rfl
/-- for x in ..: if not p: return False -/
theorem i_forall {α : Type} {J : It} {l : List α} {r : α → V} {G : Hp → Prop} (w : Walk J l.length G (YL l r)) {j : Nat} {tb : TS} {D : Ends} {σ : L2.St} {H : Hp} (p : α → Bool) (v : V) (hG : G H)
    (hs : ∀ c ∈ l, ∀ D' : Ends, (p c = true → D'.nx (σ.set j (some (r c))) H) → (p c = false → D'.rt v H) → tb D' (σ.set j (some (r c))) H) (h1 : l.all p = true → D.nx σ H ∧ ∀ u, D.nx (σ.set j u) H) (h2 : l.all p = false → D.rt v H) : rForJ J (gName j) tb D σ H := by
  refine i_for w (fun i σ' H' => H' = H ∧ (σ' = σ ∨ ∃ u, σ' = σ.set j u) ∧ ∀ c ∈ l.take i, p c = true) ⟨rfl, .inl rfl, by simp⟩ (fun i σ' H' _ h => by rw [h.1]; exact hG) ?_ ?_
  · rintro i x σ' H' H2 hi ⟨rfl, hσ, hp⟩ ⟨rfl, c, hc, rfl⟩
    have hm := List.mem_of_getElem? hc
    have es : σ'.set j (some (r c)) = σ.set j (some (r c)) := by
      rcases hσ with rfl | ⟨u, rfl⟩
      · rfl
      · rw [List.set_set]
    rw [es]
    refine hs c hm _ (fun hpc => ⟨rfl, .inr ⟨_, rfl⟩, fun d hd => ?_⟩) (fun hpc => h2 ?_)
    · rw [List.take_add_one, hc] at hd
      rcases List.mem_append.mp hd with h | h
      · exact hp d h
      · rw [List.mem_singleton.mp h]; exact hpc
    · rw [List.all_eq_false]
      exact ⟨c, hm, by rw [hpc]; simp⟩
  · rintro σ' H' ⟨rfl, hσ, hp⟩
    rw [List.take_length] at hp
    have h := h1 (List.all_eq_true.mpr hp)
    rcases hσ with rfl | ⟨u, rfl⟩
    · exact h.1
    · exact h.2 u
/-- [e for x in ..], e draws from the bag at a -/
theorem i_lcD {J : It} {n : Nat} {G : Hp → Prop} {Y : Nat → Hp → V → Hp → Prop} (w : Walk J n G Y) {a : Addr} {j : Nat} {te : TE} {σ : L2.St} {H : Hp} {Q : VK} (hB : Bag H a) (P : V → Prop) (hn : n < sizeLine) (hG : ∀ H', Mv a H H' → G H') (hY : ∀ i H x H', Y i H x H' → H' = H)
    (hs : ∀ i x H1 (Q' : VK), i < n → Y i H1 x H1 → Mv a H H1 → (∀ y H2, P y → Mv a H1 H2 → Q' y H2) → te ((wipe σ [j]).set j (some x)) H1 Q') (q : ∀ D H' ys, H D = none → Mv a H H' → H' D = some (.lst ys) → ys.length = n → (∀ y ∈ ys, P y) → Q (.ref D) H') : rLcJ J (gName j) tYes te [j] σ H Q := by
  intro D hD
  have nD := bag_ne hB hD
  refine lc_it w (fun i H' => Mv a H H' ∧ ∃ ys, H' D = some (.lst ys) ∧ ys.length = i ∧ ∀ y ∈ ys, P y) ⟨(Mv.refl hB).new hD, [], upd_same, rfl, fun _ h => nomatch h⟩ (fun i H' _ e => hG H' e.1) (fun i x H1 H2 hi e y => ?_) (fun H' e => ?_)
  · have e2 := hY i H1 x H2 y
    subst e2
    obtain ⟨mv, ys, e1, e2, e3⟩ := e
    refine ⟨wipe_one, hs i x H2 (fun y H4 => ∃ acc, H4 D = some (.lst acc) ∧ acc.length < sizeLine ∧ (Mv a H (upd H4 D (.lst (acc ++ [y]))) ∧ ∃ ys, upd H4 D (.lst (acc ++ [y])) D = some (.lst ys) ∧ ys.length = i + 1 ∧ ∀ y ∈ ys, P y)) hi y mv fun v H3 hv mv3 => ?_⟩
    refine ⟨ys, mv3.old D _ nD e1, by omega, ?_⟩
    have m3 := mv.trans mv3
    refine ⟨⟨?_, fun b o hb e => ?_⟩, ys ++ [v], upd_same, by simp [e2], fun y hy => ?_⟩
    · obtain ⟨x1, x2, x3, hx⟩ := m3.bag
      exact ⟨x1, x2, x3, by rw [upd_ne nD.symm]; exact hx⟩
    · rw [upd_ne (ne_of_none e hD)]; exact m3.old b o hb e
    · rcases List.mem_append.mp hy with h | h
      · exact e3 y h
      · rw [List.mem_singleton.mp h]; exact hv
  · obtain ⟨mv, ys, e1, e2, e3⟩ := e
    exact q D H' ys hD mv e1 e2 e3
theorem rdCut {t u : TS} {D : Ends} {σ : L2.St} {H : Hp} (Mid : L2.St → Hp → Prop) (h : t { D with nx := Mid } σ H) (k : ∀ σ' H', Mid σ' H' → u D σ' H') : C8.tCut t u D σ H := ⟨Mid, h, k⟩
theorem pow9 : CPow 10 9 := ⟨by decide, by decide, by decide⟩
theorem pow8 : CPow 10 8 := ⟨by decide, by decide, by decide⟩
theorem pow12 : CPow 10 12 := ⟨by decide, by decide, by decide⟩
theorem walk_rangeL {lo : Int} {n : Nat} : Walk (Itr lo n) (List.range n).length (fun _ => True) (YL (List.range n) fun i => .int (lo + i)) := by
  rw [List.length_range]
  exact walk_range.mono (fun _ h => h) fun i H x H' hi _ y => ⟨y.1, i, by rw [List.getElem?_range hi], y.2⟩
theorem i_app {H : Hp} {l : Addr} {xs : List V} {v : V} {Q : VK} (h : H l = some (.lst xs)) (hz : xs.length < sizeLine) (q : Q .non (upd H l (.lst (xs ++ [v])))) : rAppend (.ref l) [v] H Q := ⟨l, xs, v, rfl, rfl, h, hz, q⟩
theorem ty_app {K : PySem.W.Frag} {H : Hp} {l : Addr} {xs : List V} (h : SqL K H l xs) : tyV K "list" (.ref l) H := .inl ⟨rfl, xs, h⟩
theorem i_slL {K : PySem.W.Frag} {H : Hp} {a : Addr} {xs : List V} {lo hi : Option Int} {Q : VK} (h : SqL K H a xs) (q : ∀ p, H p = none → Q (.ref p) (upd H p (.lst (cutV xs lo hi)))) : rSlL K (.ref a) lo hi H Q := ⟨a, xs, rfl, h, q⟩
theorem i_cat {H : Hp} {l b : Addr} {xs zs : List V} {Q : VK} (h1 : H l = some (.lst xs)) (h2 : H b = some (.lst zs)) (hz : xs.length + zs.length ≤ sizeLine) (q : ∀ p, H p = none → Q (.ref p) (upd H p (.lst (xs ++ zs)))) : rCat (.ref l) (.ref b) H Q := ⟨l, b, xs, zs, rfl, rfl, h1, h2, hz, q⟩
theorem i_inL {K : PySem.W.Frag} {neg : Bool} {x : V} {H : Hp} {p : Addr} {xs : List V} {Q : VK} (h : SqL K H p xs ∨ SqT K H p xs) (h1 : flatV x = true) (h2 : xs.all flatV = true) (q : Q (.bl (if neg then !inV x xs else inV x xs)) H) : rIn K neg x (.ref p) H Q := ⟨p, xs, rfl, h, h1, h2, q⟩
theorem cut_take {xs : List V} {n : Nat} : cutV xs none (some (n : Int)) = xs.take n := by
  unfold cutV
  rw [HT.sIx_none, HT.sIx_nat]
  simp only [List.drop_zero, Nat.sub_zero]
  rw [Nat.min_comm, ← List.take_take, List.take_of_length_le (by rw [List.length_take]; omega)]
theorem cut_drop {xs : List V} {n : Nat} : cutV xs (some (n : Int)) none = xs.drop n := by
  unfold cutV
  rw [HT.sIx_none, HT.sIx_nat]
  by_cases h : n ≤ xs.length
  · rw [Nat.min_eq_left h, List.take_of_length_le (by rw [List.length_drop]; omega)]
  · rw [Nat.min_eq_right (by omega), List.drop_of_length_le (by omega), List.drop_of_length_le (by omega)]; simp
theorem line5 {n : Nat} (h : n ≤ 100000) : n ≤ sizeLine := Nat.le_trans h (by decide)
theorem line5' {n : Nat} (h : n ≤ 100000) : n < sizeLine := Nat.lt_of_le_of_lt h (by decide)
/-! ### the same rules with the written part named (for a comprehension's block) -/
theorem ix_listK (K : PySem.W.Frag) {X : Cx} (h : X.K = K := by rfl) : IxR X (rIxL K) := h ▸ ix_list
theorem ix_tupK (K : PySem.W.Frag) {X : Cx} (h : X.K = K := by rfl) : IxR X (rIxT K) := h ▸ ix_tup
theorem sl_listK (K : PySem.W.Frag) {X : Cx} (h : X.K = K := by rfl) : SlR X (rSlL K) := h ▸ sl_list
theorem sl_tupK (K : PySem.W.Frag) {X : Cx} (h : X.K = K := by rfl) : SlR X (rSlT K) := h ▸ sl_tup
theorem lenLK (K : PySem.W.Frag) {X : Cx} (h : X.K = K := by rfl) : CallR X (.builtin "len") (rLenL K) := h ▸ call_lenL
theorem lenTK (K : PySem.W.Frag) {X : Cx} (h : X.K = K := by rfl) : CallR X (.builtin "len") (rLenT K) := h ▸ call_lenT
theorem isiK (K : PySem.W.Frag) {X : Cx} (h : X.K = K := by rfl) : CallR X (.builtin "isinstance") (rIsi K) := h ▸ call_isi
theorem isiTK (K : PySem.W.Frag) {X : Cx} (h : X.K = K := by rfl) : CallR X (.builtin "isinstance") (rIsiT K) := h ▸ call_isiT
theorem in_seqK (K : PySem.W.Frag) {X : Cx} (h : X.K = K := by rfl) : OpR X (compareOp .In) (rIn K false) := h ▸ op_in_seq
theorem notIn_seqK (K : PySem.W.Frag) {X : Cx} (h : X.K = K := by rfl) : OpR X (compareOp .NotIn) (rIn K true) := h ▸ op_notIn_seq
theorem i_indexS {K : PySem.W.Frag} {H : Hp} {Q : VK} {p : Addr} {l : List Str} {s : Str} {j : Nat} (h : SqL K H p (l.map V.str)) (hj : l[j]? = some s) (hn : s ∉ l.take j) (q : Q (.int (j : Nat)) H) : rIndex K (.ref p) [.str s] H Q := by
  refine ⟨p, _, .str s, j, .str s, rfl, rfl, h, rfl, ?_, by rw [List.getElem?_map, hj]; rfl, by simp [eqV], ?_, q⟩
  · rw [List.all_map, List.all_eq_true]; intro x _; rfl
  · intro m z hm hz
    rw [List.getElem?_map] at hz
    cases e : l[m]? with
    | none => rw [e] at hz; cases hz
    | some t =>
      rw [e] at hz
      have hz : V.str t = z := Option.some.inj hz
      subst hz
      show (t == s) = false
      rw [beq_eq_false_iff_ne]
      intro et; subst et
      exact hn (List.mem_of_getElem? (by rw [List.getElem?_take_of_lt hm]; exact e))
theorem walk_listL {K : PySem.W.Frag} {a : Addr} {α : Type} {l : List α} {r : α → V} : Walk (Itl K a) l.length (fun H => SqL K H a (l.map r)) (YL l r) := by
  have w := walk_list (K := K) (a := a) (xs := l.map r)
  rw [List.length_map] at w
  exact w.mono (fun _ h => h) fun i H x H' hi _ y => ⟨y.1, l[i], List.getElem?_eq_getElem hi, by
    have := y.2
    rw [List.getElem?_map, List.getElem?_eq_getElem hi] at this
    exact (Option.some.inj this).symm⟩
theorem walk_tupL {K : PySem.W.Frag} {a : Addr} {α : Type} {l : List α} {r : α → V} : Walk (Itt K a) l.length (fun H => SqT K H a (l.map r)) (YL l r) := by
  have w := walk_tup (K := K) (a := a) (xs := l.map r)
  rw [List.length_map] at w
  exact w.mono (fun _ h => h) fun i H x H' hi _ y => ⟨y.1, l[i], List.getElem?_eq_getElem hi, by
    have := y.2
    rw [List.getElem?_map, List.getElem?_eq_getElem hi] at this
    exact (Option.some.inj this).symm⟩
theorem dpStrs {K : PySem.W.Frag} {H : Hp} : ∀ l : List Str, DpAll K H (l.map V.str) (l.map PyData.str)
  | [] => .nil
  | x :: l => .cons (.str x) (dpStrs l)
theorem dpInts {K : PySem.W.Frag} {H : Hp} : ∀ l : List Int, DpAll K H (l.map V.int) (l.map PyData.int)
  | [] => .nil
  | x :: l => .cons (.int x) (dpInts l)
theorem kb_tt : kitB "tuple" "tuple" = some true := by decide +kernel
theorem pow15 : CPow 10 15 := ⟨by decide, by decide, by decide⟩
theorem sc_ii {a b : Int} : scal (.int a) (.int b) = true := rfl
theorem sc_ss {a b : Str} : scal (.str a) (.str b) = true := rfl
theorem sc_bb {a b : Bool} : scal (.bl a) (.bl b) = true := rfl
theorem sc_in {a : Int} : scal (.int a) .non = true := rfl
theorem sc_ni {a : Int} : scal .non (.int a) = true := rfl
theorem sc_nn : scal .non .non = true := rfl
theorem sc_is {a : Int} {b : Str} : scal (.int a) (.str b) = true := rfl
theorem sc_si {a : Int} {b : Str} : scal (.str b) (.int a) = true := rfl
theorem sc_ns {b : Str} : scal .non (.str b) = true := rfl
theorem sc_sn {b : Str} : scal (.str b) .non = true := rfl
theorem sc_bn {b : Bool} : scal (.bl b) .non = true := rfl
theorem sc_nb {b : Bool} : scal .non (.bl b) = true := rfl
theorem sc_sb {b : Bool} {a : Str} : scal (.str a) (.bl b) = true := rfl
theorem sc_bs {b : Bool} {a : Str} : scal (.bl b) (.str a) = true := rfl
/-- a new list at p, all else kept -/
structure NewL (H H' : Hp) (p : Addr) (xs : List V) : Prop where
  free : H p = none
  same : Same H H'
  at_ : H' p = some (.lst xs)
theorem NewL.sq {K : PySem.W.Frag} {H H' : Hp} {p : Addr} {xs : List V} (n : NewL H H' p xs) : SqL K H' p xs := sqL_of n.at_
theorem NewL.set {H H' : Hp} {p : Addr} {xs ys : List V} (n : NewL H H' p xs) : NewL H (upd H' p (.lst ys)) p ys := ⟨n.free, fun b o e => by rw [upd_ne (ne_of_none e n.free)]; exact n.same b o e, upd_same⟩
theorem NewL.more {H H' H2 : Hp} {p : Addr} {xs : List V} (n : NewL H H' p xs) (s : Same H' H2) : NewL H H2 p xs := ⟨n.free, n.same.trans s, s _ _ n.at_⟩
theorem same_new {H : Hp} {p : Addr} {o : HO} (n : H p = none) : Same H (upd H p o) := fun b u e => by rw [upd_ne (ne_of_none e n)]; exact e
theorem cut_all {xs : List V} : cutV xs (some 0) none = xs := cut_drop (n := 0)
theorem pow14 : CPow 10 14 := ⟨by decide, by decide, by decide⟩
theorem ixN_of {n j : Nat} (h : j < n) : ixN n (j : Int) = some j := by
  unfold ixN
  rw [if_pos (by omega), if_pos (by omega)]; simp

/-! ### texts -/
def chr1 (c : Nat) : Str := ⟨#[c]⟩
def rLeC : R2 := fun x y H Q => ∃ c d, x = .str ⟨#[c]⟩ ∧ y = .str ⟨#[d]⟩ ∧ Q (.bl (decide (c ≤ d))) H
theorem op_leC {X : Cx} : OpR X (compareOp .LtE) rLeC := OpR.imp' op_le_str fun x y H Q ⟨c, d, e1, e2, q⟩ => ⟨⟨#[c]⟩, ⟨#[d]⟩, e1, e2, by
  have e : (!decide ((⟨#[d]⟩ : Str).cps.toList < (⟨#[c]⟩ : Str).cps.toList)) = decide (c ≤ d) := by
    show (!decide ([d] < [c])) = decide (c ≤ d)
    have h : ([d] < [c]) ↔ d < c := by
      rw [List.cons_lt_cons_iff]
      constructor
      · rintro (h | ⟨_, h⟩)
        · exact h
        · exact absurd h (by simp)
      · exact fun h => .inl h
    by_cases hc : c ≤ d
    · have : ¬ ([d] < [c]) := fun k => by have := h.mp k; omega
      rw [decide_eq_true hc, decide_eq_false this]; rfl
    · have : [d] < [c] := h.mpr (by omega)
      rw [decide_eq_false hc, decide_eq_true this]; rfl
  show Q (V.bl _) H
  rw [e]; exact q⟩
theorem i_leC {x y : V} {c d : Nat} {H : Hp} {Q : VK} (e1 : x = .str ⟨#[c]⟩) (e2 : y = .str ⟨#[d]⟩) (q : Q (.bl (decide (c ≤ d))) H) : rLeC x y H Q := ⟨c, d, e1, e2, q⟩
def rOrdC : List V → Hp → VK → Prop := fun xs H Q => ∃ c : Nat, xs = [.str ⟨#[c]⟩] ∧ Q (.int c) H
theorem call_ordC {X : Cx} : CallR X (.builtin "ord") rOrdC := fun pins s σ H xs us Q I r ⟨c, e, q⟩ => call_ord pins s σ H xs us Q I r ⟨⟨#[c]⟩, e, rfl, q⟩
theorem i_ordC {x : V} {c : Nat} {H : Hp} {Q : VK} (e1 : x = .str ⟨#[c]⟩) (q : Q (.int c) H) : rOrdC [x] H Q := ⟨c, by rw [e1], q⟩
def rInC (neg : Bool) : R2 := fun x y H Q => ∃ (c : Nat) (z : Str), x = .str ⟨#[c]⟩ ∧ y = .str z ∧ Q (.bl (if neg then !decide (c ∈ z.cps.toList) else decide (c ∈ z.cps.toList))) H
theorem op_inC {X : Cx} : OpR X (compareOp .In) (rInC false) := op_in_sign
theorem op_notInC {X : Cx} : OpR X (compareOp .NotIn) (rInC true) := op_notIn_sign
theorem i_inC {x y : V} {neg : Bool} {c : Nat} {z : Str} {H : Hp} {Q : VK} (e1 : x = .str ⟨#[c]⟩) (e2 : y = .str z) (q : Q (.bl (if neg then !decide (c ∈ z.cps.toList) else decide (c ∈ z.cps.toList))) H) : rInC neg x y H Q := ⟨c, z, e1, e2, q⟩
def rLenS' : List V → Hp → VK → Prop := fun xs H Q => ∃ z : Str, xs = [.str z] ∧ z.length ≤ sizeLine ∧ Q (.int z.length) H
theorem call_lenS {X : Cx} : CallR X (.builtin "len") rLenS' := call_len_str
theorem i_lenS {x : V} {z : Str} {H : Hp} {Q : VK} (e1 : x = .str z) (hz : z.length ≤ sizeLine) (q : Q (.int z.length) H) : rLenS' [x] H Q := ⟨z, by rw [e1], hz, q⟩
theorem i_ixS {z : Str} {i : Int} {c : Nat} {H : Hp} {Q : VK} (hz : z.length ≤ sizeLine) (e : atI z.cps.toList i = some c) (q : Q (.str ⟨#[c]⟩) H) : rIxS (.str z) (.int i) H Q := ⟨z, i, c, rfl, rfl, hz, e, q⟩
/-- a sign at a drawn place -/
theorem at_chr {z : Str} {i : Int} (h0 : 0 ≤ i) (h1 : i < z.length) : ∃ c, atI z.cps.toList i = some c ∧ c ∈ z.cps.toList := at_of h0 (by rw [Array.length_toList]; exact h1)
theorem walk_chars {z : Str} : Walk (Its z) z.cps.toList.length (fun _ => True) (YL z.cps.toList fun c => .str ⟨#[c]⟩) := by
  rw [Array.length_toList]
  exact walk_str.mono (fun _ h => h) fun i H x H' _ _ ⟨e, c, h, hv⟩ => ⟨e, c, by rw [Array.getElem?_toList]; exact h, hv⟩
def rJoin (K : PySem.W.Frag) : V → List V → Hp → VK → Prop := fun x xs H Q => ∃ a p, ∃ ys : List Str, x = .str a ∧ xs = [.ref p] ∧ (SqL K H p (ys.map V.str) ∨ SqT K H p (ys.map V.str)) ∧
      (ys.map (·.length)).sum + ys.length * a.length ≤ 16777216 ∧ Q (.str (Txt.join a ys)) H
theorem pe_joinR {X : Cx} {o e : Expr} {to te : TE} {apos pos : Pos} (ho : PE X o to) (he : PE X e te) (hs : starEach [e] X.env = [(false, eval e X.env)] := by rfl) (hbase : attributeBase o "join" X.env (eval o X.env) = eval o X.env := by rfl) (hline : (apos.endLine == pos.line) = true := by rfl) :
    PE X (.Call (.Attribute o "join" apos) [e] [] pos) (tM1 (rJoin X.K) to te) := pe_join ho he hs hbase hline
theorem kb_ss : kitB "str" "str" = some true := by decide +kernel
theorem kb_bs : kitB "bool" "str" = some false := by decide +kernel
theorem kb_ns : kitB "NoneType" "str" = some false := by decide +kernel
theorem kb_is : kitB "int" "str" = some false := by decide +kernel
theorem kb_ls : kitB "list" "str" = some false := by decide +kernel
theorem kb_ts : kitB "tuple" "str" = some false := by decide +kernel
theorem kb_ds : kitB "dict" "str" = some false := by decide +kernel
theorem i_all {K : PySem.W.Frag} {H : Hp} {Q : VK} {p : Addr} {bs : List Bool} (h : H p = some (.lst (bs.map V.bl))) (q : Q (.bl (bs.all id)) H) : rAll K [.ref p] H Q := ⟨p, bs, rfl, sqL_of h, q⟩
theorem strs_of {P : Str → Prop} : ∀ {ys : List V}, (∀ y ∈ ys, ∃ s, y = .str s ∧ P s) → ∃ zs : List Str, ys = zs.map V.str ∧ ∀ s ∈ zs, P s
  | [], _ => ⟨[], rfl, fun _ h => nomatch h⟩
  | y :: ys, h => by
    obtain ⟨s, rfl, hs⟩ := h y List.mem_cons_self
    obtain ⟨zs, rfl, hz⟩ := strs_of (ys := ys) fun y hy => h y (List.mem_cons_of_mem _ hy)
    exact ⟨s :: zs, rfl, fun t ht => by
      rcases List.mem_cons.mp ht with rfl | ht
      · exact hs
      · exact hz t ht⟩
theorem joinL_nil : ∀ ps : List (List Nat), TL.joinL [] ps = ps.flatten
  | [] => rfl
  | [p] => by simp [TL.joinL]
  | p :: q :: r => by
    show p ++ ([] ++ TL.joinL [] (q :: r)) = _
    rw [joinL_nil (q :: r)]; simp
theorem join_cl (ys : List Str) : (Txt.join Str.empty ys).cps.toList = (ys.map fun s => s.cps.toList).flatten := by
  rw [TL.join_eq]
  have e := TL.tl_join Str.empty ys
  have e2 : TL.tl Str.empty = [] := rfl
  rw [e2, joinL_nil] at e
  exact e
theorem cl_append (a b : Str) : (a ++ b).cps.toList = a.cps.toList ++ b.cps.toList := TL.tl_append a b
theorem cl_length (a : Str) : a.cps.toList.length = a.length := Array.length_toList
theorem len_append (a b : Str) : (a ++ b).length = a.length + b.length := by rw [← cl_length, cl_append, List.length_append, cl_length, cl_length]
theorem mem_cut {z : Str} {lo hi : Option Int} {c : Nat} (h : c ∈ (cutS z lo hi).cps.toList) : c ∈ z.cps.toList := by
  unfold cutS at h
  exact List.mem_of_mem_drop (List.mem_of_mem_take (by simpa using h))
theorem i_slS {z : Str} {lo hi : Option Int} {H : Hp} {Q : VK} (hz : z.length ≤ sizeLine) (q : Q (.str (cutS z lo hi)) H) : rSlS (.str z) lo hi H Q := ⟨z, rfl, hz, q⟩

/-! ### fields, methods and exceptions, the written part named -/
section
variable {X : Cx} {K : PySem.W.Frag}
theorem pe_fldK (K : PySem.W.Frag) {e : Expr} {ta : TE} {f : Str} {pos : Pos} (he : PE X e ta) (hb : attributeBase e f X.env (eval e X.env) = eval e X.env) (hK : X.K = K := by rfl) : PE X (.Attribute e f pos) (tFld K ta f) := by
  have h := pe_fld (pos := pos) he hb
  rw [hK] at h
  exact h
theorem ps_fldK (K : PySem.W.Frag) {o value : Expr} {ta tv : TE} {f : Str} {pos pos' : Pos} (ha : PE X o ta) (hv : PE X value tv) (hs : swapsWith value (some (.Attribute o f pos')) pos.line X.env = pure false) (hK : X.K = K := by rfl) : PS X (.Assign [.Attribute o f pos'] value pos) (sFld K ta tv f) := by
  have h := ps_fld (pos := pos) ha hv hs
  rw [hK] at h
  exact h
theorem ps_fldaugK (K : PySem.W.Frag) {o value : Expr} {ta tv : TE} {f : Str} {pos tpos : Pos} {op : Operator} {rd : V → V → Hp → VK → Prop} (ha : PE X o ta) (hv : PE X value tv) (hop : InOp X op rd) (hK : X.K = K := by rfl) : PS X (.AugAssign (.Attribute o f tpos) op value pos) (sFldAug K ta tv rd f) := by
  have h := ps_fldaug (f := f) (pos := pos) (tpos := tpos) ha hv hop
  rw [hK] at h
  exact h
theorem pe_bmK (K : PySem.W.Frag) {T id : String} {name : Str} {r : V → List V → Hp → VK → Prop} {o e : Expr} {es : List Expr} {to : TE} {t : TA} {apos cpos : Pos} (pa : PlainAttrs T) (slot : Slot T name id) (hty : typeOf (.builtin id) = pure (.type "method_descriptor")) (hm : MtR X id r) (ho : PE X o to) (ha : PA X (e :: es) t)
    (hbase : attributeBase o name X.env (eval o X.env) = eval o X.env := by rfl)
    (hfew : ((backTo cpos (starEach (e :: es) X.env)).all (fun x => !x.1) && (backToKw cpos (keywordEach [] X.env)).all (fun x => x.1.isSome)
      && decide ((e :: es).length + ([] : List Keyword).length + (if ([] : List Keyword).isEmpty then 0 else 1) < 30)) = true := by rfl)
    (hline : (apos.endLine == cpos.line) = true := by rfl) (hs : starEach (e :: es) X.env = (false, eval e X.env) :: starEach es X.env := by rfl) (hplain : (backTo cpos (starEach es X.env)).any (·.1) = false := by rfl) (hK : X.K = K := by rfl) :
    PE X (.Call (.Attribute o name apos) (e :: es) [] cpos) (tBM K T r to t) := by
  have h := pe_bm pa slot hty hm ho ha hbase hfew hline hs hplain
  rw [hK] at h
  exact h
theorem pe_bm0K (K : PySem.W.Frag) {T id : String} {name : Str} {r : V → List V → Hp → VK → Prop} {o : Expr} {to : TE} {apos cpos : Pos} (pa : PlainAttrs T) (slot : Slot T name id) (hty : typeOf (.builtin id) = pure (.type "method_descriptor")) (hm : MtR X id r) (ho : PE X o to)
    (hbase : attributeBase o name X.env (eval o X.env) = eval o X.env := by rfl) (hline : (apos.endLine == cpos.line) = true := by rfl) (hK : X.K = K := by rfl) : PE X (.Call (.Attribute o name apos) [] [] cpos) (tBM0 K T r to) := by
  have h := pe_bm0 pa slot hty hm ho hbase hline
  rw [hK] at h
  exact h
/-- o.m(..) that may raise, what is raised wished for at the caller's slots -/
def tMethS (C : Addr) (m : Str) (sp : Sp) (E : L2.St → XK) (ta : TE) (t : TA) : TE := fun σ H Q => ta σ H fun x H1 => ∃ a dx fs, x = .ref a ∧ H1 a = some (.ins C dx fs) ∧ fs.lookup m = none ∧ t σ H1 fun vs H2 => sp (x :: vs) H2 Q (E σ)
variable {CX : CXT} {k : Nat} {f C : Addr} {fd : FuncData} {ps : List Str} {sp : Sp} {E : L2.St → XK} {m : Str} {pos apos : Pos} {e o : Expr} {es : List Expr} {ta : TE} {t : TA}
theorem pe_methS {pl : Sem Bool} (he : PE X o ta) (c : Cls X.K C) (hm : Meth X.K C m f) (F : FnOk X.prog X.w X.K X.mg X.base CX k f fd ps sp) (hr : Room k X.A) (hb : Binds X.K fd ps []) (hx : ∀ σ, PassesAt CX X σ (E σ)) (ha : PA X (e :: es) t)
    (hst : starEach (e :: es) X.env = (false, eval e X.env) :: starEach es X.env := by rfl) (hpl : (backTo pos (starEach es X.env)).any (·.1) = false := by rfl)
    (ht : eval (.Call (.Attribute o m apos) (e :: es) [] pos) X.env = (do
      let ov ← eval o X.env
      standAt apos.atName
      let (f, first) ← holding [ov] (getMethod ov m pl)
      callWith pos f first (backTo pos (starEach (e :: es) X.env)) (backToKw pos (keywordEach [] X.env))) := by rfl) :
    PE X (.Call (.Attribute o m apos) (e :: es) [] pos) (tMethS C m sp E ta t) := by
  refine ⟨fun pins s σ H Q I h => ?_⟩
  refine PySem.W.methodCall_KW (pl := pl) (thn (he.run pins s σ H _ I h) fun u s1 ⟨x, H1, I1, rx, a, dx, fs, ex, ea, l, q⟩ => ?_) ht
  subst ex
  obtain rfl : u = Value.ref a := rx
  refine getmeth_ok I1 ea c hm l ?_
  refine PySem.W.callWith_K (first := [.ref a]) (h₀ := X.base) I.ok.mod.kin hm.kp (thn (ha.run pos pins s1 σ H1 _ I1 q) fun us s2 ⟨vs, H2, I2, r, q2⟩ => ⟨I2.kIn, ?_⟩) hst hpl
  exact run_fnS (us := .ref a :: us) (vs := .ref a :: vs) F hr hb (hx σ) I2 (.cons rfl r) q2
theorem pe_meth0S {pl : Sem Bool} (he : PE X o ta) (c : Cls X.K C) (hm : Meth X.K C m f) (F : FnOk X.prog X.w X.K X.mg X.base CX k f fd ps sp) (hr : Room k X.A) (hb : Binds X.K fd ps []) (hx : ∀ σ, PassesAt CX X σ (E σ))
    (ht : eval (.Call (.Attribute o m apos) [] [] pos) X.env = (do
      let ov ← eval o X.env
      standAt apos.atName
      let (f, first) ← holding [ov] (getMethod ov m pl)
      callWith pos f first (backTo pos (starEach [] X.env)) (backToKw pos (keywordEach [] X.env))) := by rfl) :
    PE X (.Call (.Attribute o m apos) [] [] pos) (tMethS C m sp E ta tNil) := by
  refine ⟨fun pins s σ H Q I h => ?_⟩
  refine PySem.W.methodCall_KW (pl := pl) (thn (he.run pins s σ H _ I h) fun u s1 ⟨x, H1, I1, rx, a, dx, fs, ex, ea, l, q⟩ => ?_) ht
  subst ex
  obtain rfl : u = Value.ref a := rx
  refine getmeth_ok I1 ea c hm l ?_
  exact PySem.W.callWith_K0 (first := [.ref a]) I1.kIn hm.kp (run_fnS (us := [.ref a]) (vs := [.ref a]) F hr hb (hx σ) I1 (.cons rfl .nil) q)
theorem pe_call0S {x : Str} {p : Pos} (F : FnOk X.prog X.w X.K X.mg X.base CX k f fd ps sp) (hr : Room k X.A) (hg : Gl X x) (hm : X.mg x = some (.ref f)) (hk : PySem.W.keepIn X.K (.ref f) = true) (hb : Binds X.K fd ps []) (hx : ∀ σ, PassesAt CX X σ (E σ))
    (hdb : (x == ("__debug__" : Str)) = false := by decide) : PE X (.Call (.Name x p) [] [] pos) (tCallS sp E tNil) := by
  refine ⟨fun pins s σ H Q I h => ?_⟩
  refine wpAny_Call_Name_kw (ld_glob I hg hm ?_ hdb)
  exact PySem.W.callWith_K0 I.kIn hk (run_fnS (us := []) F hr hb (hx σ) I .nil h)
/-- X(), X an own exception class without own __init__ -/
theorem pmk_own0 {C : Addr} {bmB : List Value} {B newId initId : String} {x : Str} {p pos : Pos} (F : ExcBaseFacts B newId initId bmB) (q : PySem.W.excIn X.K C bmB newId = true) (gC : X.mg x = some (.ref C))
    (kC : PySem.W.keepIn X.K (.ref C) = true) (r : Raises X (.ref C)) (hg : Gl X x) (hdb : (x == ("__debug__" : Str)) = false := by decide) :
    PMk X (.Call (.Name x p) [] [] pos) (fun _ H Q => Q (.ref C) none H) := by
  intro pins s σ H Q I h
  refine wpAny_Call_Name_kw (ld_glob I hg gC ?_ hdb)
  refine PySem.W.callWith_K0 I.kIn kC ?_
  show wpAny _ _ (call (.ref C) []) _ _ _
  obtain ⟨bm, N, nm, qn, bs, hdct, sn, sub, ab, col, dd, k0, k1, k2, k3, k5, mN, hC, hN, hni, T⟩ := exc_obj I.kIn q
  refine wpAny_call_exc_subT F T hC hN hni (fun h' e hm => ?_) (Nat.zero_le _)
  exact mk_of I hm r h (I.hok.gone hm.new)
end
/-- an error of the class at B met by «except A» -/
theorem exm_two {K : PySem.W.Frag} {B A : Addr} {b : Bool} (h1 : PySem.W.subIn K (.ref A) (.type "BaseException") = some true) (h2 : PySem.W.isClsIn K A = true) (h3 : PySem.W.typeIn K (.ref A) = some (.type "type")) (h4 : PySem.W.subIn K (.ref B) (.ref A) = some b) :
    PySem.W.exmOne K (.ref B) (.ref A) = some b := by
  have e1 : (PySem.W.subIn K (.ref A) (.type "BaseException") == some true) = true := by rw [h1] <;> rfl
  have e2 : ((PySem.W.clsIn K A).isSome && PySem.W.typeIn K (.ref A) == some (.type "type")) = true := by
    have h2' : (PySem.W.clsIn K A).isSome = true := h2
    rw [h2', h3] <;> rfl
  show (if (PySem.W.subIn K (.ref A) (.type "BaseException") == some true) = true then (if ((PySem.W.clsIn K A).isSome && PySem.W.typeIn K (.ref A) == some (.type "type")) = true then PySem.W.subIn K (.ref B) (.ref A) else none) else none) = some b
  rw [if_pos e1, if_pos e2]
  exact h4
/-- a class of exceptions without own __init__, raised -/
structure Exc (K : PySem.W.Frag) (C : Addr) : Prop where
  x : PySem.W.excIn K C [.type "ValueError", .type "Exception", .type "BaseException", .type "object"] "ValueError.__new__" = true
  kp : PySem.W.keepIn K (.ref C) = true
  be : PySem.W.subIn K (.ref C) (.type "BaseException") = some true
  ty : PySem.W.typeIn K (.ref C) = some (.type "type")
/-! ### dicts with written keys -/
def rDGet : R2 := fun x y H Q => ∃ a v, x = .ref a ∧ DGet H a y (some v) ∧ Q v H
theorem tDGet_eq {td ty : TE} {σ : L2.St} {H : Hp} {Q : VK} : tDGet td ty σ H Q = td σ H fun x H1 => ty σ H1 fun y H2 => rDGet x y H2 Q := rfl
def rDPut : V → V → V → Hp → (Hp → Prop) → Prop := fun x y v H Q => ∃ a H4, x = .ref a ∧ DPut H a y v H4 ∧ Q H4
theorem sDPut_eq {td ty tv : TE} {D : Ends} {σ : L2.St} {H : Hp} : sDPut td ty tv D σ H = tv σ H fun v H1 => td σ H1 fun x H2 => ty σ H2 fun y H3 => rDPut x y v H3 fun H4 => D.nx σ H4 := rfl
theorem i_dget {H : Hp} {a : Addr} {kvs : List (Key × V)} {k : Str} {v : V} {Q : VK} (h : H a = some (.dK kvs)) (e : valV kvs (.inr k) = some v) (q : Q v H) : rDGet (.ref a) (.str k) H Q := ⟨a, v, rfl, by rw [← e]; exact DGet.k (k := .inr k) h, q⟩
theorem i_dput {H : Hp} {a : Addr} {kvs : List (Key × V)} {k : Str} {v : V} {Q : Hp → Prop} (h : H a = some (.dK kvs)) (hl : kvs.length < sizeLine) (q : Q (upd H a (.dK (putK kvs (.inr k) v)))) : rDPut (.ref a) (.str k) v H Q := ⟨a, _, rfl, DPut.k (k := .inr k) h hl, q⟩
/-! ### what is kept but for some objects -/
def Kp (X : List Addr) (H H' : Hp) : Prop := ∀ b o, b ∉ X → H b = some o → H' b = some o
theorem Kp.refl (X : List Addr) (H : Hp) : Kp X H H := fun _ _ _ e => e
theorem Kp.trans {X : List Addr} {H H1 H2 : Hp} (a : Kp X H H1) (b : Kp X H1 H2) : Kp X H H2 := fun c o n e => b c o n (a c o n e)
theorem Kp.mono {X Y : List Addr} {H H1 : Hp} (a : Kp X H H1) (h : ∀ b ∈ X, b ∈ Y) : Kp Y H H1 := fun c o n e => a c o (fun k => n (h c k)) e
theorem Kp.set {X : List Addr} {H : Hp} {a : Addr} {o : HO} (h : a ∈ X) : Kp X H (upd H a o) := fun b u n e => by
  rw [upd_ne (fun k => n (by rw [k]; exact h))]; exact e
theorem Kp.new {X : List Addr} {H : Hp} {a : Addr} {o : HO} (h : H a = none) : Kp X H (upd H a o) := fun b u n e => by
  rw [upd_ne (ne_of_none e h)]; exact e
theorem Kp.of {X : List Addr} {H H' : Hp} (s : Same H H') : Kp X H H' := fun b u _ e => s b u e
theorem Kp.same {X : List Addr} {H H' H0 : Hp} (k : Kp X H H') (s : Same H0 H) (n : ∀ a ∈ X, H0 a = none) : Same H0 H' := fun b o e => k b o (fun h => by rw [n b h] at e; cases e) (s b o e)
/-! ### fields -/
def rFld (K : PySem.W.Frag) (f : Str) : V → Hp → VK → Prop := fun x H1 Q => ∃ a C dx fs v, x = .ref a ∧ H1 a = some (.ins C dx fs) ∧ Cls K C ∧ NoAttr K C f ∧ fs.lookup f = some v ∧ Q v H1
theorem tFld_eq {K : PySem.W.Frag} {ta : TE} {f : Str} {σ : L2.St} {H : Hp} {Q : VK} : tFld K ta f σ H Q = ta σ H fun x H1 => rFld K f x H1 Q := rfl
def rFldS (K : PySem.W.Frag) (f : Str) : V → V → Hp → (Hp → Prop) → Prop := fun x y H2 Q => ∃ a C dx fs, x = .ref a ∧ H2 a = some (.ins C dx fs) ∧ Cls K C ∧ NoAttr K C f ∧ fs.length < 1000 ∧ Q (upd H2 a (.ins C dx (putF f y fs)))
theorem sFld_eq {K : PySem.W.Frag} {ta tv : TE} {f : Str} {D : Ends} {σ : L2.St} {H : Hp} : sFld K ta tv f D σ H = tv σ H fun y H1 => ta σ H1 fun x H2 => rFldS K f x y H2 fun H3 => D.nx σ H3 := rfl
theorem i_fld {K : PySem.W.Frag} {a C dx : Addr} {fs : List (Str × V)} {f : Str} {v : V} {H : Hp} {Q : VK} (c : Cls K C) (n : NoAttr K C f) (h : H a = some (.ins C dx fs)) (l : fs.lookup f = some v) (q : Q v H) : rFld K f (.ref a) H Q := ⟨a, C, dx, fs, v, rfl, h, c, n, l, q⟩
theorem i_fldS {K : PySem.W.Frag} {a C dx : Addr} {fs : List (Str × V)} {f : Str} {y : V} {H : Hp} {Q : Hp → Prop} (c : Cls K C) (n : NoAttr K C f) (h : H a = some (.ins C dx fs)) (l : fs.length < 1000) (q : Q (upd H a (.ins C dx (putF f y fs)))) : rFldS K f (.ref a) y H Q := ⟨a, C, dx, fs, rfl, h, c, n, l, q⟩
theorem i_rep {H : Hp} {l : Addr} {k : Int} {xs : List V} {Q : VK} (h : H l = some (.lst xs)) (h1 : -(2 ^ 63) ≤ k) (h2 : k < 2 ^ 63) (hz : xs.length * k.toNat ≤ sizeLine) (q : ∀ p, H p = none → Q (.ref p) (upd H p (.lst (List.replicate k.toNat xs).flatten))) : rRep (.ref l) (.int k) H Q := ⟨l, k, xs, rfl, rfl, h, h1, h2, hz, q⟩
theorem rep1 {n : Nat} {v : V} : (List.replicate n [v]).flatten = List.replicate n v := by
  induction n with
  | zero => rfl
  | succ n ih => rw [List.replicate_succ, List.flatten_cons, ih, List.replicate_succ]; rfl
/-- a call of a method -/
def rMeth (C : Addr) (m : Str) (sp : Sp) (E : XK) (t : (List V → Hp → Prop) → Hp → Prop) : V → Hp → VK → Prop := fun x H1 Q => ∃ a dx fs, x = .ref a ∧ H1 a = some (.ins C dx fs) ∧ fs.lookup m = none ∧ t (fun vs H2 => sp (x :: vs) H2 Q E) H1
theorem tMeth_eq {C : Addr} {m : Str} {sp : Sp} {dvs : List V} {E : XK} {ta : TE} {t : TA} {σ : L2.St} {H : Hp} {Q : VK} : tMeth C m sp dvs E ta t σ H Q = ta σ H fun x H1 => rMeth C m sp E (fun k H => t σ H fun vs H2 => k (vs ++ dvs) H2) x H1 Q := rfl
theorem tMethS_eq {C : Addr} {m : Str} {sp : Sp} {E : L2.St → XK} {ta : TE} {t : TA} {σ : L2.St} {H : Hp} {Q : VK} : tMethS C m sp E ta t σ H Q = ta σ H fun x H1 => rMeth C m sp (E σ) (fun k H => t σ H k) x H1 Q := rfl
theorem i_meth {C : Addr} {m : Str} {sp : Sp} {E : XK} {t : (List V → Hp → Prop) → Hp → Prop} {a dx : Addr} {fs : List (Str × V)} {H : Hp} {Q : VK} (h : H a = some (.ins C dx fs)) (l : fs.lookup m = none) (q : t (fun vs H2 => sp (.ref a :: vs) H2 Q E) H) : rMeth C m sp E t (.ref a) H Q := ⟨a, dx, fs, rfl, h, l, q⟩
def rFldA (K : PySem.W.Frag) (f : Str) (tv : (V → Hp → Prop) → Hp → Prop) (rd : V → V → Hp → VK → Prop) : V → Hp → (Hp → Prop) → Prop := fun x H1 Q => ∃ a C dx fs v, x = .ref a ∧ H1 a = some (.ins C dx fs) ∧ Cls K C ∧ NoAttr K C f ∧ fs.lookup f = some v ∧
  tv (fun y H2 => rd v y H2 fun z H3 => ∃ dx' fs', H3 a = some (.ins C dx' fs') ∧ fs'.length < 1000 ∧ Q (upd H3 a (.ins C dx' (putF f z fs')))) H1
theorem sFldAug_eq {K : PySem.W.Frag} {ta tv : TE} {rd : V → V → Hp → VK → Prop} {f : Str} {D : Ends} {σ : L2.St} {H : Hp} : sFldAug K ta tv rd f D σ H = ta σ H fun x H1 => rFldA K f (fun k H => tv σ H k) rd x H1 fun H3 => D.nx σ H3 := rfl
theorem i_fldA {K : PySem.W.Frag} {f : Str} {tv : (V → Hp → Prop) → Hp → Prop} {rd : V → V → Hp → VK → Prop} {a C dx : Addr} {fs : List (Str × V)} {v : V} {H : Hp} {Q : Hp → Prop} (c : Cls K C) (n : NoAttr K C f) (h : H a = some (.ins C dx fs)) (l : fs.lookup f = some v)
    (q : tv (fun y H2 => rd v y H2 fun z H3 => ∃ dx' fs', H3 a = some (.ins C dx' fs') ∧ fs'.length < 1000 ∧ Q (upd H3 a (.ins C dx' (putF f z fs')))) H) : rFldA K f tv rd (.ref a) H Q := ⟨a, C, dx, fs, v, rfl, h, c, n, l, q⟩
/-! ### == and != of data that is the same -/
theorem shaped_lay {d : PyData} (h : SeqAt.shaped d = true) : d.canLay0 = true := by
  unfold SeqAt.shaped at h
  simp only [Bool.and_eq_true] at h
  exact h.1
theorem i_neD {K : PySem.W.Frag} {x y : V} {d : PyData} {H : Hp} {Q : VK} (h1 : Dp K H x d) (h2 : Dp K H y d) (hs : SeqAt.shaped d = true) (q : Q (.bl false) H) : rNeD K x y H Q :=
  ⟨d, d, h1, h2, hs, hs, by rw [SeqAt.eqv_refl d (shaped_lay hs)]; exact q⟩
theorem i_eqD {K : PySem.W.Frag} {x y : V} {d : PyData} {H : Hp} {Q : VK} (h1 : Dp K H x d) (h2 : Dp K H y d) (hs : SeqAt.shaped d = true) (q : Q (.bl true) H) : rEqD K x y H Q :=
  ⟨d, d, h1, h2, hs, hs, by rw [SeqAt.eqv_refl d (shaped_lay hs)]; exact q⟩

/-! ### own exceptions with an __init__ that keeps its arguments -/
def rMkO (C : Addr) (sp : Sp) (dvs : List V) : List V → Hp → XK → Prop := fun vs H1 Q => vs.length ≤ 1000 ∧ ∀ a, H1 a = none → sp (.ref a :: (vs ++ dvs)) (upd H1 a (exo a C none))
  (fun v H2 => v = .non ∧ ∃ (d : Addr) (fs : List (Str × V)), H2 a = some (exo a C (some d)) ∧ H2 d = some (exd d fs) ∧ H1 d = none ∧ Q (.ref C) (some d) (upd (del H2 a) d (.xd fs))) (fun _ _ _ => False)
theorem tMkO_eq {C : Addr} {sp : Sp} {dvs : List V} {ta : TA} {σ : L2.St} {H : Hp} {Q : XK} : tMkO C sp dvs ta σ H Q = ta σ H fun vs H1 => rMkO C sp dvs vs H1 Q := rfl
def spX1 (C : Addr) (f : Str) : Sp := fun vs H Q _ => ∃ (a : Addr) (v : V), vs = [.ref a, v] ∧ H a = some (exo a C none) ∧ ∀ dx, H dx = none → dx ≠ a → Q .non (upd (upd H dx (exd dx [(f, v)])) a (exo a C (some dx)))
theorem i_mkO1 {C : Addr} {f : Str} {v : V} {H : Hp} {Q : XK} (q : ∀ dx, H dx = none → Q (.ref C) (some dx) (upd H dx (.xd [(f, v)]))) : rMkO C (spX1 C f) [] [v] H Q := by
  refine ⟨by show 1 ≤ 1000; decide, fun a ha => ⟨a, v, rfl, upd_same, fun dx hd hne => ⟨rfl, dx, [(f, v)], upd_same, by rw [upd_ne hne, upd_same], by rw [upd_ne hne] at hd; exact hd, ?_⟩⟩⟩
  have hd : H dx = none := by rw [upd_ne hne] at hd; exact hd
  have e : upd (del (upd (upd (upd H a (exo a C none)) dx (exd dx [(f, v)])) a (exo a C (some dx))) a) dx (.xd [(f, v)]) = upd H dx (.xd [(f, v)]) := by
    funext b
    by_cases hb : b = dx
    · subst hb; rw [upd_same, upd_same]
    · rw [upd_ne hb, upd_ne hb]
      by_cases hb2 : b = a
      · subst hb2; rw [del_same, ha]
      · rw [del_ne hb2, upd_ne hb2, upd_ne hb, upd_ne hb2]
  rw [e]
  exact q dx hd
def rOst (K : PySem.W.Frag) (f : Str) : V → V → Hp → (Hp → Prop) → Prop := fun x y H2 Q => ∃ a C : Addr, x = .ref a ∧ OexC K C ∧ PySem.W.findIn K (.ref C) f = some none ∧
  ((H2 a = some (exo a C none) ∧ ∀ dx, H2 dx = none → dx ≠ a → Q (upd (upd H2 dx (exd dx [(f, y)])) a (exo a C (some dx)))) ∨
    ∃ (dx : Addr) (fs : List (Str × V)), H2 a = some (exo a C (some dx)) ∧ H2 dx = some (exd dx fs) ∧ fs.length ≤ 900 ∧ Q (upd H2 dx (exd dx ((f, y) :: fs))))
theorem tOst_eq {K : PySem.W.Frag} {f : Str} {to te : TE} {D : Ends} {σ : L2.St} {H : Hp} : tOst K f to te D σ H = te σ H fun y H1 => to σ H1 fun x H2 => rOst K f x y H2 fun H3 => D.nx σ H3 := rfl
theorem i_ost {K : PySem.W.Frag} {C a : Addr} {f : Str} {y : V} {H : Hp} {Q : Hp → Prop} (T : OexC K C) (n : PySem.W.findIn K (.ref C) f = some none) (h : H a = some (exo a C none)) (q : ∀ dx, H dx = none → dx ≠ a → Q (upd (upd H dx (exd dx [(f, y)])) a (exo a C (some dx)))) : rOst K f (.ref a) y H Q := ⟨a, C, rfl, T, n, .inl ⟨h, q⟩⟩
theorem i_catchAs {K : PySem.W.Frag} {c cls : Value} {i : Nat} {ts : Addr → Value → Option Addr → TS} {Wout : WX} {D : Ends} {d : Option Addr} {σ : L2.St} {H : Hp} (h : PySem.W.exmOne K cls c = some true)
    (q : ∀ a, H a = none → ts a cls d { nx := fun σ' H' => D.nx (σ'.set i none) H', rt := D.rt, bk := fun σ' H' => D.bk (σ'.set i none) H', ct := fun σ' H' => D.ct (σ'.set i none) H' } (σ.set i (some (.ref a))) H) : wAs K c i ts Wout D cls d σ H := ⟨true, h, fun _ a n => q a n, fun z => nomatch z⟩
theorem i_catch {K : PySem.W.Frag} {c cls : Value} {ts : Addr → Value → Option Addr → TS} {Wout : WX} {D : Ends} {d : Option Addr} {σ : L2.St} {H : Hp} (h : PySem.W.exmOne K cls c = some true) (q : ∀ a, H a = none → ts a cls d D σ H) : wOnly K c ts Wout D cls d σ H := ⟨true, h, fun _ a n => q a n, fun z => nomatch z⟩
theorem i_ost2 {K : PySem.W.Frag} {C a dx : Addr} {f : Str} {y : V} {fs : List (Str × V)} {H : Hp} {Q : Hp → Prop} (T : OexC K C) (n : PySem.W.findIn K (.ref C) f = some none) (h : H a = some (exo a C (some dx))) (hd : H dx = some (exd dx fs)) (hl : fs.length ≤ 900) (q : Q (upd H dx (exd dx ((f, y) :: fs)))) : rOst K f (.ref a) y H Q := ⟨a, C, rfl, T, n, .inr ⟨dx, fs, h, hd, hl, q⟩⟩
/-- told.f -/
def rXf (a : Addr) (cls : Value) (d : Option Addr) (C : Addr) (f : Str) : V → Hp → VK → Prop := fun x H1 Q => x = .ref a ∧ cls = .ref C ∧ ∃ (dd : Addr) (fs : List (Str × V)) (v : V), d = some dd ∧ H1 dd = some (.xd fs) ∧ fs.lookup f = some v ∧ Q v H1
theorem tXf_eq {a : Addr} {cls : Value} {d : Option Addr} {C : Addr} {f : Str} {te : TE} {σ : L2.St} {H : Hp} {Q : VK} : tXf a cls d C f te σ H Q = te σ H fun x H1 => rXf a cls d C f x H1 Q := rfl
theorem i_xf {a dd C : Addr} {f : Str} {fs : List (Str × V)} {v : V} {H : Hp} {Q : VK} (h : H dd = some (.xd fs)) (l : fs.lookup f = some v) (q : Q v H) : rXf a (.ref C) (some dd) C f (.ref a) H Q := ⟨rfl, rfl, dd, fs, v, rfl, h, l, q⟩
theorem iRevR_eq {tr : L2.St → Hp → (Int → Int → Hp → Prop) → Prop} {σ : L2.St} {H : Hp} {R : It → Hp → Prop} : iRevR tr σ H R = tr σ H fun a b H1 => -(2 ^ 62) ≤ a ∧ a < 2 ^ 62 ∧ -(2 ^ 62) ≤ b ∧ b < 2 ^ 62 ∧ R (Itc (a + (((b - a).toNat : Nat) : Int) - 1) (-1) (b - a).toNat) H1 := rfl
theorem tRg1_eq {ta : TE} {σ : L2.St} {H : Hp} {Q : Int → Int → Hp → Prop} : tRg1 ta σ H Q = ta σ H fun x H1 => ∃ n, x = .int n ∧ Q 0 n H1 := rfl
theorem tRg2_eq {ta tb : TE} {σ : L2.St} {H : Hp} {Q : Int → Int → Hp → Prop} : tRg2 ta tb σ H Q = ta σ H fun x H1 => tb σ H1 fun y H2 => ∃ i j, x = .int i ∧ y = .int j ∧ Q i j H2 := rfl
theorem tLstRg_eq {te : L2.St → Hp → (Int → Int → Hp → Prop) → Prop} {σ : L2.St} {H : Hp} {Q : VK} : tLstRg te σ H Q = te σ H fun a b H1 => RgOk a b ∧ ∀ q, H1 q = none → Q (.ref q) (upd H1 q (.lst (rgV a b))) := rfl
def rRevL (K : PySem.W.Frag) : V → Hp → VK → Prop := fun x H1 Q => ∃ a xs, x = .ref a ∧ SqL K H1 a xs ∧ ∀ p, H1 p = none → Q (.ref p) (upd H1 p (.lst xs.reverse))
theorem tRevL_eq {K : PySem.W.Frag} {te : TE} {σ : L2.St} {H : Hp} {Q : VK} : tRevL K te σ H Q = te σ H fun x H1 => rRevL K x H1 Q := rfl
theorem i_revL {K : PySem.W.Frag} {H : Hp} {Q : VK} {a : Addr} {xs : List V} (h : SqL K H a xs) (q : ∀ p, H p = none → Q (.ref p) (upd H p (.lst xs.reverse))) : rRevL K (.ref a) H Q := ⟨a, xs, rfl, h, q⟩
theorem room65 {k : Nat} {A : Around} (r : Room k A) : A.units + 65 < cLine := by have := r.un; omega
theorem i_forPost {J : It} {g : TG} {tb : TS} {D : Ends} {σ : L2.St} {H : Hp} (Post : L2.St → Hp → Prop) (h1 : (∀ σ' H', Post σ' H' → D.nx σ' H') → rForJ J g tb D σ H) (h2 : ∀ σ' H', Post σ' H' → D.nx σ' H') : rForJ J g tb D σ H := h1 h2

/-! ### calls within an except suite -/
theorem pmkN_own0 {X : Cx} {C : Addr} {bmB : List Value} {B newId initId : String} {x : Str} {p pos : Pos} (F : ExcBaseFacts B newId initId bmB) (q : PySem.W.excIn X.K C bmB newId = true) (gC : X.mg x = some (.ref C))
    (kC : PySem.W.keepIn X.K (.ref C) = true) (r : Raises X (.ref C)) (hg : Gl X x) (hdb : (x == ("__debug__" : Str)) = false := by decide) :
    L2N.PMk X (.Call (.Name x p) [] [] pos) (fun _ H Q => Q (.ref C) none H) := by
  intro pins s σ H Q I h
  refine wpAny_Call_Name_kw (ld_glob I hg gC ?_ hdb)
  refine PySem.W.callWith_K0 I.kIn kC ?_
  show wpAny _ _ (call (.ref C) []) _ _ _
  obtain ⟨_, _, _, _, _, _, _, _, _, _, _, _, _, _, _, _, mN, hC, hN, hni, T⟩ := exc_obj I.kIn q
  exact wpAny_call_exc_subT F T hC hN hni (fun h' e hm => L2N.mk_of I hm r h (I.hok.gone hm.new)) (Nat.zero_le _)
theorem okXN {P : Program} {w : World} {K : PySem.W.Frag} {mg : Str → Option Value} {base : Heap} {x qual : Str} {st : Stmt} {f : Addr} {fd : FuncData} {N ps : List Str} {k : Nat} {sp : Sp} (F : Fun K x qual st f fd) (S : FnScope N ps (defScope st))
    (len : ∀ vs H Q E, sp vs H Q E → vs.length = ps.length)
    (hbody : ∀ (cdv : Value) (A : Around) (outer : List Env) (s : Shared) (H : Hp) (vs : List V) (Q : VK) (E : XK), Room k (A.deeper (envOfC qual (defScope st) s.heap.objs.size f cdv)) → sp vs H Q E →
      ∃ t, PSs (cxOf (L2N.CX P w) P w K mg base N qual (defScope st) f cdv A outer s H E) (defBody st) t ∧ t { nx := fun _ H' => Q .non H', rt := Q } (start N vs) H) : FnOk P w K mg base (L2N.CX P w) (k + 1) f fd ps sp := by
  obtain ⟨_, _, _, _, _, _, cdv, _, _, rfl, lk, hcd⟩ := F.ex
  exact fn_of lk hcd S len (hbody cdv)
theorem okH {P : Program} {w : World} {K : PySem.W.Frag} {mg : Str → Option Value} {base : Heap} {CX : CXT} {x qual : Str} {st : Stmt} {f : Addr} {fd : FuncData} {N ps : List Str} {k : Nat} {sp : Sp} (F : Fun K x qual st f fd) (S : FnScope N ps (defScope st))
    (len : ∀ vs H Q E, sp vs H Q E → vs.length = ps.length)
    (hbody : ∀ (cdv : Value) (A : Around) (outer : List Env) (s : Shared) (H : Hp) (vs : List V) (Q : VK) (E : XK) (p : Addr × Obj), L2H.Hot1 A p → L2H.RoomH k (A.deeper (envOfC qual (defScope st) s.heap.objs.size f cdv)) → sp vs H Q E →
      ∃ t, PSs (L2H.cxH CX P w K mg base N qual (defScope st) f cdv A outer s H E p) (defBody st) t ∧ t { nx := fun _ H' => Q .non H', rt := Q } (start N vs) H) : L2H.FnH P w K mg base CX (k + 1) f fd ps sp := by
  obtain ⟨_, _, _, _, _, _, cdv, _, _, rfl, lk, hcd⟩ := F.ex
  exact L2H.fn_ofH lk hcd S len (hbody cdv)
theorem passNL {X : Cx} : Passes (L2N.CX X.prog X.w) X L2.E0 := fun _ _ _ _ _ _ _ h => by
  obtain ⟨_, _, _, _, _, _, _, _, _, _, _, _, z⟩ := h
  exact z.elim
theorem passH0 {X : Cx} (σ : L2.St) : PassesAt CX0 X σ L2.E0 := fun _ _ _ _ _ _ h => h.elim
section
variable {X : Cx} {CX : CXT} {k : Nat} {f C : Addr} {fd : FuncData} {ps : List Str} {sp : Sp} {E : L2.St → XK} {m : Str} {pos apos : Pos} {o : Expr} {ta : TE}
theorem pe_methH0 {pl : Sem Bool} (he : PE X o ta) (c : Cls X.K C) (hm : Meth X.K C m f) (F : L2H.FnH X.prog X.w X.K X.mg X.base CX k f fd ps sp) (hr : L2H.RoomH k X.A) (hc : L2H.HotC X) (hb : Binds X.K fd ps []) (hx : ∀ σ, PassesAt CX X σ (E σ))
    (ht : eval (.Call (.Attribute o m apos) [] [] pos) X.env = (do
      let ov ← eval o X.env
      standAt apos.atName
      let (f, first) ← holding [ov] (getMethod ov m pl)
      callWith pos f first (backTo pos (starEach [] X.env)) (backToKw pos (keywordEach [] X.env))) := by rfl) :
    PE X (.Call (.Attribute o m apos) [] [] pos) (L2H.tMethH C m sp E ta tNil) := by
  refine ⟨fun pins s σ H Q I h => PySem.W.methodCall_KW (pl := pl) (thn (he.run pins s σ H _ I h) fun u s1 hu => ?_) ht⟩
  obtain ⟨_, H1, I1, rx, a, dx, fs, rfl, ea, l, q⟩ := hu
  obtain rfl : u = Value.ref a := rx
  exact getmeth_ok I1 ea c hm l (PySem.W.callWith_K0 (first := [.ref a]) I1.kIn hm.kp (L2H.run_fnH (us := [.ref a]) (vs := [.ref a]) F hr hc hb (hx σ) I1 (.cons rfl .nil) q))
end
theorem tMethH_eq {C : Addr} {m : Str} {sp : Sp} {E : L2.St → XK} {ta : TE} {t : TA} {σ : L2.St} {H : Hp} {Q : VK} : L2H.tMethH C m sp E ta t σ H Q = ta σ H fun x H1 => rMeth C m sp (E σ) (fun k H => t σ H k) x H1 Q := rfl

def spI1 (C : Addr) (f : Str) : Sp := fun vs H Q _ => ∃ (a : Addr) (v : V), vs = [.ref a, v] ∧ H a = some (exo a C none) ∧ ∀ dx H', H dx = none → dx ≠ a → H' a = some (exo a C (some dx)) → H' dx = some (exd dx [(f, v)]) → Kp [a] H H' → Q .non H'
def spI2 (C : Addr) (f g : Str) : Sp := fun vs H Q _ => ∃ (a : Addr) (v u : V), vs = [.ref a, v, u] ∧ H a = some (exo a C none) ∧ ∀ dx H', H dx = none → dx ≠ a → H' a = some (exo a C (some dx)) → H' dx = some (exd dx [(g, u), (f, v)]) → Kp [a] H H' → Q .non H'
theorem kp_exn {H : Hp} {a dx : Addr} {o u : HO} (n : H dx = none) (ne : dx ≠ a) : Kp [a] H (upd (upd H dx o) a u) := fun b x hb e => by
  rw [upd_ne (by simpa using hb), upd_ne (ne_of_none e n)]; exact e
theorem i_mkOI2 {C : Addr} {f g : Str} {v u : V} {H : Hp} {Q : XK} (q : ∀ d H', Same H H' → H' d = some (.xd [(g, u), (f, v)]) → Q (.ref C) (some d) H') : rMkO C (spI2 C f g) [] [v, u] H Q := by
  refine ⟨by show 2 ≤ 1000; decide, fun a ha => ⟨a, v, u, rfl, upd_same, fun dx H' hd ne h1 h2 kp => ⟨rfl, dx, [(g, u), (f, v)], h1, h2, by rw [upd_ne ne] at hd; exact hd, q dx _ (fun b o e => ?_) upd_same⟩⟩⟩
  have hd0 : H dx = none := by rw [upd_ne ne] at hd; exact hd
  rw [upd_ne (ne_of_none e hd0), del_ne (ne_of_none e ha)]
  exact kp b o (by simp [ne_of_none e ha]) (by rw [upd_ne (ne_of_none e ha)]; exact e)

/-! ### while -/
def rWhT (Pv : Nat → L2.St → Hp → Prop) (m : Nat) (tb : TS) (D : Ends) (σ : L2.St) (H : Hp) : Prop := ∃ N : L2.St → Hp → Prop, (∀ σ' H', N σ' H' → ∃ m', m' < m ∧ Pv m' σ' H') ∧ tb { D with nx := N, ct := N, bk := D.nx } σ H
theorem i_while {c : TT} {tb : TS} {D : Ends} {σ : L2.St} {H : Hp} (Pv : Nat → L2.St → Hp → Prop) (m0 : Nat) (h0 : Pv m0 σ H) (hs : ∀ m σ H, Pv m σ H → c σ H fun b H1 => if b = true then rWhT Pv m tb D σ H1 else D.nx σ H1) : tWhile c tb D σ H := ⟨Pv, ⟨m0, h0⟩, hs⟩
theorem i_whT {Pv : Nat → L2.St → Hp → Prop} {m : Nat} {tb : TS} {D : Ends} {σ : L2.St} {H : Hp} (h : tb { D with nx := fun σ' H' => ∃ m', m' < m ∧ Pv m' σ' H', ct := fun σ' H' => ∃ m', m' < m ∧ Pv m' σ' H', bk := D.nx } σ H) : rWhT Pv m tb D σ H := ⟨_, fun _ _ h => h, h⟩

/-! ### tuples as targets -/
theorem i_gTup2 {K : PySem.W.Frag} {n i j : Nat} {a : Addr} {x y : V} {σ : L2.St} {H : Hp} {Q : L2.St → Hp → Prop} (hn : n = 2) (h : SqT K H a [x, y]) (q : Q ((σ.set i (some x)).set j (some y)) H) : gTup K n (gCons (gName i) (gCons (gName j) gNil)) (.ref a) σ H Q :=
  ⟨a, [x, y], rfl, h, hn.symm, x, [y], rfl, y, [], rfl, rfl, q⟩
theorem i_gTup3 {K : PySem.W.Frag} {n i j k : Nat} {a : Addr} {x y z : V} {σ : L2.St} {H : Hp} {Q : L2.St → Hp → Prop} (hn : n = 3) (h : SqT K H a [x, y, z]) (q : Q (((σ.set i (some x)).set j (some y)).set k (some z)) H) : gTup K n (gCons (gName i) (gCons (gName j) (gCons (gName k) gNil))) (.ref a) σ H Q :=
  ⟨a, [x, y, z], rfl, h, hn.symm, x, [y, z], rfl, y, [z], rfl, z, [], rfl, rfl, q⟩
theorem log_small {j : Int} (h : j.natAbs < 2 ^ 200) : j.natAbs.log2 < 1920 := by
  by_cases h0 : j.natAbs = 0
  · rw [h0]; decide
  · have := (Nat.log2_lt h0).mpr h
    omega
theorem i_and {c d A R : Prop} [Decidable c] [Decidable d] (h : c → d → A) (r : R) : if c then (if d then A else R) else R := ite2 (fun hc => ite2 (fun hd => h hc hd) (fun _ => r)) (fun _ => r)

/-! ### s * n -/
def rMulS : R2 := fun x y H Q => ∃ (z : Str) (n : Int), x = .str z ∧ y = .int n ∧ MulOk z n ∧ Q (.str (Txt.mul z n)) H
theorem op_mul_str {X : Cx} : OpR X (binaryOp .Mult) rMulS := by
  intro pins s σ H x y v u Q I rx ry h
  obtain ⟨z, n, rfl, rfl, hok, q⟩ := h
  obtain ⟨t, rfl⟩ := rx
  obtain ⟨t', rfl⟩ := ry
  exact SB.mul hok fun _ k => ⟨.str (Txt.mul z n), H, I.tok k, ⟨_, rfl⟩, q⟩
theorem mul_ok {z : Str} {n : Int} (hz : z.length ≤ 2) (h0 : 0 ≤ n) (h1 : n ≤ 50000) : MulOk z n := by
  refine ⟨by rw [Bool.or_eq_false_iff]; exact ⟨decide_eq_false (by omega), decide_eq_false (by omega)⟩, fun h _ => ?_, fun h _ => ?_⟩
  · have : (z.length : Int) ≤ (2 ^ 63 - 1) / n := by
      refine (Int.le_ediv_iff_mul_le (by omega)).mpr ?_
      have h3 : (z.length : Int) * n ≤ 2 * n := Int.mul_le_mul_of_nonneg_right (by omega) h0
      omega
    omega
  · have h3 : z.length * n.toNat ≤ 2 * n.toNat := Nat.mul_le_mul_right _ hz
    have h4 : z.length * n.toNat ≤ 100000 := by omega
    have h5 := line5 h4
    show decide (z.length * n.toNat > sizeLine) = false
    exact decide_eq_false (by omega)
theorem foldl_reps (c : Array Nat) : ∀ (k : Nat) (acc : Array Nat), ((List.replicate k c).foldl (· ++ ·) acc).toList = acc.toList ++ (List.replicate k c.toList).flatten
  | 0, acc => by simp
  | k + 1, acc => by
    rw [List.replicate_succ, List.foldl_cons, foldl_reps c k, Array.toList_append, List.replicate_succ, List.flatten_cons, List.append_assoc]
theorem mul_cl {z : Str} {n : Int} (h0 : 0 ≤ n) : (Txt.mul z n).cps.toList = (List.replicate n.toNat z.cps.toList).flatten := by
  unfold Txt.mul
  by_cases h1 : n < 1
  · obtain rfl : n = 0 := by omega
    rfl
  · rw [if_neg h1]
    by_cases h2 : (n == 1 || z.length == 0) = true
    · rw [if_pos h2]
      rw [Bool.or_eq_true, beq_iff_eq, beq_iff_eq] at h2
      rcases h2 with rfl | h2
      · show _ = (List.replicate 1 _).flatten
        simp
      · have : z.cps.toList = [] := List.length_eq_zero_iff.mp (by rw [cl_length]; exact h2)
        rw [this]
        simp
    · rw [if_neg h2]
      show ((List.replicate n.toNat z.cps).foldl (· ++ ·) #[]).toList = _
      rw [foldl_reps]; rfl
theorem mul_one {c : Nat} {n : Int} (h0 : 0 ≤ n) : (Txt.mul ⟨#[c]⟩ n).cps.toList = List.replicate n.toNat c := by
  rw [mul_cl h0]
  show (List.replicate n.toNat [c]).flatten = _
  generalize n.toNat = k
  induction k with
  | zero => rfl
  | succ k ih => rw [List.replicate_succ, List.flatten_cons, ih, List.replicate_succ]; rfl

/-! ### comprehensions whose step may raise -/
section
variable {X : Cx} {pins : List (Addr × Obj)} {σ : L2.St} {H : Hp} {s : Shared}
theorem ok_xe (xe : Value → Shared → Prop) (ok : X.Ok) : Cx.Ok { X with xe := xe } :=
  ⟨ok.mod, ok.kind, ok.glob, ok.blt, ok.above, ok.inj, ok.has, ok.cab, ok.hd, ok.frames, ok.stk, ok.exf, ok.bs, ok.bsz, ok.noex, ok.exfs, ok.funs, ok.frf⟩
theorem inv_xe (xe : Value → Shared → Prop) (I : Inv X pins σ H s) : Inv { X with xe := xe } pins σ H s :=
  ⟨ok_xe xe I.ok, I.os, I.bare, I.base, I.loc, I.cell, I.free, I.freeC, I.pin, I.hok, I.len⟩
theorem ok_xe' {xe : Value → Shared → Prop} (ok : Cx.Ok { X with xe := xe }) : X.Ok :=
  ⟨ok.mod, ok.kind, ok.glob, ok.blt, ok.above, ok.inj, ok.has, ok.cab, ok.hd, ok.frames, ok.stk, ok.exf, ok.bs, ok.bsz, ok.noex, ok.exfs, ok.funs, ok.frf⟩
theorem inv_xe' {xe : Value → Shared → Prop} (I : Inv { X with xe := xe } pins σ H s) : Inv X pins σ H s :=
  ⟨ok_xe' I.ok, I.os, I.bare, I.base, I.loc, I.cell, I.free, I.freeC, I.pin, I.hok, I.len⟩
theorem note_same {x : Value} {env ce : Env} (h : ce.frame = env.frame) : noteFrame x ce = noteFrame x env := by
  unfold noteFrame PySem.frameOf
  rw [h]
/-- what a call that raised leaves, in the def's own terms -/
theorem call_open {E : XK} (I : Inv X pins σ H s) {u : Value} {s' : Shared} (c : CX X.prog X.w X.stack H s E u s') : ∃ (a : Addr) (B : Heap) (H' : Hp) (cls : Value) (d : Option Addr) (G : Heap), u = .ref a ∧
    Inv X pins σ H' { s with heap := G, gens := s'.gens, drawn := s'.drawn, toks := s'.toks } ∧ (∀ b o, G.get? b = some o → b ∉ frs X.stack → B.get? b = some o) ∧ (∀ b o, G.get? b = some o → s'.heap.get? b = some o) ∧
    HandSPX.FlyingZ B X.stack a (Zc cls d) s'.heap ∧ UB (frs X.stack) H H' s.heap B s'.heap ∧ H' a = none ∧ s'.os = s.os ∧ AllBare s'.gens ∧ E cls d H' := by
  obtain ⟨a, B, H', cls, d, hu, fl, hok, ub, na, os, ag, hE⟩ := c
  obtain ⟨G, g1, g2⟩ := restrict s'.heap fun b => (B.get? b).isSome || decide (b ∈ frs X.stack)
  have st : B.StaysIn s'.heap := fl.1
  have inB : ∀ b o, B.get? b = some o → G.get? b = some o := fun b o e => (g1 b (by rw [e]; rfl)).trans (st b o e)
  have inF : ∀ b, b ∈ frs X.stack → G.get? b = s'.heap.get? b := fun b hb => g1 b (by rw [decide_eq_true hb, Bool.or_true])
  have out : ∀ b o, G.get? b = some o → s'.heap.get? b = some o ∧ ((B.get? b).isSome = true ∨ b ∈ frs X.stack) := fun b o e => by
    cases q : ((B.get? b).isSome || decide (b ∈ frs X.stack)) with
    | false => rw [g2 b q] at e; cases e
    | true =>
      rw [g1 b q] at e
      rw [Bool.or_eq_true, decide_eq_true_eq] at q
      exact ⟨e, q⟩
  refine ⟨a, B, H', cls, d, G, hu, ?_, fun b o e hb => ?_, fun b o e => (out b o e).1, fl, ub, na, os, ag, hE⟩
  · refine I.call (ch := []) ⟨fun b o e n hb _ => inB b o (ub.keep b o e n hb), fun b o e n hb _ => ?_, fun b o e n _ => ub.free b o e n, fun b o e _ => ?_, ub.tups, ub.frzs, ub.tbls⟩ (hok.kept inB) ag (fun _ z => nomatch z)
    · obtain ⟨sl, q⟩ := ub.slot b o e hb
      exact ⟨sl, (inF b hb).trans q⟩
    · by_cases hb : b ∈ frs X.stack
      · obtain ⟨sl, q⟩ := ub.slot b o e hb
        exact ⟨_, (inF b hb).trans q⟩
      · obtain ⟨o', q⟩ := ub.there b o e hb
        exact ⟨o', inB b o' q⟩
  · obtain ⟨e', h⟩ := out b o e
    rcases h with h | h
    · obtain ⟨o', q⟩ := Option.isSome_iff_exists.mp h
      have z := st b o' q
      rw [e'] at z; cases z
      exact q
    · exact absurd h hb
theorem frames_but {B B' h h' : Heap} {C : Addr} (hB : ∀ b, B.get? b = none → B'.get? b = none) (hk : ∀ b, b ≠ C → h'.get? b = h.get? b) : ∀ {l : List Env}, C ∉ frs l → h.FunFrames B l → h'.FunFrames B' l
  | [], _, _ => trivial
  | env :: l, hC, ⟨hm, ⟨L, o, hf, hn, ho, hd⟩, hr⟩ => by
    have hL : L ≠ C := fun e => hC (List.mem_filterMap.mpr ⟨env, List.mem_cons_self, by rw [hf, e]⟩)
    exact ⟨hm, ⟨L, o, hf, hB L hn, (hk L hL).trans ho, hd⟩, frames_but hB hk (fun e => hC (by
      obtain ⟨x, hx, q⟩ := List.mem_filterMap.mp e
      exact List.mem_filterMap.mpr ⟨x, List.mem_cons_of_mem _ hx, q⟩)) hr⟩
/-- what a comprehension's end is to be -/
def cpost (M : Model) (A : Around) (E : Value → Shared → Prop) (Q : Value → Shared → Prop) (acc : Value) (ce : Env) : Result → Shared → Prop
  | .ok _, s' => ∃ m, s'.heap.Ns ce.locals m ∧ ∀ h', Heap.SameBut ce.locals s'.heap h' → Q acc { s' with heap := h' }
  | .error x, s' => ∃ m, s'.heap.Ns ce.locals m ∧ ∀ h', Heap.SameBut ce.locals s'.heap h' → wpAny M A (PySem.passOn "comprehension.variables-let-go" x ce : Sem Value) (fun _ _ => False) E { s' with heap := h' }
theorem lcx_err {W : WX} {E1 : XK} (hs : X.stack = X.env :: X.outer) (hf : X.env.frame = some X.env.locals) (tk : Takes X W) (hW : ∀ cls d σ H, E1 cls d H → W cls d σ H) {ce : Env} (hce : ce.frame = X.env.frame) (I : Inv X pins σ H s)
    (hn : ∃ m, s.heap.Ns ce.locals m) (hC : ∀ H', H' ce.locals = none → FpOk X pins H' ce.locals) (h0 : H ce.locals = none) {Qf : Value → Shared → Prop} {acc u : Value} {s' : Shared} (c : CX X.prog X.w X.stack H s E1 u s') :
    notedBy (model X.prog X.w) X.A ce (fun e s' => cpost (model X.prog X.w) X.A X.xe Qf acc ce (.error e) s') u s' := by
  obtain ⟨a, B, H', cls, d, G, hu, J, nb, kG, fl, ub, na, os, ag, e1⟩ := call_open I c
  subst hu
  have hfr : X.A.frames = some (X.env :: X.outer) := by rw [I.ok.frames, hs]
  have f0 := hC H h0
  have nfs : ce.locals ∉ frs X.stack := fun hm => by
    rcases List.mem_cons.mp (I.stkSub _ hm) with z | z
    · exact f0.2.1 z
    · exact f0.2.2.1 z
  show wpAny _ _ (noteFrame (.ref a) ce) _ _ _
  rw [note_same hce]
  have fl' := fl
  rw [hs] at fl'
  refine HandSPX.looks_onZ Zc.steady hfr hf fl' fun h1 hh up1 => ?_
  rw [← hs] at hh
  obtain ⟨m, o, es, ep, ho, hd, r⟩ := hn
  have hB : B.get? ce.locals = some o := ub.keep _ o ho h0 nfs
  have nfd : ∀ vs, o.data ≠ .fields vs := fun vs q => by rw [hd] at q; cases q
  obtain ⟨sl, hC1⟩ := up1 _ o (fl.1 _ _ hB) nfd
  have h0' : H' ce.locals = none := ub.free _ o ho h0
  have f1 := hC H' h0'
  refine ⟨m, ⟨_, es, ep, hC1, hd, r⟩, fun h2 sb => ?_⟩
  obtain ⟨b1, b2, b3, oe, vs, T, oT, ts, he, hz, hde, hv1, hnT, hTe, hT, hdT, h3⟩ := hh
  have neA : a ≠ ce.locals := fun z => by rw [z, hC1] at he; cases he; exact nfd _ hde
  have neT : T ≠ ce.locals := fun z => by rw [z, hC1] at hT; cases hT; exact nfd _ hdT
  have hid : ∀ b, B.get? b = none → (PySem.W.hideAll B [ce.locals]).get? b = none := fun b hb => by
    cases q : (PySem.W.hideAll B [ce.locals]).get? b with
    | none => rfl
    | some o' => have z := PySem.W.of_hideAll _ q; rw [hb] at z; cases z
  have neC : ∀ {h : Heap} {b o'}, (PySem.W.hideAll h [ce.locals]).get? b = some o' → b ≠ ce.locals := fun {h b o'} q z => by
    rw [z, PySem.W.hideAll_none [ce.locals] (by simp)] at q; cases q
  have st2 : (PySem.W.hideAll B [ce.locals]).StaysIn h2 := fun b o' e => (sb.2 b (neC e)).trans (b1 b o' (PySem.W.of_hideAll _ e))
  have tr2 : HandSPX.TracedZ h2 (PySem.W.hideAll B [ce.locals]) a (Zc cls d) (rawInt X.env.locals) := ⟨oe, vs, T, oT, ts, (sb.2 a neA).trans he, hz, hde, hv1, hid _ hnT, hTe, (sb.2 T neT).trans hT, hdT, h3⟩
  have ff2 : h2.FunFrames (PySem.W.hideAll B [ce.locals]) X.stack := frames_but hid sb.2 nfs b3
  show wpAny _ _ (PySem.passOn _ (.ref a) ce : Sem Value) _ _ _
  unfold PySem.passOn
  refine wpAny_bind (wpAny_field (s := { s' with heap := h2 }) ((sb.2 a neA).trans he) hde hv1 ?_)
  rw [if_neg (by simp)]
  try refine wpAny_bind (wpAny_pure ?_)
  refine wpAny_bind (HandSPX.setFlight_anyZ (fr := ce.frame) st2 ff2 tr2 fun h3 k1 k2 k3 k4 => ?_)
  refine wpAny_throw (tk _ _ ⟨a, PySem.W.hideAll B [ce.locals], _, pins, σ, H', cls, d, rfl, J.turned (h' := PySem.W.hideAll G [ce.locals]) (t' := s'.toks) (it := ce.locals) (fun b o' hb e => PySem.W.hideAll_get _ e (by simpa using hb)) h0' f1.2.1 f1.2.2.2.1 f1.2.2.2.2.1 f1.2.2.2.2.2,
    fun b o' e hb => PySem.W.hideAll_get _ (nb b o' (PySem.W.of_hideAll _ e) hb) (by simpa using neC e), fun b o' e hnf => ?_, .inr (.inr ⟨k1, hid _ b2, k2, ?_⟩), na, os, ag, hW _ _ _ _ e1⟩)
  · obtain ⟨s1, e2⟩ := up1 b o' (kG b o' (PySem.W.of_hideAll _ e)) hnf
    exact k4 b _ ((sb.2 b (neC e)).trans e2) hnf |>.elim fun s2 e3 => ⟨s2, e3⟩
  · rw [hce, hf] at k3
    exact k3
end
/-- a comprehension, its end told with the environment of its block -/
theorem comp_run {M : Model} {A : Around} {E : Value → Shared → Prop} {s : Shared} {env : Env} {e : Expr} {scope : Scope} {pos : Pos} {newAcc first : Sem Value} {g : Comprehension} {gs : List Comprehension} {cl : List (PySem.Str × Addr)} {Q : Value → Shared → Prop}
    (hcl : clausesOf e = g :: gs) (hs : ∀ x, foldedSetIterable g.iter env x = pure x) (hclos : closureFor scope env = pure cl) (hkind : scope.kind = .function) (hnames : ∀ x ∈ scope.names, x.2 = .local → scope.names.lookup x.1 = some .local)
    (h : wpAny M A first (fun x s₁ => wpAny M A (pyIter x) (fun it s₂ => wpAny M A newAcc (fun acc s₃ => wpAny M A (newFunctionEnv scope env.globals cl [] env.qual none .none (some env)) (fun cenv s₄ =>
      codeAny M A (.compStart e 0 it acc { cenv with scope := relabel scope env }) (cpost M A E Q acc { cenv with scope := relabel scope env }) s₄) E s₃) E s₂) E s₁) E s) :
    wpAny M A (comprehension e scope env pos newAcc false first none) Q E s := by
  unfold comprehension
  rw [hclos, hcl]
  refine wpAny_bind (wpAny_mono h (fun x s₁ h₁ => wpAny_bind (wpAny_standAt (wpAny_bind (wpAny_of_eq (hs x) (wpAny_bind (wpAny_holding (wpAny_mono h₁ (fun it s₂ h₂ =>
    wpAny_standIf (wpAny_bind (wpAny_mono h₂ (fun acc s₃ h₃ => wpAny_bind (wpAny_pure (wpAny_bind (wpAny_mono h₃ (fun cenv s₄ h₄ => ?_) fun _ _ y => y)))) fun _ _ y => y))) fun _ _ y => y))))))) fun _ _ y => y)
  dsimp only
  have own : ∀ x ∈ (scope.names.filter fun x => (x.2 == .local || x.2 == .cell) && x.1 != (".0" : PySem.Str)).reverse, x.2 = .local → Env.kindOf { cenv with scope := relabel scope env } x.1 = some .local := fun x hx hl =>
    lookup_relabel_local (hnames x (List.mem_filter.mp (List.mem_reverse.mp hx)).1 hl)
  refine wpAny_holding (wpAny_bind (wpAny_attempt (wpAny_holding (wpAny_run (codeAny_mono h₄ fun r s' hr => ?_)))))
  cases r with
  | ok f =>
    obtain ⟨m, hn, hr⟩ := hr
    exact wpAny_bind (wpAny_holding (wpAny_comp_letGo (cenv := { cenv with scope := relabel scope env }) hkind _ s' m own hn fun h' m' _ hs' => wpAny_pure (hr h' hs')))
  | error x =>
    obtain ⟨m, hn, hr⟩ := hr
    exact wpAny_bind (wpAny_holding (wpAny_comp_letGo (cenv := { cenv with scope := relabel scope env }) hkind _ s' m own hn fun h' m' _ hs' => wpAny_mono (hr h' hs') (fun _ _ f => f.elim) fun _ _ y => y))
section
variable {X : Cx}
/-- what a call in the block may let out -/
def blkXe (X : Cx) (s : Shared) (H : Hp) (scope : Scope) (cenv : Env) (fp : List Addr) (E1 : XK) (u : Value) (s' : Shared) : Prop :=
  ∃ (pins : List (Addr × Obj)) (σ : L2.St) (H' : Hp) (s1 : Shared), Inv (X.blk s H scope cenv fp) pins σ H' s1 ∧ CX X.prog X.w X.stack H' s1 E1 u s'
abbrev blkX (X : Cx) (s : Shared) (H : Hp) (scope : Scope) (cenv : Env) (fp : List Addr) (E1 : XK) : Cx := { X.blk s H scope cenv fp with xe := blkXe X s H scope cenv fp E1 }
theorem passes_blk {s : Shared} {H : Hp} {scope : Scope} {cenv : Env} {fp : List Addr} {E1 : XK} : Passes (CX X.prog X.w) (blkX X s H scope cenv fp E1) E1 := fun pins σ H' s1 u s' I c => ⟨pins, σ, H', s1, inv_xe' I, c⟩
/-- [elt for target in iter if ..], elt may raise what E1 tells -/
theorem pe_lcX {W : WX} {E1 : XK} {elt tg iter : Expr} {ifs : List Expr} {scope : Scope} {own : List (PySem.Str × Nat)} {pos : Pos} {wi : TI} {g : TG} {tt : TT} {te : TE}
    (hst : X.stack = X.env :: X.outer) (hfr : X.env.frame = some X.env.locals) (tk : Takes X W) (hW : ∀ cls d σ H, E1 cls d H → W cls d σ H)
    (hc : X.calm = true) (hN : X.N.Nodup) (hi : PI X tg iter wi) (ok : BlkOk X.N X.env.scope scope own)
    (hg : ∀ (s : Shared) (H : Hp) (C : Addr) (cl : List (PySem.Str × Addr)) (fp : List Addr), PG (X.blk s H scope (compEnvC scope cl C X.env) fp) tg g) (ht : ∀ (s : Shared) (H : Hp) (C : Addr) (cl : List (PySem.Str × Addr)) (fp : List Addr), PTs (X.blk s H scope (compEnvC scope cl C X.env) fp) ifs tt)
    (he : ∀ (s : Shared) (H : Hp) (C : Addr) (cl : List (PySem.Str × Addr)) (fp : List Addr), PE (blkX X s H scope (compEnvC scope cl C X.env) fp E1) elt te) (hs : ∀ x, foldedSetIterable iter X.env x = pure x := by intro _; rfl) :
    PE X (.ListComp elt [⟨tg, iter, ifs, 0⟩] scope pos) (tLc wi g tt te (own.map (·.2))) := by
  refine ⟨fun pins s σ H Q I h => ?_⟩
  rw [eval_ListComp]
  have hfree : ∀ y ∈ scope.names, y.2 = .free → ∃ c, X.env.cells.lookup y.1 = some c := fun y hy e => by
    rcases ok.free y hy e with k | k
    · exact I.ok.has _ (.inl k)
    · exact I.ok.has _ (.inr k)
  refine comp_run rfl hs (closure_ok hfree) ok.kind (fun y hy e => by rw [ok.uniq y hy, e]) (thn (hi.run pins s σ H _ I h) fun xv s1 hx => thn hx fun itv s2 h2 => ?_)
  obtain ⟨it, fp, tn, J, H2, e, I2, T, st2, f2, q⟩ := h2
  subst e
  refine wpAny_newObj_type (newEnv_comp ?_) (by show 0 ≤ sizeLine; decide)
  generalize hD : s2.heap.objs.size = D
  have hDn : H2 D = none := I2.hok.fresh (Nat.le_of_eq hD)
  obtain ⟨Wt, ⟨m0, w0⟩, turn⟩ := q D hDn
  generalize hs3 : ({ s2 with heap := s2.heap.push { cls := .type "list", data := .seq ([] : List Value).toArray } } : Shared) = s3
  have h3 : s3.heap = s2.heap.push { cls := .type "list", data := .seq ([] : List Value).toArray } := by rw [← hs3]
  have I3 : Inv X pins σ (upd H2 D (.lst [])) s3 := by
    rw [← hs3]
    refine I2.laid (t' := s2.toks) (fun b o e => Heap.get?_push_of_some _ e) (Nat.le_of_eq hD) ⟨Nat.zero_le _, [], 0, .nil, ?_⟩
    rw [← hD]
    exact Heap.get?_push_size _ rfl
  have f3 : ∀ b ∈ fp, FpOk X pins (upd H2 D (.lst [])) b ∧ b < s3.heap.objs.size := fun b hb => by
    obtain ⟨o, e, _⟩ := T.obj _ _ st2 b hb
    have hlt := Heap.lt_size e
    refine ⟨⟨?_, (f2 b hb).2⟩, by rw [h3, Heap.size_push]; exact Nat.lt_succ_of_lt hlt⟩
    rw [upd_ne (by rw [← hD]; exact Nat.ne_of_lt hlt)]
    exact (f2 b hb).1
  have st3 : tn 0 s3.heap := T.keep _ _ _ st2 fun b _ o e => by rw [h3]; exact Heap.get?_push_of_some _ e
  have I4 := block_start I3 ok hN f3
  have pg := hg s3 (upd H2 D (.lst [])) s3.heap.objs.size (cellsFrom (s3.heap.objs.size + 1) scope.names (cloFrom X.env.cells scope.names [])) fp
  have pt := ht s3 (upd H2 D (.lst [])) s3.heap.objs.size (cellsFrom (s3.heap.objs.size + 1) scope.names (cloFrom X.env.cells scope.names [])) fp
  have pe := he s3 (upd H2 D (.lst [])) s3.heap.objs.size (cellsFrom (s3.heap.objs.size + 1) scope.names (cloFrom X.env.cells scope.names [])) fp
  show codeAny _ _ (.compStart (.ListComp elt [⟨tg, iter, ifs, 0⟩] scope pos) 0 (.ref it) (.ref D) (compEnvC scope (cellsFrom (s3.heap.objs.size + 1) scope.names (cloFrom X.env.cells scope.names [])) s3.heap.objs.size X.env))
    (cpost (model X.prog X.w) X.A X.xe (EP X pins σ Q) (.ref D) (compEnvC scope (cellsFrom (s3.heap.objs.size + 1) scope.names (cloFrom X.env.cells scope.names [])) s3.heap.objs.size X.env)) { s3 with heap := pushCells (s3.heap.push { cls := .type "dict", data := .dict #[] }) scope.names }
  have nfp : ∀ b ∈ fp, (upd H2 D (.lst [])) b = none := fun b hb => (f3 b hb).1.1
  generalize hce : compEnvC scope (cellsFrom (s3.heap.objs.size + 1) scope.names (cloFrom X.env.cells scope.names [])) s3.heap.objs.size X.env = ce at I4 pg pt pe ⊢
  have cL : ce.locals = s3.heap.objs.size := by subst hce; rfl
  have cF : ce.frame = X.env.frame := by subst hce; rfl
  generalize hH3 : upd H2 D (.lst []) = H3 at I3 I4 pg pt pe w0 nfp f3
  generalize hs4 : ({ s3 with heap := pushCells (s3.heap.push { cls := .type "dict", data := .dict #[] }) scope.names } : Shared) = s4 at I4 ⊢
  have st4 : tn 0 s4.heap := T.keep _ _ _ st3 fun b _ o e => by rw [← hs4]; exact pushCells_keeps _ _ _ _ (Heap.get?_push_of_some _ e)
  have fC : ∀ H', H' ce.locals = none → FpOk X pins H' ce.locals := fun H' h => by
    rw [cL] at h ⊢
    exact I3.fpOk (Nat.le_refl _) h
  -- a state of the block is one of the def
  have back : ∀ {pins' : List (Addr × Obj)} {σ' : L2.St} {H' : Hp} {s' : Shared}, Inv (X.blk s3 H3 scope ce fp) pins' σ' H' s' → Inv X pins σ H' s' := fun {pins' σ' H' s'} I' =>
    I3.call' (ch := fp) I'.os I'.base I'.hok I'.bare fun b hb => ⟨(f3 b hb).1.2.2.2.1, (f3 b hb).1.2.1, (f3 b hb).1.2.2.2.2.1, (f3 b hb).1.2.2.2.2.2⟩
  have stat : ∀ {σ' : L2.St} {H' : Hp} {s' : Shared}, Inv (X.blk s3 H3 scope ce fp) [] σ' H' s' → (∀ b ∈ fp, H' b = none) → ∀ b ∈ fp, FpOk (X.blk s3 H3 scope ce fp) [] H' b := fun {σ' H' s'} I' hn b hb =>
    ⟨hn b hb, (I'.ok.exf b hb).1, I'.ok.exfs b hb, .inl hb, fun x c e => (I'.ok.exf b hb).2 x c e, fun p hp => absurd (show p ∈ ([] : List (Addr × Obj)) ++ [] from hp) (by simp)⟩
  have loop : codeAny (model X.prog X.w) X.A (.compLoop (.ListComp elt [⟨tg, iter, ifs, 0⟩] scope pos) 0 (.ref it) (.ref D) ce) (cpost (model X.prog X.w) X.A X.xe (EP X pins σ Q) (.ref D) ce) s4 := by
    refine compLoop_any (fun n s' => ∃ i H', Inv (X.blk s3 H3 scope ce fp) [] (wipe σ (own.map (·.2))) H' s' ∧ tn i s'.heap ∧ (∀ b ∈ fp, H' b = none) ∧ Wt i n H') ?_ m0 ⟨0, H3, I4, st4, nfp, w0⟩
    rintro n s5 ⟨i, H5, I5, st5, n5, w5⟩
    rcases turn i n H5 w5 with ⟨stop, qq⟩ | ⟨go, Nx, hNx, step⟩
    · have td := T.done (X.blk s3 H3 scope ce fp) rfl rfl rfl hc i [] s5 _ H5 (fun _ _ => False) I5 (stat I5 n5) st5 stop
      refine thnF td fun r s6 ⟨hr, I6⟩ => ?_
      subst hr
      have I7 : Inv X pins σ H5 s6 := back I6
      obtain ⟨m, hn, _⟩ := I6.loc
      obtain ⟨_, e1, _, e3, e4, e5⟩ := fC H5 I6.free
      exact ⟨m, hn, fun h'' sb => ⟨.ref D, H5, I7.turned (t' := s6.toks) (fun b o hb e => (sb.2 b hb).trans e) I6.free e1 e3 e4 e5, rfl, qq⟩⟩
    · have ti := T.item (X.blk s3 H3 scope ce fp) rfl rfl rfl hc i [] s5 _ H5 (fun _ _ => False) I5 (stat I5 n5) st5 go
      refine thnF ti fun r s6 ⟨u, hr, h6⟩ => ?_
      subst hr
      refine thnF h6 fun _ s7 ⟨x, H7, I7, r7, y7, st7, n7⟩ => ?_
      have I7' := I7.pinned (stat I7 n7) (T.obj _ _ st7)
      refine thnF (pg.run _ s7 _ H7 x u _ I7' r7 (step x H7 y7)) fun _ s8 ⟨σ8, H8, I8, hw8, q8⟩ => ?_
      refine thnF (pt.run _ s8 σ8 H8 _ I8 q8) fun b s9 ⟨H9, I9, q9⟩ => ?_
      have fin : ∀ {s' : Shared} {H' : Hp}, Inv (X.blk s3 H3 scope ce fp) ([] ++ pinsAt fp s7.heap) σ8 H' s' → Nx H' → ∃ m, m < n ∧ ∃ i H', Inv (X.blk s3 H3 scope ce fp) [] (wipe σ (own.map (·.2))) H' s' ∧ tn i s'.heap ∧ (∀ b ∈ fp, H' b = none) ∧ Wt i m H' := fun {s' H'} I' nx => by
        obtain ⟨m', hm, w'⟩ := hNx H' nx
        have pin' : ∀ b ∈ fp, ∀ o, s7.heap.get? b = some o → s'.heap.get? b = some o ∧ H' b = none := fun b hb o e =>
          let z := I'.pin (b, o) (List.mem_append_right _ (List.mem_append_right _ (mem_pinsAt hb e)))
          ⟨z.1, z.2.1⟩
        have hl : (wipe σ (own.map (·.2))).length = σ8.length := by rw [← hw8, wipe_length]
        refine ⟨m', hm, i + 1, H', (I'.unpinned (pins := [])).weak hl (fun j v e => ?_), T.keep _ _ _ st7 fun b hb o e => (pin' b hb o e).1, fun b hb => ?_, w'⟩
        · rw [← hw8] at e
          exact (wipe_some e).1
        · obtain ⟨o, e, _⟩ := T.obj _ _ st7 b hb
          exact (pin' b hb o e).2
      cases b with
      | false =>
        simp only [Bool.false_eq_true, if_false] at q9 ⊢
        exact fin I9 q9
      | true =>
        simp only [if_true] at q9 ⊢
        refine wpAny_mono (pe.run _ s9 σ8 H9 _ (inv_xe _ I9) q9) (fun z s10 ⟨yv, H10, I10, r10, acc, hD10, hz10, nx⟩ => ?_) (fun u s' hx => ?_)
        · exact app_ok (X := X.blk s3 H3 scope ce fp) (inv_xe' I10) hD10 hz10 r10 fun s11 I11 => fin I11 nx
        · obtain ⟨pinsx, σx, Hx, sx, Ix, cx⟩ := hx
          obtain ⟨m, hn, _⟩ := Ix.loc
          exact lcx_err hst hfr tk hW cF (back Ix) ⟨m, hn⟩ fC Ix.free cx
  exact codeAny_compStart_list loop (T.self X.A 0 _ _ _ st4 loop)
end

/-! ### comprehensions whose step may raise, for what a try with a suite that raises lets pass -/
section
variable {X : Cx} {pins : List (Addr × Obj)} {σ : L2.St} {H : Hp} {s : Shared}
theorem call_openN {E : XK} (I : Inv X pins σ H s) {u : Value} {s' : Shared} (c : L2N.CX X.prog X.w X.stack H s E u s') : ∃ (a : Addr) (B : Heap) (H' : Hp) (cls : Value) (d : Option Addr) (G : Heap), u = .ref a ∧
    Inv X pins σ H' { s with heap := G, gens := s'.gens, drawn := s'.drawn, toks := s'.toks } ∧ (∀ b o, G.get? b = some o → b ∉ frs X.stack → B.get? b = some o) ∧ (∀ b o, G.get? b = some o → s'.heap.get? b = some o) ∧
    HandSPX.FlyingZ B X.stack a (L2N.Zn cls d) s'.heap ∧ UB (frs X.stack) H H' s.heap B s'.heap ∧ H' a = none ∧ s'.os = s.os ∧ AllBare s'.gens ∧ E cls d H' := by
  obtain ⟨a, B, H', cls, d, hu, fl, hok, ub, na, os, ag, hE⟩ := c
  obtain ⟨G, g1, g2⟩ := restrict s'.heap fun b => (B.get? b).isSome || decide (b ∈ frs X.stack)
  have st : B.StaysIn s'.heap := fl.1
  have inB : ∀ b o, B.get? b = some o → G.get? b = some o := fun b o e => (g1 b (by rw [e]; rfl)).trans (st b o e)
  have inF : ∀ b, b ∈ frs X.stack → G.get? b = s'.heap.get? b := fun b hb => g1 b (by rw [decide_eq_true hb, Bool.or_true])
  have out : ∀ b o, G.get? b = some o → s'.heap.get? b = some o ∧ ((B.get? b).isSome = true ∨ b ∈ frs X.stack) := fun b o e => by
    cases q : ((B.get? b).isSome || decide (b ∈ frs X.stack)) with
    | false => rw [g2 b q] at e; cases e
    | true =>
      rw [g1 b q] at e
      rw [Bool.or_eq_true, decide_eq_true_eq] at q
      exact ⟨e, q⟩
  refine ⟨a, B, H', cls, d, G, hu, ?_, fun b o e hb => ?_, fun b o e => (out b o e).1, fl, ub, na, os, ag, hE⟩
  · refine I.call (ch := []) ⟨fun b o e n hb _ => inB b o (ub.keep b o e n hb), fun b o e n hb _ => ?_, fun b o e n _ => ub.free b o e n, fun b o e _ => ?_, ub.tups, ub.frzs, ub.tbls⟩ (hok.kept inB) ag (fun _ z => nomatch z)
    · obtain ⟨sl, q⟩ := ub.slot b o e hb
      exact ⟨sl, (inF b hb).trans q⟩
    · by_cases hb : b ∈ frs X.stack
      · obtain ⟨sl, q⟩ := ub.slot b o e hb
        exact ⟨_, (inF b hb).trans q⟩
      · obtain ⟨o', q⟩ := ub.there b o e hb
        exact ⟨o', inB b o' q⟩
  · obtain ⟨e', h⟩ := out b o e
    rcases h with h | h
    · obtain ⟨o', q⟩ := Option.isSome_iff_exists.mp h
      have z := st b o' q
      rw [e'] at z; cases z
      exact q
    · exact absurd h hb
theorem lcx_errN {W : WX} {E1 : XK} (hs : X.stack = X.env :: X.outer) (hf : X.env.frame = some X.env.locals) (tk : L2N.Takes X W) (hW : ∀ cls d σ H, E1 cls d H → W cls d σ H) {ce : Env} (hce : ce.frame = X.env.frame) (I : Inv X pins σ H s)
    (hn : ∃ m, s.heap.Ns ce.locals m) (hC : ∀ H', H' ce.locals = none → FpOk X pins H' ce.locals) (h0 : H ce.locals = none) {Qf : Value → Shared → Prop} {acc u : Value} {s' : Shared} (c : L2N.CX X.prog X.w X.stack H s E1 u s') :
    notedBy (model X.prog X.w) X.A ce (fun e s' => cpost (model X.prog X.w) X.A X.xe Qf acc ce (.error e) s') u s' := by
  obtain ⟨a, B, H', cls, d, G, hu, J, nb, kG, fl, ub, na, os, ag, e1⟩ := call_openN I c
  subst hu
  have hfr : X.A.frames = some (X.env :: X.outer) := by rw [I.ok.frames, hs]
  have f0 := hC H h0
  have nfs : ce.locals ∉ frs X.stack := fun hm => by
    rcases List.mem_cons.mp (I.stkSub _ hm) with z | z
    · exact f0.2.1 z
    · exact f0.2.2.1 z
  show wpAny _ _ (noteFrame (.ref a) ce) _ _ _
  rw [note_same hce]
  have fl' := fl
  rw [hs] at fl'
  refine PXN.looks_onZ L2N.Zn.steady hfr hf fl' fun h1 hh up1 => ?_
  rw [← hs] at hh
  obtain ⟨m, o, es, ep, ho, hd, r⟩ := hn
  have hB : B.get? ce.locals = some o := ub.keep _ o ho h0 nfs
  have nfd : ∀ vs, o.data ≠ .fields vs := fun vs q => by rw [hd] at q; cases q
  obtain ⟨sl, hC1⟩ := up1 _ o (fl.1 _ _ hB) nfd
  have h0' : H' ce.locals = none := ub.free _ o ho h0
  have f1 := hC H' h0'
  refine ⟨m, ⟨_, es, ep, hC1, hd, r⟩, fun h2 sb => ?_⟩
  obtain ⟨b1, b2, b3, oe, vs, T, oT, ts, he, hz, hde, hv1, hnT, hTe, hT, hdT, h3⟩ := hh
  have neA : a ≠ ce.locals := fun z => by rw [z, hC1] at he; cases he; exact nfd _ hde
  have neT : T ≠ ce.locals := fun z => by rw [z, hC1] at hT; cases hT; exact nfd _ hdT
  have hid : ∀ b, B.get? b = none → (PySem.W.hideAll B [ce.locals]).get? b = none := fun b hb => by
    cases q : (PySem.W.hideAll B [ce.locals]).get? b with
    | none => rfl
    | some o' => have z := PySem.W.of_hideAll _ q; rw [hb] at z; cases z
  have neC : ∀ {h : Heap} {b o'}, (PySem.W.hideAll h [ce.locals]).get? b = some o' → b ≠ ce.locals := fun {h b o'} q z => by
    rw [z, PySem.W.hideAll_none [ce.locals] (by simp)] at q; cases q
  have st2 : (PySem.W.hideAll B [ce.locals]).StaysIn h2 := fun b o' e => (sb.2 b (neC e)).trans (b1 b o' (PySem.W.of_hideAll _ e))
  have tr2 : HandSPX.TracedZ h2 (PySem.W.hideAll B [ce.locals]) a (L2N.Zn cls d) (rawInt X.env.locals) := ⟨oe, vs, T, oT, ts, (sb.2 a neA).trans he, hz, hde, hv1, hid _ hnT, hTe, (sb.2 T neT).trans hT, hdT, h3⟩
  have ff2 : h2.FunFrames (PySem.W.hideAll B [ce.locals]) X.stack := frames_but hid sb.2 nfs b3
  show wpAny _ _ (PySem.passOn _ (.ref a) ce : Sem Value) _ _ _
  unfold PySem.passOn
  refine wpAny_bind (wpAny_field (s := { s' with heap := h2 }) ((sb.2 a neA).trans he) hde hv1 ?_)
  rw [if_neg (by simp)]
  try refine wpAny_bind (wpAny_pure ?_)
  refine wpAny_bind (HandSPX.setFlight_anyZ (fr := ce.frame) st2 ff2 tr2 fun h3 k1 k2 k3 k4 => ?_)
  refine wpAny_throw (tk _ _ ⟨a, PySem.W.hideAll B [ce.locals], _, pins, σ, H', cls, d, rfl, J.turned (h' := PySem.W.hideAll G [ce.locals]) (t' := s'.toks) (it := ce.locals) (fun b o' hb e => PySem.W.hideAll_get _ e (by simpa using hb)) h0' f1.2.1 f1.2.2.2.1 f1.2.2.2.2.1 f1.2.2.2.2.2,
    fun b o' e hb => PySem.W.hideAll_get _ (nb b o' (PySem.W.of_hideAll _ e) hb) (by simpa using neC e), fun b o' e hnf => ?_, .inr (.inr ⟨k1, hid _ b2, k2, ?_⟩), na, os, ag, hW _ _ _ _ e1⟩)
  · obtain ⟨s1, e2⟩ := up1 b o' (kG b o' (PySem.W.of_hideAll _ e)) hnf
    exact k4 b _ ((sb.2 b (neC e)).trans e2) hnf |>.elim fun s2 e3 => ⟨s2, e3⟩
  · rw [hce, hf] at k3
    exact k3
def blkXeN (X : Cx) (s : Shared) (H : Hp) (scope : Scope) (cenv : Env) (fp : List Addr) (E1 : XK) (u : Value) (s' : Shared) : Prop :=
  ∃ (pins : List (Addr × Obj)) (σ : L2.St) (H' : Hp) (s1 : Shared), Inv (X.blk s H scope cenv fp) pins σ H' s1 ∧ L2N.CX X.prog X.w X.stack H' s1 E1 u s'
abbrev blkXN (X : Cx) (s : Shared) (H : Hp) (scope : Scope) (cenv : Env) (fp : List Addr) (E1 : XK) : Cx := { X.blk s H scope cenv fp with xe := blkXeN X s H scope cenv fp E1 }
theorem passes_blkN {s : Shared} {H : Hp} {scope : Scope} {cenv : Env} {fp : List Addr} {E1 : XK} : Passes (L2N.CX X.prog X.w) (blkXN X s H scope cenv fp E1) E1 := fun pins σ H' s1 u s' I c => ⟨pins, σ, H', s1, inv_xe' I, c⟩
theorem pe_lcXN {W : WX} {E1 : XK} {elt tg iter : Expr} {ifs : List Expr} {scope : Scope} {own : List (PySem.Str × Nat)} {pos : Pos} {wi : TI} {g : TG} {tt : TT} {te : TE}
    (hst : X.stack = X.env :: X.outer) (hfr : X.env.frame = some X.env.locals) (tk : L2N.Takes X W) (hW : ∀ cls d σ H, E1 cls d H → W cls d σ H)
    (hc : X.calm = true) (hN : X.N.Nodup) (hi : PI X tg iter wi) (ok : BlkOk X.N X.env.scope scope own)
    (hg : ∀ (s : Shared) (H : Hp) (C : Addr) (cl : List (PySem.Str × Addr)) (fp : List Addr), PG (X.blk s H scope (compEnvC scope cl C X.env) fp) tg g) (ht : ∀ (s : Shared) (H : Hp) (C : Addr) (cl : List (PySem.Str × Addr)) (fp : List Addr), PTs (X.blk s H scope (compEnvC scope cl C X.env) fp) ifs tt)
    (he : ∀ (s : Shared) (H : Hp) (C : Addr) (cl : List (PySem.Str × Addr)) (fp : List Addr), PE (blkXN X s H scope (compEnvC scope cl C X.env) fp E1) elt te) (hs : ∀ x, foldedSetIterable iter X.env x = pure x := by intro _; rfl) :
    PE X (.ListComp elt [⟨tg, iter, ifs, 0⟩] scope pos) (tLc wi g tt te (own.map (·.2))) := by
  refine ⟨fun pins s σ H Q I h => ?_⟩
  rw [eval_ListComp]
  have hfree : ∀ y ∈ scope.names, y.2 = .free → ∃ c, X.env.cells.lookup y.1 = some c := fun y hy e => by
    rcases ok.free y hy e with k | k
    · exact I.ok.has _ (.inl k)
    · exact I.ok.has _ (.inr k)
  refine comp_run rfl hs (closure_ok hfree) ok.kind (fun y hy e => by rw [ok.uniq y hy, e]) (thn (hi.run pins s σ H _ I h) fun xv s1 hx => thn hx fun itv s2 h2 => ?_)
  obtain ⟨it, fp, tn, J, H2, e, I2, T, st2, f2, q⟩ := h2
  subst e
  refine wpAny_newObj_type (newEnv_comp ?_) (by show 0 ≤ sizeLine; decide)
  generalize hD : s2.heap.objs.size = D
  have hDn : H2 D = none := I2.hok.fresh (Nat.le_of_eq hD)
  obtain ⟨Wt, ⟨m0, w0⟩, turn⟩ := q D hDn
  generalize hs3 : ({ s2 with heap := s2.heap.push { cls := .type "list", data := .seq ([] : List Value).toArray } } : Shared) = s3
  have h3 : s3.heap = s2.heap.push { cls := .type "list", data := .seq ([] : List Value).toArray } := by rw [← hs3]
  have I3 : Inv X pins σ (upd H2 D (.lst [])) s3 := by
    rw [← hs3]
    refine I2.laid (t' := s2.toks) (fun b o e => Heap.get?_push_of_some _ e) (Nat.le_of_eq hD) ⟨Nat.zero_le _, [], 0, .nil, ?_⟩
    rw [← hD]
    exact Heap.get?_push_size _ rfl
  have f3 : ∀ b ∈ fp, FpOk X pins (upd H2 D (.lst [])) b ∧ b < s3.heap.objs.size := fun b hb => by
    obtain ⟨o, e, _⟩ := T.obj _ _ st2 b hb
    have hlt := Heap.lt_size e
    refine ⟨⟨?_, (f2 b hb).2⟩, by rw [h3, Heap.size_push]; exact Nat.lt_succ_of_lt hlt⟩
    rw [upd_ne (by rw [← hD]; exact Nat.ne_of_lt hlt)]
    exact (f2 b hb).1
  have st3 : tn 0 s3.heap := T.keep _ _ _ st2 fun b _ o e => by rw [h3]; exact Heap.get?_push_of_some _ e
  have I4 := block_start I3 ok hN f3
  have pg := hg s3 (upd H2 D (.lst [])) s3.heap.objs.size (cellsFrom (s3.heap.objs.size + 1) scope.names (cloFrom X.env.cells scope.names [])) fp
  have pt := ht s3 (upd H2 D (.lst [])) s3.heap.objs.size (cellsFrom (s3.heap.objs.size + 1) scope.names (cloFrom X.env.cells scope.names [])) fp
  have pe := he s3 (upd H2 D (.lst [])) s3.heap.objs.size (cellsFrom (s3.heap.objs.size + 1) scope.names (cloFrom X.env.cells scope.names [])) fp
  show codeAny _ _ (.compStart (.ListComp elt [⟨tg, iter, ifs, 0⟩] scope pos) 0 (.ref it) (.ref D) (compEnvC scope (cellsFrom (s3.heap.objs.size + 1) scope.names (cloFrom X.env.cells scope.names [])) s3.heap.objs.size X.env))
    (cpost (model X.prog X.w) X.A X.xe (EP X pins σ Q) (.ref D) (compEnvC scope (cellsFrom (s3.heap.objs.size + 1) scope.names (cloFrom X.env.cells scope.names [])) s3.heap.objs.size X.env)) { s3 with heap := pushCells (s3.heap.push { cls := .type "dict", data := .dict #[] }) scope.names }
  have nfp : ∀ b ∈ fp, (upd H2 D (.lst [])) b = none := fun b hb => (f3 b hb).1.1
  generalize hce : compEnvC scope (cellsFrom (s3.heap.objs.size + 1) scope.names (cloFrom X.env.cells scope.names [])) s3.heap.objs.size X.env = ce at I4 pg pt pe ⊢
  have cL : ce.locals = s3.heap.objs.size := by subst hce; rfl
  have cF : ce.frame = X.env.frame := by subst hce; rfl
  generalize hH3 : upd H2 D (.lst []) = H3 at I3 I4 pg pt pe w0 nfp f3
  generalize hs4 : ({ s3 with heap := pushCells (s3.heap.push { cls := .type "dict", data := .dict #[] }) scope.names } : Shared) = s4 at I4 ⊢
  have st4 : tn 0 s4.heap := T.keep _ _ _ st3 fun b _ o e => by rw [← hs4]; exact pushCells_keeps _ _ _ _ (Heap.get?_push_of_some _ e)
  have fC : ∀ H', H' ce.locals = none → FpOk X pins H' ce.locals := fun H' h => by
    rw [cL] at h ⊢
    exact I3.fpOk (Nat.le_refl _) h
  -- a state of the block is one of the def
  have back : ∀ {pins' : List (Addr × Obj)} {σ' : L2.St} {H' : Hp} {s' : Shared}, Inv (X.blk s3 H3 scope ce fp) pins' σ' H' s' → Inv X pins σ H' s' := fun {pins' σ' H' s'} I' =>
    I3.call' (ch := fp) I'.os I'.base I'.hok I'.bare fun b hb => ⟨(f3 b hb).1.2.2.2.1, (f3 b hb).1.2.1, (f3 b hb).1.2.2.2.2.1, (f3 b hb).1.2.2.2.2.2⟩
  have stat : ∀ {σ' : L2.St} {H' : Hp} {s' : Shared}, Inv (X.blk s3 H3 scope ce fp) [] σ' H' s' → (∀ b ∈ fp, H' b = none) → ∀ b ∈ fp, FpOk (X.blk s3 H3 scope ce fp) [] H' b := fun {σ' H' s'} I' hn b hb =>
    ⟨hn b hb, (I'.ok.exf b hb).1, I'.ok.exfs b hb, .inl hb, fun x c e => (I'.ok.exf b hb).2 x c e, fun p hp => absurd (show p ∈ ([] : List (Addr × Obj)) ++ [] from hp) (by simp)⟩
  have loop : codeAny (model X.prog X.w) X.A (.compLoop (.ListComp elt [⟨tg, iter, ifs, 0⟩] scope pos) 0 (.ref it) (.ref D) ce) (cpost (model X.prog X.w) X.A X.xe (EP X pins σ Q) (.ref D) ce) s4 := by
    refine compLoop_any (fun n s' => ∃ i H', Inv (X.blk s3 H3 scope ce fp) [] (wipe σ (own.map (·.2))) H' s' ∧ tn i s'.heap ∧ (∀ b ∈ fp, H' b = none) ∧ Wt i n H') ?_ m0 ⟨0, H3, I4, st4, nfp, w0⟩
    rintro n s5 ⟨i, H5, I5, st5, n5, w5⟩
    rcases turn i n H5 w5 with ⟨stop, qq⟩ | ⟨go, Nx, hNx, step⟩
    · have td := T.done (X.blk s3 H3 scope ce fp) rfl rfl rfl hc i [] s5 _ H5 (fun _ _ => False) I5 (stat I5 n5) st5 stop
      refine thnF td fun r s6 ⟨hr, I6⟩ => ?_
      subst hr
      have I7 : Inv X pins σ H5 s6 := back I6
      obtain ⟨m, hn, _⟩ := I6.loc
      obtain ⟨_, e1, _, e3, e4, e5⟩ := fC H5 I6.free
      exact ⟨m, hn, fun h'' sb => ⟨.ref D, H5, I7.turned (t' := s6.toks) (fun b o hb e => (sb.2 b hb).trans e) I6.free e1 e3 e4 e5, rfl, qq⟩⟩
    · have ti := T.item (X.blk s3 H3 scope ce fp) rfl rfl rfl hc i [] s5 _ H5 (fun _ _ => False) I5 (stat I5 n5) st5 go
      refine thnF ti fun r s6 ⟨u, hr, h6⟩ => ?_
      subst hr
      refine thnF h6 fun _ s7 ⟨x, H7, I7, r7, y7, st7, n7⟩ => ?_
      have I7' := I7.pinned (stat I7 n7) (T.obj _ _ st7)
      refine thnF (pg.run _ s7 _ H7 x u _ I7' r7 (step x H7 y7)) fun _ s8 ⟨σ8, H8, I8, hw8, q8⟩ => ?_
      refine thnF (pt.run _ s8 σ8 H8 _ I8 q8) fun b s9 ⟨H9, I9, q9⟩ => ?_
      have fin : ∀ {s' : Shared} {H' : Hp}, Inv (X.blk s3 H3 scope ce fp) ([] ++ pinsAt fp s7.heap) σ8 H' s' → Nx H' → ∃ m, m < n ∧ ∃ i H', Inv (X.blk s3 H3 scope ce fp) [] (wipe σ (own.map (·.2))) H' s' ∧ tn i s'.heap ∧ (∀ b ∈ fp, H' b = none) ∧ Wt i m H' := fun {s' H'} I' nx => by
        obtain ⟨m', hm, w'⟩ := hNx H' nx
        have pin' : ∀ b ∈ fp, ∀ o, s7.heap.get? b = some o → s'.heap.get? b = some o ∧ H' b = none := fun b hb o e =>
          let z := I'.pin (b, o) (List.mem_append_right _ (List.mem_append_right _ (mem_pinsAt hb e)))
          ⟨z.1, z.2.1⟩
        have hl : (wipe σ (own.map (·.2))).length = σ8.length := by rw [← hw8, wipe_length]
        refine ⟨m', hm, i + 1, H', (I'.unpinned (pins := [])).weak hl (fun j v e => ?_), T.keep _ _ _ st7 fun b hb o e => (pin' b hb o e).1, fun b hb => ?_, w'⟩
        · rw [← hw8] at e
          exact (wipe_some e).1
        · obtain ⟨o, e, _⟩ := T.obj _ _ st7 b hb
          exact (pin' b hb o e).2
      cases b with
      | false =>
        simp only [Bool.false_eq_true, if_false] at q9 ⊢
        exact fin I9 q9
      | true =>
        simp only [if_true] at q9 ⊢
        refine wpAny_mono (pe.run _ s9 σ8 H9 _ (inv_xe _ I9) q9) (fun z s10 ⟨yv, H10, I10, r10, acc, hD10, hz10, nx⟩ => ?_) (fun u s' hx => ?_)
        · exact app_ok (X := X.blk s3 H3 scope ce fp) (inv_xe' I10) hD10 hz10 r10 fun s11 I11 => fin I11 nx
        · obtain ⟨pinsx, σx, Hx, sx, Ix, cx⟩ := hx
          obtain ⟨m, hn, _⟩ := Ix.loc
          exact lcx_errN hst hfr tk hW cF (back Ix) ⟨m, hn⟩ fC Ix.free cx
  exact codeAny_compStart_list loop (T.self X.A 0 _ _ _ st4 loop)
end

/-- [x for x in .. if p x] -/
theorem i_lcF {α : Type} {J : It} {l : List α} {r : α → V} {G : Hp → Prop} (w : Walk J l.length G (YL l r)) {j : Nat} {tt : TT} {te : TE} {σ : L2.St} {H : Hp} {Q : VK} (p : α → Bool) (hn : l.length < sizeLine) (hG : ∀ D ys, H D = none → G (upd H D (.lst ys)))
    (ht : ∀ c ∈ l, ∀ H1 (Q' : Bool → Hp → Prop), Same H H1 → Q' (p c) H1 → tt ((wipe σ [j]).set j (some (r c))) H1 Q')
    (hs : ∀ c ∈ l, ∀ H1 (Q' : VK), Same H H1 → Q' (r c) H1 → te ((wipe σ [j]).set j (some (r c))) H1 Q') (q : ∀ D, H D = none → Q (.ref D) (upd H D (.lst ((l.filter p).map r)))) : rLcJ J (gName j) tt te [j] σ H Q := by
  intro D hD
  have ss : ∀ ys, Same H (upd H D (.lst ys)) := fun ys b o h => by rw [upd_ne (ne_of_none h hD)]; exact h
  refine lc_it w (fun i H' => H' = upd H D (.lst (((l.take i).filter p).map r))) rfl (fun i H' _ e => by subst e; exact hG D _ hD) (fun i x H1 H2 hi e y => ?_) (fun H' e => by subst e; rw [List.take_length]; exact q D hD)
  obtain ⟨e2, c, hc, rfl⟩ := y
  subst e2
  subst e
  have hm := List.mem_of_getElem? hc
  have et : (l.take (i + 1)).filter p = (l.take i).filter p ++ (if p c = true then [c] else []) := by
    rw [List.take_add_one, hc, List.filter_append]
    cases h : p c <;> simp [h]
  refine ⟨wipe_one, ht c hm _ _ (ss _) ?_⟩
  by_cases h : p c = true
  · rw [if_pos h] at et ⊢
    refine hs c hm _ _ (ss _) ⟨_, upd_same, ?_, ?_⟩
    · rw [List.length_map]
      have h1 := List.length_filter_le p (l.take i)
      rw [List.length_take] at h1
      omega
    · rw [upd_upd, et, List.map_append]; rfl
  · rw [if_neg h] at et ⊢
    rw [et, List.append_nil]
theorem i_if2 {A B X Y : Prop} [Decidable A] [Decidable B] (h1 : A → B → X) (h2 : ¬ (A ∧ B) → Y) : if A then (if B then X else Y) else Y := ite2 (fun a => ite2 (h1 a) (fun nb => h2 fun k => nb k.2)) (fun na => h2 fun k => na k.1)
/-- [e for x in ..], e leaves what was and a pure value -/
theorem i_lcS {α : Type} {J : It} {l : List α} {r : α → V} {G : Hp → Prop} (w : Walk J l.length G (YL l r)) {j : Nat} {te : TE} {σ : L2.St} {H : Hp} {Q : VK} (g : α → V) (hn : l.length < sizeLine) (hG : ∀ H', Same H H' → G H')
    (hs : ∀ c ∈ l, ∀ H1 (Q' : VK), Same H H1 → (∀ H2, Same H1 H2 → Q' (g c) H2) → te ((wipe σ [j]).set j (some (r c))) H1 Q') (q : ∀ D H', H D = none → Same H H' → H' D = some (.lst (l.map g)) → Q (.ref D) H') : rLcJ J (gName j) tYes te [j] σ H Q := by
  intro D hD
  refine lc_it w (fun i H' => Same H H' ∧ H' D = some (.lst ((l.take i).map g))) ⟨same_new hD, upd_same⟩ (fun i H' _ e => hG H' e.1) (fun i x H1 H2 hi e y => ?_) (fun H' e => by obtain ⟨e1, e2⟩ := e; rw [List.take_length] at e2; exact q D H' hD e1 e2)
  obtain ⟨e2, c, hc, rfl⟩ := y
  subst e2
  obtain ⟨e1, e2⟩ := e
  refine ⟨wipe_one, hs c (List.mem_of_getElem? hc) H2 (fun y H4 => ∃ acc, H4 D = some (.lst acc) ∧ acc.length < sizeLine ∧ (Same H (upd H4 D (.lst (acc ++ [y]))) ∧ (upd H4 D (.lst (acc ++ [y]))) D = some (.lst ((l.take (i + 1)).map g)))) e1 fun H4 s4 => ?_⟩
  refine ⟨_, s4 D _ e2, by rw [List.length_map, List.length_take]; omega, fun b o hb => by rw [upd_ne (ne_of_none hb hD)]; exact s4 b o (e1 b o hb), ?_⟩
  rw [upd_same, List.take_add_one, hc, List.map_append]; rfl

local macro_rules | `(tactic| walk_at "rd") => `(tactic| try simp only [L2.start, cxOf, tVar, tC, tOp, tUn, rI0, rI, rU, tCB, tCons, tNil, tAsg, tAug, ipI, gName, gSub, tDrop, tSub, tAdd, tMul, tCmp, t2I, tIsN, tNotN, tRet, tDGet_eq, sDPut_eq, tMeth_eq, tMethS_eq, tMkO_eq, tOst_eq, tXf_eq, iRevR_eq, tRg1_eq, tRg2_eq, tLstRg_eq, tRevL_eq, tMake, tFld_eq, sFld_eq, sFldAug_eq, rSub, rAdd, tCallS, tDisp, tPairs, rIntA, tDNewK, wipe, tFor_J, tLc_J, iRng1, iRng2, iList, iTup, iStr, tM1, tM0, tBM, tBM0, tSl, tPart, tNoPart, tLst, tTup, sizeLine_eq, Nat.reduceLeDiff, true_and, tIfS, tTest, tB, tAnd, tOr, tNot, tAndV, tOrV, tNotV, tChain, rEq, rNe, rNotB, rIsB, sc_ii, sc_ss, sc_bb, sc_in, sc_ni, sc_nn, sc_is, sc_si, sc_ns, sc_sn, sc_bn, sc_nb, sc_sb, sc_bs, tCall, tNext,  List.map, List.length, List.replicate, List.cons_append, List.nil_append, List.append_nil, List.getElem?_cons_zero, List.getElem?_cons_succ, List.set_cons_zero, List.set_cons_succ, Option.some.injEq, exists_eq_left', exists_eq_left, exists_eq', V.int.injEq, V.str.injEq, V.ref.injEq, V.bl.injEq, List.cons.injEq, and_true, true_and, and_assoc, exists_and_left, Int.reduceLT, Int.reduceNeg, Int.reduceLE, ↓reduceIte, Bool.false_eq_true, Bool.not_true, Bool.not_false, reduceCtorEq, false_and, and_false, exists_false, or_false, false_or, Nat.reduceAdd, Nat.reduceSub, decide_eq_true_eq, decide_true, decide_false])

structure ExcE (K : PySem.W.Frag) (C : Addr) : Prop where
  x : PySem.W.excIn K C [.type "Exception", .type "BaseException", .type "object"] "Exception.__new__" = true
  kp : PySem.W.keepIn K (.ref C) = true
  be : PySem.W.subIn K (.ref C) (.type "BaseException") = some true
  ty : PySem.W.typeIn K (.ref C) = some (.type "type")
theorem passH00 {X : Cx} : Passes CX0 X (fun _ _ _ => False) := fun _ _ _ _ _ _ _ h => h.elim
/-! ### xs.index(y, i), flat items -/
def rIndex2 (K : PySem.W.Frag) : V → List V → Hp → VK → Prop := fun x xs H Q => ∃ (a : Addr) (ys : List V) (y : V) (i j : Nat) (z : V), x = V.ref a ∧ xs = [y, .int (i : Nat)] ∧ SqL K H a ys ∧ flatV y = true ∧ ys.all flatV = true ∧ i ≤ j ∧ ys[j]? = some z ∧ eqV z y = true ∧
  (∀ (m : Nat) (z' : V), i ≤ m → m < j → ys[m]? = some z' → eqV z' y = false) ∧ Q (.int (j : Nat)) H
theorem mt_index2 {X : Cx} : MtR X "list.index" (rIndex2 X.K) := by
  intro pins s σ H x xs v us Q I rx rxs h
  obtain ⟨a, ys, y, i, j, z, rfl, rfl, hs, fy, fys, hij, hz, hzj, hno, q⟩ := h
  cases rx
  cases rxs with
  | cons ry rt =>
    rename_i uy ut
    cases rt with
    | cons ri rt =>
      cases rt
      obtain ⟨ti, rfl⟩ := ri
      obtain ⟨its, rv, ⟨⟨cls, dd, data, sl⟩, n, ho, hc, hdn, hd⟩, hlen⟩ := I.list hs
      simp only at hc hd
      subst hc hd
      obtain ⟨u, hu, ru⟩ := rv.get hz
      obtain ⟨hjl, hje⟩ := List.getElem?_eq_some_iff.mp hu
      have hvl := rv.length
      have hj : j < its.toArray.size := by simpa using hjl
      have hsl := sizeLine_eq
      have hsf : ∀ n : Nat, i ≤ n → SeqAt.searchFrom (i : Int) n = i := fun n _ => SeqAt.searchFrom_nat i n
      have at' : ∀ (m : Nat) (hm : m < its.toArray.size), ∃ w, ys[m]? = some w ∧ RelV w its.toArray[m] := fun m hm => by
        have hml : m < its.length := by simpa using hm
        have hmy : m < ys.length := by omega
        obtain ⟨u2, hu2, ru2⟩ := rv.get (List.getElem?_eq_getElem hmy)
        obtain ⟨_, hme⟩ := List.getElem?_eq_some_iff.mp hu2
        exact ⟨_, List.getElem?_eq_getElem hmy, by have e1 : its.toArray[m] = u2 := by simpa using hme
                                                   rw [e1]; exact ru2⟩
      refine call_meets PySem.F.slot_list_index ⟨_, ho, rfl⟩ PySem.F.entry_list_index (PySem.F.args_list_index_3 _ _ _)
        (SeqAt.list_index3_found a its.toArray n dd sl uy (fun m => eqV (ys.getD m .non) y) (i : Int) ti j hj (by rw [hsf _ (by omega)]; exact hij) (by omega) ?_ ?_) ⟨ho, fun m hm => ?_, ?_⟩
      · show eqV (ys.getD j .non) y = true
        rw [List.getD_eq_getElem?_getD, hz]; exact hzj
      · intro m hm hlo hmj
        rw [hsf _ (by omega)] at hlo
        obtain ⟨w, hw, rw'⟩ := at' m hm
        show eqV (ys.getD m .non) y = false
        rw [List.getD_eq_getElem?_getD, hw]
        exact hno m w hlo hmj hw
      · obtain ⟨w, hw, rw'⟩ := at' m hm
        have e : eqV (ys.getD m .non) y = eqU y (its.toArray[m]) := by
          rw [eqU_of rw' (flat_at fys hw), List.getD_eq_getElem?_getD, hw]; rfl
        rw [e]
        exact mem_eqAt ry fy rv fys (its.toArray[m]) (by simp)
      · exact ⟨.int (j : Nat), H, I.tok _, ⟨_, rfl⟩, q⟩

def topS (i : Nat) : Stmt := PySem.Challenge.pw_warycard_k90_scripts.main.body.getD i (.Pass ⟨0, 0, 0, 0⟩)
abbrev s_BadScript_init : Stmt := inClass (topS 2) 0
theorem sc_BadScript_init : FnScope ["self", "line", "reason"] ["self", "line", "reason"] (defScope s_BadScript_init) := ⟨rfl, rfl, rfl, by decide +kernel, rfl, by decide +kernel, by decide +kernel⟩
abbrev s_is_integer : Stmt := topS 9
theorem sc_is_integer : FnScope ["value", "least", "greatest"] ["value", "least", "greatest"] (defScope s_is_integer) := ⟨rfl, rfl, rfl, by decide +kernel, rfl, by decide +kernel, by decide +kernel⟩
abbrev s_is_printable : Stmt := topS 10
theorem sc_is_printable : FnScope ["value", "char"] ["value"] (defScope s_is_printable) := ⟨rfl, rfl, rfl, by decide +kernel, rfl, by decide +kernel, by decide +kernel⟩
abbrev s_is_name : Stmt := topS 11
theorem sc_is_name : FnScope ["value", "char"] ["value"] (defScope s_is_name) := ⟨rfl, rfl, rfl, by decide +kernel, rfl, by decide +kernel, by decide +kernel⟩
abbrev s_is_text : Stmt := topS 12
theorem sc_is_text : FnScope ["value"] ["value"] (defScope s_is_text) := ⟨rfl, rfl, rfl, by decide +kernel, rfl, by decide +kernel, by decide +kernel⟩
abbrev s_must : Stmt := topS 16
theorem sc_must : FnScope ["condition"] ["condition"] (defScope s_must) := ⟨rfl, rfl, rfl, by decide +kernel, rfl, by decide +kernel, by decide +kernel⟩
abbrev s_number_of : Stmt := topS 17
theorem sc_number_of : FnScope ["word", "most", "character"] ["word", "most"] (defScope s_number_of) := ⟨rfl, rfl, rfl, by decide +kernel, rfl, by decide +kernel, by decide +kernel⟩
abbrev s_name_of : Stmt := topS 18
theorem sc_name_of : FnScope ["word"] ["word"] (defScope s_name_of) := ⟨rfl, rfl, rfl, by decide +kernel, rfl, by decide +kernel, by decide +kernel⟩
abbrev s_data_of : Stmt := topS 19
theorem sc_data_of : FnScope ["word", "words", "one"] ["word"] (defScope s_data_of) := ⟨rfl, rfl, rfl, by decide +kernel, rfl, by decide +kernel, by decide +kernel⟩
abbrev s_named_call : Stmt := topS 20
theorem sc_named_call : FnScope ["line", "parts", "words"] ["line"] (defScope s_named_call) := ⟨rfl, rfl, rfl, by decide +kernel, rfl, by decide +kernel, by decide +kernel⟩
abbrev s_call_of : Stmt := topS 21
theorem sc_call_of : FnScope ["line", "words"] ["line"] (defScope s_call_of) := ⟨rfl, rfl, rfl, by decide +kernel, rfl, by decide +kernel, by decide +kernel⟩
abbrev s_parse_script : Stmt := topS 22
theorem sc_parse_script : FnScope ["text", "lines", "calls", "index", "line", "last", "row"] ["text"] (defScope s_parse_script) := ⟨rfl, rfl, rfl, by decide +kernel, rfl, by decide +kernel, by decide +kernel⟩
abbrev s_law_bag : Stmt := topS 24
theorem sc_law_bag : FnScope ["_law_script", "_law_k", "_law_cell"] ["_law_script", "_law_k"] (defScope s_law_bag) := ⟨rfl, rfl, rfl, by decide +kernel, rfl, by decide +kernel, by decide +kernel⟩
abbrev s_law_draw : Stmt := topS 25
theorem sc_law_draw : FnScope ["_law_bag_here", "_law_many", "_law_seed", "_law_rest"] ["_law_bag_here", "_law_many"] (defScope s_law_draw) := ⟨rfl, rfl, rfl, by decide +kernel, rfl, by decide +kernel, by decide +kernel⟩
abbrev s_law_number_text : Stmt := topS 26
theorem sc_law_number_text : FnScope ["_law_bag_here"] ["_law_bag_here"] (defScope s_law_number_text) := ⟨rfl, rfl, rfl, by decide +kernel, rfl, by decide +kernel, by decide +kernel⟩
abbrev s_law_bytes_text : Stmt := topS 27
theorem sc_law_bytes_text : FnScope ["_law_bag_here", "_law_many", "_law_words_here", "_law_k"] ["_law_bag_here"] (defScope s_law_bytes_text) := ⟨rfl, rfl, rfl, by decide +kernel, rfl, by decide +kernel, by decide +kernel⟩
abbrev s_law_name_text : Stmt := topS 28
theorem sc_law_name_text : FnScope ["_law_bag_here"] ["_law_bag_here"] (defScope s_law_name_text) := ⟨rfl, rfl, rfl, by decide +kernel, rfl, by decide +kernel, by decide +kernel⟩
abbrev s_law_line : Stmt := topS 29
theorem sc_law_line : FnScope ["_law_bag_here", "_law_kind", "_law_name", "_law_rows", "_law_lines", "_law_k"] ["_law_bag_here"] (defScope s_law_line) := ⟨rfl, rfl, rfl, by decide +kernel, rfl, by decide +kernel, by decide +kernel⟩
abbrev s_law_changed : Stmt := topS 30
theorem sc_law_changed : FnScope ["_law_bag_here", "_law_text_here", "_law_k", "_law_at", "_law_sign"] ["_law_bag_here", "_law_text_here"] (defScope s_law_changed) := ⟨rfl, rfl, rfl, by decide +kernel, rfl, by decide +kernel, by decide +kernel⟩
abbrev s_law_number : Stmt := topS 31
theorem sc_law_number : FnScope ["_law_word", "_law_most", "_law_one"] ["_law_word", "_law_most"] (defScope s_law_number) := ⟨rfl, rfl, rfl, by decide +kernel, rfl, by decide +kernel, by decide +kernel⟩
abbrev s_law_bytes : Stmt := topS 32
theorem sc_law_bytes : FnScope ["_law_word", "_law_numbers", "_law_one"] ["_law_word"] (defScope s_law_bytes) := ⟨rfl, rfl, rfl, by decide +kernel, rfl, by decide +kernel, by decide +kernel⟩
abbrev s_law_is_name : Stmt := topS 33
theorem sc_law_is_name : FnScope ["_law_word", "_law_letters", "_law_one"] ["_law_word"] (defScope s_law_is_name) := ⟨rfl, rfl, rfl, by decide +kernel, rfl, by decide +kernel, by decide +kernel⟩
abbrev s_law_words : Stmt := topS 34
theorem sc_law_words : FnScope ["_law_line_here", "_law_words_here", "_law_quoted", "_law_sign"] ["_law_line_here"] (defScope s_law_words) := ⟨rfl, rfl, rfl, by decide +kernel, rfl, by decide +kernel, by decide +kernel⟩
abbrev s_law_text : Stmt := topS 35
theorem sc_law_text : FnScope ["_law_word"] ["_law_word"] (defScope s_law_text) := ⟨rfl, rfl, rfl, by decide +kernel, rfl, by decide +kernel, by decide +kernel⟩
abbrev s_law_read : Stmt := topS 36
theorem sc_law_read : FnScope ["_law_line_here", "_law_words_here", "_law_shapes", "_law_items", "_law_k", "_law_letter"] ["_law_line_here"] (defScope s_law_read) := ⟨rfl, rfl, rfl, by decide +kernel, rfl, by decide +kernel, by decide +kernel⟩
abbrev s_law_due : Stmt := topS 37
theorem sc_law_due : FnScope ["_law_text_here", "_law_lines", "_law_calls", "_law_opened", "_law_k", "_law_call", "_law_line_here"] ["_law_text_here"] (defScope s_law_due) := ⟨rfl, rfl, rfl, by decide +kernel, rfl, by decide +kernel, by decide +kernel⟩
abbrev s_law_told : Stmt := topS 38
theorem sc_law_told : FnScope ["_law_text_here", "error"] ["_law_text_here"] (defScope s_law_told) := ⟨rfl, rfl, rfl, by decide +kernel, rfl, by decide +kernel, by decide +kernel⟩
abbrev s_law : Stmt := topS 39
theorem sc_law : FnScope ["_law_script", "_law_k", "_law_bag_here", "_law_text_here", "_law_value", "_law_j"] ["_law_script"] (defScope s_law) := ⟨rfl, rfl, rfl, by decide +kernel, rfl, by decide +kernel, by decide +kernel⟩
/-- what the top has left -/
structure Txt (K : PySem.W.Frag) (mg : Str → Option Value) where
  f_BadScript_init : Addr
  d_BadScript_init : FuncData
  k_BadScript_init : Fun K "__init__" "BadScript.__init__" s_BadScript_init f_BadScript_init d_BadScript_init
  b_BadScript_init : Binds K d_BadScript_init ["self", "line", "reason"] []
  f_is_integer : Addr
  d_is_integer : FuncData
  k_is_integer : Fun K "is_integer" "is_integer" s_is_integer f_is_integer d_is_integer
  b_is_integer : Binds K d_is_integer ["value", "least", "greatest"] []
  g_is_integer : mg "is_integer" = some (.ref f_is_integer)
  f_is_printable : Addr
  d_is_printable : FuncData
  k_is_printable : Fun K "is_printable" "is_printable" s_is_printable f_is_printable d_is_printable
  b_is_printable : Binds K d_is_printable ["value"] []
  g_is_printable : mg "is_printable" = some (.ref f_is_printable)
  f_is_name : Addr
  d_is_name : FuncData
  k_is_name : Fun K "is_name" "is_name" s_is_name f_is_name d_is_name
  b_is_name : Binds K d_is_name ["value"] []
  g_is_name : mg "is_name" = some (.ref f_is_name)
  f_is_text : Addr
  d_is_text : FuncData
  k_is_text : Fun K "is_text" "is_text" s_is_text f_is_text d_is_text
  b_is_text : Binds K d_is_text ["value"] []
  g_is_text : mg "is_text" = some (.ref f_is_text)
  f_must : Addr
  d_must : FuncData
  k_must : Fun K "must" "must" s_must f_must d_must
  b_must : Binds K d_must ["condition"] []
  g_must : mg "must" = some (.ref f_must)
  f_number_of : Addr
  d_number_of : FuncData
  k_number_of : Fun K "number_of" "number_of" s_number_of f_number_of d_number_of
  b_number_of : Binds K d_number_of ["word", "most"] []
  g_number_of : mg "number_of" = some (.ref f_number_of)
  f_name_of : Addr
  d_name_of : FuncData
  k_name_of : Fun K "name_of" "name_of" s_name_of f_name_of d_name_of
  b_name_of : Binds K d_name_of ["word"] []
  g_name_of : mg "name_of" = some (.ref f_name_of)
  f_data_of : Addr
  d_data_of : FuncData
  k_data_of : Fun K "data_of" "data_of" s_data_of f_data_of d_data_of
  b_data_of : Binds K d_data_of ["word"] []
  g_data_of : mg "data_of" = some (.ref f_data_of)
  f_named_call : Addr
  d_named_call : FuncData
  k_named_call : Fun K "named_call" "named_call" s_named_call f_named_call d_named_call
  b_named_call : Binds K d_named_call ["line"] []
  g_named_call : mg "named_call" = some (.ref f_named_call)
  f_call_of : Addr
  d_call_of : FuncData
  k_call_of : Fun K "call_of" "call_of" s_call_of f_call_of d_call_of
  b_call_of : Binds K d_call_of ["line"] []
  g_call_of : mg "call_of" = some (.ref f_call_of)
  f_parse_script : Addr
  d_parse_script : FuncData
  k_parse_script : Fun K "parse_script" "parse_script" s_parse_script f_parse_script d_parse_script
  b_parse_script : Binds K d_parse_script ["text"] []
  g_parse_script : mg "parse_script" = some (.ref f_parse_script)
  f_law_bag : Addr
  d_law_bag : FuncData
  k_law_bag : Fun K "_law_bag" "_law_bag" s_law_bag f_law_bag d_law_bag
  b_law_bag : Binds K d_law_bag ["_law_script", "_law_k"] []
  g_law_bag : mg "_law_bag" = some (.ref f_law_bag)
  f_law_draw : Addr
  d_law_draw : FuncData
  k_law_draw : Fun K "_law_draw" "_law_draw" s_law_draw f_law_draw d_law_draw
  b_law_draw : Binds K d_law_draw ["_law_bag_here", "_law_many"] []
  g_law_draw : mg "_law_draw" = some (.ref f_law_draw)
  f_law_number_text : Addr
  d_law_number_text : FuncData
  k_law_number_text : Fun K "_law_number_text" "_law_number_text" s_law_number_text f_law_number_text d_law_number_text
  b_law_number_text : Binds K d_law_number_text ["_law_bag_here"] []
  g_law_number_text : mg "_law_number_text" = some (.ref f_law_number_text)
  f_law_bytes_text : Addr
  d_law_bytes_text : FuncData
  k_law_bytes_text : Fun K "_law_bytes_text" "_law_bytes_text" s_law_bytes_text f_law_bytes_text d_law_bytes_text
  b_law_bytes_text : Binds K d_law_bytes_text ["_law_bag_here"] []
  g_law_bytes_text : mg "_law_bytes_text" = some (.ref f_law_bytes_text)
  f_law_name_text : Addr
  d_law_name_text : FuncData
  k_law_name_text : Fun K "_law_name_text" "_law_name_text" s_law_name_text f_law_name_text d_law_name_text
  b_law_name_text : Binds K d_law_name_text ["_law_bag_here"] []
  g_law_name_text : mg "_law_name_text" = some (.ref f_law_name_text)
  f_law_line : Addr
  d_law_line : FuncData
  k_law_line : Fun K "_law_line" "_law_line" s_law_line f_law_line d_law_line
  b_law_line : Binds K d_law_line ["_law_bag_here"] []
  g_law_line : mg "_law_line" = some (.ref f_law_line)
  f_law_changed : Addr
  d_law_changed : FuncData
  k_law_changed : Fun K "_law_changed" "_law_changed" s_law_changed f_law_changed d_law_changed
  b_law_changed : Binds K d_law_changed ["_law_bag_here", "_law_text_here"] []
  g_law_changed : mg "_law_changed" = some (.ref f_law_changed)
  f_law_number : Addr
  d_law_number : FuncData
  k_law_number : Fun K "_law_number" "_law_number" s_law_number f_law_number d_law_number
  b_law_number : Binds K d_law_number ["_law_word", "_law_most"] []
  g_law_number : mg "_law_number" = some (.ref f_law_number)
  f_law_bytes : Addr
  d_law_bytes : FuncData
  k_law_bytes : Fun K "_law_bytes" "_law_bytes" s_law_bytes f_law_bytes d_law_bytes
  b_law_bytes : Binds K d_law_bytes ["_law_word"] []
  g_law_bytes : mg "_law_bytes" = some (.ref f_law_bytes)
  f_law_is_name : Addr
  d_law_is_name : FuncData
  k_law_is_name : Fun K "_law_is_name" "_law_is_name" s_law_is_name f_law_is_name d_law_is_name
  b_law_is_name : Binds K d_law_is_name ["_law_word"] []
  g_law_is_name : mg "_law_is_name" = some (.ref f_law_is_name)
  f_law_words : Addr
  d_law_words : FuncData
  k_law_words : Fun K "_law_words" "_law_words" s_law_words f_law_words d_law_words
  b_law_words : Binds K d_law_words ["_law_line_here"] []
  g_law_words : mg "_law_words" = some (.ref f_law_words)
  f_law_text : Addr
  d_law_text : FuncData
  k_law_text : Fun K "_law_text" "_law_text" s_law_text f_law_text d_law_text
  b_law_text : Binds K d_law_text ["_law_word"] []
  g_law_text : mg "_law_text" = some (.ref f_law_text)
  f_law_read : Addr
  d_law_read : FuncData
  k_law_read : Fun K "_law_read" "_law_read" s_law_read f_law_read d_law_read
  b_law_read : Binds K d_law_read ["_law_line_here"] []
  g_law_read : mg "_law_read" = some (.ref f_law_read)
  f_law_due : Addr
  d_law_due : FuncData
  k_law_due : Fun K "_law_due" "_law_due" s_law_due f_law_due d_law_due
  b_law_due : Binds K d_law_due ["_law_text_here"] []
  g_law_due : mg "_law_due" = some (.ref f_law_due)
  f_law_told : Addr
  d_law_told : FuncData
  k_law_told : Fun K "_law_told" "_law_told" s_law_told f_law_told d_law_told
  b_law_told : Binds K d_law_told ["_law_text_here"] []
  g_law_told : mg "_law_told" = some (.ref f_law_told)
  f_law : Addr
  d_law : FuncData
  k_law : Fun K "law" "law" s_law f_law d_law
  b_law : Binds K d_law ["_law_script"] []
  g_law : mg "law" = some (.ref f_law)
  c_CardError : Addr
  g_CardError : mg "CardError" = some (.ref c_CardError)
  c_BadScript : Addr
  g_BadScript : mg "BadScript" = some (.ref c_BadScript)
  c_Unreadable : Addr
  g_Unreadable : mg "Unreadable" = some (.ref c_Unreadable)
  ox_BadScript : OexC K c_BadScript
  in_BadScript : PySem.W.findIn K (.ref c_BadScript) "__init__" = some (some (.ref f_BadScript_init))
  ti_BadScript : PySem.W.typeIn K (.ref f_BadScript_init) = some (.type "function")
  on_BadScript_line : PySem.W.findIn K (.ref c_BadScript) "line" = some none
  on_BadScript_reason : PySem.W.findIn K (.ref c_BadScript) "reason" = some none
  xf_BadScript : XfC K c_BadScript
  ex_Unreadable_BadScript : PySem.W.exmOne K (.ref c_Unreadable) (.ref c_BadScript) = some false
  ex_BadScript_BadScript : PySem.W.exmOne K (.ref c_BadScript) (.ref c_BadScript) = some true
  x_Unreadable : ExcE K c_Unreadable
  ex_Unreadable_Unreadable : PySem.W.exmOne K (.ref c_Unreadable) (.ref c_Unreadable) = some true
  ex_BadScript_Unreadable : PySem.W.exmOne K (.ref c_BadScript) (.ref c_Unreadable) = some false
  m_all : mg "all" = none
  m_bool : mg "bool" = none
  m_int : mg "int" = none
  m_isinstance : mg "isinstance" = none
  m_len : mg "len" = none
  m_max : mg "max" = none
  m_min : mg "min" = none
  m_ord : mg "ord" = none
  m_range : mg "range" = none
  m_str : mg "str" = none
  m_tuple : mg "tuple" = none
  t_MOST_NAME : Tok
  g_MOST_NAME : mg "MOST_NAME" = some (.int (20) t_MOST_NAME)
  t_MOST_TEXT : Tok
  g_MOST_TEXT : mg "MOST_TEXT" = some (.int (16) t_MOST_TEXT)
  t_MOST_BUFFER : Tok
  g_MOST_BUFFER : mg "MOST_BUFFER" = some (.int (64) t_MOST_BUFFER)
  t_LETTERS : Tok
  g_LETTERS : mg "LETTERS" = some (.str "ABCDEFGHIJKLMNOPQRSTUVWXYZabcdefghijklmnopqrstuvwxyz" t_LETTERS)
  t_DIGITS : Tok
  g_DIGITS : mg "DIGITS" = some (.str "0123456789" t_DIGITS)
  t_MOST_NUMBER : Tok
  g_MOST_NUMBER : mg "MOST_NUMBER" = some (.int (9999) t_MOST_NUMBER)
section
variable {P : Program} {w : World} {K : PySem.W.Frag} {mg : Str → Option Value} {base : Heap}
/-! ### the draws -/
def sp_law_bag (K : PySem.W.Frag) : Sp := fun vs H Q _ => ∃ (a : Addr) (ns : List Int) (k : Nat), vs = [.ref a, .int k] ∧ SqL K H a (ns.map V.int) ∧ ∀ (p : Addr) (H' : Hp), H p = none → Bag H' p → Same H H' → Q (.ref p) H'
theorem bag_new {H : Hp} {p : Addr} {x y z : Int} : Bag (upd H p (.lst [.int x, .int y, .int z])) p := ⟨x, y, z, upd_same⟩
theorem ok_law_bag (T : Txt K mg) : FnOk P w K mg base CX0 1 T.f_law_bag T.d_law_bag ["_law_script", "_law_k"] (sp_law_bag K) := by
  refine T.k_law_bag.ok sc_law_bag (fun vs H Q E h => ?_) (fun cdv A outer s H vs Q E hr h => ?_)
  · obtain ⟨a, ns, k, rfl, _⟩ := h
    rfl
  · obtain ⟨a, ns, k, rfl, hS, q⟩ := h
    refine ⟨_, (pss_cons (ps_set (i := 2) sc_law_bag.nd rfl (.inl rfl) pe_int)
      (C8.pss_cut (ps_if (pt_cmpR op_lt (pv 1) (pe_callB (lenLK K) (by rfl) T.m_len (by decide +kernel) (pa_cons (pv 0) pa_nil)) (nomark _)) (pss_one (ps_set (i := 2) sc_law_bag.nd rfl (.inl rfl) (pe_callTy call_intI (by rfl) T.m_int (by decide +kernel) (pa_cons (pe_ix (ix_listK K) (pv 0) (pv 1) (fun _ _ => rfl)) pa_nil)))) pss_nil)
      (pss_cons (ps_if (pt_cmpR op_ge (pv 2) (pe_op op_pow pe_int pe_int) (nomark _)) (pss_one (ps_ret (pe_lst (pa_cons (pv 2) (pa_cons (pv 2) (pa_cons (pv 1) pa_nil)))))) pss_nil)
      (pss_one (ps_ret (pe_lst (pa_cons pe_int (pa_cons (pv 2) (pa_cons (pv 1) pa_nil))))))))), ?_⟩
    walk_at "rd"
    refine rdSeq ?_
    walk_at "rd"
    refine rdCut (fun σ H' => H' = H ∧ ∃ c : Int, σ = [some (V.ref a), some (V.int (k : Int)), some (V.int c)]) ?_ ?_
    · walk_at "rd"
      refine i_lenL hS ?_
      walk_at "rd"
      refine ite2 (fun hk => ?_) (fun _ => trivial)
      rw [List.length_map] at hk
      have hk : k < ns.length := by omega
      refine i_ixL hS (atI_nat (j := k) (by rw [List.getElem?_map, List.getElem?_eq_getElem hk]; rfl)) ?_
      walk_at "rd"
    · rintro σ H' ⟨rfl, c, rfl⟩
      refine rdSeq ?_
      walk_at "rd"
      refine ⟨pow18, ite2 (fun _ => ?_) (fun _ => ?_)⟩
      · exact fun p hp => q p _ hp bag_new (same_new hp)
      · walk_at "rd"
        exact fun p hp => q p _ hp bag_new (same_new hp)
def sp_law_draw (K : PySem.W.Frag) : Sp := fun vs H Q _ => ∃ (a : Addr) (m : Int), vs = [.ref a, .int m] ∧ Bag H a ∧ 0 < m ∧ m.natAbs < 2 ^ 200 ∧ ∀ (r : Int) (H' : Hp), 0 ≤ r → r < m → Mv a H H' → Q (.int r) H'
theorem mv_set {H : Hp} {a : Addr} {x y z : Int} : Mv a H (upd H a (.lst [.int x, .int y, .int z])) := ⟨bag_new, fun b o n e => by rw [upd_ne n]; exact e⟩
theorem draw_size {m : Int} (h0 : 0 < m) (h : m.natAbs < 2 ^ 200) : CDivW x m := wide_div h0 h (by decide) (by decide)
theorem ok_law_draw (T : Txt K mg) : FnOk P w K mg base CX0 1 T.f_law_draw T.d_law_draw ["_law_bag_here", "_law_many"] (sp_law_draw K) := by
  refine T.k_law_draw.ok sc_law_draw (fun vs H Q E h => ?_) (fun cdv A outer s H vs Q E hr h => ?_)
  · obtain ⟨a, m, rfl, _⟩ := h
    rfl
  · obtain ⟨a, m, rfl, ⟨x, y, z, hB⟩, hm, hm2, q⟩ := h
    refine ⟨_, (C8.pss_cut (ps_if (pt_cmpR op_eq (pe_ix (ix_listK K) (pv 0) pe_int (fun _ _ => rfl)) pe_int (nomark _)) (pss_cons (ps_set (i := 2) sc_law_draw.nd rfl (.inl rfl) (pe_op op_modP (pe_callTy call_intI (by rfl) T.m_int (by decide +kernel) (pa_cons (pe_op op_add (pe_op op_add (pe_op op_mul (pe_ix (ix_listK K) (pv 0) pe_int (fun _ _ => rfl)) pe_int) (pe_op op_mul (pe_ix (ix_listK K) (pv 0) pe_int (fun _ _ => rfl)) pe_int)) pe_int) pa_nil)) pe_int))
      (pss_cons (ps_asg (pe_op op_add (pe_op op_mul (pv 2) pe_int) (pe_op op_modP (pe_callTy call_intI (by rfl) T.m_int (by decide +kernel) (pa_cons (pe_op op_add (pe_op op_mul (pv 2) (pv 2)) (pe_op op_mul (pe_ix (ix_listK K) (pv 0) pe_int (fun _ _ => rfl)) pe_int)) pa_nil)) pe_int)) (pg_sub (pv 0) pe_int set_list))
      (pss_one (ps_asg (pv 2) (pg_sub (pv 0) pe_int set_list))))) pss_nil)
      (pss_cons (ps_set (i := 3) sc_law_draw.nd rfl (.inl rfl) (pe_ix (ix_listK K) (pv 0) pe_int (fun _ _ => rfl)))
      (pss_cons (ps_asg (pe_op op_fdivW (pv 3) (pv 1)) (pg_sub (pv 0) pe_int set_list))
      (pss_one (ps_ret (pe_op op_modP (pe_callTy call_intI (by rfl) T.m_int (by decide +kernel) (pa_cons (pv 3) pa_nil)) (pv 1))))))), ?_⟩
    refine rdCut (fun σ H' => ∃ (x1 y1 z1 : Int) (u : Option V), H' a = some (.lst [.int x1, .int y1, .int z1]) ∧ Mv a H H' ∧ σ = [some (V.ref a), some (V.int m), u, none]) ?_ ?_
    · walk_at "rd"
      refine i_ixL (sqL_of hB) (v := .int x) rfl ?_
      walk_at "rd"
      refine ite2 (fun _ => ?_) (fun _ => ⟨x, y, z, hB, Mv.refl ⟨x, y, z, hB⟩⟩)
      refine rdSeq ?_
      walk_at "rd"
      refine i_ixL (sqL_of hB) (v := .int y) rfl ?_
      walk_at "rd"
      refine ⟨cm_r (by decide), i_ixL (sqL_of hB) (v := .int z) rfl ?_⟩
      walk_at "rd"
      refine ⟨cm_r (by decide), ?_⟩
      have h0 := Int.emod_nonneg (y * 48271 + z * 69621 + 11) (show (2147483647 : Int) ≠ 0 by decide)
      have h1 := Int.emod_lt_of_pos (y * 48271 + z * 69621 + 11) (show (0 : Int) < 2147483647 by decide)
      generalize (y * 48271 + z * 69621 + 11) % 2147483647 = sd at h0 h1
      refine rdSeq ?_
      walk_at "rd"
      refine ⟨cm_r (by decide), .inl ⟨by omega, by omega⟩, i_ixL (sqL_of hB) (v := .int z) rfl ?_⟩
      walk_at "rd"
      refine ⟨cm_r (by decide), i_setL hB (j := 0) rfl ?_⟩
      walk_at "rd"
      refine i_setL upd_same (j := 1) rfl ?_
      walk_at "rd"
      rw [upd_upd]
      exact ⟨_, _, _, upd_same, mv_set⟩
    · rintro σ H1 ⟨x1, y1, z1, u, h1, mv, rfl⟩
      refine rdSeq ?_
      walk_at "rd"
      refine i_ixL (sqL_of h1) (v := .int x1) rfl ?_
      refine rdSeq ?_
      walk_at "rd"
      refine ⟨draw_size hm hm2, i_setL h1 (j := 0) rfl ?_⟩
      walk_at "rd"
      refine ⟨hm, q _ _ (Int.emod_nonneg _ (by omega)) (Int.emod_lt_of_pos _ hm) (mv.trans mv_set)⟩
theorem i_draw {K : PySem.W.Frag} {H0 H : Hp} {a : Addr} {m : Int} {Q : VK} {E : XK} (mv : Mv a H0 H) (hm : 0 < m) (hs : m.natAbs < 2 ^ 200) (q : ∀ (r : Int) (H' : Hp), 0 ≤ r → r < m → Mv a H H' → Mv a H0 H' → Q (.int r) H') : sp_law_draw K [.ref a, .int m] H Q E :=
  ⟨a, m, rfl, mv.bag, hm, hs, fun r H' h0 h1 mv' => q r H' h0 h1 mv' (mv.trans mv')⟩
theorem at_int {ns : List Int} {i : Int} (h0 : 0 ≤ i) (h1 : i < ns.length) : ∃ v, atI (ns.map V.int) i = some (.int v) ∧ v ∈ ns := by
  obtain ⟨j, rfl⟩ := Int.eq_ofNat_of_zero_le h0
  have hi : j < ns.length := by omega
  exact ⟨ns[j], atI_nat (by rw [List.getElem?_map, List.getElem?_eq_getElem hi]; rfl), List.getElem_mem hi⟩


/-! ### is_integer -/
/-- not an integer, by its type -/
def Odd (K : PySem.W.Frag) (H : Hp) (x : V) : Prop := ∃ t, TyX K H x (.type t) ∧ (kitB t "int" = some false ∨ t = "bool")
def sp_is_integer (K : PySem.W.Frag) : Sp := fun vs H Q _ => ∃ (x : V) (lo hi : Int), vs = [x, .int lo, .int hi] ∧ ((∃ v, x = .int v ∧ Q (.bl (decide (lo ≤ v ∧ v ≤ hi))) H) ∨ (Odd K H x ∧ Q (.bl false) H))
theorem ok_is_integer (T : Txt K mg) : FnOk P w K mg base CX0 1 T.f_is_integer T.d_is_integer ["value", "least", "greatest"] (sp_is_integer K) := by
  refine T.k_is_integer.ok sc_is_integer (fun vs H Q E h => ?_) (fun cdv A outer s H vs Q E hr h => ?_)
  · obtain ⟨x, lo, hi, rfl, _⟩ := h
    rfl
  · obtain ⟨x, lo, hi, rfl, h⟩ := h
    refine ⟨_, (pss_one (ps_ret (pe_and (pe_callB (isiK K) (by rfl) T.m_isinstance (by decide +kernel) (pa_cons (pv 0) (pa_cons (pe_bltn (v := .ty "int") (by rfl) T.m_int (by decide +kernel) rfl) pa_nil))) (pe_and (pe_not (pe_callB (isiK K) (by rfl) T.m_isinstance (by decide +kernel) (pa_cons (pv 0) (pa_cons (pe_bltn (v := .ty "bool") (by rfl) T.m_bool (by decide +kernel) rfl) pa_nil)))) (pe_one (pe_chain op_le op_le (pv 1) (pv 0) (pv 2))))))), ?_⟩
    walk_at "rd"
    rcases h with ⟨v, rfl, q⟩ | ⟨⟨t, ty, h⟩, q⟩
    · refine i_isi ty_int kb_ii ?_
      walk_at "rd"
      refine i_isi ty_int kb_ib ?_
      walk_at "rd"
      refine ite2 (fun h1 => ?_) (fun h1 => ?_)
      · have e : decide (lo ≤ v ∧ v ≤ hi) = decide (v ≤ hi) := by simp [h1]
        rw [← e]; exact q
      · have e : decide (lo ≤ v ∧ v ≤ hi) = false := by simp [h1]
        rw [← e]; exact q
    · rcases h with h | rfl
      · refine i_isi ty h ?_
        walk_at "rd"
        exact q
      · refine i_isi ty kb_bi ?_
        walk_at "rd"
        refine i_isi ty kb_bb ?_
        walk_at "rd"
        exact q



/-! ### texts.py -/
/-- not a text, by its type -/
def OddS (K : PySem.W.Frag) (H : Hp) (x : V) : Prop := ∃ t, TyX K H x (.type t) ∧ kitB t "str" = some false
def prn (c : Nat) : Bool := decide (32 ≤ c) && (decide (c ≤ 126) && !decide (c = 37))
def sp_is_printable (K : PySem.W.Frag) : Sp := fun vs H Q _ => ∃ x : V, vs = [x] ∧ ((∃ z : Str, x = .str z ∧ z.length ≤ 100000 ∧ ∀ H', Same H H' → Q (.bl (z.cps.toList.all prn)) H') ∨ (OddS K H x ∧ Q (.bl false) H))
theorem ok_is_printable (T : Txt K mg) : FnOk P w K mg base CX0 1 T.f_is_printable T.d_is_printable ["value"] (sp_is_printable K) := by
  refine T.k_is_printable.ok sc_is_printable (fun vs H Q E h => ?_) (fun cdv A outer s H vs Q E hr h => ?_)
  · obtain ⟨x, rfl, _⟩ := h
    rfl
  · obtain ⟨x, rfl, h⟩ := h
    refine ⟨_, (pss_cons (ps_if (pt_not (pt_val (pe_callB (isiK K) (by rfl) T.m_isinstance (by decide +kernel) (pa_cons (pv 0) (pa_cons (pe_bltn (v := .ty "str") (by rfl) T.m_str (by decide +kernel) rfl) pa_nil))))) (pss_one (ps_ret pe_bl)) pss_nil)
      (pss_one (ps_ret (pe_callB (cr_all rfl) (by rfl) T.m_all (by decide +kernel) (pa_cons (pe_lc (own := [("char", 1)]) (g := gName 1) (tt := tYes) rfl sc_is_printable.nd (pi_str (pv 0)) (blkOk_by (own := [("char", 1)]) (N := ["value", "char"]) (sc := defScope s_is_printable) (by decide +kernel)) (fun _ _ _ _ _ => pg_name (i := 1) sc_is_printable.nd rfl (Or.inl rfl)) (fun _ _ _ _ _ => pts_nil) (fun _ _ _ _ _ => (pe_and (pe_chain op_leC op_leC pe_str (pv 1) pe_str) (pe_one (pe_cmpR op_ne (pe_callB call_ordC (by rfl) T.m_ord (by decide +kernel) (pa_cons (pv 1) pa_nil)) pe_int (nomark _)))))) pa_nil))))), ?_⟩
    walk_at "rd"
    refine rdSeq ?_
    walk_at "rd"
    rcases h with ⟨z, rfl, hz, q⟩ | ⟨⟨t, ty, ht⟩, q⟩
    · refine i_isi ty_str kb_ss ?_
      walk_at "rd"
      refine i_lcL (walk_chars (z := z)) (fun c => .bl (prn c)) (by rw [Array.length_toList]; exact line5' hz) (fun _ _ _ => trivial) (fun c hc H1 Q' sm q' => ?_) (fun D hD => ?_)
      · walk_at "rd"
        refine i_leC (c := 32) (d := c) rfl rfl ?_
        walk_at "rd"
        unfold prn at q'
        refine ite2 (fun h1 => i_leC (c := c) (d := 126) rfl rfl ?_) (fun h1 => by rw [decide_eq_false h1] at q'; exact q')
        rw [decide_eq_true h1] at q'
        walk_at "rd"
        refine ite2 (fun h2 => i_ordC rfl ⟨rfl, ?_⟩) (fun h2 => by rw [decide_eq_false h2] at q'; exact q')
        rw [decide_eq_true h2] at q'
        have e : decide (V.int (c : Int) = V.int 37) = decide (c = 37) := by
          by_cases h : c = 37
          · subst h; rfl
          · rw [decide_eq_false h, decide_eq_false]
            intro k; injection k with k; omega
        rw [e]
        exact q'
      · refine i_all (bs := z.cps.toList.map prn) (by rw [upd_same, List.map_map]; rfl) ?_
        rw [List.all_map]
        exact q _ (same_new hD)
    · refine i_isi ty ht ?_
      walk_at "rd"
      exact q
def letC (c : Nat) : Bool := decide (c ∈ ("ABCDEFGHIJKLMNOPQRSTUVWXYZabcdefghijklmnopqrstuvwxyz" : Str).cps.toList)
def digC (c : Nat) : Bool := decide (c ∈ ("0123456789" : Str).cps.toList)
def nameC (l : List Nat) : Bool := decide (1 ≤ l.length ∧ l.length ≤ 20) && (letC (l.headD 0) && l.all fun c => letC c || digC c)
def sp_is_name (K : PySem.W.Frag) : Sp := fun vs H Q _ => ∃ x : V, vs = [x] ∧ ((∃ z : Str, x = .str z ∧ z.length ≤ 100000 ∧ ∀ H', Same H H' → Q (.bl (nameC z.cps.toList)) H') ∨ (OddS K H x ∧ Q (.bl false) H))
theorem ok_is_name (T : Txt K mg) : FnOk P w K mg base CX0 1 T.f_is_name T.d_is_name ["value"] (sp_is_name K) := by
  refine T.k_is_name.ok sc_is_name (fun vs H Q E h => ?_) (fun cdv A outer s H vs Q E hr h => ?_)
  · obtain ⟨x, rfl, _⟩ := h
    rfl
  · obtain ⟨x, rfl, h⟩ := h
    refine ⟨_, (pss_cons (ps_if (PW.pt (pw_or (pt_not (pt_val (pe_callB (isiK K) (by rfl) T.m_isinstance (by decide +kernel) (pa_cons (pv 0) (pa_cons (pe_bltn (v := .ty "str") (by rfl) T.m_str (by decide +kernel) rfl) pa_nil))))) (pw_or (pt_not (pt_chain op_le op_le pe_int (pe_callB call_lenS (by rfl) T.m_len (by decide +kernel) (pa_cons (pv 0) pa_nil)) (pe_glob (v := .int _) rfl T.g_MOST_NAME ⟨_, rfl⟩))) (pw_or1 (pt_cmpR op_notInC (pe_ix ix_str (pv 0) pe_int (fun _ _ => rfl)) (pe_glob (v := .str _) rfl T.g_LETTERS ⟨_, rfl⟩) rfl))))) (pss_one (ps_ret pe_bl)) pss_nil)
      (pss_one (ps_ret (pe_callB (cr_all rfl) (by rfl) T.m_all (by decide +kernel) (pa_cons (pe_lc (own := [("char", 1)]) (g := gName 1) (tt := tYes) rfl sc_is_name.nd (pi_str (pv 0)) (blkOk_by (own := [("char", 1)]) (N := ["value", "char"]) (sc := defScope s_is_name) (by decide +kernel)) (fun _ _ _ _ _ => pg_name (i := 1) sc_is_name.nd rfl (Or.inl rfl)) (fun _ _ _ _ _ => pts_nil) (fun _ _ _ _ _ => (pe_or (pe_cmpR op_inC (pv 1) (pe_glob (v := .str _) rfl T.g_LETTERS ⟨_, rfl⟩) rfl) (pe_one (pe_cmpR op_inC (pv 1) (pe_glob (v := .str _) rfl T.g_DIGITS ⟨_, rfl⟩) rfl))))) pa_nil))))), ?_⟩
    walk_at "rd"
    refine rdSeq ?_
    walk_at "rd"
    rcases h with ⟨z, rfl, hz, q⟩ | ⟨⟨t, ty, ht⟩, q⟩
    · refine i_isi ty_str kb_ss ?_
      walk_at "rd"
      have q : ∀ (H' : Hp) b, Same H H' → b = nameC z.cps.toList → Q (V.bl b) H' := fun H' b s e => by rw [e]; exact q H' s
      have ez : z.cps.toList.length = z.length := Array.length_toList
      refine i_lenS rfl (line5 hz) ?_
      walk_at "rd"
      have out : ¬ (1 ≤ z.cps.toList.length ∧ z.cps.toList.length ≤ 20) → nameC z.cps.toList = false := fun h => by unfold nameC; rw [decide_eq_false h]; rfl
      refine ite2 (fun h1 => ?_) (fun h1 => q _ _ (Same.refl H) (out (by omega)).symm)
      by_cases h2 : (z.length : Int) ≤ 20
      case neg => exact i_then (by simp only [Bool.not_eq_true', decide_eq_false_iff_not]; exact h2) (q _ _ (Same.refl H) (out (by omega)).symm)
      refine i_else (by simp [h2]) ?_
      have hd : decide (1 ≤ z.cps.toList.length ∧ z.cps.toList.length ≤ 20) = true := decide_eq_true ⟨by omega, by omega⟩
      obtain ⟨c, r, ec⟩ : ∃ c r, z.cps.toList = c :: r := by
        cases e : z.cps.toList with
        | nil => rw [e] at ez; simp at ez; omega
        | cons c r => exact ⟨c, r, rfl⟩
      refine i_ixS (c := c) (line5 hz) (by rw [ec]; exact atI_nat (j := 0) rfl) (i_inC rfl rfl ?_)
      walk_at "rd"
      have eN : nameC z.cps.toList = (letC c && (z.cps.toList.all fun c => letC c || digC c)) := by
        unfold nameC; rw [hd, ec]; rfl
      by_cases h3 : letC c = true
      case neg => exact i_then (by simp only [Bool.not_eq_true', decide_eq_false_iff_not]; exact fun k => h3 (decide_eq_true k)) (q _ _ (Same.refl H) (by rw [eN]; simp [h3]))
      refine i_else (by simp only [Bool.not_eq_true', decide_eq_false_iff_not]; exact fun k => k (of_decide_eq_true h3)) ?_
      refine i_lcL (walk_chars (z := z)) (fun c => .bl (letC c || digC c)) (by rw [Array.length_toList]; exact line5' hz) (fun _ _ _ => trivial) (fun c hc H1 Q' sm q' => ?_) (fun D hD => ?_)
      · walk_at "rd"
        refine i_inC rfl rfl ?_
        walk_at "rd"
        unfold letC at q'
        refine ite2 (fun h => by rw [decide_eq_true h] at q'; exact q') (fun h => i_inC rfl rfl ?_)
        rw [decide_eq_false h] at q'
        exact q'
      · refine i_all (bs := z.cps.toList.map fun c => letC c || digC c) (by rw [upd_same, List.map_map]; rfl) ?_
        refine q _ _ (same_new hD) ?_
        rw [eN, h3, List.all_map]; rfl
    · refine i_isi ty ht ?_
      walk_at "rd"
      exact q
def txtC (l : List Nat) : Bool := l.all prn && (decide (1 ≤ l.length ∧ l.length ≤ 16) && !decide (34 ∈ l))
def sp_is_text (K : PySem.W.Frag) : Sp := fun vs H Q _ => ∃ x : V, vs = [x] ∧ ((∃ z : Str, x = .str z ∧ z.length ≤ 100000 ∧ ∀ H', Same H H' → Q (.bl (txtC z.cps.toList)) H') ∨ (OddS K H x ∧ Q (.bl false) H))
theorem ok_is_text (T : Txt K mg) : FnOk P w K mg base CX0 2 T.f_is_text T.d_is_text ["value"] (sp_is_text K) := by
  refine T.k_is_text.ok sc_is_text (fun vs H Q E h => ?_) (fun cdv A outer s H vs Q E hr h => ?_)
  · obtain ⟨x, rfl, _⟩ := h
    rfl
  · obtain ⟨x, rfl, h⟩ := h
    refine ⟨_, (pss_one (ps_ret (pe_and (pe_call (ok_is_printable T) (hr.mono (by decide)) (by rfl) T.g_is_printable T.k_is_printable.kp T.b_is_printable .nil pass0 (pa_cons (pv 0) pa_nil)) (pe_and (pe_chain op_le op_le pe_int (pe_callB call_lenS (by rfl) T.m_len (by decide +kernel) (pa_cons (pv 0) pa_nil)) (pe_glob (v := .int _) rfl T.g_MOST_TEXT ⟨_, rfl⟩)) (pe_one (pe_cmpR op_notInC pe_str (pv 0) rfl)))))), ?_⟩
    walk_at "rd"
    rcases h with ⟨z, rfl, hz, q⟩ | ⟨od, q⟩
    · have q : ∀ (H' : Hp) b, Same H H' → b = txtC z.cps.toList → Q (V.bl b) H' := fun H' b s e => by rw [e]; exact q H' s
      have ez : z.cps.toList.length = z.length := Array.length_toList
      refine ⟨_, rfl, .inl ⟨z, rfl, hz, fun H1 sm => ?_⟩⟩
      walk_at "rd"
      refine ite2 (fun h1 => i_lenS rfl (line5 hz) ?_) (fun h1 => q _ _ sm (by unfold txtC; simp [h1]))
      walk_at "rd"
      have out : ¬ (1 ≤ z.cps.toList.length ∧ z.cps.toList.length ≤ 16) → txtC z.cps.toList = false := fun h => by unfold txtC; rw [decide_eq_false h]; simp
      refine ite2 (fun h2 => ?_) (fun h2 => q _ _ sm (out (by omega)).symm)
      refine ite2 (fun h3 => i_inC (c := 34) rfl rfl ?_) (fun h3 => q _ _ sm (out (by omega)).symm)
      refine q _ _ sm ?_
      unfold txtC
      rw [h1, decide_eq_true (show 1 ≤ z.cps.toList.length ∧ z.cps.toList.length ≤ 16 from ⟨by omega, by omega⟩)]
      rfl
    · refine ⟨_, rfl, .inr ⟨od, ?_⟩⟩
      walk_at "rd"
      exact q

/-! ### texts cut at a sign -/
def spc (c : Nat) : List Nat → List (List Nat)
  | [] => [[]]
  | d :: r => if d = c then [] :: spc c r else (d :: (spc c r).headD []) :: (spc c r).tail
theorem spc_ne (c : Nat) : ∀ l, spc c l ≠ []
  | [] => by simp [spc]
  | d :: r => by unfold spc; split <;> simp
theorem spc_cons (c : Nat) (l : List Nat) : spc c l = (spc c l).headD [] :: (spc c l).tail := by
  cases h : spc c l with
  | nil => exact absurd h (spc_ne c l)
  | cons w ws => rfl
theorem spl_spc (c : Nat) : ∀ (l acc : List Nat), TL.spl [c] 0 acc l = (acc ++ (spc c l).headD []) :: (spc c l).tail
  | [], acc => by rw [TL.spl_nil]; simp [spc]
  | d :: r, acc => by
    by_cases h : d = c
    · subst h
      have hp : TL.pre [d] (d :: r) = true := by unfold TL.pre; simp
      rw [TL.spl_hit hp]
      show acc :: TL.spl [d] 0 [] r = _
      rw [spl_spc d r [], List.nil_append, ← spc_cons]
      simp [spc]
    · have hp : ¬ TL.pre [c] (d :: r) = true := by unfold TL.pre; simp [h]
      show (if TL.pre [c] (d :: r) = true then _ else TL.spl [c] 0 (acc ++ [d]) r) = _
      rw [if_neg hp, spl_spc c r (acc ++ [d])]
      simp [spc, h]
theorem split_c {z : Str} {c : Nat} (hc : c < 256) : Txt.split z ⟨#[c]⟩ = (spc c z.cps.toList).map fun l => (⟨l.toArray⟩ : Str) := by
  have h := TL.split_spl z ⟨#[c]⟩ (by simp) (TL.kind_ok (by simpa using hc))
  have e : TL.tl (⟨#[c]⟩ : Str) = [c] := rfl
  rw [e, spl_spc, List.nil_append, ← spc_cons] at h
  have h2 := congrArg (List.map fun l => (⟨l.toArray⟩ : Str)) h
  rw [List.map_map] at h2
  rw [← h2]
  exact (List.map_id'' (fun s => by show (⟨s.cps.toList.toArray⟩ : Str) = s; simp) _).symm
theorem spc_mem {c : Nat} : ∀ {l : List Nat} {w : List Nat}, w ∈ spc c l → c ∉ w ∧ ∀ d ∈ w, d ∈ l
  | [], w, h => by simp [spc] at h; subst h; simp
  | d :: r, w, h => by
    unfold spc at h
    split at h
    · rcases List.mem_cons.mp h with rfl | h
      · simp
      · obtain ⟨h1, h2⟩ := spc_mem h
        exact ⟨h1, fun x hx => List.mem_cons_of_mem _ (h2 x hx)⟩
    · rename_i hd
      have hh : (spc c r).headD [] ∈ spc c r := by rw [spc_cons c r]; simp
      rcases List.mem_cons.mp h with rfl | h
      · obtain ⟨h1, h2⟩ := spc_mem hh
        refine ⟨fun k => ?_, fun x hx => ?_⟩
        · rcases List.mem_cons.mp k with k | k
          · exact hd k.symm
          · exact h1 k
        · rcases List.mem_cons.mp hx with rfl | hx
          · exact List.mem_cons_self
          · exact List.mem_cons_of_mem _ (h2 x hx)
      · obtain ⟨h1, h2⟩ := spc_mem (List.mem_of_mem_tail h)
        exact ⟨h1, fun x hx => List.mem_cons_of_mem _ (h2 x hx)⟩
theorem spc_len (c : Nat) : ∀ l, (spc c l).length = l.count c + 1
  | [] => rfl
  | d :: r => by
    have h := spc_len c r
    unfold spc
    by_cases hd : d = c
    · subst hd; rw [if_pos rfl, List.length_cons, h, List.count_cons_self]
    · rw [if_neg hd, List.length_cons, List.length_tail, h, List.count_cons_of_ne hd]; omega
theorem spc_none {c : Nat} {l : List Nat} (h : c ∉ l) : spc c l = [l] := by
  induction l with
  | nil => rfl
  | cons d r ih =>
    have h1 : ¬ d = c := fun e => h (by rw [e]; exact List.mem_cons_self)
    unfold spc
    rw [if_neg h1, ih fun k => h (List.mem_cons_of_mem _ k)]; rfl
theorem spc_step (c d : Nat) (r : List Nat) : spc c (d :: r) = if d = c then [] :: spc c r else (d :: (spc c r).headD []) :: (spc c r).tail := rfl
theorem spc_app {c : Nat} (a b : List Nat) : spc c (a ++ c :: b) = spc c a ++ spc c b := by
  induction a with
  | nil => rw [List.nil_append, spc_step, if_pos rfl]; rfl
  | cons d r ih =>
    rw [List.cons_append, spc_step, spc_step, ih]
    by_cases hd : d = c
    · rw [if_pos hd, if_pos hd]; rfl
    · rw [if_neg hd, if_neg hd, spc_cons c r]; rfl
theorem spc_le {c : Nat} : ∀ {l : List Nat} {w : List Nat}, w ∈ spc c l → w.length ≤ l.length
  | [], w, h => by simp [spc] at h; subst h; simp
  | d :: r, w, h => by
    rw [spc_step] at h
    split at h
    · rcases List.mem_cons.mp h with rfl | h
      · simp
      · have := spc_le h; simp; omega
    · rcases List.mem_cons.mp h with rfl | h
      · have := spc_le (show (spc c r).headD [] ∈ spc c r by rw [spc_cons c r]; simp)
        simp only [List.length_cons]; omega
      · have := spc_le (List.mem_of_mem_tail h); simp; omega

/-! ### scripts.py -/
/-- Unreadable comes out -/
def ErrU (C : Addr) (H : Hp) (E : XK) : Prop := ∀ H' : Hp, Same H H' → E (.ref C) none H'
theorem ErrU.same {C : Addr} {H H' : Hp} {E : XK} (h : ErrU C H E) (s : Same H H') : ErrU C H' E := fun H2 s2 => h H2 (s.trans s2)
def sp_must {K : PySem.W.Frag} {mg : Str → Option Value} (T : Txt K mg) : Sp := fun vs H Q E => ∃ c : Bool, vs = [.bl c] ∧ (c = true → Q .non H) ∧ (c = false → ErrU T.c_Unreadable H E)
theorem ok_must (T : Txt K mg) : FnOk P w K mg base (L2N.CX P w) 1 T.f_must T.d_must ["condition"] (sp_must T) := by
  refine okXN T.k_must sc_must (fun vs H Q E h => ?_) (fun cdv A outer s H vs Q E hr h => ?_)
  · obtain ⟨c, rfl, _⟩ := h
    rfl
  · obtain ⟨c, rfl, q1, q2⟩ := h
    refine ⟨_, (pss_one (ps_if (pt_not (pt_val (pv 0))) (pss_one (L2N.ps_raise rfl (L2N.takes_of rfl rfl rfl rfl) (pmkN_own0 PySem.F.excBase_Exception T.x_Unreadable.x T.g_Unreadable T.x_Unreadable.kp (raises_own T.x_Unreadable.be T.x_Unreadable.ty) (by exact rfl)))) pss_nil)), ?_⟩
    walk_at "rd"
    cases c with
    | true => walk_at "rd"; exact q1 rfl
    | false => walk_at "rd"; exact q2 rfl H (Same.refl H)
theorem i_must {T : Txt K mg} {c : Bool} {H : Hp} {Q : VK} {E : XK} (h1 : c = true → Q .non H) (h2 : c = false → ErrU T.c_Unreadable H E) : sp_must T [.bl c] H Q E := ⟨c, rfl, h1, h2⟩
theorem i_orM {T : Txt K mg} {a : Prop} [Decidable a] {b : Bool} {H : Hp} {Q : VK} {E : XK} (h : sp_must T [.bl (!decide a || b)] H Q E) : if (!decide a) = true then sp_must T [.bl true] H Q E else sp_must T [.bl b] H Q E := by
  cases q : (!decide a) with
  | true => rw [q, Bool.true_or] at h; exact i_then rfl h
  | false => rw [q, Bool.false_or] at h; exact i_else (by simp) h
theorem str1_ne {c d : Nat} (h : ¬ c = d) : ¬ ((⟨#[c]⟩ : Str) = ⟨#[d]⟩) := fun e => h (by
  have e2 : ([c] : List Nat) = [d] := congrArg (fun z : Str => z.cps.toList) e
  injection e2)
theorem digC_range {c : Nat} (h : digC c = true) : 48 ≤ c ∧ c ≤ 57 := by
  have h1 : c ∈ ("0123456789" : Str).cps.toList := of_decide_eq_true h
  have h2 := List.all_eq_true.mp (show (("0123456789" : Str).cps.toList.all fun c => decide (48 ≤ c) && decide (c ≤ 57)) = true by decide +kernel) c h1
  simpa using h2
theorem cl_ext {a b : Str} (h : a.cps.toList = b.cps.toList) : a = b := by
  obtain ⟨⟨a⟩⟩ := a
  obtain ⟨⟨b⟩⟩ := b
  have : a = b := h
  rw [this]
def numP (l : List Nat) (most : Int) : Bool := decide (1 ≤ l.length ∧ l.length ≤ 4) && (l.all digC && ((!decide (l.headD 0 = 48) || decide (l = [48])) && decide ((NumText.digitsVal l : Int) ≤ most)))
def sp_number_of {K : PySem.W.Frag} {mg : Str → Option Value} (T : Txt K mg) : Sp := fun vs H Q E => ∃ (z : Str) (most : Int), vs = [.str z, .int most] ∧ z.length ≤ 100000 ∧ (numP z.cps.toList most = true → Q (.int (NumText.digitsVal z.cps.toList : Nat)) H) ∧ (numP z.cps.toList most = false → ErrU T.c_Unreadable H E)
theorem ok_number_of (T : Txt K mg) : FnOk P w K mg base (L2N.CX P w) 2 T.f_number_of T.d_number_of ["word", "most"] (sp_number_of T) := by
  refine okXN T.k_number_of sc_number_of (fun vs H Q E h => ?_) (fun cdv A outer s H vs Q E hr h => ?_)
  · obtain ⟨z, m, rfl, _⟩ := h
    rfl
  · obtain ⟨z, most, rfl, hz, q1, q2⟩ := h
    refine ⟨_, (pss_cons (ps_expr (pe_callS (ok_must T) (hr.mono (by decide)) (by rfl) T.g_must T.k_must.kp T.b_must (fun σ => L2N.passAt (L2N.takes_of rfl rfl rfl rfl) σ) (pa_cons (pe_and (pe_cmpR op_lt pe_int (pe_callB call_lenS (by rfl) T.m_len (by decide +kernel) (pa_cons (pv 0) pa_nil)) (nomark _)) (pe_one (pe_cmpR op_le (pe_callB call_lenS (by rfl) T.m_len (by decide +kernel) (pa_cons (pv 0) pa_nil)) pe_int (nomark _)))) pa_nil)))
      (pss_cons (ps_for (passes_of rfl) rfl (pi_str (pv 0)) (pg_name (i := 2) sc_number_of.nd rfl (Or.inl rfl)) (pss_one (ps_expr (pe_callS (ok_must T) (hr.mono (by decide)) (by rfl) T.g_must T.k_must.kp T.b_must (fun σ => L2N.passAt (L2N.takes_of rfl rfl rfl rfl) σ) (pa_cons (pe_cmpR op_inC (pv 2) pe_str rfl) pa_nil)))))
      (pss_cons (ps_expr (pe_callS (ok_must T) (hr.mono (by decide)) (by rfl) T.g_must T.k_must.kp T.b_must (fun σ => L2N.passAt (L2N.takes_of rfl rfl rfl rfl) σ) (pa_cons (pe_or (pe_cmpR op_ne (pe_ix ix_str (pv 0) pe_int (fun _ _ => rfl)) pe_str (nomark _)) (pe_one (pe_cmpR op_eq (pv 0) pe_str (nomark _)))) pa_nil)))
      (pss_cons (ps_expr (pe_callS (ok_must T) (hr.mono (by decide)) (by rfl) T.g_must T.k_must.kp T.b_must (fun σ => L2N.passAt (L2N.takes_of rfl rfl rfl rfl) σ) (pa_cons (pe_call (ok_is_integer T) (hr.mono (by decide)) (by rfl) T.g_is_integer T.k_is_integer.kp T.b_is_integer .nil pass0 (pa_cons (pe_callTy call_int_str (by rfl) T.m_int (by decide +kernel) (pa_cons (pv 0) pa_nil)) (pa_cons pe_int (pa_cons (pv 1) pa_nil)))) pa_nil)))
      (pss_one (ps_ret (pe_callTy call_int_str (by rfl) T.m_int (by decide +kernel) (pa_cons (pv 0) pa_nil)))))))), ?_⟩
    have ez : z.cps.toList.length = z.length := Array.length_toList
    walk_at "rd"
    refine rdSeq ?_
    walk_at "rd"
    refine i_lenS rfl (line5 hz) ?_
    walk_at "rd"
    have eU : numP z.cps.toList most = false → ErrU T.c_Unreadable H E := q2
    have bad : ∀ {A1 : V → Hp → Prop}, numP z.cps.toList most = false → sp_must T [V.bl false] H A1 (fun cls d H => E cls d H) := fun h => i_must (fun h => by cases h) (fun _ => q2 h)
    refine ite2 (fun h1 => i_lenS rfl (line5 hz) ?_) (fun h1 => bad (by unfold numP; rw [decide_eq_false (by omega)]; rfl))
    walk_at "rd"
    refine i_must (fun h2 => ?_) (fun h2 => q2 (by unfold numP; rw [decide_eq_false (by have := of_decide_eq_false h2; omega)]; rfl))
    have h2 := of_decide_eq_true h2
    have hl : decide (1 ≤ z.cps.toList.length ∧ z.cps.toList.length ≤ 4) = true := decide_eq_true (by omega)
    refine rdSeq ?_
    walk_at "rd"
    refine i_for (walk_chars (z := z)) (fun i σ H' => H' = H ∧ (z.cps.toList.take i).all digC = true ∧ ∃ y, σ = [some (.str z), some (.int most), y]) ⟨rfl, by simp, _, rfl⟩ (fun _ _ _ _ _ => trivial) ?_ ?_
    · rintro i _ σ _ H1 hi ⟨rfl, hd, y, rfl⟩ ⟨rfl, c, hc, rfl⟩
      walk_at "rd"
      refine i_inC rfl rfl ?_
      walk_at "rd"
      refine i_must (fun hdc => ?_) (fun hdc => q2 ?_)
      · rw [List.take_add_one, hc, List.all_append, hd]
        have : digC c = true := hdc
        simp [this]
      · unfold numP
        have : z.cps.toList.all digC = false := by
          rw [List.all_eq_false]
          exact ⟨c, List.mem_of_getElem? hc, by have : digC c = false := hdc
                                                rw [this]; simp⟩
        rw [this, Bool.false_and, Bool.and_false]
    · rintro σ H1 ⟨rfl, hd, y, rfl⟩
      rw [List.take_length] at hd
      dsimp only
      refine rdSeq ?_
      walk_at "rd"
      obtain ⟨c, r, ec⟩ : ∃ c r, z.cps.toList = c :: r := by
        cases e : z.cps.toList with
        | nil => rw [e] at ez; simp at ez; omega
        | cons c r => exact ⟨c, r, rfl⟩
      have hv : intText? z = some ((NumText.digitsVal z.cps.toList : Nat) : Int) := intText_digits (fun c hc => digC_range (List.all_eq_true.mp hd c hc)) (by rw [ec]; simp) (by omega)
      refine i_ixS (c := c) (line5 hz) (by rw [ec]; exact atI_nat (j := 0) rfl) ⟨rfl, ?_⟩
      have hN : numP z.cps.toList most = ((!decide (c = 48) || decide (z.cps.toList = [48])) && decide ((NumText.digitsVal z.cps.toList : Int) ≤ most)) := by
        unfold numP
        rw [hd, hl, Bool.true_and, Bool.true_and]
        have : z.cps.toList.headD 0 = c := by rw [ec]; rfl
        rw [this]
      have e1 : (!decide (V.str ⟨#[c]⟩ = V.str (Str.ofString "0"))) = !decide (c = 48) := by
        by_cases h : c = 48
        · subst h; rfl
        · have : ¬ (V.str ⟨#[c]⟩ = V.str (Str.ofString "0")) := fun k => absurd (V.str.inj k) (str1_ne h)
          rw [decide_eq_false h, decide_eq_false this]
      have e2 : decide (z = Str.ofString "0") = decide (z.cps.toList = [48]) := by
        by_cases h : z = Str.ofString "0"
        · subst h; rfl
        · have : ¬ (z.cps.toList = [48]) := fun k => h (cl_ext k)
          rw [decide_eq_false h, decide_eq_false this]
      refine i_orM (i_must (fun h3 => ?_) (fun h3 => q2 ?_))
      · rw [e1, e2] at h3
        rw [h3, Bool.true_and] at hN
        refine rdSeq ?_
        walk_at "rd"
        refine ⟨_, hv, by omega, ?_⟩
        refine ⟨_, _, _, rfl, .inl ⟨_, rfl, i_must (fun h4 => ?_) (fun h4 => q2 ?_)⟩⟩
        · have h4 := of_decide_eq_true h4
          exact ⟨_, hv, by omega, q1 (by rw [hN]; exact decide_eq_true h4.2)⟩
        · have h4 := of_decide_eq_false h4
          rw [hN]
          exact decide_eq_false fun h5 => h4 ⟨by omega, h5⟩
      · rw [e1, e2] at h3
        rw [hN, h3, Bool.false_and]
def sp_name_of {K : PySem.W.Frag} {mg : Str → Option Value} (T : Txt K mg) : Sp := fun vs H Q E => ∃ z : Str, vs = [.str z] ∧ z.length ≤ 100000 ∧ (nameC z.cps.toList = true → ∀ H', Same H H' → Q (.str z) H') ∧ (nameC z.cps.toList = false → ErrU T.c_Unreadable H E)
theorem ok_name_of (T : Txt K mg) : FnOk P w K mg base (L2N.CX P w) 2 T.f_name_of T.d_name_of ["word"] (sp_name_of T) := by
  refine okXN T.k_name_of sc_name_of (fun vs H Q E h => ?_) (fun cdv A outer s H vs Q E hr h => ?_)
  · obtain ⟨z, rfl, _⟩ := h
    rfl
  · obtain ⟨z, rfl, hz, q1, q2⟩ := h
    refine ⟨_, (pss_cons (ps_expr (pe_callS (ok_must T) (hr.mono (by decide)) (by rfl) T.g_must T.k_must.kp T.b_must (fun σ => L2N.passAt (L2N.takes_of rfl rfl rfl rfl) σ) (pa_cons (pe_call (ok_is_name T) (hr.mono (by decide)) (by rfl) T.g_is_name T.k_is_name.kp T.b_is_name .nil pass0 (pa_cons (pv 0) pa_nil)) pa_nil)))
      (pss_one (ps_ret (pv 0)))), ?_⟩
    walk_at "rd"
    refine rdSeq ?_
    walk_at "rd"
    refine ⟨_, rfl, .inl ⟨z, rfl, hz, fun H1 s1 => i_must (fun h1 => ?_) (fun h1 => (q2 h1).same s1)⟩⟩
    walk_at "rd"
    exact q1 h1 H1 s1

def dataP (l : List Nat) : Option (List Nat) := if l = [45] then some [] else if decide ((spc 44 l).length ≤ 64) && (spc 44 l).all (fun w => numP w 255) then some ((spc 44 l).map fun w => NumText.digitsVal w) else none
def sp_data_of {K : PySem.W.Frag} {mg : Str → Option Value} (T : Txt K mg) : Sp := fun vs H Q E => ∃ z : Str, vs = [.str z] ∧ z.length ≤ 100000 ∧
  (∀ ns, dataP z.cps.toList = some ns → ∀ p H', Same H H' → H' p = some (.tup (ns.map fun n : Nat => .int n)) → Q (.ref p) H') ∧ (dataP z.cps.toList = none → ErrU T.c_Unreadable H E)
theorem ok_data_of (T : Txt K mg) : FnOk P w K mg base (L2N.CX P w) 3 T.f_data_of T.d_data_of ["word"] (sp_data_of T) := by
  refine okXN T.k_data_of sc_data_of (fun vs H Q E h => ?_) (fun cdv A outer s H vs Q E hr h => ?_)
  · obtain ⟨z, rfl, _⟩ := h
    rfl
  · obtain ⟨z, rfl, hz, q1, q2⟩ := h
    refine ⟨_, (pss_cons (ps_if (pt_cmpR op_eq (pv 0) pe_str (nomark _)) (pss_one (ps_ret (pe_tup pa_nil))) pss_nil)
      (pss_cons (ps_set (i := 1) sc_data_of.nd rfl (.inl rfl) (pe_split (pv 0) pe_str))
      (pss_cons (ps_expr (pe_callS (ok_must T) (hr.mono (by decide)) (by rfl) T.g_must T.k_must.kp T.b_must (fun σ => L2N.passAt (L2N.takes_of rfl rfl rfl rfl) σ) (pa_cons (pe_cmpR op_le (pe_callB (lenLK K) (by rfl) T.m_len (by decide +kernel) (pa_cons (pv 1) pa_nil)) (pe_glob (v := .int _) rfl T.g_MOST_BUFFER ⟨_, rfl⟩) (nomark _)) pa_nil)))
      (pss_one (ps_ret (pe_callTy call_tuple_of (by rfl) T.m_tuple (by decide +kernel) (pa_cons (pe_lcXN (own := [("one", 2)]) (g := gName 2) (tt := tYes) rfl rfl (L2N.takes_of rfl rfl rfl rfl) (fun _ _ _ _ h => h) rfl sc_data_of.nd (pi_list (pv 1)) (blkOk_by (own := [("one", 2)]) (N := ["word", "words", "one"]) (sc := defScope s_data_of) (by decide +kernel)) (fun _ _ _ _ _ => pg_name (i := 2) sc_data_of.nd rfl (Or.inl rfl)) (fun _ _ _ _ _ => pts_nil) (fun _ _ _ _ _ => (pe_call (ok_number_of T) (hr.mono (by decide)) (by rfl) T.g_number_of T.k_number_of.kp T.b_number_of .nil passes_blkN (pa_cons (pv 2) (pa_cons pe_int pa_nil))))) pa_nil))))))), ?_⟩
    have ez : z.cps.toList.length = z.length := Array.length_toList
    walk_at "rd"
    refine rdSeq ?_
    walk_at "rd"
    refine ite2 (fun h => fun p hp => q1 [] (by unfold dataP; rw [if_pos (by rw [h]; rfl)]) p _ (same_new hp) upd_same) (fun h => ?_)
    have hn : ¬ z.cps.toList = [45] := fun k => h (cl_ext k)
    refine rdSeq ?_
    walk_at "rd"
    refine ⟨rfl, by omega, fun p hp => ?_⟩
    rw [show Txt.split z (Str.ofString ",") = (spc 44 z.cps.toList).map fun l => (⟨l.toArray⟩ : Str) from split_c (by decide)]
    walk_at "rd"
    refine rdSeq ?_
    walk_at "rd"
    refine i_lenL (sqL_of upd_same) ?_
    walk_at "rd"
    have sp := same_new (o := HO.lst (List.map V.str (List.map (fun l => (⟨l.toArray⟩ : Str)) (spc 44 z.cps.toList)))) hp
    have dN : decide ((spc 44 z.cps.toList).length ≤ 64) = false → dataP z.cps.toList = none := fun h => by unfold dataP; rw [if_neg hn, h]; rfl
    have dA : (spc 44 z.cps.toList).all (fun w => numP w 255) = false → dataP z.cps.toList = none := fun h => by unfold dataP; rw [if_neg hn, h, Bool.and_false]; rfl
    refine i_must (fun h1 => ?_) (fun h1 => (q2 (dN (by have := of_decide_eq_false h1; rw [List.length_map, List.length_map] at this; exact decide_eq_false (by omega)))).same sp)
    have h1 := of_decide_eq_true h1
    rw [List.length_map, List.length_map] at h1
    walk_at "rd"
    have ld : ∀ w ∈ spc 44 z.cps.toList, w.length ≤ 100000 := fun w hw => by
      have := spc_le hw
      omega
    generalize hL : spc 44 z.cps.toList = L at *
    refine ⟨⟨_, sqL_of upd_same⟩, ?_⟩
    intro D hD
    have pD : p ≠ D := fun e => by rw [e, upd_same] at hD; cases hD
    refine lc_it (walk_list (K := K) (a := p) (xs := (L.map fun l => (⟨l.toArray⟩ : Str)).map V.str)) (fun i H' => (L.take i).all (fun w => numP w 255) = true ∧ Same H H' ∧ H' p = some (.lst ((L.map fun l => (⟨l.toArray⟩ : Str)).map V.str)) ∧ H' D = some (.lst ((L.take i).map fun w => V.int (NumText.digitsVal w : Nat)))) ?_ ?_ ?_ ?_
    · exact ⟨rfl, sp.trans (same_new hD), by rw [upd_ne pD, upd_same], by rw [upd_same]; rfl⟩
    · rintro i H' _ ⟨_, _, h, _⟩
      exact sqL_of h
    · rintro i v H' H2 hi ⟨ha, sm, hp', hD'⟩ ⟨rfl, hx⟩
      refine ⟨wipe_one, ?_⟩
      walk_at "rd"
      rw [List.getElem?_map, List.getElem?_map] at hx
      rw [List.length_map, List.length_map] at hi
      have hw := List.getElem?_eq_getElem hi
      rw [hw] at hx
      cases hx
      have hm : L[i] ∈ L := List.getElem_mem hi
      have pD0 : H D = none := by
        cases q : H D with
        | none => rfl
        | some u => rw [sp D u q] at hD; cases hD
      have tk : L.take (i + 1) = L.take i ++ [L[i]] := by rw [List.take_add_one, hw]; rfl
      unfold tYes
      dsimp only
      rw [if_pos rfl]
      refine ⟨_, _, rfl, by show L[i].toArray.size ≤ 100000; rw [List.size_toArray]; exact ld _ hm, fun hn1 => ⟨_, hD', ?_, ?_, ?_, ?_, ?_⟩, fun hn1 => (q2 (dA ?_)).same sm⟩
      · rw [List.length_map, List.length_take]; omega
      · rw [tk, List.all_append, ha]; simp; exact hn1
      · exact fun a o ha => by rw [upd_ne (ne_of_none ha pD0)]; exact sm a o ha
      · rw [upd_ne pD]; exact hp'
      · rw [upd_same, tk, List.map_append]; rfl
      · exact List.all_eq_false.mpr ⟨_, hm, by have : numP L[i] 255 = false := hn1
                                               rw [this]; simp⟩
    · rintro H' ⟨ha, sm, hp', hD'⟩
      rw [List.length_map, List.length_map, List.take_length] at ha hD'
      refine ⟨D, rfl, _, .inl ⟨sqL_of hD', fun l hl => q1 (L.map fun w => NumText.digitsVal w) ?_ l _ (sm.trans (same_new hl)) ?_⟩⟩
      · unfold dataP
        rw [if_neg hn, hL, decide_eq_true (show L.length ≤ 64 by omega), ha]; rfl
      · rw [upd_same, List.map_map]; rfl

/-! ### the plain law of one line -/
inductive It where
  | s (l : List Nat)
  | n (k : Nat)
  | b (l : List Nat)
  | no
def kMake : List Nat := [109, 97, 107, 101]
def kChoose : List Nat := [99, 104, 111, 111, 115, 101]
def kSend : List Nat := [115, 101, 110, 100]
def kDrop : List Nat := [100, 114, 111, 112]
def kCollect : List Nat := [99, 111, 108, 108, 101, 99, 116]
def kCut : List Nat := [99, 117, 116]
def kReset : List Nat := [114, 101, 115, 101, 116]
/-! the law's reader -/
def inner (w : List Nat) : List Nat := w.tail.dropLast
def txtP (w : List Nat) : Option (List Nat) := if (3 ≤ w.length ∧ w.length ≤ 18) ∧ w.headD 0 = 34 ∧ w.getLastD 0 = 34 ∧ 34 ∉ inner w then some (inner w) else none
def numO (w : List Nat) (m : Int) : Option Nat := if numP w m = true then some (NumText.digitsVal w) else none
def itemP (c : Nat) (w : List Nat) : Option It := if c = 110 then (if nameC w = true then some (.s w) else none) else if c = 116 then (txtP w).map .s else if c = 98 then (dataP w).map .b else (numO w 9999).map .n
def lw : Bool → List Nat → List (List Nat)
  | _, [] => [[]]
  | q, c :: r => if c = 32 ∧ q = false then [] :: lw q r else (c :: (lw (if c = 34 then !q else q) r).headD []) :: (lw (if c = 34 then !q else q) r).tail
def shapeP (ws : List (List Nat)) : Option (List Nat) :=
  if ws.headD [] = kMake then some [110, 110, 116, 98] else if ws.headD [] = kChoose then some [105, 116] else if ws.headD [] = kSend then some [105, 98] else if ws.headD [] = kDrop then some [116] else
  if ws.headD [] = kCollect then some [] else if ws.headD [] = kCut then some [105] else if ws.headD [] = kReset then some (List.replicate (min 1 (ws.length - 1)) 105) else none
def seqO : List (Option It) → Option (List It)
  | [] => some []
  | none :: _ => none
  | some x :: r => (seqO r).map (x :: ·)
def finP (h : List Nat) (xs : List It) : List It := if h = kReset ∧ xs = [] then [.s h, .no] else .s h :: xs
def readW (ws : List (List Nat)) : Option (List It) :=
  match shapeP ws with
  | none => none
  | some sh => if ws.length = 1 + sh.length then (seqO (List.zipWith itemP sh ws.tail)).map (finP (ws.headD [])) else none
def readP (l : List Nat) : Option (List It) := readW (lw false l)
/-! the program's -/
def namedP (l : List Nat) : Option (List It) :=
  match spc 34 l with
  | [p0, p1, p2] => if txtC p1 = true ∧ p0.getLast? = some 32 then
      (if (spc 32 p0.dropLast).headD [] = kMake then
        (match spc 32 p0.dropLast with
          | [_, w1, w2] => if p2.head? = some 32 ∧ nameC w1 = true ∧ nameC w2 = true then (dataP p2.tail).map fun d => [.s kMake, .s w1, .s w2, .s p1, .b d] else none
          | _ => none)
      else if p2 = [] then
        (if (spc 32 p0.dropLast).headD [] = kChoose then
          (match spc 32 p0.dropLast with
            | [_, w1] => (numO w1 9999).map fun k => [.s kChoose, .n k, .s p1]
            | _ => none)
        else if spc 32 p0.dropLast = [kDrop] then some [.s kDrop, .s p1] else none)
      else none) else none
  | _ => none
def plainP (ws : List (List Nat)) : Option (List It) :=
  if ws = [kCollect] then some [.s kCollect] else if ws = [kReset] then some [.s kReset, .no] else
  if ws.headD [] = kCut ∨ ws.headD [] = kReset then
    (match ws with
      | [w0, w1] => (numO w1 9999).map fun k => [.s w0, .n k]
      | _ => none)
  else if ws.headD [] = kSend then
    (match ws with
      | [_, w1, w2] => (numO w1 9999).bind fun k => (dataP w2).map fun d => [.s kSend, .n k, .b d]
      | _ => none)
  else none
def callP (l : List Nat) : Option (List It) := if 34 ∈ l then namedP l else plainP (spc 32 l)
/-! lw and spc -/
theorem lw_ne (q : Bool) : ∀ l, lw q l ≠ []
  | [] => by simp [lw]
  | d :: r => by unfold lw; split <;> simp
theorem lw_cons (q : Bool) (l : List Nat) : lw q l = (lw q l).headD [] :: (lw q l).tail := by
  cases h : lw q l with
  | nil => exact absurd h (lw_ne q l)
  | cons w ws => rfl
theorem lw_step (q : Bool) (c : Nat) (r : List Nat) : lw q (c :: r) = if c = 32 ∧ q = false then [] :: lw q r else (c :: (lw (if c = 34 then !q else q) r).headD []) :: (lw (if c = 34 then !q else q) r).tail := rfl
theorem lw_noq : ∀ {l : List Nat}, 34 ∉ l → lw false l = spc 32 l
  | [], _ => rfl
  | c :: r, h => by
    have h1 : ¬ c = 34 := fun e => h (by rw [e]; exact List.mem_cons_self)
    have ih := lw_noq (l := r) fun k => h (List.mem_cons_of_mem _ k)
    rw [lw_step, spc_step, if_neg h1, ih]
    by_cases hc : c = 32
    · rw [if_pos ⟨hc, rfl⟩, if_pos hc]
    · rw [if_neg (fun k => hc k.1), if_neg hc]
/-- within quotes -/
theorem lw_q : ∀ {p r : List Nat}, 34 ∉ p → lw true (p ++ 34 :: r) = (p ++ 34 :: (lw false r).headD []) :: (lw false r).tail
  | [], r, _ => by rw [List.nil_append, lw_step, if_neg (by simp), if_pos rfl]; rfl
  | c :: p, r, h => by
    have h1 : ¬ c = 34 := fun e => h (by rw [e]; exact List.mem_cons_self)
    have ih := lw_q (p := p) (r := r) fun k => h (List.mem_cons_of_mem _ k)
    rw [List.cons_append, lw_step, if_neg (by simp), if_neg h1, ih]; rfl
/-- what stands behind the last word of p -/
def glue (a : List (List Nat)) (b : List (List Nat)) : List (List Nat) := a.dropLast ++ (a.getLastD [] ++ b.headD []) :: b.tail
theorem glue_cons {x : List Nat} {a b : List (List Nat)} (h : a ≠ []) : glue (x :: a) b = x :: glue a b := by
  cases a with
  | nil => exact absurd rfl h
  | cons y r => rfl
theorem glue_one {x : List Nat} {b : List (List Nat)} : glue [x] b = (x ++ b.headD []) :: b.tail := rfl
theorem glue_ne {a b : List (List Nat)} : glue a b ≠ [] := by unfold glue; simp
theorem glue_pre {c : Nat} {x : List Nat} {a b : List (List Nat)} : glue ((c :: x) :: a) b = (c :: (glue (x :: a) b).headD []) :: (glue (x :: a) b).tail := by
  cases a with
  | nil => rw [glue_one, glue_one]; rfl
  | cons y r => rw [glue_cons (x := c :: x) (a := y :: r) (by simp), glue_cons (x := x) (a := y :: r) (by simp)]; rfl
theorem lw_app : ∀ {p r : List Nat}, 34 ∉ p → lw false (p ++ r) = glue (spc 32 p) (lw false r)
  | [], r, _ => by rw [List.nil_append, lw_cons]; rfl
  | c :: p, r, h => by
    have h1 : ¬ c = 34 := fun e => h (by rw [e]; exact List.mem_cons_self)
    have ih := lw_app (p := p) (r := r) fun k => h (List.mem_cons_of_mem _ k)
    rw [List.cons_append, lw_step, spc_step, if_neg h1, ih]
    by_cases hc : c = 32
    · rw [if_pos ⟨hc, rfl⟩, if_pos hc, glue_cons (spc_ne _ _)]
    · rw [if_neg (fun k => hc k.1), if_neg hc, glue_pre, ← spc_cons]
theorem lw_two {p0 p1 p2 : List Nat} (h0 : 34 ∉ p0) (h1 : 34 ∉ p1) (h2 : 34 ∉ p2) : lw false (p0 ++ 34 :: (p1 ++ 34 :: p2)) = (spc 32 p0).dropLast ++ ((spc 32 p0).getLastD [] ++ 34 :: (p1 ++ 34 :: (spc 32 p2).headD [])) :: (spc 32 p2).tail := by
  rw [lw_app h0, lw_step, if_neg (by simp), if_pos rfl, Bool.not_false, lw_q h1, lw_noq h2]; rfl
theorem spc_last {c : Nat} (q : List Nat) : spc c (q ++ [c]) = spc c q ++ [[]] := spc_app q []
theorem spc_one0 {c : Nat} : ∀ {l p : List Nat}, spc c l = [p] → l = p
  | [], p, h => (List.cons.inj h).1
  | d :: r, p, h => by
    rw [spc_step] at h
    split at h
    · exact absurd (List.cons.inj h).2 (spc_ne c r)
    · obtain ⟨h1, h2⟩ := List.cons.inj h
      have e := spc_cons c r
      rw [h2] at e
      exact (congrArg (d :: ·) (spc_one0 e)).trans h1
theorem spc_two0 {c : Nat} : ∀ {l p q : List Nat}, spc c l = [p, q] → l = p ++ c :: q
  | [], p, q, h => nomatch (List.cons.inj h).2
  | d :: r, p, q, h => by
    rw [spc_step] at h
    split at h
    · rename_i e
      obtain ⟨h1, h2⟩ := List.cons.inj h
      rw [← h1, spc_one0 h2, e]; rfl
    · obtain ⟨h1, h2⟩ := List.cons.inj h
      have e := spc_cons c r
      rw [h2] at e
      rw [← h1]
      exact congrArg (d :: ·) (spc_two0 e)
theorem spc_two {c : Nat} : ∀ {l p0 p1 p2 : List Nat}, spc c l = [p0, p1, p2] → l = p0 ++ c :: (p1 ++ c :: p2)
  | [], p, q, _, h => nomatch (List.cons.inj h).2
  | d :: r, p0, p1, p2, h => by
    rw [spc_step] at h
    split at h
    · rename_i e
      obtain ⟨h1, h2⟩ := List.cons.inj h
      rw [← h1, spc_two0 h2, e]; rfl
    · obtain ⟨h1, h2⟩ := List.cons.inj h
      have e := spc_cons c r
      rw [h2] at e
      rw [← h1]
      exact congrArg (d :: ·) (spc_two e)
theorem spc_one' {c : Nat} {l : List Nat} {p : List Nat} (h : spc c l = [p]) : l = p ∧ c ∉ l := by
  have h1 := spc_len c l
  rw [h] at h1
  have h2 : l.count c = 0 := by simp at h1; omega
  have h3 : c ∉ l := List.count_eq_zero.mp h2
  rw [spc_none h3] at h
  simp at h
  exact ⟨h, h3⟩
/-! which words hold no quote -/
theorem digC_no {c : Nat} (h : digC c = true) : c ≠ 34 ∧ c ≠ 32 ∧ c ≠ 44 := by
  have := digC_range h
  omega
theorem numP_dig {w : List Nat} {m : Int} (h : numP w m = true) : w.all digC = true := by
  unfold numP at h
  simp only [Bool.and_eq_true] at h
  exact h.2.1
theorem numP_no {w : List Nat} {m : Int} (h : numP w m = true) : 34 ∉ w ∧ 32 ∉ w := by
  have h1 := List.all_eq_true.mp (numP_dig h)
  exact ⟨fun k => (digC_no (h1 _ k)).1 rfl, fun k => (digC_no (h1 _ k)).2.1 rfl⟩
theorem numO_no {w : List Nat} {m : Int} (h : 34 ∈ w) : numO w m = none := by
  unfold numO
  split
  · rename_i k; exact absurd h (numP_no k).1
  · rfl
theorem letC_no {c : Nat} (h : letC c = true) : c ≠ 34 := by
  have h1 : c ∈ ("ABCDEFGHIJKLMNOPQRSTUVWXYZabcdefghijklmnopqrstuvwxyz" : Str).cps.toList := of_decide_eq_true h
  have h2 := List.all_eq_true.mp (show (("ABCDEFGHIJKLMNOPQRSTUVWXYZabcdefghijklmnopqrstuvwxyz" : Str).cps.toList.all fun c => decide (c ≠ 34)) = true by decide +kernel) c h1
  simpa using h2
theorem nameC_no {w : List Nat} (h : 34 ∈ w) : ¬ nameC w = true := by
  intro k
  unfold nameC at k
  simp only [Bool.and_eq_true] at k
  have h1 := List.all_eq_true.mp k.2.2 _ h
  simp only [Bool.or_eq_true] at h1
  rcases h1 with h1 | h1
  · exact letC_no h1 rfl
  · exact (digC_no h1).1 rfl
theorem spc_all {c d : Nat} (hd : d ≠ c) : ∀ {l : List Nat}, d ∈ l → ∃ w ∈ spc c l, d ∈ w
  | e :: r, h => by
    rw [spc_step]
    by_cases he : e = c
    · rw [if_pos he]
      rcases List.mem_cons.mp h with k | k
      · exact absurd (k.trans he) hd
      · obtain ⟨w, h1, h2⟩ := spc_all hd k
        exact ⟨w, List.mem_cons_of_mem _ h1, h2⟩
    · rw [if_neg he]
      rcases List.mem_cons.mp h with k | k
      · exact ⟨_, List.mem_cons_self, by rw [k]; exact List.mem_cons_self⟩
      · obtain ⟨w, h1, h2⟩ := spc_all hd k
        rw [spc_cons c r] at h1
        rcases List.mem_cons.mp h1 with k2 | k2
        · exact ⟨_, List.mem_cons_self, by rw [k2] at h2; exact List.mem_cons_of_mem _ h2⟩
        · exact ⟨w, List.mem_cons_of_mem _ k2, h2⟩
theorem dataP_no {w : List Nat} (h : 34 ∈ w ∨ 32 ∈ w) : dataP w = none := by
  unfold dataP
  split
  · rename_i e; subst e; simp at h
  · split
    · rename_i e
      simp only [Bool.and_eq_true] at e
      rcases h with h | h
      · obtain ⟨u, h1, h2⟩ := spc_all (c := 44) (by decide) h
        exact absurd h2 (numP_no (List.all_eq_true.mp e.2 u h1)).1
      · obtain ⟨u, h1, h2⟩ := spc_all (c := 44) (by decide) h
        exact absurd h2 (numP_no (List.all_eq_true.mp e.2 u h1)).2
    · rfl
theorem txtP_no {w : List Nat} (h : 34 ∉ w) : txtP w = none := by
  unfold txtP
  refine if_neg fun k => ?_
  cases w with
  | nil => simp at k
  | cons c r => exact h (by rw [show c = 34 from k.2.1]; exact List.mem_cons_self)
/-- a word with quotes that is no text fits nothing -/
theorem itemP_no {w : List Nat} (h : 34 ∈ w) (ht : txtP w = none) (c : Nat) : itemP c w = none := by
  unfold itemP
  rw [ht, dataP_no (.inl h), numO_no h, if_neg (nameC_no h)]
  split <;> (try rfl)
  split <;> (try rfl)
  split <;> rfl
theorem itemP_not {w : List Nat} (h : 34 ∈ w) {c : Nat} (hc : c ≠ 116) : itemP c w = none := by
  unfold itemP
  rw [dataP_no (.inl h), numO_no h, if_neg (nameC_no h), if_neg hc]
  split <;> (try rfl)
  split <;> rfl
theorem seqO_none : ∀ {os : List (Option It)}, none ∈ os → seqO os = none
  | none :: r, _ => rfl
  | some x :: r, h => by
    rcases List.mem_cons.mp h with k | k
    · cases k
    · unfold seqO; rw [seqO_none k]; rfl

theorem itemP_n {w : List Nat} : itemP 110 w = if nameC w = true then some (.s w) else none := rfl
theorem itemP_t {w : List Nat} : itemP 116 w = (txtP w).map .s := rfl
theorem itemP_b {w : List Nat} : itemP 98 w = (dataP w).map .b := rfl
theorem itemP_i {w : List Nat} : itemP 105 w = (numO w 9999).map .n := rfl
theorem shapeP_no {w : List Nat} {ws : List (List Nat)} (h : 34 ∈ w) : shapeP (w :: ws) = none := by
  have n : ∀ k : List Nat, 34 ∉ k → ¬ w = k := fun k hk e => hk (by rw [← e]; exact h)
  unfold shapeP
  rw [List.headD_cons, if_neg (n _ (by decide)), if_neg (n _ (by decide)), if_neg (n _ (by decide)), if_neg (n _ (by decide)), if_neg (n _ (by decide)), if_neg (n _ (by decide)), if_neg (n _ (by decide))]
theorem zip_none : ∀ {sh : List Nat} {ws : List (List Nat)} {W : List Nat}, sh.length = ws.length → W ∈ ws → (∀ c, itemP c W = none) → none ∈ List.zipWith itemP sh ws
  | _, [], _, _, h, _ => nomatch h
  | [], _ :: _, _, h, _, _ => nomatch h
  | c :: sh, w :: ws, W, hl, hm, h => by
    rw [List.zipWith_cons_cons]
    rcases List.mem_cons.mp hm with rfl | k
    · rw [h c]; exact List.mem_cons_self
    · exact List.mem_cons_of_mem _ (zip_none (by simpa using hl) k h)
theorem readW_bad {ws : List (List Nat)} {W : List Nat} (hm : W ∈ ws) (hq : 34 ∈ W) (ht : txtP W = none) : readW ws = none := by
  cases ws with
  | nil => cases hm
  | cons w r =>
    rcases List.mem_cons.mp hm with rfl | k
    · unfold readW; rw [shapeP_no hq]
    · unfold readW
      cases shapeP (w :: r) with
      | none => rfl
      | some sh =>
        dsimp only
        split
        · rename_i hl
          show (seqO (List.zipWith itemP sh r)).map _ = none
          rw [seqO_none (zip_none (by rw [List.length_cons] at hl; omega) k (itemP_no hq ht))]; rfl
        · rfl
theorem plain_law {w0 : List Nat} {r : List (List Nat)} (h : ∀ w ∈ w0 :: r, 34 ∉ w) : plainP (w0 :: r) = readW (w0 :: r) := by
  have ht : ∀ w ∈ r, txtP w = none := fun w hw => txtP_no (h w (List.mem_cons_of_mem _ hw))
  unfold plainP readW shapeP
  simp only [List.headD_cons, List.tail_cons, List.length_cons]
  by_cases e1 : w0 = kMake
  · subst e1
    rcases r with _ | ⟨a, _ | ⟨b, _ | ⟨c, _ | ⟨d, _ | ⟨e, r⟩⟩⟩⟩⟩ <;> simp [kMake, kSend, kCollect, kCut, kReset, List.zipWith, seqO]
    rw [itemP_t, ht c (by simp)]
    cases itemP 110 a <;> cases itemP 110 b <;> simp [seqO]
  by_cases e2 : w0 = kChoose
  · subst e2
    rcases r with _ | ⟨a, _ | ⟨b, _ | ⟨c, r⟩⟩⟩ <;> simp [kMake, kChoose, kSend, kCollect, kCut, kReset, List.zipWith, seqO]
    rw [itemP_t, ht b (by simp)]
    cases itemP 105 a <;> simp [seqO]
  by_cases e3 : w0 = kSend
  · subst e3
    rcases r with _ | ⟨a, _ | ⟨b, _ | ⟨c, r⟩⟩⟩ <;> simp [kMake, kChoose, kSend, kCollect, kCut, kReset, List.zipWith, seqO]
    rw [itemP_i, itemP_b]
    cases numO a 9999 <;> cases dataP b <;> simp [seqO, finP, kSend, kReset]
  by_cases e4 : w0 = kDrop
  · subst e4
    rcases r with _ | ⟨a, _ | ⟨b, r⟩⟩ <;> simp [kMake, kChoose, kSend, kDrop, kCollect, kCut, kReset, List.zipWith, seqO]
    rw [itemP_t, ht a (by simp)]
    rfl
  by_cases e5 : w0 = kCollect
  · subst e5
    rcases r with _ | ⟨a, r⟩ <;> simp [kMake, kChoose, kSend, kDrop, kCollect, kCut, kReset, List.zipWith, seqO, finP]
  by_cases e6 : w0 = kCut
  · subst e6
    rcases r with _ | ⟨a, _ | ⟨b, r⟩⟩ <;> simp [kMake, kChoose, kSend, kDrop, kCollect, kCut, kReset, List.zipWith, seqO]
    rw [itemP_i]
    cases numO a 9999 <;> simp [seqO, finP, kReset]
  by_cases e7 : w0 = kReset
  · subst e7
    rcases r with _ | ⟨a, _ | ⟨b, r⟩⟩ <;> simp [kMake, kChoose, kSend, kDrop, kCollect, kCut, kReset, List.zipWith, seqO, finP]
    rw [itemP_i]
    cases numO a 9999 <;> simp [seqO, finP, kReset]
  · have n1 : ¬ w0 :: r = [kCollect] := fun k => e5 (List.cons.inj k).1
    have n2 : ¬ w0 :: r = [kReset] := fun k => e7 (List.cons.inj k).1
    have n3 : ¬ (w0 = kCut ∨ w0 = kReset) := fun k => k.elim e6 e7
    refine ((if_neg n1).trans ((if_neg n2).trans ((if_neg n3).trans (if_neg e3)))).trans ?_
    have hs : shapeP (w0 :: r) = none := by
      unfold shapeP
      rw [List.headD_cons, if_neg e1, if_neg e2, if_neg e3, if_neg e4, if_neg e5, if_neg e6, if_neg e7]
    have hr : readW (w0 :: r) = none := by unfold readW; rw [hs]
    exact hr.symm
def quoP (u0 : List Nat) (ut t : List (List Nat)) (p1 : List Nat) : Option (List It) :=
  if u0 = kMake then (match ut, t with
    | [w1, w2], [w4] => if nameC w1 = true ∧ nameC w2 = true then (dataP w4).map fun d => [.s kMake, .s w1, .s w2, .s p1, .b d] else none
    | _, _ => none)
  else if u0 = kChoose then (match ut, t with
    | [w1], [] => (numO w1 9999).map fun k => [.s kChoose, .n k, .s p1]
    | _, _ => none)
  else if u0 = kDrop then (match ut, t with
    | [], [] => some [.s kDrop, .s p1]
    | _, _ => none)
  else none
theorem quo_law {u0 W p1 : List Nat} {ut t : List (List Nat)} (hW : 34 ∈ W) (hT : txtP W = some p1) (ht : ∀ w ∈ ut ++ t, 34 ∉ w) : readW (u0 :: ut ++ W :: t) = quoP u0 ut t p1 := by
  have ht : ∀ w ∈ ut ++ t, txtP w = none := fun w hw => txtP_no (ht w hw)
  have i1 : itemP 110 W = none := itemP_not hW (by decide)
  have i2 : itemP 98 W = none := itemP_not hW (by decide)
  have i3 : itemP 105 W = none := itemP_not hW (by decide)
  have i4 : itemP 116 W = some (.s p1) := by rw [itemP_t, hT]; rfl
  unfold readW shapeP quoP
  rw [List.cons_append]
  simp only [List.headD_cons, List.tail_cons, List.length_cons, List.length_append]
  by_cases e1 : u0 = kMake
  · subst e1
    rcases ut with _ | ⟨a, _ | ⟨b, _ | ⟨c, _ | ⟨d, r⟩⟩⟩⟩
    · rcases t with _ | ⟨a', _ | ⟨b', _ | ⟨c', _ | ⟨d', r'⟩⟩⟩⟩ <;> simp [List.zipWith, seqO, i1] <;> try (intro h; exfalso; omega)
    · rcases t with _ | ⟨a', _ | ⟨b', _ | ⟨c', r'⟩⟩⟩ <;> simp [List.zipWith, seqO, i1] <;> try (intro h; exfalso; omega)
      cases itemP 110 a <;> simp [seqO]
    · rcases t with _ | ⟨a', _ | ⟨b', r'⟩⟩ <;> simp [List.zipWith, seqO, i4] <;> try (intro h; exfalso; omega)
      rw [itemP_n, itemP_n, itemP_b]
      by_cases ha : nameC a = true
      · by_cases hb : nameC b = true
        · rw [if_pos ha, if_pos hb, if_pos ⟨ha, hb⟩]
          cases dataP a' <;> simp [seqO, finP, kMake, kReset]
        · simp [ha, hb, seqO]
      · simp [ha, seqO]
    · rcases t with _ | ⟨a', r'⟩ <;> simp [List.zipWith, seqO, i2] <;> try (intro h; exfalso; omega)
      rw [itemP_t, ht c (by simp)]
      cases itemP 110 a <;> cases itemP 110 b <;> simp [seqO]
    · simp <;> omega
  by_cases e2 : u0 = kChoose
  · subst e2
    rcases ut with _ | ⟨a, _ | ⟨b, r⟩⟩
    · rcases t with _ | ⟨a', _ | ⟨b', r'⟩⟩ <;> simp [kMake, kChoose, List.zipWith, seqO, i3] <;> try (intro h; exfalso; omega)
    · rcases t with _ | ⟨a', r'⟩ <;> simp [kMake, kChoose, List.zipWith, seqO, i4] <;> try (intro h; exfalso; omega)
      rw [itemP_i]
      cases numO a 9999 <;> simp [seqO, finP, kReset]
    · simp [kMake, kChoose] <;> omega
  by_cases e3 : u0 = kSend
  · subst e3
    rcases ut with _ | ⟨a, _ | ⟨b, r⟩⟩
    · rcases t with _ | ⟨a', _ | ⟨b', r'⟩⟩ <;> simp [kMake, kChoose, kSend, kDrop, List.zipWith, seqO, i3] <;> try (intro h; exfalso; omega)
    · rcases t with _ | ⟨a', r'⟩ <;> simp [kMake, kChoose, kSend, kDrop, List.zipWith, seqO, i2] <;> try (intro h; exfalso; omega)
      cases itemP 105 a <;> simp [seqO]
    · simp [kMake, kChoose, kSend, kDrop] <;> omega
  by_cases e4 : u0 = kDrop
  · subst e4
    rcases ut with _ | ⟨a, r⟩
    · rcases t with _ | ⟨a', r'⟩ <;> simp [kMake, kChoose, kSend, kDrop, List.zipWith, seqO, i4, finP, kReset] <;> try (intro h; exfalso; omega)
    · simp [kMake, kChoose, kSend, kDrop] <;> omega
  by_cases e5 : u0 = kCollect
  · subst e5
    simp [kMake, kChoose, kSend, kDrop, kCollect] <;> omega
  by_cases e6 : u0 = kCut
  · subst e6
    rcases ut with _ | ⟨a, r⟩
    · rcases t with _ | ⟨a', r'⟩ <;> simp [kMake, kChoose, kSend, kDrop, kCollect, kCut, List.zipWith, seqO, i3] <;> try (intro h; exfalso; omega)
    · simp [kMake, kChoose, kSend, kDrop, kCollect, kCut] <;> omega
  by_cases e7 : u0 = kReset
  · subst e7
    rcases ut with _ | ⟨a, r⟩
    · rcases t with _ | ⟨a', r'⟩ <;> simp [kMake, kChoose, kSend, kDrop, kCollect, kCut, kReset, List.zipWith, seqO, i3] <;> try (intro h; exfalso; omega)
    · simp [kMake, kChoose, kSend, kDrop, kCollect, kCut, kReset] <;> omega
  · rw [if_neg e1, if_neg e2, if_neg e3, if_neg e4, if_neg e5, if_neg e6, if_neg e7, if_neg e1, if_neg e2, if_neg e4]
theorem spc_lastD {c : Nat} : ∀ {l : List Nat}, l ≠ [] → l.getLast? ≠ some c → (spc c l).getLastD [] ≠ []
  | [d], _, h => by
    have h1 : ¬ d = c := fun e => h (by rw [e]; rfl)
    simp [spc, h1]
  | d :: e :: r, _, h => by
    have ih := spc_lastD (c := c) (l := e :: r) (by simp) (by rw [List.getLast?_cons_cons] at h; exact h)
    rw [spc_step]
    by_cases hd : d = c
    · rw [if_pos hd]
      rw [spc_cons c (e :: r)] at ih ⊢
      simpa using ih
    · rw [if_neg hd]
      rw [spc_cons c (e :: r)] at ih
      cases ht : (spc c (e :: r)).tail with
      | nil => simp
      | cons x y => rw [ht] at ih; simpa using ih
theorem txtP_quo {p1 : List Nat} (hp : p1.all prn = true) (h1 : 34 ∉ p1) : txtP (34 :: (p1 ++ [34])) = if txtC p1 = true then some p1 else none := by
  have e : inner (34 :: (p1 ++ [34])) = p1 := by unfold inner; simp
  have e2 : txtC p1 = true ↔ 1 ≤ p1.length ∧ p1.length ≤ 16 := by
    unfold txtC
    rw [hp]
    simp [h1]
  unfold txtP
  rw [e]
  by_cases h : 1 ≤ p1.length ∧ p1.length ≤ 16
  · rw [if_pos (e2.mpr h), if_pos ⟨by simp; omega, rfl, (List.getLastD_concat : ((34 :: p1) ++ [34]).getLastD 0 = 34), h1⟩]
  · rw [if_neg (fun k => h (e2.mp k)), if_neg (fun k => h (by have := k.1; simp at this; omega))]
theorem named_law {p0 p1 p2 : List Nat} (h0 : 34 ∉ p0) (h1 : 34 ∉ p1) (h2 : 34 ∉ p2) (hp : p1.all prn = true) {l : List Nat} (hl : spc 34 l = [p0, p1, p2]) : namedP l = readP l := by
  have el := spc_two hl
  unfold namedP readP
  rw [hl]
  dsimp only
  rw [el, lw_two h0 h1 h2]
  have n2 : ∀ w ∈ (spc 32 p2), 34 ∉ w := fun w hw k => h2 ((spc_mem hw).2 _ k)
  by_cases hs : p0.getLast? = some 32
  · obtain ⟨q, rfl⟩ : ∃ q, p0 = q ++ [32] := by
      have hne : p0 ≠ [] := fun k => by rw [k] at hs; cases hs
      refine ⟨p0.dropLast, ?_⟩
      rw [List.getLast?_eq_some_getLast hne] at hs
      have := List.dropLast_concat_getLast hne
      rw [Option.some.inj hs] at this
      exact this.symm
    have nq : 34 ∉ q := fun k => h0 (List.mem_append_left _ k)
    have nu : ∀ w ∈ (spc 32 q), 34 ∉ w := fun w hw k => nq ((spc_mem hw).2 _ k)
    rw [spc_last, List.dropLast_concat, List.getLastD_concat, List.nil_append, List.dropLast_concat]
    by_cases hb : (spc 32 p2).headD [] = []
    · rw [hb]
      have hT := txtP_quo hp h1
      by_cases ht : txtC p1 = true
      · rw [if_pos ht] at hT
        rw [if_pos ⟨ht, hs⟩]
        have e3 := quo_law (u0 := (spc 32 q).headD []) (ut := (spc 32 q).tail) (t := (spc 32 p2).tail) (W := 34 :: (p1 ++ [34])) (p1 := p1) List.mem_cons_self hT (fun w hw => by
          rcases List.mem_append.mp hw with k | k
          · exact nu w (List.mem_of_mem_tail k)
          · exact n2 w (List.mem_of_mem_tail k))
        rw [← spc_cons] at e3
        rw [e3]
        unfold quoP
        generalize hu : spc 32 q = u
        rw [hu] at nu
        cases u with
        | nil => exact absurd hu (spc_ne _ _)
        | cons u0 ut =>
        rw [List.headD_cons, List.tail_cons]
        have hp2 : p2 = [] ∨ ∃ r, p2 = 32 :: r := by
          cases p2 with
          | nil => exact .inl rfl
          | cons d r =>
            rw [spc_step] at hb
            split at hb
            · rename_i e; exact .inr ⟨r, by rw [e]⟩
            · cases hb
        have hdrop : u0 ≠ kDrop → (u0 :: ut = [kDrop]) = False := fun k => by simp [k]
        rcases hp2 with rfl | ⟨r, rfl⟩
        · have es : (spc 32 ([] : List Nat)).tail = [] := rfl
          rw [es]
          by_cases e1 : u0 = kMake
          · rw [if_pos e1, if_pos e1]
            rcases ut with _ | ⟨a, _ | ⟨b, _ | ⟨c, r⟩⟩⟩ <;> simp
          · rw [if_neg e1, if_neg e1, if_pos rfl]
            by_cases e2 : u0 = kChoose
            · rw [if_pos e2, if_pos e2]
              rcases ut with _ | ⟨a, _ | ⟨b, r⟩⟩ <;> simp
            · rw [if_neg e2, if_neg e2]
              by_cases e3 : u0 = kDrop
              · subst e3
                rw [if_pos rfl]
                rcases ut with _ | ⟨a, r⟩ <;> simp
              · rw [if_neg e3, if_neg (by simp [e3])]
        · have es : (spc 32 (32 :: r)).tail = spc 32 r := by rw [spc_step, if_pos rfl]; rfl
          rw [es]
          have er : ∀ {A : Option (List It)}, (if (32 :: r : List Nat) = [] then A else none) = none := fun {A} => if_neg (by simp)
          rw [er]
          by_cases e1 : u0 = kMake
          · rw [if_pos e1, if_pos e1]
            rcases ut with _ | ⟨a, _ | ⟨b, _ | ⟨c, r'⟩⟩⟩
            · rfl
            · rfl
            · show (if some 32 = some 32 ∧ nameC a = true ∧ nameC b = true then (dataP r).map _ else none) = _
              by_cases hr : 32 ∈ r
              · rw [dataP_no (.inr hr)]
                have hl := spc_len 32 r
                have hc : 0 < r.count 32 := List.count_pos_iff.mpr hr
                rcases hx : spc 32 r with _ | ⟨x, _ | ⟨y, z⟩⟩
                · exact absurd hx (spc_ne _ _)
                · rw [hx] at hl; simp at hl; omega
                · simp
              · rw [spc_none hr]
                simp
            · rcases hx : spc 32 r with _ | ⟨x, _ | ⟨y, z⟩⟩ <;> rfl
          · rw [if_neg e1, if_neg e1]
            rcases hx : spc 32 r with _ | ⟨x, y⟩
            · exact absurd hx (spc_ne _ _)
            · rcases ut with _ | ⟨a, _ | ⟨b, r'⟩⟩ <;> simp
      · rw [if_neg (fun k => ht k.1)]
        rw [if_neg ht] at hT
        exact (readW_bad (W := 34 :: (p1 ++ [34])) (by simp) List.mem_cons_self hT).symm
    · have hT : txtP (34 :: (p1 ++ 34 :: (spc 32 p2).headD [])) = none := by
        unfold txtP
        refine if_neg fun k => ?_
        have k3 := k.2.2.1
        cases hx : (spc 32 p2).headD [] with
        | nil => exact hb hx
        | cons x y =>
          rw [hx] at k3
          have hm : (spc 32 p2).headD [] ∈ spc 32 p2 := by rw [spc_cons]; simp
          refine n2 _ hm ?_
          rw [hx]
          have e9 : (34 :: (p1 ++ 34 :: x :: y)).getLastD 0 = (x :: y).getLast (by simp) := by
            rw [List.getLastD_eq_getLast?, List.getLast?_eq_some_getLast (by simp)]
            simp [List.getLast_cons, List.getLast_append]
          rw [e9] at k3
          rw [← k3]
          exact List.getLast_mem _
      rw [readW_bad (W := 34 :: (p1 ++ 34 :: (spc 32 p2).headD [])) (by simp) List.mem_cons_self hT]
      split
      · split
        · split
          · rename_i e
            refine if_neg fun k => hb ?_
            cases p2 with
            | nil => cases k.1
            | cons d r => rw [spc_step, if_pos (Option.some.inj k.1)]; rfl
          · rfl
        · refine if_neg fun k => hb ?_
          rw [k]; rfl
      · rfl
  · rw [if_neg (fun k => hs k.2)]
    by_cases hn : p0 = []
    · subst hn
      have : (spc 32 ([] : List Nat)).dropLast ++ ((spc 32 ([] : List Nat)).getLastD [] ++ 34 :: (p1 ++ 34 :: (spc 32 p2).headD [])) :: (spc 32 p2).tail = (34 :: (p1 ++ 34 :: (spc 32 p2).headD [])) :: (spc 32 p2).tail := rfl
      rw [this]
      unfold readW
      rw [shapeP_no List.mem_cons_self]
    refine (readW_bad (W := (spc 32 p0).getLastD [] ++ 34 :: (p1 ++ 34 :: (spc 32 p2).headD [])) (by simp) (by simp) ?_).symm
    have h5 := spc_lastD hn hs
    unfold txtP
    refine if_neg fun k => ?_
    cases hx : (spc 32 p0).getLastD [] with
    | nil => exact h5 hx
    | cons x y =>
      rw [hx] at k
      have hm : (spc 32 p0).getLastD [] ∈ spc 32 p0 := by
        rw [List.getLastD_eq_getLast?, List.getLast?_eq_some_getLast (spc_ne _ _)]
        exact List.getLast_mem _
      refine h0 ((spc_mem hm).2 34 ?_)
      rw [hx]
      rw [show x = 34 from k.2.1]; exact List.mem_cons_self
/-- another number of quotes -/
theorem lw_count : ∀ (l : List Nat) (q : Bool), ((lw q l).map fun w => w.count 34).sum = l.count 34
  | [], _ => rfl
  | c :: r, q => by
    rw [lw_step]
    split
    · rename_i h
      rw [List.map_cons, List.sum_cons, lw_count r q, h.1, List.count_cons_of_ne (by decide)]; simp
    · have ih := lw_count r (if c = 34 then !q else q)
      rw [lw_cons] at ih
      rw [List.map_cons, List.sum_cons] at ih ⊢
      rw [List.count_cons, List.count_cons]
      omega
theorem txtP_count {w x : List Nat} (h : txtP w = some x) : w.count 34 = 2 := by
  unfold txtP at h
  split at h
  · rename_i k
    obtain ⟨⟨h3, _⟩, h1, h2, hn⟩ := k
    cases w with
    | nil => simp at h3
    | cons c r =>
      have ec : c = 34 := h1
      subst ec
      have hr : r ≠ [] := fun e => by rw [e] at h3; simp at h3
      have e2 : r = r.dropLast ++ [34] := by
        have e3 : r.getLast hr = 34 := by
          rw [List.getLastD_eq_getLast?, List.getLast?_cons] at h2
          have h2 : r.getLast?.getD 34 = 34 := h2
          rw [List.getLast?_eq_some_getLast hr] at h2
          exact h2
        have := List.dropLast_concat_getLast hr
        rw [e3] at this
        exact this.symm
      have hn : 34 ∉ r.dropLast := hn
      rw [e2, List.count_cons_self, List.count_append, List.count_eq_zero.mpr hn]; simp
  · cases h
theorem itemP_count {w : List Nat} {c : Nat} {x : It} (h : itemP c w = some x) : w.count 34 = if c = 116 then 2 else 0 := by
  by_cases hc : c = 116
  · subst hc
    rw [if_pos rfl]
    rw [itemP_t] at h
    cases e : txtP w with
    | none => rw [e] at h; cases h
    | some y => exact txtP_count e
  · rw [if_neg hc]
    refine List.count_eq_zero.mpr fun k => ?_
    rw [itemP_not k hc] at h; cases h
theorem seqO_count : ∀ {sh : List Nat} {ws : List (List Nat)} {xs : List It}, sh.length = ws.length → seqO (List.zipWith itemP sh ws) = some xs → (ws.map fun w => w.count 34).sum = 2 * sh.count 116
  | [], [], _, _, _ => rfl
  | c :: sh, w :: ws, xs, hl, h => by
    rw [List.zipWith_cons_cons] at h
    cases e : itemP c w with
    | none => rw [e] at h; cases h
    | some x =>
      rw [e] at h
      have h : (seqO (List.zipWith itemP sh ws)).map (x :: ·) = some xs := h
      cases e2 : seqO (List.zipWith itemP sh ws) with
      | none => rw [e2] at h; cases h
      | some ys =>
        have ih := seqO_count (by simpa using hl) e2
        rw [List.map_cons, List.sum_cons, ih, itemP_count e, List.count_cons]
        by_cases hc : c = 116
        · rw [if_pos hc]; simp [hc]; omega
        · rw [if_neg hc]; simp [hc]
theorem shapeP_count {ws : List (List Nat)} {sh : List Nat} (h : shapeP ws = some sh) : sh.count 116 ≤ 1 ∧ 34 ∉ ws.headD [] := by
  unfold shapeP at h
  split at h
  · rename_i e; cases h; rw [e]; decide
  split at h
  · rename_i e; cases h; rw [e]; decide
  split at h
  · rename_i e; cases h; rw [e]; decide
  split at h
  · rename_i e; cases h; rw [e]; decide
  split at h
  · rename_i e; cases h; rw [e]; decide
  split at h
  · rename_i e; cases h; rw [e]; decide
  split at h
  · rename_i e; cases h; rw [e]
    refine ⟨?_, by decide⟩
    rw [List.count_replicate]; simp
  · cases h
theorem other_law {l : List Nat} (h1 : 34 ∈ l) (h2 : l.count 34 ≠ 2) : readP l = none := by
  unfold readP
  have hc := lw_count l false
  have h0 : 0 < l.count 34 := List.count_pos_iff.mpr h1
  generalize lw false l = ws at hc ⊢
  cases ws with
  | nil => rfl
  | cons w0 r =>
    unfold readW
    cases hs : shapeP (w0 :: r) with
    | none => rfl
    | some sh =>
      obtain ⟨k1, k2⟩ := shapeP_count hs
      dsimp only
      split
      · rename_i hl
        rw [List.tail_cons]
        cases hq : seqO (List.zipWith itemP sh r) with
        | none => rfl
        | some xs =>
          have h5 := seqO_count (by rw [List.length_cons] at hl; omega) hq
          have k2 : 34 ∉ w0 := k2
          rw [List.map_cons, List.sum_cons, List.count_eq_zero.mpr k2, h5] at hc
          omega
      · rfl
theorem line_law {l : List Nat} (hp : l.all prn = true) : callP l = readP l := by
  unfold callP
  by_cases h : 34 ∈ l
  · rw [if_pos h]
    have hl := spc_len 34 l
    have hm : ∀ w ∈ spc 34 l, 34 ∉ w ∧ ∀ d ∈ w, d ∈ l := fun w hw => spc_mem hw
    by_cases h2 : l.count 34 = 2
    · rcases hx : spc 34 l with _ | ⟨p0, _ | ⟨p1, _ | ⟨p2, _ | ⟨p3, r⟩⟩⟩⟩ <;> rw [hx, h2] at hl <;> (try (exfalso; simp at hl; done))
      rw [hx] at hm
      exact named_law (hm p0 (by simp)).1 (hm p1 (by simp)).1 (hm p2 (by simp)).1 (List.all_eq_true.mpr fun d hd => List.all_eq_true.mp hp d ((hm p1 (by simp)).2 d hd)) hx
    · rw [other_law h h2]
      unfold namedP
      rcases hx : spc 34 l with _ | ⟨p0, _ | ⟨p1, _ | ⟨p2, _ | ⟨p3, r⟩⟩⟩⟩ <;> rw [hx] at hl <;> (try rfl)
      simp at hl; omega
  · rw [if_neg h]
    unfold readP
    rw [lw_noq h]
    have nw : ∀ w ∈ spc 32 l, 34 ∉ w := fun w hw k => h ((spc_mem hw).2 _ k)
    cases hx : spc 32 l with
    | nil => exact absurd hx (spc_ne _ _)
    | cons w0 r => rw [hx] at nw; exact plain_law nw

/-! ### calls as values -/
def It.d : It → PyData
  | .s l => .str ⟨l.toArray⟩
  | .n k => .int k
  | .b l => .tuple (l.map fun n : Nat => .int n)
  | .no => .none
def Ri (H : Hp) (v : V) : It → Prop
  | .s l => v = .str ⟨l.toArray⟩
  | .n k => v = .int k
  | .b l => ∃ p, v = .ref p ∧ H p = some (.tup (l.map fun n : Nat => .int n))
  | .no => v = .non
def Ris (H : Hp) : List V → List It → Prop
  | [], [] => True
  | v :: vs, x :: xs => Ri H v x ∧ Ris H vs xs
  | _, _ => False
def Rc (H : Hp) (p : Addr) (xs : List It) : Prop := ∃ vs, H p = some (.tup vs) ∧ Ris H vs xs
def TupK (H H' : Hp) : Prop := ∀ (p : Addr) (xs : List V), H p = some (.tup xs) → H' p = some (.tup xs)
theorem TupK.of {H H' : Hp} (s : Same H H') : TupK H H' := fun p _ h => s p _ h
theorem TupK.trans {H H1 H2 : Hp} (s : TupK H H1) (t : TupK H1 H2) : TupK H H2 := fun p xs h => t p xs (s p xs h)
theorem TupK.refl (H : Hp) : TupK H H := fun _ _ h => h
theorem TupK.set {H : Hp} {l : Addr} {xs : List V} {o : HO} (h : H l = some (.lst xs)) : TupK H (upd H l o) := fun p ys k => by
  have : p ≠ l := fun e => by rw [e, h] at k; cases k
  rw [upd_ne this]; exact k
theorem TupK.kp {H H' : Hp} {l : Addr} {xs : List V} (h : H l = some (.lst xs)) (k : Kp [l] H H') : TupK H H' := fun p ys e => k p _ (by
  have : p ≠ l := fun q => by rw [q, h] at e; cases e
  simpa using this) e
theorem Ri.up {H H' : Hp} {v : V} {x : It} (s : TupK H H') (h : Ri H v x) : Ri H' v x := by
  cases x with
  | s l => exact h
  | n k => exact h
  | no => exact h
  | b l => obtain ⟨p, e, h⟩ := h; exact ⟨p, e, s p _ h⟩
theorem Ris.up {H H' : Hp} (s : TupK H H') : ∀ {vs : List V} {xs : List It}, Ris H vs xs → Ris H' vs xs
  | [], [], _ => trivial
  | v :: vs, x :: xs, h => ⟨Ri.up s h.1, Ris.up s h.2⟩
theorem Rc.up {H H' : Hp} {p : Addr} {xs : List It} (s : TupK H H') (h : Rc H p xs) : Rc H' p xs := by
  obtain ⟨vs, h1, h2⟩ := h
  exact ⟨vs, s p _ h1, h2.up s⟩
/-- calls in a list -/
def RcL (H : Hp) : List V → List (List It) → Prop
  | [], [] => True
  | v :: vs, x :: xs => (∃ p, v = .ref p ∧ Rc H p x) ∧ RcL H vs xs
  | _, _ => False
theorem RcL.up {H H' : Hp} (s : TupK H H') : ∀ {vs : List V} {xs : List (List It)}, RcL H vs xs → RcL H' vs xs
  | [], [], _ => trivial
  | v :: vs, x :: xs, ⟨⟨p, e, h⟩, k⟩ => ⟨⟨p, e, h.up s⟩, RcL.up s k⟩
theorem RcL.len {H : Hp} : ∀ {vs : List V} {xs : List (List It)}, RcL H vs xs → vs.length = xs.length
  | [], [], _ => rfl
  | v :: vs, x :: xs, h => congrArg (· + 1) (RcL.len h.2)
theorem RcL.app {H : Hp} {p : Addr} {x : List It} (h : Rc H p x) : ∀ {vs : List V} {xs : List (List It)}, RcL H vs xs → RcL H (vs ++ [.ref p]) (xs ++ [x])
  | [], [], _ => ⟨⟨p, rfl, h⟩, trivial⟩
  | w :: vs, y :: xs, k => ⟨k.1, RcL.app h k.2⟩
theorem Ris.len {H : Hp} : ∀ {vs : List V} {xs : List It}, Ris H vs xs → vs.length = xs.length
  | [], [], _ => rfl
  | v :: vs, x :: xs, h => congrArg (· + 1) (Ris.len h.2)
theorem Ris.app {H : Hp} {v : V} {x : It} (h : Ri H v x) : ∀ {vs : List V} {xs : List It}, Ris H vs xs → Ris H (vs ++ [v]) (xs ++ [x])
  | [], [], _ => ⟨h, trivial⟩
  | w :: vs, y :: xs, k => ⟨k.1, Ris.app h k.2⟩
theorem dpNats {K : PySem.W.Frag} {H : Hp} : ∀ l : List Nat, DpAll K H (l.map fun n : Nat => V.int n) (l.map fun n : Nat => PyData.int n)
  | [] => .nil
  | x :: l => .cons (.int x) (dpNats l)
theorem Ri.dp {K : PySem.W.Frag} {H : Hp} {v : V} {x : It} (h : Ri H v x) : Dp K H v x.d := by
  cases x with
  | s l => rw [show v = _ from h]; exact .str _
  | n k => rw [show v = _ from h]; exact .int _
  | no => rw [show v = _ from h]; exact .non
  | b l => obtain ⟨p, rfl, h⟩ := h; exact .tup (sqT_of h) (dpNats l)
theorem Ris.dp {K : PySem.W.Frag} {H : Hp} : ∀ {vs : List V} {xs : List It}, Ris H vs xs → DpAll K H vs (xs.map It.d)
  | [], [], _ => .nil
  | v :: vs, x :: xs, h => .cons (Ri.dp h.1) (Ris.dp h.2)
theorem Rc.dp {K : PySem.W.Frag} {H : Hp} {p : Addr} {xs : List It} (h : Rc H p xs) : Dp K H (.ref p) (.tuple (xs.map It.d)) := by
  obtain ⟨vs, h1, h2⟩ := h
  exact .tup (sqT_of h1) h2.dp
theorem RcL.dp {K : PySem.W.Frag} {H : Hp} : ∀ {vs : List V} {xs : List (List It)}, RcL H vs xs → DpAll K H vs (xs.map fun c => .tuple (c.map It.d))
  | [], [], _ => .nil
  | v :: vs, x :: xs, ⟨⟨p, e, h⟩, k⟩ => by subst e; exact .cons h.dp (RcL.dp k)
theorem ends1 {z : Str} {c : Nat} : Txt.endswith z ⟨#[c]⟩ = decide (z.cps.toList.getLast? = some c) := by
  unfold Txt.endswith
  rw [StrLaws.subAt_eq]
  have ez : z.cps.toList.length = z.length := Array.length_toList
  show (decide (0 + 1 ≤ z.length) && ((z.cps.toList.drop (z.length - 1)).take 1 == [c])) = _
  rw [← ez]
  generalize z.cps.toList = l
  rcases List.eq_nil_or_concat l with rfl | ⟨q, d, rfl⟩
  · rfl
  · rw [List.concat_eq_append]
    by_cases h : d = c <;> simp [h]
theorem starts1 {z : Str} {c : Nat} : Txt.startswith z ⟨#[c]⟩ = decide (z.cps.toList.head? = some c) := by
  unfold Txt.startswith
  rw [StrLaws.subAt_eq]
  have ez : z.cps.toList.length = z.length := Array.length_toList
  show (decide (0 + 1 ≤ z.length) && ((z.cps.toList.drop 0).take 1 == [c])) = _
  rw [← ez]
  generalize z.cps.toList = l
  cases l with
  | nil => rfl
  | cons d r => by_cases h : d = c <;> simp [h]
theorem eqvAll_strs : ∀ (a b : List (List Nat)), PyData.eqvAll (a.map fun l => .str ⟨l.toArray⟩) (b.map fun l => .str ⟨l.toArray⟩) = decide (a = b)
  | [], [] => rfl
  | [], y :: b => rfl
  | x :: a, [] => rfl
  | x :: a, y :: b => by
    show ((⟨x.toArray⟩ : Str) == ⟨y.toArray⟩ && PyData.eqvAll (a.map _) (b.map _)) = _
    rw [eqvAll_strs a b]
    by_cases h : x = y
    · subst h; simp
    · have : ((⟨x.toArray⟩ : Str) == ⟨y.toArray⟩) = false := by
        rw [beq_eq_false_iff_ne]
        intro e
        exact h (congrArg (fun z : Str => z.cps.toList) e)
      rw [this]; simp [h]

/-! ### the plain law of scripts -/
def kLoad : List Nat := [108, 111, 97, 100]
def kEnd : List Nat := [101, 110, 100]
inductive Res where
  | cs (xs : List (List It))
  | bad (k : Nat)
def Res.pre (as : List (List It)) : Res → Res
  | .cs xs => .cs (as ++ xs)
  | .bad k => .bad k
theorem Res.pre_nil {r : Res} : r.pre [] = r := by cases r <;> rfl
theorem Res.pre_pre {a b : List (List It)} {r : Res} : (r.pre b).pre a = r.pre (a ++ b) := by
  cases r with
  | cs xs => show Res.cs _ = Res.cs _; rw [List.append_assoc]
  | bad k => rfl
def loadC (rows : List (List Nat)) : List It := [.s kLoad, .s (rows.map (· ++ [10])).flatten]
def runS (rd : List Nat → Option (List It)) : Nat → Option (List (List Nat)) → List (List Nat) → Res
  | _, some _, [] => .bad 0
  | k, some rows, line :: rest => if line = kEnd then (runS rd (k + 1) none rest).pre [loadC rows] else runS rd (k + 1) (some (rows ++ [line])) rest
  | _, none, [] => .cs []
  | k, none, line :: rest => if line = kLoad then (if kEnd ∈ rest then runS rd (k + 1) (some []) rest else .bad (k + 1)) else if line = [] ∨ line.head? = some 35 then runS rd (k + 1) none rest else
      match rd line with
      | none => .bad (k + 1)
      | some c => (runS rd (k + 1) none rest).pre [c]
theorem runS_end (rd : List Nat → Option (List It)) : ∀ (pre : List (List Nat)) (k : Nat) (rows post : List (List Nat)), kEnd ∉ pre → runS rd k (some rows) (pre ++ kEnd :: post) = (runS rd (k + pre.length + 1) none post).pre [loadC (rows ++ pre)]
  | [], k, rows, post, _ => by
    rw [List.nil_append, List.append_nil]
    show (if kEnd = kEnd then _ else _) = _
    rw [if_pos rfl]; rfl
  | x :: pre, k, rows, post, h => by
    have h1 : ¬ x = kEnd := fun e => h (by rw [e]; exact List.mem_cons_self)
    rw [List.cons_append]
    show (if x = kEnd then _ else _) = _
    rw [if_neg h1, runS_end rd pre (k + 1) (rows ++ [x]) post (fun k => h (List.mem_cons_of_mem _ k)), List.append_assoc, List.length_cons]
    congr 2
    omega
theorem runS_none {rd : List Nat → Option (List It)} {k : Nat} {line : List Nat} {rest : List (List Nat)} : runS rd k none (line :: rest) = if line = kLoad then (if kEnd ∈ rest then runS rd (k + 1) (some []) rest else .bad (k + 1)) else if line = [] ∨ line.head? = some 35 then runS rd (k + 1) none rest else
      match rd line with
      | none => .bad (k + 1)
      | some c => (runS rd (k + 1) none rest).pre [c] := rfl
theorem runS_some {rd : List Nat → Option (List It)} {k : Nat} {rows : List (List Nat)} {line : List Nat} {rest : List (List Nat)} : runS rd k (some rows) (line :: rest) = if line = kEnd then (runS rd (k + 1) none rest).pre [loadC rows] else runS rd (k + 1) (some (rows ++ [line])) rest := rfl
theorem runS_congr {rd rd' : List Nat → Option (List It)} : ∀ (ls : List (List Nat)) (k : Nat) (o : Option (List (List Nat))), (∀ l ∈ ls, rd l = rd' l) → runS rd k o ls = runS rd' k o ls
  | [], _, none, _ => rfl
  | [], _, some _, _ => rfl
  | x :: ls, k, none, h => by
    have ih := fun k o => runS_congr ls k o fun l hl => h l (List.mem_cons_of_mem _ hl)
    rw [runS_none, runS_none, ih, ih, h x List.mem_cons_self]
  | x :: ls, k, some r, h => by
    have ih := fun k o => runS_congr ls k o fun l hl => h l (List.mem_cons_of_mem _ hl)
    rw [runS_some, runS_some, ih, ih]
def Res.d : Res → PyData
  | .cs xs => .tuple (xs.map fun c => .tuple (c.map It.d))
  | .bad k => .int k

/-! ### lines of a script -/
def codes (s : String) : List Nat := (Str.ofString s).cps.toList
theorem str_eq {l : List Nat} {s : String} {k : List Nat} (h : (Str.ofString s).cps.toList = k := by decide +kernel) : decide ((⟨l.toArray⟩ : Str) = Str.ofString s) = decide (l = k) := by
  by_cases e : l = k
  · rw [decide_eq_true e, decide_eq_true]
    exact cl_ext (by rw [h]; exact e)
  · rw [decide_eq_false e, decide_eq_false]
    intro q
    exact e (by rw [← h, ← q])
theorem str_iff {l : List Nat} {s : String} {k : List Nat} (h : (Str.ofString s).cps.toList = k := by decide +kernel) : (⟨l.toArray⟩ : Str) = Str.ofString s ↔ l = k :=
  ⟨fun e => by rw [← h, ← e], fun e => cl_ext (by rw [h]; exact e)⟩
theorem str_dec {l : List Nat} {s : String} {k : List Nat} (h : (Str.ofString s).cps.toList = k := by decide +kernel) : decide (V.str (⟨l.toArray⟩ : Str) = V.str (Str.ofString s)) = decide (l = k) := by
  by_cases e : l = k
  · rw [decide_eq_true e, decide_eq_true ((congrArg V.str ((str_iff h).mpr e)))]
  · rw [decide_eq_false e, decide_eq_false (fun q => e ((str_iff h).mp (V.str.inj q)))]
def wordsV (ls : List (List Nat)) : List V := (ls.map fun l => (⟨l.toArray⟩ : Str)).map V.str
theorem dpWords {K : PySem.W.Frag} {H : Hp} : ∀ (ls : List (List Nat)), DpAll K H (wordsV ls) (ls.map fun l => .str ⟨l.toArray⟩)
  | [] => .nil
  | x :: l => .cons (.str _) (dpWords l)
theorem cut_last {l : List Nat} : cutS (⟨l.toArray⟩ : Str) none (some (-1)) = ⟨l.dropLast.toArray⟩ := by
  unfold cutS
  have e : (⟨l.toArray⟩ : Str).length = l.length := List.size_toArray
  rw [e, HT.sIx_none]
  have e2 : HT.sIx l.length l.length (some (-1)) = l.length - 1 := by
    show (if (-1 : Int) < 0 then ((-1 : Int) + (l.length : Int)).toNat else min (-1 : Int).toNat l.length) = _
    rw [if_pos (by decide)]; omega
  rw [e2]
  show (⟨((l.drop 0).take (l.length - 1 - 0)).toArray⟩ : Str) = _
  rw [List.drop_zero, Nat.sub_zero, List.dropLast_eq_take]
theorem cut_tail {l : List Nat} : cutS (⟨l.toArray⟩ : Str) (some 1) none = ⟨l.tail.toArray⟩ := by
  unfold cutS
  have e : (⟨l.toArray⟩ : Str).length = l.length := List.size_toArray
  rw [e, HT.sIx_none]
  have e2 : HT.sIx l.length 0 (some 1) = min 1 l.length := HT.sIx_nat l.length 0 1
  rw [e2]
  show (⟨((l.drop (min 1 l.length)).take (l.length - min 1 l.length)).toArray⟩ : Str) = _
  cases l with
  | nil => rfl
  | cons c r => simp
def chOk (l : List Nat) : Prop := ∀ c ∈ l, c < 0x110000
theorem chOk_str {l : List Nat} (h : chOk l) : PyData.strOk ⟨l.toArray⟩ = true := by
  unfold PyData.strOk
  rw [← Array.all_toList, List.all_eq_true]
  exact fun c hc => decide_eq_true (h c (by simpa using hc))
theorem words_lay : ∀ ls : List (List Nat), (∀ w ∈ ls, chOk w) → PyData.canLayAll0 (ls.map fun l => .str ⟨l.toArray⟩) = true ∧ PyData.depthAll (ls.map fun l => .str ⟨l.toArray⟩) ≤ 3
  | [], _ => by simp [PyData.canLayAll0, PyData.depthAll]
  | e :: es, h => by
    have ih := words_lay es fun e he => h e (List.mem_cons_of_mem _ he)
    have h0 := chOk_str (h e List.mem_cons_self)
    simp [PyData.canLayAll0, PyData.depthAll, PyData.canLay0, PyData.depth, ih.1, h0]
    omega
theorem words_shaped {ls : List (List Nat)} (h : ∀ w ∈ ls, chOk w) : SeqAt.shaped (.list (ls.map fun l => .str ⟨l.toArray⟩)) = true := by
  have h := words_lay ls h
  have h2 := h.2
  unfold SeqAt.shaped
  rw [show PyData.canLay0 (.list (ls.map fun l => .str ⟨l.toArray⟩)) = true from h.1, Bool.true_and, decide_eq_true_eq]
  simp only [PyData.depth]
  omega
theorem prn_ok {l : List Nat} (h : l.all prn = true) : chOk l := fun c hc => by
  have := List.all_eq_true.mp h c hc
  unfold prn at this
  simp only [Bool.and_eq_true, decide_eq_true_eq] at this
  omega
/-- xs == [s] -/
theorem i_eqW {K : PySem.W.Frag} {p q : Addr} {ls : List (List Nat)} {s : String} {k : List Nat} {H : Hp} {Q : VK} (hp : H p = some (.lst (wordsV ls))) (hq : H q = some (.lst [V.str (Str.ofString s)])) (h : ∀ w ∈ ls, chOk w) (r : Q (.bl (decide (ls = [k]))) H) (e : (Str.ofString s).cps.toList = k := by decide +kernel) (hk : (k.all fun c => decide (c < 0x110000)) = true := by decide +kernel) : rEqD K (.ref p) (.ref q) H Q := by
  have e2 : Str.ofString s = (⟨k.toArray⟩ : Str) := cl_ext e
  rw [e2] at hq
  refine ⟨_, _, .lst (sqL_of hp) (dpWords ls), .lst (sqL_of hq) (dpWords [k]), words_shaped h, words_shaped (ls := [k]) (fun w hw => by rw [List.mem_singleton.mp hw]; exact fun c hc => of_decide_eq_true (List.all_eq_true.mp hk c hc)), ?_⟩
  have : PyData.eqv (.list (ls.map fun l => .str ⟨l.toArray⟩)) (.list ([k].map fun l => .str ⟨l.toArray⟩)) = decide (ls = [k]) := eqvAll_strs ls [k]
  rw [this]
  exact r
def sp_named_call {K : PySem.W.Frag} {mg : Str → Option Value} (T : Txt K mg) : Sp := fun vs H Q E => ∃ z : Str, vs = [.str z] ∧ z.length ≤ 100000 ∧ z.cps.toList.all prn = true ∧
  (∀ xs, namedP z.cps.toList = some xs → ∀ p H', Same H H' → Rc H' p xs → Q (.ref p) H') ∧ (namedP z.cps.toList = none → ErrU T.c_Unreadable H E)
theorem ok_named_call (T : Txt K mg) : FnOk P w K mg base (L2N.CX P w) 4 T.f_named_call T.d_named_call ["line"] (sp_named_call T) := by
  refine okXN T.k_named_call sc_named_call (fun vs H Q E h => ?_) (fun cdv A outer s H vs Q E hr h => ?_)
  · obtain ⟨z, rfl, _⟩ := h
    rfl
  · obtain ⟨z, rfl, hz, hpr, q1, q2⟩ := h
    refine ⟨_, (pss_cons (ps_set (i := 1) sc_named_call.nd rfl (.inl rfl) (pe_split (pv 0) pe_str))
      (pss_cons (ps_expr (pe_callS (ok_must T) (hr.mono (by decide)) (by rfl) T.g_must T.k_must.kp T.b_must (fun σ => L2N.passAt (L2N.takes_of rfl rfl rfl rfl) σ) (pa_cons (pe_and (pe_cmpR op_eq (pe_callB (lenLK K) (by rfl) T.m_len (by decide +kernel) (pa_cons (pv 1) pa_nil)) pe_int (nomark _)) (pe_and (pe_call (ok_is_text T) (hr.mono (by decide)) (by rfl) T.g_is_text T.k_is_text.kp T.b_is_text .nil pass0 (pa_cons (pe_ix (ix_listK K) (pv 1) pe_int (fun _ _ => rfl)) pa_nil)) (pe_one (pe_bmK K PySem.F.plainAttrs_str PySem.F.slot_str_endswith PySem.F.type_str_endswith mt_endswith (pe_ix (ix_listK K) (pv 1) pe_int (fun _ _ => rfl)) (pa_cons pe_str pa_nil))))) pa_nil)))
      (pss_cons (ps_set (i := 2) sc_named_call.nd rfl (.inl rfl) (pe_split (pe_slice sl_str (pe_ix (ix_listK K) (pv 1) pe_int (fun _ _ => rfl)) po_none (po_some (pe_un un_neg pe_int))) pe_str))
      (pss_cons (ps_if (pt_cmpR op_eq (pe_ix (ix_listK K) (pv 2) pe_int (fun _ _ => rfl)) pe_str (nomark _)) (pss_cons (ps_expr (pe_callS (ok_must T) (hr.mono (by decide)) (by rfl) T.g_must T.k_must.kp T.b_must (fun σ => L2N.passAt (L2N.takes_of rfl rfl rfl rfl) σ) (pa_cons (pe_and (pe_cmpR op_eq (pe_callB (lenLK K) (by rfl) T.m_len (by decide +kernel) (pa_cons (pv 2) pa_nil)) pe_int (nomark _)) (pe_one (pe_bmK K PySem.F.plainAttrs_str PySem.F.slot_str_startswith PySem.F.type_str_startswith mt_startswith (pe_ix (ix_listK K) (pv 1) pe_int (fun _ _ => rfl)) (pa_cons pe_str pa_nil)))) pa_nil)))
      (pss_one (ps_ret (pe_tup (pa_cons pe_str (pa_cons (pe_callS (ok_name_of T) (hr.mono (by decide)) (by rfl) T.g_name_of T.k_name_of.kp T.b_name_of (fun σ => L2N.passAt (L2N.takes_of rfl rfl rfl rfl) σ) (pa_cons (pe_ix (ix_listK K) (pv 2) pe_int (fun _ _ => rfl)) pa_nil)) (pa_cons (pe_callS (ok_name_of T) (hr.mono (by decide)) (by rfl) T.g_name_of T.k_name_of.kp T.b_name_of (fun σ => L2N.passAt (L2N.takes_of rfl rfl rfl rfl) σ) (pa_cons (pe_ix (ix_listK K) (pv 2) pe_int (fun _ _ => rfl)) pa_nil)) (pa_cons (pe_ix (ix_listK K) (pv 1) pe_int (fun _ _ => rfl)) (pa_cons (pe_callS (ok_data_of T) (hr.mono (by decide)) (by rfl) T.g_data_of T.k_data_of.kp T.b_data_of (fun σ => L2N.passAt (L2N.takes_of rfl rfl rfl rfl) σ) (pa_cons (pe_slice sl_str (pe_ix (ix_listK K) (pv 1) pe_int (fun _ _ => rfl)) (po_some pe_int) po_none) pa_nil)) pa_nil))))))))) pss_nil)
      (pss_cons (ps_expr (pe_callS (ok_must T) (hr.mono (by decide)) (by rfl) T.g_must T.k_must.kp T.b_must (fun σ => L2N.passAt (L2N.takes_of rfl rfl rfl rfl) σ) (pa_cons (pe_cmpR op_eq (pe_ix (ix_listK K) (pv 1) pe_int (fun _ _ => rfl)) pe_str (nomark _)) pa_nil)))
      (pss_cons (ps_if (pt_cmpR op_eq (pe_ix (ix_listK K) (pv 2) pe_int (fun _ _ => rfl)) pe_str (nomark _)) (pss_cons (ps_expr (pe_callS (ok_must T) (hr.mono (by decide)) (by rfl) T.g_must T.k_must.kp T.b_must (fun σ => L2N.passAt (L2N.takes_of rfl rfl rfl rfl) σ) (pa_cons (pe_cmpR op_eq (pe_callB (lenLK K) (by rfl) T.m_len (by decide +kernel) (pa_cons (pv 2) pa_nil)) pe_int (nomark _)) pa_nil)))
      (pss_one (ps_ret (pe_tup (pa_cons pe_str (pa_cons (pe_callS (ok_number_of T) (hr.mono (by decide)) (by rfl) T.g_number_of T.k_number_of.kp T.b_number_of (fun σ => L2N.passAt (L2N.takes_of rfl rfl rfl rfl) σ) (pa_cons (pe_ix (ix_listK K) (pv 2) pe_int (fun _ _ => rfl)) (pa_cons (pe_glob (v := .int _) rfl T.g_MOST_NUMBER ⟨_, rfl⟩) pa_nil))) (pa_cons (pe_ix (ix_listK K) (pv 1) pe_int (fun _ _ => rfl)) pa_nil))))))) pss_nil)
      (pss_cons (ps_expr (pe_callS (ok_must T) (hr.mono (by decide)) (by rfl) T.g_must T.k_must.kp T.b_must (fun σ => L2N.passAt (L2N.takes_of rfl rfl rfl rfl) σ) (pa_cons (pe_cmpR (op_eqD hr.units) (pv 2) (pe_lst (pa_cons pe_str pa_nil)) (nomark _)) pa_nil)))
      (pss_one (ps_ret (pe_tup (pa_cons pe_str (pa_cons (pe_ix (ix_listK K) (pv 1) pe_int (fun _ _ => rfl)) pa_nil)))))))))))), ?_⟩
    have ez : z.cps.toList.length = z.length := Array.length_toList
    walk_at "rd"
    refine rdSeq ?_
    walk_at "rd"
    refine ⟨rfl, by omega, fun p hp => ?_⟩
    rw [show Txt.split z (Str.ofString "\"") = (spc 34 z.cps.toList).map fun l => (⟨l.toArray⟩ : Str) from split_c (by decide)]
    have sp : Same H (upd H p (HO.lst (wordsV (spc 34 z.cps.toList)))) := same_new hp
    have hw : ∀ w ∈ spc 34 z.cps.toList, w.toArray.size ≤ 100000 := fun w hw => by have := spc_le hw; simp; omega
    have bad : ∀ {A1 : V → Hp → Prop} {H1 : Hp}, Same H H1 → namedP z.cps.toList = none → sp_must T [V.bl false] H1 A1 (fun cls d H => E cls d H) := fun s1 h => i_must (fun h => by cases h) (fun _ => (q2 h).same s1)
    walk_at "rd"
    refine rdSeq ?_
    walk_at "rd"
    refine i_lenL (sqL_of upd_same) ?_
    walk_at "rd"
    rcases hx : spc 34 z.cps.toList with _ | ⟨p0, _ | ⟨p1, _ | ⟨p2, _ | ⟨p3, r⟩⟩⟩⟩ <;> rw [hx] at hw sp
    · exact i_else (by simp) (bad sp (by unfold namedP; rw [hx]))
    · exact i_else (by simp) (bad sp (by unfold namedP; rw [hx]))
    · exact i_else (by simp) (bad sp (by unfold namedP; rw [hx]))
    rotate_left
    · exact i_else (by simp; omega) (bad sp (by unfold namedP; rw [hx]))
    have w0 := hw p0 (by simp)
    have w1 := hw p1 (by simp)
    have w2 := hw p2 (by simp)
    have eN : namedP z.cps.toList = if txtC p1 = true ∧ p0.getLast? = some 32 then
      (if (spc 32 p0.dropLast).headD [] = kMake then
        (match spc 32 p0.dropLast with
          | [_, w1, w2] => if p2.head? = some 32 ∧ nameC w1 = true ∧ nameC w2 = true then (dataP p2.tail).map fun d => [.s kMake, .s w1, .s w2, .s p1, .b d] else none
          | _ => none)
      else if p2 = [] then
        (if (spc 32 p0.dropLast).headD [] = kChoose then
          (match spc 32 p0.dropLast with
            | [_, w1] => (numO w1 9999).map fun k => [.s kChoose, .n k, .s p1]
            | _ => none)
        else if spc 32 p0.dropLast = [kDrop] then some [.s kDrop, .s p1] else none)
      else none) else none := by unfold namedP; rw [hx]
    rw [eN] at q1 q2 bad
    refine i_then rfl (i_ixL (sqL_of upd_same) rfl ?_)
    refine ⟨_, rfl, .inl ⟨_, rfl, w1, fun H1 s1 => ⟨_, rfl, ?_⟩⟩⟩
    have hp1 := s1 p _ upd_same
    have s1 := sp.trans s1
    refine ite2 (fun h1 => i_ixL (sqL_of hp1) rfl ⟨rfl, _, rfl, ?_⟩) (fun h1 => bad s1 (if_neg fun k => h1 k.1))
    have h1 : txtC p1 = true := h1
    rw [show Txt.endswith (⟨p0.toArray⟩ : Str) (Str.ofString " ") = decide (p0.getLast? = some 32) from ends1]
    refine i_must (fun h2 => ?_) (fun h2 => (q2 (if_neg fun k => of_decide_eq_false h2 k.2)).same s1)
    have h2 := of_decide_eq_true h2
    rw [if_pos ⟨h1, h2⟩] at q1 q2 bad
    refine rdSeq ?_
    walk_at "rd"
    refine i_ixL (sqL_of hp1) rfl (i_slS (line5 w0) ?_)
    rw [cut_last]
    walk_at "rd"
    have lw : p0.dropLast.length ≤ 100000 := by
      have w0 : p0.length ≤ 100000 := by simpa using w0
      rw [List.length_dropLast]; omega
    refine ⟨rfl, by show p0.dropLast.toArray.size ≤ _; rw [List.size_toArray]; omega, fun q hq => ?_⟩
    rw [show Txt.split (⟨p0.dropLast.toArray⟩ : Str) (Str.ofString " ") = (spc 32 p0.dropLast).map fun l => (⟨l.toArray⟩ : Str) from split_c (by decide)]
    have hu : ∀ w ∈ spc 32 p0.dropLast, w.toArray.size ≤ 100000 := fun w hw => by
      have := spc_le hw
      rw [List.size_toArray]; omega
    have hq2 : upd H1 q (HO.lst (wordsV (spc 32 p0.dropLast))) q = some (.lst (wordsV (spc 32 p0.dropLast))) := upd_same
    have hp2 : upd H1 q (HO.lst (wordsV (spc 32 p0.dropLast))) p = some (.lst (wordsV [p0, p1, p2])) := same_new hq p _ hp1
    have s2 : Same H (upd H1 q (HO.lst (wordsV (spc 32 p0.dropLast)))) := s1.trans (same_new hq)
    have en := spc_ne 32 p0.dropLast
    have hch : ∀ w ∈ spc 32 p0.dropLast, chOk w := fun w hw c hc => prn_ok hpr c ((spc_mem (show p0 ∈ spc 34 z.cps.toList by rw [hx]; simp)).2 c (List.dropLast_subset _ ((spc_mem hw).2 c hc)))
    show tSeq _ _ _ _ (upd H1 q (HO.lst (wordsV (spc 32 p0.dropLast))))
    generalize spc 32 p0.dropLast = U at *
    generalize upd H1 q (HO.lst (wordsV U)) = H2 at *
    cases U with
    | nil => exact absurd rfl en
    | cons u0 ut =>
    rw [List.headD_cons] at q1 q2 bad
    refine rdSeq ?_
    walk_at "rd"
    refine i_ixL (sqL_of hq2) (atI_nat (j := 0) rfl) ?_
    walk_at "rd"
    refine ite2 (fun h3 => ?_) (fun h3 => ?_)
    · have h3 : u0 = kMake := (str_iff (k := kMake)).mp h3
      rw [if_pos h3] at q1 q2 bad
      refine rdSeq ?_
      walk_at "rd"
      refine i_lenL (sqL_of hq2) ?_
      walk_at "rd"
      rcases ut with _ | ⟨u1, _ | ⟨u2, _ | ⟨u3, r⟩⟩⟩
      · exact i_else (by simp [wordsV]) (bad s2 rfl)
      · exact i_else (by simp [wordsV]) (bad s2 rfl)
      rotate_left
      · exact i_else (by simp [wordsV]; omega) (bad s2 rfl)
      dsimp only at q1 q2 bad
      refine i_then rfl (i_ixL (sqL_of hp2) rfl ⟨rfl, _, rfl, ?_⟩)
      rw [show Txt.startswith (⟨p2.toArray⟩ : Str) (Str.ofString " ") = decide (p2.head? = some 32) from starts1]
      refine i_must (fun h4 => ?_) (fun h4 => (q2 (if_neg fun k => of_decide_eq_false h4 k.1)).same s2)
      have h4 := of_decide_eq_true h4
      walk_at "rd"
      refine i_ixL (sqL_of hq2) (atI_nat (j := 1) rfl) ⟨_, rfl, hu u1 (by simp), fun n1 H3 s3 => ?_, fun n1 => (q2 (if_neg fun k => by rw [show nameC u1 = false from n1] at k; exact absurd k.2.1 (by simp))).same s2⟩
      refine i_ixL (sqL_of (s3 _ _ hq2)) (atI_nat (j := 2) rfl) ⟨_, rfl, hu u2 (by simp), fun n2 H4 s4 => ?_, fun n2 => (q2 (if_neg fun k => by rw [show nameC u2 = false from n2] at k; exact absurd k.2.2 (by simp))).same (s2.trans s3)⟩
      have s34 := s3.trans s4
      refine i_ixL (sqL_of (s34 _ _ hp2)) rfl (i_ixL (sqL_of (s34 _ _ hp2)) rfl (i_slS (line5 w2) ?_))
      rw [cut_tail]
      rw [if_pos ⟨h4, n1, n2⟩] at q1 q2
      refine ⟨_, rfl, by show p2.tail.toArray.size ≤ _; rw [List.size_toArray] at w2 ⊢; rw [List.length_tail]; omega, fun ns hd d H5 s5 h5 l hl => ?_, fun hd => (q2 (by rw [show dataP p2.tail = none from hd]; rfl)).same (s2.trans s34)⟩
      refine q1 [.s kMake, .s u1, .s u2, .s p1, .b ns] (by rw [show dataP p2.tail = some ns from hd]; rfl) l _ (((s2.trans s34).trans s5).trans (same_new hl)) ⟨_, upd_same, rfl, rfl, rfl, rfl, ⟨d, rfl, same_new hl d _ h5⟩, trivial⟩
    · have h3 : ¬ u0 = kMake := fun e => h3 ((str_iff (k := kMake)).mpr e)
      rw [if_neg h3] at q1 q2 bad
      refine rdSeq ?_
      walk_at "rd"
      refine i_ixL (sqL_of hp2) rfl ?_
      rw [str_dec (k := [])]
      refine ⟨rfl, i_must (fun h4 => ?_) (fun h4 => (q2 (if_neg (of_decide_eq_false h4))).same s2)⟩
      rw [if_pos (of_decide_eq_true h4)] at q1 q2 bad
      refine rdSeq ?_
      walk_at "rd"
      refine i_ixL (sqL_of hq2) (atI_nat (j := 0) rfl) ?_
      walk_at "rd"
      refine ite2 (fun h5 => ?_) (fun h5 => ?_)
      · have h5 : u0 = kChoose := (str_iff (k := kChoose)).mp h5
        rw [if_pos h5] at q1 q2 bad
        refine rdSeq ?_
        walk_at "rd"
        refine i_lenL (sqL_of hq2) ?_
        walk_at "rd"
        rcases ut with _ | ⟨u1, _ | ⟨u2, r⟩⟩
        · exact bad s2 rfl
        rotate_left
        · exact i_must (fun h => absurd (of_decide_eq_true h) (by simp [wordsV]; omega)) (fun _ => (q2 rfl).same s2)
        dsimp only at q1 q2 bad
        refine i_must (fun _ => ?_) (fun h => absurd h (by simp [wordsV]))
        refine i_ixL (sqL_of hq2) (atI_nat (j := 1) rfl) ⟨_, _, rfl, hu u1 (by simp), fun n1 => ?_, fun n1 => (q2 (by unfold numO; rw [if_neg (by rw [show numP u1 9999 = false from n1]; simp)]; rfl)).same s2⟩
        refine i_ixL (sqL_of hp2) rfl fun l hl => ?_
        refine q1 [.s kChoose, .n (NumText.digitsVal u1), .s p1] (by unfold numO; rw [if_pos n1]; rfl) l _ (s2.trans (same_new hl)) ⟨_, upd_same, rfl, rfl, rfl, trivial⟩
      · have h5 : ¬ u0 = kChoose := fun e => h5 ((str_iff (k := kChoose)).mpr e)
        rw [if_neg h5] at q1 q2 bad
        refine rdSeq ?_
        walk_at "rd"
        intro d hd
        refine i_eqW (k := kDrop) (same_new hd q _ hq2) upd_same hch (i_must (fun h6 => ?_) (fun h6 => (q2 (if_neg (of_decide_eq_false h6))).same (s2.trans (same_new hd))))
        refine i_ixL (sqL_of (same_new hd p _ hp2)) rfl fun l hl => ?_
        exact q1 _ (if_pos (of_decide_eq_true h6)) l _ ((s2.trans (same_new hd)).trans (same_new hl)) ⟨_, upd_same, rfl, rfl, trivial⟩

theorem str_beq {l : List Nat} {s : String} {k : List Nat} (h : (Str.ofString s).cps.toList = k := by decide +kernel) : (Str.ofString s == (⟨l.toArray⟩ : Str)) = decide (l = k) := by
  by_cases e : l = k
  · rw [decide_eq_true e, (str_iff h).mpr e]; simp
  · rw [decide_eq_false e, beq_eq_false_iff_ne]
    exact fun q => e ((str_iff h).mp q.symm)
theorem inV_two {l : List Nat} {a b : String} {ka kb : List Nat} (ha : (Str.ofString a).cps.toList = ka := by decide +kernel) (hb : (Str.ofString b).cps.toList = kb := by decide +kernel) : inV (V.str (⟨l.toArray⟩ : Str)) [V.str (Str.ofString a), V.str (Str.ofString b)] = decide (l = ka ∨ l = kb) := by
  show (Str.ofString a == (⟨l.toArray⟩ : Str) || (Str.ofString b == (⟨l.toArray⟩ : Str) || false)) = _
  rw [str_beq ha, str_beq hb, Bool.or_false]
  simp
def sp_call_of {K : PySem.W.Frag} {mg : Str → Option Value} (T : Txt K mg) : Sp := fun vs H Q E => ∃ z : Str, vs = [.str z] ∧ z.length ≤ 100000 ∧ z.cps.toList.all prn = true ∧
  (∀ xs, callP z.cps.toList = some xs → ∀ p H', Same H H' → Rc H' p xs → Q (.ref p) H') ∧ (callP z.cps.toList = none → ErrU T.c_Unreadable H E)
theorem ok_call_of (T : Txt K mg) : FnOk P w K mg base (L2N.CX P w) 5 T.f_call_of T.d_call_of ["line"] (sp_call_of T) := by
  refine okXN T.k_call_of sc_call_of (fun vs H Q E h => ?_) (fun cdv A outer s H vs Q E hr h => ?_)
  · obtain ⟨z, rfl, _⟩ := h
    rfl
  · obtain ⟨z, rfl, hz, hpr, q1, q2⟩ := h
    refine ⟨_, (pss_cons (ps_if (pt_cmpR op_inC pe_str (pv 0) rfl) (pss_one (ps_ret (pe_callS (ok_named_call T) (hr.mono (by decide)) (by rfl) T.g_named_call T.k_named_call.kp T.b_named_call (fun σ => L2N.passAt (L2N.takes_of rfl rfl rfl rfl) σ) (pa_cons (pv 0) pa_nil)))) pss_nil)
      (pss_cons (ps_set (i := 1) sc_call_of.nd rfl (.inl rfl) (pe_split (pv 0) pe_str))
      (pss_cons (ps_if (pt_cmpR (op_eqD hr.units) (pv 1) (pe_lst (pa_cons pe_str pa_nil)) (nomark _)) (pss_one (ps_ret (pe_tup (pa_cons pe_str pa_nil)))) pss_nil)
      (pss_cons (ps_if (pt_cmpR (op_eqD hr.units) (pv 1) (pe_lst (pa_cons pe_str pa_nil)) (nomark _)) (pss_one (ps_ret (pe_tup (pa_cons pe_str (pa_cons pe_non pa_nil))))) pss_nil)
      (pss_cons (ps_if (pt_cmpR (in_seqK K) (pe_ix (ix_listK K) (pv 1) pe_int (fun _ _ => rfl)) (pe_tup (pa_cons pe_str (pa_cons pe_str pa_nil))) rfl) (pss_cons (ps_expr (pe_callS (ok_must T) (hr.mono (by decide)) (by rfl) T.g_must T.k_must.kp T.b_must (fun σ => L2N.passAt (L2N.takes_of rfl rfl rfl rfl) σ) (pa_cons (pe_cmpR op_eq (pe_callB (lenLK K) (by rfl) T.m_len (by decide +kernel) (pa_cons (pv 1) pa_nil)) pe_int (nomark _)) pa_nil)))
      (pss_one (ps_ret (pe_tup (pa_cons (pe_ix (ix_listK K) (pv 1) pe_int (fun _ _ => rfl)) (pa_cons (pe_callS (ok_number_of T) (hr.mono (by decide)) (by rfl) T.g_number_of T.k_number_of.kp T.b_number_of (fun σ => L2N.passAt (L2N.takes_of rfl rfl rfl rfl) σ) (pa_cons (pe_ix (ix_listK K) (pv 1) pe_int (fun _ _ => rfl)) (pa_cons (pe_glob (v := .int _) rfl T.g_MOST_NUMBER ⟨_, rfl⟩) pa_nil))) pa_nil)))))) pss_nil)
      (pss_cons (ps_expr (pe_callS (ok_must T) (hr.mono (by decide)) (by rfl) T.g_must T.k_must.kp T.b_must (fun σ => L2N.passAt (L2N.takes_of rfl rfl rfl rfl) σ) (pa_cons (pe_and (pe_cmpR op_eq (pe_ix (ix_listK K) (pv 1) pe_int (fun _ _ => rfl)) pe_str (nomark _)) (pe_one (pe_cmpR op_eq (pe_callB (lenLK K) (by rfl) T.m_len (by decide +kernel) (pa_cons (pv 1) pa_nil)) pe_int (nomark _)))) pa_nil)))
      (pss_one (ps_ret (pe_tup (pa_cons pe_str (pa_cons (pe_callS (ok_number_of T) (hr.mono (by decide)) (by rfl) T.g_number_of T.k_number_of.kp T.b_number_of (fun σ => L2N.passAt (L2N.takes_of rfl rfl rfl rfl) σ) (pa_cons (pe_ix (ix_listK K) (pv 1) pe_int (fun _ _ => rfl)) (pa_cons (pe_glob (v := .int _) rfl T.g_MOST_NUMBER ⟨_, rfl⟩) pa_nil))) (pa_cons (pe_callS (ok_data_of T) (hr.mono (by decide)) (by rfl) T.g_data_of T.k_data_of.kp T.b_data_of (fun σ => L2N.passAt (L2N.takes_of rfl rfl rfl rfl) σ) (pa_cons (pe_ix (ix_listK K) (pv 1) pe_int (fun _ _ => rfl)) pa_nil)) pa_nil)))))))))))), ?_⟩
    have ez : z.cps.toList.length = z.length := Array.length_toList
    unfold callP at q1 q2
    walk_at "rd"
    refine rdSeq ?_
    walk_at "rd"
    refine i_inC (c := 34) rfl rfl ?_
    walk_at "rd"
    refine ite2 (fun h1 => ?_) (fun h1 => ?_)
    · rw [if_pos h1] at q1 q2
      exact ⟨_, rfl, hz, hpr, q1, q2⟩
    rw [if_neg h1] at q1 q2
    refine rdSeq ?_
    walk_at "rd"
    refine ⟨rfl, by omega, fun p hp => ?_⟩
    rw [show Txt.split z (Str.ofString " ") = (spc 32 z.cps.toList).map fun l => (⟨l.toArray⟩ : Str) from split_c (by decide)]
    have hu : ∀ w ∈ spc 32 z.cps.toList, w.toArray.size ≤ 100000 := fun w hw => by
      have := spc_le hw
      rw [List.size_toArray]; omega
    have hch : ∀ w ∈ spc 32 z.cps.toList, chOk w := fun w hw c hc => prn_ok hpr c ((spc_mem hw).2 c hc)
    have hp2 : upd H p (HO.lst (wordsV (spc 32 z.cps.toList))) p = some (.lst (wordsV (spc 32 z.cps.toList))) := upd_same
    have s2 : Same H (upd H p (HO.lst (wordsV (spc 32 z.cps.toList)))) := same_new hp
    have en := spc_ne 32 z.cps.toList
    show tSeq _ _ _ _ (upd H p (HO.lst (wordsV (spc 32 z.cps.toList))))
    generalize spc 32 z.cps.toList = U at *
    generalize upd H p (HO.lst (wordsV U)) = H2 at *
    cases U with
    | nil => exact absurd rfl en
    | cons u0 ut =>
    unfold plainP at q1 q2
    rw [List.headD_cons] at q1 q2
    refine rdSeq ?_
    walk_at "rd"
    intro d hd
    refine i_eqW (k := kCollect) (same_new hd p _ hp2) upd_same hch ?_
    have hp2 : upd H2 d (HO.lst [V.str (Str.ofString "collect")]) p = some (.lst (wordsV (u0 :: ut))) := same_new hd p _ hp2
    have s2 : Same H (upd H2 d (HO.lst [V.str (Str.ofString "collect")])) := s2.trans (same_new hd)
    generalize upd H2 d (HO.lst [V.str (Str.ofString "collect")]) = H2 at *
    refine ⟨_, rfl, ite2 (fun h2 => fun l hl => q1 _ (if_pos (of_decide_eq_true h2)) l _ (s2.trans (same_new hl)) ⟨_, upd_same, rfl, trivial⟩) (fun h2 => ?_)⟩
    rw [if_neg (fun k => h2 (decide_eq_true k))] at q1 q2
    refine rdSeq ?_
    walk_at "rd"
    intro d hd
    refine i_eqW (k := kReset) (same_new hd p _ hp2) upd_same hch ?_
    have hp2 : upd H2 d (HO.lst [V.str (Str.ofString "reset")]) p = some (.lst (wordsV (u0 :: ut))) := same_new hd p _ hp2
    have s2 : Same H (upd H2 d (HO.lst [V.str (Str.ofString "reset")])) := s2.trans (same_new hd)
    generalize upd H2 d (HO.lst [V.str (Str.ofString "reset")]) = H2 at *
    refine ⟨_, rfl, ite2 (fun h2 => fun l hl => q1 _ (if_pos (of_decide_eq_true h2)) l _ (s2.trans (same_new hl)) ⟨_, upd_same, rfl, rfl, trivial⟩) (fun h2 => ?_)⟩
    rw [if_neg (fun k => h2 (decide_eq_true k))] at q1 q2
    refine rdSeq ?_
    walk_at "rd"
    refine i_ixL (sqL_of hp2) (atI_nat (j := 0) rfl) ?_
    intro d hd
    refine ⟨d, _, rfl, .inr (sqT_of upd_same), rfl, rfl, ?_⟩
    rw [inV_two (ka := kCut) (kb := kReset)]
    have hp2 : upd H2 d (HO.tup [V.str (Str.ofString "cut"), V.str (Str.ofString "reset")]) p = some (.lst (wordsV (u0 :: ut))) := same_new hd p _ hp2
    have s2 : Same H (upd H2 d (HO.tup [V.str (Str.ofString "cut"), V.str (Str.ofString "reset")])) := s2.trans (same_new hd)
    generalize upd H2 d (HO.tup [V.str (Str.ofString "cut"), V.str (Str.ofString "reset")]) = H2 at *
    refine ⟨_, rfl, ite2 (fun h2 => ?_) (fun h2 => ?_)⟩
    · rw [if_pos (of_decide_eq_true h2)] at q1 q2
      refine rdSeq ?_
      walk_at "rd"
      refine i_lenL (sqL_of hp2) ?_
      walk_at "rd"
      rcases ut with _ | ⟨u1, _ | ⟨u2, r⟩⟩
      · exact i_must (fun h => absurd (of_decide_eq_true h) (by simp [wordsV])) (fun _ => (q2 rfl).same s2)
      rotate_left
      · exact i_must (fun h => absurd (of_decide_eq_true h) (by simp [wordsV]; omega)) (fun _ => (q2 rfl).same s2)
      dsimp only at q1 q2
      refine i_must (fun _ => ?_) (fun h => absurd h (by simp [wordsV]))
      walk_at "rd"
      refine i_ixL (sqL_of hp2) (atI_nat (j := 0) rfl) (i_ixL (sqL_of hp2) (atI_nat (j := 1) rfl) ?_)
      refine ⟨_, _, rfl, hu u1 (by simp), fun n1 => ?_, fun n1 => (q2 (by unfold numO; rw [if_neg (by rw [show numP u1 9999 = false from n1]; simp)]; rfl)).same s2⟩
      intro l hl
      exact q1 [.s u0, .n (NumText.digitsVal u1)] (by unfold numO; rw [if_pos n1]; rfl) l _ (s2.trans (same_new hl)) ⟨_, upd_same, rfl, rfl, trivial⟩
    · rw [if_neg (fun k => h2 (decide_eq_true k))] at q1 q2
      refine rdSeq ?_
      walk_at "rd"
      refine i_ixL (sqL_of hp2) (atI_nat (j := 0) rfl) ?_
      walk_at "rd"
      by_cases h3 : u0 = kSend
      · rw [if_pos h3] at q1 q2
        refine i_then ((str_iff (k := kSend)).mpr h3) (i_lenL (sqL_of hp2) ?_)
        walk_at "rd"
        rcases ut with _ | ⟨u1, _ | ⟨u2, _ | ⟨u3, r⟩⟩⟩
        · exact i_must (fun h => absurd (of_decide_eq_true h) (by simp [wordsV])) (fun _ => (q2 rfl).same s2)
        · exact i_must (fun h => absurd (of_decide_eq_true h) (by simp [wordsV])) (fun _ => (q2 rfl).same s2)
        rotate_left
        · exact i_must (fun h => absurd (of_decide_eq_true h) (by simp [wordsV]; omega)) (fun _ => (q2 rfl).same s2)
        dsimp only at q1 q2
        refine i_must (fun _ => ?_) (fun h => absurd h (by simp [wordsV]))
        walk_at "rd"
        refine i_ixL (sqL_of hp2) (atI_nat (j := 1) rfl) ?_
        refine ⟨_, _, rfl, hu u1 (by simp), fun n1 => ?_, fun n1 => (q2 (by unfold numO; rw [if_neg (by rw [show numP u1 9999 = false from n1]; simp)]; rfl)).same s2⟩
        have e1 : numO u1 9999 = some (NumText.digitsVal u1) := by unfold numO; rw [if_pos n1]
        rw [e1] at q1 q2
        refine i_ixL (sqL_of hp2) (atI_nat (j := 2) rfl) ?_
        refine ⟨_, rfl, hu u2 (by simp), fun ns hdt d H5 s5 h5 l hl => ?_, fun hdt => (q2 (by rw [show dataP u2 = none from hdt]; rfl)).same s2⟩
        exact q1 [.s kSend, .n (NumText.digitsVal u1), .b ns] (by rw [show dataP u2 = some ns from hdt]; rfl) l _ ((s2.trans s5).trans (same_new hl)) ⟨_, upd_same, rfl, rfl, ⟨d, rfl, same_new hl d _ h5⟩, trivial⟩
      · rw [if_neg h3] at q1 q2
        exact i_else (fun k => h3 ((str_iff (k := kSend)).mp k)) (i_must (fun h => by cases h) (fun _ => (q2 rfl).same s2))

/-! ### parse_script -/
/-- BadScript(line, ..) comes out -/
def ErrE (C : Addr) (H : Hp) (E : XK) (ln : Int) : Prop := ∀ (d : Addr) (rs : Str) (H' : Hp), Same H H' → H' d = some (.xd [("reason", .str rs), ("line", .int ln)]) → E (.ref C) (some d) H'
theorem ErrE.same {C : Addr} {H H' : Hp} {E : XK} {ln : Int} (h : ErrE C H E ln) (s : Same H H') : ErrE C H' E ln := fun d rs H2 s2 e => h d rs H2 (s.trans s2) e
def sp_BadScript_init {K : PySem.W.Frag} {mg : Str → Option Value} (T : Txt K mg) : Sp := spI2 T.c_BadScript "line" "reason"
theorem ok_BadScript_init (T : Txt K mg) : FnOk P w K mg base CX0 1 T.f_BadScript_init T.d_BadScript_init ["self", "line", "reason"] (sp_BadScript_init T) := by
  refine T.k_BadScript_init.ok sc_BadScript_init (fun vs H Q E h => ?_) (fun cdv A outer s H vs Q E hr h => ?_)
  · obtain ⟨a, v, u, rfl, _⟩ := h
    rfl
  · obtain ⟨a, v, u, rfl, ha, q⟩ := h
    refine ⟨_, (pss_cons (ps_ost (pv 0) (pv 1) rfl)
      (pss_one (ps_ost (pv 0) (pv 2) rfl))), ?_⟩
    walk_at "rd"
    refine rdSeq ?_
    walk_at "rd"
    refine i_ost T.ox_BadScript T.on_BadScript_line ha fun dx hd ne => ?_
    refine i_ost2 T.ox_BadScript T.on_BadScript_reason upd_same (by rw [upd_ne ne, upd_same]) (by show 1 ≤ 900; decide) ?_
    exact q dx _ hd ne (by rw [upd_ne (Ne.symm ne), upd_same]) upd_same (fun b x hb e => by rw [upd_ne (ne_of_none e hd)]; exact kp_exn hd ne b x hb e)
theorem okH_BadScript_init (T : Txt K mg) : L2H.FnH P w K mg base CX0 1 T.f_BadScript_init T.d_BadScript_init ["self", "line", "reason"] (sp_BadScript_init T) := by
  refine okH T.k_BadScript_init sc_BadScript_init (fun vs H Q E h => ?_) (fun cdv A outer s H vs Q E pn hot hr h => ?_)
  · obtain ⟨a, v, u, rfl, _⟩ := h
    rfl
  · obtain ⟨a, v, u, rfl, ha, q⟩ := h
    refine ⟨_, (pss_cons (ps_ost (pv 0) (pv 1) rfl)
      (pss_one (ps_ost (pv 0) (pv 2) rfl))), ?_⟩
    walk_at "rd"
    refine rdSeq ?_
    walk_at "rd"
    refine i_ost T.ox_BadScript T.on_BadScript_line ha fun dx hd ne => ?_
    refine i_ost2 T.ox_BadScript T.on_BadScript_reason upd_same (by rw [upd_ne ne, upd_same]) (by show 1 ≤ 900; decide) ?_
    exact q dx _ hd ne (by rw [upd_ne (Ne.symm ne), upd_same]) upd_same (fun b x hb e => by rw [upd_ne (ne_of_none e hd)]; exact kp_exn hd ne b x hb e)
def sp_parse_script {K : PySem.W.Frag} {mg : Str → Option Value} (T : Txt K mg) : Sp := fun vs H Q E => ∃ x : V, vs = [x] ∧
  ((∃ z : Str, x = .str z ∧ z.length ≤ 100000 ∧ (∀ l ∈ spc 10 z.cps.toList, l.all prn = true) ∧
    (∀ cs, runS callP 0 none (spc 10 z.cps.toList) = .cs cs → ∀ p ws H', Same H H' → H' p = some (.tup ws) → RcL H' ws cs → Q (.ref p) H') ∧
    (∀ k : Nat, runS callP 0 none (spc 10 z.cps.toList) = .bad k → ErrE T.c_BadScript H E k)) ∨ (OddS K H x ∧ ErrE T.c_BadScript H E 0))
theorem wordsV_len {L : List (List Nat)} : (wordsV L).length = L.length := by simp [wordsV]
theorem wordsV_at {L : List (List Nat)} {i : Nat} (h : i < L.length) : (wordsV L)[i]? = some (.str ⟨L[i].toArray⟩) := by simp [wordsV, List.getElem?_eq_getElem h]
theorem wordsV_flat {L : List (List Nat)} : (wordsV L).all flatV = true := by
  rw [List.all_eq_true]
  intro v hv
  simp only [wordsV, List.mem_map] at hv
  obtain ⟨_, _, rfl⟩ := hv
  rfl
theorem wordsV_drop {L : List (List Nat)} {i : Nat} : (wordsV L).drop i = wordsV (L.drop i) := by simp [wordsV, List.map_drop]
theorem wordsV_take {L : List (List Nat)} {i : Nat} : (wordsV L).take i = wordsV (L.take i) := by simp [wordsV, List.map_take]
theorem inV_words {s : String} {k : List Nat} (h : (Str.ofString s).cps.toList = k := by decide +kernel) : ∀ {L : List (List Nat)}, inV (.str (Str.ofString s)) (wordsV L) = decide (k ∈ L)
  | [] => rfl
  | x :: L => by
    have ih := inV_words h (L := L)
    show ((⟨x.toArray⟩ : Str) == Str.ofString s || inV (.str (Str.ofString s)) (wordsV L)) = _
    rw [ih]
    have : ((⟨x.toArray⟩ : Str) == Str.ofString s) = decide (k = x) := by
      by_cases e : x = k
      · rw [decide_eq_true e.symm, (str_iff h).mpr e]; simp
      · rw [decide_eq_false (Ne.symm e), beq_eq_false_iff_ne]
        exact fun q => e ((str_iff h).mp q)
    rw [this]
    by_cases e : k = x <;> by_cases e2 : k ∈ L <;> simp [e, e2]
theorem cut_mid {xs : List V} {a b : Nat} (h : b ≤ xs.length) (h2 : a ≤ b) : cutV xs (some (a : Int)) (some (b : Int)) = (xs.drop a).take (b - a) := by
  unfold cutV
  rw [HT.sIx_nat, HT.sIx_nat, Nat.min_eq_left h, Nat.min_eq_left (Nat.le_trans h2 h)]
theorem spc_sum {c : Nat} : ∀ l : List Nat, ((spc c l).map List.length).sum + (spc c l).length = l.length + 1
  | [] => rfl
  | d :: r => by
    have ih := spc_sum (c := c) r
    rw [spc_step]
    split
    · simp at ih ⊢; omega
    · rw [spc_cons c r] at ih
      simp only [List.map_cons, List.sum_cons, List.length_cons] at ih ⊢
      omega
theorem first_of {k : List Nat} : ∀ {L : List (List Nat)}, k ∈ L → ∃ pre post, L = pre ++ k :: post ∧ k ∉ pre
  | x :: L, h => by
    by_cases e : x = k
    · exact ⟨[], L, by rw [e]; rfl, by simp⟩
    · obtain ⟨pre, post, e1, e2⟩ := first_of (L := L) ((List.mem_cons.mp h).resolve_left fun q => e q.symm)
      exact ⟨x :: pre, post, by rw [e1]; rfl, fun q => (List.mem_cons.mp q).elim (fun q => e q.symm) e2⟩
theorem sum_map_succ (pre : List (List Nat)) : ((pre.map fun l => (⟨(l ++ [10]).toArray⟩ : Str)).map (·.length)).sum = (pre.map List.length).sum + pre.length := by
  induction pre with
  | nil => rfl
  | cons x pre ih =>
    rw [List.map_cons, List.map_cons, List.sum_cons, ih, List.map_cons, List.sum_cons, List.length_cons]
    have : (⟨(x ++ [10]).toArray⟩ : Str).length = x.length + 1 := by show (x ++ [10]).toArray.size = _; simp
    rw [this]; omega
inductive WS (L : List (List Nat)) (z : Str) (p c : Addr) (H : Hp) (m : Nat) (σ : L2.St) (H1 : Hp) : Prop
  | mk (i : Nat) (cs : List (List It)) (ws : List V) (hi : i ≤ L.length) (em : m = L.length - i) (hl : H1 p = some (.lst (wordsV L))) (hc : H1 c = some (.lst ws)) (hw : ws.length ≤ i) (rc : RcL H1 ws cs) (sm : Same H H1)
      (hr : (runS callP i none (L.drop i)).pre cs = runS callP 0 none L) (es : ∃ u v w, σ = [some (.str z), some (.ref p), some (.ref c), some (.int (i : Int)), u, v, w])
theorem ok_parse_script (T : Txt K mg) : FnOk P w K mg base (L2.CX P w) 6 T.f_parse_script T.d_parse_script ["text"] (sp_parse_script T) := by
  refine T.k_parse_script.okX sc_parse_script (fun vs H Q E h => ?_) (fun cdv A outer s H vs Q E hr h => ?_)
  · obtain ⟨x, rfl, _⟩ := h
    rfl
  · obtain ⟨x, rfl, h⟩ := h
    refine ⟨_, (pss_cons (ps_if (pt_not (pt_val (pe_callB (isiK K) (by rfl) T.m_isinstance (by decide +kernel) (pa_cons (pv 0) (pa_cons (pe_bltn (v := .ty "str") (by rfl) T.m_str (by decide +kernel) rfl) pa_nil))))) (pss_one (ps_raise rfl (takes_of rfl rfl rfl rfl) (pmk_oex T.ox_BadScript T.in_BadScript T.ti_BadScript (ok_BadScript_init T) (hr.mono (by decide)) T.b_BadScript_init .nil pass0 rfl T.g_BadScript (pa_cons pe_int (pa_cons pe_str pa_nil))))) pss_nil)
      (pss_cons (ps_set (i := 1) sc_parse_script.nd rfl (.inl rfl) (pe_split (pv 0) pe_str))
      (pss_cons (ps_set (i := 2) sc_parse_script.nd rfl (.inl rfl) (pe_lst pa_nil))
      (pss_cons (ps_set (i := 3) sc_parse_script.nd rfl (.inl rfl) pe_int)
      (pss_cons (ps_while (passes_of rfl) (pt_cmpR op_lt (pv 3) (pe_callB (lenLK K) (by rfl) T.m_len (by decide +kernel) (pa_cons (pv 1) pa_nil)) (nomark _)) (pss_cons (ps_set (i := 4) sc_parse_script.nd rfl (.inl rfl) (pe_ix (ix_listK K) (pv 1) (pv 3) (fun _ _ => rfl)))
      (pss_cons (ps_aug (i := 3) sc_parse_script.nd rfl (.inl rfl) pe_int ip_add)
      (pss_one (ps_if (pt_cmpR op_eq (pv 4) pe_str (nomark _)) (pss_cons (ps_if (pt_cmpR (notIn_seqK K) pe_str (pe_slice (sl_listK K) (pv 1) (po_some (pv 3)) po_none) rfl) (pss_one (ps_raise rfl (takes_of rfl rfl rfl rfl) (pmk_oex T.ox_BadScript T.in_BadScript T.ti_BadScript (ok_BadScript_init T) (hr.mono (by decide)) T.b_BadScript_init .nil pass0 rfl T.g_BadScript (pa_cons (pv 3) (pa_cons pe_str pa_nil))))) pss_nil)
      (pss_cons (ps_set (i := 5) sc_parse_script.nd rfl (.inl rfl) (pe_bmK K PySem.F.plainAttrs_list PySem.F.slot_list_index PySem.F.type_list_index mt_index2 (pv 1) (pa_cons pe_str (pa_cons (pv 3) pa_nil))))
      (pss_cons (ps_expr (pe_bmK K PySem.F.plainAttrs_list PySem.F.slot_list_append PySem.F.type_list_append mt_append (pv 2) (pa_cons (pe_tup (pa_cons pe_str (pa_cons (pe_joinR pe_str (pe_lc (own := [("row", 6)]) (g := gName 6) (tt := tYes) rfl sc_parse_script.nd (pi_list (pe_slice (sl_listK K) (pv 1) (po_some (pv 3)) (po_some (pv 5)))) (blkOk_by (own := [("row", 6)]) (N := ["text", "lines", "calls", "index", "line", "last", "row"]) (sc := defScope s_parse_script) (by decide +kernel)) (fun _ _ _ _ _ => pg_name (i := 6) sc_parse_script.nd rfl (Or.inl rfl)) (fun _ _ _ _ _ => pts_nil) (fun _ _ _ _ _ => (pe_op op_add_str (pv 6) pe_str)))) pa_nil))) pa_nil)))
      (pss_one (ps_set (i := 3) sc_parse_script.nd rfl (.inl rfl) (pe_op op_add (pv 5) pe_int)))))) (pss_one (ps_if (PW.pt (pw_and (pt_cmpR op_ne (pv 4) pe_str (nomark _)) (pw_and1 (pt_not (pt_val (pe_bmK K PySem.F.plainAttrs_str PySem.F.slot_str_startswith PySem.F.type_str_startswith mt_startswith (pv 4) (pa_cons pe_str pa_nil))))))) (pss_one (L2H.ps_try_onlyX rfl rfl ⟨rfl, by decide, .inl T.g_Unreadable⟩ (L2H.passesAt_of rfl) (takes_of rfl rfl rfl rfl) (fun W pn xe tk tk2 po => (pss_one (ps_expr (pe_bmK K PySem.F.plainAttrs_list PySem.F.slot_list_append PySem.F.type_list_append mt_append (pv 2) (pa_cons (pe_callS (ok_call_of T) (hr.mono (by decide)) (by rfl) T.g_call_of T.k_call_of.kp T.b_call_of (fun σ => L2N.passAt tk σ) (pa_cons (pv 4) pa_nil)) pa_nil))))) (fun a oe cls d pn hz hf tks hot => (pss_one (L2H.ps_raiseHN hot tks (L2H.pmk5_oexH T.ox_BadScript T.in_BadScript T.ti_BadScript (okH_BadScript_init T) (L2H.roomH_mark (hr.mono (by decide)) _) hot T.b_BadScript_init passH00 rfl T.g_BadScript (pa_cons (pv 3) (pa_cons pe_str pa_nil)))))))) pss_nil)))))))
      (pss_one (ps_ret (pe_callTy call_tuple_of (by rfl) T.m_tuple (by decide +kernel) (pa_cons (pv 2) pa_nil))))))))), ?_⟩
    walk_at "rd"
    refine rdSeq ?_
    walk_at "rd"
    rcases h with ⟨z, rfl, hz, hpr, q1, q2⟩ | ⟨⟨t, ty, ht⟩, q⟩
    rotate_left
    · refine i_isi ty ht ?_
      walk_at "rd"
      exact i_mkOI2 fun d H' s' hd => q d _ H' s' hd
    have ez : z.cps.toList.length = z.length := Array.length_toList
    refine i_isi ty_str kb_ss ?_
    walk_at "rd"
    refine rdSeq ?_
    walk_at "rd"
    refine ⟨rfl, by omega, fun p hp => ?_⟩
    rw [show Txt.split z (Str.ofString "\n") = (spc 10 z.cps.toList).map fun l => (⟨l.toArray⟩ : Str) from split_c (by decide)]
    have hu : ∀ w ∈ spc 10 z.cps.toList, w.length ≤ 100000 := fun w hw => by
      have := spc_le hw
      omega
    have hp2 : upd H p (HO.lst (wordsV (spc 10 z.cps.toList))) p = some (.lst (wordsV (spc 10 z.cps.toList))) := upd_same
    have s2 : Same H (upd H p (HO.lst (wordsV (spc 10 z.cps.toList)))) := same_new hp
    show tSeq _ _ _ _ (upd H p (HO.lst (wordsV (spc 10 z.cps.toList))))
    have ll := spc_sum (c := 10) z.cps.toList
    generalize spc 10 z.cps.toList = L at *
    generalize upd H p (HO.lst (wordsV L)) = H2 at *
    refine rdSeq ?_
    walk_at "rd"
    intro c hc
    refine rdSeq ?_
    walk_at "rd"
    have npc : p ≠ c := ne_of_none hp2 hc
    have hc0 : H c = none := by
      cases e : H c with
      | none => rfl
      | some o => rw [s2 c o e] at hc; cases hc
    have setC : ∀ {H3 : Hp} {o : HO}, Same H H3 → Same H (upd H3 c o) := fun s b u e => by rw [upd_ne (ne_of_none e hc0)]; exact s b u e
    refine rdSeq ?_
    refine i_while (WS L z p c H) L.length ⟨0, [], [], Nat.zero_le _, rfl, same_new hc p _ hp2, upd_same, Nat.zero_le _, trivial, s2.trans (same_new hc), Res.pre_nil, _, _, _, rfl⟩ ?_
    rintro m σ H1 ⟨i, cs, ws, hi, em, hl, hcl, hwl, rc, sm, hrun, u, v, w, rfl⟩
    walk_at "rd"
    refine i_lenL (sqL_of hl) ⟨_, rfl, ite2 (fun hlt => i_whT ?_) (fun hge => ?_)⟩
    rotate_left
    · rw [wordsV_len] at hge
      obtain rfl : i = L.length := by omega
      rw [List.drop_length] at hrun
      have hrun : Res.cs (cs ++ []) = _ := hrun
      rw [List.append_nil] at hrun
      exact ⟨_, .inl ⟨sqL_of hcl, fun l hl2 => q1 cs hrun.symm l ws _ (sm.trans (same_new hl2)) upd_same (rc.up (.of (same_new hl2)))⟩⟩
    have hlt : i < L.length := by rw [wordsV_len] at hlt; omega
    have hdr : L.drop i = L[i] :: L.drop (i + 1) := List.drop_eq_getElem_cons hlt
    have hat := wordsV_at hlt
    have hpl := hpr L[i] (List.getElem_mem hlt)
    have hul := hu L[i] (List.getElem_mem hlt)
    rw [hdr, runS_none] at hrun
    generalize L[i] = line at *
    refine rdSeq ?_
    walk_at "rd"
    refine i_ixL (sqL_of hl) (atI_nat (j := i) hat) ?_
    refine rdSeq ?_
    walk_at "rd"
    have eI : ((i : Int) + 1) = ((i + 1 : Nat) : Int) := rfl
    rw [eI]
    refine ite2 (fun h1 => ?_) (fun h1 => ?_)
    · rw [if_pos ((str_iff (k := kLoad)).mp h1)] at hrun
      refine rdSeq ?_
      walk_at "rd"
      refine i_slL (sqL_of hl) fun q hq => ⟨q, _, rfl, .inl (sqL_of upd_same), rfl, by rw [cut_drop, wordsV_drop]; exact wordsV_flat, ?_⟩
      rw [cut_drop, wordsV_drop, inV_words (k := kEnd)]
      walk_at "rd"
      have sq : Same H1 (upd H1 q (HO.lst (wordsV (L.drop (i + 1))))) := same_new hq
      generalize upd H1 q (HO.lst (wordsV (L.drop (i + 1)))) = H3 at *
      refine ite2 (fun h2 => ?_) (fun h2 => ?_)
      · rw [if_neg (by simpa using h2)] at hrun
        exact i_mkOI2 fun d H' s' hd => q2 (i + 1) hrun.symm d _ H' ((sm.trans sq).trans s') hd
      have h2 : kEnd ∈ L.drop (i + 1) := by simpa using h2
      rw [if_pos h2] at hrun
      obtain ⟨pre, post, e1, e2⟩ := first_of h2
      rw [e1, runS_end _ _ _ _ _ e2, Res.pre_pre, List.nil_append] at hrun
      have hlen : L.length = i + 1 + pre.length + 1 + post.length := by
        have := congrArg List.length e1
        simp at this; omega
      have hl3 := sq p _ hl
      have hc3 := sq c _ hcl
      refine rdSeq ?_
      walk_at "rd"
      have hj : i + 1 + pre.length < L.length := by omega
      have gat : ∀ m, i + 1 ≤ m → L[m]? = (pre ++ kEnd :: post)[m - (i + 1)]? := fun m hm => by
        rw [← e1, List.getElem?_drop]; congr 1; omega
      have hjv : L[i + 1 + pre.length] = kEnd := by
        have := gat (i + 1 + pre.length) (by omega)
        rw [show i + 1 + pre.length - (i + 1) = pre.length by omega, List.getElem?_append_right (Nat.le_refl _), Nat.sub_self, List.getElem?_eq_getElem hj] at this
        exact Option.some.inj this
      refine ⟨.inl ⟨rfl, _, sqL_of hl3⟩, p, wordsV L, .str (Str.ofString "end"), i + 1, i + 1 + pre.length, .str (Str.ofString "end"), rfl, rfl, sqL_of hl3, rfl, wordsV_flat, by omega, ?_, by simp [eqV], ?_, ?_⟩
      · rw [wordsV_at hj, hjv]
        exact congrArg (fun s => some (V.str s)) ((str_iff (k := kEnd)).mpr rfl)
      · intro m z' hm hmj hz'
        have hmL : m < L.length := by omega
        rw [wordsV_at hmL] at hz'
        have hz' := Option.some.inj hz'
        subst hz'
        have hne : ¬ L[m] = kEnd := fun e => by
          have := gat m hm
          rw [List.getElem?_append_left (by omega), List.getElem?_eq_getElem hmL, e] at this
          exact e2 (List.mem_of_getElem? this.symm)
        show ((⟨L[m].toArray⟩ : Str) == Str.ofString "end") = false
        rw [beq_eq_false_iff_ne]
        exact fun e => hne ((str_iff (k := kEnd)).mp e)
      refine rdSeq ?_
      walk_at "rd"
      have ecut : cutV (wordsV L) (some ((i + 1 : Nat) : Int)) (some ((i + 1 + pre.length : Nat) : Int)) = wordsV pre := by
        rw [cut_mid (by rw [wordsV_len]; omega) (by omega), wordsV_drop, wordsV_take, e1, show i + 1 + pre.length - (i + 1) = pre.length by omega, List.take_left]
      have esum : (pre.map List.length).sum ≤ (L.map List.length).sum := by
        have e3 : L = L.take (i + 1) ++ (pre ++ kEnd :: post) := by rw [← e1, List.take_append_drop]
        rw [e3, List.map_append, List.map_append, List.sum_append, List.sum_append]
        omega
      refine ⟨.inl ⟨rfl, _, sqL_of hc3⟩, i_slL (sqL_of hl3) fun q' hq' => ⟨q', rfl, ⟨_, sqL_of upd_same⟩, ?_⟩⟩
      rw [ecut]
      have hq4 : upd H3 q' (HO.lst (wordsV pre)) q' = some (.lst (wordsV pre)) := upd_same
      have s4 : Same H1 (upd H3 q' (HO.lst (wordsV pre))) := sq.trans (same_new hq')
      generalize upd H3 q' (HO.lst (wordsV pre)) = H4 at *
      have ew : wordsV pre = pre.map fun l => V.str ⟨l.toArray⟩ := by simp [wordsV]
      rw [ew] at hq4
      refine i_lcL (walk_listL (K := K) (a := q') (l := pre) (r := fun l => V.str ⟨l.toArray⟩)) (fun l => .str ⟨(l ++ [10]).toArray⟩) (line5' (by omega)) (fun D ys hD => sqL_of (by rw [upd_ne (ne_of_none hq4 hD)]; exact hq4)) (fun l hl5 H5 Q' s5 qq => ?_) (fun D hD => ?_)
      · walk_at "rd"
        have hll : l.length ≤ 100000 := by
          refine hu l ?_
          have : l ∈ L.drop (i + 1) := by rw [e1]; exact List.mem_append_left _ hl5
          exact List.mem_of_mem_drop this
        refine ⟨by show l.toArray.size + 1 ≤ _; rw [List.size_toArray]; omega, ?_⟩
        rw [show ((⟨l.toArray⟩ : Str) ++ Str.ofString "\n") = ⟨(l ++ [10]).toArray⟩ from cl_ext (by rw [cl_append]; rfl)]
        exact qq
      · refine ⟨_, D, pre.map (fun l => (⟨(l ++ [10]).toArray⟩ : Str)), rfl, rfl, .inl (sqL_of (by rw [upd_same, List.map_map]; rfl)), ?_, ?_⟩
        · rw [sum_map_succ, List.length_map]
          show _ + pre.length * 0 ≤ _
          omega
        rw [show Txt.join (Str.ofString "") (pre.map (fun l => (⟨(l ++ [10]).toArray⟩ : Str))) = ⟨(pre.map (· ++ [10])).flatten.toArray⟩ from cl_ext (by
          rw [show Str.ofString "" = Str.empty from rfl, join_cl, List.map_map]; rfl)]
        intro t ht
        have s5 := s4.trans (same_new (o := HO.lst (pre.map fun l => V.str ⟨(l ++ [10]).toArray⟩)) hD)
        have ht5 : Rc (upd (upd H4 D (HO.lst (pre.map fun l => V.str ⟨(l ++ [10]).toArray⟩))) t (HO.tup [V.str (Str.ofString "load"), V.str ⟨(pre.map (· ++ [10])).flatten.toArray⟩])) t (loadC pre) := ⟨_, upd_same, rfl, rfl, trivial⟩
        have s6 := s5.trans (same_new (o := HO.tup [V.str (Str.ofString "load"), V.str ⟨(pre.map (· ++ [10])).flatten.toArray⟩]) ht)
        have hc6 := s6 c _ hcl
        refine i_app hc6 (line5' (by omega)) ⟨L.length - (i + 1 + pre.length + 1), by omega, ⟨i + 1 + pre.length + 1, cs ++ [loadC pre], ws ++ [.ref t], by omega, rfl, by rw [upd_ne npc]; exact s6 p _ hl, upd_same, by simp; omega, ?_, setC (sm.trans s6), ?_, _, _, _, rfl⟩⟩
        · exact RcL.up (TupK.set hc6) (RcL.app ht5 (rc.up (.of s6)))
        · rw [← hrun]
          congr 2
          rw [show i + 1 + pre.length + 1 = (i + 1) + (pre.length + 1) by omega, ← List.drop_drop, e1]
          rw [show pre ++ kEnd :: post = (pre ++ [kEnd]) ++ post by simp, List.drop_left' (by simp)]
    · have h1 : ¬ line = kLoad := fun e => h1 ((str_iff (k := kLoad)).mpr e)
      rw [if_neg h1] at hrun
      rw [show Txt.startswith (⟨line.toArray⟩ : Str) (Str.ofString "#") = decide (line.head? = some 35) from starts1]
      by_cases h2 : line = [] ∨ line.head? = some 35
      · rw [if_pos h2] at hrun
        have nx : ∃ m', m' < m ∧ WS L z p c H m' [some (V.str z), some (V.ref p), some (V.ref c), some (V.int ↑(i + 1)), some (V.str { cps := line.toArray }), v, w] H1 :=
          ⟨L.length - (i + 1), by omega, ⟨i + 1, cs, ws, hlt, rfl, hl, hcl, by omega, rc, sm, hrun, _, _, _, rfl⟩⟩
        refine ite2 (fun h3 => ⟨rfl, ite2 (fun h4 => ?_) (fun _ => nx)⟩) (fun _ => nx)
        exfalso
        rcases h2 with e | e
        · subst e; simp at h3; exact h3 rfl
        · rw [e] at h4; simp at h4
      · rw [if_neg h2] at hrun
        refine i_then ?_ ⟨rfl, i_then ?_ ⟨.inl ⟨rfl, _, sqL_of hcl⟩, _, rfl, by show line.toArray.size ≤ _; rw [List.size_toArray]; exact hul, hpl, fun xs hx pc H3 s3 r3 => ?_, fun hx => ?_⟩⟩
        · simp only [Bool.not_eq_true', decide_eq_false_iff_not]
          exact fun e => h2 (.inl ((str_iff (k := [])).mp e))
        · simp only [Bool.not_eq_true', decide_eq_false_iff_not]
          exact fun e => h2 (.inr e)
        · have hx : callP line = some xs := hx
          rw [hx] at hrun
          have hrun : ((runS callP (i + 1) none (List.drop (i + 1) L)).pre [xs]).pre cs = runS callP 0 none L := hrun
          rw [Res.pre_pre] at hrun
          have hc3 := s3 c _ hcl
          refine i_app hc3 (line5' (by omega)) ⟨L.length - (i + 1), by omega, ⟨i + 1, cs ++ [xs], ws ++ [.ref pc], hlt, rfl, by rw [upd_ne npc]; exact s3 p _ hl, upd_same, by simp; omega, ?_, setC (sm.trans s3), hrun, _, _, _, rfl⟩⟩
          exact RcL.up (TupK.set hc3) (RcL.app r3 (rc.up (.of s3)))
        · have hx : callP line = none := hx
          rw [hx] at hrun
          have hrun : Res.bad (i + 1) = runS callP 0 none L := hrun
          intro H3 s3
          refine i_catch T.ex_Unreadable_Unreadable fun a na => ?_
          refine ⟨_, rfl, i_mkOI2 fun d H' s' hd => q2 (i + 1) hrun.symm d _ H' ((sm.trans s3).trans s') hd⟩

/-! ### the drawn texts -/
def pr2 (c : Nat) : Bool := prn c || decide (c = 10)
def tx (n : Nat) (z : Str) : Bool := decide (z.length ≤ n) && z.cps.toList.all pr2
theorem tx_len {n : Nat} {z : Str} (h : tx n z = true) : z.length ≤ n := by
  unfold tx at h
  simp only [Bool.and_eq_true, decide_eq_true_eq] at h
  exact h.1
theorem tx_pr {n : Nat} {z : Str} (h : tx n z = true) : z.cps.toList.all pr2 = true := by
  unfold tx at h
  simp only [Bool.and_eq_true] at h
  exact h.2
theorem tx_mk {n : Nat} {z : Str} (h1 : z.length ≤ n) (h2 : z.cps.toList.all pr2 = true) : tx n z = true := by
  unfold tx
  rw [h2, decide_eq_true h1]; rfl
theorem tx_app {n m k : Nat} {a b : Str} (h1 : tx n a = true) (h2 : tx m b = true) (hk : n + m ≤ k := by omega) : tx k (a ++ b) = true := by
  refine tx_mk ?_ ?_
  · have := tx_len h1
    have := tx_len h2
    rw [len_append]; omega
  · rw [cl_append, List.all_append, tx_pr h1, tx_pr h2]; rfl
theorem tx_le {n m : Nat} {z : Str} (h : tx n z = true) (hk : n ≤ m := by omega) : tx m z = true := tx_mk (Nat.le_trans (tx_len h) hk) (tx_pr h)
theorem tx_cut {n : Nat} {z : Str} {lo hi : Option Int} (h : tx n z = true) : tx n (cutS z lo hi) = true := by
  refine tx_mk ?_ ?_
  · have h1 := tx_len h
    have h2 := cl_length z
    have h3 := cl_length (cutS z lo hi)
    have : (cutS z lo hi).cps.toList.length ≤ z.cps.toList.length := by
      unfold cutS
      simp only [List.length_take, List.length_drop]
      omega
    omega
  · rw [List.all_eq_true]
    exact fun c hc => List.all_eq_true.mp (tx_pr h) c (mem_cut hc)
theorem tx_cutm {n m : Nat} {z : Str} {lo hi : Option Int} (h : tx n z = true) (k : HT.sIx z.length z.length hi - HT.sIx z.length 0 lo ≤ m) : tx m (cutS z lo hi) = true := by
  refine tx_mk ?_ (tx_pr (tx_cut h))
  show (((z.cps.toList.drop _).take _).toArray).size ≤ m
  rw [List.size_toArray, List.length_take]
  omega
theorem tx_cutL {n j : Nat} {z : Str} (h : tx n z = true) : tx j (cutS z none (some (j : Int))) = true := tx_cutm h (by rw [HT.sIx_none, HT.sIx_nat]; omega)
theorem tx_cutR {n j m : Nat} {z : Str} (h : tx n z = true) (hm : z.length - j ≤ m) : tx m (cutS z (some (j : Int)) none) = true := tx_cutm h (by rw [HT.sIx_none, HT.sIx_nat]; omega)
theorem tx_cut1 {n j : Nat} {z : Str} (h : tx n z = true) : tx 1 (cutS z (some (j : Int)) (some ((j + 1 : Nat) : Int))) = true := tx_cutm h (by rw [HT.sIx_nat, HT.sIx_nat]; omega)
theorem tx_join {s : Str} {n k m : Nat} (hs : tx m s = true) : ∀ {ys : List Str}, (∀ y ∈ ys, tx n y = true) → ys.length * (n + m) ≤ k → tx k (Txt.join s ys) = true := by
  intro ys h hk
  have e : (Txt.join s ys).cps.toList = TL.joinL s.cps.toList (ys.map fun y => y.cps.toList) := by
    rw [TL.join_eq]; exact TL.tl_join s ys
  have key : ∀ ys : List Str, (∀ y ∈ ys, tx n y = true) → (TL.joinL s.cps.toList (ys.map fun y => y.cps.toList)).length ≤ ys.length * (n + m) ∧ (TL.joinL s.cps.toList (ys.map fun y => y.cps.toList)).all pr2 = true := by
    intro ys
    induction ys with
    | nil => intro _; exact ⟨Nat.zero_le _, rfl⟩
    | cons y r ih =>
      intro h
      have h1 := h y List.mem_cons_self
      have l1 := tx_len h1
      have l2 := cl_length y
      cases r with
      | nil =>
        refine ⟨?_, by simpa [TL.joinL] using tx_pr h1⟩
        simp only [List.map, TL.joinL, List.length_cons, List.length_nil]
        omega
      | cons y2 r2 =>
        obtain ⟨i1, i2⟩ := ih fun z hz => h z (List.mem_cons_of_mem _ hz)
        have l3 := tx_len hs
        have l4 := cl_length s
        have ej : TL.joinL s.cps.toList ((y :: y2 :: r2).map fun y => y.cps.toList) = y.cps.toList ++ (s.cps.toList ++ TL.joinL s.cps.toList ((y2 :: r2).map fun y => y.cps.toList)) := rfl
        rw [ej]
        refine ⟨?_, by rw [List.all_append, List.all_append, tx_pr h1, tx_pr hs, i2]; rfl⟩
        rw [List.length_append, List.length_append, List.length_cons, Nat.succ_mul]
        omega
  obtain ⟨k1, k2⟩ := key ys h
  rw [← e] at k1 k2
  exact tx_mk (by rw [← cl_length]; omega) k2
theorem tx_sz {n m : Nat} {a b : Str} (h1 : tx n a = true) (h2 : tx m b = true) (h : n + m ≤ 16777216 := by omega) : a.length + b.length ≤ 16777216 := by
  have := tx_len h1
  have := tx_len h2
  omega
theorem tx_sum {n : Nat} : ∀ {zs : List Str}, (∀ z ∈ zs, tx n z = true) → (zs.map (·.length)).sum ≤ zs.length * n
  | [], _ => Nat.zero_le _
  | z :: r, h => by
    have h1 := tx_sum (zs := r) fun y hy => h y (List.mem_cons_of_mem _ hy)
    have h2 := tx_len (h z List.mem_cons_self)
    rw [List.map_cons, List.sum_cons, List.length_cons, Nat.succ_mul]; omega
def TV (n : Nat) (v : V) : Prop := ∃ z, v = .str z ∧ tx n z = true
theorem tv_nil {n : Nat} : ∀ v ∈ ([] : List V), TV n v := fun _ h => nomatch h
theorem tv_cons {n : Nat} {x : V} {l : List V} (h : TV n x) (k : ∀ v ∈ l, TV n v) : ∀ v ∈ x :: l, TV n v := fun v hv => (List.mem_cons.mp hv).elim (fun e => by rw [e]; exact h) (k v)
theorem tv_lit {n : Nat} {s : String} (h : tx n (Str.ofString s) = true := by decide +kernel) : TV n (.str (Str.ofString s)) := ⟨_, rfl, h⟩
theorem tv_app {n : Nat} {l k : List V} (h : ∀ v ∈ l, TV n v) (h2 : ∀ v ∈ k, TV n v) : ∀ v ∈ l ++ k, TV n v := fun v hv => (List.mem_append.mp hv).elim (h v) (h2 v)
theorem tx_num {n : Nat} (h : n < 300) : tx 3 (Str.ofString (toString ((n : Nat) : Int))) = true := by
  have := List.all_eq_true.mp (show ((List.range 300).all fun n => tx 3 (Str.ofString (toString ((n : Nat) : Int)))) = true by decide +kernel) n (List.mem_range.mpr h)
  exact this
def sp_law_number_text {K : PySem.W.Frag} {mg : Str → Option Value} (_ : Txt K mg) : Sp := fun vs H Q _ => ∃ (a : Addr), vs = [.ref a] ∧ Bag H a ∧ ∀ z H', Mv a H H' → tx 5 z = true → Q (.str z) H'
theorem ok_law_number_text (T : Txt K mg) : FnOk P w K mg base CX0 2 T.f_law_number_text T.d_law_number_text ["_law_bag_here"] (sp_law_number_text T) := by
  refine T.k_law_number_text.ok sc_law_number_text (fun vs H Q E h => ?_) (fun cdv A outer s H vs Q E hr h => ?_)
  · obtain ⟨a, rfl, _⟩ := h
    rfl
  · obtain ⟨a, rfl, hB, q⟩ := h
    refine ⟨_, (pss_one (ps_ret (pe_ix (ix_listK K) (pe_lst (pa_cons pe_str (pa_cons pe_str (pa_cons pe_str (pa_cons pe_str (pa_cons pe_str (pa_cons pe_str (pa_cons pe_str (pa_cons pe_str (pa_cons pe_str (pa_cons (pe_callTy call_str_int (by rfl) T.m_str (by decide +kernel) (pa_cons (pe_call (ok_law_draw T) (hr.mono (by decide)) (by rfl) T.g_law_draw T.k_law_draw.kp T.b_law_draw .nil pass0 (pa_cons (pv 0) (pa_cons pe_int pa_nil))) pa_nil)) pa_nil))))))))))) (pe_call (ok_law_draw T) (hr.mono (by decide)) (by rfl) T.g_law_draw T.k_law_draw.kp T.b_law_draw .nil pass0 (pa_cons (pv 0) (pa_cons pe_int pa_nil))) (fun _ _ => rfl)))), ?_⟩
    walk_at "rd"
    refine i_draw (Mv.refl hB) (by decide) (by decide) fun r H2 r0 r1 _ mv2 => ?_
    obtain ⟨n, rfl⟩ := Int.eq_ofNat_of_zero_le r0
    refine ⟨_, rfl, log_small (by omega), fun p hp => i_draw (mv2.new hp) (by decide) (by decide) fun r3 H3 k0 k1 mv3 mv4 => ?_⟩
    have FL : ∀ v ∈ [V.str (Str.ofString "0"), V.str (Str.ofString "1"), V.str (Str.ofString "3"), V.str (Str.ofString "9999"), V.str (Str.ofString "10000"), V.str (Str.ofString "01"),
        V.str (Str.ofString "-1"), V.str (Str.ofString "255"), V.str (Str.ofString "256"), V.str (Str.ofString (toString (n : Int)))], TV 5 v := by
      repeat' first | exact tv_nil | refine tv_cons ?_ ?_ | exact tv_lit | exact ⟨_, rfl, tx_le (tx_num (by omega))⟩
    obtain ⟨v, ev, hv⟩ := at_of k0 (xs := [V.str (Str.ofString "0"), V.str (Str.ofString "1"), V.str (Str.ofString "3"), V.str (Str.ofString "9999"), V.str (Str.ofString "10000"), V.str (Str.ofString "01"),
        V.str (Str.ofString "-1"), V.str (Str.ofString "255"), V.str (Str.ofString "256"), V.str (Str.ofString (toString (n : Int)))]) k1
    obtain ⟨z, rfl, hz⟩ := FL v hv
    exact i_ixL (sqL_of (mv3.old p _ (mv2.ne hp) upd_same)) ev (q z _ mv4 hz)
/-- an item of a list of texts, drawn -/
theorem i_pick {K : PySem.W.Frag} {H0 H : Hp} {a p : Addr} {xs : List V} {n : Nat} {m : Int} {Q : VK} {E : XK} (mv : Mv a H0 H) (hp : H p = some (.lst xs)) (hm : m = xs.length) (h0 : 0 < m) (hs : m.natAbs < 2 ^ 200) (hl : ∀ v ∈ xs, TV n v) (q : ∀ z H', Mv a H H' → Mv a H0 H' → tx n z = true → Q (.str z) H') :
    sp_law_draw K [.ref a, .int m] H (fun y H2 => rIxL K (V.ref p) y H2 Q) E := by
  have npa : p ≠ a → True := fun _ => trivial
  refine i_draw mv h0 hs fun r H2 r0 r1 mv1 mv2 => ?_
  obtain ⟨v, ev, hv⟩ := at_of (xs := xs) r0 (by omega)
  obtain ⟨z, rfl, hz⟩ := hl v hv
  by_cases hpa : p = a
  · subst hpa
    obtain ⟨x1, x2, x3, e⟩ := mv.bag
    rw [hp] at e
    cases e
    obtain ⟨_, e, _⟩ := hl _ List.mem_cons_self
    cases e
  · exact i_ixL (sqL_of (mv1.old p _ hpa hp)) ev (q z _ mv1 mv2 hz)
def sp_law_bytes_text {K : PySem.W.Frag} {mg : Str → Option Value} (_ : Txt K mg) : Sp := fun vs H Q _ => ∃ (a : Addr), vs = [.ref a] ∧ Bag H a ∧ ∀ z H', Mv a H H' → tx 400 z = true → Q (.str z) H'
theorem ok_law_bytes_text (T : Txt K mg) : FnOk P w K mg base CX0 2 T.f_law_bytes_text T.d_law_bytes_text ["_law_bag_here"] (sp_law_bytes_text T) := by
  refine T.k_law_bytes_text.ok sc_law_bytes_text (fun vs H Q E h => ?_) (fun cdv A outer s H vs Q E hr h => ?_)
  · obtain ⟨a, rfl, _⟩ := h
    rfl
  · obtain ⟨a, rfl, hB, q⟩ := h
    refine ⟨_, (pss_cons (ps_set (i := 1) sc_law_bytes_text.nd rfl (.inl rfl) (pe_ix (ix_listK K) (pe_lst (pa_cons pe_int (pa_cons pe_int (pa_cons pe_int (pa_cons pe_int (pa_cons pe_int (pa_cons pe_int pa_nil))))))) (pe_call (ok_law_draw T) (hr.mono (by decide)) (by rfl) T.g_law_draw T.k_law_draw.kp T.b_law_draw .nil pass0 (pa_cons (pv 0) (pa_cons pe_int pa_nil))) (fun _ _ => rfl)))
      (pss_cons (ps_if (pt_cmpR op_eq (pv 1) pe_int (nomark _)) (pss_one (ps_ret pe_str)) pss_nil)
      (pss_cons (ps_setLc (i := 2) (own := [("_law_k", 3)]) (g := gName 3) (tt := tYes) rfl sc_law_bytes_text.nd rfl rfl (sw_true rfl rfl rfl (by decide +kernel)) (pi_range1 (by rfl) T.m_range (pa_cons (pv 1) pa_nil)) (blkOk_by (own := [("_law_k", 3)]) (N := ["_law_bag_here", "_law_many", "_law_words_here", "_law_k"]) (sc := defScope s_law_bytes_text) (by decide +kernel)) (fun _ _ _ _ _ => pg_name (i := 3) sc_law_bytes_text.nd rfl (Or.inl rfl)) (fun _ _ _ _ _ => pts_nil) (fun _ _ _ _ _ => (pe_ix (ix_listK K) (pe_lst (pa_cons pe_str (pa_cons pe_str (pa_cons (pe_callTy call_str_int (by rfl) T.m_str (by decide +kernel) (pa_cons (pe_call (ok_law_draw T) (hr.mono (by decide)) (by rfl) T.g_law_draw T.k_law_draw.kp T.b_law_draw .nil pass0 (pa_cons (pv 0) (pa_cons pe_int pa_nil))) pa_nil)) pa_nil)))) (pe_call (ok_law_draw T) (hr.mono (by decide)) (by rfl) T.g_law_draw T.k_law_draw.kp T.b_law_draw .nil pass0 (pa_cons (pv 0) (pa_cons pe_int pa_nil))) (fun _ _ => rfl))))
      (C8.pss_cut (ps_if (pt_cmpR op_eq (pe_call (ok_law_draw T) (hr.mono (by decide)) (by rfl) T.g_law_draw T.k_law_draw.kp T.b_law_draw .nil pass0 (pa_cons (pv 0) (pa_cons pe_int pa_nil))) pe_int (nomark _)) (pss_one (ps_asg (pe_ix (ix_listK K) (pe_lst (pa_cons pe_str (pa_cons pe_str (pa_cons pe_str (pa_cons pe_str (pa_cons pe_str pa_nil)))))) (pe_call (ok_law_draw T) (hr.mono (by decide)) (by rfl) T.g_law_draw T.k_law_draw.kp T.b_law_draw .nil pass0 (pa_cons (pv 0) (pa_cons pe_int pa_nil))) (fun _ _ => rfl)) (pg_sub (pv 2) (pe_call (ok_law_draw T) (hr.mono (by decide)) (by rfl) T.g_law_draw T.k_law_draw.kp T.b_law_draw .nil pass0 (pa_cons (pv 0) (pa_cons (pv 1) pa_nil))) set_list))) pss_nil)
      (pss_one (ps_ret (pe_joinR pe_str (pv 2)))))))), ?_⟩
    walk_at "rd"
    refine rdSeq ?_
    walk_at "rd"
    intro p hp
    refine i_draw ((Mv.refl hB).new hp) (by decide) (by decide) fun r H2 r0 r1 mv1 mv2 => ?_
    obtain ⟨v, ev, hv⟩ := at_int (ns := [0, 1, 2, 3, 64, 65]) r0 r1
    refine i_ixL (sqL_of (mv1.old p _ (bag_ne hB hp) upd_same)) ev ?_
    obtain ⟨n, rfl, hn⟩ : ∃ n : Nat, v = n ∧ n ≤ 65 := by
      simp only [List.mem_cons, List.not_mem_nil, or_false] at hv
      exact ⟨v.toNat, by omega, by omega⟩
    refine rdSeq ?_
    walk_at "rd"
    refine ite2 (fun h1 => q _ _ mv2 (by decide +kernel)) (fun h1 => ?_)
    have hn0 : n ≠ 0 := fun e => h1 (by rw [e]; rfl)
    refine rdSeq ?_
    walk_at "rd"
    refine ⟨by omega, by omega, ?_⟩
    have nat0 : ((n : Int)).toNat = n := by omega
    rw [nat0]
    refine i_lcD (walk_range (lo := 0) (n := n)) mv2.bag (TV 4) (by exact line5' (by omega)) (fun _ _ => trivial) (fun i H1 x H' y => y.1) (fun i x H1 Q' hi hy mv3 qq => ?_) (fun D H3 ys hD mv3 hD3 hl3 hP3 => ?_)
    · walk_at "rd"
      refine i_draw mv3 (by decide) (by decide) fun r3 H4 k0 k1 mv4 mv5 => ?_
      obtain ⟨k, rfl⟩ := Int.eq_ofNat_of_zero_le k0
      refine ⟨_, rfl, log_small (by omega), fun u hu => ?_⟩
      refine i_pick (mv4.new hu) upd_same (by rfl) (by decide) (by decide) (n := 4) ?_ fun z H5 _ mv6 hz => qq _ _ ⟨_, rfl, hz⟩ mv6
      repeat' first | exact tv_nil | refine tv_cons ?_ ?_ | exact tv_lit | exact ⟨_, rfl, tx_le (tx_num (by omega))⟩
    have mv23 := mv2.trans mv3
    have nDa : D ≠ a := bag_ne mv2.bag hD
    refine rdCut (fun σ H' => Mv a H H' ∧ ∃ ys, H' D = some (.lst ys) ∧ ys.length = n ∧ (∀ y ∈ ys, TV 4 y) ∧ σ = [some (.ref a), some (.int n), some (.ref D), none]) ?_ ?_
    · walk_at "rd"
      refine i_draw mv23 (by decide) (by decide) fun r4 H4 k0 k1 mv4 mv5 => ?_
      have hD4 := mv4.old D _ nDa hD3
      refine ⟨rfl, ite2 (fun h4 => ?_) (fun h4 => ⟨mv5, ys, hD4, hl3, hP3⟩)⟩
      intro u hu
      refine i_pick (n := 4) (mv5.new hu) upd_same (by rfl) (by decide) (by decide) (by repeat' first | exact tv_nil | refine tv_cons ?_ ?_ | exact tv_lit) fun z H5 mv6 mv7 hz => ?_
      refine i_draw mv7 (by omega) (by omega) fun r5 H6 l0 l1 mv8 mv9 => ?_
      obtain ⟨j, rfl⟩ := Int.eq_ofNat_of_zero_le l0
      have hD6 := mv8.old D _ nDa (mv6.old D _ nDa (same_new hu D _ hD4))
      refine i_setL hD6 (ixN_of (by omega)) ?_
      have nd0 : H D = none := mv2.free hD
      refine ⟨⟨?_, fun b o hb e => ?_⟩, _, upd_same, by rw [List.length_set]; exact hl3, fun y hy => ?_⟩
      · obtain ⟨x1, x2, x3, e⟩ := mv9.bag
        exact ⟨x1, x2, x3, by rw [upd_ne nDa.symm]; exact e⟩
      · rw [upd_ne (ne_of_none e nd0)]; exact mv9.old b o hb e
      · rcases List.mem_or_eq_of_mem_set hy with h | h
        · exact hP3 y h
        · rw [h]; exact ⟨z, rfl, hz⟩
    · rintro σ H4 ⟨mv4, ys2, hD4, hl4, hP4, rfl⟩
      obtain ⟨zs, rfl, hzs⟩ := strs_of hP4
      rw [List.length_map] at hl4
      walk_at "rd"
      refine ⟨_, D, zs, rfl, rfl, .inl (sqL_of hD4), ?_, q _ _ mv4 (tx_join (n := 4) (m := 1) (by decide +kernel) hzs (by omega))⟩
      have h5 := tx_sum hzs
      have h6 : (Str.ofString ",").length = 1 := by decide +kernel
      rw [h6]; omega
def sp_law_name_text {K : PySem.W.Frag} {mg : Str → Option Value} (_ : Txt K mg) : Sp := fun vs H Q _ => ∃ (a : Addr), vs = [.ref a] ∧ Bag H a ∧ ∀ z H', Mv a H H' → tx 20 z = true → Q (.str z) H'
theorem ok_law_name_text (T : Txt K mg) : FnOk P w K mg base CX0 2 T.f_law_name_text T.d_law_name_text ["_law_bag_here"] (sp_law_name_text T) := by
  refine T.k_law_name_text.ok sc_law_name_text (fun vs H Q E h => ?_) (fun cdv A outer s H vs Q E hr h => ?_)
  · obtain ⟨a, rfl, _⟩ := h
    rfl
  · obtain ⟨a, rfl, hB, q⟩ := h
    refine ⟨_, (pss_one (ps_ret (pe_op op_add_str (pe_op op_add_str pe_str (pe_ix (ix_listK K) (pe_lst (pa_cons pe_str (pa_cons pe_str (pa_cons (pe_op op_mul_str pe_str pe_int) (pa_cons (pe_op op_mul_str pe_str pe_int) (pa_cons pe_str (pa_cons pe_str (pa_cons pe_str (pa_cons pe_str pa_nil))))))))) (pe_call (ok_law_draw T) (hr.mono (by decide)) (by rfl) T.g_law_draw T.k_law_draw.kp T.b_law_draw .nil pass0 (pa_cons (pv 0) (pa_cons pe_int pa_nil))) (fun _ _ => rfl))) pe_str))), ?_⟩
    walk_at "rd"
    refine ⟨_, _, rfl, rfl, mul_ok (by decide +kernel) (by decide) (by decide), _, _, rfl, rfl, mul_ok (by decide +kernel) (by decide) (by decide), fun p hp => ?_⟩
    refine i_pick (n := 17) ((Mv.refl hB).new hp) upd_same (by rfl) (by decide) (by decide) ?_ fun z H5 mv6 mv7 hz => ?_
    · repeat' first | exact tv_nil | refine tv_cons ?_ ?_ | exact tv_lit | exact ⟨_, rfl, by decide +kernel⟩
    have h1 := tx_len hz
    have h2 : (Str.ofString "\"").length = 1 := by decide +kernel
    have t1 : tx 1 (Str.ofString "\"") = true := by decide +kernel
    refine ⟨_, rfl, by rw [h2]; omega, by rw [len_append, h2]; omega, q _ _ mv7 (tx_app (n := 18) (m := 1) (tx_app t1 hz) t1)⟩
def sp_law_line {K : PySem.W.Frag} {mg : Str → Option Value} (_ : Txt K mg) : Sp := fun vs H Q _ => ∃ (a : Addr), vs = [.ref a] ∧ Bag H a ∧ ∀ z H', Mv a H H' → tx 900 z = true → Q (.str z) H'
theorem ok_law_line (T : Txt K mg) : FnOk P w K mg base CX0 3 T.f_law_line T.d_law_line ["_law_bag_here"] (sp_law_line T) := by
  refine T.k_law_line.ok sc_law_line (fun vs H Q E h => ?_) (fun cdv A outer s H vs Q E hr h => ?_)
  · obtain ⟨a, rfl, _⟩ := h
    rfl
  · obtain ⟨a, rfl, hB, q⟩ := h
    refine ⟨_, (pss_cons (ps_set (i := 1) sc_law_line.nd rfl (.inl rfl) (pe_call (ok_law_draw T) (hr.mono (by decide)) (by rfl) T.g_law_draw T.k_law_draw.kp T.b_law_draw .nil pass0 (pa_cons (pv 0) (pa_cons pe_int pa_nil))))
      (pss_cons (ps_set (i := 2) sc_law_line.nd rfl (.inl rfl) (pe_call (ok_law_name_text T) (hr.mono (by decide)) (by rfl) T.g_law_name_text T.k_law_name_text.kp T.b_law_name_text .nil pass0 (pa_cons (pv 0) pa_nil)))
      (pss_cons (ps_if (pt_cmpR op_eq (pv 1) pe_int (nomark _)) (pss_cons (ps_setLc (i := 3) (own := [("_law_k", 5)]) (g := gName 5) (tt := tYes) rfl sc_law_line.nd rfl rfl (sw_true rfl rfl rfl (by decide +kernel)) (pi_range1 (by rfl) T.m_range (pa_cons (pe_call (ok_law_draw T) (hr.mono (by decide)) (by rfl) T.g_law_draw T.k_law_draw.kp T.b_law_draw .nil pass0 (pa_cons (pv 0) (pa_cons pe_int pa_nil))) pa_nil)) (blkOk_by (own := [("_law_k", 5)]) (N := ["_law_bag_here", "_law_kind", "_law_name", "_law_rows", "_law_lines", "_law_k"]) (sc := defScope s_law_line) (by decide +kernel)) (fun _ _ _ _ _ => pg_name (i := 5) sc_law_line.nd rfl (Or.inl rfl)) (fun _ _ _ _ _ => pts_nil) (fun _ _ _ _ _ => (pe_ix (ix_listK K) (pe_lst (pa_cons pe_str (pa_cons pe_str (pa_cons pe_str (pa_cons pe_str (pa_cons pe_str (pa_cons pe_str pa_nil))))))) (pe_call (ok_law_draw T) (hr.mono (by decide)) (by rfl) T.g_law_draw T.k_law_draw.kp T.b_law_draw .nil pass0 (pa_cons (pv 0) (pa_cons pe_int pa_nil))) (fun _ _ => rfl))))
      (pss_one (ps_ret (pe_joinR pe_str (pe_op op_cat (pe_op op_cat (pe_lst (pa_cons pe_str pa_nil)) (pv 3)) (pe_lst (pa_cons pe_str pa_nil))))))) pss_nil)
      (pss_cons (ps_set (i := 4) sc_law_line.nd rfl (.inl rfl) (pe_lst (pa_cons pe_str (pa_cons pe_str (pa_cons (pe_op op_add_str (pe_op op_add_str (pe_op op_add_str pe_str (pv 2)) pe_str) (pe_call (ok_law_bytes_text T) (hr.mono (by decide)) (by rfl) T.g_law_bytes_text T.k_law_bytes_text.kp T.b_law_bytes_text .nil pass0 (pa_cons (pv 0) pa_nil))) (pa_cons (pe_op op_add_str (pe_op op_add_str (pe_op op_add_str pe_str (pe_call (ok_law_number_text T) (hr.mono (by decide)) (by rfl) T.g_law_number_text T.k_law_number_text.kp T.b_law_number_text .nil pass0 (pa_cons (pv 0) pa_nil))) pe_str) (pv 2)) pa_nil))))))
      (pss_cons (ps_set (i := 4) sc_law_line.nd rfl (.inl rfl) (pe_op op_cat (pv 4) (pe_lst (pa_cons (pe_op op_add_str (pe_op op_add_str (pe_op op_add_str pe_str (pe_call (ok_law_number_text T) (hr.mono (by decide)) (by rfl) T.g_law_number_text T.k_law_number_text.kp T.b_law_number_text .nil pass0 (pa_cons (pv 0) pa_nil))) pe_str) (pe_call (ok_law_bytes_text T) (hr.mono (by decide)) (by rfl) T.g_law_bytes_text T.k_law_bytes_text.kp T.b_law_bytes_text .nil pass0 (pa_cons (pv 0) pa_nil))) (pa_cons (pe_op op_add_str pe_str (pv 2)) (pa_cons pe_str (pa_cons (pe_op op_add_str pe_str (pe_call (ok_law_number_text T) (hr.mono (by decide)) (by rfl) T.g_law_number_text T.k_law_number_text.kp T.b_law_number_text .nil pass0 (pa_cons (pv 0) pa_nil))) pa_nil)))))))
      (pss_one (ps_ret (pe_ix (ix_listK K) (pe_op op_cat (pv 4) (pe_lst (pa_cons pe_str (pa_cons (pe_op op_add_str pe_str (pe_call (ok_law_number_text T) (hr.mono (by decide)) (by rfl) T.g_law_number_text T.k_law_number_text.kp T.b_law_number_text .nil pass0 (pa_cons (pv 0) pa_nil))) (pa_cons pe_str pa_nil))))) (pv 1) (fun _ _ => rfl))))))))), ?_⟩
    walk_at "rd"
    refine rdSeq ?_
    walk_at "rd"
    refine i_draw (Mv.refl hB) (by decide) (by decide) fun r H2 r0 r1 _ mv2 => ?_
    refine rdSeq ?_
    walk_at "rd"
    refine ⟨a, rfl, mv2.bag, fun nm H3 mv3' hnm => ?_⟩
    have mv3 := mv2.trans mv3'
    refine rdSeq ?_
    walk_at "rd"
    refine ite2 (fun h1 => ?_) (fun h1 => ?_)
    · refine rdSeq ?_
      walk_at "rd"
      refine i_draw mv3 (by decide) (by decide) fun r3 H4 k0 k1 _ mv4 => ?_
      obtain ⟨n, rfl⟩ := Int.eq_ofNat_of_zero_le k0
      refine ⟨_, rfl, by omega, by omega, ?_⟩
      have nat0 : ((n : Int)).toNat = n := by omega
      rw [nat0]
      refine i_lcD (walk_range (lo := 0) (n := n)) mv4.bag (TV 12) (by exact line5' (by omega)) (fun _ _ => trivial) (fun i H1 x H' y => y.1) (fun i x H1 Q' hi hy mv3 qq => ?_) (fun D H5 ys hD mv5 hD5 hl5 hP5 => ?_)
      · walk_at "rd"
        intro u hu
        refine i_pick (n := 12) ((Mv.refl mv3.bag).new hu) upd_same (by rfl) (by decide) (by decide) (by repeat' first | exact tv_nil | refine tv_cons ?_ ?_ | exact tv_lit) fun z H6 _ mv6 hz => qq _ _ ⟨z, rfl, hz⟩ mv6
      · walk_at "rd"
        intro u hu
        have nDa : D ≠ a := bag_ne mv4.bag hD
        have mv6 := (mv4.trans mv5).new (o := .lst [V.str (Str.ofString "load")]) hu
        refine i_cat upd_same (same_new hu D _ hD5) (by rw [hl5]; exact line5 (by show 1 + n ≤ _; omega)) fun w hw => ?_
        intro x hx
        have mv7 := (mv6.new (o := .lst ([V.str (Str.ofString "load")] ++ ys)) hw).new (o := .lst [V.str (Str.ofString "end")]) hx
        refine i_cat (same_new hx w _ upd_same) upd_same (line5 (by simp [hl5]; omega)) fun y hy => ?_
        have mv8 := mv7.new (o := .lst ([V.str (Str.ofString "load")] ++ ys ++ [V.str (Str.ofString "end")])) hy
        have hall : ∀ v ∈ [V.str (Str.ofString "load")] ++ ys ++ [V.str (Str.ofString "end")], TV 12 v := tv_app (tv_app (tv_cons tv_lit tv_nil) hP5) (tv_cons tv_lit tv_nil)
        have hlen : ([V.str (Str.ofString "load")] ++ ys ++ [V.str (Str.ofString "end")]).length = n + 2 := by simp [hl5]
        obtain ⟨zs, ez, hzs⟩ := strs_of hall
        have hlz : zs.length = n + 2 := by rw [← hlen, ez, List.length_map]
        refine ⟨_, y, zs, rfl, rfl, .inl (sqL_of (by rw [upd_same, ez])), ?_, q _ _ mv8 (tx_join (n := 12) (m := 1) (by decide +kernel) hzs (by omega))⟩
        have h5 := tx_sum hzs
        have h6 : (Str.ofString "\n").length = 1 := by decide +kernel
        rw [h6]; omega
    · refine rdSeq ?_
      walk_at "rd"
      have t1 : tx 1 (Str.ofString " ") = true := by decide +kernel
      have ta : tx 15 (Str.ofString "make Purse Box ") = true := by decide +kernel
      have ta1 := tx_app (k := 35) ta hnm
      have ta2 := tx_app (k := 36) ta1 t1
      refine ⟨tx_sz ta hnm, tx_sz ta1 t1, a, rfl, mv3.bag, fun bt H4 mv4' hbt => ⟨_, rfl, tx_sz ta2 hbt, a, rfl, mv4'.bag, fun nu H5 mv5' hnu => ?_⟩⟩
      have mv5 := (mv3.trans mv4').trans mv5'
      have tb : tx 7 (Str.ofString "choose ") = true := by decide +kernel
      have tb1 := tx_app (k := 12) tb hnu
      have tb2 := tx_app (k := 13) tb1 t1
      refine ⟨_, rfl, tx_sz tb hnu, tx_sz tb1 t1, tx_sz tb2 hnm, fun p hp => ?_⟩
      have tM : ∀ v ∈ [V.str (Str.ofString ""), V.str (Str.ofString "# note"), V.str (Str.ofString "make Purse Box " ++ nm ++ Str.ofString " " ++ bt), V.str (Str.ofString "choose " ++ nu ++ Str.ofString " " ++ nm)], TV 900 v :=
        tv_cons tv_lit (tv_cons tv_lit (tv_cons ⟨_, rfl, tx_app ta2 hbt⟩ (tv_cons ⟨_, rfl, tx_app tb2 hnm⟩ tv_nil)))
      generalize hM : [V.str (Str.ofString ""), V.str (Str.ofString "# note"), V.str (Str.ofString "make Purse Box " ++ nm ++ Str.ofString " " ++ bt), V.str (Str.ofString "choose " ++ nu ++ Str.ofString " " ++ nm)] = M at *
      have lM : M.length = 4 := by rw [← hM]; rfl
      have npa : p ≠ a := mv5.ne hp
      refine rdSeq ?_
      walk_at "rd"
      have mv6 := mv5.new (o := .lst M) hp
      have td : tx 5 (Str.ofString "send ") = true := by decide +kernel
      refine ⟨a, rfl, mv6.bag, fun nu2 H6 mv7' hnu2 => ⟨_, rfl, ?_⟩⟩
      have td1 := tx_app (k := 10) td hnu2
      have td2 := tx_app (k := 11) td1 t1
      refine ⟨tx_sz td hnu2, tx_sz td1 t1, a, rfl, mv7'.bag, fun bt2 H7 mv8' hbt2 => ⟨_, rfl, tx_sz td2 hbt2, ?_⟩⟩
      have te : tx 5 (Str.ofString "drop ") = true := by decide +kernel
      have tf : tx 4 (Str.ofString "cut ") = true := by decide +kernel
      have tg : tx 6 (Str.ofString "reset ") = true := by decide +kernel
      have mv78 := mv7'.trans mv8'
      have mv8 := mv6.trans mv78
      have hp7 := mv78.old p _ npa upd_same
      refine ⟨tx_sz te hnm, a, rfl, mv8.bag, fun nu3 H8 mv9' hnu3 => ⟨_, rfl, tx_sz tf hnu3, fun p2 hp2 => ?_⟩⟩
      have mv9 := mv8.trans mv9'
      have np2 := mv9.ne hp2
      have tM2 : ∀ v ∈ [V.str (Str.ofString "send " ++ nu2 ++ Str.ofString " " ++ bt2), V.str (Str.ofString "drop " ++ nm), V.str (Str.ofString "collect"), V.str (Str.ofString "cut " ++ nu3)], TV 900 v :=
        tv_cons ⟨_, rfl, tx_app td2 hbt2⟩ (tv_cons ⟨_, rfl, tx_app te hnm⟩ (tv_cons tv_lit (tv_cons ⟨_, rfl, tx_app tf hnu3⟩ tv_nil)))
      generalize hM2 : [V.str (Str.ofString "send " ++ nu2 ++ Str.ofString " " ++ bt2), V.str (Str.ofString "drop " ++ nm), V.str (Str.ofString "collect"), V.str (Str.ofString "cut " ++ nu3)] = M2 at *
      have lM2 : M2.length = 4 := by rw [← hM2]; rfl
      have mv10 := mv9.new (o := .lst M2) hp2
      refine i_cat (same_new hp2 p _ (mv9'.old p _ npa hp7)) upd_same (line5 (by omega)) fun p3 hp3 => ?_
      have mv11 := mv10.new (o := .lst (M ++ M2)) hp3
      have np3 := mv10.ne hp3
      refine ⟨a, rfl, mv11.bag, fun nu4 H9 mv12' hnu4 => ⟨_, rfl, tx_sz tg hnu4, fun p4 hp4 => ?_⟩⟩
      have mv12 := mv11.trans mv12'
      have tM3 : ∀ v ∈ [V.str (Str.ofString "reset"), V.str (Str.ofString "reset " ++ nu4), V.str (Str.ofString "send 0 -")], TV 900 v :=
        tv_cons tv_lit (tv_cons ⟨_, rfl, tx_app tg hnu4⟩ (tv_cons tv_lit tv_nil))
      generalize hM3 : [V.str (Str.ofString "reset"), V.str (Str.ofString "reset " ++ nu4), V.str (Str.ofString "send 0 -")] = M3 at *
      have lM3 : M3.length = 3 := by rw [← hM3]; rfl
      have mv13 := mv12.new (o := .lst M3) hp4
      refine i_cat (same_new hp4 p3 _ (mv12'.old p3 _ np3 upd_same)) upd_same (line5 (by simp; omega)) fun p5 hp5 => ?_
      have mv14 := mv13.new (o := .lst (M ++ M2 ++ M3)) hp5
      obtain ⟨v, ev, hv⟩ := at_of (xs := M ++ M2 ++ M3) r0 (by simp; omega)
      obtain ⟨z, rfl, hz⟩ := tv_app (tv_app tM tM2) tM3 v hv
      exact i_ixL (sqL_of upd_same) ev (q z _ mv14 hz)
def sp_law_changed {K : PySem.W.Frag} {mg : Str → Option Value} (_ : Txt K mg) : Sp := fun vs H Q _ => ∃ (a : Addr) (z : Str), vs = [.ref a, .str z] ∧ Bag H a ∧ tx 8000 z = true ∧ ∀ z' H', Mv a H H' → tx 9000 z' = true → Q (.str z') H'
theorem ok_law_changed (T : Txt K mg) : FnOk P w K mg base CX0 2 T.f_law_changed T.d_law_changed ["_law_bag_here", "_law_text_here"] (sp_law_changed T) := by
  refine T.k_law_changed.ok sc_law_changed (fun vs H Q E h => ?_) (fun cdv A outer s H vs Q E hr h => ?_)
  · obtain ⟨a, z, rfl, _⟩ := h
    rfl
  · obtain ⟨a, z, rfl, hB, hz, q⟩ := h
    refine ⟨_, (pss_cons (ps_for PassesOwn.never rfl (pi_range1 (by rfl) T.m_range (pa_cons (pe_call (ok_law_draw T) (hr.mono (by decide)) (by rfl) T.g_law_draw T.k_law_draw.kp T.b_law_draw .nil pass0 (pa_cons (pv 0) (pa_cons pe_int pa_nil))) pa_nil)) (pg_name (i := 2) sc_law_changed.nd rfl (Or.inl rfl)) (pss_one (ps_if (pt_cmpR op_gt (pe_callB call_lenS (by rfl) T.m_len (by decide +kernel) (pa_cons (pv 1) pa_nil)) pe_int (nomark _)) (pss_cons (ps_set (i := 3) sc_law_changed.nd rfl (.inl rfl) (pe_call (ok_law_draw T) (hr.mono (by decide)) (by rfl) T.g_law_draw T.k_law_draw.kp T.b_law_draw .nil pass0 (pa_cons (pv 0) (pa_cons (pe_callB call_lenS (by rfl) T.m_len (by decide +kernel) (pa_cons (pv 1) pa_nil)) pa_nil))))
      (pss_cons (ps_set (i := 4) sc_law_changed.nd rfl (.inl rfl) (pe_ix ix_str pe_str (pe_call (ok_law_draw T) (hr.mono (by decide)) (by rfl) T.g_law_draw T.k_law_draw.kp T.b_law_draw .nil pass0 (pa_cons (pv 0) (pa_cons pe_int pa_nil))) (fun _ _ => rfl)))
      (pss_one (ps_set (i := 1) sc_law_changed.nd rfl (.inl rfl) (pe_ix (ix_listK K) (pe_lst (pa_cons (pe_op op_add_str (pe_slice sl_str (pv 1) po_none (po_some (pv 3))) (pe_slice sl_str (pv 1) (po_some (pe_op op_add (pv 3) pe_int)) po_none)) (pa_cons (pe_op op_add_str (pe_op op_add_str (pe_slice sl_str (pv 1) po_none (po_some (pv 3))) (pe_slice sl_str (pv 1) (po_some (pv 3)) (po_some (pe_op op_add (pv 3) pe_int)))) (pe_slice sl_str (pv 1) (po_some (pv 3)) po_none)) (pa_cons (pe_op op_add_str (pe_op op_add_str (pe_slice sl_str (pv 1) po_none (po_some (pv 3))) (pv 4)) (pe_slice sl_str (pv 1) (po_some (pe_op op_add (pv 3) pe_int)) po_none)) pa_nil)))) (pe_call (ok_law_draw T) (hr.mono (by decide)) (by rfl) T.g_law_draw T.k_law_draw.kp T.b_law_draw .nil pass0 (pa_cons (pv 0) (pa_cons pe_int pa_nil))) (fun _ _ => rfl)))))) pss_nil)))
      (pss_one (ps_ret (pv 1)))), ?_⟩
    walk_at "rd"
    refine rdSeq ?_
    walk_at "rd"
    refine i_draw (Mv.refl hB) (by decide) (by decide) fun r H2 r0 r1 _ mv2 => ?_
    obtain ⟨n, rfl⟩ := Int.eq_ofNat_of_zero_le r0
    refine ⟨_, rfl, by omega, by omega, ?_⟩
    have nat0 : ((n : Int)).toNat = n := by omega
    rw [nat0]
    refine i_for (walk_range (lo := 0) (n := n)) (fun i σ H' => Mv a H H' ∧ ∃ z' u v w, tx (8000 + i) z' = true ∧ σ = [some (.ref a), some (.str z'), u, v, w]) ⟨mv2, z, _, _, _, hz, rfl⟩ (fun _ _ _ _ _ => trivial) ?_ ?_
    · rintro i x σ H3 H4 hi ⟨mv3, z', u, v, w, hz', rfl⟩ ⟨rfl, rfl⟩
      walk_at "rd"
      have hl := tx_len hz'
      refine i_lenS rfl (line5 (by omega)) ?_
      walk_at "rd"
      refine ite2 (fun h1 => ?_) (fun h1 => ⟨mv3, z', tx_le hz', rfl⟩)
      refine rdSeq ?_
      walk_at "rd"
      refine i_lenS rfl (line5 (by omega)) ?_
      refine i_draw mv3 (by omega) (by omega) fun r2 H5 k0 k1 _ mv5 => ?_
      refine rdSeq ?_
      walk_at "rd"
      refine i_draw mv5 (by decide) (by decide) fun r3 H6 l0 l1 _ mv6 => ?_
      obtain ⟨c, ec, hc⟩ := at_chr (z := Str.ofString "019,-\" aendl\n") l0 l1
      refine i_ixS (by decide +kernel) ec ?_
      have tc : tx 1 (⟨#[c]⟩ : Str) = true := by
        refine tx_mk (Nat.le_refl _) ?_
        have := List.all_eq_true.mp (show ((Str.ofString "019,-\" aendl\n").cps.toList.all pr2) = true by decide +kernel) c hc
        show (pr2 c && true) = true
        rw [this]; rfl
      walk_at "rd"
      obtain ⟨j, rfl⟩ := Int.eq_ofNat_of_zero_le k0
      have hj : j < z'.length := by omega
      have eJ : ((j : Int) + 1) = ((j + 1 : Nat) : Int) := rfl
      rw [eJ]
      have tA : tx j (cutS z' none (some (j : Int))) = true := tx_cutL hz'
      have tB : tx (z'.length - (j + 1)) (cutS z' (some ((j + 1 : Nat) : Int)) none) = true := tx_cutR hz' (Nat.le_refl _)
      have tC : tx 1 (cutS z' (some (j : Int)) (some ((j + 1 : Nat) : Int))) = true := tx_cut1 hz'
      have tD : tx (z'.length - j) (cutS z' (some (j : Int)) none) = true := tx_cutR hz' (Nat.le_refl _)
      have tAC := tx_app (k := j + 1) tA tC
      have tAc := tx_app (k := j + 1) tA tc
      have hzl : z'.length ≤ sizeLine := line5 (by omega)
      refine i_slS hzl (i_slS hzl ⟨_, rfl, _, rfl, tx_sz tA tB, i_slS hzl (i_slS hzl ⟨_, rfl, _, rfl, tx_sz tA tC, i_slS hzl ⟨_, rfl, tx_sz tAC tD, i_slS hzl ⟨_, rfl, tx_sz tA tc, i_slS hzl ⟨_, rfl, tx_sz tAc tB, fun p hp => ?_⟩⟩⟩⟩)⟩)
      refine i_pick (n := 8000 + (i + 1)) (mv6.new hp) upd_same (by rfl) (by decide) (by decide) (tv_cons ⟨_, rfl, tx_app tA tB⟩ (tv_cons ⟨_, rfl, tx_app tAC tD⟩ (tv_cons ⟨_, rfl, tx_app tAc tB⟩ tv_nil))) fun y H7 _ mv7 hy => ?_
      exact ⟨mv7, y, hy, rfl⟩
    · rintro σ H3 ⟨mv3, z', u, v, w, hz', rfl⟩
      walk_at "rd"
      exact q z' _ mv3 (tx_le hz')

/-! ### the law's reader, walked -/
def onumV : Option Nat → V
  | some n => .int n
  | none => .non
def sp_law_number {K : PySem.W.Frag} {mg : Str → Option Value} (_ : Txt K mg) : Sp := fun vs H Q _ => ∃ (z : Str) (m : Int), vs = [.str z, .int m] ∧ z.length ≤ 100000 ∧ ∀ H', Same H H' → Q (onumV (numO z.cps.toList m)) H'
theorem ok_law_number (T : Txt K mg) : FnOk P w K mg base CX0 1 T.f_law_number T.d_law_number ["_law_word", "_law_most"] (sp_law_number T) := by
  refine T.k_law_number.ok sc_law_number (fun vs H Q E h => ?_) (fun cdv A outer s H vs Q E hr h => ?_)
  · obtain ⟨z, m, rfl, _⟩ := h
    rfl
  · obtain ⟨z, m, rfl, hz, q⟩ := h
    refine ⟨_, (pss_cons (ps_if (PW.pt (pw_or (pt_cmpR op_lt (pe_callB call_lenS (by rfl) T.m_len (by decide +kernel) (pa_cons (pv 0) pa_nil)) pe_int (nomark _)) (pw_or (pt_cmpR op_gt (pe_callB call_lenS (by rfl) T.m_len (by decide +kernel) (pa_cons (pv 0) pa_nil)) pe_int (nomark _)) (pw_or1 (PW.pt (pw_and (pt_cmpR op_eq (pe_ix ix_str (pv 0) pe_int (fun _ _ => rfl)) pe_str (nomark _)) (pw_and1 (pt_cmpR op_ne (pv 0) pe_str (nomark _))))))))) (pss_one (ps_ret pe_non)) pss_nil)
      (pss_cons (ps_if (PW.pt (pw_or (pt_cmpR op_gt (pe_callB (lenLK K) (by rfl) T.m_len (by decide +kernel) (pa_cons (pe_lc (own := [("_law_one", 2)]) (g := gName 2) rfl sc_law_number.nd (pi_str (pv 0)) (blkOk_by (own := [("_law_one", 2)]) (N := ["_law_word", "_law_most", "_law_one"]) (sc := defScope s_law_number) (by decide +kernel)) (fun _ _ _ _ _ => pg_name (i := 2) sc_law_number.nd rfl (Or.inl rfl)) (fun _ _ _ _ _ => pts_one (pt_cmpR op_notInC (pv 2) pe_str rfl)) (fun _ _ _ _ _ => (pv 2))) pa_nil)) pe_int (nomark _)) (pw_or1 (pt_cmpR op_gt (pe_callTy call_int_str (by rfl) T.m_int (by decide +kernel) (pa_cons (pv 0) pa_nil)) (pv 1) (nomark _))))) (pss_one (ps_ret pe_non)) pss_nil)
      (pss_one (ps_ret (pe_callTy call_int_str (by rfl) T.m_int (by decide +kernel) (pa_cons (pv 0) pa_nil)))))), ?_⟩
    have ez : z.cps.toList.length = z.length := Array.length_toList
    have q0 : ∀ H', Same H H' → numP z.cps.toList m = false → Q V.non H' := fun H' s e => by
      have := q H' s
      unfold numO at this
      rw [if_neg (by rw [e]; simp)] at this
      exact this
    walk_at "rd"
    refine rdSeq ?_
    walk_at "rd"
    refine i_lenS rfl (line5 hz) ?_
    walk_at "rd"
    have out : ¬ (1 ≤ z.cps.toList.length ∧ z.cps.toList.length ≤ 4) → numP z.cps.toList m = false := fun h => by unfold numP; rw [decide_eq_false h]; rfl
    refine ite2 (fun h1 => q0 _ (Same.refl H) (out (by omega))) (fun h1 => i_lenS rfl (line5 hz) ⟨_, rfl, ite2 (fun h2 => q0 _ (Same.refl H) (out (by omega))) (fun h2 => ?_)⟩)
    have hl : decide (1 ≤ z.cps.toList.length ∧ z.cps.toList.length ≤ 4) = true := decide_eq_true (by omega)
    obtain ⟨c, r, ec⟩ : ∃ c r, z.cps.toList = c :: r := by
      cases e : z.cps.toList with
      | nil => rw [e] at ez; simp at ez; omega
      | cons c r => exact ⟨c, r, rfl⟩
    refine i_ixS (c := c) (line5 hz) (by rw [ec]; exact atI_nat (j := 0) rfl) ⟨rfl, ?_⟩
    have eh : z.cps.toList.headD 0 = c := by rw [ec]; rfl
    have e1 : (V.str ⟨#[c]⟩ = V.str (Str.ofString "0")) ↔ c = 48 := ⟨fun e => by
      have e2 : ([c] : List Nat) = [48] := congrArg (fun z : Str => z.cps.toList) (V.str.inj e)
      injection e2, fun e => by subst e; rfl⟩
    have e2 : (z = Str.ofString "0") ↔ z.cps.toList = [48] := ⟨fun e => by subst e; rfl, fun e => cl_ext e⟩
    refine i_if2 (fun h3 h4 => q0 _ (Same.refl H) ?_) (fun h34 => ?_)
    · unfold numP
      rw [eh, decide_eq_true (e1.mp h3), decide_eq_false (p := z.cps.toList = [48]) (fun k => by rw [decide_eq_true (e2.mpr k)] at h4; cases h4)]
      simp
    have hlead : (!decide (z.cps.toList.headD 0 = 48) || decide (z.cps.toList = [48])) = true := by
      rw [eh]
      by_cases h5 : c = 48
      · by_cases h6 : z.cps.toList = [48]
        · rw [decide_eq_true h6, Bool.or_true]
        · exact absurd ⟨e1.mpr h5, by rw [decide_eq_false (fun k => h6 (e2.mp k))]; rfl⟩ h34
      · rw [decide_eq_false h5]; rfl
    have eN : numP z.cps.toList m = (z.cps.toList.all digC && decide ((NumText.digitsVal z.cps.toList : Int) ≤ m)) := by
      unfold numP
      rw [hl, hlead, Bool.true_and, Bool.true_and]
    refine rdSeq ?_
    walk_at "rd"
    refine i_lcF (walk_chars (z := z)) (fun c => !digC c) (by rw [ez]; exact line5' hz) (fun _ _ _ => trivial) (fun c hc H1 Q' sm q' => ?_) (fun c hc H1 Q' sm q' => ?_) (fun D hD => ?_)
    · walk_at "rd"
      refine i_inC rfl rfl ?_
      exact ⟨_, rfl, q'⟩
    · walk_at "rd"
      exact q'
    have sD := same_new (o := HO.lst ((z.cps.toList.filter fun c => !digC c).map fun c => V.str ⟨#[c]⟩)) hD
    refine i_lenL (sqL_of upd_same) ?_
    walk_at "rd"
    refine ite2 (fun h5 => q0 _ sD ?_) (fun h5 => ?_)
    · rw [eN]
      rw [List.length_map] at h5
      have : ¬ z.cps.toList.all digC = true := fun k => by
        have : z.cps.toList.filter (fun c => !digC c) = [] := by
          rw [List.filter_eq_nil_iff]
          intro a ha
          rw [List.all_eq_true.mp k a ha]; simp
        rw [this] at h5
        simp at h5
      rw [Bool.eq_false_iff.mpr this]; rfl
    have hd : z.cps.toList.all digC = true := by
      rw [List.length_map] at h5
      have : z.cps.toList.filter (fun c => !digC c) = [] := List.length_eq_zero_iff.mp (by omega)
      rw [List.all_eq_true]
      intro a ha
      have := List.filter_eq_nil_iff.mp this a ha
      simpa using this
    have hv : intText? z = some ((NumText.digitsVal z.cps.toList : Nat) : Int) := intText_digits (fun c hc => digC_range (List.all_eq_true.mp hd c hc)) (by rw [ec]; simp) (by omega)
    rw [hd, Bool.true_and] at eN
    refine ⟨_, hv, by omega, ite2 (fun h6 => q0 _ sD (by rw [eN]; exact decide_eq_false (by omega))) (fun h6 => ?_)⟩
    walk_at "rd"
    refine ⟨_, hv, by omega, ?_⟩
    have := q _ sD
    unfold numO at this
    rw [eN, if_pos (decide_eq_true (by omega))] at this
    exact this
def sp_law_text {K : PySem.W.Frag} {mg : Str → Option Value} (_ : Txt K mg) : Sp := fun vs H Q _ => ∃ (z : Str), vs = [.str z] ∧ z.length ≤ 100000 ∧ (∀ l, txtP z.cps.toList = some l → Q (.str ⟨l.toArray⟩) H) ∧ (txtP z.cps.toList = none → Q .non H)
theorem ok_law_text (T : Txt K mg) : FnOk P w K mg base CX0 1 T.f_law_text T.d_law_text ["_law_word"] (sp_law_text T) := by
  refine T.k_law_text.ok sc_law_text (fun vs H Q E h => ?_) (fun cdv A outer s H vs Q E hr h => ?_)
  · obtain ⟨z, rfl, _⟩ := h
    rfl
  · obtain ⟨z, rfl, hz, q1, q2⟩ := h
    refine ⟨_, (pss_cons (ps_if (PW.pt (pw_or (pt_cmpR op_lt (pe_callB call_lenS (by rfl) T.m_len (by decide +kernel) (pa_cons (pv 0) pa_nil)) pe_int (nomark _)) (pw_or (pt_cmpR op_gt (pe_callB call_lenS (by rfl) T.m_len (by decide +kernel) (pa_cons (pv 0) pa_nil)) pe_int (nomark _)) (pw_or (pt_cmpR op_ne (pe_ix ix_str (pv 0) pe_int (fun _ _ => rfl)) pe_str (nomark _)) (pw_or (pt_cmpR op_ne (pe_ix ix_str (pv 0) (pe_un un_neg pe_int) (fun _ _ => rfl)) pe_str (nomark _)) (pw_or1 (pt_cmpR op_inC pe_str (pe_slice sl_str (pv 0) (po_some pe_int) (po_some (pe_un un_neg pe_int))) rfl))))))) (pss_one (ps_ret pe_non)) pss_nil)
      (pss_one (ps_ret (pe_slice sl_str (pv 0) (po_some pe_int) (po_some (pe_un un_neg pe_int)))))), ?_⟩
    have ez : z.cps.toList.length = z.length := Array.length_toList
    walk_at "rd"
    refine rdSeq ?_
    walk_at "rd"
    refine i_lenS rfl (line5 hz) ?_
    walk_at "rd"
    have out : ¬ (3 ≤ z.cps.toList.length ∧ z.cps.toList.length ≤ 18) → txtP z.cps.toList = none := fun h => by unfold txtP; exact if_neg fun k => h k.1
    refine ite2 (fun h1 => q2 (out (by omega))) (fun h1 => i_lenS rfl (line5 hz) ⟨_, rfl, ite2 (fun h2 => q2 (out (by omega))) (fun h2 => ?_)⟩)
    obtain ⟨c, r, ec⟩ : ∃ c r, z.cps.toList = c :: r := by
      cases e : z.cps.toList with
      | nil => rw [e] at ez; simp at ez; omega
      | cons c r => exact ⟨c, r, rfl⟩
    have ezl : z = ⟨z.cps.toList.toArray⟩ := cl_ext rfl
    have e1 : ∀ c : Nat, (V.str ⟨#[c]⟩ = V.str (Str.ofString "\"")) ↔ c = 34 := fun c => ⟨fun e => by
      have e2 : ([c] : List Nat) = [34] := congrArg (fun z : Str => z.cps.toList) (V.str.inj e)
      injection e2, fun e => by subst e; rfl⟩
    refine i_ixS (c := c) (line5 hz) (by rw [ec]; exact atI_nat (j := 0) rfl) ⟨rfl, ite2 (fun h3 => q2 ?_) (fun h3 => ?_)⟩
    · unfold txtP
      refine if_neg fun k => ?_
      have k2 := k.2.1
      rw [ec] at k2
      have k2 : c = 34 := k2
      rw [decide_eq_true ((e1 c).mpr k2)] at h3
      cases h3
    have hne : z.cps.toList ≠ [] := by rw [ec]; simp
    have hl9 : atI z.cps.toList (-1) = some (z.cps.toList.getLastD 0) := by
      have h8 := atI_last z.cps.toList.dropLast (z.cps.toList.getLast hne)
      rw [List.dropLast_concat_getLast] at h8
      rw [h8, List.getLastD_eq_getLast?, List.getLast?_eq_some_getLast hne]; rfl
    refine i_ixS (line5 hz) hl9 ⟨rfl, ite2 (fun h4 => q2 ?_) (fun h4 => ?_)⟩
    · unfold txtP
      refine if_neg fun k => ?_
      rw [decide_eq_true ((e1 _).mpr k.2.2.1)] at h4
      cases h4
    have ecut : cutS z (some 1) (some (-1)) = ⟨(inner z.cps.toList).toArray⟩ := by
      unfold cutS inner
      have e2 : HT.sIx z.length 0 (some 1) = min 1 z.length := HT.sIx_nat z.length 0 1
      have e3 : HT.sIx z.length z.length (some (-1)) = z.length - 1 := by
        show (if (-1 : Int) < 0 then ((-1 : Int) + (z.length : Int)).toNat else min (-1 : Int).toNat z.length) = _
        rw [if_pos (by decide)]; omega
      rw [e2, e3, Nat.min_eq_left (by omega), List.dropLast_eq_take, List.length_tail, ez, List.drop_one]
    have h3 : c = 34 := by
      by_cases h : c = 34
      · exact h
      · rw [decide_eq_false (fun k => h ((e1 c).mp k))] at h3; exact absurd rfl h3
    have h4 : z.cps.toList.getLastD 0 = 34 := by
      by_cases h : z.cps.toList.getLastD 0 = 34
      · exact h
      · rw [decide_eq_false (fun k => h ((e1 _).mp k))] at h4; exact absurd rfl h4
    have e0 : z.cps.toList.headD 0 = 34 := by rw [ec]; exact h3
    refine i_slS (line5 hz) ?_
    rw [ecut]
    refine i_inC (c := 34) rfl rfl ⟨_, rfl, ite2 (fun h5 => q2 ?_) (fun h5 => i_slS (line5 hz) ?_)⟩
    · unfold txtP
      exact if_neg fun k => k.2.2.2 (of_decide_eq_true h5)
    rw [ecut]
    refine q1 _ ?_
    unfold txtP
    rw [if_pos ⟨by omega, e0, h4, fun k => h5 (decide_eq_true k)⟩]
def sp_law_is_name {K : PySem.W.Frag} {mg : Str → Option Value} (_ : Txt K mg) : Sp := fun vs H Q _ => ∃ (z : Str), vs = [.str z] ∧ z.length ≤ 100000 ∧ ∀ H', Same H H' → Q (.bl (nameC z.cps.toList)) H'
theorem ok_law_is_name (T : Txt K mg) : FnOk P w K mg base CX0 1 T.f_law_is_name T.d_law_is_name ["_law_word"] (sp_law_is_name T) := by
  refine T.k_law_is_name.ok sc_law_is_name (fun vs H Q E h => ?_) (fun cdv A outer s H vs Q E hr h => ?_)
  · obtain ⟨z, rfl, _⟩ := h
    rfl
  · obtain ⟨z, rfl, hz, q⟩ := h
    refine ⟨_, (pss_cons (ps_set (i := 1) sc_law_is_name.nd rfl (.inr rfl) pe_str)
      (pss_cons (ps_if (PW.pt (pw_or (pt_cmpR op_lt (pe_callB call_lenS (by rfl) T.m_len (by decide +kernel) (pa_cons (pv 0) pa_nil)) pe_int (nomark _)) (pw_or (pt_cmpR op_gt (pe_callB call_lenS (by rfl) T.m_len (by decide +kernel) (pa_cons (pv 0) pa_nil)) pe_int (nomark _)) (pw_or1 (pt_cmpR op_notInC (pe_ix ix_str (pv 0) pe_int (fun _ _ => rfl)) (pv 1) rfl))))) (pss_one (ps_ret pe_bl)) pss_nil)
      (pss_one (ps_ret (pe_cmpR op_eq (pe_callB (lenLK K) (by rfl) T.m_len (by decide +kernel) (pa_cons (pe_lc (own := [("_law_one", 2)]) (g := gName 2) rfl sc_law_is_name.nd (pi_str (pv 0)) (blkOk_by (own := [("_law_one", 2)]) (N := ["_law_word", "_law_letters", "_law_one"]) (sc := defScope s_law_is_name) (by decide +kernel)) (fun _ _ _ _ _ => pg_name (i := 2) sc_law_is_name.nd rfl (Or.inl rfl)) (fun _ _ _ _ _ => pts_one (pt_cmpR op_notInC (pv 2) (pe_op op_add_str (pv 1) pe_str) rfl)) (fun _ _ _ _ _ => (pv 2))) pa_nil)) pe_int (nomark _)))))), ?_⟩
    have ez : z.cps.toList.length = z.length := Array.length_toList
    walk_at "rd"
    refine rdSeq ?_
    walk_at "rd"
    refine rdSeq ?_
    walk_at "rd"
    refine i_lenS rfl (line5 hz) ?_
    walk_at "rd"
    have q : ∀ (H' : Hp) b, Same H H' → b = nameC z.cps.toList → Q (V.bl b) H' := fun H' b s e => by rw [e]; exact q H' s
    have out : ¬ (1 ≤ z.cps.toList.length ∧ z.cps.toList.length ≤ 20) → nameC z.cps.toList = false := fun h => by unfold nameC; rw [decide_eq_false h]; rfl
    refine ite2 (fun h1 => q _ _ (Same.refl H) (out (by omega)).symm) (fun h1 => i_lenS rfl (line5 hz) ⟨_, rfl, ite2 (fun h2 => q _ _ (Same.refl H) (out (by omega)).symm) (fun h2 => ?_)⟩)
    have hd : decide (1 ≤ z.cps.toList.length ∧ z.cps.toList.length ≤ 20) = true := decide_eq_true ⟨by omega, by omega⟩
    obtain ⟨c, r, ec⟩ : ∃ c r, z.cps.toList = c :: r := by
      cases e : z.cps.toList with
      | nil => rw [e] at ez; simp at ez; omega
      | cons c r => exact ⟨c, r, rfl⟩
    have eN : nameC z.cps.toList = (letC c && (z.cps.toList.all fun c => letC c || digC c)) := by
      unfold nameC; rw [hd, ec]; rfl
    refine i_ixS (c := c) (line5 hz) (by rw [ec]; exact atI_nat (j := 0) rfl) (i_inC rfl rfl ⟨_, rfl, ite2 (fun h3 => q _ _ (Same.refl H) ?_) (fun h3 => ?_)⟩)
    · rw [eN]
      have : letC c = false := by simpa [letC] using h3
      rw [this]; rfl
    have h3 : letC c = true := by simpa [letC] using h3
    rw [h3, Bool.true_and] at eN
    refine i_lcF (walk_chars (z := z)) (fun c => !(letC c || digC c)) (by rw [ez]; exact line5' hz) (fun _ _ _ => trivial) (fun c hc H1 Q' sm q' => ?_) (fun c hc H1 Q' sm q' => ?_) (fun D hD => ?_)
    · walk_at "rd"
      refine ⟨by decide +kernel, i_inC rfl rfl ⟨_, rfl, ?_⟩⟩
      have : (!decide (c ∈ (Str.ofString "ABCDEFGHIJKLMNOPQRSTUVWXYZabcdefghijklmnopqrstuvwxyz" ++ Str.ofString "0123456789").cps.toList)) = !(letC c || digC c) := by
        rw [cl_append]
        unfold letC digC
        simp only [List.mem_append]
        rw [Bool.decide_or]
      rw [this]
      exact q'
    · walk_at "rd"
      exact q'
    have sD := same_new (o := HO.lst ((z.cps.toList.filter fun c => !(letC c || digC c)).map fun c => V.str ⟨#[c]⟩)) hD
    refine i_lenL (sqL_of upd_same) ⟨rfl, q _ _ sD ?_⟩
    rw [eN, List.length_map]
    cases h5 : z.cps.toList.all fun c => letC c || digC c with
    | true =>
      have : z.cps.toList.filter (fun c => !(letC c || digC c)) = [] := by
        rw [List.filter_eq_nil_iff]
        intro a ha
        rw [List.all_eq_true.mp h5 a ha]; simp
      rw [this]; rfl
    | false =>
      obtain ⟨a, ha, hna⟩ := List.all_eq_false.mp h5
      have hm : a ∈ z.cps.toList.filter (fun c => !(letC c || digC c)) := by
        rw [List.mem_filter]
        exact ⟨ha, by rw [Bool.eq_false_iff.mpr hna]; rfl⟩
      have hp := List.length_pos_of_mem hm
      refine decide_eq_false fun k => ?_
      have := V.int.inj k
      omega
def sp_law_words {K : PySem.W.Frag} {mg : Str → Option Value} (_ : Txt K mg) : Sp := fun vs H Q _ => ∃ (z : Str), vs = [.str z] ∧ z.length ≤ 100000 ∧ ∀ p H', Same H H' → H' p = some (.lst (wordsV (lw false z.cps.toList))) → Q (.ref p) H'
theorem ok_law_words (T : Txt K mg) : FnOk P w K mg base CX0 1 T.f_law_words T.d_law_words ["_law_line_here"] (sp_law_words T) := by
  refine T.k_law_words.ok sc_law_words (fun vs H Q E h => ?_) (fun cdv A outer s H vs Q E hr h => ?_)
  · obtain ⟨z, rfl, _⟩ := h
    rfl
  · obtain ⟨z, rfl, hz, q⟩ := h
    refine ⟨_, (pss_cons (ps_set (i := 1) sc_law_words.nd rfl (.inl rfl) (pe_lst (pa_cons pe_str pa_nil)))
      (pss_cons (ps_set (i := 2) sc_law_words.nd rfl (.inl rfl) pe_bl)
      (pss_cons (ps_for PassesOwn.never rfl (pi_str (pv 0)) (pg_name (i := 3) sc_law_words.nd rfl (Or.inl rfl)) (C8.pss_cut (ps_if (pt_cmpR op_eq (pv 3) pe_str (nomark _)) (pss_one (ps_set (i := 2) sc_law_words.nd rfl (.inl rfl) (pe_not (pv 2)))) pss_nil)
      (pss_one (ps_if (PW.pt (pw_and (pt_cmpR op_eq (pv 3) pe_str (nomark _)) (pw_and1 (pt_not (pt_val (pv 2)))))) (pss_one (ps_expr (pe_bmK K PySem.F.plainAttrs_list PySem.F.slot_list_append PySem.F.type_list_append mt_append (pv 1) (pa_cons pe_str pa_nil)))) (pss_one (ps_asg (pe_op op_add_str (pe_ix (ix_listK K) (pv 1) (pe_un un_neg pe_int) (fun _ _ => rfl)) (pv 3)) (pg_sub (pv 1) (pe_un un_neg pe_int) set_list)))))))
      (pss_one (ps_ret (pv 1)))))), ?_⟩
    have ez : z.cps.toList.length = z.length := Array.length_toList
    walk_at "rd"
    refine rdSeq ?_
    walk_at "rd"
    intro p hp
    refine rdSeq ?_
    walk_at "rd"
    refine rdSeq ?_
    walk_at "rd"
    refine i_for (walk_chars (z := z)) (fun i σ H' => ∃ (ws : List (List Nat)) (w : List Nat) (qd : Bool) (u : Option V), H' p = some (.lst (wordsV (ws ++ [w]))) ∧ Kp [p] H H' ∧ ws.length ≤ i ∧ w.length ≤ i ∧
      lw false z.cps.toList = ws ++ (w ++ (lw qd (z.cps.toList.drop i)).headD []) :: (lw qd (z.cps.toList.drop i)).tail ∧ σ = [some (.str z), some (.ref p), some (.bl qd), u]) ⟨[], [], false, none, upd_same, Kp.new hp, by simp, by simp, ?_, rfl⟩ (fun _ _ _ _ _ => trivial) ?_ ?_
    · rw [List.drop_zero, List.nil_append, List.nil_append, ← lw_cons]
    · rintro i x σ H3 H4 hi ⟨ws, w, qd, u, h3, kp, l1, l2, elw, rfl⟩ ⟨rfl, c, hc, rfl⟩
      have hdr : z.cps.toList.drop i = c :: z.cps.toList.drop (i + 1) := by
        rw [List.drop_eq_getElem_cons hi, (List.getElem?_eq_some_iff.mp hc).2]
      rw [hdr, lw_step] at elw
      refine rdCut (fun σ H' => H' = H4 ∧ σ = [some (.str z), some (.ref p), some (.bl (if c = 34 then !qd else qd)), some (.str ⟨#[c]⟩)]) ?_ ?_
      · walk_at "rd"
        by_cases h34 : c = 34
        · refine i_then ((str_iff (l := [c]) (k := [34])).mpr (by rw [h34])) ?_
          rw [if_pos h34]
        · refine i_else (fun k => h34 (List.cons.inj ((str_iff (l := [c]) (k := [34])).mp k)).1) ?_
          rw [if_neg h34]
      rintro σ H5 ⟨rfl, rfl⟩
      generalize hq : (if c = 34 then !qd else qd) = qd' at *
      walk_at "rd"
      have ll : ∀ w : List Nat, wordsV (ws ++ [w]) = wordsV ws ++ [.str ⟨w.toArray⟩] := fun w => by simp [wordsV]
      have lws : (wordsV ws).length = ws.length := wordsV_len
      have hqc : c = 32 → qd' = qd := fun e => by rw [← hq, if_neg (by omega)]
      have c32 : (⟨#[c]⟩ : Str) = Str.ofString " " ↔ c = 32 := ⟨fun e => (List.cons.inj ((str_iff (l := [c]) (k := [32])).mp e)).1, fun e => (str_iff (l := [c]) (k := [32])).mpr (by rw [e])⟩
      have hi : i < 100000 := by omega
      rw [ll] at h3
      refine i_if2 (fun h5 h6 => ?_) (fun h56 => ?_)
      · have h5 := c32.mp h5
        have h6 : qd' = false := by simpa using h6
        rw [if_pos ⟨h5, by rw [← hqc h5]; exact h6⟩] at elw
        refine ⟨.inl ⟨rfl, _, sqL_of h3⟩, i_app h3 (line5' (by simp [lws]; omega)) ⟨ws ++ [w], [], ?_, kp.trans (Kp.set (by simp)), by simp; omega, by simp, _, ?_, rfl⟩⟩
        · rw [upd_same, ← ll w]
          have : wordsV (ws ++ [w]) ++ [V.str (Str.ofString "")] = wordsV (ws ++ [w] ++ [[]]) := by simp [wordsV]; rfl
          rw [this]
        · rw [elw, List.nil_append, ← lw_cons, hqc h5]
          simp
      · rw [if_neg (fun k => h56 ⟨c32.mpr k.1, by rw [hqc k.1, k.2]; rfl⟩)] at elw
        refine i_ixL (sqL_of h3) (atI_last _ _) ⟨_, rfl, by show w.toArray.size + 1 ≤ _; rw [List.size_toArray]; omega, ?_⟩
        refine i_setL (j := ws.length) h3 ?_ ⟨ws, w ++ [c], ?_, kp.trans (Kp.set (by simp)), by omega, by simp; omega, _, ?_, rfl⟩
        · rw [List.length_append, lws]
          unfold ixN
          rw [if_neg (by omega)]
          simp
          exact ⟨by omega, by omega⟩
        · rw [upd_same, ll, List.set_append_right _ _ (by rw [lws]; exact Nat.le_refl _), lws, Nat.sub_self]
          have : ((⟨w.toArray⟩ : Str) ++ ⟨#[c]⟩) = ⟨(w ++ [c]).toArray⟩ := cl_ext (cl_append _ _)
          rw [this]
          simp
        · rw [elw]
          simp
    · rintro σ H3 ⟨ws, w, qd, u, h3, kp, l1, l2, elw, rfl⟩
      walk_at "rd"
      rw [List.drop_length] at elw
      have e0 : lw qd [] = [[]] := rfl
      rw [e0] at elw
      have elw : lw false z.cps.toList = ws ++ [w] := by rw [elw]; simp
      exact q p H3 (Kp.same kp (Same.refl H) (by simpa using hp)) (by rw [elw]; exact h3)
theorem inV_nums : ∀ L : List (List Nat), inV V.non (L.map fun l => onumV (numO l 255)) = !(L.all fun w => numP w 255)
  | [] => rfl
  | x :: L => by
    have ih := inV_nums L
    show (eqV (onumV (numO x 255)) V.non || inV V.non (L.map fun l => onumV (numO l 255))) = _
    rw [ih, List.all_cons, Bool.not_and]
    congr 1
    unfold numO
    cases h : numP x 255 <;> rfl
def sp_law_bytes {K : PySem.W.Frag} {mg : Str → Option Value} (_ : Txt K mg) : Sp := fun vs H Q _ => ∃ (z : Str), vs = [.str z] ∧ z.length ≤ 100000 ∧
  (∀ ns, dataP z.cps.toList = some ns → ∀ p H', Same H H' → H' p = some (.tup (ns.map fun n : Nat => .int n)) → Q (.ref p) H') ∧ (dataP z.cps.toList = none → ∀ H', Same H H' → Q .non H')
theorem ok_law_bytes (T : Txt K mg) : FnOk P w K mg base CX0 2 T.f_law_bytes T.d_law_bytes ["_law_word"] (sp_law_bytes T) := by
  refine T.k_law_bytes.ok sc_law_bytes (fun vs H Q E h => ?_) (fun cdv A outer s H vs Q E hr h => ?_)
  · obtain ⟨z, rfl, _⟩ := h
    rfl
  · obtain ⟨z, rfl, hz, q1, q2⟩ := h
    refine ⟨_, (pss_cons (ps_if (pt_cmpR op_eq (pv 0) pe_str (nomark _)) (pss_one (ps_ret (pe_tup pa_nil))) pss_nil)
      (pss_cons (ps_setLc (i := 1) (own := [("_law_one", 2)]) (g := gName 2) (tt := tYes) rfl sc_law_bytes.nd rfl rfl (sw_true rfl rfl rfl (by decide +kernel)) (pi_list (pe_split (pv 0) pe_str)) (blkOk_by (own := [("_law_one", 2)]) (N := ["_law_word", "_law_numbers", "_law_one"]) (sc := defScope s_law_bytes) (by decide +kernel)) (fun _ _ _ _ _ => pg_name (i := 2) sc_law_bytes.nd rfl (Or.inl rfl)) (fun _ _ _ _ _ => pts_nil) (fun _ _ _ _ _ => (pe_call (ok_law_number T) (hr.mono (by decide)) (by rfl) T.g_law_number T.k_law_number.kp T.b_law_number .nil pass0 (pa_cons (pv 2) (pa_cons pe_int pa_nil)))))
      (pss_one (ps_ret (pe_ifExp (PW.pt (pw_or (pt_cmpR (in_seqK K) pe_non (pv 1) rfl) (pw_or1 (pt_cmpR op_gt (pe_callB (lenLK K) (by rfl) T.m_len (by decide +kernel) (pa_cons (pv 1) pa_nil)) pe_int (nomark _))))) pe_non (pe_callTy call_tuple_of (by rfl) T.m_tuple (by decide +kernel) (pa_cons (pv 1) pa_nil))))))), ?_⟩
    have ez : z.cps.toList.length = z.length := Array.length_toList
    walk_at "rd"
    refine rdSeq ?_
    walk_at "rd"
    refine ite2 (fun h => fun p hp => q1 [] (by unfold dataP; rw [if_pos (by rw [h]; rfl)]) p _ (same_new hp) upd_same) (fun h => ?_)
    have hn : ¬ z.cps.toList = [45] := fun k => h (cl_ext k)
    refine rdSeq ?_
    walk_at "rd"
    refine ⟨rfl, by omega, fun p hp => ?_⟩
    rw [show Txt.split z (Str.ofString ",") = (spc 44 z.cps.toList).map fun l => (⟨l.toArray⟩ : Str) from split_c (by decide)]
    refine ⟨p, rfl, ⟨_, sqL_of upd_same⟩, ?_⟩
    have hu : ∀ w ∈ spc 44 z.cps.toList, w.length ≤ 100000 := fun w hw => by
      have := spc_le hw
      omega
    have hsz := spc_len 44 z.cps.toList
    have hcl : z.cps.toList.count 44 ≤ z.cps.toList.length := List.count_le_length
    have hp2 : upd H p (HO.lst (wordsV (spc 44 z.cps.toList))) p = some (.lst (wordsV (spc 44 z.cps.toList))) := upd_same
    have s2 : Same H (upd H p (HO.lst (wordsV (spc 44 z.cps.toList)))) := same_new hp
    show rLcJ _ _ _ _ _ _ (upd H p (HO.lst (wordsV (spc 44 z.cps.toList)))) _
    have eD : dataP z.cps.toList = if decide ((spc 44 z.cps.toList).length ≤ 64) && (spc 44 z.cps.toList).all (fun w => numP w 255) then some ((spc 44 z.cps.toList).map fun w => NumText.digitsVal w) else none := by unfold dataP; rw [if_neg hn]
    generalize spc 44 z.cps.toList = L at *
    have ew : wordsV L = L.map fun l => V.str ⟨l.toArray⟩ := by simp [wordsV]
    rw [ew] at hp2 s2 ⊢
    generalize upd H p (HO.lst (L.map fun l => V.str ⟨l.toArray⟩)) = H2 at *
    refine i_lcS (walk_listL (K := K) (a := p) (l := L) (r := fun l => V.str ⟨l.toArray⟩)) (fun l => onumV (numO l 255)) (Nat.lt_of_le_of_lt (show L.length ≤ 100001 by omega) (by decide)) (fun H' s' => sqL_of (s' p _ hp2)) (fun l hl H5 Q' s5 qq => ?_) (fun D H3 hD s3 hD3 => ?_)
    · walk_at "rd"
      exact ⟨_, _, rfl, by show l.toArray.size ≤ _; rw [List.size_toArray]; exact hu l hl, fun H6 s6 => qq H6 s6⟩
    · walk_at "rd"
      simp only [tIf]
      walk_at "rd"
      have s23 := s2.trans s3
      have flat : (L.map fun l => onumV (numO l 255)).all flatV = true := by
        rw [List.all_map, List.all_eq_true]
        intro l _
        show flatV (onumV (numO l 255)) = true
        cases numO l 255 <;> rfl
      refine ⟨D, _, rfl, .inl (sqL_of hD3), rfl, flat, _, rfl, ?_⟩
      rw [inV_nums]
      refine ite2 (fun h5 => q2 ?_ _ s23) (fun h5 => i_lenL (sqL_of hD3) ⟨_, rfl, ite2 (fun h6 => q2 ?_ _ s23) (fun h6 => ⟨_, .inl ⟨sqL_of hD3, fun l hl => ?_⟩⟩)⟩)
      · rw [eD]
        have : (L.all fun w => numP w 255) = false := by simpa using h5
        rw [this, Bool.and_false]; rfl
      · rw [eD, List.length_map] at *
        rw [decide_eq_false (by omega)]; rfl
      · have h5 : (L.all fun w => numP w 255) = true := by simpa using h5
        rw [List.length_map] at h6
        refine q1 (L.map fun w => NumText.digitsVal w) (by rw [eD, h5, decide_eq_true (by omega)]; rfl) l _ (s23.trans (same_new hl)) ?_
        rw [upd_same, List.map_map]
        refine congrArg (fun l => some (HO.tup l)) (List.map_congr_left fun w hw => ?_)
        show onumV (numO w 255) = V.int (NumText.digitsVal w : Nat)
        unfold numO
        rw [if_pos (List.all_eq_true.mp h5 w hw)]; rfl
theorem lw_mem : ∀ {l : List Nat} {q : Bool} {w : List Nat}, w ∈ lw q l → w.length ≤ l.length ∧ ∀ d ∈ w, d ∈ l
  | [], q, w, h => by
    have h : w ∈ [[]] := h
    rw [List.mem_singleton.mp h]; simp
  | c :: r, q, w, h => by
    rw [lw_step] at h
    split at h
    · rcases List.mem_cons.mp h with rfl | h
      · simp
      · obtain ⟨h1, h2⟩ := lw_mem h
        exact ⟨by simp; omega, fun x hx => List.mem_cons_of_mem _ (h2 x hx)⟩
    · generalize (if c = 34 then !q else q) = q' at h
      rcases List.mem_cons.mp h with rfl | h
      · obtain ⟨h1, h2⟩ := lw_mem (show (lw q' r).headD [] ∈ lw q' r by rw [lw_cons q' r]; simp)
        refine ⟨by simp only [List.length_cons]; omega, fun x hx => ?_⟩
        rcases List.mem_cons.mp hx with rfl | hx
        · exact List.mem_cons_self
        · exact List.mem_cons_of_mem _ (h2 x hx)
      · obtain ⟨h1, h2⟩ := lw_mem (List.mem_of_mem_tail h)
        exact ⟨by simp; omega, fun x hx => List.mem_cons_of_mem _ (h2 x hx)⟩
def shV (l : List Nat) : V := .str ⟨l.toArray⟩
def shapes0 : List (Key × V) := [(.inr "make", .str "nntb"), (.inr "choose", .str "it"), (.inr "send", .str "ib"), (.inr "drop", .str "t"), (.inr "collect", .str ""), (.inr "cut", .str "i")]
theorem shV_lit {s : String} {k : List Nat} (h : (Str.ofString s).cps.toList = k := by decide +kernel) : V.str (Str.ofString s) = shV k := congrArg V.str ((str_iff h).mpr rfl).symm
theorem shapes_val {w0 : List Nat} {r : List (List Nat)} (h : ¬ w0 = kReset) : valV shapes0 (.inr (⟨w0.toArray⟩ : Str)) = (shapeP (w0 :: r)).map shV := by
  have eq : ∀ {s : String} {k : List Nat}, (Str.ofString s).cps.toList = k → w0 = k → (Sum.inr (Str.ofString s) : Key) = .inr (⟨w0.toArray⟩ : Str) := fun h e => congrArg Sum.inr ((str_iff h).mpr e).symm
  have ne : ∀ {s : String} {k : List Nat}, (Str.ofString s).cps.toList = k → ¬ w0 = k → ¬ (Sum.inr (Str.ofString s) : Key) = .inr (⟨w0.toArray⟩ : Str) := fun h e q => e ((str_iff h).mp (Sum.inr.inj q).symm)
  unfold shapeP shapes0
  rw [List.headD_cons]
  by_cases e1 : w0 = kMake
  · rw [if_pos e1, valV_pos (eq (by decide +kernel) e1)]; exact congrArg some shV_lit
  rw [if_neg e1, valV_neg (ne (k := kMake) (by decide +kernel) e1)]
  by_cases e2 : w0 = kChoose
  · rw [if_pos e2, valV_pos (eq (by decide +kernel) e2)]; exact congrArg some shV_lit
  rw [if_neg e2, valV_neg (ne (k := kChoose) (by decide +kernel) e2)]
  by_cases e3 : w0 = kSend
  · rw [if_pos e3, valV_pos (eq (by decide +kernel) e3)]; exact congrArg some shV_lit
  rw [if_neg e3, valV_neg (ne (k := kSend) (by decide +kernel) e3)]
  by_cases e4 : w0 = kDrop
  · rw [if_pos e4, valV_pos (eq (by decide +kernel) e4)]; exact congrArg some shV_lit
  rw [if_neg e4, valV_neg (ne (k := kDrop) (by decide +kernel) e4)]
  by_cases e5 : w0 = kCollect
  · rw [if_pos e5, valV_pos (eq (by decide +kernel) e5)]; exact congrArg some shV_lit
  rw [if_neg e5, valV_neg (ne (k := kCollect) (by decide +kernel) e5)]
  by_cases e6 : w0 = kCut
  · rw [if_pos e6, valV_pos (eq (by decide +kernel) e6)]; exact congrArg some shV_lit
  rw [if_neg e6, valV_neg (ne (k := kCut) (by decide +kernel) e6), if_neg h]
  rfl
/-! items that may be missing -/
def Ro (H : Hp) (v : V) : Option It → Prop
  | none => v = .non
  | some x => Ri H v x
def Ros (H : Hp) : List V → List (Option It) → Prop
  | [], [] => True
  | v :: vs, x :: xs => Ro H v x ∧ Ros H vs xs
  | _, _ => False
def Od : Option It → PyData
  | none => .none
  | some x => x.d
theorem Ro.up {H H' : Hp} {v : V} {x : Option It} (s : TupK H H') (h : Ro H v x) : Ro H' v x := by
  cases x with
  | none => exact h
  | some x => exact Ri.up s h
theorem Ros.up {H H' : Hp} (s : TupK H H') : ∀ {vs : List V} {xs : List (Option It)}, Ros H vs xs → Ros H' vs xs
  | [], [], _ => trivial
  | v :: vs, x :: xs, h => ⟨Ro.up s h.1, Ros.up s h.2⟩
theorem Ros.len {H : Hp} : ∀ {vs : List V} {xs : List (Option It)}, Ros H vs xs → vs.length = xs.length
  | [], [], _ => rfl
  | v :: vs, x :: xs, h => congrArg (· + 1) (Ros.len h.2)
theorem Ros.app {H : Hp} {v : V} {x : Option It} (h : Ro H v x) : ∀ {vs : List V} {xs : List (Option It)}, Ros H vs xs → Ros H (vs ++ [v]) (xs ++ [x])
  | [], [], _ => ⟨h, trivial⟩
  | w :: vs, y :: xs, k => ⟨k.1, Ros.app h k.2⟩
theorem Ro.dp {K : PySem.W.Frag} {H : Hp} {v : V} {x : Option It} (h : Ro H v x) : Dp K H v (Od x) := by
  cases x with
  | none => rw [show v = _ from h]; exact .non
  | some x => exact Ri.dp h
theorem Ros.dp {K : PySem.W.Frag} {H : Hp} : ∀ {vs : List V} {xs : List (Option It)}, Ros H vs xs → DpAll K H vs (xs.map Od)
  | [], [], _ => .nil
  | v :: vs, x :: xs, h => .cons (Ro.dp h.1) (Ros.dp h.2)
def ItOk : It → Prop
  | .s l => chOk l
  | .no => False
  | _ => True
def OOk : Option It → Prop
  | none => True
  | some x => ItOk x
theorem inner_sub {w : List Nat} : ∀ d ∈ inner w, d ∈ w := fun d hd => List.mem_of_mem_tail (List.dropLast_subset _ hd)
theorem itemP_ok {w : List Nat} {c : Nat} (h : chOk w) : OOk (itemP c w) := by
  unfold itemP
  split
  · split
    · exact h
    · trivial
  split
  · unfold txtP
    split
    · exact fun d hd => h d (inner_sub d hd)
    · trivial
  split
  · cases dataP w <;> trivial
  · cases numO w 9999 <;> trivial
theorem nats_lay : ∀ l : List Nat, PyData.canLayAll0 (l.map fun n : Nat => .int n) = true ∧ PyData.depthAll (l.map fun n : Nat => .int n) ≤ 1
  | [] => by simp [PyData.canLayAll0, PyData.depthAll]
  | e :: es => by
    have ih := nats_lay es
    simp [PyData.canLayAll0, PyData.depthAll, PyData.canLay0, PyData.depth, ih.1]
    omega
theorem it_lay {x : It} (h : ItOk x) : PyData.canLay0 x.d = true ∧ PyData.depth x.d ≤ 2 := by
  cases x with
  | s l => exact ⟨chOk_str h, by simp [It.d, PyData.depth]⟩
  | n k => exact ⟨rfl, by simp [It.d, PyData.depth]⟩
  | no => exact h.elim
  | b l =>
    have := nats_lay l
    refine ⟨this.1, ?_⟩
    show PyData.depthAll _ + 1 ≤ 2
    omega
theorem od_lay {x : Option It} (h : OOk x) : PyData.canLay0 (Od x) = true ∧ PyData.depth (Od x) ≤ 2 := by
  cases x with
  | none => exact ⟨rfl, by simp [Od, PyData.depth]⟩
  | some x => exact it_lay h
theorem ods_lay : ∀ {xs : List (Option It)}, (∀ x ∈ xs, OOk x) → PyData.canLayAll0 (xs.map Od) = true ∧ PyData.depthAll (xs.map Od) ≤ 2
  | [], _ => by simp [PyData.canLayAll0, PyData.depthAll]
  | x :: xs, h => by
    have ih := ods_lay (xs := xs) fun y hy => h y (List.mem_cons_of_mem _ hy)
    have h0 := od_lay (h x List.mem_cons_self)
    simp [PyData.canLayAll0, PyData.depthAll, ih.1, h0.1]
    omega
theorem ods_shaped {w : List Nat} {xs : List (Option It)} (hw : chOk w) (h : ∀ x ∈ xs, OOk x) : SeqAt.shaped (.list (PyData.str ⟨w.toArray⟩ :: xs.map Od)) = true := by
  have h := ods_lay h
  have h2 := h.2
  have h0 := chOk_str hw
  unfold SeqAt.shaped
  rw [Bool.and_eq_true]
  refine ⟨?_, ?_⟩
  · show (PyData.canLay0 (.str ⟨w.toArray⟩) && PyData.canLayAll0 (xs.map Od)) = true
    rw [show PyData.canLay0 (.str ⟨w.toArray⟩) = true from h0, h.1]; rfl
  · refine decide_eq_true ?_
    show max (PyData.depth (.str ⟨w.toArray⟩)) (PyData.depthAll (xs.map Od)) + 1 ≤ 64
    have : PyData.depth (.str (⟨w.toArray⟩ : Str)) ≤ 1 := by simp [PyData.depth]
    omega
theorem any_none : ∀ {xs : List (Option It)}, (∀ x ∈ xs, OOk x) → ((xs.map Od).any fun z => PyData.eqv z .none) = xs.any Option.isNone
  | [], _ => rfl
  | none :: xs, _ => by rfl
  | some x :: xs, h => by
    have ih := any_none (xs := xs) fun y hy => h y (List.mem_cons_of_mem _ hy)
    have h0 : ItOk x := h (some x) List.mem_cons_self
    show (PyData.eqv x.d .none || (xs.map Od).any fun z => PyData.eqv z .none) = _
    rw [ih]
    have : PyData.eqv x.d .none = false := by
      cases x with
      | no => exact h0.elim
      | s l => rfl
      | n k => rfl
      | b l => rfl
    rw [this]; rfl
theorem all_some : ∀ {xs : List (Option It)}, xs.any Option.isNone = false → ∃ ys, xs = ys.map some ∧ seqO xs = some ys
  | [], _ => ⟨[], rfl, rfl⟩
  | none :: xs, h => by cases h
  | some x :: xs, h => by
    obtain ⟨ys, e, e2⟩ := all_some (xs := xs) h
    exact ⟨x :: ys, by rw [e]; rfl, by show (seqO xs).map (x :: ·) = _; rw [e2]; rfl⟩
theorem Ros.some {H : Hp} : ∀ {vs : List V} {xs : List It}, Ros H vs (xs.map some) → Ris H vs xs
  | [], [], _ => trivial
  | v :: vs, x :: xs, h => ⟨h.1, Ros.some h.2⟩
theorem shapeP_len {ws : List (List Nat)} {sh : List Nat} (h : shapeP ws = some sh) : sh.length ≤ 4 := by
  unfold shapeP at h
  split at h
  · cases h; decide
  split at h
  · cases h; decide
  split at h
  · cases h; decide
  split at h
  · cases h; decide
  split at h
  · cases h; decide
  split at h
  · cases h; decide
  split at h
  · cases h
    rw [List.length_replicate]; omega
  · cases h
theorem tDNotIn_eq {td ty : TE} {σ : L2.St} {H : Hp} {Q : VK} : tDNotIn ty td σ H Q = ty σ H fun y H1 => td σ H1 fun x H2 => ∃ a o, x = .ref a ∧ DGet H2 a y o ∧ Q (.bl (!o.isSome)) H2 := rfl
def sp_law_read {K : PySem.W.Frag} {mg : Str → Option Value} (_ : Txt K mg) : Sp := fun vs H Q _ => ∃ (z : Str), vs = [.str z] ∧ z.length ≤ 100000 ∧ (∀ c ∈ z.cps.toList, c < 0x110000) ∧
  (∀ xs, readP z.cps.toList = some xs → ∀ p H', Same H H' → Rc H' p xs → Q (.ref p) H') ∧ (readP z.cps.toList = none → ∀ H', Same H H' → Q .non H')
theorem ok_law_read (T : Txt K mg) : FnOk P w K mg base CX0 3 T.f_law_read T.d_law_read ["_law_line_here"] (sp_law_read T) := by
  refine T.k_law_read.ok sc_law_read (fun vs H Q E h => ?_) (fun cdv A outer s H vs Q E hr h => ?_)
  · obtain ⟨z, rfl, _⟩ := h
    rfl
  · obtain ⟨z, rfl, hz, hch, q1, q2⟩ := h
    refine ⟨_, (pss_cons (ps_set (i := 1) sc_law_read.nd rfl (.inl rfl) (pe_call (ok_law_words T) (hr.mono (by decide)) (by rfl) T.g_law_words T.k_law_words.kp T.b_law_words .nil pass0 (pa_cons (pv 0) pa_nil)))
      (pss_cons (ps_set (i := 2) sc_law_read.nd rfl (.inl rfl) (pe_disp (pps_cons pe_str pe_str (pps_cons pe_str pe_str (pps_cons pe_str pe_str (pps_cons pe_str pe_str (pps_cons pe_str pe_str (pps_cons pe_str pe_str pps_nil)))))) (by rfl) (by rfl) (fun z => by cases z) (by decide)))
      (C8.pss_cut (ps_if (pt_cmpR op_eq (pe_ix (ix_listK K) (pv 1) pe_int (fun _ _ => rfl)) pe_str (nomark _)) (pss_one (ps_dput (hu_of hr) (pv 2) pe_str (pe_op op_mul_str pe_str (pe_callB (call_min2 rfl) (by rfl) T.m_min (by decide +kernel) (pa_cons pe_int (pa_cons (pe_op op_sub (pe_callB (lenLK K) (by rfl) T.m_len (by decide +kernel) (pa_cons (pv 1) pa_nil)) pe_int) pa_nil)))) rfl)) pss_nil)
      (pss_cons (ps_if (PW.pt (pw_or (pt_cmp (pc_dnotin (hu_of hr) (pe_ix (ix_listK K) (pv 1) pe_int (fun _ _ => rfl)) (pv 2)) rfl) (pw_or1 (pt_cmpR op_ne (pe_callB (lenLK K) (by rfl) T.m_len (by decide +kernel) (pa_cons (pv 1) pa_nil)) (pe_op op_add pe_int (pe_callB call_lenS (by rfl) T.m_len (by decide +kernel) (pa_cons (pe_dget (hu_of hr) (pv 2) (pe_ix (ix_listK K) (pv 1) pe_int (fun _ _ => rfl)) (fun _ _ => rfl)) pa_nil))) (nomark _))))) (pss_one (ps_ret pe_non)) pss_nil)
      (pss_cons (ps_set (i := 3) sc_law_read.nd rfl (.inl rfl) (pe_lst (pa_cons (pe_ix (ix_listK K) (pv 1) pe_int (fun _ _ => rfl)) pa_nil)))
      (pss_cons (ps_for PassesOwn.never rfl (pi_range2 (by rfl) T.m_range (pa_cons pe_int (pa_cons (pe_callB (lenLK K) (by rfl) T.m_len (by decide +kernel) (pa_cons (pv 1) pa_nil)) pa_nil))) (pg_name (i := 4) sc_law_read.nd rfl (Or.inl rfl)) (pss_cons (ps_set (i := 5) sc_law_read.nd rfl (.inl rfl) (pe_ix ix_str (pe_dget (hu_of hr) (pv 2) (pe_ix (ix_listK K) (pv 1) pe_int (fun _ _ => rfl)) (fun _ _ => rfl)) (pe_op op_sub (pv 4) pe_int) (fun _ _ => rfl)))
      (pss_one (ps_if (pt_cmpR op_eq (pv 5) pe_str (nomark _)) (pss_one (ps_expr (pe_bmK K PySem.F.plainAttrs_list PySem.F.slot_list_append PySem.F.type_list_append mt_append (pv 3) (pa_cons (pe_ifExp (pt_val (pe_call (ok_law_is_name T) (hr.mono (by decide)) (by rfl) T.g_law_is_name T.k_law_is_name.kp T.b_law_is_name .nil pass0 (pa_cons (pe_ix (ix_listK K) (pv 1) (pv 4) (fun _ _ => rfl)) pa_nil))) (pe_ix (ix_listK K) (pv 1) (pv 4) (fun _ _ => rfl)) pe_non) pa_nil)))) (pss_one (ps_if (pt_cmpR op_eq (pv 5) pe_str (nomark _)) (pss_one (ps_expr (pe_bmK K PySem.F.plainAttrs_list PySem.F.slot_list_append PySem.F.type_list_append mt_append (pv 3) (pa_cons (pe_call (ok_law_text T) (hr.mono (by decide)) (by rfl) T.g_law_text T.k_law_text.kp T.b_law_text .nil pass0 (pa_cons (pe_ix (ix_listK K) (pv 1) (pv 4) (fun _ _ => rfl)) pa_nil)) pa_nil)))) (pss_one (ps_if (pt_cmpR op_eq (pv 5) pe_str (nomark _)) (pss_one (ps_expr (pe_bmK K PySem.F.plainAttrs_list PySem.F.slot_list_append PySem.F.type_list_append mt_append (pv 3) (pa_cons (pe_call (ok_law_bytes T) (hr.mono (by decide)) (by rfl) T.g_law_bytes T.k_law_bytes.kp T.b_law_bytes .nil pass0 (pa_cons (pe_ix (ix_listK K) (pv 1) (pv 4) (fun _ _ => rfl)) pa_nil)) pa_nil)))) (pss_one (ps_expr (pe_bmK K PySem.F.plainAttrs_list PySem.F.slot_list_append PySem.F.type_list_append mt_append (pv 3) (pa_cons (pe_call (ok_law_number T) (hr.mono (by decide)) (by rfl) T.g_law_number T.k_law_number.kp T.b_law_number .nil pass0 (pa_cons (pe_ix (ix_listK K) (pv 1) (pv 4) (fun _ _ => rfl)) (pa_cons pe_int pa_nil))) pa_nil))))))))))))
      (pss_cons (ps_if (pt_cmpR (op_inD (room65 hr)) pe_non (pv 3) rfl) (pss_one (ps_ret pe_non)) pss_nil)
      (pss_one (ps_ret (pe_ifExp (pt_cmpR (op_neD hr.units) (pv 3) (pe_lst (pa_cons pe_str pa_nil)) (nomark _)) (pe_callTy call_tuple_of (by rfl) T.m_tuple (by decide +kernel) (pa_cons (pv 3) pa_nil)) (pe_tup (pa_cons pe_str (pa_cons pe_non pa_nil))))))))))))), ?_⟩
    have ez : z.cps.toList.length = z.length := Array.length_toList
    walk_at "rd"
    refine rdSeq ?_
    walk_at "rd"
    refine ⟨_, rfl, hz, fun p H1 s1 hp => ?_⟩
    unfold readP at q1 q2
    have en := lw_ne false z.cps.toList
    generalize hL : lw false z.cps.toList = L at *
    cases L with
    | nil => exact absurd rfl en
    | cons w0 r =>
    refine rdSeq ?_
    walk_at "rd"
    intro d hd
    refine ⟨upd_same, shapes0, rfl, by decide, ?_⟩
    have hpd : p ≠ d := fun e => by subst e; rw [hp] at hd; cases hd
    rw [upd_upd, show mergeK [] shapes0 = shapes0 from rfl]
    have s2 := s1.trans (same_new (o := .dK shapes0) hd)
    refine rdCut (fun σ H' => ∃ kvs, H' d = some (.dK kvs) ∧ valV kvs (.inr (⟨w0.toArray⟩ : Str)) = (shapeP (w0 :: r)).map shV ∧ Same H1 H' ∧ σ = [some (.str z), some (.ref p), some (.ref d), none, none, none]) ?_ ?_
    · walk_at "rd"
      refine i_ixL (sqL_of (same_new hd p _ hp)) (atI_nat (j := 0) rfl) ⟨rfl, ite2 (fun h1 => ?_) (fun h1 => ?_)⟩
      · have h1 : w0 = kReset := (str_iff (k := kReset)).mp (V.str.inj h1)
        refine i_lenL (sqL_of (same_new hd p _ hp)) ⟨_, rfl, _, _, rfl, rfl, mul_ok (by decide +kernel) ?_ ?_, i_dput upd_same (by decide) ?_⟩
        · rw [wordsV_len]; simp only [List.length_cons]; split <;> omega
        · split <;> omega
        rw [upd_upd]
        refine ⟨_, upd_same, ?_, same_new hd⟩
        have ek : (Sum.inr (Str.ofString "reset") : Key) = .inr (⟨w0.toArray⟩ : Str) := congrArg Sum.inr ((str_iff (k := kReset)).mpr h1).symm
        rw [ek, valV_put, if_pos rfl]
        have hs : shapeP (w0 :: r) = some (List.replicate (min 1 ((w0 :: r).length - 1)) 105) := by rw [h1]; rfl
        rw [hs, wordsV_len]
        refine congrArg some (congrArg V.str (cl_ext ?_))
        rw [show (Str.ofString "i") = (⟨#[105]⟩ : Str) from rfl, mul_one (by simp only [List.length_cons]; split <;> omega)]
        show _ = List.replicate _ 105
        congr 1
        simp only [List.length_cons]
        split <;> omega
      · have h1 : ¬ w0 = kReset := fun e => h1 (congrArg V.str ((str_iff (k := kReset)).mpr e))
        exact ⟨shapes0, upd_same, shapes_val h1, same_new hd⟩
    · rintro σ H3 ⟨kvs, hk, hv, s3, rfl⟩
      refine rdSeq ?_
      walk_at "rd"
      rw [tDNotIn_eq]
      walk_at "rd"
      have hp3 := s3 p _ hp
      have dg : DGet H3 d (V.str (⟨w0.toArray⟩ : Str)) ((shapeP (w0 :: r)).map shV) := by rw [← hv]; exact DGet.k (k := .inr (⟨w0.toArray⟩ : Str)) hk
      refine i_ixL (sqL_of hp3) (atI_nat (j := 0) rfl) ⟨_, dg, ?_⟩
      cases hs : shapeP (w0 :: r) with
      | none => exact i_then rfl (q2 (by unfold readW; rw [hs]) _ (s1.trans s3))
      | some sh =>
      rw [hs] at dg
      refine i_else (by simp) (i_lenL (sqL_of hp3) (i_ixL (sqL_of hp3) (atI_nat (j := 0) rfl) ⟨d, _, rfl, dg, i_lenS rfl ?_ ⟨_, rfl, rfl, ite2 (fun h2 => ?_) (fun h2 => ?_)⟩⟩))
      · show sh.toArray.size ≤ _
        rw [List.size_toArray]
        exact line5 (by have := shapeP_len hs; omega)
      · refine q2 ?_ _ (s1.trans s3)
        unfold readW
        rw [hs]
        refine if_neg fun k => ?_
        rw [wordsV_len, show (⟨sh.toArray⟩ : Str).length = sh.length from List.size_toArray, decide_eq_true (by rw [k]; rfl)] at h2
        cases h2
      have hne : (w0 :: r).length = 1 + sh.length := by
        rw [wordsV_len, show (⟨sh.toArray⟩ : Str).length = sh.length from List.size_toArray] at h2
        by_cases k : ((((w0 :: r).length : Nat) : Int)) = 1 + ((sh.length : Nat) : Int)
        · omega
        · exact absurd (by rw [decide_eq_false (fun e => k (V.int.inj e))]; rfl) h2
      have hrl : r.length = sh.length := by rw [List.length_cons] at hne; omega
      have hsl := shapeP_len hs
      have eR : readW (w0 :: r) = (seqO (List.zipWith itemP sh r)).map (finP w0) := by
        unfold readW
        rw [hs]
        exact if_pos hne
      rw [eR] at q1 q2
      have hlm : ∀ w ∈ w0 :: r, w.length ≤ 100000 ∧ chOk w := fun w hw => by
        rw [← hL] at hw
        obtain ⟨k1, k2⟩ := lw_mem hw
        exact ⟨by omega, fun c hc => hch c (k2 c hc)⟩
      refine rdSeq ?_
      walk_at "rd"
      refine i_ixL (sqL_of hp3) (atI_nat (j := 0) rfl) fun it hit => ?_
      have hpi : ∀ {o : HO}, upd H3 it o p = some (.lst (wordsV (w0 :: r))) := fun {o} => same_new hit p _ hp3
      refine rdSeq ?_
      walk_at "rd"
      refine i_lenL (sqL_of hpi) ?_
      walk_at "rd"
      rw [wordsV_len]
      refine ⟨by decide, by decide, by omega, by omega, ?_⟩
      rw [show ((((w0 :: r).length : Nat) : Int) - 1).toNat = r.length by simp only [List.length_cons]; omega]
      refine i_for (walk_range (lo := 1) (n := r.length)) (fun i σ H' => ∃ ws u v, Same H3 H' ∧ H' it = some (.lst (shV w0 :: ws)) ∧ Ros H' ws ((List.zipWith itemP sh r).take i) ∧ σ = [some (.str z), some (.ref p), some (.ref d), some (.ref it), u, v]) ⟨[], _, _, same_new hit, upd_same, trivial, rfl⟩ (fun _ _ _ _ _ => trivial) ?_ ?_
      · rintro i x σ H4 H5 hi ⟨ws, u, v, s4, hi4, ro, rfl⟩ ⟨rfl, rfl⟩
        refine rdSeq ?_
        walk_at "rd"
        have hp5 := s4 p _ hp3
        have hd5 := s4 d _ hk
        have dg5 : DGet H5 d (V.str (⟨w0.toArray⟩ : Str)) (some (shV sh)) := by
          have h := DGet.k (k := .inr (⟨w0.toArray⟩ : Str)) hd5
          rw [hv, hs] at h
          exact h
        have his : i < sh.length := by omega
        have ei : (1 : Int) + (i : Int) - 1 = ((i : Nat) : Int) := by omega
        have ej : (1 : Int) + (i : Int) = ((i + 1 : Nat) : Int) := by omega
        have hword : (wordsV (w0 :: r))[i + 1]? = some (shV r[i]) := by
          rw [wordsV_at (by simp; omega)]; rfl
        obtain ⟨wl, wc⟩ := hlm r[i] (List.mem_cons_of_mem _ (List.getElem_mem hi))
        have wl' : (⟨r[i].toArray⟩ : Str).length ≤ 100000 := by show r[i].toArray.size ≤ _; rw [List.size_toArray]; exact wl
        have step : ∀ v H6, Same H5 H6 → Ro H6 v (itemP sh[i] r[i]) → rAppend (.ref it) [v] H6 (fun _ H1 => Same H3 H1 ∧ ∃ x, H1 it = some (HO.lst (shV w0 :: x)) ∧ Ros H1 x (List.take (i + 1) (List.zipWith itemP sh r))) := by
          intro v H6 s6 hro
          have hi6 := s6 it _ hi4
          have tk : TupK H6 (upd H6 it (.lst (shV w0 :: ws ++ [v]))) := TupK.set hi6
          have lz : ws.length = i := by
            rw [ro.len, List.length_take, List.length_zipWith]; omega
          refine i_app hi6 (line5' (by simp; omega)) ⟨fun b o e => by rw [upd_ne (ne_of_none e hit)]; exact s6 b o (s4 b o e), ws ++ [v], upd_same, ?_⟩
          have ez : (List.zipWith itemP sh r).take (i + 1) = (List.zipWith itemP sh r).take i ++ [itemP sh[i] r[i]] := by
            rw [List.take_add_one, List.getElem?_zipWith, List.getElem?_eq_getElem his, List.getElem?_eq_getElem hi]; rfl
          rw [ez]
          exact Ros.app (hro.up tk) (ro.up ((TupK.of s6).trans tk))
        have e1 : ∀ {c k : Nat} {s : String}, (Str.ofString s).cps.toList = [k] → ((V.str ⟨#[c]⟩ = V.str (Str.ofString s)) ↔ c = k) := fun {c k s} hk => ⟨fun e => (List.cons.inj ((str_iff (l := [c]) hk).mp (V.str.inj e))).1, fun e => congrArg V.str ((str_iff (l := [c]) hk).mpr (by rw [e]))⟩
        refine i_ixL (sqL_of hp5) (atI_nat (j := 0) rfl) ⟨d, _, rfl, dg5, ?_⟩
        rw [ei, ej]
        refine i_ixS (c := sh[i]) (by show sh.toArray.size ≤ _; rw [List.size_toArray]; exact line5 (by omega)) (atI_nat (j := i) (List.getElem?_eq_getElem his)) ⟨rfl, ite2 (fun h3 => ?_) (fun h3 => ⟨rfl, ite2 (fun h4 => ?_) (fun h4 => ⟨rfl, ite2 (fun h5 => ?_) (fun h5 => ?_)⟩)⟩)⟩
        · have h3 : sh[i] = 110 := (e1 (by decide +kernel)).mp h3
          rw [h3] at step
          rw [itemP_n] at step
          refine ⟨.inl ⟨rfl, _, sqL_of hi4⟩, ?_⟩
          simp only [tIf]
          walk_at "rd"
          refine i_ixL (sqL_of hp5) (atI_nat (j := i + 1) hword) ⟨_, rfl, wl', fun H6 s6 => ?_⟩
          refine ⟨_, rfl, ?_⟩
          by_cases hn : nameC r[i] = true
          · refine i_then hn (i_ixL (sqL_of (s6 p _ hp5)) (atI_nat (j := i + 1) hword) (step _ _ s6 ?_))
            rw [if_pos hn]; exact rfl
          · refine i_else hn (step _ _ s6 ?_)
            rw [if_neg hn]; exact rfl
        · have h4 : sh[i] = 116 := (e1 (by decide +kernel)).mp h4
          rw [h4, itemP_t] at step
          refine ⟨.inl ⟨rfl, _, sqL_of hi4⟩, i_ixL (sqL_of hp5) (atI_nat (j := i + 1) hword) ⟨_, rfl, wl', fun l hl => step _ _ (Same.refl _) ?_, fun hl => step _ _ (Same.refl _) ?_⟩⟩
          · rw [show txtP r[i] = some l from hl]; exact rfl
          · rw [show txtP r[i] = none from hl]; exact rfl
        · have h5 : sh[i] = 98 := (e1 (by decide +kernel)).mp h5
          rw [h5, itemP_b] at step
          refine ⟨.inl ⟨rfl, _, sqL_of hi4⟩, i_ixL (sqL_of hp5) (atI_nat (j := i + 1) hword) ⟨_, rfl, wl', fun ns hl q H6 s6 h6 => step _ _ s6 ?_, fun hl H6 s6 => step _ _ s6 ?_⟩⟩
          · rw [show dataP r[i] = some ns from hl]; exact ⟨q, rfl, h6⟩
          · rw [show dataP r[i] = none from hl]; exact rfl
        · have h3 : sh[i] ≠ 110 := fun e => h3 ((e1 (by decide +kernel)).mpr e)
          have h4 : sh[i] ≠ 116 := fun e => h4 ((e1 (by decide +kernel)).mpr e)
          have h5 : sh[i] ≠ 98 := fun e => h5 ((e1 (by decide +kernel)).mpr e)
          have ei : itemP sh[i] r[i] = (numO r[i] 9999).map .n := by
            unfold itemP
            rw [if_neg h3, if_neg h4, if_neg h5]
          rw [ei] at step
          refine ⟨.inl ⟨rfl, _, sqL_of hi4⟩, i_ixL (sqL_of hp5) (atI_nat (j := i + 1) hword) ⟨_, _, rfl, wl', fun H6 s6 => step _ _ s6 ?_⟩⟩
          show Ro H6 (onumV (numO r[i] 9999)) _
          cases numO r[i] 9999 <;> rfl
      · rintro σ H4 ⟨ws, u, v, s4, hi4, ro, rfl⟩
        refine rdSeq ?_
        walk_at "rd"
        rw [List.take_of_length_le (by rw [List.length_zipWith]; omega)] at ro
        refine rdSeq ?_
        walk_at "rd"
        have hook : ∀ x ∈ List.zipWith itemP sh r, OOk x := by
          intro x hx
          obtain ⟨j, hj, rfl⟩ := List.mem_iff_getElem.mp hx
          rw [List.getElem_zipWith]
          rw [List.length_zipWith] at hj
          exact itemP_ok (hlm _ (List.mem_cons_of_mem _ (List.getElem_mem (by omega)))).2
        have hw0 := (hlm w0 List.mem_cons_self).2
        generalize List.zipWith itemP sh r = zs at *
        refine ⟨.none, _, .non, .lst (sqL_of hi4) (.cons (.str _) ro.dp), rfl, ods_shaped hw0 hook, ?_⟩
        have eA : ((PyData.str ⟨w0.toArray⟩ :: zs.map Od).any fun z => PyData.eqv z .none) = zs.any Option.isNone := by
          show (false || _) = _
          rw [Bool.false_or, any_none hook]
        rw [eA]
        refine ⟨_, rfl, ite2 (fun h => q2 ?_ _ (s1.trans (s3.trans s4))) (fun h => ?_)⟩
        · obtain ⟨x, hx, hn⟩ := List.any_eq_true.mp h
          cases x with
          | some x => cases hn
          | none => rw [seqO_none hx]; rfl
        obtain ⟨ys, rfl, es⟩ := all_some (xs := zs) (Bool.eq_false_iff.mpr h)
        rw [es] at q1
        have q1 := q1 _ rfl
        simp only [tIf]
        walk_at "rd"
        intro l hl
        have hi5 := same_new (o := .lst [V.str (Str.ofString "reset")]) hl it _ hi4
        have er : V.str (Str.ofString "reset") = shV kReset := shV_lit
        refine ⟨_, _, .lst (sqL_of hi5) (.cons (.str _) (ro.up (.of (same_new hl))).dp), .lst (sqL_of upd_same) (.cons (.str _) .nil), ods_shaped hw0 hook, by decide +kernel, ?_⟩
        have eE : PyData.eqv (.list (PyData.str ⟨w0.toArray⟩ :: (ys.map some).map Od)) (.list [PyData.str (Str.ofString "reset")]) = decide (w0 = kReset ∧ ys = []) := by
          show ((⟨w0.toArray⟩ : Str) == Str.ofString "reset" && PyData.eqvAll ((ys.map some).map Od) []) = _
          have e2 : ((⟨w0.toArray⟩ : Str) == Str.ofString "reset") = decide (w0 = kReset) := by
            by_cases e : w0 = kReset
            · rw [decide_eq_true e, (str_iff (s := "reset") (k := kReset)).mpr e]; simp
            · rw [decide_eq_false e, beq_eq_false_iff_ne]
              exact fun q => e ((str_iff (k := kReset)).mp q)
          rw [e2]
          cases ys with
          | nil => show (_ && true) = _; by_cases e : w0 = kReset <;> simp [e]
          | cons y r2 => show (_ && false) = _; simp
        rw [eE]
        have s5 := s1.trans (s3.trans (s4.trans (same_new (o := .lst [V.str (Str.ofString "reset")]) hl)))
        have ri := (Ros.some (ro.up (.of (same_new (o := .lst [V.str (Str.ofString "reset")]) hl))))
        refine ⟨_, rfl, ?_⟩
        unfold finP at q1
        by_cases hf : w0 = kReset ∧ ys = []
        · rw [if_pos hf] at q1
          refine i_else (by rw [decide_eq_true hf]; simp) fun t ht => q1 t _ (s5.trans (same_new ht)) ⟨_, upd_same, ?_, rfl, trivial⟩
          show V.str (Str.ofString "reset") = .str ⟨w0.toArray⟩
          rw [er, hf.1]; rfl
        · rw [if_neg hf] at q1
          refine i_then (by rw [decide_eq_false hf]; rfl) ⟨_, .inl ⟨sqL_of hi5, fun t ht => q1 t _ (s5.trans (same_new ht)) ⟨_, upd_same, rfl, ri.up (.of (same_new ht))⟩⟩⟩

/-! ### _law_due -/
inductive WD (L : List (List Nat)) (z : Str) (p c : Addr) (H : Hp) (i : Nat) (σ : L2.St) (H1 : Hp) : Prop
  | mk (o : Nat) (opn : Option (List (List Nat))) (cs : List (List It)) (ws : List V) (hl : H1 p = some (.lst (wordsV L))) (hc : H1 c = some (.lst ws)) (hw : ws.length ≤ i) (rc : RcL H1 ws cs) (sm : Same H H1)
      (ho : (o = 0 ∧ opn = none) ∨ (0 < o ∧ o ≤ i ∧ opn = some ((L.take i).drop o) ∧ kEnd ∈ L.drop i))
      (hr : (runS readP i opn (L.drop i)).pre cs = runS readP 0 none L) (es : ∃ u v w, σ = [some (.str z), some (.ref p), some (.ref c), some (.int (o : Int)), u, v, w])
def sp_law_due {K : PySem.W.Frag} {mg : Str → Option Value} (_ : Txt K mg) : Sp := fun vs H Q _ => ∃ (z : Str), vs = [.str z] ∧ z.length ≤ 100000 ∧ (∀ c ∈ z.cps.toList, c < 0x110000) ∧
  (∀ cs, runS readP 0 none (spc 10 z.cps.toList) = .cs cs → ∀ p ws H', Same H H' → H' p = some (.tup ws) → RcL H' ws cs → Q (.ref p) H') ∧
    (∀ k : Nat, runS readP 0 none (spc 10 z.cps.toList) = .bad k → ∀ H', Same H H' → Q (.int k) H')
theorem ok_law_due (T : Txt K mg) : FnOk P w K mg base CX0 4 T.f_law_due T.d_law_due ["_law_text_here"] (sp_law_due T) := by
  refine T.k_law_due.ok sc_law_due (fun vs H Q E h => ?_) (fun cdv A outer s H vs Q E hr h => ?_)
  · obtain ⟨z, rfl, _⟩ := h
    rfl
  · obtain ⟨z, rfl, hz, hch, q1, q2⟩ := h
    refine ⟨_, (pss_cons (ps_set (i := 1) sc_law_due.nd rfl (.inl rfl) (pe_split (pv 0) pe_str))
      (pss_cons (ps_set (i := 2) sc_law_due.nd rfl (.inl rfl) (pe_lst pa_nil))
      (pss_cons (ps_set (i := 3) sc_law_due.nd rfl (.inl rfl) pe_int)
      (pss_cons (ps_for PassesOwn.never rfl (pi_range1 (by rfl) T.m_range (pa_cons (pe_callB (lenLK K) (by rfl) T.m_len (by decide +kernel) (pa_cons (pv 1) pa_nil)) pa_nil)) (pg_name (i := 4) sc_law_due.nd rfl (Or.inl rfl)) (pss_one (ps_if (pt_cmpR op_gt (pv 3) pe_int (nomark _)) (pss_one (ps_if (pt_cmpR op_eq (pe_ix (ix_listK K) (pv 1) (pv 4) (fun _ _ => rfl)) pe_str (nomark _)) (pss_cons (ps_expr (pe_bmK K PySem.F.plainAttrs_list PySem.F.slot_list_append PySem.F.type_list_append mt_append (pv 2) (pa_cons (pe_tup (pa_cons pe_str (pa_cons (pe_joinR pe_str (pe_lc (own := [("_law_line_here", 6)]) (g := gName 6) (tt := tYes) rfl sc_law_due.nd (pi_list (pe_slice (sl_listK K) (pv 1) (po_some (pv 3)) (po_some (pv 4)))) (blkOk_by (own := [("_law_line_here", 6)]) (N := ["_law_text_here", "_law_lines", "_law_calls", "_law_opened", "_law_k", "_law_call", "_law_line_here"]) (sc := defScope s_law_due) (by decide +kernel)) (fun _ _ _ _ _ => pg_name (i := 6) sc_law_due.nd rfl (Or.inl rfl)) (fun _ _ _ _ _ => pts_nil) (fun _ _ _ _ _ => (pe_op op_add_str (pv 6) pe_str)))) pa_nil))) pa_nil)))
      (pss_one (ps_set (i := 3) sc_law_due.nd rfl (.inl rfl) pe_int))) pss_nil)) (pss_one (ps_if (pt_cmpR op_eq (pe_ix (ix_listK K) (pv 1) (pv 4) (fun _ _ => rfl)) pe_str (nomark _)) (pss_cons (ps_if (pt_cmpR (notIn_seqK K) pe_str (pe_slice (sl_listK K) (pv 1) (po_some (pe_op op_add (pv 4) pe_int)) po_none) rfl) (pss_one (ps_ret (pe_op op_add (pv 4) pe_int))) pss_nil)
      (pss_one (ps_set (i := 3) sc_law_due.nd rfl (.inl rfl) (pe_op op_add (pv 4) pe_int)))) (pss_one (ps_if (PW.pt (pw_and (pt_cmpR op_ne (pe_ix (ix_listK K) (pv 1) (pv 4) (fun _ _ => rfl)) pe_str (nomark _)) (pw_and1 (pt_cmpR op_ne (pe_ix ix_str (pe_ix (ix_listK K) (pv 1) (pv 4) (fun _ _ => rfl)) pe_int (fun _ _ => rfl)) pe_str (nomark _))))) (pss_cons (ps_set (i := 5) sc_law_due.nd rfl (.inl rfl) (pe_call (ok_law_read T) (hr.mono (by decide)) (by rfl) T.g_law_read T.k_law_read.kp T.b_law_read .nil pass0 (pa_cons (pe_ix (ix_listK K) (pv 1) (pv 4) (fun _ _ => rfl)) pa_nil)))
      (pss_cons (ps_if (pt_cmpR op_isN (pv 5) pe_non (nomark _)) (pss_one (ps_ret (pe_op op_add (pv 4) pe_int))) pss_nil)
      (pss_one (ps_expr (pe_bmK K PySem.F.plainAttrs_list PySem.F.slot_list_append PySem.F.type_list_append mt_append (pv 2) (pa_cons (pv 5) pa_nil)))))) pss_nil)))))))
      (pss_one (ps_ret (pe_callTy call_tuple_of (by rfl) T.m_tuple (by decide +kernel) (pa_cons (pv 2) pa_nil)))))))), ?_⟩
    have ez : z.cps.toList.length = z.length := Array.length_toList
    walk_at "rd"
    refine rdSeq ?_
    walk_at "rd"
    refine ⟨rfl, by omega, fun p hp => ?_⟩
    rw [show Txt.split z (Str.ofString "\n") = (spc 10 z.cps.toList).map fun l => (⟨l.toArray⟩ : Str) from split_c (by decide)]
    have hu : ∀ w ∈ spc 10 z.cps.toList, w.length ≤ 100000 ∧ chOk w := fun w hw => by
      have := spc_le hw
      exact ⟨by omega, fun c hc => hch c ((spc_mem hw).2 c hc)⟩
    have hp2 : upd H p (HO.lst (wordsV (spc 10 z.cps.toList))) p = some (.lst (wordsV (spc 10 z.cps.toList))) := upd_same
    have s2 : Same H (upd H p (HO.lst (wordsV (spc 10 z.cps.toList)))) := same_new hp
    show tSeq _ _ _ _ (upd H p (HO.lst (wordsV (spc 10 z.cps.toList))))
    have ll := spc_sum (c := 10) z.cps.toList
    generalize spc 10 z.cps.toList = L at *
    generalize upd H p (HO.lst (wordsV L)) = H2 at *
    refine rdSeq ?_
    walk_at "rd"
    intro c hc
    refine rdSeq ?_
    walk_at "rd"
    have npc : p ≠ c := ne_of_none hp2 hc
    have hc0 : H c = none := by
      cases e : H c with
      | none => rfl
      | some o => rw [s2 c o e] at hc; cases hc
    have setC : ∀ {H3 : Hp} {o : HO}, Same H H3 → Same H (upd H3 c o) := fun s b u e => by rw [upd_ne (ne_of_none e hc0)]; exact s b u e
    refine rdSeq ?_
    walk_at "rd"
    refine i_lenL (sqL_of (same_new hc p _ hp2)) ?_
    walk_at "rd"
    rw [wordsV_len]
    refine ⟨by omega, by omega, ?_⟩
    rw [show (((L.length : Nat) : Int)).toNat = L.length by omega]
    refine i_for (walk_range (lo := 0) (n := L.length)) (WD L z p c H) ⟨0, none, [], [], same_new hc p _ hp2, upd_same, Nat.zero_le _, trivial, s2.trans (same_new hc), .inl ⟨rfl, rfl⟩, Res.pre_nil, _, _, _, rfl⟩ (fun _ _ _ _ _ => trivial) ?_ ?_
    · rintro i x σ H1 H3 hi ⟨o, opn, cs, ws, hl, hcl, hwl, rc, sm, ho, hrun, u, v, w, rfl⟩ ⟨rfl, rfl⟩
      have hdr : L.drop i = L[i] :: L.drop (i + 1) := List.drop_eq_getElem_cons hi
      have hat := wordsV_at hi
      obtain ⟨hul, hcl2⟩ := hu L[i] (List.getElem_mem hi)
      have hmem : L[i] ∈ L := List.getElem_mem hi
      have hd35 : L[i] ≠ [] → L[i].head? = some (L[i].headD 0) := fun h => by
        cases e : L[i] with
        | nil => exact absurd e h
        | cons a b => rfl
      have hdrop : (L.take (i + 1)).drop (i + 1) = [] := by
        rw [List.drop_of_length_le (by rw [List.length_take]; omega)]
      have htake : ∀ o, o ≤ i → (L.take (i + 1)).drop o = (L.take i).drop o ++ [L[i]] := fun o ho => by
        rw [List.take_add_one, List.getElem?_eq_getElem hi]
        rw [List.drop_append_of_le_length (by rw [List.length_take]; omega)]; rfl
      rw [hdr] at hrun ho
      generalize L[i] = line at *
      have e0 : (0 : Int) + (i : Int) = ((i : Nat) : Int) := by omega
      walk_at "rd"
      rw [e0]
      have eI : ((i : Int) + 1) = ((i + 1 : Nat) : Int) := rfl
      have sI : ∀ {s : String} {k : List Nat}, (Str.ofString s).cps.toList = k → ((V.str (⟨line.toArray⟩ : Str) = V.str (Str.ofString s)) ↔ line = k) := fun hk => ⟨fun e => (str_iff hk).mp (V.str.inj e), fun e => congrArg V.str ((str_iff hk).mpr e)⟩
      refine ite2 (fun h1 => ?_) (fun h1 => ?_)
      · obtain ⟨ho1, ho2, rfl, hend⟩ : 0 < o ∧ o ≤ i ∧ opn = some ((L.take i).drop o) ∧ kEnd ∈ line :: L.drop (i + 1) := by
          rcases ho with ⟨rfl, _⟩ | h
          · exact absurd h1 (by decide)
          · exact h
        rw [runS_some] at hrun
        refine i_ixL (sqL_of hl) (atI_nat (j := i) hat) ⟨rfl, ite2 (fun h2 => ?_) (fun h2 => ?_)⟩
        · have h2 : line = kEnd := (sI (by decide +kernel)).mp h2
          rw [if_pos h2, Res.pre_pre] at hrun
          refine rdSeq ?_
          walk_at "rd"
          have ecut : cutV (wordsV L) (some ((o : Nat) : Int)) (some ((i : Nat) : Int)) = wordsV ((L.take i).drop o) := by
            rw [cut_mid (by rw [wordsV_len]; omega) ho2, wordsV_drop, wordsV_take, List.drop_take]
          have esum : (((L.take i).drop o).map List.length).sum ≤ (L.map List.length).sum := by
            have e3 : L = (L.take i).take o ++ ((L.take i).drop o ++ L.drop i) := by rw [← List.append_assoc, List.take_append_drop, List.take_append_drop]
            have e4 := congrArg (fun l : List (List Nat) => (l.map List.length).sum) e3
            simp only [List.map_append, List.sum_append] at e4
            omega
          have elen : ((L.take i).drop o).length ≤ L.length := by rw [List.length_drop, List.length_take]; omega
          have hsub : ∀ l ∈ (L.take i).drop o, l ∈ L := fun l h => List.mem_of_mem_take (List.mem_of_mem_drop h)
          generalize (L.take i).drop o = pre at *
          refine ⟨.inl ⟨rfl, _, sqL_of hcl⟩, i_slL (sqL_of hl) fun q' hq' => ⟨q', rfl, ⟨_, sqL_of upd_same⟩, ?_⟩⟩
          rw [ecut]
          have hq4 : upd H3 q' (HO.lst (wordsV pre)) q' = some (.lst (wordsV pre)) := upd_same
          have s4 : Same H3 (upd H3 q' (HO.lst (wordsV pre))) := same_new hq'
          generalize upd H3 q' (HO.lst (wordsV pre)) = H4 at *
          have ew : wordsV pre = pre.map fun l => V.str ⟨l.toArray⟩ := by simp [wordsV]
          rw [ew] at hq4
          refine i_lcL (walk_listL (K := K) (a := q') (l := pre) (r := fun l => V.str ⟨l.toArray⟩)) (fun l => .str ⟨(l ++ [10]).toArray⟩) (Nat.lt_of_le_of_lt (show pre.length ≤ 100001 by omega) (by decide)) (fun D ys hD => sqL_of (by rw [upd_ne (ne_of_none hq4 hD)]; exact hq4)) (fun l hl5 H5 Q' s5 qq => ?_) (fun D hD => ?_)
          · walk_at "rd"
            have hll := (hu l (hsub l hl5)).1
            refine ⟨by show l.toArray.size + 1 ≤ _; rw [List.size_toArray]; omega, ?_⟩
            rw [show ((⟨l.toArray⟩ : Str) ++ Str.ofString "\n") = ⟨(l ++ [10]).toArray⟩ from cl_ext (by rw [cl_append]; rfl)]
            exact qq
          · refine ⟨_, D, pre.map (fun l => (⟨(l ++ [10]).toArray⟩ : Str)), rfl, rfl, .inl (sqL_of (by rw [upd_same, List.map_map]; rfl)), ?_, ?_⟩
            · rw [sum_map_succ, List.length_map]
              show _ + pre.length * 0 ≤ _
              omega
            rw [show Txt.join (Str.ofString "") (pre.map (fun l => (⟨(l ++ [10]).toArray⟩ : Str))) = ⟨(pre.map (· ++ [10])).flatten.toArray⟩ from cl_ext (by
              rw [show Str.ofString "" = Str.empty from rfl, join_cl, List.map_map]; rfl)]
            intro t ht
            have s5 := s4.trans (same_new (o := HO.lst (pre.map fun l => V.str ⟨(l ++ [10]).toArray⟩)) hD)
            have ht5 : Rc (upd (upd H4 D (HO.lst (pre.map fun l => V.str ⟨(l ++ [10]).toArray⟩))) t (HO.tup [V.str (Str.ofString "load"), V.str ⟨(pre.map (· ++ [10])).flatten.toArray⟩])) t (loadC pre) := ⟨_, upd_same, rfl, rfl, trivial⟩
            have s6 := s5.trans (same_new (o := HO.tup [V.str (Str.ofString "load"), V.str ⟨(pre.map (· ++ [10])).flatten.toArray⟩]) ht)
            have hc6 := s6 c _ hcl
            refine i_app hc6 (Nat.lt_of_le_of_lt (show ws.length ≤ 100001 by omega) (by decide)) ⟨0, none, cs ++ [loadC pre], ws ++ [.ref t], by rw [upd_ne npc]; exact s6 p _ hl, upd_same, by simp; omega, ?_, setC (sm.trans s6), .inl ⟨rfl, rfl⟩, hrun, _, _, _, rfl⟩
            exact RcL.up (TupK.set hc6) (RcL.app ht5 (rc.up (.of s6)))
        · have h2 : ¬ line = kEnd := fun e => h2 ((sI (by decide +kernel)).mpr e)
          rw [if_neg h2] at hrun
          refine ⟨o, some ((L.take (i + 1)).drop o), cs, ws, hl, hcl, by omega, rc, sm, .inr ⟨ho1, by omega, rfl, ?_⟩, ?_, _, _, _, rfl⟩
          · exact (List.mem_cons.mp hend).resolve_left fun e => h2 e.symm
          · rw [htake o ho2]; exact hrun
      · obtain ⟨rfl, rfl⟩ : o = 0 ∧ opn = none := by
          rcases ho with h | ⟨h, _⟩
          · exact h
          · exact absurd (by omega) h1
        rw [runS_none] at hrun
        refine i_ixL (sqL_of hl) (atI_nat (j := i) hat) ⟨rfl, ite2 (fun h2 => ?_) (fun h2 => ?_)⟩
        · have h2 : line = kLoad := (sI (by decide +kernel)).mp h2
          rw [if_pos h2] at hrun
          refine rdSeq ?_
          walk_at "rd"
          rw [eI]
          refine i_slL (sqL_of hl) fun q hq => ⟨q, _, rfl, .inl (sqL_of upd_same), rfl, by rw [cut_drop, wordsV_drop]; exact wordsV_flat, ?_⟩
          rw [cut_drop, wordsV_drop, inV_words (k := kEnd)]
          have sq : Same H3 (upd H3 q (HO.lst (wordsV (L.drop (i + 1))))) := same_new hq
          generalize upd H3 q (HO.lst (wordsV (L.drop (i + 1)))) = H4 at *
          walk_at "rd"
          refine ite2 (fun h3 => ?_) (fun h3 => ?_)
          · rw [if_neg (by simpa using h3)] at hrun
            exact q2 (i + 1) hrun.symm _ (sm.trans sq)
          · have h3 : kEnd ∈ L.drop (i + 1) := by simpa using h3
            rw [if_pos h3] at hrun
            exact ⟨i + 1, some [], cs, ws, sq p _ hl, sq c _ hcl, by omega, rc.up (.of sq), sm.trans sq, .inr ⟨by omega, Nat.le_refl _, by rw [hdrop], h3⟩, hrun, _, _, _, rfl⟩
        · have h2 : ¬ line = kLoad := fun e => h2 ((sI (by decide +kernel)).mpr e)
          rw [if_neg h2] at hrun
          have skip : (line = [] ∨ line.head? = some 35) → ∀ u v w : Option V, WD L z p c H (i + 1) [some (V.str z), some (V.ref p), some (V.ref c), some (V.int (0 : Nat)), u, v, w] H3 := fun h u v w => by
            rw [if_pos h] at hrun
            exact ⟨0, none, cs, ws, hl, hcl, by omega, rc, sm, .inl ⟨rfl, rfl⟩, hrun, _, _, _, rfl⟩
          refine i_ixL (sqL_of hl) (atI_nat (j := i) hat) ⟨rfl, ite2 (fun h3 => ?_) (fun h3 => ?_)⟩
          · have h3 : ¬ line = [] := fun e => by
              rw [decide_eq_true ((sI (k := []) (by decide +kernel)).mpr e)] at h3
              cases h3
            obtain ⟨a, b, eab⟩ : ∃ a b, line = a :: b := by
              cases line with
              | nil => exact absurd rfl h3
              | cons a b => exact ⟨a, b, rfl⟩
            have hz5 : (⟨line.toArray⟩ : Str).length ≤ 100000 := by show line.toArray.size ≤ _; rw [List.size_toArray]; exact hul
            refine i_ixL (sqL_of hl) (atI_nat (j := i) hat) (i_ixS (c := a) (line5 hz5) (by show atI line _ = _; rw [eab]; exact atI_nat (j := 0) rfl) ⟨rfl, ite2 (fun h4 => ?_) (fun h4 => ?_)⟩)
            · have na : ¬ a = 35 := fun e => by
                rw [e, decide_eq_true (show V.str (⟨#[35]⟩ : Str) = V.str (Str.ofString "#") from rfl)] at h4
                cases h4
              rw [if_neg (show ¬ (line = [] ∨ line.head? = some 35) from fun k => k.elim h3 fun e => by rw [eab] at e; exact na (Option.some.inj e))] at hrun
              refine rdSeq ?_
              walk_at "rd"
              refine i_ixL (sqL_of hl) (atI_nat (j := i) hat) ⟨_, rfl, hz5, hcl2, fun xs hx t H5 s5 r5 => ?_, fun hx H5 s5 => ?_⟩
              · have hx : readP line = some xs := hx
                rw [hx] at hrun
                have hrun : ((runS readP (i + 1) none (List.drop (i + 1) L)).pre [xs]).pre cs = runS readP 0 none L := hrun
                rw [Res.pre_pre] at hrun
                refine rdSeq ?_
                walk_at "rd"
                have hc5 := s5 c _ hcl
                refine ⟨.inl ⟨rfl, _, sqL_of hc5⟩, i_app hc5 (Nat.lt_of_le_of_lt (show ws.length ≤ 100001 by omega) (by decide)) ⟨0, none, cs ++ [xs], ws ++ [.ref t], by rw [upd_ne npc]; exact s5 p _ hl, upd_same, by simp; omega, ?_, setC (sm.trans s5), .inl ⟨rfl, rfl⟩, hrun, _, _, _, rfl⟩⟩
                exact RcL.up (TupK.set hc5) (RcL.app r5 (rc.up (.of s5)))
              · have hx : readP line = none := hx
                rw [hx] at hrun
                have hrun : Res.bad (i + 1) = runS readP 0 none L := hrun
                refine rdSeq ?_
                walk_at "rd"
                exact q2 (i + 1) hrun.symm _ (sm.trans s5)
            · refine skip (.inr ?_) _ _ _
              rw [eab]
              have : a = 35 := by
                by_cases e : a = 35
                · exact e
                · exact absurd (by rw [decide_eq_false (fun k => e (List.cons.inj ((str_iff (l := [a]) (k := [35])).mp (V.str.inj k))).1)]; rfl) h4
              rw [this]; rfl
          · refine skip (.inl ?_) _ _ _
            by_cases e : line = []
            · exact e
            · exact absurd (by rw [decide_eq_false (fun k => e ((sI (k := []) (by decide +kernel)).mp k))]; rfl) h3
    · rintro σ H1 ⟨o, opn, cs, ws, hl, hcl, hwl, rc, sm, ho, hrun, u, v, w, rfl⟩
      walk_at "rd"
      rw [List.drop_length] at hrun ho
      rcases ho with ⟨rfl, rfl⟩ | ⟨_, _, _, h⟩
      · have hrun : Res.cs (cs ++ []) = _ := hrun
        rw [List.append_nil] at hrun
        exact ⟨_, .inl ⟨sqL_of hcl, fun l hl2 => q1 cs hrun.symm l ws _ (sm.trans (same_new hl2)) upd_same (rc.up (.of (same_new hl2)))⟩⟩
      · cases h

/-! ### the values are laid out -/
def It2 : It → Prop
  | .s l => chOk l
  | _ => True
theorem it2_lay {x : It} (h : It2 x) : PyData.canLay0 x.d = true ∧ PyData.depth x.d ≤ 2 := by
  cases x with
  | s l => exact ⟨chOk_str h, by simp [It.d, PyData.depth]⟩
  | n k => exact ⟨rfl, by simp [It.d, PyData.depth]⟩
  | no => exact ⟨rfl, by simp [It.d, PyData.depth]⟩
  | b l =>
    have := nats_lay l
    refine ⟨this.1, ?_⟩
    show PyData.depthAll _ + 1 ≤ 2
    omega
theorem its_lay : ∀ {xs : List It}, (∀ x ∈ xs, It2 x) → PyData.canLayAll0 (xs.map It.d) = true ∧ PyData.depthAll (xs.map It.d) ≤ 2
  | [], _ => by simp [PyData.canLayAll0, PyData.depthAll]
  | x :: xs, h => by
    have ih := its_lay (xs := xs) fun y hy => h y (List.mem_cons_of_mem _ hy)
    have h0 := it2_lay (h x List.mem_cons_self)
    simp [PyData.canLayAll0, PyData.depthAll, ih.1, h0.1]
    omega
theorem calls_lay : ∀ {cs : List (List It)}, (∀ c ∈ cs, ∀ x ∈ c, It2 x) → PyData.canLayAll0 (cs.map fun c => .tuple (c.map It.d)) = true ∧ PyData.depthAll (cs.map fun c => .tuple (c.map It.d)) ≤ 3
  | [], _ => by simp [PyData.canLayAll0, PyData.depthAll]
  | x :: xs, h => by
    have ih := calls_lay (cs := xs) fun y hy => h y (List.mem_cons_of_mem _ hy)
    have h0 := its_lay (h x List.mem_cons_self)
    have e1 : PyData.canLay0 (.tuple (x.map It.d)) = true := h0.1
    have e2 : PyData.depth (.tuple (x.map It.d)) ≤ 3 := by show PyData.depthAll _ + 1 ≤ 3; omega
    simp [PyData.canLayAll0, PyData.depthAll, ih.1, e1]
    omega
theorem calls_shaped {cs : List (List It)} (h : ∀ c ∈ cs, ∀ x ∈ c, It2 x) : SeqAt.shaped (.tuple (cs.map fun c => .tuple (c.map It.d))) = true := by
  have h := calls_lay h
  have h2 := h.2
  unfold SeqAt.shaped
  rw [show PyData.canLay0 (.tuple (cs.map fun c => .tuple (c.map It.d))) = true from h.1, Bool.true_and, decide_eq_true_eq]
  show PyData.depthAll _ + 1 ≤ 64
  omega
theorem seqO_ok : ∀ {os : List (Option It)} {xs : List It}, (∀ x ∈ os, OOk x) → seqO os = some xs → ∀ x ∈ xs, It2 x
  | [], xs, _, h => by cases h; simp
  | none :: _, xs, _, h => by cases h
  | some o :: r, xs, hok, h => by
    have h : (seqO r).map (o :: ·) = some xs := h
    cases e : seqO r with
    | none => rw [e] at h; cases h
    | some ys =>
      rw [e] at h
      cases h
      have ih := seqO_ok (fun x hx => hok x (List.mem_cons_of_mem _ hx)) e
      intro x hx
      rcases List.mem_cons.mp hx with rfl | hx
      · have h0 : ItOk x := hok (some x) List.mem_cons_self
        cases x with
        | s l => exact h0
        | n k => trivial
        | b l => trivial
        | no => trivial
      · exact ih x hx
theorem zip_ok : ∀ {sh : List Nat} {r : List (List Nat)}, (∀ w ∈ r, chOk w) → ∀ x ∈ List.zipWith itemP sh r, OOk x
  | [], r, _, x, h => by simp at h
  | _ :: _, [], _, x, h => by simp at h
  | c :: sh, w :: r, hw, x, h => by
    rw [List.zipWith_cons_cons] at h
    rcases List.mem_cons.mp h with rfl | h
    · exact itemP_ok (hw w List.mem_cons_self)
    · exact zip_ok (fun u hu => hw u (List.mem_cons_of_mem _ hu)) x h
theorem readP_ok {l : List Nat} {xs : List It} (h : chOk l) (e : readP l = some xs) : ∀ x ∈ xs, It2 x := by
  unfold readP readW at e
  have hw : ∀ w ∈ lw false l, chOk w := fun w hw c hc => h c ((lw_mem hw).2 c hc)
  cases hL : lw false l with
  | nil => exact absurd hL (lw_ne _ _)
  | cons w0 r =>
    rw [hL] at e hw
    cases hs : shapeP (w0 :: r) with
    | none => rw [hs] at e; cases e
    | some sh =>
      rw [hs] at e
      have e : (if (w0 :: r).length = 1 + sh.length then (seqO (List.zipWith itemP sh r)).map (finP w0) else none) = some xs := e
      split at e
      · cases hq : seqO (List.zipWith itemP sh r) with
        | none => rw [hq] at e; cases e
        | some ys =>
          rw [hq] at e
          have e : finP w0 ys = xs := Option.some.inj e
          have hy := seqO_ok (zip_ok fun w hw' => hw w (List.mem_cons_of_mem _ hw')) hq
          have h0 := hw w0 List.mem_cons_self
          rw [← e]
          unfold finP
          split
          · intro x hx
            rcases List.mem_cons.mp hx with rfl | hx
            · exact h0
            · rw [List.mem_singleton.mp hx]; trivial
          · intro x hx
            rcases List.mem_cons.mp hx with rfl | hx
            · exact h0
            · exact hy x hx
      · cases e
theorem loadC_ok {rows : List (List Nat)} (h : ∀ w ∈ rows, chOk w) : ∀ x ∈ loadC rows, It2 x := by
  intro x hx
  unfold loadC at hx
  rcases List.mem_cons.mp hx with rfl | hx
  · show chOk kLoad
    intro c hc
    exact of_decide_eq_true (List.all_eq_true.mp (show (kLoad.all fun c => decide (c < 0x110000)) = true by decide +kernel) c hc)
  · rw [List.mem_singleton.mp hx]
    show chOk (rows.map (· ++ [10])).flatten
    intro c hc
    obtain ⟨l, hl, hc⟩ := List.mem_flatten.mp hc
    obtain ⟨w, hw, rfl⟩ := List.mem_map.mp hl
    rcases List.mem_append.mp hc with k | k
    · exact h w hw c k
    · rw [List.mem_singleton.mp k]; decide
theorem runS_ok : ∀ {L : List (List Nat)} {k : Nat} {o : Option (List (List Nat))} {cs : List (List It)}, (∀ w ∈ L, chOk w) → (∀ rows, o = some rows → ∀ w ∈ rows, chOk w) → runS readP k o L = .cs cs → ∀ c ∈ cs, ∀ x ∈ c, It2 x
  | [], _, none, cs, _, _, h => by cases h; simp
  | [], _, some _, cs, _, _, h => by cases h
  | line :: rest, k, some rows, cs, hL, ho, h => by
    rw [runS_some] at h
    have hr := ho rows rfl
    have hL2 : ∀ w ∈ rest, chOk w := fun w hw => hL w (List.mem_cons_of_mem _ hw)
    split at h
    · cases e : runS readP (k + 1) none rest with
      | bad j => rw [e] at h; cases h
      | cs ds =>
        rw [e] at h
        have h : [loadC rows] ++ ds = cs := by injection h
        have ih := runS_ok hL2 (fun _ h => by cases h) e
        intro c hc
        rw [← h] at hc
        rcases List.mem_cons.mp hc with rfl | hc
        · exact loadC_ok hr
        · exact ih c hc
    · refine runS_ok hL2 (fun r2 h2 w hw => ?_) h
      cases h2
      rcases List.mem_append.mp hw with k2 | k2
      · exact hr w k2
      · rw [List.mem_singleton.mp k2]; exact hL line List.mem_cons_self
  | line :: rest, k, none, cs, hL, ho, h => by
    rw [runS_none] at h
    have hL2 : ∀ w ∈ rest, chOk w := fun w hw => hL w (List.mem_cons_of_mem _ hw)
    split at h
    · split at h
      · exact runS_ok hL2 (fun r2 h2 w hw => by cases h2; cases hw) h
      · cases h
    split at h
    · exact runS_ok hL2 (fun _ h => by cases h) h
    · cases er : readP line with
      | none => rw [er] at h; cases h
      | some xs =>
        rw [er] at h
        have h : (runS readP (k + 1) none rest).pre [xs] = .cs cs := h
        cases e : runS readP (k + 1) none rest with
        | bad j => rw [e] at h; cases h
        | cs ds =>
          rw [e] at h
          have h : [xs] ++ ds = cs := by injection h
          have ih := runS_ok hL2 (fun _ h => by cases h) e
          intro c hc
          rw [← h] at hc
          rcases List.mem_cons.mp hc with rfl | hc
          · exact readP_ok (hL line List.mem_cons_self) er
          · exact ih c hc
theorem lines_prn {l : List Nat} (h : l.all pr2 = true) : ∀ w ∈ spc 10 l, w.all prn = true := by
  intro w hw
  obtain ⟨h1, h2⟩ := spc_mem hw
  rw [List.all_eq_true]
  intro c hc
  have h3 := List.all_eq_true.mp h c (h2 c hc)
  unfold pr2 at h3
  rw [Bool.or_eq_true] at h3
  rcases h3 with h3 | h3
  · exact h3
  · rw [of_decide_eq_true h3] at hc; exact absurd hc h1
theorem pr2_ok {l : List Nat} (h : l.all pr2 = true) : chOk l := fun c hc => by
  have h3 := List.all_eq_true.mp h c hc
  unfold pr2 prn at h3
  simp only [Bool.or_eq_true, Bool.and_eq_true, decide_eq_true_eq] at h3
  omega
/-! ### the law -/
def sp_law_told {K : PySem.W.Frag} {mg : Str → Option Value} (_ : Txt K mg) : Sp := fun vs H Q _ => ∃ x : V, vs = [x] ∧
  ((∃ z : Str, x = .str z ∧ z.length ≤ 100000 ∧ (∀ l ∈ spc 10 z.cps.toList, l.all prn = true) ∧
    (∀ cs, runS callP 0 none (spc 10 z.cps.toList) = .cs cs → ∀ p ws H', Same H H' → H' p = some (.tup ws) → RcL H' ws cs → Q (.ref p) H') ∧
    (∀ k : Nat, runS callP 0 none (spc 10 z.cps.toList) = .bad k → ∀ H', Same H H' → Q (.int k) H')) ∨ (OddS K H x ∧ ∀ H', Same H H' → Q (.int 0) H'))
theorem ok_law_told (T : Txt K mg) : FnOk P w K mg base CX0 7 T.f_law_told T.d_law_told ["_law_text_here"] (sp_law_told T) := by
  refine T.k_law_told.ok sc_law_told (fun vs H Q E h => ?_) (fun cdv A outer s H vs Q E hr h => ?_)
  · obtain ⟨x, rfl, _⟩ := h
    rfl
  · obtain ⟨x, rfl, h⟩ := h
    refine ⟨_, (pss_one (ps_try_as (i := 1) rfl rfl sc_law_told.nd rfl rfl ⟨rfl, by decide, .inl T.g_BadScript⟩ takes0 (fun W pn xe tk po => (pss_one (ps_ret (pe_callS (ok_parse_script T) (hr.mono (by decide)) (by rfl) T.g_parse_script T.k_parse_script.kp T.b_parse_script (fun σ => passAt tk σ) (pa_cons (pv 0) pa_nil))))) (fun a oe cls d pn hz hf => (pss_one (ps_ret (pe_xf T.xf_BadScript T.on_BadScript_line hz hf (pv 1) rfl)))))), ?_⟩
    walk_at "rd"
    rcases h with ⟨z, rfl, hz, hpr, q1, q2⟩ | ⟨ho, q⟩
    · refine ⟨_, rfl, .inl ⟨z, rfl, hz, hpr, q1, fun k hk d rs H' s1 hd => i_catchAs T.ex_BadScript_BadScript fun a na => ?_⟩⟩
      walk_at "rd"
      refine i_xf hd rfl ?_
      exact q2 k hk _ s1
    · refine ⟨_, rfl, .inr ⟨ho, fun d rs H' s1 hd => i_catchAs T.ex_BadScript_BadScript fun a na => ?_⟩⟩
      walk_at "rd"
      refine i_xf hd rfl ?_
      exact q _ s1
def sp_law (K : PySem.W.Frag) : Sp := fun vs H Q _ => ∃ (a : Addr) (ns : List Int), vs = [.ref a] ∧ SqL K H a (ns.map V.int) ∧ ns.length ≤ 63 ∧ ∀ H', Q (.bl true) H'
theorem ok_law (T : Txt K mg) : FnOk P w K mg base CX0 8 T.f_law T.d_law ["_law_script"] (sp_law K) := by
  refine T.k_law.ok sc_law (fun vs H Q E h => ?_) (fun cdv A outer s H vs Q E hr h => ?_)
  · obtain ⟨a, ns, rfl, _⟩ := h
    rfl
  · obtain ⟨sa, ns, rfl, hS, hl, q⟩ := h
    refine ⟨_, (pss_cons (ps_for PassesOwn.never rfl (pi_range1 (by rfl) T.m_range (pa_cons (pe_callB (call_max2 rfl) (by rfl) T.m_max (by decide +kernel) (pa_cons pe_int (pa_cons (pe_callB (call_min2 rfl) (by rfl) T.m_min (by decide +kernel) (pa_cons pe_int (pa_cons (pe_callB (lenLK K) (by rfl) T.m_len (by decide +kernel) (pa_cons (pv 0) pa_nil)) pa_nil))) pa_nil))) pa_nil)) (pg_name (i := 1) sc_law.nd rfl (Or.inl rfl)) (pss_cons (ps_set (i := 2) sc_law.nd rfl (.inr rfl) (pe_call (ok_law_bag T) (hr.mono (by decide)) (by rfl) T.g_law_bag T.k_law_bag.kp T.b_law_bag .nil pass0 (pa_cons (pv 0) (pa_cons (pv 1) pa_nil))))
      (pss_cons (ps_set (i := 3) sc_law.nd rfl (.inl rfl) (pe_joinR pe_str (pe_lc (own := [("_law_j", 5)]) (g := gName 5) (tt := tYes) rfl sc_law.nd (pi_range1 (by rfl) T.m_range (pa_cons (pe_call (ok_law_draw T) (hr.mono (by decide)) (by rfl) T.g_law_draw T.k_law_draw.kp T.b_law_draw .nil pass0 (pa_cons (pv 2) (pa_cons pe_int pa_nil))) pa_nil)) (blkOk_by (own := [("_law_j", 5)]) (N := ["_law_script", "_law_k", "_law_bag_here", "_law_text_here", "_law_value", "_law_j"]) (sc := defScope s_law) (by decide +kernel)) (fun _ _ _ _ _ => pg_name (i := 5) sc_law.nd rfl (Or.inl rfl)) (fun _ _ _ _ _ => pts_nil) (fun _ _ _ _ _ => (pe_call (ok_law_line T) (hr.mono (by decide)) (by rfl) T.g_law_line T.k_law_line.kp T.b_law_line .nil pass0 (pa_cons (pv 2) pa_nil))))))
      (C8.pss_cut (ps_if (pt_cmpR op_eq (pe_call (ok_law_draw T) (hr.mono (by decide)) (by rfl) T.g_law_draw T.k_law_draw.kp T.b_law_draw .nil pass0 (pa_cons (pv 2) (pa_cons pe_int pa_nil))) pe_int (nomark _)) (pss_one (ps_set (i := 3) sc_law.nd rfl (.inl rfl) (pe_call (ok_law_changed T) (hr.mono (by decide)) (by rfl) T.g_law_changed T.k_law_changed.kp T.b_law_changed .nil pass0 (pa_cons (pv 2) (pa_cons (pv 3) pa_nil))))) pss_nil)
      (pss_one (ps_if (pt_cmpR (op_neD hr.units) (pe_call (ok_law_told T) (hr.mono (by decide)) (by rfl) T.g_law_told T.k_law_told.kp T.b_law_told .nil pass0 (pa_cons (pv 3) pa_nil)) (pe_call (ok_law_due T) (hr.mono (by decide)) (by rfl) T.g_law_due T.k_law_due.kp T.b_law_due .nil pass0 (pa_cons (pv 3) pa_nil)) (nomark _)) (pss_one (ps_ret pe_bl)) pss_nil))))))
      (pss_one (ps_ret (pe_cmpR (op_eqD hr.units) (pe_lc (own := [("_law_value", 4)]) (g := gName 4) (tt := tYes) rfl sc_law.nd (pi_list (pe_lst (pa_cons pe_non (pa_cons pe_int (pa_cons (pe_tup (pa_cons pe_str pa_nil)) (pa_cons (pe_lst (pa_cons pe_str pa_nil)) pa_nil)))))) (blkOk_by (own := [("_law_value", 4)]) (N := ["_law_script", "_law_k", "_law_bag_here", "_law_text_here", "_law_value", "_law_j"]) (sc := defScope s_law) (by decide +kernel)) (fun _ _ _ _ _ => pg_name (i := 4) sc_law.nd rfl (Or.inl rfl)) (fun _ _ _ _ _ => pts_nil) (fun _ _ _ _ _ => (pe_call (ok_law_told T) (hr.mono (by decide)) (by rfl) T.g_law_told T.k_law_told.kp T.b_law_told .nil pass0 (pa_cons (pv 4) pa_nil)))) (pe_lst (pa_cons pe_int (pa_cons pe_int (pa_cons pe_int (pa_cons pe_int pa_nil))))) (nomark _))))), ?_⟩
    walk_at "rd"
    refine rdSeq ?_
    walk_at "rd"
    refine i_lenL hS ?_
    rw [List.length_map]
    refine ⟨_, rfl, ?_⟩
    obtain ⟨N, eN, hN⟩ : ∃ N : Nat, (if (if (ns.length : Int) < 5 then (ns.length : Int) else 5) > 1 then (if (ns.length : Int) < 5 then (ns.length : Int) else 5) else 1) = (N : Int) ∧ N ≤ 5 := by
      refine ⟨(if (if (ns.length : Int) < 5 then (ns.length : Int) else 5) > 1 then (if (ns.length : Int) < 5 then (ns.length : Int) else 5) else 1).toNat, ?_, ?_⟩ <;> (split <;> split <;> omega)
    rw [eN]
    refine ⟨by omega, by omega, i_for walk_range (fun i σ H' => Same H H' ∧ ∃ y1 y2 y3, σ = [some (.ref sa), y1, y2, y3, none, none]) ⟨Same.refl H, _, _, _, rfl⟩ (fun _ _ _ _ _ => trivial) ?_ ?_⟩
    · rintro i _ σ _ H1 hi ⟨s1, y1, y2, y3, rfl⟩ ⟨rfl, rfl⟩
      refine rdSeq ?_
      walk_at "rd"
      refine ⟨sa, ns, i, by rw [Int.zero_add], s1.seq hS, fun b H2 hb hB s2 => ?_⟩
      refine rdSeq ?_
      walk_at "rd"
      refine i_draw (Mv.refl hB) (by decide) (by decide) fun r H3 r0 r1 _ mv3 => ?_
      obtain ⟨n, rfl⟩ := Int.eq_ofNat_of_zero_le r0
      refine ⟨_, rfl, by omega, by omega, ?_⟩
      have nat0 : ((n : Int)).toNat = n := by omega
      rw [nat0]
      refine i_lcD (walk_range (lo := 0) (n := n)) mv3.bag (TV 900) (by exact line5' (by omega)) (fun _ _ => trivial) (fun i H1 x H' y => y.1) (fun i x H1 Q' hi hy mv qq => ?_) (fun D H5 ys hD mv5 hD5 hl5 hP5 => ?_)
      · walk_at "rd"
        exact ⟨b, rfl, mv.bag, fun z H6 mv6 hz => qq _ _ ⟨z, rfl, hz⟩ mv6⟩
      obtain ⟨zs, rfl, hzs⟩ := strs_of hP5
      rw [List.length_map] at hl5
      have h5 := tx_sum hzs
      have h6 : (Str.ofString "\n").length = 1 := by decide +kernel
      have hz0 : tx 8000 (Txt.join (Str.ofString "\n") zs) = true := tx_join (n := 900) (m := 1) (by decide +kernel) hzs (by omega)
      refine ⟨_, D, zs, rfl, rfl, .inl (sqL_of hD5), by rw [h6]; omega, ?_⟩
      generalize Txt.join (Str.ofString "\n") zs = z0 at *
      have mv35 := mv3.trans mv5
      refine rdCut (fun σ H' => Mv b H2 H' ∧ ∃ z, tx 9000 z = true ∧ σ = [some (.ref sa), some (.int (0 + (i : Int))), some (.ref b), some (.str z), none, none]) ?_ ?_
      · walk_at "rd"
        refine i_draw mv35 (by decide) (by decide) fun r4 H6 k0 k1 _ mv6 => ⟨rfl, ite2 (fun h4 => ?_) (fun h4 => ?_)⟩
        · exact ⟨b, z0, rfl, mv6.bag, hz0, fun z' H7 mv7 hz7 => ⟨mv6.trans mv7, z', hz7, rfl⟩⟩
        · exact ⟨mv6, z0, tx_le hz0, rfl⟩
      rintro σ H6 ⟨mv6, z, hz, rfl⟩
      walk_at "rd"
      have hzl : z.length ≤ 100000 := by have := tx_len hz; omega
      have hlp := lines_prn (tx_pr hz)
      have hrun : runS callP 0 none (spc 10 z.cps.toList) = runS readP 0 none (spc 10 z.cps.toList) := runS_congr _ _ _ fun l hl => line_law (hlp l hl)
      have hok : ∀ w ∈ spc 10 z.cps.toList, chOk w := fun w hw => prn_ok (hlp w hw)
      have fin : ∀ H7, Same H6 H7 → Same H H7 := fun H7 s7 a o e => s7 a o (mv6.old a o (fun k => by
        have := s1 a o e
        rw [k, hb] at this; cases this) (s2 a o (s1 a o e)))
      refine ⟨_, rfl, .inl ⟨z, rfl, hzl, hlp, fun cs hcs p ws H7 s7 hp rc => ?_, fun k hk H7 s7 => ?_⟩⟩
      · rw [hrun] at hcs
        refine ⟨z, rfl, hzl, pr2_ok (tx_pr hz), fun cs2 hcs2 p2 ws2 H8 s8 hp2 rc2 => ?_, fun k hk H8 s8 => ?_⟩
        · rw [hcs] at hcs2
          have : cs = cs2 := by injection hcs2
          subst this
          refine i_neD (d := .tuple (cs.map fun c => .tuple (c.map It.d))) (.tup (sqT_of (s8 p _ hp)) (rc.up (.of s8)).dp) (.tup (sqT_of hp2) rc2.dp) (calls_shaped (runS_ok hok (fun _ h => by cases h) hcs)) ?_
          exact ⟨_, rfl, i_else (by simp) (fin _ (s7.trans s8))⟩
        · rw [hcs] at hk; cases hk
      · rw [hrun] at hk
        refine ⟨z, rfl, hzl, pr2_ok (tx_pr hz), fun cs2 hcs2 p2 ws2 H8 s8 hp2 rc2 => ?_, fun k2 hk2 H8 s8 => ?_⟩
        · rw [hk] at hcs2; cases hcs2
        · rw [hk] at hk2
          have : k = k2 := by injection hk2
          subst this
          refine i_neD (d := .int k) (.int _) (.int _) rfl ?_
          exact ⟨_, rfl, i_else (by simp) (fin _ (s7.trans s8))⟩
    · rintro σ H1 ⟨s1, y1, y2, y3, rfl⟩
      walk_at "rd"
      intro t ht l hl2 m hm
      have ht2 : upd (upd (upd H1 t (HO.tup [V.str (Str.ofString "collect")])) l (HO.lst [V.str (Str.ofString "collect")])) m (HO.lst [V.non, V.int 7, V.ref t, V.ref l]) t = some (HO.tup [V.str (Str.ofString "collect")]) := same_new hm t _ (same_new hl2 t _ upd_same)
      have hl3 : upd (upd (upd H1 t (HO.tup [V.str (Str.ofString "collect")])) l (HO.lst [V.str (Str.ofString "collect")])) m (HO.lst [V.non, V.int 7, V.ref t, V.ref l]) l = some (HO.lst [V.str (Str.ofString "collect")]) := same_new hm l _ upd_same
      have hm2 : upd (upd (upd H1 t (HO.tup [V.str (Str.ofString "collect")])) l (HO.lst [V.str (Str.ofString "collect")])) m (HO.lst [V.non, V.int 7, V.ref t, V.ref l]) m = some (HO.lst ([V.non, V.int 7, V.ref t, V.ref l].map fun v => v)) := upd_same
      refine ⟨⟨_, sqL_of hm2⟩, ?_⟩
      generalize upd (upd (upd H1 t (HO.tup [V.str (Str.ofString "collect")])) l (HO.lst [V.str (Str.ofString "collect")])) m (HO.lst [V.non, V.int 7, V.ref t, V.ref l]) = H2 at *
      refine i_lcS (walk_listL (K := K) (a := m) (l := [V.non, V.int 7, V.ref t, V.ref l]) (r := fun v => v)) (fun _ => .int 0) (by show 4 < _; decide) (fun H' s' => sqL_of (s' m _ hm2)) (fun v hv H5 Q' s5 qq => ?_) (fun D H3 hD s3 hD3 => ?_)
      · walk_at "rd"
        refine ⟨_, rfl, .inr ⟨?_, fun H' s' => qq H' s'⟩⟩
        simp only [List.mem_cons, List.not_mem_nil, or_false] at hv
        rcases hv with rfl | rfl | rfl | rfl
        · exact ⟨_, ty_non, kb_ns⟩
        · exact ⟨_, ty_int, kb_is⟩
        · exact ⟨_, ty_tup (s5 _ _ ht2), kb_ts⟩
        · exact ⟨_, ty_lst (s5 _ _ hl3), kb_ls⟩
      · intro u hu
        refine i_eqD (d := .list ([0, 0, 0, 0].map PyData.int)) (.lst (sqL_of (same_new hu D _ hD3)) (dpInts [0, 0, 0, 0])) (.lst (sqL_of upd_same) (dpInts [0, 0, 0, 0])) (by decide +kernel) (q _)

theorem all_mk {l : PySem.W.OpenLaw} {w : World} {K : PySem.W.Frag} {h : Heap} {mg : Str → Option Value} {fa : Addr} (X : K.In h) (G : h.Ns mainGlobals mg) (hfa : mg "law" = some (.ref fa))
    {f0 : Addr} {od0 an0 : Option Addr} {sl0 : Array (Option Value)} {oc0 kV0 dc0 pm0 cd0 ct0 : Value}
    {f1 : Addr} {od1 an1 : Option Addr} {sl1 : Array (Option Value)} {oc1 kV1 dc1 pm1 cd1 ct1 : Value}
    {f2 : Addr} {od2 an2 : Option Addr} {sl2 : Array (Option Value)} {oc2 kV2 dc2 pm2 cd2 ct2 : Value}
    {f3 : Addr} {od3 an3 : Option Addr} {sl3 : Array (Option Value)} {oc3 kV3 dc3 pm3 cd3 ct3 : Value}
    {f4 : Addr} {od4 an4 : Option Addr} {sl4 : Array (Option Value)} {oc4 kV4 dc4 pm4 cd4 ct4 : Value}
    {f5 : Addr} {od5 an5 : Option Addr} {sl5 : Array (Option Value)} {oc5 kV5 dc5 pm5 cd5 ct5 : Value}
    {f6 : Addr} {od6 an6 : Option Addr} {sl6 : Array (Option Value)} {oc6 kV6 dc6 pm6 cd6 ct6 : Value}
    {f7 : Addr} {od7 an7 : Option Addr} {sl7 : Array (Option Value)} {oc7 kV7 dc7 pm7 cd7 ct7 : Value}
    {f8 : Addr} {od8 an8 : Option Addr} {sl8 : Array (Option Value)} {oc8 kV8 dc8 pm8 cd8 ct8 : Value}
    {f9 : Addr} {od9 an9 : Option Addr} {sl9 : Array (Option Value)} {oc9 kV9 dc9 pm9 cd9 ct9 : Value}
    {f10 : Addr} {od10 an10 : Option Addr} {sl10 : Array (Option Value)} {oc10 kV10 dc10 pm10 cd10 ct10 : Value}
    {f11 : Addr} {od11 an11 : Option Addr} {sl11 : Array (Option Value)} {oc11 kV11 dc11 pm11 cd11 ct11 : Value}
    {f12 : Addr} {od12 an12 : Option Addr} {sl12 : Array (Option Value)} {oc12 kV12 dc12 pm12 cd12 ct12 : Value}
    {f13 : Addr} {od13 an13 : Option Addr} {sl13 : Array (Option Value)} {oc13 kV13 dc13 pm13 cd13 ct13 : Value}
    {f14 : Addr} {od14 an14 : Option Addr} {sl14 : Array (Option Value)} {oc14 kV14 dc14 pm14 cd14 ct14 : Value}
    {f15 : Addr} {od15 an15 : Option Addr} {sl15 : Array (Option Value)} {oc15 kV15 dc15 pm15 cd15 ct15 : Value}
    {f16 : Addr} {od16 an16 : Option Addr} {sl16 : Array (Option Value)} {oc16 kV16 dc16 pm16 cd16 ct16 : Value}
    {f17 : Addr} {od17 an17 : Option Addr} {sl17 : Array (Option Value)} {oc17 kV17 dc17 pm17 cd17 ct17 : Value}
    {f18 : Addr} {od18 an18 : Option Addr} {sl18 : Array (Option Value)} {oc18 kV18 dc18 pm18 cd18 ct18 : Value}
    {f19 : Addr} {od19 an19 : Option Addr} {sl19 : Array (Option Value)} {oc19 kV19 dc19 pm19 cd19 ct19 : Value}
    {f20 : Addr} {od20 an20 : Option Addr} {sl20 : Array (Option Value)} {oc20 kV20 dc20 pm20 cd20 ct20 : Value}
    {f21 : Addr} {od21 an21 : Option Addr} {sl21 : Array (Option Value)} {oc21 kV21 dc21 pm21 cd21 ct21 : Value}
    {f22 : Addr} {od22 an22 : Option Addr} {sl22 : Array (Option Value)} {oc22 kV22 dc22 pm22 cd22 ct22 : Value}
    {f23 : Addr} {od23 an23 : Option Addr} {sl23 : Array (Option Value)} {oc23 kV23 dc23 pm23 cd23 ct23 : Value}
    {f24 : Addr} {od24 an24 : Option Addr} {sl24 : Array (Option Value)} {oc24 kV24 dc24 pm24 cd24 ct24 : Value}
    {f25 : Addr} {od25 an25 : Option Addr} {sl25 : Array (Option Value)} {oc25 kV25 dc25 pm25 cd25 ct25 : Value}
    {f26 : Addr} {od26 an26 : Option Addr} {sl26 : Array (Option Value)} {oc26 kV26 dc26 pm26 cd26 ct26 : Value}
    {f27 : Addr} {od27 an27 : Option Addr} {sl27 : Array (Option Value)} {oc27 kV27 dc27 pm27 cd27 ct27 : Value}
    {c_CardError : Addr}
    {c_BadScript : Addr}
    {em0_BadScript em1_BadScript : Str} {em2_BadScript : Addr} {em3_BadScript em4_BadScript : List Value} {em5_BadScript : List Str} {em6_BadScript : List Value} {em7_BadScript : Bool} {em8_BadScript : Option Bool} {em9_BadScript : Option Addr} {em10_BadScript em11_BadScript em12_BadScript em13_BadScript em14_BadScript : Option Value}
    {c_Unreadable : Addr}
    {tk0 : Tok}
    {tk1 : Tok}
    {tk2 : Tok}
    {tk3 : Tok}
    {tk4 : Tok}
    {tk5 : Tok}
    (l0 : K.lookup f0 = some ⟨oc0, od0, .func (PySem.W.fnOf "__init__" "BadScript.__init__" (defArgs s_BadScript_init) (defBody s_BadScript_init) (defScope s_BadScript_init) .none kV0 dc0 pm0 an0 cd0 ct0), sl0⟩) (c0 : PySem.W.codeIn K cd0 "BadScript.__init__" = true) (k0 : PySem.W.keepIn K (.ref f0) = true)
    (a1 : PySem.W.nsIn K mainGlobals "is_integer" = some (some (.ref f1)))
    (l1 : K.lookup f1 = some ⟨oc1, od1, .func (PySem.W.fnOf "is_integer" "is_integer" (defArgs s_is_integer) (defBody s_is_integer) (defScope s_is_integer) .none kV1 dc1 pm1 an1 cd1 ct1), sl1⟩) (c1 : PySem.W.codeIn K cd1 "is_integer" = true) (k1 : PySem.W.keepIn K (.ref f1) = true)
    (a2 : PySem.W.nsIn K mainGlobals "is_printable" = some (some (.ref f2)))
    (l2 : K.lookup f2 = some ⟨oc2, od2, .func (PySem.W.fnOf "is_printable" "is_printable" (defArgs s_is_printable) (defBody s_is_printable) (defScope s_is_printable) .none kV2 dc2 pm2 an2 cd2 ct2), sl2⟩) (c2 : PySem.W.codeIn K cd2 "is_printable" = true) (k2 : PySem.W.keepIn K (.ref f2) = true)
    (a3 : PySem.W.nsIn K mainGlobals "is_name" = some (some (.ref f3)))
    (l3 : K.lookup f3 = some ⟨oc3, od3, .func (PySem.W.fnOf "is_name" "is_name" (defArgs s_is_name) (defBody s_is_name) (defScope s_is_name) .none kV3 dc3 pm3 an3 cd3 ct3), sl3⟩) (c3 : PySem.W.codeIn K cd3 "is_name" = true) (k3 : PySem.W.keepIn K (.ref f3) = true)
    (a4 : PySem.W.nsIn K mainGlobals "is_text" = some (some (.ref f4)))
    (l4 : K.lookup f4 = some ⟨oc4, od4, .func (PySem.W.fnOf "is_text" "is_text" (defArgs s_is_text) (defBody s_is_text) (defScope s_is_text) .none kV4 dc4 pm4 an4 cd4 ct4), sl4⟩) (c4 : PySem.W.codeIn K cd4 "is_text" = true) (k4 : PySem.W.keepIn K (.ref f4) = true)
    (a5 : PySem.W.nsIn K mainGlobals "must" = some (some (.ref f5)))
    (l5 : K.lookup f5 = some ⟨oc5, od5, .func (PySem.W.fnOf "must" "must" (defArgs s_must) (defBody s_must) (defScope s_must) .none kV5 dc5 pm5 an5 cd5 ct5), sl5⟩) (c5 : PySem.W.codeIn K cd5 "must" = true) (k5 : PySem.W.keepIn K (.ref f5) = true)
    (a6 : PySem.W.nsIn K mainGlobals "number_of" = some (some (.ref f6)))
    (l6 : K.lookup f6 = some ⟨oc6, od6, .func (PySem.W.fnOf "number_of" "number_of" (defArgs s_number_of) (defBody s_number_of) (defScope s_number_of) .none kV6 dc6 pm6 an6 cd6 ct6), sl6⟩) (c6 : PySem.W.codeIn K cd6 "number_of" = true) (k6 : PySem.W.keepIn K (.ref f6) = true)
    (a7 : PySem.W.nsIn K mainGlobals "name_of" = some (some (.ref f7)))
    (l7 : K.lookup f7 = some ⟨oc7, od7, .func (PySem.W.fnOf "name_of" "name_of" (defArgs s_name_of) (defBody s_name_of) (defScope s_name_of) .none kV7 dc7 pm7 an7 cd7 ct7), sl7⟩) (c7 : PySem.W.codeIn K cd7 "name_of" = true) (k7 : PySem.W.keepIn K (.ref f7) = true)
    (a8 : PySem.W.nsIn K mainGlobals "data_of" = some (some (.ref f8)))
    (l8 : K.lookup f8 = some ⟨oc8, od8, .func (PySem.W.fnOf "data_of" "data_of" (defArgs s_data_of) (defBody s_data_of) (defScope s_data_of) .none kV8 dc8 pm8 an8 cd8 ct8), sl8⟩) (c8 : PySem.W.codeIn K cd8 "data_of" = true) (k8 : PySem.W.keepIn K (.ref f8) = true)
    (a9 : PySem.W.nsIn K mainGlobals "named_call" = some (some (.ref f9)))
    (l9 : K.lookup f9 = some ⟨oc9, od9, .func (PySem.W.fnOf "named_call" "named_call" (defArgs s_named_call) (defBody s_named_call) (defScope s_named_call) .none kV9 dc9 pm9 an9 cd9 ct9), sl9⟩) (c9 : PySem.W.codeIn K cd9 "named_call" = true) (k9 : PySem.W.keepIn K (.ref f9) = true)
    (a10 : PySem.W.nsIn K mainGlobals "call_of" = some (some (.ref f10)))
    (l10 : K.lookup f10 = some ⟨oc10, od10, .func (PySem.W.fnOf "call_of" "call_of" (defArgs s_call_of) (defBody s_call_of) (defScope s_call_of) .none kV10 dc10 pm10 an10 cd10 ct10), sl10⟩) (c10 : PySem.W.codeIn K cd10 "call_of" = true) (k10 : PySem.W.keepIn K (.ref f10) = true)
    (a11 : PySem.W.nsIn K mainGlobals "parse_script" = some (some (.ref f11)))
    (l11 : K.lookup f11 = some ⟨oc11, od11, .func (PySem.W.fnOf "parse_script" "parse_script" (defArgs s_parse_script) (defBody s_parse_script) (defScope s_parse_script) .none kV11 dc11 pm11 an11 cd11 ct11), sl11⟩) (c11 : PySem.W.codeIn K cd11 "parse_script" = true) (k11 : PySem.W.keepIn K (.ref f11) = true)
    (a12 : PySem.W.nsIn K mainGlobals "_law_bag" = some (some (.ref f12)))
    (l12 : K.lookup f12 = some ⟨oc12, od12, .func (PySem.W.fnOf "_law_bag" "_law_bag" (defArgs s_law_bag) (defBody s_law_bag) (defScope s_law_bag) .none kV12 dc12 pm12 an12 cd12 ct12), sl12⟩) (c12 : PySem.W.codeIn K cd12 "_law_bag" = true) (k12 : PySem.W.keepIn K (.ref f12) = true)
    (a13 : PySem.W.nsIn K mainGlobals "_law_draw" = some (some (.ref f13)))
    (l13 : K.lookup f13 = some ⟨oc13, od13, .func (PySem.W.fnOf "_law_draw" "_law_draw" (defArgs s_law_draw) (defBody s_law_draw) (defScope s_law_draw) .none kV13 dc13 pm13 an13 cd13 ct13), sl13⟩) (c13 : PySem.W.codeIn K cd13 "_law_draw" = true) (k13 : PySem.W.keepIn K (.ref f13) = true)
    (a14 : PySem.W.nsIn K mainGlobals "_law_number_text" = some (some (.ref f14)))
    (l14 : K.lookup f14 = some ⟨oc14, od14, .func (PySem.W.fnOf "_law_number_text" "_law_number_text" (defArgs s_law_number_text) (defBody s_law_number_text) (defScope s_law_number_text) .none kV14 dc14 pm14 an14 cd14 ct14), sl14⟩) (c14 : PySem.W.codeIn K cd14 "_law_number_text" = true) (k14 : PySem.W.keepIn K (.ref f14) = true)
    (a15 : PySem.W.nsIn K mainGlobals "_law_bytes_text" = some (some (.ref f15)))
    (l15 : K.lookup f15 = some ⟨oc15, od15, .func (PySem.W.fnOf "_law_bytes_text" "_law_bytes_text" (defArgs s_law_bytes_text) (defBody s_law_bytes_text) (defScope s_law_bytes_text) .none kV15 dc15 pm15 an15 cd15 ct15), sl15⟩) (c15 : PySem.W.codeIn K cd15 "_law_bytes_text" = true) (k15 : PySem.W.keepIn K (.ref f15) = true)
    (a16 : PySem.W.nsIn K mainGlobals "_law_name_text" = some (some (.ref f16)))
    (l16 : K.lookup f16 = some ⟨oc16, od16, .func (PySem.W.fnOf "_law_name_text" "_law_name_text" (defArgs s_law_name_text) (defBody s_law_name_text) (defScope s_law_name_text) .none kV16 dc16 pm16 an16 cd16 ct16), sl16⟩) (c16 : PySem.W.codeIn K cd16 "_law_name_text" = true) (k16 : PySem.W.keepIn K (.ref f16) = true)
    (a17 : PySem.W.nsIn K mainGlobals "_law_line" = some (some (.ref f17)))
    (l17 : K.lookup f17 = some ⟨oc17, od17, .func (PySem.W.fnOf "_law_line" "_law_line" (defArgs s_law_line) (defBody s_law_line) (defScope s_law_line) .none kV17 dc17 pm17 an17 cd17 ct17), sl17⟩) (c17 : PySem.W.codeIn K cd17 "_law_line" = true) (k17 : PySem.W.keepIn K (.ref f17) = true)
    (a18 : PySem.W.nsIn K mainGlobals "_law_changed" = some (some (.ref f18)))
    (l18 : K.lookup f18 = some ⟨oc18, od18, .func (PySem.W.fnOf "_law_changed" "_law_changed" (defArgs s_law_changed) (defBody s_law_changed) (defScope s_law_changed) .none kV18 dc18 pm18 an18 cd18 ct18), sl18⟩) (c18 : PySem.W.codeIn K cd18 "_law_changed" = true) (k18 : PySem.W.keepIn K (.ref f18) = true)
    (a19 : PySem.W.nsIn K mainGlobals "_law_number" = some (some (.ref f19)))
    (l19 : K.lookup f19 = some ⟨oc19, od19, .func (PySem.W.fnOf "_law_number" "_law_number" (defArgs s_law_number) (defBody s_law_number) (defScope s_law_number) .none kV19 dc19 pm19 an19 cd19 ct19), sl19⟩) (c19 : PySem.W.codeIn K cd19 "_law_number" = true) (k19 : PySem.W.keepIn K (.ref f19) = true)
    (a20 : PySem.W.nsIn K mainGlobals "_law_bytes" = some (some (.ref f20)))
    (l20 : K.lookup f20 = some ⟨oc20, od20, .func (PySem.W.fnOf "_law_bytes" "_law_bytes" (defArgs s_law_bytes) (defBody s_law_bytes) (defScope s_law_bytes) .none kV20 dc20 pm20 an20 cd20 ct20), sl20⟩) (c20 : PySem.W.codeIn K cd20 "_law_bytes" = true) (k20 : PySem.W.keepIn K (.ref f20) = true)
    (a21 : PySem.W.nsIn K mainGlobals "_law_is_name" = some (some (.ref f21)))
    (l21 : K.lookup f21 = some ⟨oc21, od21, .func (PySem.W.fnOf "_law_is_name" "_law_is_name" (defArgs s_law_is_name) (defBody s_law_is_name) (defScope s_law_is_name) .none kV21 dc21 pm21 an21 cd21 ct21), sl21⟩) (c21 : PySem.W.codeIn K cd21 "_law_is_name" = true) (k21 : PySem.W.keepIn K (.ref f21) = true)
    (a22 : PySem.W.nsIn K mainGlobals "_law_words" = some (some (.ref f22)))
    (l22 : K.lookup f22 = some ⟨oc22, od22, .func (PySem.W.fnOf "_law_words" "_law_words" (defArgs s_law_words) (defBody s_law_words) (defScope s_law_words) .none kV22 dc22 pm22 an22 cd22 ct22), sl22⟩) (c22 : PySem.W.codeIn K cd22 "_law_words" = true) (k22 : PySem.W.keepIn K (.ref f22) = true)
    (a23 : PySem.W.nsIn K mainGlobals "_law_text" = some (some (.ref f23)))
    (l23 : K.lookup f23 = some ⟨oc23, od23, .func (PySem.W.fnOf "_law_text" "_law_text" (defArgs s_law_text) (defBody s_law_text) (defScope s_law_text) .none kV23 dc23 pm23 an23 cd23 ct23), sl23⟩) (c23 : PySem.W.codeIn K cd23 "_law_text" = true) (k23 : PySem.W.keepIn K (.ref f23) = true)
    (a24 : PySem.W.nsIn K mainGlobals "_law_read" = some (some (.ref f24)))
    (l24 : K.lookup f24 = some ⟨oc24, od24, .func (PySem.W.fnOf "_law_read" "_law_read" (defArgs s_law_read) (defBody s_law_read) (defScope s_law_read) .none kV24 dc24 pm24 an24 cd24 ct24), sl24⟩) (c24 : PySem.W.codeIn K cd24 "_law_read" = true) (k24 : PySem.W.keepIn K (.ref f24) = true)
    (a25 : PySem.W.nsIn K mainGlobals "_law_due" = some (some (.ref f25)))
    (l25 : K.lookup f25 = some ⟨oc25, od25, .func (PySem.W.fnOf "_law_due" "_law_due" (defArgs s_law_due) (defBody s_law_due) (defScope s_law_due) .none kV25 dc25 pm25 an25 cd25 ct25), sl25⟩) (c25 : PySem.W.codeIn K cd25 "_law_due" = true) (k25 : PySem.W.keepIn K (.ref f25) = true)
    (a26 : PySem.W.nsIn K mainGlobals "_law_told" = some (some (.ref f26)))
    (l26 : K.lookup f26 = some ⟨oc26, od26, .func (PySem.W.fnOf "_law_told" "_law_told" (defArgs s_law_told) (defBody s_law_told) (defScope s_law_told) .none kV26 dc26 pm26 an26 cd26 ct26), sl26⟩) (c26 : PySem.W.codeIn K cd26 "_law_told" = true) (k26 : PySem.W.keepIn K (.ref f26) = true)
    (a27 : PySem.W.nsIn K mainGlobals "law" = some (some (.ref f27)))
    (l27 : K.lookup f27 = some ⟨oc27, od27, .func (PySem.W.fnOf "law" "law" (defArgs s_law) (defBody s_law) (defScope s_law) .none kV27 dc27 pm27 an27 cd27 ct27), sl27⟩) (c27 : PySem.W.codeIn K cd27 "law" = true) (k27 : PySem.W.keepIn K (.ref f27) = true)
    (aC_CardError : PySem.W.nsIn K mainGlobals "CardError" = some (some (.ref c_CardError)))
    (aC_BadScript : PySem.W.nsIn K mainGlobals "BadScript" = some (some (.ref c_BadScript)))
    (aC_Unreadable : PySem.W.nsIn K mainGlobals "Unreadable" = some (some (.ref c_Unreadable)))
    (w1oe : K.lookup c_BadScript = some (excClassObj em0_BadScript em1_BadScript c_BadScript em2_BadScript em3_BadScript em4_BadScript true em5_BadScript em6_BadScript em7_BadScript em8_BadScript em9_BadScript em10_BadScript em11_BadScript em12_BadScript em13_BadScript em14_BadScript "ValueError.__new__"))
    (w2rv : PySem.HandSPX.refsVE em4_BadScript = true)
    (w3os : PySem.W.findIn K (.ref c_BadScript) "__setattr__" = some (some (.builtin "object.__setattr__")))
    (w4ob : PySem.W.subIn K (.ref c_BadScript) (.type "BaseException") = some true)
    (w5ot : PySem.W.typeIn K (.ref c_BadScript) = some (.type "type"))
    (w6ok : PySem.W.keepIn K (.ref c_BadScript) = true)
    (w7in : PySem.W.findIn K (.ref c_BadScript) "__init__" = some (some (.ref f0)))
    (w8ti : PySem.W.typeIn K (.ref f0) = some (.type "function"))
    (w9on : PySem.W.findIn K (.ref c_BadScript) "line" = some none)
    (w10on : PySem.W.findIn K (.ref c_BadScript) "reason" = some none)
    (w11xg : PySem.W.findIn K (.ref c_BadScript) "__getattribute__" = some (some (.builtin "BaseException.__getattribute__")))
    (w12xh : PySem.W.findIn K (.ref c_BadScript) "__getattr__" = some none)
    (w13xe : PySem.W.subIn K (.ref c_BadScript) (.type "BaseException") = some true)
    (w14xd : PySem.W.hasDictIn K c_BadScript = true)
    (w15eb : PySem.W.subIn K (.ref c_BadScript) (.type "BaseException") = some true)
    (w16ei : PySem.W.isClsIn K c_BadScript = true)
    (w17et : PySem.W.typeIn K (.ref c_BadScript) = some (.type "type"))
    (w18es : PySem.W.subIn K (.ref c_Unreadable) (.ref c_BadScript) = some false)
    (w19eb : PySem.W.subIn K (.ref c_BadScript) (.type "BaseException") = some true)
    (w20ei : PySem.W.isClsIn K c_BadScript = true)
    (w21et : PySem.W.typeIn K (.ref c_BadScript) = some (.type "type"))
    (w22es : PySem.W.subIn K (.ref c_BadScript) (.ref c_BadScript) = some true)
    (w23x : PySem.W.excIn K c_Unreadable [.type "Exception", .type "BaseException", .type "object"] "Exception.__new__" = true)
    (w24kx : PySem.W.keepIn K (.ref c_Unreadable) = true)
    (w25be : PySem.W.subIn K (.ref c_Unreadable) (.type "BaseException") = some true)
    (w26ty : PySem.W.typeIn K (.ref c_Unreadable) = some (.type "type"))
    (w27eb : PySem.W.subIn K (.ref c_Unreadable) (.type "BaseException") = some true)
    (w28ei : PySem.W.isClsIn K c_Unreadable = true)
    (w29et : PySem.W.typeIn K (.ref c_Unreadable) = some (.type "type"))
    (w30es : PySem.W.subIn K (.ref c_Unreadable) (.ref c_Unreadable) = some true)
    (w31eb : PySem.W.subIn K (.ref c_Unreadable) (.type "BaseException") = some true)
    (w32ei : PySem.W.isClsIn K c_Unreadable = true)
    (w33et : PySem.W.typeIn K (.ref c_Unreadable) = some (.type "type"))
    (w34es : PySem.W.subIn K (.ref c_BadScript) (.ref c_Unreadable) = some false)
    (z0 : PySem.W.nsIn K mainGlobals "all" = some none)
    (z1 : PySem.W.nsIn K mainGlobals "bool" = some none)
    (z2 : PySem.W.nsIn K mainGlobals "int" = some none)
    (z3 : PySem.W.nsIn K mainGlobals "isinstance" = some none)
    (z4 : PySem.W.nsIn K mainGlobals "len" = some none)
    (z5 : PySem.W.nsIn K mainGlobals "max" = some none)
    (z6 : PySem.W.nsIn K mainGlobals "min" = some none)
    (z7 : PySem.W.nsIn K mainGlobals "ord" = some none)
    (z8 : PySem.W.nsIn K mainGlobals "range" = some none)
    (z9 : PySem.W.nsIn K mainGlobals "str" = some none)
    (z10 : PySem.W.nsIn K mainGlobals "tuple" = some none)
    (y0 : PySem.W.nsIn K mainGlobals "MOST_NAME" = some (some (.int (20) tk0)))
    (y1 : PySem.W.nsIn K mainGlobals "MOST_TEXT" = some (some (.int (16) tk1)))
    (y2 : PySem.W.nsIn K mainGlobals "MOST_BUFFER" = some (some (.int (64) tk2)))
    (y3 : PySem.W.nsIn K mainGlobals "LETTERS" = some (some (.str "ABCDEFGHIJKLMNOPQRSTUVWXYZabcdefghijklmnopqrstuvwxyz" tk3)))
    (y4 : PySem.W.nsIn K mainGlobals "DIGITS" = some (some (.str "0123456789" tk4)))
    (y5 : PySem.W.nsIn K mainGlobals "MOST_NUMBER" = some (some (.int (9999) tk5))) :
    ∃ fd : FuncData, (∀ (s : Shared) (v : Value), BindsTo s fd ⟨[v], []⟩ [("_law_script", v)]) ∧ ∀ base : Heap, K.In base → base.Ns mainGlobals mg → FnOk l.prog w K mg base CX0 8 fa fd ["_law_script"] (sp_law K) := by
  have e := hfa.symm.trans (PySem.W.mg_of X G a27)
  cases e
  let T : Txt K mg := {
    f_BadScript_init := f0,
    d_BadScript_init := _,
    k_BadScript_init := (fun_mk (st := s_BadScript_init) l0 c0 k0),
    b_BadScript_init := (Fun.binds (ps := ["self", "line", "reason"]) (fun_mk (st := s_BadScript_init) l0 c0 k0) fun _ _ _ _ _ _ us hl => match us, hl with | [_, _, _], _ => rfl),
    f_is_integer := f1,
    d_is_integer := _,
    k_is_integer := (fun_mk (st := s_is_integer) l1 c1 k1),
    b_is_integer := (Fun.binds (ps := ["value", "least", "greatest"]) (fun_mk (st := s_is_integer) l1 c1 k1) fun _ _ _ _ _ _ us hl => match us, hl with | [_, _, _], _ => rfl),
    g_is_integer := PySem.W.mg_of X G a1,
    f_is_printable := f2,
    d_is_printable := _,
    k_is_printable := (fun_mk (st := s_is_printable) l2 c2 k2),
    b_is_printable := (Fun.binds (ps := ["value"]) (fun_mk (st := s_is_printable) l2 c2 k2) fun _ _ _ _ _ _ us hl => match us, hl with | [_], _ => rfl),
    g_is_printable := PySem.W.mg_of X G a2,
    f_is_name := f3,
    d_is_name := _,
    k_is_name := (fun_mk (st := s_is_name) l3 c3 k3),
    b_is_name := (Fun.binds (ps := ["value"]) (fun_mk (st := s_is_name) l3 c3 k3) fun _ _ _ _ _ _ us hl => match us, hl with | [_], _ => rfl),
    g_is_name := PySem.W.mg_of X G a3,
    f_is_text := f4,
    d_is_text := _,
    k_is_text := (fun_mk (st := s_is_text) l4 c4 k4),
    b_is_text := (Fun.binds (ps := ["value"]) (fun_mk (st := s_is_text) l4 c4 k4) fun _ _ _ _ _ _ us hl => match us, hl with | [_], _ => rfl),
    g_is_text := PySem.W.mg_of X G a4,
    f_must := f5,
    d_must := _,
    k_must := (fun_mk (st := s_must) l5 c5 k5),
    b_must := (Fun.binds (ps := ["condition"]) (fun_mk (st := s_must) l5 c5 k5) fun _ _ _ _ _ _ us hl => match us, hl with | [_], _ => rfl),
    g_must := PySem.W.mg_of X G a5,
    f_number_of := f6,
    d_number_of := _,
    k_number_of := (fun_mk (st := s_number_of) l6 c6 k6),
    b_number_of := (Fun.binds (ps := ["word", "most"]) (fun_mk (st := s_number_of) l6 c6 k6) fun _ _ _ _ _ _ us hl => match us, hl with | [_, _], _ => rfl),
    g_number_of := PySem.W.mg_of X G a6,
    f_name_of := f7,
    d_name_of := _,
    k_name_of := (fun_mk (st := s_name_of) l7 c7 k7),
    b_name_of := (Fun.binds (ps := ["word"]) (fun_mk (st := s_name_of) l7 c7 k7) fun _ _ _ _ _ _ us hl => match us, hl with | [_], _ => rfl),
    g_name_of := PySem.W.mg_of X G a7,
    f_data_of := f8,
    d_data_of := _,
    k_data_of := (fun_mk (st := s_data_of) l8 c8 k8),
    b_data_of := (Fun.binds (ps := ["word"]) (fun_mk (st := s_data_of) l8 c8 k8) fun _ _ _ _ _ _ us hl => match us, hl with | [_], _ => rfl),
    g_data_of := PySem.W.mg_of X G a8,
    f_named_call := f9,
    d_named_call := _,
    k_named_call := (fun_mk (st := s_named_call) l9 c9 k9),
    b_named_call := (Fun.binds (ps := ["line"]) (fun_mk (st := s_named_call) l9 c9 k9) fun _ _ _ _ _ _ us hl => match us, hl with | [_], _ => rfl),
    g_named_call := PySem.W.mg_of X G a9,
    f_call_of := f10,
    d_call_of := _,
    k_call_of := (fun_mk (st := s_call_of) l10 c10 k10),
    b_call_of := (Fun.binds (ps := ["line"]) (fun_mk (st := s_call_of) l10 c10 k10) fun _ _ _ _ _ _ us hl => match us, hl with | [_], _ => rfl),
    g_call_of := PySem.W.mg_of X G a10,
    f_parse_script := f11,
    d_parse_script := _,
    k_parse_script := (fun_mk (st := s_parse_script) l11 c11 k11),
    b_parse_script := (Fun.binds (ps := ["text"]) (fun_mk (st := s_parse_script) l11 c11 k11) fun _ _ _ _ _ _ us hl => match us, hl with | [_], _ => rfl),
    g_parse_script := PySem.W.mg_of X G a11,
    f_law_bag := f12,
    d_law_bag := _,
    k_law_bag := (fun_mk (st := s_law_bag) l12 c12 k12),
    b_law_bag := (Fun.binds (ps := ["_law_script", "_law_k"]) (fun_mk (st := s_law_bag) l12 c12 k12) fun _ _ _ _ _ _ us hl => match us, hl with | [_, _], _ => rfl),
    g_law_bag := PySem.W.mg_of X G a12,
    f_law_draw := f13,
    d_law_draw := _,
    k_law_draw := (fun_mk (st := s_law_draw) l13 c13 k13),
    b_law_draw := (Fun.binds (ps := ["_law_bag_here", "_law_many"]) (fun_mk (st := s_law_draw) l13 c13 k13) fun _ _ _ _ _ _ us hl => match us, hl with | [_, _], _ => rfl),
    g_law_draw := PySem.W.mg_of X G a13,
    f_law_number_text := f14,
    d_law_number_text := _,
    k_law_number_text := (fun_mk (st := s_law_number_text) l14 c14 k14),
    b_law_number_text := (Fun.binds (ps := ["_law_bag_here"]) (fun_mk (st := s_law_number_text) l14 c14 k14) fun _ _ _ _ _ _ us hl => match us, hl with | [_], _ => rfl),
    g_law_number_text := PySem.W.mg_of X G a14,
    f_law_bytes_text := f15,
    d_law_bytes_text := _,
    k_law_bytes_text := (fun_mk (st := s_law_bytes_text) l15 c15 k15),
    b_law_bytes_text := (Fun.binds (ps := ["_law_bag_here"]) (fun_mk (st := s_law_bytes_text) l15 c15 k15) fun _ _ _ _ _ _ us hl => match us, hl with | [_], _ => rfl),
    g_law_bytes_text := PySem.W.mg_of X G a15,
    f_law_name_text := f16,
    d_law_name_text := _,
    k_law_name_text := (fun_mk (st := s_law_name_text) l16 c16 k16),
    b_law_name_text := (Fun.binds (ps := ["_law_bag_here"]) (fun_mk (st := s_law_name_text) l16 c16 k16) fun _ _ _ _ _ _ us hl => match us, hl with | [_], _ => rfl),
    g_law_name_text := PySem.W.mg_of X G a16,
    f_law_line := f17,
    d_law_line := _,
    k_law_line := (fun_mk (st := s_law_line) l17 c17 k17),
    b_law_line := (Fun.binds (ps := ["_law_bag_here"]) (fun_mk (st := s_law_line) l17 c17 k17) fun _ _ _ _ _ _ us hl => match us, hl with | [_], _ => rfl),
    g_law_line := PySem.W.mg_of X G a17,
    f_law_changed := f18,
    d_law_changed := _,
    k_law_changed := (fun_mk (st := s_law_changed) l18 c18 k18),
    b_law_changed := (Fun.binds (ps := ["_law_bag_here", "_law_text_here"]) (fun_mk (st := s_law_changed) l18 c18 k18) fun _ _ _ _ _ _ us hl => match us, hl with | [_, _], _ => rfl),
    g_law_changed := PySem.W.mg_of X G a18,
    f_law_number := f19,
    d_law_number := _,
    k_law_number := (fun_mk (st := s_law_number) l19 c19 k19),
    b_law_number := (Fun.binds (ps := ["_law_word", "_law_most"]) (fun_mk (st := s_law_number) l19 c19 k19) fun _ _ _ _ _ _ us hl => match us, hl with | [_, _], _ => rfl),
    g_law_number := PySem.W.mg_of X G a19,
    f_law_bytes := f20,
    d_law_bytes := _,
    k_law_bytes := (fun_mk (st := s_law_bytes) l20 c20 k20),
    b_law_bytes := (Fun.binds (ps := ["_law_word"]) (fun_mk (st := s_law_bytes) l20 c20 k20) fun _ _ _ _ _ _ us hl => match us, hl with | [_], _ => rfl),
    g_law_bytes := PySem.W.mg_of X G a20,
    f_law_is_name := f21,
    d_law_is_name := _,
    k_law_is_name := (fun_mk (st := s_law_is_name) l21 c21 k21),
    b_law_is_name := (Fun.binds (ps := ["_law_word"]) (fun_mk (st := s_law_is_name) l21 c21 k21) fun _ _ _ _ _ _ us hl => match us, hl with | [_], _ => rfl),
    g_law_is_name := PySem.W.mg_of X G a21,
    f_law_words := f22,
    d_law_words := _,
    k_law_words := (fun_mk (st := s_law_words) l22 c22 k22),
    b_law_words := (Fun.binds (ps := ["_law_line_here"]) (fun_mk (st := s_law_words) l22 c22 k22) fun _ _ _ _ _ _ us hl => match us, hl with | [_], _ => rfl),
    g_law_words := PySem.W.mg_of X G a22,
    f_law_text := f23,
    d_law_text := _,
    k_law_text := (fun_mk (st := s_law_text) l23 c23 k23),
    b_law_text := (Fun.binds (ps := ["_law_word"]) (fun_mk (st := s_law_text) l23 c23 k23) fun _ _ _ _ _ _ us hl => match us, hl with | [_], _ => rfl),
    g_law_text := PySem.W.mg_of X G a23,
    f_law_read := f24,
    d_law_read := _,
    k_law_read := (fun_mk (st := s_law_read) l24 c24 k24),
    b_law_read := (Fun.binds (ps := ["_law_line_here"]) (fun_mk (st := s_law_read) l24 c24 k24) fun _ _ _ _ _ _ us hl => match us, hl with | [_], _ => rfl),
    g_law_read := PySem.W.mg_of X G a24,
    f_law_due := f25,
    d_law_due := _,
    k_law_due := (fun_mk (st := s_law_due) l25 c25 k25),
    b_law_due := (Fun.binds (ps := ["_law_text_here"]) (fun_mk (st := s_law_due) l25 c25 k25) fun _ _ _ _ _ _ us hl => match us, hl with | [_], _ => rfl),
    g_law_due := PySem.W.mg_of X G a25,
    f_law_told := f26,
    d_law_told := _,
    k_law_told := (fun_mk (st := s_law_told) l26 c26 k26),
    b_law_told := (Fun.binds (ps := ["_law_text_here"]) (fun_mk (st := s_law_told) l26 c26 k26) fun _ _ _ _ _ _ us hl => match us, hl with | [_], _ => rfl),
    g_law_told := PySem.W.mg_of X G a26,
    f_law := fa,
    d_law := _,
    k_law := (fun_mk (st := s_law) l27 c27 k27),
    b_law := (Fun.binds (ps := ["_law_script"]) (fun_mk (st := s_law) l27 c27 k27) fun _ _ _ _ _ _ us hl => match us, hl with | [_], _ => rfl),
    g_law := PySem.W.mg_of X G a27,
    c_CardError := c_CardError,
    g_CardError := PySem.W.mg_of X G aC_CardError,
    c_BadScript := c_BadScript,
    g_BadScript := PySem.W.mg_of X G aC_BadScript,
    c_Unreadable := c_Unreadable,
    g_Unreadable := PySem.W.mg_of X G aC_Unreadable,
    ox_BadScript := ⟨⟨_, _, _, _, _, _, _, _, _, _, _, _, _, _, _, w1oe, w2rv⟩, w3os, w4ob, w5ot, w6ok⟩,
    in_BadScript := w7in,
    ti_BadScript := w8ti,
    on_BadScript_line := w9on,
    on_BadScript_reason := w10on,
    xf_BadScript := ⟨w11xg, w12xh, w13xe, w14xd⟩,
    ex_Unreadable_BadScript := exm_two w15eb w16ei w17et w18es,
    ex_BadScript_BadScript := exm_two w19eb w20ei w21et w22es,
    x_Unreadable := ⟨w23x, w24kx, w25be, w26ty⟩,
    ex_Unreadable_Unreadable := exm_two w27eb w28ei w29et w30es,
    ex_BadScript_Unreadable := exm_two w31eb w32ei w33et w34es,
    m_all := PySem.W.mg_none_of X G z0,
    m_bool := PySem.W.mg_none_of X G z1,
    m_int := PySem.W.mg_none_of X G z2,
    m_isinstance := PySem.W.mg_none_of X G z3,
    m_len := PySem.W.mg_none_of X G z4,
    m_max := PySem.W.mg_none_of X G z5,
    m_min := PySem.W.mg_none_of X G z6,
    m_ord := PySem.W.mg_none_of X G z7,
    m_range := PySem.W.mg_none_of X G z8,
    m_str := PySem.W.mg_none_of X G z9,
    m_tuple := PySem.W.mg_none_of X G z10,
    t_MOST_NAME := tk0,
    g_MOST_NAME := PySem.W.mg_of X G y0,
    t_MOST_TEXT := tk1,
    g_MOST_TEXT := PySem.W.mg_of X G y1,
    t_MOST_BUFFER := tk2,
    g_MOST_BUFFER := PySem.W.mg_of X G y2,
    t_LETTERS := tk3,
    g_LETTERS := PySem.W.mg_of X G y3,
    t_DIGITS := tk4,
    g_DIGITS := PySem.W.mg_of X G y4,
    t_MOST_NUMBER := tk5,
    g_MOST_NUMBER := PySem.W.mg_of X G y5 }
  exact ⟨T.d_law, fun s v => .of_eq rfl, fun base _ _ => ok_law T⟩
end
end My
open PySem PySem.W PyProof.Rows
set_option maxHeartbeats 0 in
theorem PySem.Challenge.cw_warycard_k90_scripts_holds : PySem.Challenge.rw_warycard_k90_scripts.Holds := by
  w_on; o_law; k_head; (case hw => w_witness2)
  k_fill
  refine L2.walk_of (l := PySem.Challenge.rw_warycard_k90_scripts) (n := 63) (k := 8) (x := "_law_script") (CX := fun _ => L2.CX0) (sp := fun w => My.sp_law _) rfl (by decide) rfl ⟨rfl, by decide, by decide⟩ (fun w h Y => PySem.W.kIn_of Y) ?F (fun _ _ a ns hl _ hS => ⟨a, ns, rfl, hS, hl, fun _ => rfl⟩) (fun _ _ _ _ _ h => h)
  case F =>
    intro w mg fa h KX G hmg
    refine' My.all_mk KX G hmg ?l0 ?c0 ?k0 ?a1 ?l1 ?c1 ?k1 ?a2 ?l2 ?c2 ?k2 ?a3 ?l3 ?c3 ?k3 ?a4 ?l4 ?c4 ?k4 ?a5 ?l5 ?c5 ?k5 ?a6 ?l6 ?c6 ?k6 ?a7 ?l7 ?c7 ?k7 ?a8 ?l8 ?c8 ?k8 ?a9 ?l9 ?c9 ?k9 ?a10 ?l10 ?c10 ?k10 ?a11 ?l11 ?c11 ?k11 ?a12 ?l12 ?c12 ?k12 ?a13 ?l13 ?c13 ?k13 ?a14 ?l14 ?c14 ?k14 ?a15 ?l15 ?c15 ?k15 ?a16 ?l16 ?c16 ?k16 ?a17 ?l17 ?c17 ?k17 ?a18 ?l18 ?c18 ?k18 ?a19 ?l19 ?c19 ?k19 ?a20 ?l20 ?c20 ?k20 ?a21 ?l21 ?c21 ?k21 ?a22 ?l22 ?c22 ?k22 ?a23 ?l23 ?c23 ?k23 ?a24 ?l24 ?c24 ?k24 ?a25 ?l25 ?c25 ?k25 ?a26 ?l26 ?c26 ?k26 ?a27 ?l27 ?c27 ?k27 ?aC_CardError ?aC_BadScript ?aC_Unreadable ?w1oe ?w2rv ?w3os ?w4ob ?w5ot ?w6ok ?w7in ?w8ti ?w9on ?w10on ?w11xg ?w12xh ?w13xe ?w14xd ?w15eb ?w16ei ?w17et ?w18es ?w19eb ?w20ei ?w21et ?w22es ?w23x ?w24kx ?w25be ?w26ty ?w27eb ?w28ei ?w29et ?w30es ?w31eb ?w32ei ?w33et ?w34es ?z0 ?z1 ?z2 ?z3 ?z4 ?z5 ?z6 ?z7 ?z8 ?z9 ?z10 ?y0 ?y1 ?y2 ?y3 ?y4 ?y5
    (case a1 => k_is); (case a2 => k_is); (case a3 => k_is); (case a4 => k_is); (case a5 => k_is); (case a6 => k_is); (case a7 => k_is); (case a8 => k_is); (case a9 => k_is); (case a10 => k_is); (case a11 => k_is); (case a12 => k_is); (case a13 => k_is); (case a14 => k_is); (case a15 => k_is); (case a16 => k_is); (case a17 => k_is); (case a18 => k_is); (case a19 => k_is); (case a20 => k_is); (case a21 => k_is); (case a22 => k_is); (case a23 => k_is); (case a24 => k_is); (case a25 => k_is); (case a26 => k_is); (case a27 => k_is); (case aC_CardError => k_is); (case aC_BadScript => k_is); (case aC_Unreadable => k_is); (case z0 => k_is); (case z1 => k_is); (case z2 => k_is); (case z3 => k_is); (case z4 => k_is); (case z5 => k_is); (case z6 => k_is); (case z7 => k_is); (case z8 => k_is); (case z9 => k_is); (case z10 => k_is); (case y0 => k_is); (case y1 => k_is); (case y2 => k_is); (case y3 => k_is); (case y4 => k_is); (case y5 => k_is); (case w7in => k_is); (case l0 => k_is); (case l1 => k_is); (case l2 => k_is); (case l3 => k_is); (case l4 => k_is); (case l5 => k_is); (case l6 => k_is); (case l7 => k_is); (case l8 => k_is); (case l9 => k_is); (case l10 => k_is); (case l11 => k_is); (case l12 => k_is); (case l13 => k_is); (case l14 => k_is); (case l15 => k_is); (case l16 => k_is); (case l17 => k_is); (case l18 => k_is); (case l19 => k_is); (case l20 => k_is); (case l21 => k_is); (case l22 => k_is); (case l23 => k_is); (case l24 => k_is); (case l25 => k_is); (case l26 => k_is); (case l27 => k_is); (case w1oe => k_is); (case c0 => k_is); (case k0 => k_is); (case c1 => k_is); (case k1 => k_is); (case c2 => k_is); (case k2 => k_is); (case c3 => k_is); (case k3 => k_is); (case c4 => k_is); (case k4 => k_is); (case c5 => k_is); (case k5 => k_is); (case c6 => k_is); (case k6 => k_is); (case c7 => k_is); (case k7 => k_is); (case c8 => k_is); (case k8 => k_is); (case c9 => k_is); (case k9 => k_is); (case c10 => k_is); (case k10 => k_is); (case c11 => k_is); (case k11 => k_is); (case c12 => k_is); (case k12 => k_is); (case c13 => k_is); (case k13 => k_is); (case c14 => k_is); (case k14 => k_is); (case c15 => k_is); (case k15 => k_is); (case c16 => k_is); (case k16 => k_is); (case c17 => k_is); (case k17 => k_is); (case c18 => k_is); (case k18 => k_is); (case c19 => k_is); (case k19 => k_is); (case c20 => k_is); (case k20 => k_is); (case c21 => k_is); (case k21 => k_is); (case c22 => k_is); (case k22 => k_is); (case c23 => k_is); (case k23 => k_is); (case c24 => k_is); (case k24 => k_is); (case c25 => k_is); (case k25 => k_is); (case c26 => k_is); (case k26 => k_is); (case c27 => k_is); (case k27 => k_is); (case w2rv => rfl); (case w3os => k_is); (case w4ob => k_is); (case w5ot => k_is); (case w6ok => k_is); (case w8ti => k_is); (case w9on => k_is); (case w10on => k_is); (case w11xg => k_is); (case w12xh => k_is); (case w13xe => k_is); (case w14xd => k_is); (case w15eb => k_is); (case w16ei => k_is); (case w17et => k_is); (case w18es => first | rfl | k_is); (case w19eb => k_is); (case w20ei => k_is); (case w21et => k_is); (case w22es => first | rfl | k_is); (case w23x => k_exc); (case w24kx => k_is); (case w25be => k_is); (case w26ty => k_is); (case w27eb => k_is); (case w28ei => k_is); (case w29et => k_is); (case w30es => first | rfl | k_is); (case w31eb => k_is); (case w32ei => k_is); (case w33et => k_is); (case w34es => first | rfl | k_is)
#print axioms PySem.Challenge.cw_warycard_k90_scripts_holds
