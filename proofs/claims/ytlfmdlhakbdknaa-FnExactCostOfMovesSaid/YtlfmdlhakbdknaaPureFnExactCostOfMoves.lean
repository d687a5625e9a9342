/- The program's CostOfMoves returns what the reference's returns, for all arguments. It has no conditions. -/
import Derived.Test.YtlfmdlhakbdknaaPFnExactCostOfMovesx3
namespace Go.Proofs.Ytlfmdlhakbdknaa.Pure
open Go.RowKit Go.Proofs.Ytlfmdlhakbdknaa.PFnExactCostOfMoves Go.Proofs.YtlfmdlhakbdknaaW.PrintWords Go.Proofs.YtlfmdlhakbdknaaW.PrintLast
set_option linter.unusedVariables false
set_option linter.unusedSimpArgs false

/-! ### small words -/
theorem w64 (n : Int) (h1 : -9223372036854775808 ≤ n) (h2 : n ≤ 9223372036854775807) : wrap64 n = n := by unfold wrap64; omega
theorem w64s (i : Nat) (h : i < 9223372036854775807) : wrap64 ((i : Int) + 1) = ((i + 1 : Nat) : Int) := by unfold wrap64; omega
theorem rd_at (l : List Int) (i : Nat) (h : i < l.length) : rd l (i : Int) = l[i] := by simp [rd, List.getD_eq_getElem?_getD, List.getElem?_eq_getElem h]
theorem wf64 {x : Int} (h : (Lit.int .i64 x).wf = true) : -9223372036854775808 ≤ x ∧ x ≤ 9223372036854775807 := by
  simp [Lit.wf, IntKind.min, IntKind.max, IntKind.bits, IntKind.signed] at h
  omega
def mconv (x : S57) : S54 := ⟨x.f0, x.f1, x.f2⟩
theorem rdL_at (l : List S57) (i : Nat) (h : i < l.length) : rd_T57 l (i : Int) = l[i] := by simp [rd_T57, List.getD_eq_getElem?_getD, List.getElem?_eq_getElem h]
theorem laws_toMoveS.l0ev (l : List S57) (hl : l.length ≤ 1048576) (d : Nat) : ∀ i, i + d = l.length → Ev (fun k => laws_toMoveS.l0 k l ((l.take i).map mconv ++ List.replicate d z54) i) (l.map mconv) := by
  induction d with
  | zero =>
    intro i hi
    refine Ev.step (f := fun _ => some (l.map mconv)) (fun k => ?_) (Ev.now _)
    simp only [laws_toMoveS.l0]
    rw [if_neg (by omega)]
    simp [List.take_of_length_le (show l.length ≤ i by omega)]
  | succ d ih =>
    intro i hi
    refine Ev.step (f := fun k => laws_toMoveS.l0 k l ((l.take (i + 1)).map mconv ++ List.replicate d z54) ((i + 1 : Nat) : Int)) (fun k => ?_) (ih (i + 1) (by omega))
    simp only [laws_toMoveS.l0, laws_toMove.f, Option.bind_some]
    rw [if_pos (by omega), if_pos (by omega), if_pos (by simp; omega), w64s i (by omega), rdL_at l i (by omega)]
    congr 1
    rw [show ((i : Int)).toNat = i by omega, List.set_append_right _ _ (by simp; omega), List.replicate_succ, List.length_map, List.length_take, show i - min i l.length = 0 by omega, List.set_cons_zero, List.take_succ_eq_append_getElem (show i < l.length by omega)]
    simp only [List.map_append, List.map_cons, List.map_nil, List.append_assoc, List.cons_append, List.nil_append]
    rfl
theorem laws_toMoveS.ev (l : List S57) (hl : l.length ≤ 1048576) : Ev (fun k => laws_toMoveS.f k l) (l.map mconv) := by
  have h := laws_toMoveS.l0ev l hl l.length 0 (by omega)
  unfold laws_toMoveS.f
  simp only [if_pos (show (0 : Int) ≤ (l.length : Int) by omega), if_pos (show (l.length : Int).toNat ≤ 11728124029610 by omega)]
  simpa using h
theorem laws_eqMoveS.l0ev (l : List S54) (hl : l.length ≤ 1048576) (d : Nat) : ∀ i, i + d = l.length → Ev (fun k => laws_eqMoveS.l0 k l l i) true := by
  induction d with
  | zero =>
    intro i hi
    refine Ev.step (f := fun _ => some true) (fun k => ?_) (Ev.now _)
    simp only [laws_eqMoveS.l0]
    rw [if_neg (by omega)]
  | succ d ih =>
    intro i hi
    refine Ev.step (f := fun k => laws_eqMoveS.l0 k l l ((i + 1 : Nat) : Int)) (fun k => ?_) (ih (i + 1) (by omega))
    simp only [laws_eqMoveS.l0, laws_eqMove.f, if_true, Option.bind_some]
    rw [if_pos (by omega), if_pos (by omega), if_pos (by omega), w64s i (by omega)]
theorem laws_eqMoveS.ev (l : List S54) (hl : l.length ≤ 1048576) : Ev (fun k => laws_eqMoveS.f k l l) true := by
  unfold laws_eqMoveS.f
  simp only [if_true]
  exact laws_eqMoveS.l0ev l hl l.length 0 (by omega)
theorem spec_l1In.is (x a b : Int) : spec_l1In.f x a b = some (decide (a ≤ x) && decide (x ≤ b)) := by
  unfold spec_l1In.f
  by_cases h : x ≥ a
  · simp [h, show a ≤ x from h]
  · simp [h, show ¬ a ≤ x from h]
theorem impl_within.is (x a b : Int) : impl_within.f x a b = some (decide (a ≤ x) && decide (x ≤ b)) := by
  unfold impl_within.f
  by_cases h : x ≥ a
  · simp [h, show a ≤ x from h]
  · simp [h, show ¬ a ≤ x from h]
/-- A number without its sign, as both make it. -/
def absw (x : Int) : Int := mx x (wrap64 (-x))
theorem spec_l1Abs.is (x : Int) : spec_l1Abs.f x = some (absw x) := by
  unfold spec_l1Abs.f spec_l1Most.f absw mx
  by_cases h : x > wrap64 (-x)
  · rw [if_pos h]; simp only [Option.bind_some]; congr 1; omega
  · rw [if_neg h]; simp only [Option.bind_some]; congr 1; omega
def costR : List S54 → Int → Int × Bool
  | [], a => (a, true)
  | m :: ms, a => if (decide (0 ≤ m.f0) && decide (m.f0 ≤ 11)) = true ∧ (decide (0 ≤ m.f1) && decide (m.f1 ≤ 11)) = true ∧ ¬ m.f0 = m.f1 ∧ (decide (1 ≤ m.f2) && decide (m.f2 ≤ 1000)) = true then
      costR ms (wrap64 (a + wrap64 (m.f2 * absw (wrap64 (m.f0 - m.f1))))) else (0, false)
theorem rdM_app (done : List S54) (x : S54) (xs : List S54) : rd_T54 (done ++ x :: xs) (done.length : Int) = x := by simp [rd_T54]
theorem spec_CostOfMoves.l0ev (n : Int) (hn : n ≤ 1048576) : ∀ (tl done : List S54) (a : Int), ((done ++ tl).length : Int) = n → Ev (fun k => spec_CostOfMoves.l0 k a (done ++ tl) n done.length) (costR tl a) := by
  intro tl
  induction tl with
  | nil =>
    intro done a hd
    refine Ev.step (f := fun _ => some (a, true)) (fun k => ?_) (Ev.now _)
    simp only [spec_CostOfMoves.l0]
    simp at hd
    rw [if_neg (by omega)]
  | cons m ms ih =>
    intro done a hd
    have hd' : (done.length : Int) + (ms.length + 1) = n := by simpa using hd
    by_cases c : (decide (0 ≤ m.f0) && decide (m.f0 ≤ 11)) = true ∧ (decide (0 ≤ m.f1) && decide (m.f1 ≤ 11)) = true ∧ ¬ m.f0 = m.f1 ∧ (decide (1 ≤ m.f2) && decide (m.f2 ≤ 1000)) = true
    · have h := ih (done ++ [m]) (wrap64 (a + wrap64 (m.f2 * absw (wrap64 (m.f0 - m.f1))))) (by simp; omega)
      refine Ev.step (f := fun k => spec_CostOfMoves.l0 k (wrap64 (a + wrap64 (m.f2 * absw (wrap64 (m.f0 - m.f1))))) (done ++ [m] ++ ms) n ((done ++ [m]).length : Int)) (fun k => ?_) (by rw [costR, if_pos c]; exact h)
      obtain ⟨c0, c1, c2, c3⟩ := c
      simp only [spec_CostOfMoves.l0, rdM_app, spec_l1In.is, spec_l1Abs.is, Option.bind_some, c0, c1, c3, if_true]
      rw [if_pos (by omega), if_pos (by omega), if_pos (by simp; omega), if_neg c2, w64s done.length (by omega)]
      simp
    · refine Ev.step (f := fun _ => some (0, false)) (fun k => ?_) (by rw [costR, if_neg c]; exact Ev.now _)
      simp only [spec_CostOfMoves.l0, rdM_app, spec_l1In.is, spec_l1Abs.is, Option.bind_some]
      rw [if_pos (by omega), if_pos (by omega), if_pos (by simp; omega)]
      by_cases c0 : (decide (0 ≤ m.f0) && decide (m.f0 ≤ 11)) = true
      · by_cases c1 : (decide (0 ≤ m.f1) && decide (m.f1 ≤ 11)) = true
        · by_cases c2 : m.f0 = m.f1
          · rw [if_pos c0, if_pos c1, if_pos c2]
          · rw [if_pos c0, if_pos c1, if_neg c2, if_neg (fun c3 => c ⟨c0, c1, c2, c3⟩)]
        · rw [if_pos c0, if_neg c1]
      · rw [if_neg c0]
theorem impl_CostOfMoves.l0ev (n : Int) (hn : n ≤ 1048576) : ∀ (tl done : List S54) (a : Int), ((done ++ tl).length : Int) = n → Ev (fun k => impl_CostOfMoves.l0 k a (done ++ tl) n done.length) (costR tl a) := by
  intro tl
  induction tl with
  | nil =>
    intro done a hd
    refine Ev.step (f := fun _ => some (a, true)) (fun k => ?_) (Ev.now _)
    simp only [impl_CostOfMoves.l0]
    simp at hd
    rw [if_neg (by omega)]
  | cons m ms ih =>
    intro done a hd
    have hd' : (done.length : Int) + (ms.length + 1) = n := by simpa using hd
    by_cases c : (decide (0 ≤ m.f0) && decide (m.f0 ≤ 11)) = true ∧ (decide (0 ≤ m.f1) && decide (m.f1 ≤ 11)) = true ∧ ¬ m.f0 = m.f1 ∧ (decide (1 ≤ m.f2) && decide (m.f2 ≤ 1000)) = true
    · have h := ih (done ++ [m]) (wrap64 (a + wrap64 (m.f2 * absw (wrap64 (m.f0 - m.f1))))) (by simp; omega)
      refine Ev.step (f := fun k => impl_CostOfMoves.l0 k (wrap64 (a + wrap64 (m.f2 * absw (wrap64 (m.f0 - m.f1))))) (done ++ [m] ++ ms) n ((done ++ [m]).length : Int)) (fun k => ?_) (by rw [costR, if_pos c]; exact h)
      obtain ⟨c0, c1, c2, c3⟩ := c
      simp only [impl_CostOfMoves.l0, rdM_app, impl_within.is, impl_size.f, Option.bind_some, c0, c1, c3, if_true]
      rw [if_pos (by omega), if_pos (by omega), if_pos (by simp; omega), if_neg c2, w64s done.length (by omega)]
      simp [absw]
    · refine Ev.step (f := fun _ => some (0, false)) (fun k => ?_) (by rw [costR, if_neg c]; exact Ev.now _)
      simp only [impl_CostOfMoves.l0, rdM_app, impl_within.is, impl_size.f, Option.bind_some]
      rw [if_pos (by omega), if_pos (by omega), if_pos (by simp; omega)]
      by_cases c0 : (decide (0 ≤ m.f0) && decide (m.f0 ≤ 11)) = true
      · by_cases c1 : (decide (0 ≤ m.f1) && decide (m.f1 ≤ 11)) = true
        · by_cases c2 : m.f0 = m.f1
          · rw [if_pos c0, if_pos c1, if_pos c2]
          · rw [if_pos c0, if_pos c1, if_neg c2, if_neg (fun c3 => c ⟨c0, c1, c2, c3⟩)]
        · rw [if_pos c0, if_neg c1]
      · rw [if_neg c0]
def costAll (l : List S54) : Int × Bool := if (l.length : Int) > 100 then (0, false) else costR l 0
theorem spec_CostOfMoves.ev (l : List S54) (hl : l.length ≤ 1048576) : Ev (fun k => spec_CostOfMoves.f k l) (costAll l) := by
  unfold spec_CostOfMoves.f costAll
  by_cases h : (l.length : Int) > 100
  · simp only [if_pos h]; exact Ev.now _
  · simp only [if_neg h]
    have := spec_CostOfMoves.l0ev l.length (by omega) l [] 0 (by simp)
    simpa using this
theorem impl_CostOfMoves.ev (l : List S54) (hl : l.length ≤ 1048576) : Ev (fun k => impl_CostOfMoves.f k l) (costAll l) := by
  unfold impl_CostOfMoves.f costAll
  by_cases h : (l.length : Int) > 100
  · simp only [if_pos h]; exact Ev.now _
  · simp only [if_neg h]
    have := impl_CostOfMoves.l0ev l.length (by omega) l [] 0 (by simp)
    simpa using this
theorem FnExactCostOfMoves : laws_FnExactCostOfMoves.Pure := by
  intro l hm _
  have hm' : l.length ≤ 9223372036854775807 := hm
  have e0 : wrap64 (1048576 - (l.length : Int)) = 1048576 - (l.length : Int) := w64 _ (by omega) (by omega)
  by_cases hl : (l.length : Int) > 1048576
  · refine ⟨0, ?_⟩
    simp only [laws_FnExactCostOfMoves.f, laws_szMoveS.f, e0, if_pos (show 1048576 - (l.length : Int) < 0 by omega), Option.bind_some]
    simp
  obtain ⟨K1, h1⟩ := laws_toMoveS.ev l (by omega)
  obtain ⟨K2, h2⟩ := spec_CostOfMoves.ev (l.map mconv) (by simp; omega)
  obtain ⟨K3, h3⟩ := impl_CostOfMoves.ev (l.map mconv) (by simp; omega)
  obtain ⟨K4, h4⟩ := laws_eqMoveS.ev (l.map mconv) (by simp; omega)
  generalize costAll (l.map mconv) = v at h2 h3
  obtain ⟨v, b⟩ := v
  dsimp only at h1 h2 h3 h4
  refine ⟨K1 + K2 + K3 + K4 + 1, ?_⟩
  simp (disch := omega) only [laws_FnExactCostOfMoves.f, laws_szMoveS.f, e0, if_neg (show ¬ (1048576 - (l.length : Int) < 0) by omega), h1, h2, h3, h4, Option.bind_some, bne_self_eq_false, Bool.false_eq_true, if_true, if_false]
  simp (disch := omega) only [laws_FnExactCostOfMoves.j0, h1, h4, Option.bind_some, Bool.false_eq_true, if_true, if_false]

end Go.Proofs.Ytlfmdlhakbdknaa.Pure
