/- The program's PairStep returns what the reference's returns, for all arguments. It has no conditions. -/
import Derived.Test.YtlfmdlhakbdknaaPFnExactPairStepx1
namespace Go.Proofs.Ytlfmdlhakbdknaa.Pure
open Go.RowKit Go.Proofs.Ytlfmdlhakbdknaa.PFnExactPairStep Go.Proofs.YtlfmdlhakbdknaaW.PrintWords Go.Proofs.YtlfmdlhakbdknaaW.PrintLast
set_option linter.unusedVariables false
set_option linter.unusedSimpArgs false

/-! ### pairs: the step, and many steps -/
def pstep (a b : Int) : Int × Int := if a = 0 ∨ b = 0 then (a, b) else if a < b then (wrap64 (2 * a), wrap64 (b - a)) else (wrap64 (a - b), wrap64 (2 * b))
theorem spec_dbStep.ev (a b : Int) : Ev (fun k => spec_dbStep.f k a b) (pstep a b) := by
  refine ⟨1, fun k hk => ?_⟩
  obtain ⟨k, rfl⟩ : ∃ m, k = m + 1 := ⟨k - 1, by omega⟩
  show spec_dbStep.f (k + 1) a b = _
  unfold spec_dbStep.f pstep
  by_cases ha : a = 0
  · simp [ha, spec_dbStep.j0]
  · by_cases hb : b = 0
    · simp [ha, hb, spec_dbStep.j0]
    · by_cases h : a < b
      · rw [if_neg ha, if_neg (by omega), if_pos h]
        simp only [spec_dbStep.j0]
        rw [if_neg (by simpa using hb), if_neg (by omega)]
      · rw [if_neg ha, if_neg (by omega), if_neg h]
        simp only [spec_dbStep.j0]
        rw [if_neg (by simpa using hb), if_pos (by omega)]
theorem impl_pairStep.ev (a b : Int) : Ev (fun k => impl_pairStep.f k a b) (pstep a b) := by
  refine ⟨1, fun k hk => ?_⟩
  obtain ⟨k, rfl⟩ : ∃ m, k = m + 1 := ⟨k - 1, by omega⟩
  show impl_pairStep.f (k + 1) a b = _
  unfold impl_pairStep.f pstep
  by_cases ha : a = 0
  · simp [ha, impl_pairStep.j0]
  · by_cases hb : b = 0
    · simp [ha, hb, impl_pairStep.j0]
    · by_cases h : a < b
      · rw [if_neg ha, if_neg (by omega), if_pos h]
        simp only [impl_pairStep.j0]
        rw [if_neg (by simpa using hb), if_pos (by omega)]
      · rw [if_neg ha, if_neg (by omega), if_neg h]
        simp only [impl_pairStep.j0]
        rw [if_neg (by simpa using hb), if_neg (by omega)]
theorem isPair_same (a b : Int) : impl_isPair.f a b = spec_dbPair.f a b := rfl
theorem spec_dbPair.some_ (a b : Int) : ∃ g, spec_dbPair.f a b = some g := by
  unfold spec_dbPair.f spec_l1In.f
  repeat' (first | exact ⟨_, rfl⟩ | split | (simp only [Option.bind_some]))
/-! ### pairs: many steps -/
def pit : Nat → Int × Int → Int × Int
  | 0, p => p
  | n + 1, p => pit n (pstep p.1 p.2)
/-- What both tell. -/
def pafter (a b s : Int) : Int × Int × Bool := if spec_dbPair.f a b = some true ∧ 0 ≤ s ∧ s ≤ 1000000 then ((pit s.toNat (a, b)).1, (pit s.toNat (a, b)).2, true) else (0, 0, false)
theorem impl_PairAfter.l0ev (s : Int) (hs : s ≤ 1000000) (n : Nat) : ∀ i : Int, 0 ≤ i → s - i = n → ∀ a b, Ev (fun k => impl_PairAfter.l0 k a b s i) ((pit n (a, b)).1, (pit n (a, b)).2, true) := by
  induction n with
  | zero =>
    intro i h0 hi a b
    refine Ev.step (f := fun _ => some (a, b, true)) (fun k => ?_) (Ev.now _)
    simp only [impl_PairAfter.l0]
    rw [if_neg (by omega)]
  | succ n ih =>
    intro i h0 hi a b
    refine Ev.step (f := fun k => (impl_pairStep.f k a b).bind fun bt => impl_PairAfter.l0 k bt.1 bt.2 s (i + 1)) (fun k => ?_) (Ev.bind (impl_pairStep.ev a b) (ih (i + 1) (by omega) (by omega) _ _))
    simp only [impl_PairAfter.l0]
    rw [if_pos (by omega), show wrap64 (i + 1) = i + 1 by unfold wrap64; omega]
theorem impl_PairAfter.ev (a b s : Int) : Ev (fun k => impl_PairAfter.f k a b s) (pafter a b s) := by
  obtain ⟨g, hg⟩ := spec_dbPair.some_ a b
  unfold impl_PairAfter.f pafter
  rw [isPair_same, hg]
  simp only [Option.bind_some]
  cases g with
  | false =>
    rw [if_neg (by simp)]
    refine Ev.step (f := fun _ => some (0, 0, false)) (fun k => ?_) (Ev.now _)
    simp [impl_PairAfter.j0]
  | true =>
    by_cases hs : 0 ≤ s ∧ s ≤ 1000000
    · rw [if_pos ⟨rfl, hs⟩]
      have h1 : impl_within.f s 0 1000000 = some true := by unfold impl_within.f; rw [if_pos (by omega)]; simp [hs.2]
      rw [h1]
      refine Ev.step (f := fun k => impl_PairAfter.l0 k a b s 0) (fun k => ?_) ?_
      · simp [impl_PairAfter.j0]
      · exact impl_PairAfter.l0ev s hs.2 s.toNat 0 (by omega) (by omega) a b
    · rw [if_neg (fun h => hs h.2)]
      have h1 : impl_within.f s 0 1000000 = some false := by
        unfold impl_within.f
        by_cases h0 : s ≥ 0
        · rw [if_pos h0]; simp; omega
        · rw [if_neg h0]
      rw [h1]
      refine Ev.step (f := fun _ => some (0, 0, false)) (fun k => ?_) (Ev.now _)
      simp [impl_PairAfter.j0]
theorem spec_PairStep.ev (a b : Int) : Ev (fun k => spec_PairStep.f k a b) (pafter a b 1) := by
  obtain ⟨g, hg⟩ := spec_dbPair.some_ a b
  unfold spec_PairStep.f pafter
  rw [hg]
  simp only [Option.bind_some]
  cases g with
  | false => simp; exact Ev.now _
  | true => simp only [if_pos]; exact Ev.bind (spec_dbStep.ev a b) (Ev.now _)
theorem FnExactPairStep : laws_FnExactPairStep.Pure := by
  intro a b _ _
  refine Ev.rounds ?_
  refine Ev.bind (spec_PairStep.ev a b) (Ev.bind (r := true) (a := pafter a b 1) (Ev.bind (impl_PairAfter.ev a b 1) (Ev.now _)) ?_)
  simp
  exact Ev.now true

end Go.Proofs.Ytlfmdlhakbdknaa.Pure
