/- The program's CandyStep returns what the reference's returns, for all arguments. It has no conditions. -/
import Derived.Test.YtfkkbbkelehibaaPFnExactCandyStepx3
namespace Go.Proofs.Ytfkkbbkelehibaa.Pure
open Go.RowKit Go.Proofs.Ytfkkbbkelehibaa.PFnExactCandyStep Go.Proofs.YtfkkbbkelehibaaW.PrintWords Go.Proofs.YtfkkbbkelehibaaW.PrintLast
set_option linter.unusedVariables false
set_option linter.unusedSimpArgs false

/-! ### small words -/
theorem w64 (n : Int) (h1 : -9223372036854775808 ≤ n) (h2 : n ≤ 9223372036854775807) : wrap64 n = n := by unfold wrap64; omega
theorem w64s (i : Nat) (h : i < 9223372036854775807) : wrap64 ((i : Int) + 1) = ((i + 1 : Nat) : Int) := by unfold wrap64; omega
theorem rd_at (l : List Int) (i : Nat) (h : i < l.length) : rd l (i : Int) = l[i] := by simp [rd, List.getD_eq_getElem?_getD, List.getElem?_eq_getElem h]
theorem wf64 {x : Int} (h : (Lit.int .i64 x).wf = true) : -9223372036854775808 ≤ x ∧ x ≤ 9223372036854775807 := by
  simp [Lit.wf, IntKind.min, IntKind.max, IntKind.bits, IntKind.signed] at h
  omega
/-! ### copies, marks -/
theorem laws_toIntS.l0ev (l : List Int) (hl : l.length ≤ 1048576) (d : Nat) : ∀ i, i + d = l.length → Ev (fun k => laws_toIntS.l0 k l (l.take i ++ List.replicate d 0) i) l := by
  induction d with
  | zero =>
    intro i hi
    refine Ev.step (f := fun _ => some l) (fun k => ?_) (Ev.now _)
    simp only [laws_toIntS.l0]
    rw [if_neg (by omega)]
    simp [List.take_of_length_le (show l.length ≤ i by omega)]
  | succ d ih =>
    intro i hi
    refine Ev.step (f := fun k => laws_toIntS.l0 k l (l.take (i + 1) ++ List.replicate d 0) ((i + 1 : Nat) : Int)) (fun k => ?_) (ih (i + 1) (by omega))
    simp only [laws_toIntS.l0]
    rw [if_pos (by omega), if_pos (by omega), if_pos (by simp; omega), w64s i (by omega), rd_at l i (by omega)]
    congr 1
    rw [show ((i : Int)).toNat = i by omega, List.set_append_right _ _ (by simp; omega), List.replicate_succ, List.length_take, show i - min i l.length = 0 by omega, List.set_cons_zero, List.take_succ_eq_append_getElem (show i < l.length by omega)]
    simp only [List.append_assoc, List.cons_append, List.nil_append]
theorem laws_toIntS.ev (l : List Int) (hl : l.length ≤ 1048576) : Ev (fun k => laws_toIntS.f k l) l := by
  have h := laws_toIntS.l0ev l hl l.length 0 (by omega)
  unfold laws_toIntS.f
  simp only [if_pos (show (0 : Int) ≤ (l.length : Int) by omega), if_pos (show (l.length : Int).toNat ≤ 35184372088832 by omega)]
  simpa using h
theorem laws_eqIntS.l0ev (l : List Int) (hl : l.length ≤ 1048576) (d : Nat) : ∀ i, i + d = l.length → Ev (fun k => laws_eqIntS.l0 k l l i) true := by
  induction d with
  | zero =>
    intro i hi
    refine Ev.step (f := fun _ => some true) (fun k => ?_) (Ev.now _)
    simp only [laws_eqIntS.l0]
    rw [if_neg (by omega)]
  | succ d ih =>
    intro i hi
    refine Ev.step (f := fun k => laws_eqIntS.l0 k l l ((i + 1 : Nat) : Int)) (fun k => ?_) (ih (i + 1) (by omega))
    simp only [laws_eqIntS.l0]
    rw [if_pos (by omega), if_pos (by omega), if_pos (by omega), if_pos trivial, w64s i (by omega)]
theorem laws_eqIntS.ev (l : List Int) (hl : l.length ≤ 1048576) : Ev (fun k => laws_eqIntS.f k l l) true := by
  unfold laws_eqIntS.f
  simp only [if_true]
  exact laws_eqIntS.l0ev l hl l.length 0 (by omega)
/-- Marked cells, from k on. -/
def marks : List Int → Int → List Int
  | [], _ => []
  | _ :: xs, k => k :: marks xs (k + 1)
theorem marks_length : ∀ (l : List Int) (k : Int), (marks l k).length = l.length
  | [], _ => rfl
  | _ :: xs, k => by simp [marks, marks_length xs]
theorem laws_markIntS.l0ev (hd : List Int) : ∀ (tl done : List Int) (m : Int), done.length + tl.length ≤ 1048576 → 0 ≤ m → m ≤ 1048577 + done.length →
    Ev (fun k => laws_markIntS.l0 k (done ++ tl) m done.length) (m + tl.length, done ++ marks tl m) := by
  intro tl
  induction tl with
  | nil =>
    intro done m h1 h2 h3
    refine Ev.step (f := fun _ => some (m, done)) (fun k => ?_) (by simpa [marks] using Ev.now (m, done))
    simp only [laws_markIntS.l0]
    rw [if_neg (by simp)]
    simp
  | cons x xs ih =>
    intro done m h1 h2 h3
    simp only [List.length_cons] at h1
    have h := ih (done ++ [m]) (m + 1) (by simp; omega) (by omega) (by simp; omega)
    refine Ev.step (f := fun k => laws_markIntS.l0 k (done ++ [m] ++ xs) (m + 1) ((done ++ [m]).length : Int)) (fun k => ?_) ?_
    · simp only [laws_markIntS.l0]
      rw [if_pos (by simp; omega), if_pos (by omega), w64 (m + 1) (by omega) (by omega), w64s done.length (by omega)]
      congr 1
      · simp [List.set_append_right]
      · simp
    · have e : (m + ((x :: xs).length : Int), done ++ marks (x :: xs) m) = (m + 1 + (xs.length : Int), done ++ [m] ++ marks xs (m + 1)) := by
        simp [marks]; omega
      rw [e]; exact h
theorem laws_markIntS.ev (l : List Int) (hl : l.length ≤ 1048576) : Ev (fun k => laws_markIntS.f k l 1) (1 + (l.length : Int), marks l 1) := by
  have h := laws_markIntS.l0ev [] l [] 1 (by simpa using hl) (by omega) (by simp)
  simpa [laws_markIntS.f] using h
theorem laws_heldIntS.l0ev : ∀ (tl done : List Int) (m : Int), done.length + tl.length ≤ 1048576 → 0 ≤ m → m ≤ 1048577 + done.length →
    Ev (fun k => laws_heldIntS.l0 k (done ++ marks tl m) m done.length) (m + tl.length) := by
  intro tl
  induction tl with
  | nil =>
    intro done m h1 h2 h3
    refine Ev.step (f := fun _ => some m) (fun k => ?_) (by simpa [marks] using Ev.now m)
    simp only [laws_heldIntS.l0]
    rw [if_neg (by simp [marks])]
  | cons x xs ih =>
    intro done m h1 h2 h3
    simp only [List.length_cons] at h1
    have h := ih (done ++ [m]) (m + 1) (by simp; omega) (by omega) (by simp; omega)
    refine Ev.step (f := fun k => laws_heldIntS.l0 k (done ++ [m] ++ marks xs (m + 1)) (m + 1) ((done ++ [m]).length : Int)) (fun k => ?_) ?_
    · simp only [laws_heldIntS.l0]
      rw [if_pos (by simp [marks]; omega), if_pos (by omega), if_pos (by simp [rd, marks]), w64 (m + 1) (by omega) (by omega), w64s done.length (by omega)]
      congr 1
      · simp [marks]
      · simp
    · have e : m + ((x :: xs).length : Int) = m + 1 + (xs.length : Int) := by simp; omega
      rw [e]; exact h
theorem laws_heldIntS.ev (l : List Int) (hl : l.length ≤ 1048576) : Ev (fun k => laws_heldIntS.f k (marks l 1) 1) (1 + (l.length : Int)) := by
  have h := laws_heldIntS.l0ev l [] 1 (by simpa using hl) (by omega) (by simp)
  simpa [laws_heldIntS.f] using h
theorem spec_l1In.is (x a b : Int) : spec_l1In.f x a b = some (decide (a ≤ x) && decide (x ≤ b)) := by
  unfold spec_l1In.f
  by_cases h : x ≥ a
  · simp [h, show a ≤ x from h]
  · simp [h, show ¬ a ≤ x from h]
def allIn (l : List Int) (a b : Int) : Bool := l.all fun x => decide (a ≤ x) && decide (x ≤ b)
theorem spec_l1All.l0ev (a b : Int) (n : Int) (hn : n ≤ 1048576) : ∀ (tl done : List Int), ((done ++ tl).length : Int) = n → Ev (fun k => spec_l1All.l0 k a b (done ++ tl) n done.length) (allIn tl a b) := by
  intro tl
  induction tl with
  | nil =>
    intro done hd
    refine Ev.step (f := fun _ => some true) (fun k => ?_) (Ev.now _)
    simp only [spec_l1All.l0]
    simp at hd
    rw [if_neg (by omega)]
  | cons x xs ih =>
    intro done hd
    have hd' : (done.length : Int) + (xs.length + 1) = n := by simpa using hd
    have hx : rd (done ++ x :: xs) (done.length : Int) = x := by simp [rd]
    by_cases hp : (decide (a ≤ x) && decide (x ≤ b)) = true
    · have h := ih (done ++ [x]) (by simp; omega)
      refine Ev.step (f := fun k => spec_l1All.l0 k a b (done ++ [x] ++ xs) n ((done ++ [x]).length : Int)) (fun k => ?_) ?_
      · simp only [spec_l1All.l0]
        rw [if_pos (by omega), if_pos (by omega), if_pos (by simp; omega), hx, spec_l1In.is, hp]
        simp only [Option.bind_some, if_true]
        rw [w64s done.length (by omega)]
        simp
      · rw [show allIn (x :: xs) a b = allIn xs a b by simp [allIn] at hp ⊢; simp [hp]]
        exact h
    · refine Ev.step (f := fun _ => some false) (fun k => ?_) (by rw [show allIn (x :: xs) a b = false by simp [allIn] at hp ⊢; intro h1 h2; exact absurd (hp h1) (by omega)]; exact Ev.now _)
      simp only [spec_l1All.l0]
      rw [if_pos (by omega), if_pos (by omega), if_pos (by simp; omega), hx, spec_l1In.is]
      simp only [Option.bind_some]
      rw [if_neg hp]
theorem spec_l1All.ev (l : List Int) (a b : Int) (hl : l.length ≤ 1048576) : Ev (fun k => spec_l1All.f k l a b) (allIn l a b) := by
  have h := spec_l1All.l0ev a b l.length (by omega) l [] (by simp)
  simpa [spec_l1All.f] using h
theorem impl_within.is (x a b : Int) : impl_within.f x a b = some (decide (a ≤ x) && decide (x ≤ b)) := by
  unfold impl_within.f
  by_cases h : x ≥ a
  · simp [h, show a ≤ x from h]
  · simp [h, show ¬ a ≤ x from h]
def isCandies (l : List Int) : Bool := (decide (2 ≤ (l.length : Int)) && decide ((l.length : Int) ≤ 12)) && allIn l 0 200
theorem spec_cyGood.ev (l : List Int) (hl : l.length ≤ 1048576) : Ev (fun k => spec_cyGood.f k l) (isCandies l) := by
  unfold spec_cyGood.f isCandies
  simp only [spec_l1In.is, Option.bind_some]
  by_cases h : (decide (2 ≤ (l.length : Int)) && decide ((l.length : Int) ≤ 12)) = true
  · simp only [h, if_true, Bool.true_and]
    exact Ev.bind (spec_l1All.ev l 0 200 hl) (Ev.now _)
  · simp only [h]
    simpa using Ev.now false
theorem impl_AreCandies.is (l : List Int) : impl_AreCandies.f l = some (isCandies l) := by
  unfold impl_AreCandies.f isCandies impl_areIn.f allIn
  simp only [impl_within.is, Option.bind_some]
  by_cases h : (decide (2 ≤ (l.length : Int)) && decide ((l.length : Int) ≤ 12)) = true
  · simp only [h, if_true, Bool.true_and]
  · simp only [h]
    simp
def evenUp (x : Int) : Int := wrap64 (x + Int.tmod x 2)
theorem spec_cyEven.l0ev (n : Int) (hn : n ≤ 1048576) : ∀ (tl done acc : List Int), ((done ++ tl).length : Int) = n → (acc.length : Int) + tl.length ≤ 1048576 → Ev (fun k => spec_cyEven.l0 k acc (done ++ tl) n done.length) (acc ++ tl.map evenUp) := by
  intro tl
  induction tl with
  | nil =>
    intro done acc hd ha
    refine Ev.step (f := fun _ => some acc) (fun k => ?_) (by simpa using Ev.now acc)
    simp only [spec_cyEven.l0]
    simp at hd
    rw [if_neg (by omega)]
  | cons x xs ih =>
    intro done acc hd ha
    have hd' : (done.length : Int) + (xs.length + 1) = n := by simpa using hd
    simp only [List.length_cons] at ha
    have hx : rd (done ++ x :: xs) (done.length : Int) = x := by simp [rd]
    have h := ih (done ++ [x]) (acc ++ [evenUp x]) (by simp; omega) (by simp; omega)
    refine Ev.step (f := fun k => spec_cyEven.l0 k (acc ++ [evenUp x]) (done ++ [x] ++ xs) n ((done ++ [x]).length : Int)) (fun k => ?_) (by simpa using h)
    simp only [spec_cyEven.l0]
    rw [if_pos (by omega), if_pos (by omega), if_pos (by simp; omega), if_pos (by omega), hx, w64s done.length (by omega)]
    simp [evenUp]
theorem spec_cyEven.ev (l : List Int) (hl : l.length ≤ 1048576) : Ev (fun k => spec_cyEven.f k l) (l.map evenUp) := by
  have h := spec_cyEven.l0ev l.length (by omega) l [] [] (by simp) (by simp; omega)
  simpa [spec_cyEven.f] using h
theorem impl_madeEven.l0ev (n : Int) (hn : n ≤ 1048576) : ∀ (tl done acc : List Int), ((done ++ tl).length : Int) = n → (acc.length : Int) + tl.length ≤ 1048576 → Ev (fun k => impl_madeEven.l0 k acc (done ++ tl) n done.length) (acc ++ tl.map evenUp) := by
  intro tl
  induction tl with
  | nil =>
    intro done acc hd ha
    refine Ev.step (f := fun _ => some acc) (fun k => ?_) (by simpa using Ev.now acc)
    simp only [impl_madeEven.l0]
    simp at hd
    rw [if_neg (by omega)]
  | cons x xs ih =>
    intro done acc hd ha
    have hd' : (done.length : Int) + (xs.length + 1) = n := by simpa using hd
    simp only [List.length_cons] at ha
    have hx : rd (done ++ x :: xs) (done.length : Int) = x := by simp [rd]
    have h := ih (done ++ [x]) (acc ++ [evenUp x]) (by simp; omega) (by simp; omega)
    refine Ev.step (f := fun k => impl_madeEven.l0 k (acc ++ [evenUp x]) (done ++ [x] ++ xs) n ((done ++ [x]).length : Int)) (fun k => ?_) (by simpa using h)
    simp only [impl_madeEven.l0]
    rw [if_pos (by omega), if_pos (by omega), if_pos (by simp; omega), if_pos (by omega), hx, w64s done.length (by omega)]
    simp [evenUp]
theorem impl_madeEven.ev (l : List Int) (hl : l.length ≤ 1048576) : Ev (fun k => impl_madeEven.f k l) (l.map evenUp) := by
  have h := impl_madeEven.l0ev l.length (by omega) l [] [] (by simp) (by simp; omega)
  simpa [impl_madeEven.f] using h
/-- What the child at i has when halves have been passed to the right. -/
def pv (l : List Int) (i : Nat) (x : Int) : Int := wrap64 (wrap64 (Int.tdiv x 2) + wrap64 (Int.tdiv (rd l (Int.tmod ((i : Int) + (l.length : Int) - 1) (l.length : Int))) 2))
def passFrom (l : List Int) : List Int → Nat → List Int
  | [], _ => []
  | x :: xs, i => pv l i x :: passFrom l xs (i + 1)
theorem passFrom_length (l : List Int) : ∀ (t : List Int) (i : Nat), (passFrom l t i).length = t.length
  | [], _ => rfl
  | x :: xs, i => by simp [passFrom, passFrom_length l xs]
theorem spec_cyPass.l0ev (l : List Int) (h1 : 1 ≤ l.length) (h2 : l.length ≤ 1048576) : ∀ (tl done acc : List Int), done ++ tl = l → acc.length = done.length → Ev (fun k => spec_cyPass.l0 k l acc l (l.length : Int) done.length) (acc ++ passFrom l tl done.length) := by
  intro tl
  induction tl with
  | nil =>
    intro done acc hd ha
    refine Ev.step (f := fun _ => some acc) (fun k => ?_) (by simpa [passFrom] using Ev.now acc)
    simp only [spec_cyPass.l0]
    rw [if_neg (by rw [← hd]; simp)]
  | cons x xs ih =>
    intro done acc hd ha
    have hdl : l.length = done.length + (xs.length + 1) := by rw [← hd]; simp
    have hx : rd l (done.length : Int) = x := by rw [← hd]; simp [rd]
    have h := ih (done ++ [x]) (acc ++ [pv l done.length x]) (by rw [← hd]; simp) (by simp [ha])
    refine Ev.step (f := fun k => spec_cyPass.l0 k l (acc ++ [pv l done.length x]) l (l.length : Int) ((done ++ [x]).length : Int)) (fun k => ?_) (by simpa [passFrom] using h)
    simp only [spec_cyPass.l0, hx]
    have ei : wrap64 (wrap64 ((done.length : Int) + (l.length : Int)) - 1) = (done.length : Int) + (l.length : Int) - 1 := by
      unfold wrap64; omega
    have hm := Int.tmod_nonneg (l.length : Int) (show 0 ≤ (done.length : Int) + (l.length : Int) - 1 by omega)
    have hm2 := Int.tmod_lt_of_pos ((done.length : Int) + (l.length : Int) - 1) (show (0 : Int) < (l.length : Int) by omega)
    rw [if_pos (by omega), if_pos (by omega), if_pos (by omega), if_neg (by omega), ei, if_pos hm, if_pos hm2, if_pos (by omega), w64s done.length (by omega)]
    simp [pv]
theorem spec_cyPass.ev (l : List Int) (h1 : 1 ≤ l.length) (h2 : l.length ≤ 1048576) : Ev (fun k => spec_cyPass.f k l) (passFrom l l 0) := by
  have := spec_cyPass.l0ev l h1 h2 l [] [] rfl rfl
  simpa [spec_cyPass.f] using this
theorem impl_passed.l0ev (l : List Int) (h1 : 1 ≤ l.length) (h2 : l.length ≤ 1048576) : ∀ (tl done acc : List Int), done ++ tl = l → acc.length = done.length → Ev (fun k => impl_passed.l0 k l 1 acc l (l.length : Int) done.length) (acc ++ passFrom l tl done.length) := by
  intro tl
  induction tl with
  | nil =>
    intro done acc hd ha
    refine Ev.step (f := fun _ => some acc) (fun k => ?_) (by simpa [passFrom] using Ev.now acc)
    simp only [impl_passed.l0]
    rw [if_neg (by rw [← hd]; simp)]
  | cons x xs ih =>
    intro done acc hd ha
    have hdl : l.length = done.length + (xs.length + 1) := by rw [← hd]; simp
    have hx : rd l (done.length : Int) = x := by rw [← hd]; simp [rd]
    have h := ih (done ++ [x]) (acc ++ [pv l done.length x]) (by rw [← hd]; simp) (by simp [ha])
    refine Ev.step (f := fun k => impl_passed.l0 k l 1 (acc ++ [pv l done.length x]) l (l.length : Int) ((done ++ [x]).length : Int)) (fun k => ?_) (by simpa [passFrom] using h)
    simp only [impl_passed.l0, hx]
    have ei : wrap64 (wrap64 ((done.length : Int) - 1) + (l.length : Int)) = (done.length : Int) + (l.length : Int) - 1 := by
      unfold wrap64; omega
    have hm := Int.tmod_nonneg (l.length : Int) (show 0 ≤ (done.length : Int) + (l.length : Int) - 1 by omega)
    have hm2 := Int.tmod_lt_of_pos ((done.length : Int) + (l.length : Int) - 1) (show (0 : Int) < (l.length : Int) by omega)
    rw [if_pos (by omega), if_pos (by omega), if_pos (by omega), if_neg (by omega), ei, if_pos hm, if_pos hm2, if_pos (by omega), w64s done.length (by omega)]
    simp [pv]
theorem impl_passed.ev (l : List Int) (h1 : 1 ≤ l.length) (h2 : l.length ≤ 1048576) : Ev (fun k => impl_passed.f k l 1) (passFrom l l 0) := by
  have := impl_passed.l0ev l h1 h2 l [] [] rfl rfl
  simpa [impl_passed.f] using this
theorem isCandies_len {l : List Int} (h : isCandies l = true) : 2 ≤ l.length ∧ l.length ≤ 12 := by
  simp [isCandies] at h
  omega
def stepOf (l : List Int) : List Int := passFrom (l.map evenUp) (l.map evenUp) 0
theorem stepOf_length (l : List Int) : (stepOf l).length = l.length := by simp [stepOf, passFrom_length]
def stepR (l : List Int) : List Int × Bool := if isCandies l = true then (stepOf l, true) else ([], false)
theorem spec_CandyStep.ev (l : List Int) (hl : l.length ≤ 1048576) : Ev (fun k => spec_CandyStep.f k l) (stepR l) := by
  refine Ev.bind (spec_cyGood.ev l hl) ?_
  unfold stepR
  by_cases h : isCandies l = true
  · have hh := isCandies_len h
    simp only [h, if_true]
    exact Ev.bind (a := stepOf l) (Ev.bind (spec_cyEven.ev l hl) (Ev.bind (spec_cyPass.ev (l.map evenUp) (by simp; omega) (by simp; omega)) (Ev.now _))) (Ev.now _)
  · simp only [h]
    simpa using Ev.now _
theorem impl_CandyStep.ev (l : List Int) (hl : l.length ≤ 1048576) : Ev (fun k => impl_CandyStep.f k l) (stepR l) := by
  unfold impl_CandyStep.f stepR
  simp only [impl_AreCandies.is, Option.bind_some]
  by_cases h : isCandies l = true
  · have hh := isCandies_len h
    simp only [h, if_true]
    exact Ev.bind (a := stepOf l) (Ev.bind (impl_madeEven.ev l hl) (Ev.bind (impl_passed.ev (l.map evenUp) (by simp; omega) (by simp; omega)) (Ev.now _))) (Ev.now _)
  · simp only [h]
    simpa using Ev.now _
theorem stepR_len (l : List Int) (hl : l.length ≤ 1048576) : (stepR l).1.length ≤ 1048576 := by
  unfold stepR
  split
  · rw [stepOf_length]; exact hl
  · simp
theorem FnExactCandyStep : laws_FnExactCandyStep.Pure := by
  intro l _ _ _
  by_cases hl : (l.length : Int) > 1048576
  · exact ⟨0, by unfold laws_FnExactCandyStep.f; rw [if_pos hl]⟩
  obtain ⟨K1, h1⟩ := laws_toIntS.ev l (by omega)
  obtain ⟨K2, h2⟩ := spec_CandyStep.ev l (by omega)
  obtain ⟨K3, h3⟩ := impl_CandyStep.ev l (by omega)
  have hv := stepR_len l (by omega)
  generalize stepR l = v at h2 h3 hv
  obtain ⟨v, b⟩ := v
  simp only at hv
  obtain ⟨K4, h4⟩ := laws_eqIntS.ev l (by omega)
  obtain ⟨K5, h5⟩ := laws_eqIntS.ev v hv
  obtain ⟨K6, h6⟩ := laws_markIntS.ev l (by omega)
  obtain ⟨K7, h7⟩ := laws_markIntS.ev v hv
  obtain ⟨K8, h8⟩ := laws_heldIntS.ev v hv
  dsimp only at h1 h2 h3 h4 h5 h6 h7 h8
  refine ⟨K1 + K2 + K3 + K4 + K5 + K6 + K7 + K8 + 1 + 1 + 1, ?_⟩
  have c1 : ¬ (1 + (l.length : Int) < 0) := by omega
  have c2 : ¬ (1 + (v.length : Int) < 0) := by omega
  simp (disch := omega) only [laws_FnExactCandyStep.f, if_neg hl, h1, h2, h3, h5, Option.bind_some, bne_self_eq_false, if_true]
  simp (disch := omega) only [laws_FnExactCandyStep.j0, h1, h4, h5, h6, Option.bind_some, bne_self_eq_false, Bool.false_eq_true, if_true, if_false, if_neg c1]
  simp (disch := omega) only [laws_FnExactCandyStep.j1, h1, h3, h5, h7, h8, Option.bind_some, bne_self_eq_false, Bool.false_eq_true, if_true, if_false, if_neg c2]
  simp (disch := omega) only [laws_FnExactCandyStep.j2, h8, Option.bind_some, Bool.false_eq_true, if_true, if_false, if_neg c2]

end Go.Proofs.Ytfkkbbkelehibaa.Pure
