/- The program's LineDistance returns what the reference's returns, for all arguments. It has no conditions. -/
import Derived.Test.YtfkkbbkelehibaaPFnExactLineDistancex3
namespace Go.Proofs.Ytfkkbbkelehibaa.Pure
open Go.RowKit Go.Proofs.Ytfkkbbkelehibaa.PFnExactLineDistance Go.Proofs.YtfkkbbkelehibaaW.PrintWords Go.Proofs.YtfkkbbkelehibaaW.PrintLast
set_option linter.unusedVariables false
set_option linter.unusedSimpArgs false

/-! ### small words -/
theorem w64 (n : Int) (h1 : -9223372036854775808 ≤ n) (h2 : n ≤ 9223372036854775807) : wrap64 n = n := by unfold wrap64; omega
theorem w64s (i : Nat) (h : i < 9223372036854775807) : wrap64 ((i : Int) + 1) = ((i + 1 : Nat) : Int) := by unfold wrap64; omega
theorem rd_at (l : List Int) (i : Nat) (h : i < l.length) : rd l (i : Int) = l[i] := by simp [rd, List.getD_eq_getElem?_getD, List.getElem?_eq_getElem h]
theorem wf64 {x : Int} (h : (Lit.int .i64 x).wf = true) : -9223372036854775808 ≤ x ∧ x ≤ 9223372036854775807 := by
  simp [Lit.wf, IntKind.min, IntKind.max, IntKind.bits, IntKind.signed] at h
  omega
/-! ### copies, marks -/
theorem laws_toIntS.l0ev (l : List Int) (hl : l.length ≤ 1048576) (d : Nat) : ∀ i, i + d = l.length → Ev (fun k => laws_toIntS.l0 k l (l.take i ++ List.replicate d 0) i) l := by
  induction d with
  | zero =>
    intro i hi
    refine Ev.step (f := fun _ => some l) (fun k => ?_) (Ev.now _)
    simp only [laws_toIntS.l0]
    rw [if_neg (by omega)]
    simp [List.take_of_length_le (show l.length ≤ i by omega)]
  | succ d ih =>
    intro i hi
    refine Ev.step (f := fun k => laws_toIntS.l0 k l (l.take (i + 1) ++ List.replicate d 0) ((i + 1 : Nat) : Int)) (fun k => ?_) (ih (i + 1) (by omega))
    simp only [laws_toIntS.l0]
    rw [if_pos (by omega), if_pos (by omega), if_pos (by simp; omega), w64s i (by omega), rd_at l i (by omega)]
    congr 1
    rw [show ((i : Int)).toNat = i by omega, List.set_append_right _ _ (by simp; omega), List.replicate_succ, List.length_take, show i - min i l.length = 0 by omega, List.set_cons_zero, List.take_succ_eq_append_getElem (show i < l.length by omega)]
    simp only [List.append_assoc, List.cons_append, List.nil_append]
theorem laws_toIntS.ev (l : List Int) (hl : l.length ≤ 1048576) : Ev (fun k => laws_toIntS.f k l) l := by
  have h := laws_toIntS.l0ev l hl l.length 0 (by omega)
  unfold laws_toIntS.f
  simp only [if_pos (show (0 : Int) ≤ (l.length : Int) by omega), if_pos (show (l.length : Int).toNat ≤ 35184372088832 by omega)]
  simpa using h
theorem laws_eqIntS.l0ev (l : List Int) (hl : l.length ≤ 1048576) (d : Nat) : ∀ i, i + d = l.length → Ev (fun k => laws_eqIntS.l0 k l l i) true := by
  induction d with
  | zero =>
    intro i hi
    refine Ev.step (f := fun _ => some true) (fun k => ?_) (Ev.now _)
    simp only [laws_eqIntS.l0]
    rw [if_neg (by omega)]
  | succ d ih =>
    intro i hi
    refine Ev.step (f := fun k => laws_eqIntS.l0 k l l ((i + 1 : Nat) : Int)) (fun k => ?_) (ih (i + 1) (by omega))
    simp only [laws_eqIntS.l0]
    rw [if_pos (by omega), if_pos (by omega), if_pos (by omega), if_pos trivial, w64s i (by omega)]
theorem laws_eqIntS.ev (l : List Int) (hl : l.length ≤ 1048576) : Ev (fun k => laws_eqIntS.f k l l) true := by
  unfold laws_eqIntS.f
  simp only [if_true]
  exact laws_eqIntS.l0ev l hl l.length 0 (by omega)
/-- A number without its sign, as both make it. -/
def absw (x : Int) : Int := mx x (wrap64 (-x))
theorem spec_l1In.is (x a b : Int) : spec_l1In.f x a b = some (decide (a ≤ x) && decide (x ≤ b)) := by
  unfold spec_l1In.f
  by_cases h : x ≥ a
  · simp [h, show a ≤ x from h]
  · simp [h, show ¬ a ≤ x from h]
def allIn (l : List Int) (a b : Int) : Bool := l.all fun x => decide (a ≤ x) && decide (x ≤ b)
theorem spec_l1All.l0ev (a b : Int) (n : Int) (hn : n ≤ 1048576) : ∀ (tl done : List Int), ((done ++ tl).length : Int) = n → Ev (fun k => spec_l1All.l0 k a b (done ++ tl) n done.length) (allIn tl a b) := by
  intro tl
  induction tl with
  | nil =>
    intro done hd
    refine Ev.step (f := fun _ => some true) (fun k => ?_) (Ev.now _)
    simp only [spec_l1All.l0]
    simp at hd
    rw [if_neg (by omega)]
  | cons x xs ih =>
    intro done hd
    have hd' : (done.length : Int) + (xs.length + 1) = n := by simpa using hd
    have hx : rd (done ++ x :: xs) (done.length : Int) = x := by simp [rd]
    by_cases hp : (decide (a ≤ x) && decide (x ≤ b)) = true
    · have h := ih (done ++ [x]) (by simp; omega)
      refine Ev.step (f := fun k => spec_l1All.l0 k a b (done ++ [x] ++ xs) n ((done ++ [x]).length : Int)) (fun k => ?_) ?_
      · simp only [spec_l1All.l0]
        rw [if_pos (by omega), if_pos (by omega), if_pos (by simp; omega), hx, spec_l1In.is, hp]
        simp only [Option.bind_some, if_true]
        rw [w64s done.length (by omega)]
        simp
      · rw [show allIn (x :: xs) a b = allIn xs a b by simp [allIn] at hp ⊢; simp [hp]]
        exact h
    · refine Ev.step (f := fun _ => some false) (fun k => ?_) (by rw [show allIn (x :: xs) a b = false by simp [allIn] at hp ⊢; intro h1 h2; exact absurd (hp h1) (by omega)]; exact Ev.now _)
      simp only [spec_l1All.l0]
      rw [if_pos (by omega), if_pos (by omega), if_pos (by simp; omega), hx, spec_l1In.is]
      simp only [Option.bind_some]
      rw [if_neg hp]
theorem spec_l1All.ev (l : List Int) (a b : Int) (hl : l.length ≤ 1048576) : Ev (fun k => spec_l1All.f k l a b) (allIn l a b) := by
  have h := spec_l1All.l0ev a b l.length (by omega) l [] (by simp)
  simpa [spec_l1All.f] using h
theorem impl_within.is (x a b : Int) : impl_within.f x a b = some (decide (a ≤ x) && decide (x ≤ b)) := by
  unfold impl_within.f
  by_cases h : x ≥ a
  · simp [h, show a ≤ x from h]
  · simp [h, show ¬ a ≤ x from h]
def isHeaps (l : List Int) : Bool := (decide (1 ≤ (l.length : Int)) && decide ((l.length : Int) ≤ 12)) && allIn l 0 1000
theorem spec_hpGood.ev (l : List Int) (hl : l.length ≤ 1048576) : Ev (fun k => spec_hpGood.f k l) (isHeaps l) := by
  unfold spec_hpGood.f isHeaps
  simp only [spec_l1In.is, Option.bind_some]
  by_cases h : (decide (1 ≤ (l.length : Int)) && decide ((l.length : Int) ≤ 12)) = true
  · simp only [h, if_true, Bool.true_and]
    exact Ev.bind (spec_l1All.ev l 0 1000 hl) (Ev.now _)
  · simp only [h]
    simpa using Ev.now false
theorem impl_AreHeaps.is (l : List Int) : impl_AreHeaps.f l = some (isHeaps l) := by
  unfold impl_AreHeaps.f isHeaps impl_areIn.f allIn
  simp only [impl_within.is, Option.bind_some]
  by_cases h : (decide (1 ≤ (l.length : Int)) && decide ((l.length : Int) ≤ 12)) = true
  · simp only [h, if_true, Bool.true_and]
  · simp only [h]
    simp
theorem isHeaps_ne {l : List Int} (h : isHeaps l = true) : ¬ ((l.length : Int) = 0) := by
  simp [isHeaps] at h
  omega
/-- The sum as the machine makes it. -/
def wsum : List Int → Int → Int
  | [], a => a
  | x :: xs, a => wsum xs (wrap64 (a + x))
theorem spec_hpSum.l0ev (n : Int) (hn : n ≤ 1048576) : ∀ (tl done : List Int) (a : Int), ((done ++ tl).length : Int) = n → Ev (fun k => spec_hpSum.l0 k a (done ++ tl) n done.length) (wsum tl a) := by
  intro tl
  induction tl with
  | nil =>
    intro done a hd
    refine Ev.step (f := fun _ => some a) (fun k => ?_) (Ev.now a)
    simp only [spec_hpSum.l0]
    simp at hd
    rw [if_neg (by omega)]
  | cons x xs ih =>
    intro done a hd
    have hd' : (done.length : Int) + (xs.length + 1) = n := by simpa using hd
    have hx : rd (done ++ x :: xs) (done.length : Int) = x := by simp [rd]
    have h := ih (done ++ [x]) (wrap64 (a + x)) (by simp; omega)
    refine Ev.step (f := fun k => spec_hpSum.l0 k (wrap64 (a + x)) (done ++ [x] ++ xs) n ((done ++ [x]).length : Int)) (fun k => ?_) (by simpa [wsum] using h)
    simp only [spec_hpSum.l0]
    rw [if_pos (by omega), if_pos (by omega), if_pos (by simp; omega), hx, w64s done.length (by omega)]
    simp
theorem spec_hpSum.ev (l : List Int) (hl : l.length ≤ 1048576) : Ev (fun k => spec_hpSum.f k l) (wsum l 0) := by
  have h := spec_hpSum.l0ev l.length (by omega) l [] 0 (by simp)
  simpa [spec_hpSum.f] using h
/-- The stones can be shared. -/
def isEqual (l : List Int) : Bool := isHeaps l && (Int.tmod (wsum l 0) (l.length : Int) == 0)
theorem spec_hpEqual.ev (l : List Int) (hl : l.length ≤ 1048576) : Ev (fun k => spec_hpEqual.f k l) (isEqual l) := by
  refine Ev.bind (spec_hpGood.ev l hl) ?_
  unfold isEqual
  by_cases h : isHeaps l = true
  · simp only [h, if_true, Bool.true_and]
    refine Ev.bind (spec_hpSum.ev l hl) ?_
    simp only [if_neg (isHeaps_ne h)]
    exact Ev.now _
  · simp only [h, Bool.not_eq_true] at h ⊢
    simp only [h, Bool.false_and]
    exact Ev.now _
/-- What each heap has too many. -/
def overOf (l : List Int) : List Int := l.map fun x => wrap64 (x - wrap64 (Int.tdiv (wsum l 0) (l.length : Int)))
theorem overOf_length (l : List Int) : (overOf l).length = l.length := by simp [overOf]
def moreR (l : List Int) : List Int × Bool := if isEqual l = true then (overOf l, true) else ([], false)
theorem isEqual_heaps {l : List Int} (h : isEqual l = true) : isHeaps l = true := by
  unfold isEqual at h
  simp at h
  exact h.1
theorem isHeaps_len {l : List Int} (h : isHeaps l = true) : 1 ≤ l.length ∧ l.length ≤ 12 := by
  simp [isHeaps] at h
  omega
/-- The sums of the first numbers, from a on. -/
def psums : List Int → Int → List Int
  | [], _ => []
  | x :: xs, a => wrap64 (a + x) :: psums xs (wrap64 (a + x))
theorem psums_length : ∀ (l : List Int) (a : Int), (psums l a).length = l.length
  | [], _ => rfl
  | x :: xs, a => by simp [psums, psums_length xs]
theorem psums_take : ∀ (m : Nat) (l : List Int) (a : Int), (psums l a).take m = psums (l.take m) a
  | 0, _, _ => by simp [psums]
  | m + 1, [], _ => by simp [psums]
  | m + 1, x :: xs, a => by simp [psums, psums_take m xs]
/-- How many stones go from each heap to the next one. -/
def flowsOf (l : List Int) : List Int := psums ((overOf l).take (l.length - 1)) 0
theorem flowsOf_length (l : List Int) : (flowsOf l).length = l.length - 1 := by
  unfold flowsOf
  rw [psums_length, List.length_take, overOf_length]
  omega
def flowsR (l : List Int) : List Int × Bool := if isEqual l = true then (flowsOf l, true) else ([], false)
def absSum : List Int → Int → Int
  | [], a => a
  | x :: xs, a => absSum xs (wrap64 (a + absw x))
def lineR (l : List Int) : Int × Bool := if isEqual l = true then (absSum (flowsOf l) 0, true) else (0, false)
theorem spec_hpOver.l0ev (sh : Int) (n : Int) (hn : n ≤ 1048576) : ∀ (tl done : List Int) (acc : List Int), ((done ++ tl).length : Int) = n → (acc.length : Int) + tl.length ≤ 1048576 → Ev (fun k => spec_hpOver.l0 k sh acc (done ++ tl) n done.length) ((acc ++ tl.map fun x => wrap64 (x - sh))) := by
  intro tl
  induction tl with
  | nil =>
    intro done acc hd hs0 
    refine Ev.step (f := fun _ => some ((acc ++ [].map fun x => wrap64 (x - sh)))) (fun k => ?_) (Ev.now _)
    simp only [spec_hpOver.l0]
    simp at hd
    rw [if_neg (by omega)]
    all_goals simp
  | cons x xs ih =>
    intro done acc hd hs0 
    have hd' : (done.length : Int) + (xs.length + 1) = n := by simpa using hd
    simp only [List.length_cons] at hs0
    have hx : rd (done ++ x :: xs) (done.length : Int) = x := by simp [rd]
    skip
    have h := ih (done ++ [x]) (acc ++ [wrap64 (x - sh)]) (by simp; omega) (by simp; omega)
    have e_ : (acc ++ (x :: xs).map fun x => wrap64 (x - sh)) = ((acc ++ [wrap64 (x - sh)]) ++ xs.map fun x => wrap64 (x - sh)) := by simp
    rw [e_]
    refine Ev.step (f := fun k => spec_hpOver.l0 k sh (acc ++ [wrap64 (x - sh)]) (done ++ [x] ++ xs) n ((done ++ [x]).length : Int)) (fun k => ?_) (by simpa using h)
    simp only [spec_hpOver.l0, hx, Option.bind_some]
    rw [if_pos (by omega), if_pos (by omega), if_pos (by simp; omega), if_pos (show acc.length < 17592186044416 by omega), w64s done.length (by omega)]
    simp
theorem spec_hpOver.ev (l : List Int) (h : isHeaps l = true) : Ev (fun k => spec_hpOver.f k l) (overOf l) := by
  have hl := isHeaps_len h
  refine Ev.bind (spec_hpSum.ev l (by omega)) ?_
  simp only [if_neg (isHeaps_ne h)]
  have := spec_hpOver.l0ev (wrap64 (Int.tdiv (wsum l 0) (l.length : Int))) l.length (by omega) l [] [] (by simp) (by simp; omega)
  simpa [overOf] using this
theorem spec_hpFlows.l0ev (n : Int) (hn : n ≤ 1048576) : ∀ (tl done : List Int) (acc : List Int) (a : Int), ((done ++ tl).length : Int) = n → (acc.length : Int) + tl.length ≤ 1048576 → Ev (fun k => spec_hpFlows.l0 k acc a (done ++ tl) n done.length) ((acc ++ psums tl a)) := by
  intro tl
  induction tl with
  | nil =>
    intro done acc a hd hs0 
    refine Ev.step (f := fun _ => some ((acc ++ psums [] a))) (fun k => ?_) (Ev.now _)
    simp only [spec_hpFlows.l0]
    simp at hd
    rw [if_neg (by omega)]
    all_goals simp [psums]
  | cons x xs ih =>
    intro done acc a hd hs0 
    have hd' : (done.length : Int) + (xs.length + 1) = n := by simpa using hd
    simp only [List.length_cons] at hs0
    have hx : rd (done ++ x :: xs) (done.length : Int) = x := by simp [rd]
    skip
    have h := ih (done ++ [x]) (acc ++ [wrap64 (a + x)]) (wrap64 (a + x)) (by simp; omega) (by simp; omega)
    have e_ : (acc ++ psums (x :: xs) a) = ((acc ++ [wrap64 (a + x)]) ++ psums xs (wrap64 (a + x))) := by simp [psums]
    rw [e_]
    refine Ev.step (f := fun k => spec_hpFlows.l0 k (acc ++ [wrap64 (a + x)]) (wrap64 (a + x)) (done ++ [x] ++ xs) n ((done ++ [x]).length : Int)) (fun k => ?_) (by simpa using h)
    simp only [spec_hpFlows.l0, hx, Option.bind_some]
    rw [if_pos (by omega), if_pos (by omega), if_pos (by simp; omega), if_pos (show acc.length < 17592186044416 by omega), w64s done.length (by omega)]
    simp
theorem spec_hpFlows.ev (l : List Int) (h : isHeaps l = true) : Ev (fun k => spec_hpFlows.f k l) (flowsOf l) := by
  have hl := isHeaps_len h
  refine Ev.bind (spec_hpOver.ev l h) ?_
  have e : wrap64 ((l.length : Int) - 1) = ((l.length - 1 : Nat) : Int) := by rw [w64 _ (by omega) (by omega)]; omega
  simp only [overOf_length, e, if_pos (show (0 : Int) ≤ ((l.length - 1 : Nat) : Int) by omega), if_pos (show ((l.length - 1 : Nat) : Int) ≤ (l.length : Int) by omega), Option.bind_some, show (((l.length - 1 : Nat) : Int)).toNat = l.length - 1 by omega]
  have hl2 : ((overOf l).take (l.length - 1)).length ≤ 1048576 := by rw [List.length_take, overOf_length]; omega
  have := spec_hpFlows.l0ev ((overOf l).take (l.length - 1)).length (by omega) ((overOf l).take (l.length - 1)) [] [] 0 (by simp) (by simp; omega)
  simpa [flowsOf] using this
theorem spec_l1Most.is (x y : Int) : spec_l1Most.f x y = some (mx x y) := by
  unfold spec_l1Most.f mx
  by_cases h : x > y
  · rw [if_pos h]; congr 1; omega
  · rw [if_neg h]; congr 1; omega
theorem spec_l1Abs.is (x : Int) : spec_l1Abs.f x = some (absw x) := by
  unfold spec_l1Abs.f absw
  rw [spec_l1Most.is]
  rfl
theorem spec_hpSize.l0ev (n : Int) (hn : n ≤ 1048576) : ∀ (tl done : List Int) (a : Int), ((done ++ tl).length : Int) = n → Ev (fun k => spec_hpSize.l0 k a (done ++ tl) n done.length) ((absSum tl a)) := by
  intro tl
  induction tl with
  | nil =>
    intro done a hd  
    refine Ev.step (f := fun _ => some ((absSum [] a))) (fun k => ?_) (Ev.now _)
    simp only [spec_hpSize.l0]
    simp at hd
    rw [if_neg (by omega)]
    all_goals simp [absSum]
  | cons x xs ih =>
    intro done a hd  
    have hd' : (done.length : Int) + (xs.length + 1) = n := by simpa using hd
    skip
    have hx : rd (done ++ x :: xs) (done.length : Int) = x := by simp [rd]
    skip
    have h := ih (done ++ [x]) (wrap64 (a + absw x)) (by simp; omega) 
    have e_ : (absSum (x :: xs) a) = (absSum xs (wrap64 (a + absw x))) := by simp [absSum]
    rw [e_]
    refine Ev.step (f := fun k => spec_hpSize.l0 k (wrap64 (a + absw x)) (done ++ [x] ++ xs) n ((done ++ [x]).length : Int)) (fun k => ?_) (by simpa using h)
    simp only [spec_hpSize.l0, hx, spec_l1Abs.is, Option.bind_some]
    rw [if_pos (by omega), if_pos (by omega), if_pos (by simp; omega), w64s done.length (by omega)]
    simp
theorem spec_hpSize.ev (l : List Int) (hl : l.length ≤ 1048576) : Ev (fun k => spec_hpSize.f k l) (absSum l 0) := by
  have := spec_hpSize.l0ev l.length (by omega) l [] 0 (by simp)
  simpa [spec_hpSize.f] using this
theorem spec_LineDistance.ev (l : List Int) (hl : l.length ≤ 1048576) : Ev (fun k => spec_LineDistance.f k l) (lineR l) := by
  refine Ev.bind (spec_hpEqual.ev l hl) ?_
  unfold lineR
  by_cases h : isEqual l = true
  · have hh := isHeaps_len (isEqual_heaps h)
    simp only [h, if_true]
    refine Ev.bind (spec_hpFlows.ev l (isEqual_heaps h)) ?_
    exact Ev.bind (spec_hpSize.ev (flowsOf l) (by rw [flowsOf_length]; omega)) (Ev.now _)
  · simp only [Bool.not_eq_true] at h
    simp only [h]
    simpa using Ev.now _
theorem impl_sum.l0ev (n : Int) (hn : n ≤ 1048576) : ∀ (tl done : List Int) (a : Int), ((done ++ tl).length : Int) = n → Ev (fun k => impl_sum.l0 k a (done ++ tl) n done.length) (wsum tl a) := by
  intro tl
  induction tl with
  | nil =>
    intro done a hd
    refine Ev.step (f := fun _ => some a) (fun k => ?_) (Ev.now a)
    simp only [impl_sum.l0]
    simp at hd
    rw [if_neg (by omega)]
  | cons x xs ih =>
    intro done a hd
    have hd' : (done.length : Int) + (xs.length + 1) = n := by simpa using hd
    have hx : rd (done ++ x :: xs) (done.length : Int) = x := by simp [rd]
    have h := ih (done ++ [x]) (wrap64 (a + x)) (by simp; omega)
    refine Ev.step (f := fun k => impl_sum.l0 k (wrap64 (a + x)) (done ++ [x] ++ xs) n ((done ++ [x]).length : Int)) (fun k => ?_) (by simpa [wsum] using h)
    simp only [impl_sum.l0]
    rw [if_pos (by omega), if_pos (by omega), if_pos (by simp; omega), hx, w64s done.length (by omega)]
    simp
theorem impl_sum.ev (l : List Int) (hl : l.length ≤ 1048576) : Ev (fun k => impl_sum.f k l) (wsum l 0) := by
  have h := impl_sum.l0ev l.length (by omega) l [] 0 (by simp)
  simpa [impl_sum.f] using h
def canR (l : List Int) : Bool × Bool := (isEqual l, isHeaps l)
theorem impl_CanBeEqual.ev (l : List Int) (hl : l.length ≤ 1048576) : Ev (fun k => impl_CanBeEqual.f k l) (canR l) := by
  unfold impl_CanBeEqual.f canR isEqual
  simp only [impl_AreHeaps.is, Option.bind_some]
  by_cases h : isHeaps l = true
  · simp only [h, if_true, Bool.true_and]
    refine Ev.bind (impl_sum.ev l hl) ?_
    simp only [if_neg (isHeaps_ne h)]
    exact Ev.now _
  · simp only [Bool.not_eq_true] at h
    simp only [h, Bool.false_and]
    exact Ev.now _
theorem impl_surplus.l0ev (sh : Int) (n : Int) (hn : n ≤ 1048576) : ∀ (tl done : List Int) (acc : List Int), ((done ++ tl).length : Int) = n → (acc.length : Int) + tl.length ≤ 1048576 → Ev (fun k => impl_surplus.l0 k sh acc (done ++ tl) n done.length) ((acc ++ tl.map fun x => wrap64 (x - sh), true)) := by
  intro tl
  induction tl with
  | nil =>
    intro done acc hd hs0 
    refine Ev.step (f := fun _ => some ((acc ++ [].map fun x => wrap64 (x - sh), true))) (fun k => ?_) (Ev.now _)
    simp only [impl_surplus.l0]
    simp at hd
    rw [if_neg (by omega)]
    all_goals simp
  | cons x xs ih =>
    intro done acc hd hs0 
    have hd' : (done.length : Int) + (xs.length + 1) = n := by simpa using hd
    simp only [List.length_cons] at hs0
    have hx : rd (done ++ x :: xs) (done.length : Int) = x := by simp [rd]
    skip
    have h := ih (done ++ [x]) (acc ++ [wrap64 (x - sh)]) (by simp; omega) (by simp; omega)
    have e_ : (acc ++ (x :: xs).map fun x => wrap64 (x - sh), true) = ((acc ++ [wrap64 (x - sh)]) ++ xs.map fun x => wrap64 (x - sh), true) := by simp
    rw [e_]
    refine Ev.step (f := fun k => impl_surplus.l0 k sh (acc ++ [wrap64 (x - sh)]) (done ++ [x] ++ xs) n ((done ++ [x]).length : Int)) (fun k => ?_) (by simpa using h)
    simp only [impl_surplus.l0, hx, Option.bind_some]
    rw [if_pos (by omega), if_pos (by omega), if_pos (by simp; omega), if_pos (show acc.length < 17592186044416 by omega), w64s done.length (by omega)]
    simp
theorem impl_surplus.ev (l : List Int) (hl : l.length ≤ 1048576) : Ev (fun k => impl_surplus.f k l) (moreR l) := by
  refine Ev.bind (impl_CanBeEqual.ev l hl) ?_
  unfold canR moreR
  by_cases h : isEqual l = true
  · have hh := isEqual_heaps h
    simp only [h, hh, if_true]
    refine Ev.step (f := fun k => (impl_sum.f k l).bind fun t => impl_surplus.l0 k (wrap64 (Int.tdiv t (l.length : Int))) ([] : List Int) l (l.length : Int) 0) (fun k => ?_) ?_
    · simp only [impl_surplus.j0, Bool.not_true, Bool.false_eq_true, if_false, if_neg (isHeaps_ne hh)]
    · refine Ev.bind (impl_sum.ev l hl) ?_
      have := impl_surplus.l0ev (wrap64 (Int.tdiv (wsum l 0) (l.length : Int))) l.length (by omega) l [] [] (by simp) (by simp; omega)
      simpa [overOf] using this
  · simp only [Bool.not_eq_true] at h
    simp only [h, Bool.not_false]
    refine Ev.congr (f := fun k => impl_surplus.j0 k l true) (fun k => by split <;> rfl) ?_
    refine Ev.step (f := fun _ => some ([], false)) (fun k => ?_) (by simpa using Ev.now _)
    simp [impl_surplus.j0]
theorem impl_sumsOf.l0ev (n : Int) (hn : n ≤ 1048576) : ∀ (tl done : List Int) (acc : List Int) (a : Int), ((done ++ tl).length : Int) = n → (acc.length : Int) + tl.length ≤ 1048576 → Ev (fun k => impl_sumsOf.l0 k acc a (done ++ tl) n done.length) ((acc ++ psums tl a)) := by
  intro tl
  induction tl with
  | nil =>
    intro done acc a hd hs0 
    refine Ev.step (f := fun _ => some ((acc ++ psums [] a))) (fun k => ?_) (Ev.now _)
    simp only [impl_sumsOf.l0]
    simp at hd
    rw [if_neg (by omega)]
    all_goals simp [psums]
  | cons x xs ih =>
    intro done acc a hd hs0 
    have hd' : (done.length : Int) + (xs.length + 1) = n := by simpa using hd
    simp only [List.length_cons] at hs0
    have hx : rd (done ++ x :: xs) (done.length : Int) = x := by simp [rd]
    skip
    have h := ih (done ++ [x]) (acc ++ [wrap64 (a + x)]) (wrap64 (a + x)) (by simp; omega) (by simp; omega)
    have e_ : (acc ++ psums (x :: xs) a) = ((acc ++ [wrap64 (a + x)]) ++ psums xs (wrap64 (a + x))) := by simp [psums]
    rw [e_]
    refine Ev.step (f := fun k => impl_sumsOf.l0 k (acc ++ [wrap64 (a + x)]) (wrap64 (a + x)) (done ++ [x] ++ xs) n ((done ++ [x]).length : Int)) (fun k => ?_) (by simpa using h)
    simp only [impl_sumsOf.l0, hx, Option.bind_some]
    rw [if_pos (by omega), if_pos (by omega), if_pos (by simp; omega), if_pos (show acc.length < 17592186044416 by omega), w64s done.length (by omega)]
    simp
theorem impl_sumsOf.ev (l : List Int) (hl : l.length ≤ 1048576) : Ev (fun k => impl_sumsOf.f k l) (psums l 0) := by
  have := impl_sumsOf.l0ev l.length (by omega) l [] [] 0 (by simp) (by simp; omega)
  simpa [impl_sumsOf.f] using this
theorem impl_LineFlows.ev (l : List Int) (hl : l.length ≤ 1048576) : Ev (fun k => impl_LineFlows.f k l) (flowsR l) := by
  refine Ev.bind (impl_surplus.ev l hl) ?_
  unfold moreR flowsR
  by_cases h : isEqual l = true
  · have hh := isHeaps_len (isEqual_heaps h)
    simp only [h, if_true]
    refine Ev.bind (impl_sumsOf.ev (overOf l) (by rw [overOf_length]; omega)) ?_
    have e : wrap64 ((l.length : Int) - 1) = ((l.length - 1 : Nat) : Int) := by rw [w64 _ (by omega) (by omega)]; omega
    simp only [psums_length, overOf_length, e, if_pos (show (0 : Int) ≤ ((l.length - 1 : Nat) : Int) by omega), if_pos (show ((l.length - 1 : Nat) : Int) ≤ (l.length : Int) by omega), show (((l.length - 1 : Nat) : Int)).toNat = l.length - 1 by omega, psums_take]
    exact Ev.now _
  · simp only [Bool.not_eq_true] at h
    simp only [h]
    simpa using Ev.now _
theorem flowsR_len (l : List Int) (hl : l.length ≤ 1048576) : (flowsR l).1.length ≤ 1048576 := by
  unfold flowsR
  split
  · rw [flowsOf_length]; omega
  · simp
theorem impl_size.is (x : Int) : impl_size.f x = some (absw x) := rfl
theorem impl_sizes.l0ev (n : Int) (hn : n ≤ 1048576) : ∀ (tl done : List Int) (a : Int), ((done ++ tl).length : Int) = n → Ev (fun k => impl_sizes.l0 k a (done ++ tl) n done.length) ((absSum tl a)) := by
  intro tl
  induction tl with
  | nil =>
    intro done a hd  
    refine Ev.step (f := fun _ => some ((absSum [] a))) (fun k => ?_) (Ev.now _)
    simp only [impl_sizes.l0]
    simp at hd
    rw [if_neg (by omega)]
    all_goals simp [absSum]
  | cons x xs ih =>
    intro done a hd  
    have hd' : (done.length : Int) + (xs.length + 1) = n := by simpa using hd
    skip
    have hx : rd (done ++ x :: xs) (done.length : Int) = x := by simp [rd]
    skip
    have h := ih (done ++ [x]) (wrap64 (a + absw x)) (by simp; omega) 
    have e_ : (absSum (x :: xs) a) = (absSum xs (wrap64 (a + absw x))) := by simp [absSum]
    rw [e_]
    refine Ev.step (f := fun k => impl_sizes.l0 k (wrap64 (a + absw x)) (done ++ [x] ++ xs) n ((done ++ [x]).length : Int)) (fun k => ?_) (by simpa using h)
    simp only [impl_sizes.l0, hx, impl_size.is, Option.bind_some]
    rw [if_pos (by omega), if_pos (by omega), if_pos (by simp; omega), w64s done.length (by omega)]
    simp
theorem impl_sizes.ev (l : List Int) (hl : l.length ≤ 1048576) : Ev (fun k => impl_sizes.f k l) (absSum l 0) := by
  have := impl_sizes.l0ev l.length (by omega) l [] 0 (by simp)
  simpa [impl_sizes.f] using this
theorem impl_LineDistance.ev (l : List Int) (hl : l.length ≤ 1048576) : Ev (fun k => impl_LineDistance.f k l) (lineR l) := by
  refine Ev.bind (impl_LineFlows.ev l hl) ?_
  have e : (absSum (flowsR l).1 0, (flowsR l).2) = lineR l := by
    unfold flowsR lineR
    split <;> simp [absSum]
  rw [← e]
  exact Ev.bind (impl_sizes.ev (flowsR l).1 (flowsR_len l hl)) (Ev.now _)
theorem FnExactLineDistance : laws_FnExactLineDistance.Pure := by
  intro l _ _ _
  by_cases hl : (l.length : Int) > 1048576
  · exact ⟨0, by unfold laws_FnExactLineDistance.f; rw [if_pos hl]⟩
  obtain ⟨K1, h1⟩ := laws_toIntS.ev l (by omega)
  obtain ⟨K2, h2⟩ := spec_LineDistance.ev l (by omega)
  obtain ⟨K3, h3⟩ := impl_LineDistance.ev l (by omega)
  generalize lineR l = v at h2 h3
  obtain ⟨v,w⟩ := v
  obtain ⟨K4, h4⟩ := laws_eqIntS.ev l (by omega)
  dsimp only at h1 h2 h3 h4
  refine ⟨K1 + K2 + K3 + K4 + 1, ?_⟩
  simp (disch := omega) only [laws_FnExactLineDistance.f, if_neg hl, h1, h2, h3, h4, Option.bind_some, bne_self_eq_false, Bool.false_eq_true, if_true, if_false]
  simp (disch := omega) only [laws_FnExactLineDistance.j0, h1, h4, Option.bind_some, Bool.false_eq_true, if_true, if_false]

end Go.Proofs.Ytfkkbbkelehibaa.Pure
