/- The program's SpreadOf returns what the reference's returns, for all arguments. It has no conditions. -/
import Derived.Test.YtfkkbbkelehibaaPFnExactSpreadOfx2
namespace Go.Proofs.Ytfkkbbkelehibaa.Pure
open Go.RowKit Go.Proofs.Ytfkkbbkelehibaa.PFnExactSpreadOf Go.Proofs.YtfkkbbkelehibaaW.PrintWords Go.Proofs.YtfkkbbkelehibaaW.PrintLast
set_option linter.unusedVariables false
set_option linter.unusedSimpArgs false

/-! ### small words -/
theorem w64 (n : Int) (h1 : -9223372036854775808 ≤ n) (h2 : n ≤ 9223372036854775807) : wrap64 n = n := by unfold wrap64; omega
theorem w64s (i : Nat) (h : i < 9223372036854775807) : wrap64 ((i : Int) + 1) = ((i + 1 : Nat) : Int) := by unfold wrap64; omega
theorem rd_at (l : List Int) (i : Nat) (h : i < l.length) : rd l (i : Int) = l[i] := by simp [rd, List.getD_eq_getElem?_getD, List.getElem?_eq_getElem h]
theorem wf64 {x : Int} (h : (Lit.int .i64 x).wf = true) : -9223372036854775808 ≤ x ∧ x ≤ 9223372036854775807 := by
  simp [Lit.wf, IntKind.min, IntKind.max, IntKind.bits, IntKind.signed] at h
  omega
/-! ### copies, marks -/
theorem laws_toIntS.l0ev (l : List Int) (hl : l.length ≤ 1048576) (d : Nat) : ∀ i, i + d = l.length → Ev (fun k => laws_toIntS.l0 k l (l.take i ++ List.replicate d 0) i) l := by
  induction d with
  | zero =>
    intro i hi
    refine Ev.step (f := fun _ => some l) (fun k => ?_) (Ev.now _)
    simp only [laws_toIntS.l0]
    rw [if_neg (by omega)]
    simp [List.take_of_length_le (show l.length ≤ i by omega)]
  | succ d ih =>
    intro i hi
    refine Ev.step (f := fun k => laws_toIntS.l0 k l (l.take (i + 1) ++ List.replicate d 0) ((i + 1 : Nat) : Int)) (fun k => ?_) (ih (i + 1) (by omega))
    simp only [laws_toIntS.l0]
    rw [if_pos (by omega), if_pos (by omega), if_pos (by simp; omega), w64s i (by omega), rd_at l i (by omega)]
    congr 1
    rw [show ((i : Int)).toNat = i by omega, List.set_append_right _ _ (by simp; omega), List.replicate_succ, List.length_take, show i - min i l.length = 0 by omega, List.set_cons_zero, List.take_succ_eq_append_getElem (show i < l.length by omega)]
    simp only [List.append_assoc, List.cons_append, List.nil_append]
theorem laws_toIntS.ev (l : List Int) (hl : l.length ≤ 1048576) : Ev (fun k => laws_toIntS.f k l) l := by
  have h := laws_toIntS.l0ev l hl l.length 0 (by omega)
  unfold laws_toIntS.f
  simp only [if_pos (show (0 : Int) ≤ (l.length : Int) by omega), if_pos (show (l.length : Int).toNat ≤ 35184372088832 by omega)]
  simpa using h
theorem laws_eqIntS.l0ev (l : List Int) (hl : l.length ≤ 1048576) (d : Nat) : ∀ i, i + d = l.length → Ev (fun k => laws_eqIntS.l0 k l l i) true := by
  induction d with
  | zero =>
    intro i hi
    refine Ev.step (f := fun _ => some true) (fun k => ?_) (Ev.now _)
    simp only [laws_eqIntS.l0]
    rw [if_neg (by omega)]
  | succ d ih =>
    intro i hi
    refine Ev.step (f := fun k => laws_eqIntS.l0 k l l ((i + 1 : Nat) : Int)) (fun k => ?_) (ih (i + 1) (by omega))
    simp only [laws_eqIntS.l0]
    rw [if_pos (by omega), if_pos (by omega), if_pos (by omega), if_pos trivial, w64s i (by omega)]
theorem laws_eqIntS.ev (l : List Int) (hl : l.length ≤ 1048576) : Ev (fun k => laws_eqIntS.f k l l) true := by
  unfold laws_eqIntS.f
  simp only [if_true]
  exact laws_eqIntS.l0ev l hl l.length 0 (by omega)
def mxs : List Int → Int → Int
  | [], a => a
  | x :: xs, a => mxs xs (mx a x)
def mns : List Int → Int → Int
  | [], a => a
  | x :: xs, a => mns xs (mn a x)
theorem spec_l1In.is (x a b : Int) : spec_l1In.f x a b = some (decide (a ≤ x) && decide (x ≤ b)) := by
  unfold spec_l1In.f
  by_cases h : x ≥ a
  · simp [h, show a ≤ x from h]
  · simp [h, show ¬ a ≤ x from h]
def allIn (l : List Int) (a b : Int) : Bool := l.all fun x => decide (a ≤ x) && decide (x ≤ b)
theorem spec_l1All.l0ev (a b : Int) (n : Int) (hn : n ≤ 1048576) : ∀ (tl done : List Int), ((done ++ tl).length : Int) = n → Ev (fun k => spec_l1All.l0 k a b (done ++ tl) n done.length) (allIn tl a b) := by
  intro tl
  induction tl with
  | nil =>
    intro done hd
    refine Ev.step (f := fun _ => some true) (fun k => ?_) (Ev.now _)
    simp only [spec_l1All.l0]
    simp at hd
    rw [if_neg (by omega)]
  | cons x xs ih =>
    intro done hd
    have hd' : (done.length : Int) + (xs.length + 1) = n := by simpa using hd
    have hx : rd (done ++ x :: xs) (done.length : Int) = x := by simp [rd]
    by_cases hp : (decide (a ≤ x) && decide (x ≤ b)) = true
    · have h := ih (done ++ [x]) (by simp; omega)
      refine Ev.step (f := fun k => spec_l1All.l0 k a b (done ++ [x] ++ xs) n ((done ++ [x]).length : Int)) (fun k => ?_) ?_
      · simp only [spec_l1All.l0]
        rw [if_pos (by omega), if_pos (by omega), if_pos (by simp; omega), hx, spec_l1In.is, hp]
        simp only [Option.bind_some, if_true]
        rw [w64s done.length (by omega)]
        simp
      · rw [show allIn (x :: xs) a b = allIn xs a b by simp [allIn] at hp ⊢; simp [hp]]
        exact h
    · refine Ev.step (f := fun _ => some false) (fun k => ?_) (by rw [show allIn (x :: xs) a b = false by simp [allIn] at hp ⊢; intro h1 h2; exact absurd (hp h1) (by omega)]; exact Ev.now _)
      simp only [spec_l1All.l0]
      rw [if_pos (by omega), if_pos (by omega), if_pos (by simp; omega), hx, spec_l1In.is]
      simp only [Option.bind_some]
      rw [if_neg hp]
theorem spec_l1All.ev (l : List Int) (a b : Int) (hl : l.length ≤ 1048576) : Ev (fun k => spec_l1All.f k l a b) (allIn l a b) := by
  have h := spec_l1All.l0ev a b l.length (by omega) l [] (by simp)
  simpa [spec_l1All.f] using h
theorem impl_within.is (x a b : Int) : impl_within.f x a b = some (decide (a ≤ x) && decide (x ≤ b)) := by
  unfold impl_within.f
  by_cases h : x ≥ a
  · simp [h, show a ≤ x from h]
  · simp [h, show ¬ a ≤ x from h]
def isHeaps (l : List Int) : Bool := (decide (1 ≤ (l.length : Int)) && decide ((l.length : Int) ≤ 12)) && allIn l 0 1000
theorem spec_hpGood.ev (l : List Int) (hl : l.length ≤ 1048576) : Ev (fun k => spec_hpGood.f k l) (isHeaps l) := by
  unfold spec_hpGood.f isHeaps
  simp only [spec_l1In.is, Option.bind_some]
  by_cases h : (decide (1 ≤ (l.length : Int)) && decide ((l.length : Int) ≤ 12)) = true
  · simp only [h, if_true, Bool.true_and]
    exact Ev.bind (spec_l1All.ev l 0 1000 hl) (Ev.now _)
  · simp only [h]
    simpa using Ev.now false
theorem impl_AreHeaps.is (l : List Int) : impl_AreHeaps.f l = some (isHeaps l) := by
  unfold impl_AreHeaps.f isHeaps impl_areIn.f allIn
  simp only [impl_within.is, Option.bind_some]
  by_cases h : (decide (1 ≤ (l.length : Int)) && decide ((l.length : Int) ≤ 12)) = true
  · simp only [h, if_true, Bool.true_and]
  · simp only [h]
    simp
def spreadW : List Int → Int
  | [] => 0
  | x :: xs => wrap64 (mxs xs x - mns xs x)
def spreadR (l : List Int) : Int × Bool := if isHeaps l = true then (spreadW l, true) else (0, false)
theorem isHeaps_cons {l : List Int} (h : isHeaps l = true) : ∃ x xs, l = x :: xs ∧ xs.length ≤ 11 := by
  cases l with
  | nil => simp [isHeaps] at h
  | cons x xs => exact ⟨x, xs, rfl, by simp [isHeaps] at h; omega⟩
theorem slices_Max_int_int.l0ev : ∀ (tl done : List Int) (a : Int), done.length + tl.length ≤ 1048576 → Ev (fun k => slices_Max_int_int.l0 k (done ++ tl) a done.length) (mxs tl a) := by
  intro tl
  induction tl with
  | nil =>
    intro done a hd
    refine Ev.step (f := fun _ => some a) (fun k => ?_) (Ev.now _)
    simp only [slices_Max_int_int.l0]
    rw [if_neg (by simp)]
  | cons x xs ih =>
    intro done a hd
    simp only [List.length_cons] at hd
    have hx : rd (done ++ x :: xs) (done.length : Int) = x := by simp [rd]
    have h := ih (done ++ [x]) (mx a x) (by simp; omega)
    refine Ev.step (f := fun k => slices_Max_int_int.l0 k (done ++ [x] ++ xs) (mx a x) ((done ++ [x]).length : Int)) (fun k => ?_) (by simpa [mxs] using h)
    simp only [slices_Max_int_int.l0, hx]
    rw [if_pos (by simp; omega), if_pos (by omega), w64s done.length (by omega)]
    simp
theorem slices_Max_int_int.ev (x : Int) (xs : List Int) (hl : xs.length ≤ 1048575) : Ev (fun k => slices_Max_int_int.f k (x :: xs)) (mxs xs x) := by
  have h := slices_Max_int_int.l0ev xs [x] x (by simp; omega)
  unfold slices_Max_int_int.f
  simp only [if_neg (show ¬ (((x :: xs).length : Int) < 1) by simp; omega), if_pos (show (0 : Int) < ((x :: xs).length : Int) by simp)]
  have e : rd (x :: xs) 0 = x := by simp [rd]
  rw [e]
  simpa using h
theorem slices_Min_int_int.l0ev : ∀ (tl done : List Int) (a : Int), done.length + tl.length ≤ 1048576 → Ev (fun k => slices_Min_int_int.l0 k (done ++ tl) a done.length) (mns tl a) := by
  intro tl
  induction tl with
  | nil =>
    intro done a hd
    refine Ev.step (f := fun _ => some a) (fun k => ?_) (Ev.now _)
    simp only [slices_Min_int_int.l0]
    rw [if_neg (by simp)]
  | cons x xs ih =>
    intro done a hd
    simp only [List.length_cons] at hd
    have hx : rd (done ++ x :: xs) (done.length : Int) = x := by simp [rd]
    have h := ih (done ++ [x]) (mn a x) (by simp; omega)
    refine Ev.step (f := fun k => slices_Min_int_int.l0 k (done ++ [x] ++ xs) (mn a x) ((done ++ [x]).length : Int)) (fun k => ?_) (by simpa [mns] using h)
    simp only [slices_Min_int_int.l0, hx]
    rw [if_pos (by simp; omega), if_pos (by omega), w64s done.length (by omega)]
    simp
theorem slices_Min_int_int.ev (x : Int) (xs : List Int) (hl : xs.length ≤ 1048575) : Ev (fun k => slices_Min_int_int.f k (x :: xs)) (mns xs x) := by
  have h := slices_Min_int_int.l0ev xs [x] x (by simp; omega)
  unfold slices_Min_int_int.f
  simp only [if_neg (show ¬ (((x :: xs).length : Int) < 1) by simp; omega), if_pos (show (0 : Int) < ((x :: xs).length : Int) by simp)]
  have e : rd (x :: xs) 0 = x := by simp [rd]
  rw [e]
  simpa using h
theorem impl_SpreadOf.ev (l : List Int) (hl : l.length ≤ 1048576) : Ev (fun k => impl_SpreadOf.f k l) (spreadR l) := by
  unfold impl_SpreadOf.f spreadR
  simp only [impl_AreHeaps.is, Option.bind_some]
  by_cases h : isHeaps l = true
  · obtain ⟨x, xs, rfl, hx⟩ := isHeaps_cons h
    simp only [h, if_true]
    exact Ev.bind (a := spreadW (x :: xs)) (Ev.bind (slices_Max_int_int.ev x xs (by omega)) (Ev.bind (slices_Min_int_int.ev x xs (by omega)) (Ev.now _))) (Ev.now _)
  · simp only [h]
    simpa using Ev.now _
theorem spec_l1Least.is (x y : Int) : spec_l1Least.f x y = some (mn x y) := by
  unfold spec_l1Least.f mn
  by_cases h : x < y
  · rw [if_pos h]; congr 1; omega
  · rw [if_neg h]; congr 1; omega
theorem spec_l1Most.is (x y : Int) : spec_l1Most.f x y = some (mx x y) := by
  unfold spec_l1Most.f mx
  by_cases h : x > y
  · rw [if_pos h]; congr 1; omega
  · rw [if_neg h]; congr 1; omega
theorem spec_SpreadOf.l0ev (n : Int) (hn : n ≤ 1048576) : ∀ (tl done : List Int) (a : Int) (b : Int), ((done ++ tl).length : Int) = n → Ev (fun k => spec_SpreadOf.l0 k a b (done ++ tl) n done.length) ((wrap64 (mxs tl b - mns tl a), true)) := by
  intro tl
  induction tl with
  | nil =>
    intro done a b hd  
    refine Ev.step (f := fun _ => some ((wrap64 (mxs [] b - mns [] a), true))) (fun k => ?_) (Ev.now _)
    simp only [spec_SpreadOf.l0]
    simp at hd
    rw [if_neg (by omega)]
    all_goals simp [mxs, mns]
  | cons x xs ih =>
    intro done a b hd  
    have hd' : (done.length : Int) + (xs.length + 1) = n := by simpa using hd
    skip
    have hx : rd (done ++ x :: xs) (done.length : Int) = x := by simp [rd]
    skip
    have h := ih (done ++ [x]) (mn a x) (mx b x) (by simp; omega) 
    have e_ : (wrap64 (mxs (x :: xs) b - mns (x :: xs) a), true) = (wrap64 (mxs xs (mx b x) - mns xs (mn a x)), true) := by simp [mxs, mns]
    rw [e_]
    refine Ev.step (f := fun k => spec_SpreadOf.l0 k (mn a x) (mx b x) (done ++ [x] ++ xs) n ((done ++ [x]).length : Int)) (fun k => ?_) (by simpa using h)
    simp only [spec_SpreadOf.l0, hx, spec_l1Least.is, spec_l1Most.is, Option.bind_some]
    rw [if_pos (by omega), if_pos (by omega), if_pos (by simp; omega), w64s done.length (by omega)]
    simp
theorem spec_SpreadOf.ev (l : List Int) (hl : l.length ≤ 1048576) : Ev (fun k => spec_SpreadOf.f k l) (spreadR l) := by
  refine Ev.bind (spec_hpGood.ev l hl) ?_
  unfold spreadR
  by_cases h : isHeaps l = true
  · obtain ⟨x, xs, rfl, hx⟩ := isHeaps_cons h
    simp only [h, if_true, if_pos (show (0 : Int) < ((x :: xs).length : Int) by simp)]
    have e : rd (x :: xs) 0 = x := by simp [rd]
    have := spec_SpreadOf.l0ev (x :: xs).length (by simp; omega) (x :: xs) [] x x (by simp)
    rw [e]
    simpa [spreadW, mxs, mns, mx, mn] using this
  · simp only [h]
    simpa using Ev.now _
theorem FnExactSpreadOf : laws_FnExactSpreadOf.Pure := by
  intro l _ _ _
  by_cases hl : (l.length : Int) > 1048576
  · exact ⟨0, by unfold laws_FnExactSpreadOf.f; rw [if_pos hl]⟩
  obtain ⟨K1, h1⟩ := laws_toIntS.ev l (by omega)
  obtain ⟨K2, h2⟩ := spec_SpreadOf.ev l (by omega)
  obtain ⟨K3, h3⟩ := impl_SpreadOf.ev l (by omega)
  generalize spreadR l = v at h2 h3
  obtain ⟨v,w⟩ := v
  obtain ⟨K4, h4⟩ := laws_eqIntS.ev l (by omega)
  dsimp only at h1 h2 h3 h4
  refine ⟨K1 + K2 + K3 + K4 + 1, ?_⟩
  simp (disch := omega) only [laws_FnExactSpreadOf.f, if_neg hl, h1, h2, h3, h4, Option.bind_some, bne_self_eq_false, Bool.false_eq_true, if_true, if_false]
  simp (disch := omega) only [laws_FnExactSpreadOf.j0, h1, h4, Option.bind_some, Bool.false_eq_true, if_true, if_false]

end Go.Proofs.Ytfkkbbkelehibaa.Pure
