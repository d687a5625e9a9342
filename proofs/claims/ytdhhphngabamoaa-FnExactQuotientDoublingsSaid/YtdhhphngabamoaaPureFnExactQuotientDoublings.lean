/- The program's QuotientDoublings returns what the reference's returns, for all arguments. It has no conditions. -/
import Derived.Test.YtdhhphngabamoaaPFnExactQuotientDoublingsx6
namespace Go.Proofs.Ytdhhphngabamoaa.Pure
open Go.RowKit Go.Proofs.Ytdhhphngabamoaa.PFnExactQuotientDoublings Go.Proofs.YtdhhphngabamoaaW.PrintWords Go.Proofs.YtdhhphngabamoaaW.PrintLast
set_option linter.unusedVariables false
set_option linter.unusedSimpArgs false

/-! ### small words -/
theorem w64 (n : Int) (h1 : -9223372036854775808 ≤ n) (h2 : n ≤ 9223372036854775807) : wrap64 n = n := by unfold wrap64; omega
theorem w64s (i : Nat) (h : i < 9223372036854775807) : wrap64 ((i : Int) + 1) = ((i + 1 : Nat) : Int) := by unfold wrap64; omega
theorem rd_at (l : List Int) (i : Nat) (h : i < l.length) : rd l (i : Int) = l[i] := by simp [rd, List.getD_eq_getElem?_getD, List.getElem?_eq_getElem h]
theorem wf64 {x : Int} (h : (Lit.int .i64 x).wf = true) : -9223372036854775808 ≤ x ∧ x ≤ 9223372036854775807 := by
  simp [Lit.wf, IntKind.min, IntKind.max, IntKind.bits, IntKind.signed] at h
  omega
/-! ### copies, marks -/
theorem laws_toIntS.l0ev (l : List Int) (hl : l.length ≤ 1048576) (d : Nat) : ∀ i, i + d = l.length → Ev (fun k => laws_toIntS.l0 k l (l.take i ++ List.replicate d 0) i) l := by
  induction d with
  | zero =>
    intro i hi
    refine Ev.step (f := fun _ => some l) (fun k => ?_) (Ev.now _)
    simp only [laws_toIntS.l0]
    rw [if_neg (by omega)]
    simp [List.take_of_length_le (show l.length ≤ i by omega)]
  | succ d ih =>
    intro i hi
    refine Ev.step (f := fun k => laws_toIntS.l0 k l (l.take (i + 1) ++ List.replicate d 0) ((i + 1 : Nat) : Int)) (fun k => ?_) (ih (i + 1) (by omega))
    simp only [laws_toIntS.l0]
    rw [if_pos (by omega), if_pos (by omega), if_pos (by simp; omega), w64s i (by omega), rd_at l i (by omega)]
    congr 1
    rw [show ((i : Int)).toNat = i by omega, List.set_append_right _ _ (by simp; omega), List.replicate_succ, List.length_take, show i - min i l.length = 0 by omega, List.set_cons_zero, List.take_succ_eq_append_getElem (show i < l.length by omega)]
    simp only [List.append_assoc, List.cons_append, List.nil_append]
theorem laws_toIntS.ev (l : List Int) (hl : l.length ≤ 1048576) : Ev (fun k => laws_toIntS.f k l) l := by
  have h := laws_toIntS.l0ev l hl l.length 0 (by omega)
  unfold laws_toIntS.f
  simp only [if_pos (show (0 : Int) ≤ (l.length : Int) by omega), if_pos (show (l.length : Int).toNat ≤ 35184372088832 by omega)]
  simpa using h
theorem laws_eqIntS.l0ev (l : List Int) (hl : l.length ≤ 1048576) (d : Nat) : ∀ i, i + d = l.length → Ev (fun k => laws_eqIntS.l0 k l l i) true := by
  induction d with
  | zero =>
    intro i hi
    refine Ev.step (f := fun _ => some true) (fun k => ?_) (Ev.now _)
    simp only [laws_eqIntS.l0]
    rw [if_neg (by omega)]
  | succ d ih =>
    intro i hi
    refine Ev.step (f := fun k => laws_eqIntS.l0 k l l ((i + 1 : Nat) : Int)) (fun k => ?_) (ih (i + 1) (by omega))
    simp only [laws_eqIntS.l0]
    rw [if_pos (by omega), if_pos (by omega), if_pos (by omega), if_pos trivial, w64s i (by omega)]
theorem laws_eqIntS.ev (l : List Int) (hl : l.length ≤ 1048576) : Ev (fun k => laws_eqIntS.f k l l) true := by
  unfold laws_eqIntS.f
  simp only [if_true]
  exact laws_eqIntS.l0ev l hl l.length 0 (by omega)
/-- Marked cells, from k on. -/
def marks : List Int → Int → List Int
  | [], _ => []
  | _ :: xs, k => k :: marks xs (k + 1)
theorem marks_length : ∀ (l : List Int) (k : Int), (marks l k).length = l.length
  | [], _ => rfl
  | _ :: xs, k => by simp [marks, marks_length xs]
theorem laws_markIntS.l0ev (hd : List Int) : ∀ (tl done : List Int) (m : Int), done.length + tl.length ≤ 1048576 → 0 ≤ m → m ≤ 1048577 + done.length →
    Ev (fun k => laws_markIntS.l0 k (done ++ tl) m done.length) (m + tl.length, done ++ marks tl m) := by
  intro tl
  induction tl with
  | nil =>
    intro done m h1 h2 h3
    refine Ev.step (f := fun _ => some (m, done)) (fun k => ?_) (by simpa [marks] using Ev.now (m, done))
    simp only [laws_markIntS.l0]
    rw [if_neg (by simp)]
    simp
  | cons x xs ih =>
    intro done m h1 h2 h3
    simp only [List.length_cons] at h1
    have h := ih (done ++ [m]) (m + 1) (by simp; omega) (by omega) (by simp; omega)
    refine Ev.step (f := fun k => laws_markIntS.l0 k (done ++ [m] ++ xs) (m + 1) ((done ++ [m]).length : Int)) (fun k => ?_) ?_
    · simp only [laws_markIntS.l0]
      rw [if_pos (by simp; omega), if_pos (by omega), w64 (m + 1) (by omega) (by omega), w64s done.length (by omega)]
      congr 1
      · simp [List.set_append_right]
      · simp
    · have e : (m + ((x :: xs).length : Int), done ++ marks (x :: xs) m) = (m + 1 + (xs.length : Int), done ++ [m] ++ marks xs (m + 1)) := by
        simp [marks]; omega
      rw [e]; exact h
theorem laws_markIntS.ev (l : List Int) (hl : l.length ≤ 1048576) : Ev (fun k => laws_markIntS.f k l 1) (1 + (l.length : Int), marks l 1) := by
  have h := laws_markIntS.l0ev [] l [] 1 (by simpa using hl) (by omega) (by simp)
  simpa [laws_markIntS.f] using h
theorem laws_eqDoublingS.l0ev (l : List S70) (hl : l.length ≤ 1048576) (d : Nat) : ∀ i, i + d = l.length → Ev (fun k => laws_eqDoublingS.l0 k l l i) true := by
  induction d with
  | zero =>
    intro i hi
    refine Ev.step (f := fun _ => some true) (fun k => ?_) (Ev.now _)
    simp only [laws_eqDoublingS.l0]
    rw [if_neg (by omega)]
  | succ d ih =>
    intro i hi
    refine Ev.step (f := fun k => laws_eqDoublingS.l0 k l l ((i + 1 : Nat) : Int)) (fun k => ?_) (ih (i + 1) (by omega))
    simp only [laws_eqDoublingS.l0, laws_eqDoubling.f, if_true, Option.bind_some]
    rw [if_pos (by omega), if_pos (by omega), if_pos (by omega), w64s i (by omega)]
theorem laws_eqDoublingS.ev (l : List S70) (hl : l.length ≤ 1048576) : Ev (fun k => laws_eqDoublingS.f k l l) true := by
  unfold laws_eqDoublingS.f
  simp only [if_true]
  exact laws_eqDoublingS.l0ev l hl l.length 0 (by omega)
theorem rdD_app2 (done : List S70) (x : S70) (xs : List S70) : rd_T70 (done ++ x :: xs) (done.length : Int) = x := by simp [rd_T70]
/-- Marked doublings, from k on. -/
def dmarks : List S70 → Int → List S70
  | [], _ => []
  | _ :: xs, k => ⟨k, k + 1⟩ :: dmarks xs (k + 2)
theorem dmarks_length : ∀ (l : List S70) (k : Int), (dmarks l k).length = l.length
  | [], _ => rfl
  | _ :: xs, k => by simp [dmarks, dmarks_length xs]
theorem laws_markDoublingS.l0ev : ∀ (tl done : List S70) (m : Int), done.length + tl.length ≤ 1048576 → 0 ≤ m → m ≤ 1048577 + 2 * done.length →
    Ev (fun k => laws_markDoublingS.l0 k (done ++ tl) m done.length) (m + 2 * tl.length, done ++ dmarks tl m) := by
  intro tl
  induction tl with
  | nil =>
    intro done m h1 h2 h3
    refine Ev.step (f := fun _ => some (m, done)) (fun k => ?_) (by simpa [dmarks] using Ev.now (m, done))
    simp only [laws_markDoublingS.l0]
    rw [if_neg (by simp)]
    simp
  | cons x xs ih =>
    intro done m h1 h2 h3
    simp only [List.length_cons] at h1
    have h := ih (done ++ [⟨m, m + 1⟩]) (m + 2) (by simp; omega) (by omega) (by simp; omega)
    refine Ev.step (f := fun k => laws_markDoublingS.l0 k (done ++ [⟨m, m + 1⟩] ++ xs) (m + 2) ((done ++ [(⟨m, m + 1⟩ : S70)]).length : Int)) (fun k => ?_) ?_
    · simp only [laws_markDoublingS.l0, Option.bind_some]
      rw [if_pos (by simp; omega), if_pos (by omega), w64 (m + 1) (by omega) (by omega), w64 (m + 1 + 1) (by omega) (by omega), w64s done.length (by omega)]
      have s : ∀ (y z : S70), (done ++ y :: xs).set (done.length : Int).toNat z = done ++ z :: xs := by
        intro y z
        simp [List.set_append_right]
      simp only [s, rdD_app2]
      congr 1
      · simp [Int.add_assoc]
      · omega
      · simp
    · have e : (m + 2 * ((x :: xs).length : Int), done ++ dmarks (x :: xs) m) = (m + 2 + 2 * (xs.length : Int), done ++ [⟨m, m + 1⟩] ++ dmarks xs (m + 2)) := by
        simp [dmarks]; omega
      rw [e]; exact h
theorem laws_markDoublingS.ev (l : List S70) (hl : l.length ≤ 1048576) (m : Int) (h0 : 0 ≤ m) (h1 : m ≤ 1048577) : Ev (fun k => laws_markDoublingS.f k l m) (m + 2 * (l.length : Int), dmarks l m) := by
  have h := laws_markDoublingS.l0ev l [] m (by simpa using hl) h0 (by simpa using h1)
  simpa [laws_markDoublingS.f] using h
theorem laws_heldDoublingS.l0ev : ∀ (tl done : List S70) (m : Int), done.length + tl.length ≤ 1048576 → 0 ≤ m → m ≤ 1048577 + 2 * done.length →
    Ev (fun k => laws_heldDoublingS.l0 k (done ++ dmarks tl m) m done.length) (m + 2 * tl.length) := by
  intro tl
  induction tl with
  | nil =>
    intro done m h1 h2 h3
    refine Ev.step (f := fun _ => some m) (fun k => ?_) (by simpa [dmarks] using Ev.now m)
    simp only [laws_heldDoublingS.l0]
    rw [if_neg (by simp [dmarks])]
  | cons x xs ih =>
    intro done m h1 h2 h3
    simp only [List.length_cons] at h1
    have h := ih (done ++ [⟨m, m + 1⟩]) (m + 2) (by simp; omega) (by omega) (by simp; omega)
    refine Ev.step (f := fun k => laws_heldDoublingS.l0 k (done ++ [⟨m, m + 1⟩] ++ dmarks xs (m + 2)) (m + 2) ((done ++ [(⟨m, m + 1⟩ : S70)]).length : Int)) (fun k => ?_) ?_
    · simp only [laws_heldDoublingS.l0, dmarks, rdD_app2]
      rw [if_pos (by simp; omega), if_pos (by omega), if_pos trivial, w64 (m + 1) (by omega) (by omega), if_pos rfl, w64 (m + 1 + 1) (by omega) (by omega), w64s done.length (by omega)]
      congr 1
      · simp
      · omega
      · simp
    · have e : m + 2 * ((x :: xs).length : Int) = m + 2 + 2 * (xs.length : Int) := by simp; omega
      rw [e]; exact h
theorem laws_heldDoublingS.ev (l : List S70) (hl : l.length ≤ 1048576) : Ev (fun k => laws_heldDoublingS.f k (dmarks l 1) 1) (1 + 2 * (l.length : Int)) := by
  have h := laws_heldDoublingS.l0ev l [] 1 (by simpa using hl) (by omega) (by simp)
  simpa [laws_heldDoublingS.f] using h
theorem spec_l1In.is (x a b : Int) : spec_l1In.f x a b = some (decide (a ≤ x) && decide (x ≤ b)) := by
  unfold spec_l1In.f
  by_cases h : x ≥ a
  · simp [h, show a ≤ x from h]
  · simp [h, show ¬ a ≤ x from h]
def allIn (l : List Int) (a b : Int) : Bool := l.all fun x => decide (a ≤ x) && decide (x ≤ b)
theorem spec_l1All.l0ev (a b : Int) (n : Int) (hn : n ≤ 1048576) : ∀ (tl done : List Int), ((done ++ tl).length : Int) = n → Ev (fun k => spec_l1All.l0 k a b (done ++ tl) n done.length) (allIn tl a b) := by
  intro tl
  induction tl with
  | nil =>
    intro done hd
    refine Ev.step (f := fun _ => some true) (fun k => ?_) (Ev.now _)
    simp only [spec_l1All.l0]
    simp at hd
    rw [if_neg (by omega)]
  | cons x xs ih =>
    intro done hd
    have hd' : (done.length : Int) + (xs.length + 1) = n := by simpa using hd
    have hx : rd (done ++ x :: xs) (done.length : Int) = x := by simp [rd]
    by_cases hp : (decide (a ≤ x) && decide (x ≤ b)) = true
    · have h := ih (done ++ [x]) (by simp; omega)
      refine Ev.step (f := fun k => spec_l1All.l0 k a b (done ++ [x] ++ xs) n ((done ++ [x]).length : Int)) (fun k => ?_) ?_
      · simp only [spec_l1All.l0]
        rw [if_pos (by omega), if_pos (by omega), if_pos (by simp; omega), hx, spec_l1In.is, hp]
        simp only [Option.bind_some, if_true]
        rw [w64s done.length (by omega)]
        simp
      · rw [show allIn (x :: xs) a b = allIn xs a b by simp [allIn] at hp ⊢; simp [hp]]
        exact h
    · refine Ev.step (f := fun _ => some false) (fun k => ?_) (by rw [show allIn (x :: xs) a b = false by simp [allIn] at hp ⊢; intro h1 h2; exact absurd (hp h1) (by omega)]; exact Ev.now _)
      simp only [spec_l1All.l0]
      rw [if_pos (by omega), if_pos (by omega), if_pos (by simp; omega), hx, spec_l1In.is]
      simp only [Option.bind_some]
      rw [if_neg hp]
theorem spec_l1All.ev (l : List Int) (a b : Int) (hl : l.length ≤ 1048576) : Ev (fun k => spec_l1All.f k l a b) (allIn l a b) := by
  have h := spec_l1All.l0ev a b l.length (by omega) l [] (by simp)
  simpa [spec_l1All.f] using h
theorem impl_within.is (x a b : Int) : impl_within.f x a b = some (decide (a ≤ x) && decide (x ≤ b)) := by
  unfold impl_within.f
  by_cases h : x ≥ a
  · simp [h, show a ≤ x from h]
  · simp [h, show ¬ a ≤ x from h]
def isHeaps (l : List Int) : Bool := (decide (1 ≤ (l.length : Int)) && decide ((l.length : Int) ≤ 12)) && allIn l 0 1000
theorem spec_hpGood.ev (l : List Int) (hl : l.length ≤ 1048576) : Ev (fun k => spec_hpGood.f k l) (isHeaps l) := by
  unfold spec_hpGood.f isHeaps
  simp only [spec_l1In.is, Option.bind_some]
  by_cases h : (decide (1 ≤ (l.length : Int)) && decide ((l.length : Int) ≤ 12)) = true
  · simp only [h, if_true, Bool.true_and]
    exact Ev.bind (spec_l1All.ev l 0 1000 hl) (Ev.now _)
  · simp only [h]
    simpa using Ev.now false
theorem impl_AreHeaps.is (l : List Int) : impl_AreHeaps.f l = some (isHeaps l) := by
  unfold impl_AreHeaps.f isHeaps impl_areIn.f allIn
  simp only [impl_within.is, Option.bind_some]
  by_cases h : (decide (1 ≤ (l.length : Int)) && decide ((l.length : Int) ≤ 12)) = true
  · simp only [h, if_true, Bool.true_and]
  · simp only [h]
    simp
/-- The sum as the machine makes it. -/
def wsum : List Int → Int → Int
  | [], a => a
  | x :: xs, a => wsum xs (wrap64 (a + x))
theorem spec_hpSum.l0ev (n : Int) (hn : n ≤ 1048576) : ∀ (tl done : List Int) (a : Int), ((done ++ tl).length : Int) = n → Ev (fun k => spec_hpSum.l0 k a (done ++ tl) n done.length) (wsum tl a) := by
  intro tl
  induction tl with
  | nil =>
    intro done a hd
    refine Ev.step (f := fun _ => some a) (fun k => ?_) (Ev.now a)
    simp only [spec_hpSum.l0]
    simp at hd
    rw [if_neg (by omega)]
  | cons x xs ih =>
    intro done a hd
    have hd' : (done.length : Int) + (xs.length + 1) = n := by simpa using hd
    have hx : rd (done ++ x :: xs) (done.length : Int) = x := by simp [rd]
    have h := ih (done ++ [x]) (wrap64 (a + x)) (by simp; omega)
    refine Ev.step (f := fun k => spec_hpSum.l0 k (wrap64 (a + x)) (done ++ [x] ++ xs) n ((done ++ [x]).length : Int)) (fun k => ?_) (by simpa [wsum] using h)
    simp only [spec_hpSum.l0]
    rw [if_pos (by omega), if_pos (by omega), if_pos (by simp; omega), hx, w64s done.length (by omega)]
    simp
theorem spec_hpSum.ev (l : List Int) (hl : l.length ≤ 1048576) : Ev (fun k => spec_hpSum.f k l) (wsum l 0) := by
  have h := spec_hpSum.l0ev l.length (by omega) l [] 0 (by simp)
  simpa [spec_hpSum.f] using h
theorem impl_sum.l0ev (n : Int) (hn : n ≤ 1048576) : ∀ (tl done : List Int) (a : Int), ((done ++ tl).length : Int) = n → Ev (fun k => impl_sum.l0 k a (done ++ tl) n done.length) (wsum tl a) := by
  intro tl
  induction tl with
  | nil =>
    intro done a hd
    refine Ev.step (f := fun _ => some a) (fun k => ?_) (Ev.now a)
    simp only [impl_sum.l0]
    simp at hd
    rw [if_neg (by omega)]
  | cons x xs ih =>
    intro done a hd
    have hd' : (done.length : Int) + (xs.length + 1) = n := by simpa using hd
    have hx : rd (done ++ x :: xs) (done.length : Int) = x := by simp [rd]
    have h := ih (done ++ [x]) (wrap64 (a + x)) (by simp; omega)
    refine Ev.step (f := fun k => impl_sum.l0 k (wrap64 (a + x)) (done ++ [x] ++ xs) n ((done ++ [x]).length : Int)) (fun k => ?_) (by simpa [wsum] using h)
    simp only [impl_sum.l0]
    rw [if_pos (by omega), if_pos (by omega), if_pos (by simp; omega), hx, w64s done.length (by omega)]
    simp
theorem impl_sum.ev (l : List Int) (hl : l.length ≤ 1048576) : Ev (fun k => impl_sum.f k l) (wsum l 0) := by
  have h := impl_sum.l0ev l.length (by omega) l [] 0 (by simp)
  simpa [impl_sum.f] using h
def isFew (l : List Int) : Bool := isHeaps l && ((decide (2 ≤ (l.length : Int)) && decide ((l.length : Int) ≤ 4)) && (decide (1 ≤ wsum l 0) && decide (wsum l 0 ≤ 40)))
theorem spec_dbGood.ev (l : List Int) (hl : l.length ≤ 1048576) : Ev (fun k => spec_dbGood.f k l) (isFew l) := by
  unfold spec_dbGood.f isFew
  simp only [spec_l1In.is, Option.bind_some]
  by_cases h2 : (decide (2 ≤ (l.length : Int)) && decide ((l.length : Int) ≤ 4)) = true
  · simp only [h2, if_true, Bool.true_and]
    refine Ev.bind (spec_hpGood.ev l hl) ?_
    by_cases h : isHeaps l = true
    · simp only [h, if_true, Bool.true_and]
      exact Ev.bind (spec_hpSum.ev l hl) (Ev.now _)
    · simp only [Bool.not_eq_true] at h
      simp only [h, Bool.false_and]
      exact Ev.now _
  · simp only [Bool.not_eq_true] at h2
    simp only [h2, Bool.false_and, Bool.and_false]
    exact Ev.now _
theorem impl_AreFewHeaps.ev (l : List Int) (hl : l.length ≤ 1048576) : Ev (fun k => impl_AreFewHeaps.f k l) (isFew l) := by
  unfold impl_AreFewHeaps.f isFew
  simp only [impl_AreHeaps.is, impl_within.is, Option.bind_some]
  by_cases h : isHeaps l = true
  · simp only [h, if_true, Bool.true_and]
    by_cases h2 : (decide (2 ≤ (l.length : Int)) && decide ((l.length : Int) ≤ 4)) = true
    · simp only [h2, if_true, Bool.true_and]
      exact Ev.bind (impl_sum.ev l hl) (Ev.now _)
    · simp only [Bool.not_eq_true] at h2
      simp only [h2, Bool.false_and]
      exact Ev.now _
  · simp only [Bool.not_eq_true] at h
    simp only [h, Bool.false_and]
    exact Ev.now _
theorem rd3_0 (a b c : Int) : rd [a, b, c] 0 = a := rfl
theorem rd3_1 (a b c : Int) : rd [a, b, c] 1 = b := rfl
theorem rd3_2 (a b c : Int) : rd [a, b, c] 2 = c := rfl
/-- The order's places: three different ones, whose numbers rise. -/
theorem o3_ok (l : List Int) (h : ∀ j : Int, 0 ≤ j → j < 3 → 0 ≤ rd l j ∧ rd l j ≤ 40) :
    (0 ≤ (qd.o3 l).1 ∧ (qd.o3 l).1 < 3) ∧ (0 ≤ (qd.o3 l).2.1 ∧ (qd.o3 l).2.1 < 3) ∧ (0 ≤ (qd.o3 l).2.2 ∧ (qd.o3 l).2.2 < 3) ∧ (qd.o3 l).1 ≠ (qd.o3 l).2.1 ∧ (qd.o3 l).1 ≠ (qd.o3 l).2.2 ∧ (qd.o3 l).2.1 ≠ (qd.o3 l).2.2 ∧
    rd l (qd.o3 l).1 ≤ rd l (qd.o3 l).2.1 ∧ rd l (qd.o3 l).2.1 ≤ rd l (qd.o3 l).2.2 ∧ ∀ j : Int, 0 ≤ j → j < 3 → rd l (qd.o3 l).1 ≤ rd l j := by
  have h0 := h 0 (by omega) (by omega)
  have h1 := h 1 (by omega) (by omega)
  have h2 := h 2 (by omega) (by omega)
  have e1 : wrap64 (rd l 1 - rd l 0) = rd l 1 - rd l 0 := w64 _ (by omega) (by omega)
  have e2 : wrap64 (rd l 2 - rd l 0) = rd l 2 - rd l 0 := w64 _ (by omega) (by omega)
  have e3 : wrap64 (rd l 2 - rd l 1) = rd l 2 - rd l 1 := w64 _ (by omega) (by omega)
  unfold qd.o3
  rw [e1, e2, e3]
  have key : ∀ j : Int, 0 ≤ j → j < 3 → j = 0 ∨ j = 1 ∨ j = 2 := by intro j _ _; omega
  split
  · split
    · split
      · refine ⟨by decide, by decide, by decide, by decide, by decide, by decide, by dsimp only; omega, by dsimp only; omega, fun j j0 j3 => ?_⟩
        rcases key j j0 j3 with rfl | rfl | rfl <;> dsimp only <;> omega
      · refine ⟨by decide, by decide, by decide, by decide, by decide, by decide, by dsimp only; omega, by dsimp only; omega, fun j j0 j3 => ?_⟩
        rcases key j j0 j3 with rfl | rfl | rfl <;> dsimp only <;> omega
    · refine ⟨by decide, by decide, by decide, by decide, by decide, by decide, by dsimp only; omega, by dsimp only; omega, fun j j0 j3 => ?_⟩
      rcases key j j0 j3 with rfl | rfl | rfl <;> dsimp only <;> omega
  · split
    · split
      · refine ⟨by decide, by decide, by decide, by decide, by decide, by decide, by dsimp only; omega, by dsimp only; omega, fun j j0 j3 => ?_⟩
        rcases key j j0 j3 with rfl | rfl | rfl <;> dsimp only <;> omega
      · refine ⟨by decide, by decide, by decide, by decide, by decide, by decide, by dsimp only; omega, by dsimp only; omega, fun j j0 j3 => ?_⟩
        rcases key j j0 j3 with rfl | rfl | rfl <;> dsimp only <;> omega
    · refine ⟨by decide, by decide, by decide, by decide, by decide, by decide, by dsimp only; omega, by dsimp only; omega, fun j j0 j3 => ?_⟩
      rcases key j j0 j3 with rfl | rfl | rfl <;> dsimp only <;> omega
section
variable {l out : List Int} {i : Nat} {v : List Int}
theorem dbo_end (h : i = 3) (hv : v = out) : Ev (fun k => spec_dbOrder.l0 k l out l 3 (i : Int)) v := by
  subst hv h
  refine Ev.step (f := fun _ => some v) (fun k => ?_) (Ev.now _)
  simp only [spec_dbOrder.l0]
  rw [if_neg (by omega)]
theorem dbo_go (hl : l.length = 3) (h : i < 3) (H : Ev (fun k => spec_dbOrder.l1 k l out (i : Int) (rd l (i : Int)) (out.length : Int) l 3 (i : Int)) v) : Ev (fun k => spec_dbOrder.l0 k l out l 3 (i : Int)) v := by
  refine Ev.step (fun k => ?_) H
  simp only [spec_dbOrder.l0]
  rw [if_pos (by omega), if_pos (by omega), if_pos (by omega)]
theorem dbo_more {p : Nat} {n j : Int} (hl : l.length = 3) (ho : out.length ≤ 3) (hp : p + 1 ≤ out.length) (hj : rd out (p : Int) = j) (j0 : 0 ≤ j ∧ j < 3) (c : rd l j > n) (H : Ev (fun k => spec_dbOrder.l1 k l out (i : Int) n (p : Int) l 3 (i : Int)) v) : Ev (fun k => spec_dbOrder.l1 k l out (i : Int) n ((p + 1 : Nat) : Int) l 3 (i : Int)) v := by
  refine Ev.step (fun k => ?_) H
  have e : wrap64 (((p + 1 : Nat) : Int) - 1) = (p : Int) := by rw [w64 _ (by omega) (by omega)]; omega
  simp only [spec_dbOrder.l1, e, hj]
  rw [if_pos (by omega), if_pos (by omega), if_pos (by omega), if_pos j0.1, if_pos (by omega), if_pos c]
theorem dbo_put0 {n : Int} (ho : out.length ≤ 3) (hi : i < 3) (H : Ev (fun k => spec_dbOrder.l0 k l ((i : Int) :: out) l 3 ((i + 1 : Nat) : Int)) v) : Ev (fun k => spec_dbOrder.l1 k l out (i : Int) n 0 l 3 (i : Int)) v := by
  refine Ev.step (fun k => ?_) H
  simp only [spec_dbOrder.l1, spec_l1Own.f]
  rw [if_neg (by omega), if_pos (by omega), if_pos (by omega)]
  have hn : ((0 : Int)).toNat = 0 := rfl
  simp only [hn, List.take_zero, List.drop_zero, Option.bind_some, List.nil_append]
  rw [if_pos (by simp)]
  simp only [Option.bind_some, List.append_nil, List.nil_append, List.length_nil]
  rw [if_pos (by omega), if_pos (by simp only [List.length_singleton]; omega), w64s i (by omega)]
  rfl
theorem dbo_put {p : Nat} {n j : Int} (hl : l.length = 3) (ho : out.length ≤ 3) (hi : i < 3) (hp : p + 1 ≤ out.length) (hj : rd out (p : Int) = j) (j0 : 0 ≤ j ∧ j < 3) (c : ¬ rd l j > n) (H : Ev (fun k => spec_dbOrder.l0 k l (out.take (p + 1) ++ [(i : Int)] ++ out.drop (p + 1)) l 3 ((i + 1 : Nat) : Int)) v) : Ev (fun k => spec_dbOrder.l1 k l out (i : Int) n ((p + 1 : Nat) : Int) l 3 (i : Int)) v := by
  refine Ev.step (fun k => ?_) H
  have e : wrap64 (((p + 1 : Nat) : Int) - 1) = (p : Int) := by rw [w64 _ (by omega) (by omega)]; omega
  have hn : (((p + 1 : Nat) : Int)).toNat = p + 1 := by omega
  have hlen : (out.take (p + 1)).length = p + 1 := by rw [List.length_take]; omega
  have hlen2 : (out.drop (p + 1)).length = out.length - (p + 1) := List.length_drop
  simp only [spec_dbOrder.l1, spec_l1Own.f, e, hj, hn, Option.bind_some, List.nil_append]
  rw [if_pos (by omega), if_pos (by omega), if_pos (by omega), if_pos j0.1, if_pos (by omega), if_neg c, if_pos (by omega), if_pos (by omega), if_pos (by simp only [List.length_nil]; omega)]
  simp only [Option.bind_some]
  rw [if_pos (by omega), if_pos (by simp only [List.length_append, List.length_singleton]; omega), w64s i (by omega)]
end
theorem spec_dbOrder.ev (l : List Int) (hl : l.length = 3) (h : ∀ j : Int, 0 ≤ j → j < 3 → 0 ≤ rd l j ∧ rd l j ≤ 40) : Ev (fun k => spec_dbOrder.f k l) [(qd.o3 l).1, (qd.o3 l).2.1, (qd.o3 l).2.2] := by
  have h0 := h 0 (by omega) (by omega)
  have h1 := h 1 (by omega) (by omega)
  have h2 := h 2 (by omega) (by omega)
  have e1 : wrap64 (rd l 1 - rd l 0) = rd l 1 - rd l 0 := w64 _ (by omega) (by omega)
  have e2 : wrap64 (rd l 2 - rd l 0) = rd l 2 - rd l 0 := w64 _ (by omega) (by omega)
  have e3 : wrap64 (rd l 2 - rd l 1) = rd l 2 - rd l 1 := w64 _ (by omega) (by omega)
  unfold spec_dbOrder.f
  rw [hl]
  refine dbo_go (i := 0) hl (by omega) (dbo_put0 (by simp) (by omega) ?_)
  refine dbo_go (i := 1) (out := [0]) hl (by omega) ?_
  by_cases c1 : rd l 1 < rd l 0
  · refine dbo_more (p := 0) (j := 0) hl (by simp) (by simp) rfl (by omega) c1 (dbo_put0 (by simp) (by omega) ?_)
    refine dbo_go (i := 2) (out := [1, 0]) hl (by omega) ?_
    by_cases c2 : rd l 2 < rd l 0
    · refine dbo_more (p := 1) (j := 0) hl (by simp) (by simp) rfl (by omega) c2 ?_
      by_cases c3 : rd l 2 < rd l 1
      · refine dbo_more (p := 0) (j := 1) hl (by simp) (by simp) rfl (by omega) c3 (dbo_put0 (by simp) (by omega) ?_)
        refine dbo_end (i := 3) rfl ?_
        unfold qd.o3
        rw [e1, e2, e3, if_pos (by omega), if_pos (by omega), if_pos (by omega)]
        rfl
      · refine dbo_put (p := 0) (j := 1) hl (by simp) (by omega) (by simp) rfl (by omega) c3 ?_
        refine dbo_end (i := 3) rfl ?_
        unfold qd.o3
        rw [e1, e2, e3, if_pos (by omega), if_pos (by omega), if_neg (by omega)]
        rfl
    · refine dbo_put (p := 1) (j := 0) hl (by simp) (by omega) (by simp) rfl (by omega) c2 ?_
      refine dbo_end (i := 3) rfl ?_
      unfold qd.o3
      rw [e1, e2, e3, if_pos (by omega), if_neg (by omega)]
      rfl
  · refine dbo_put (p := 0) (j := 0) hl (by simp) (by omega) (by simp) rfl (by omega) c1 ?_
    refine dbo_go (i := 2) (out := [0, 1]) hl (by omega) ?_
    by_cases c3 : rd l 2 < rd l 1
    · refine dbo_more (p := 1) (j := 1) hl (by simp) (by simp) rfl (by omega) c3 ?_
      by_cases c2 : rd l 2 < rd l 0
      · refine dbo_more (p := 0) (j := 0) hl (by simp) (by simp) rfl (by omega) c2 (dbo_put0 (by simp) (by omega) ?_)
        refine dbo_end (i := 3) rfl ?_
        unfold qd.o3
        rw [e1, e2, e3, if_neg (by omega), if_pos (by omega), if_pos (by omega)]
        rfl
      · refine dbo_put (p := 0) (j := 0) hl (by simp) (by omega) (by simp) rfl (by omega) c2 ?_
        refine dbo_end (i := 3) rfl ?_
        unfold qd.o3
        rw [e1, e2, e3, if_neg (by omega), if_pos (by omega), if_neg (by omega)]
        rfl
    · refine dbo_put (p := 1) (j := 1) hl (by simp) (by omega) (by simp) rfl (by omega) c3 ?_
      refine dbo_end (i := 3) rfl ?_
      unfold qd.o3
      rw [e1, e2, e3, if_neg (by omega), if_neg (by omega)]
      rfl
/-- The sum of a list's values under f. -/
def tot (f : Int → Int) : List Int → Int
  | [] => 0
  | x :: xs => f x + tot f xs
theorem rd_set_eq (v : List Int) (i : Nat) (x : Int) (h : i < v.length) : rd (v.set i x) (i : Int) = x := by
  simp [rd, List.getD_eq_getElem?_getD, h]
theorem rd_set_neN (v : List Int) (i j : Nat) (x : Int) (h : i ≠ j) : rd (v.set i x) (j : Int) = rd v (j : Int) := by
  simp [rd, List.getD_eq_getElem?_getD, List.getElem?_set_ne h]
theorem rd_cons_succ (y : Int) (ys : List Int) (i : Nat) : rd (y :: ys) ((i + 1 : Nat) : Int) = rd ys (i : Int) := by
  unfold rd
  rw [show (((i + 1 : Nat) : Int)).toNat = i + 1 by omega, show ((i : Int)).toNat = i by omega]
  simp
theorem tot_set (f : Int → Int) : ∀ (v : List Int) (i : Nat) (x : Int), i < v.length → tot f (v.set i x) = tot f v - f (rd v (i : Int)) + f x
  | [], i, x, h => by simp at h
  | y :: ys, 0, x, h => by simp [tot, rd]; omega
  | y :: ys, i + 1, x, h => by
    have := tot_set f ys i x (by simpa using h)
    rw [List.set_cons_succ, tot, tot, this, rd_cons_succ]
    omega
theorem mem_rd {v : List Int} {x : Int} (h : x ∈ v) : ∃ a : Nat, a < v.length ∧ rd v (a : Int) = x := by
  obtain ⟨a, ha, e⟩ := List.mem_iff_getElem.mp h
  exact ⟨a, ha, by rw [rd_at v a ha, e]⟩
theorem rd_mem {v : List Int} {a : Nat} (h : a < v.length) : rd v (a : Int) ∈ v := by
  rw [rd_at v a h]; exact List.getElem_mem h
theorem tot_nonpos : ∀ (v : List Int), (∀ x ∈ v, x ≤ 0) → tot id v ≤ 0 ∧ (tot id v = 0 → ∀ x ∈ v, x = 0)
  | [], _ => ⟨by simp [tot], by simp⟩
  | y :: ys, h => by
    have h1 := tot_nonpos ys (fun x hx => h x (by simp [hx]))
    have h2 := h y (by simp)
    constructor
    · simp only [tot, id]; omega
    · intro e
      simp only [tot, id] at e
      intro x hx
      rcases List.mem_cons.mp hx with rfl | hx
      · omega
      · exact h1.2 (by omega) x hx
theorem tot_nonneg : ∀ (v : List Int), (∀ x ∈ v, 0 ≤ x) → 0 ≤ tot id v ∧ (tot id v = 0 → ∀ x ∈ v, x = 0)
  | [], _ => ⟨by simp [tot], by simp⟩
  | y :: ys, h => by
    have h1 := tot_nonneg ys (fun x hx => h x (by simp [hx]))
    have h2 := h y (by simp)
    constructor
    · simp only [tot, id]; omega
    · intro e
      simp only [tot, id] at e
      intro x hx
      rcases List.mem_cons.mp hx with rfl | hx
      · omega
      · exact h1.2 (by omega) x hx
theorem tot_bound (f : Int → Int) (B : Int) : ∀ (v : List Int), (∀ x ∈ v, -B ≤ f x ∧ f x ≤ B) → -(B * v.length) ≤ tot f v ∧ tot f v ≤ B * v.length
  | [], _ => by simp [tot]
  | y :: ys, h => by
    have h1 := tot_bound f B ys (fun x hx => h x (by simp [hx]))
    have h2 := h y (by simp)
    simp only [tot, List.length_cons]
    have e : B * ((ys.length + 1 : Nat) : Int) = B * ys.length + B := by rw [Int.natCast_add, Int.mul_add]; simp
    omega
/-- Whether a doubling can be made. -/
def canD (l : List Int) (f t : Int) : Bool := decide (0 ≤ f) && decide (f ≤ (l.length : Int) - 1) && decide (0 ≤ t) && decide (t ≤ (l.length : Int) - 1) && decide (f ≠ t) && decide (rd l t > 0) && decide (rd l f ≥ rd l t)
theorem canD_in {l : List Int} {f t : Int} (h : canD l f t = true) : 0 ≤ f ∧ f < (l.length : Int) ∧ 0 ≤ t ∧ t < (l.length : Int) ∧ f ≠ t ∧ rd l t > 0 ∧ rd l f ≥ rd l t := by
  simp [canD] at h
  omega
/-- The heaps behind a doubling. -/
def dMade (l : List Int) (f t : Int) : List Int := (l.set f.toNat (wrap64 (rd l f - rd l t))).set t.toNat (wrap64 (2 * rd l t))
theorem dMade_length (l : List Int) (f t : Int) : (dMade l f t).length = l.length := by simp [dMade]
/-- Heaps of n places with s stones. -/
def St (n : Nat) (s : Int) (l : List Int) : Prop := l.length = n ∧ (∀ x ∈ l, 0 ≤ x) ∧ tot id l = s
theorem tot_ge : ∀ {l : List Int}, (∀ x ∈ l, 0 ≤ x) → ∀ x ∈ l, x ≤ tot id l
  | [], _, x, hx => by cases hx
  | y :: ys, h, x, hx => by
    have h0 := (tot_nonneg ys (fun z hz => h z (by simp [hz]))).1
    have hy := h y (by simp)
    simp only [tot, id]
    rcases List.mem_cons.mp hx with rfl | hx
    · omega
    · have := tot_ge (fun z hz => h z (by simp [hz])) x hx
      omega
theorem wsum_tot : ∀ (l : List Int) (a : Int), (∀ x ∈ l, 0 ≤ x ∧ x ≤ 1000) → 0 ≤ a → a + 1000 * l.length ≤ 1000000000 → wsum l a = a + tot id l
  | [], a, _, _, _ => by simp [wsum, tot]
  | x :: xs, a, h, ha, hb => by
    have hx := h x (by simp)
    simp only [List.length_cons] at hb
    rw [wsum, w64 _ (by omega) (by omega), wsum_tot xs (a + x) (fun z hz => h z (by simp [hz])) (by omega) (by omega)]
    simp only [tot, id]
    omega
theorem few_st {l : List Int} (h : isFew l = true) : 2 ≤ l.length ∧ l.length ≤ 4 ∧ ∃ s, 1 ≤ s ∧ s ≤ 40 ∧ St l.length s l := by
  simp [isFew, isHeaps, allIn] at h
  obtain ⟨⟨_, h1⟩, ⟨h2, h3⟩, h4, h5⟩ := h
  have h1' : ∀ x ∈ l, 0 ≤ x ∧ x ≤ 1000 := fun x hx => by have := h1 x hx; omega
  have e := wsum_tot l 0 h1' (by omega) (by omega)
  exact ⟨by omega, by omega, wsum l 0, h4, h5, rfl, fun x hx => (h1' x hx).1, by omega⟩
theorem St.le {n : Nat} {s : Int} {l : List Int} (h : St n s l) : ∀ x ∈ l, 0 ≤ x ∧ x ≤ s := fun x hx => ⟨h.2.1 x hx, h.2.2 ▸ tot_ge h.2.1 x hx⟩
theorem St.made {n : Nat} {s : Int} {l : List Int} (h : St n s l) (hs : s ≤ 40) {f t : Int} (c : canD l f t = true) : St n s (dMade l f t) := by
  obtain ⟨h1, h2, h3, h4, h5, h6, h7⟩ := canD_in c
  obtain ⟨f, rfl⟩ := Int.eq_ofNat_of_zero_le h1
  obtain ⟨t, rfl⟩ := Int.eq_ofNat_of_zero_le h3
  have hf := h.le _ (rd_mem (v := l) (a := f) (by omega))
  have ht := h.le _ (rd_mem (v := l) (a := t) (by omega))
  have e1 : wrap64 (rd l f - rd l t) = rd l f - rd l t := w64 _ (by omega) (by omega)
  have e2 : wrap64 (2 * rd l t) = 2 * rd l t := w64 _ (by omega) (by omega)
  unfold dMade
  rw [e1, e2, show ((f : Int)).toNat = f by omega, show ((t : Int)).toNat = t by omega]
  refine ⟨by simp [h.1], fun x hx => ?_, ?_⟩
  · obtain ⟨a, ha, rfl⟩ := mem_rd hx
    simp only [List.length_set] at ha
    by_cases et : a = t
    · subst et
      rw [rd_set_eq _ _ _ (by simpa using ha)]
      omega
    · rw [rd_set_neN _ _ _ _ (fun e => et e.symm)]
      by_cases ef : a = f
      · subst ef
        rw [rd_set_eq _ _ _ ha]
        omega
      · rw [rd_set_neN _ _ _ _ (fun e => ef e.symm)]
        exact (h.le _ (rd_mem ha)).1
  · rw [tot_set _ _ _ _ (by simp; omega), tot_set _ _ _ _ (by omega), rd_set_neN _ _ _ _ (by omega)]
    have := h.2.2
    simp only [id]
    omega
def playD : List S70 → List Int → List Int × Bool
  | [], out => (out, true)
  | d :: ds, out => if canD out d.f0 d.f1 = true then playD ds (dMade out d.f0 d.f1) else ([], false)
theorem playD_len : ∀ (ds : List S70) (out : List Int), out.length ≤ 1048576 → (playD ds out).1.length ≤ 1048576
  | [], out, h => h
  | d :: ds, out, h => by
    unfold playD
    split
    · exact playD_len ds _ (by rw [dMade_length]; exact h)
    · simp
theorem rdD_app (done : List S70) (x : S70) (xs : List S70) : rd_T70 (done ++ x :: xs) (done.length : Int) = x := by simp [rd_T70]
theorem spec_dbMake.is (l : List Int) (f t : Int) (hl : l.length ≤ 1048576) (h : canD l f t = true) : spec_dbMake.f l f t = some (dMade l f t) := by
  obtain ⟨h1, h2, h3, h4, _⟩ := canD_in h
  unfold spec_dbMake.f spec_l1Own.f dMade
  simp only [Option.bind_some, List.nil_append]
  rw [if_pos (by simp; omega)]
  simp only [Option.bind_some]
  rw [if_pos h1, if_pos h2, if_pos h3, if_pos h4, if_pos h4]
theorem rd_set_ne (l : List Int) (f t v : Int) (h1 : 0 ≤ f) (h3 : 0 ≤ t) (h : f ≠ t) : rd (l.set f.toNat v) t = rd l t := by
  unfold rd
  rw [List.getD_eq_getElem?_getD, List.getD_eq_getElem?_getD, List.getElem?_set_ne (by omega)]
theorem impl_doubled.is (l : List Int) (f t : Int) (hl : l.length ≤ 1048576) (h : canD l f t = true) : impl_doubled.f l f t = some (dMade l f t) := by
  obtain ⟨h1, h2, h3, h4, h5, _⟩ := canD_in h
  unfold impl_doubled.f slices_Clone_int_int.f dMade
  rw [if_pos (by omega)]
  simp only [Option.bind_some]
  rw [if_pos h1, if_pos h2, if_pos h3, if_pos h4, if_pos h4, rd_set_ne l f t _ h1 h3 h5, show rd l t + rd l t = 2 * rd l t by omega]
theorem rd_made {n : Nat} {s : Int} {l : List Int} (h : St n s l) (hs : s ≤ 40) {f t : Int} (c : canD l f t = true) (i : Int) : rd (dMade l f t) i = if i = t then 2 * rd l t else if i = f then rd l f - rd l t else if 0 ≤ i then rd l i else rd (dMade l f t) i := by
  obtain ⟨h1, h2, h3, h4, h5, h6, h7⟩ := canD_in c
  obtain ⟨f, rfl⟩ := Int.eq_ofNat_of_zero_le h1
  obtain ⟨t, rfl⟩ := Int.eq_ofNat_of_zero_le h3
  have hf := h.le _ (rd_mem (v := l) (a := f) (by omega))
  have ht := h.le _ (rd_mem (v := l) (a := t) (by omega))
  have e1 : wrap64 (rd l f - rd l t) = rd l f - rd l t := w64 _ (by omega) (by omega)
  have e2 : wrap64 (2 * rd l t) = 2 * rd l t := w64 _ (by omega) (by omega)
  by_cases i0 : 0 ≤ i
  · obtain ⟨i, rfl⟩ := Int.eq_ofNat_of_zero_le i0
    unfold dMade
    rw [e1, e2, show ((f : Int)).toNat = f by omega, show ((t : Int)).toNat = t by omega]
    by_cases c1 : i = t
    · subst c1
      rw [rd_set_eq _ _ _ (by simp; omega), if_pos rfl]
    · rw [rd_set_neN _ _ _ _ (fun e => c1 e.symm), if_neg (by omega)]
      by_cases c2 : i = f
      · subst c2
        rw [rd_set_eq _ _ _ (by omega), if_pos rfl]
      · rw [rd_set_neN _ _ _ _ (fun e => c2 e.symm), if_neg (by omega), if_pos i0]
  · rw [if_neg (by omega), if_neg (by omega), if_neg i0]
/-- What both searches of the quotient find: doublings that can be made one after the other, and an empty heap behind them. -/
def QuoR (l : List Int) (acc : List S70) (B : Int) (g1 g2 : Nat → Option (List S70 × Bool)) : Prop :=
  ∃ ms e, Ev g1 (acc ++ ms, true) ∧ Ev g2 (acc ++ ms, true) ∧ playD ms l = (e, true) ∧ (0 : Int) ∈ e ∧ (ms.length : Int) ≤ B
theorem canD_mk {l : List Int} {f t : Int} (h1 : 0 ≤ f) (h2 : f < (l.length : Int)) (h3 : 0 ≤ t) (h4 : t < (l.length : Int)) (h5 : f ≠ t) (h6 : 0 < rd l t) (h7 : rd l t ≤ rd l f) : canD l f t = true := by
  simp [canD]
  omega
theorem tmod2 (q : Nat) : Int.tmod (q : Int) 2 = ((q % 2 : Nat) : Int) := by
  rw [Int.tmod_eq_emod_of_nonneg (by omega)]
  omega
theorem tdiv2 (q : Nat) (h : q ≤ 40) : wrap64 (Int.tdiv (q : Int) 2) = ((q / 2 : Nat) : Int) := by
  rw [Int.tdiv_eq_ediv_of_nonneg (by omega), w64 _ (by omega) (by omega)]
  omega
theorem quo_b_odd (q h : Nat) (x r y : Int) (hq : q = 2 * h + 1) (hx : 0 < x) (hr : 0 ≤ r) (hy : y = q * x + r) : x ≤ y ∧ y - x = h * (2 * x) + r := by
  have px : 0 ≤ (h : Int) * x := Int.mul_nonneg (by omega) (by omega)
  have e1 : (h : Int) * (2 * x) = 2 * ((h : Int) * x) := by rw [Int.mul_left_comm]
  have e2 : (q : Int) * x = 2 * ((h : Int) * x) + x := by
    rw [show (q : Int) = 2 * (h : Int) + 1 by omega, Int.add_mul, Int.mul_assoc, Int.one_mul]
  omega
theorem quo_b_even (q h : Nat) (x r y : Int) (hq : q = 2 * h) (hy : y = q * x + r) : y = h * (2 * x) + r := by
  have e1 : (h : Int) * (2 * x) = 2 * ((h : Int) * x) := by rw [Int.mul_left_comm]
  have e2 : (q : Int) * x = 2 * ((h : Int) * x) := by
    rw [show (q : Int) = 2 * (h : Int) by omega, Int.mul_assoc]
  omega
theorem quo_c_odd (q h : Nat) (x z : Int) (hq : q = 2 * h + 1) (hx : 0 < x) (hz : ((q : Int) - 1) * x ≤ z) : ((h : Int) - 1) * (2 * x) ≤ z := by
  have e1 : (h : Int) * (2 * x) = 2 * ((h : Int) * x) := by rw [Int.mul_left_comm]
  have e2 : (q : Int) * x = 2 * ((h : Int) * x) + x := by
    rw [show (q : Int) = 2 * (h : Int) + 1 by omega, Int.add_mul, Int.mul_assoc, Int.one_mul]
  rw [Int.sub_mul, Int.one_mul] at hz ⊢
  omega
theorem quo_c_even (q h : Nat) (x z : Int) (hq : q = 2 * h) (h1 : 1 ≤ h) (hx : 0 < x) (hz : ((q : Int) - 1) * x ≤ z) : x ≤ z ∧ ((h : Int) - 1) * (2 * x) ≤ z - x := by
  have e1 : (h : Int) * (2 * x) = 2 * ((h : Int) * x) := by rw [Int.mul_left_comm]
  have e2 : (q : Int) * x = 2 * ((h : Int) * x) := by
    rw [show (q : Int) = 2 * (h : Int) by omega, Int.mul_assoc]
  have px : x ≤ (h : Int) * x := by
    have := Int.mul_le_mul_of_nonneg_right (show (1 : Int) ≤ (h : Int) by omega) (show 0 ≤ x by omega)
    omega
  rw [Int.sub_mul, Int.one_mul] at hz ⊢
  omega
theorem quo_inner {s : Int} (hs : s ≤ 40) {a b c : Int} (ha : 0 ≤ a ∧ a < 3) (hb : 0 ≤ b ∧ b < 3) (hc : 0 ≤ c ∧ c < 3) (hab : a ≠ b) (hac : a ≠ c) (hbc : b ≠ c) (m B : Int) (C : Nat) (hC : C ≤ 100000)
    (IH : ∀ (l : List Int) (acc : List S70), St 3 s l → (∃ i : Int, 0 ≤ i ∧ i < 3 ∧ rd l i < m) → acc.length ≤ C → QuoR l acc B (fun k => spec_QuotientDoublings.l0 k acc l) (fun k => impl_QuotientDoublings.l0 k l acc)) :
    ∀ (q : Nat) (l : List Int) (acc : List S70) (x r : Int), St 3 s l → 0 < x → rd l a = x → rd l b = q * x + r → 0 ≤ r → r < m → (1 ≤ q → ((q : Int) - 1) * x ≤ rd l c) → q ≤ 40 → acc.length + q ≤ C →
      QuoR l acc (B + q) (fun k => spec_QuotientDoublings.l1 k acc l a b c (q : Int)) (fun k => impl_QuotientDoublings.l1 k l acc a b c (q : Int)) := by
  intro q
  induction q using Nat.strongRecOn with
  | _ q ihq =>
    intro l acc x r st hx hxa hxb hr0 hrm hxc hq hacc
    have hl := st.1
    by_cases q0 : q = 0
    · subst q0
      have hxb' : rd l b = r := by rw [hxb]; simp
      obtain ⟨ms, e, h1, h2, h3, h4, h5⟩ := IH l acc st ⟨b, hb.1, hb.2, by rw [hxb']; exact hrm⟩ (by omega)
      refine ⟨ms, e, ?_, ?_, h3, h4, by omega⟩
      · refine Ev.step (f := fun k => spec_QuotientDoublings.l0 k acc l) (fun k => ?_) h1
        simp only [spec_QuotientDoublings.l1]
        rw [if_neg (by omega)]
      · refine Ev.step (f := fun k => impl_QuotientDoublings.l0 k l acc) (fun k => ?_) h2
        simp only [impl_QuotientDoublings.l1]
        rw [if_neg (by omega)]
    · have td := tdiv2 q hq
      have tm := tmod2 q
      have qpos : (q : Int) > 0 := by omega
      have hacc2 : acc.length < 8796093022208 := by omega
      have hl2 : l.length ≤ 1048576 := by omega
      have hal : a < (l.length : Int) := by omega
      have hbl : b < (l.length : Int) := by omega
      have hcl : c < (l.length : Int) := by omega
      by_cases odd : q % 2 = 1
      · have qe : q = 2 * (q / 2) + 1 := by omega
        obtain ⟨b1, b2⟩ := quo_b_odd q (q / 2) x r _ qe hx hr0 hxb
        have c1 := quo_c_odd q (q / 2) x (rd l c) qe hx (hxc (by omega))
        have cd : canD l b a = true := canD_mk hb.1 hbl ha.1 hal (fun e => hab e.symm) (by rw [hxa]; exact hx) (by rw [hxa]; exact b1)
        have st' := st.made hs cd
        have ra := rd_made st hs cd a
        have rb := rd_made st hs cd b
        have rc := rd_made st hs cd c
        rw [if_pos rfl, hxa] at ra
        rw [if_neg (fun e => hab e.symm), if_pos rfl, hxa, b2] at rb
        rw [if_neg (fun e => hac e.symm), if_neg (fun e => hbc e.symm), if_pos hc.1] at rc
        obtain ⟨ms, e, h1, h2, h3, h4, h5⟩ := ihq (q / 2) (by omega) (dMade l b a) (acc ++ [⟨b, a⟩]) (2 * x) r st' (by omega) ra rb hr0 hrm (fun _ => by rw [rc]; exact c1) (by omega) (by simp only [List.length_append, List.length_singleton]; omega)
        refine ⟨⟨b, a⟩ :: ms, e, ?_, ?_, by rw [playD]; simp only [cd, if_true]; exact h3, h4, by simp only [List.length_cons]; omega⟩
        · refine Ev.step (f := fun k => spec_QuotientDoublings.l1 k (acc ++ [⟨b, a⟩]) (dMade l b a) a b c ((q / 2 : Nat) : Int)) (fun k => ?_) (by simpa using h1)
          simp only [spec_QuotientDoublings.l1, tm, odd, td, spec_dbMake.is l _ _ hl2 cd, Option.bind_some]
          rw [if_pos qpos, if_pos (by decide), if_pos hacc2]
        · refine Ev.step (f := fun k => impl_QuotientDoublings.l1 k (dMade l b a) (acc ++ [⟨b, a⟩]) a b c ((q / 2 : Nat) : Int)) (fun k => ?_) (by simpa using h2)
          simp only [impl_QuotientDoublings.l1, tm, odd, td, impl_doubled.is l _ _ hl2 cd, Option.bind_some]
          rw [if_pos qpos, if_pos (by decide), if_pos hacc2]
      · have even : q % 2 = 0 := by omega
        have qe : q = 2 * (q / 2) := by omega
        have b2 := quo_b_even q (q / 2) x r _ qe hxb
        obtain ⟨c0, c1⟩ := quo_c_even q (q / 2) x (rd l c) qe (by omega) hx (hxc (by omega))
        have cd : canD l c a = true := canD_mk hc.1 hcl ha.1 hal (fun e => hac e.symm) (by rw [hxa]; exact hx) (by rw [hxa]; exact c0)
        have st' := st.made hs cd
        have ra := rd_made st hs cd a
        have rb := rd_made st hs cd b
        have rc := rd_made st hs cd c
        rw [if_pos rfl, hxa] at ra
        rw [if_neg (fun e => hab e.symm), if_neg hbc, if_pos hb.1, b2] at rb
        rw [if_neg (fun e => hac e.symm), if_pos rfl, hxa] at rc
        obtain ⟨ms, e, h1, h2, h3, h4, h5⟩ := ihq (q / 2) (by omega) (dMade l c a) (acc ++ [⟨c, a⟩]) (2 * x) r st' (by omega) ra rb hr0 hrm (fun _ => by rw [rc]; exact c1) (by omega) (by simp only [List.length_append, List.length_singleton]; omega)
        refine ⟨⟨c, a⟩ :: ms, e, ?_, ?_, by rw [playD]; simp only [cd, if_true]; exact h3, h4, by simp only [List.length_cons]; omega⟩
        · refine Ev.step (f := fun k => spec_QuotientDoublings.l1 k (acc ++ [⟨c, a⟩]) (dMade l c a) a b c ((q / 2 : Nat) : Int)) (fun k => ?_) (by simpa using h1)
          simp only [spec_QuotientDoublings.l1, tm, even, td, spec_dbMake.is l _ _ hl2 cd, Option.bind_some]
          rw [if_pos qpos, if_neg (by decide), if_pos hacc2]
        · refine Ev.step (f := fun k => impl_QuotientDoublings.l1 k (dMade l c a) (acc ++ [⟨c, a⟩]) a b c ((q / 2 : Nat) : Int)) (fun k => ?_) (by simpa using h2)
          simp only [impl_QuotientDoublings.l1, tm, even, td, impl_doubled.is l _ _ hl2 cd, Option.bind_some]
          rw [if_pos qpos, if_neg (by decide), if_pos hacc2]
theorem quo_outer {s : Int} (hs : s ≤ 40) : ∀ (m : Nat) (l : List Int) (acc : List S70), St 3 s l → (∃ i : Int, 0 ≤ i ∧ i < 3 ∧ rd l i < m) → acc.length ≤ 100000 - 41 * m → m ≤ 41 →
    QuoR l acc (41 * m) (fun k => spec_QuotientDoublings.l0 k acc l) (fun k => impl_QuotientDoublings.l0 k l acc) := by
  intro m
  induction m with
  | zero =>
    rintro l acc st ⟨i, hi0, hi3, hi⟩ _ _
    obtain ⟨i, rfl⟩ := Int.eq_ofNat_of_zero_le hi0
    have := st.le _ (rd_mem (v := l) (a := i) (by have := st.1; omega))
    omega
  | succ m ih =>
    rintro l acc st ⟨i, hi0, hi3, hi⟩ hacc hm
    have hl := st.1
    have hr : ∀ j : Int, 0 ≤ j → j < 3 → 0 ≤ rd l j ∧ rd l j ≤ 40 := by
      intro j j0 j3
      obtain ⟨j, rfl⟩ := Int.eq_ofNat_of_zero_le j0
      have := st.le _ (rd_mem (v := l) (a := j) (by omega))
      omega
    obtain ⟨ha, hb, hc, hab, hac, hbc, o1, o2, hmin⟩ := o3_ok l (fun j j0 j3 => hr j j0 j3)
    have hord := spec_dbOrder.ev l hl (fun j j0 j3 => hr j j0 j3)
    have hmi := hmin i hi0 hi3
    generalize hoa : (qd.o3 l).1 = a at *
    generalize hob : (qd.o3 l).2.1 = b at *
    generalize hoc : (qd.o3 l).2.2 = c at *
    have hra := hr a ha.1 ha.2
    have hrb := hr b hb.1 hb.2
    have hrc := hr c hc.1 hc.2
    by_cases z : rd l a = 0
    · refine ⟨[], l, ?_, ?_, rfl, ?_, by simp; omega⟩
      · obtain ⟨K1, h1⟩ := hord
        refine ⟨K1 + 1, fun k hk => ?_⟩
        obtain ⟨k, rfl⟩ : ∃ k', k = k' + 1 := ⟨k - 1, by omega⟩
        simp only [spec_QuotientDoublings.l0, h1 k (by omega), Option.bind_some]
        simp [rd3_0, rd3_1, rd3_2, z, hl, ha.1, ha.2]
      · refine Ev.step (f := fun _ => some (acc, true)) (fun k => ?_) (by simpa using Ev.now _)
        simp only [impl_QuotientDoublings.l0, hoa, hob, hoc]
        rw [if_pos hl, if_pos z]
      · obtain ⟨a', rfl⟩ := Int.eq_ofNat_of_zero_le ha.1
        rw [← z]
        exact rd_mem (by omega)
    · have hq : wrap64 (Int.tdiv (rd l b) (rd l a)) = (((rd l b / rd l a).toNat : Nat) : Int) := by
        rw [Int.tdiv_eq_ediv_of_nonneg (by omega)]
        have h1 : 0 ≤ rd l b / rd l a := Int.ediv_nonneg (by omega) (by omega)
        have h2 : rd l b / rd l a ≤ rd l b := Int.ediv_le_self _ (by omega)
        rw [w64 _ (by omega) (by omega)]
        omega
      have h1 : 0 ≤ rd l b / rd l a := Int.ediv_nonneg (by omega) (by omega)
      have h2 : rd l b / rd l a ≤ rd l b := Int.ediv_le_self _ (by omega)
      have hdm := Int.mul_ediv_add_emod (rd l b) (rd l a)
      have hr0 := Int.emod_nonneg (rd l b) (show rd l a ≠ 0 from z)
      have hr1 := Int.emod_lt_of_pos (rd l b) (show 0 < rd l a by omega)
      rw [Int.mul_comm] at hdm
      have eq0 : (((rd l b / rd l a).toNat : Nat) : Int) = rd l b / rd l a := by omega
      have q40 : (rd l b / rd l a).toNat ≤ 40 := by omega
      have hi2 : rd l a ≤ m := by omega
      have hin := quo_inner hs ha hb hc hab hac hbc (rd l a) (41 * m) (100000 - 41 * m) (by omega) (fun l' acc' st' hi' ha' => by
        obtain ⟨i', i0', i3', hi'⟩ := hi'
        exact ih l' acc' st' ⟨i', i0', i3', by omega⟩ ha' (by omega)) (rd l b / rd l a).toNat l acc (rd l a) (rd l b % rd l a) st (by omega) rfl (by rw [eq0]; exact hdm.symm) hr0 hr1 (by
          intro _
          rw [eq0, Int.sub_mul, Int.one_mul]
          omega) q40 (by omega)
      obtain ⟨ms, e, g1, g2, g3, g4, g5⟩ := hin
      refine ⟨ms, e, ?_, ?_, g3, g4, by omega⟩
      · obtain ⟨K1, h1'⟩ := hord
        obtain ⟨K2, h2'⟩ := g1
        refine ⟨K1 + K2 + 1, fun k hk => ?_⟩
        obtain ⟨k, rfl⟩ : ∃ k', k = k' + 1 := ⟨k - 1, by omega⟩
        simp only [spec_QuotientDoublings.l0, h1' k (by omega), Option.bind_some]
        simp only [rd3_0, rd3_1, rd3_2, List.length_cons, List.length_nil, hq]
        rw [if_pos (by omega), if_pos (by omega), if_pos (by omega), if_pos ha.1, if_pos (by omega), if_neg z, if_pos hb.1, if_pos (by omega)]
        exact h2' k (by omega)
      · obtain ⟨K2, h2'⟩ := g2
        refine ⟨K2 + 1, fun k hk => ?_⟩
        obtain ⟨k, rfl⟩ : ∃ k', k = k' + 1 := ⟨k - 1, by omega⟩
        simp only [impl_QuotientDoublings.l0, hoa, hob, hoc, hq]
        rw [if_pos hl, if_neg z]
        exact h2' k (by omega)
theorem both_QuotientDoublings (l : List Int) (hl : l.length ≤ 1048576) : ∃ v : List S70 × Bool, v.1.length ≤ 1048576 ∧ Ev (fun k => spec_QuotientDoublings.f k l) v ∧ Ev (fun k => impl_QuotientDoublings.f k l) v := by
  by_cases h : isFew l = true
  · by_cases h3 : (l.length : Int) = 3
    · obtain ⟨h2, h4, s, hs1, hs2, st⟩ := few_st h
      rw [show l.length = 3 by omega] at st
      have r0 := st.le _ (rd_mem (v := l) (a := 0) (by omega))
      obtain ⟨ms, e, g1, g2, _, _, g5⟩ := quo_outer hs2 41 l [] st ⟨0, by omega, by omega, by rw [show (0 : Int) = ((0 : Nat) : Int) from rfl]; omega⟩ (by simp) (by omega)
      refine ⟨(ms, true), by simp; omega, Ev.bind (spec_dbGood.ev l hl) ?_, Ev.bind (impl_AreFewHeaps.ev l hl) ?_⟩
      · have hne : ((l.length : Int) != 3) = false := by simpa using h3
        simp only [h, if_true, hne]
        refine Ev.step (f := fun k => spec_QuotientDoublings.l0 k [] l) (fun k => ?_) (by simpa using g1)
        simp only [spec_QuotientDoublings.j0, Bool.false_eq_true, if_false]
        unfold spec_l1Own.f
        simp only [Option.bind_some, List.nil_append]
        rw [if_pos (show ([] : List Int).length + l.length < 17592186044416 by simp; omega)]
        simp only [Option.bind_some]
      · simp only [h, if_true, if_pos h3]
        unfold slices_Clone_int_int.f
        simp only [if_pos (show l.length < 17592186044416 by omega), Option.bind_some]
        simpa using g2
    · refine ⟨([], false), by simp, Ev.bind (spec_dbGood.ev l hl) ?_, Ev.bind (impl_AreFewHeaps.ev l hl) ?_⟩
      · have hne : ((l.length : Int) != 3) = true := by simpa using h3
        simp only [h, if_true, hne]
        exact Ev.step (f := fun _ => some ([], false)) (fun k => by simp [spec_QuotientDoublings.j0]) (Ev.now _)
      · simp only [h, if_true, if_neg h3]; exact Ev.now _
  · refine ⟨([], false), by simp, Ev.bind (spec_dbGood.ev l hl) ?_, Ev.bind (impl_AreFewHeaps.ev l hl) ?_⟩
    · simp only [h]
      exact Ev.step (f := fun _ => some ([], false)) (fun k => by simp [spec_QuotientDoublings.j0]) (Ev.now _)
    · simp only [h]; exact Ev.now _
theorem FnExactQuotientDoublings : laws_FnExactQuotientDoublings.Pure := by
  intro l _ _ _
  by_cases hl : (l.length : Int) > 1048576
  · exact ⟨0, by unfold laws_FnExactQuotientDoublings.f; rw [if_pos hl]⟩
  obtain ⟨K1, h1⟩ := laws_toIntS.ev l (by omega)
  obtain ⟨v, hv, ⟨K2, h2⟩, ⟨K3, h3⟩⟩ := both_QuotientDoublings l (by omega)
  obtain ⟨v, b⟩ := v
  simp only at hv
  obtain ⟨K4, h4⟩ := laws_eqIntS.ev l (by omega)
  obtain ⟨K5, h5⟩ := laws_eqDoublingS.ev v hv
  obtain ⟨K6, h6⟩ := laws_markIntS.ev l (by omega)
  obtain ⟨K7, h7⟩ := laws_markDoublingS.ev v hv 1 (by omega) (by omega)
  obtain ⟨K8, h8⟩ := laws_heldDoublingS.ev v hv
  dsimp only at h1 h2 h3 h4 h5 h6 h7 h8
  refine ⟨K1 + K2 + K3 + K4 + K5 + K6 + K7 + K8 + 1 + 1 + 1, ?_⟩
  have c1 : ¬ (1 + (l.length : Int) < 0) := by omega
  have c2 : ¬ (1 + 2 * (v.length : Int) < 0) := by omega
  simp (disch := omega) only [laws_FnExactQuotientDoublings.f, if_neg hl, h1, h2, h3, h5, Option.bind_some, bne_self_eq_false, if_true]
  simp (disch := omega) only [laws_FnExactQuotientDoublings.j0, h1, h4, h5, h6, Option.bind_some, bne_self_eq_false, Bool.false_eq_true, if_true, if_false, if_neg c1]
  simp (disch := omega) only [laws_FnExactQuotientDoublings.j1, h1, h3, h5, h7, h8, Option.bind_some, bne_self_eq_false, Bool.false_eq_true, if_true, if_false, if_neg c2]
  simp (disch := omega) only [laws_FnExactQuotientDoublings.j2, h8, Option.bind_some, Bool.false_eq_true, if_true, if_false, if_neg c2]

end Go.Proofs.Ytdhhphngabamoaa.Pure
