/- The program's DoublingsOf returns what the reference's returns, for all arguments. It has no conditions. -/
import Derived.Test.YtdhhphngabamoaaPFnExactDoublingsOfx7
namespace Go.Proofs.Ytdhhphngabamoaa.Pure
open Go.RowKit Go.Proofs.Ytdhhphngabamoaa.PFnExactDoublingsOf Go.Proofs.YtdhhphngabamoaaW.PrintWords Go.Proofs.YtdhhphngabamoaaW.PrintLast
set_option linter.unusedVariables false
set_option linter.unusedSimpArgs false

/-! ### small words -/
theorem w64 (n : Int) (h1 : -9223372036854775808 ≤ n) (h2 : n ≤ 9223372036854775807) : wrap64 n = n := by unfold wrap64; omega
theorem w64s (i : Nat) (h : i < 9223372036854775807) : wrap64 ((i : Int) + 1) = ((i + 1 : Nat) : Int) := by unfold wrap64; omega
theorem rd_at (l : List Int) (i : Nat) (h : i < l.length) : rd l (i : Int) = l[i] := by simp [rd, List.getD_eq_getElem?_getD, List.getElem?_eq_getElem h]
theorem wf64 {x : Int} (h : (Lit.int .i64 x).wf = true) : -9223372036854775808 ≤ x ∧ x ≤ 9223372036854775807 := by
  simp [Lit.wf, IntKind.min, IntKind.max, IntKind.bits, IntKind.signed] at h
  omega
/-! ### copies, marks -/
theorem laws_toIntS.l0ev (l : List Int) (hl : l.length ≤ 1048576) (d : Nat) : ∀ i, i + d = l.length → Ev (fun k => laws_toIntS.l0 k l (l.take i ++ List.replicate d 0) i) l := by
  induction d with
  | zero =>
    intro i hi
    refine Ev.step (f := fun _ => some l) (fun k => ?_) (Ev.now _)
    simp only [laws_toIntS.l0]
    rw [if_neg (by omega)]
    simp [List.take_of_length_le (show l.length ≤ i by omega)]
  | succ d ih =>
    intro i hi
    refine Ev.step (f := fun k => laws_toIntS.l0 k l (l.take (i + 1) ++ List.replicate d 0) ((i + 1 : Nat) : Int)) (fun k => ?_) (ih (i + 1) (by omega))
    simp only [laws_toIntS.l0]
    rw [if_pos (by omega), if_pos (by omega), if_pos (by simp; omega), w64s i (by omega), rd_at l i (by omega)]
    congr 1
    rw [show ((i : Int)).toNat = i by omega, List.set_append_right _ _ (by simp; omega), List.replicate_succ, List.length_take, show i - min i l.length = 0 by omega, List.set_cons_zero, List.take_succ_eq_append_getElem (show i < l.length by omega)]
    simp only [List.append_assoc, List.cons_append, List.nil_append]
theorem laws_toIntS.ev (l : List Int) (hl : l.length ≤ 1048576) : Ev (fun k => laws_toIntS.f k l) l := by
  have h := laws_toIntS.l0ev l hl l.length 0 (by omega)
  unfold laws_toIntS.f
  simp only [if_pos (show (0 : Int) ≤ (l.length : Int) by omega), if_pos (show (l.length : Int).toNat ≤ 35184372088832 by omega)]
  simpa using h
theorem laws_eqIntS.l0ev (l : List Int) (hl : l.length ≤ 1048576) (d : Nat) : ∀ i, i + d = l.length → Ev (fun k => laws_eqIntS.l0 k l l i) true := by
  induction d with
  | zero =>
    intro i hi
    refine Ev.step (f := fun _ => some true) (fun k => ?_) (Ev.now _)
    simp only [laws_eqIntS.l0]
    rw [if_neg (by omega)]
  | succ d ih =>
    intro i hi
    refine Ev.step (f := fun k => laws_eqIntS.l0 k l l ((i + 1 : Nat) : Int)) (fun k => ?_) (ih (i + 1) (by omega))
    simp only [laws_eqIntS.l0]
    rw [if_pos (by omega), if_pos (by omega), if_pos (by omega), if_pos trivial, w64s i (by omega)]
theorem laws_eqIntS.ev (l : List Int) (hl : l.length ≤ 1048576) : Ev (fun k => laws_eqIntS.f k l l) true := by
  unfold laws_eqIntS.f
  simp only [if_true]
  exact laws_eqIntS.l0ev l hl l.length 0 (by omega)
/-- Marked cells, from k on. -/
def marks : List Int → Int → List Int
  | [], _ => []
  | _ :: xs, k => k :: marks xs (k + 1)
theorem marks_length : ∀ (l : List Int) (k : Int), (marks l k).length = l.length
  | [], _ => rfl
  | _ :: xs, k => by simp [marks, marks_length xs]
theorem laws_markIntS.l0ev (hd : List Int) : ∀ (tl done : List Int) (m : Int), done.length + tl.length ≤ 1048576 → 0 ≤ m → m ≤ 1048577 + done.length →
    Ev (fun k => laws_markIntS.l0 k (done ++ tl) m done.length) (m + tl.length, done ++ marks tl m) := by
  intro tl
  induction tl with
  | nil =>
    intro done m h1 h2 h3
    refine Ev.step (f := fun _ => some (m, done)) (fun k => ?_) (by simpa [marks] using Ev.now (m, done))
    simp only [laws_markIntS.l0]
    rw [if_neg (by simp)]
    simp
  | cons x xs ih =>
    intro done m h1 h2 h3
    simp only [List.length_cons] at h1
    have h := ih (done ++ [m]) (m + 1) (by simp; omega) (by omega) (by simp; omega)
    refine Ev.step (f := fun k => laws_markIntS.l0 k (done ++ [m] ++ xs) (m + 1) ((done ++ [m]).length : Int)) (fun k => ?_) ?_
    · simp only [laws_markIntS.l0]
      rw [if_pos (by simp; omega), if_pos (by omega), w64 (m + 1) (by omega) (by omega), w64s done.length (by omega)]
      congr 1
      · simp [List.set_append_right]
      · simp
    · have e : (m + ((x :: xs).length : Int), done ++ marks (x :: xs) m) = (m + 1 + (xs.length : Int), done ++ [m] ++ marks xs (m + 1)) := by
        simp [marks]; omega
      rw [e]; exact h
theorem laws_markIntS.ev (l : List Int) (hl : l.length ≤ 1048576) : Ev (fun k => laws_markIntS.f k l 1) (1 + (l.length : Int), marks l 1) := by
  have h := laws_markIntS.l0ev [] l [] 1 (by simpa using hl) (by omega) (by simp)
  simpa [laws_markIntS.f] using h
theorem laws_eqDoublingS.l0ev (l : List S70) (hl : l.length ≤ 1048576) (d : Nat) : ∀ i, i + d = l.length → Ev (fun k => laws_eqDoublingS.l0 k l l i) true := by
  induction d with
  | zero =>
    intro i hi
    refine Ev.step (f := fun _ => some true) (fun k => ?_) (Ev.now _)
    simp only [laws_eqDoublingS.l0]
    rw [if_neg (by omega)]
  | succ d ih =>
    intro i hi
    refine Ev.step (f := fun k => laws_eqDoublingS.l0 k l l ((i + 1 : Nat) : Int)) (fun k => ?_) (ih (i + 1) (by omega))
    simp only [laws_eqDoublingS.l0, laws_eqDoubling.f, if_true, Option.bind_some]
    rw [if_pos (by omega), if_pos (by omega), if_pos (by omega), w64s i (by omega)]
theorem laws_eqDoublingS.ev (l : List S70) (hl : l.length ≤ 1048576) : Ev (fun k => laws_eqDoublingS.f k l l) true := by
  unfold laws_eqDoublingS.f
  simp only [if_true]
  exact laws_eqDoublingS.l0ev l hl l.length 0 (by omega)
theorem rdD_app2 (done : List S70) (x : S70) (xs : List S70) : rd_T70 (done ++ x :: xs) (done.length : Int) = x := by simp [rd_T70]
/-- Marked doublings, from k on. -/
def dmarks : List S70 → Int → List S70
  | [], _ => []
  | _ :: xs, k => ⟨k, k + 1⟩ :: dmarks xs (k + 2)
theorem dmarks_length : ∀ (l : List S70) (k : Int), (dmarks l k).length = l.length
  | [], _ => rfl
  | _ :: xs, k => by simp [dmarks, dmarks_length xs]
theorem laws_markDoublingS.l0ev : ∀ (tl done : List S70) (m : Int), done.length + tl.length ≤ 1048576 → 0 ≤ m → m ≤ 1048577 + 2 * done.length →
    Ev (fun k => laws_markDoublingS.l0 k (done ++ tl) m done.length) (m + 2 * tl.length, done ++ dmarks tl m) := by
  intro tl
  induction tl with
  | nil =>
    intro done m h1 h2 h3
    refine Ev.step (f := fun _ => some (m, done)) (fun k => ?_) (by simpa [dmarks] using Ev.now (m, done))
    simp only [laws_markDoublingS.l0]
    rw [if_neg (by simp)]
    simp
  | cons x xs ih =>
    intro done m h1 h2 h3
    simp only [List.length_cons] at h1
    have h := ih (done ++ [⟨m, m + 1⟩]) (m + 2) (by simp; omega) (by omega) (by simp; omega)
    refine Ev.step (f := fun k => laws_markDoublingS.l0 k (done ++ [⟨m, m + 1⟩] ++ xs) (m + 2) ((done ++ [(⟨m, m + 1⟩ : S70)]).length : Int)) (fun k => ?_) ?_
    · simp only [laws_markDoublingS.l0, Option.bind_some]
      rw [if_pos (by simp; omega), if_pos (by omega), w64 (m + 1) (by omega) (by omega), w64 (m + 1 + 1) (by omega) (by omega), w64s done.length (by omega)]
      have s : ∀ (y z : S70), (done ++ y :: xs).set (done.length : Int).toNat z = done ++ z :: xs := by
        intro y z
        simp [List.set_append_right]
      simp only [s, rdD_app2]
      congr 1
      · simp [Int.add_assoc]
      · omega
      · simp
    · have e : (m + 2 * ((x :: xs).length : Int), done ++ dmarks (x :: xs) m) = (m + 2 + 2 * (xs.length : Int), done ++ [⟨m, m + 1⟩] ++ dmarks xs (m + 2)) := by
        simp [dmarks]; omega
      rw [e]; exact h
theorem laws_markDoublingS.ev (l : List S70) (hl : l.length ≤ 1048576) (m : Int) (h0 : 0 ≤ m) (h1 : m ≤ 1048577) : Ev (fun k => laws_markDoublingS.f k l m) (m + 2 * (l.length : Int), dmarks l m) := by
  have h := laws_markDoublingS.l0ev l [] m (by simpa using hl) h0 (by simpa using h1)
  simpa [laws_markDoublingS.f] using h
theorem laws_heldDoublingS.l0ev : ∀ (tl done : List S70) (m : Int), done.length + tl.length ≤ 1048576 → 0 ≤ m → m ≤ 1048577 + 2 * done.length →
    Ev (fun k => laws_heldDoublingS.l0 k (done ++ dmarks tl m) m done.length) (m + 2 * tl.length) := by
  intro tl
  induction tl with
  | nil =>
    intro done m h1 h2 h3
    refine Ev.step (f := fun _ => some m) (fun k => ?_) (by simpa [dmarks] using Ev.now m)
    simp only [laws_heldDoublingS.l0]
    rw [if_neg (by simp [dmarks])]
  | cons x xs ih =>
    intro done m h1 h2 h3
    simp only [List.length_cons] at h1
    have h := ih (done ++ [⟨m, m + 1⟩]) (m + 2) (by simp; omega) (by omega) (by simp; omega)
    refine Ev.step (f := fun k => laws_heldDoublingS.l0 k (done ++ [⟨m, m + 1⟩] ++ dmarks xs (m + 2)) (m + 2) ((done ++ [(⟨m, m + 1⟩ : S70)]).length : Int)) (fun k => ?_) ?_
    · simp only [laws_heldDoublingS.l0, dmarks, rdD_app2]
      rw [if_pos (by simp; omega), if_pos (by omega), if_pos trivial, w64 (m + 1) (by omega) (by omega), if_pos rfl, w64 (m + 1 + 1) (by omega) (by omega), w64s done.length (by omega)]
      congr 1
      · simp
      · omega
      · simp
    · have e : m + 2 * ((x :: xs).length : Int) = m + 2 + 2 * (xs.length : Int) := by simp; omega
      rw [e]; exact h
theorem laws_heldDoublingS.ev (l : List S70) (hl : l.length ≤ 1048576) : Ev (fun k => laws_heldDoublingS.f k (dmarks l 1) 1) (1 + 2 * (l.length : Int)) := by
  have h := laws_heldDoublingS.l0ev l [] 1 (by simpa using hl) (by omega) (by simp)
  simpa [laws_heldDoublingS.f] using h
/-- Whether a doubling can be made. -/
def canD (l : List Int) (f t : Int) : Bool := decide (0 ≤ f) && decide (f ≤ (l.length : Int) - 1) && decide (0 ≤ t) && decide (t ≤ (l.length : Int) - 1) && decide (f ≠ t) && decide (rd l t > 0) && decide (rd l f ≥ rd l t)
theorem canD_in {l : List Int} {f t : Int} (h : canD l f t = true) : 0 ≤ f ∧ f < (l.length : Int) ∧ 0 ≤ t ∧ t < (l.length : Int) ∧ f ≠ t ∧ rd l t > 0 ∧ rd l f ≥ rd l t := by
  simp [canD] at h
  omega
/-- The heaps behind a doubling. -/
def dMade (l : List Int) (f t : Int) : List Int := (l.set f.toNat (wrap64 (rd l f - rd l t))).set t.toNat (wrap64 (2 * rd l t))
theorem dMade_length (l : List Int) (f t : Int) : (dMade l f t).length = l.length := by simp [dMade]
theorem impl_within.is (x a b : Int) : impl_within.f x a b = some (decide (a ≤ x) && decide (x ≤ b)) := by
  unfold impl_within.f
  by_cases h : x ≥ a
  · simp [h, show a ≤ x from h]
  · simp [h, show ¬ a ≤ x from h]
theorem impl_canDouble.is (l : List Int) (f t : Int) (hl : l.length ≤ 1048576) : impl_canDouble.f l f t = some (canD l f t) := by
  unfold impl_canDouble.f canD
  simp only [impl_within.is, Option.bind_some, w64 ((l.length : Int) - 1) (by omega) (by omega)]
  by_cases h1 : (decide (0 ≤ f) && decide (f ≤ (l.length : Int) - 1)) = true
  · by_cases h2 : (decide (0 ≤ t) && decide (t ≤ (l.length : Int) - 1)) = true
    · have h1' : 0 ≤ f ∧ f ≤ (l.length : Int) - 1 := by simpa using h1
      have h2' : 0 ≤ t ∧ t ≤ (l.length : Int) - 1 := by simpa using h2
      rw [if_pos h1, if_pos h2]
      by_cases h3 : f = t
      · rw [if_pos h3]; simp [h3]
      · rw [if_neg h3, if_pos h2'.1, if_pos (by omega)]
        by_cases h4 : rd l t > 0
        · rw [if_pos h4, if_pos h1'.1, if_pos (by omega)]; simp [h1', h2', h3, h4]
        · rw [if_neg h4]; simp [h4]
    · rw [if_pos h1, if_neg h2]
      simp only [Bool.not_eq_true] at h2
      simp only [h1, Bool.true_and, h2, Bool.false_and]
  · rw [if_neg h1]
    simp only [Bool.not_eq_true] at h1
    simp only [h1, Bool.false_and]
theorem impl_doublingsOf.l0tot (l : List Int) (hl : l.length ≤ 4) : ∀ (e i : Nat) (acc : List S70), i + e = l.length → acc.length + e * 4 ≤ 16 → ∃ r, r.length ≤ 16 ∧ Ev (fun k => impl_doublingsOf.l0 k l acc (l.length : Int) i) r := by
  intro e
  induction e with
  | zero =>
    intro i acc hi ha
    refine ⟨acc, by omega, Ev.step (f := fun _ => some acc) (fun k => ?_) (Ev.now _)⟩
    simp only [impl_doublingsOf.l0]
    rw [if_neg (by omega)]
  | succ e ih =>
    intro i acc hi ha
    have inner : ∀ (d j : Nat) (acc : List S70), j + d = l.length → acc.length + d + e * 4 ≤ 16 → ∃ r, r.length ≤ 16 ∧ Ev (fun k => impl_doublingsOf.l1 k l acc i (l.length : Int) i (l.length : Int) j) r := by
      intro d
      induction d with
      | zero =>
        intro j acc hj ha
        obtain ⟨r, hr, h⟩ := ih (i + 1) acc (by omega) (by omega)
        refine ⟨r, hr, Ev.step (f := fun k => impl_doublingsOf.l0 k l acc (l.length : Int) ((i + 1 : Nat) : Int)) (fun k => ?_) h⟩
        simp only [impl_doublingsOf.l1]
        rw [if_neg (by omega), w64s i (by omega)]
      | succ d ihd =>
        intro j acc hj ha
        by_cases c : canD l i j = true
        · obtain ⟨r, hr, h⟩ := ihd (j + 1) (acc ++ [⟨i, j⟩]) (by omega) (by simp; omega)
          refine ⟨r, hr, Ev.step (f := fun k => impl_doublingsOf.l1 k l (acc ++ [⟨i, j⟩]) i (l.length : Int) i (l.length : Int) ((j + 1 : Nat) : Int)) (fun k => ?_) h⟩
          simp only [impl_doublingsOf.l1, impl_canDouble.is l _ _ (show l.length ≤ 1048576 by omega), Option.bind_some]
          rw [if_pos (by omega), if_pos c, if_pos (by omega), w64s j (by omega)]
        · obtain ⟨r, hr, h⟩ := ihd (j + 1) acc (by omega) (by omega)
          refine ⟨r, hr, Ev.step (f := fun k => impl_doublingsOf.l1 k l acc i (l.length : Int) i (l.length : Int) ((j + 1 : Nat) : Int)) (fun k => ?_) h⟩
          simp only [impl_doublingsOf.l1, impl_canDouble.is l _ _ (show l.length ≤ 1048576 by omega), Option.bind_some]
          rw [if_pos (by omega), if_neg c, w64s j (by omega)]
    obtain ⟨r, hr, h⟩ := inner l.length 0 acc (by omega) (by omega)
    refine ⟨r, hr, Ev.step (f := fun k => impl_doublingsOf.l1 k l acc i (l.length : Int) i (l.length : Int) 0) (fun k => ?_) h⟩
    simp only [impl_doublingsOf.l0]
    rw [if_pos (by omega)]
theorem impl_doublingsOf.tot (l : List Int) (hl : l.length ≤ 4) : ∃ r, r.length ≤ 16 ∧ Ev (fun k => impl_doublingsOf.f k l) r := by
  have h := impl_doublingsOf.l0tot l hl l.length 0 [] (by omega) (by simp; omega)
  simpa [impl_doublingsOf.f] using h
theorem spec_l1In.is (x a b : Int) : spec_l1In.f x a b = some (decide (a ≤ x) && decide (x ≤ b)) := by
  unfold spec_l1In.f
  by_cases h : x ≥ a
  · simp [h, show a ≤ x from h]
  · simp [h, show ¬ a ≤ x from h]
theorem spec_dbCan.is (l : List Int) (f t : Int) (hl : l.length ≤ 1048576) : spec_dbCan.f l f t = some (canD l f t) := by
  unfold spec_dbCan.f canD
  simp only [spec_l1In.is, Option.bind_some, w64 ((l.length : Int) - 1) (by omega) (by omega)]
  by_cases h1 : (decide (0 ≤ f) && decide (f ≤ (l.length : Int) - 1)) = true
  · by_cases h2 : (decide (0 ≤ t) && decide (t ≤ (l.length : Int) - 1)) = true
    · have h1' : 0 ≤ f ∧ f ≤ (l.length : Int) - 1 := by simpa using h1
      have h2' : 0 ≤ t ∧ t ≤ (l.length : Int) - 1 := by simpa using h2
      rw [if_pos h1, if_pos h2]
      by_cases h3 : f = t
      · rw [if_pos h3]; simp [h3]
      · rw [if_neg h3, if_pos h2'.1, if_pos (by omega)]
        by_cases h4 : rd l t > 0
        · rw [if_pos h4, if_pos h1'.1, if_pos (by omega)]; simp [h1', h2', h3, h4]
        · rw [if_neg h4]; simp [h4]
    · rw [if_pos h1, if_neg h2]
      simp only [Bool.not_eq_true] at h2
      simp only [h1, Bool.true_and, h2, Bool.false_and]
  · rw [if_neg h1]
    simp only [Bool.not_eq_true] at h1
    simp only [h1, Bool.false_and]
theorem spec_dbAll.same (l : List Int) (hl : l.length ≤ 1048576) : ∀ k, (∀ a n i, spec_dbAll.l0 k l a n i = impl_doublingsOf.l0 k l a n i) ∧ (∀ a b n i m j, spec_dbAll.l1 k l a b n i m j = impl_doublingsOf.l1 k l a b n i m j) := by
  intro k
  induction k with
  | zero => exact ⟨fun _ _ _ => rfl, fun _ _ _ _ _ _ => rfl⟩
  | succ k ih =>
    refine ⟨fun a n i => ?_, fun a b n i m j => ?_⟩
    · simp only [spec_dbAll.l0, impl_doublingsOf.l0, ih.2]
    · simp only [spec_dbAll.l1, impl_doublingsOf.l1, ih.1, ih.2, spec_dbCan.is l _ _ hl, impl_canDouble.is l _ _ hl]
theorem spec_dbAll.ev (l : List Int) (hl : l.length ≤ 1048576) {r : List S70} (h : Ev (fun k => impl_doublingsOf.f k l) r) : Ev (fun k => spec_dbAll.f k l) r := by
  refine Ev.congr (fun k => ?_) h
  unfold spec_dbAll.f impl_doublingsOf.f
  exact (spec_dbAll.same l hl k).1 _ _ _
def allIn (l : List Int) (a b : Int) : Bool := l.all fun x => decide (a ≤ x) && decide (x ≤ b)
theorem spec_l1All.l0ev (a b : Int) (n : Int) (hn : n ≤ 1048576) : ∀ (tl done : List Int), ((done ++ tl).length : Int) = n → Ev (fun k => spec_l1All.l0 k a b (done ++ tl) n done.length) (allIn tl a b) := by
  intro tl
  induction tl with
  | nil =>
    intro done hd
    refine Ev.step (f := fun _ => some true) (fun k => ?_) (Ev.now _)
    simp only [spec_l1All.l0]
    simp at hd
    rw [if_neg (by omega)]
  | cons x xs ih =>
    intro done hd
    have hd' : (done.length : Int) + (xs.length + 1) = n := by simpa using hd
    have hx : rd (done ++ x :: xs) (done.length : Int) = x := by simp [rd]
    by_cases hp : (decide (a ≤ x) && decide (x ≤ b)) = true
    · have h := ih (done ++ [x]) (by simp; omega)
      refine Ev.step (f := fun k => spec_l1All.l0 k a b (done ++ [x] ++ xs) n ((done ++ [x]).length : Int)) (fun k => ?_) ?_
      · simp only [spec_l1All.l0]
        rw [if_pos (by omega), if_pos (by omega), if_pos (by simp; omega), hx, spec_l1In.is, hp]
        simp only [Option.bind_some, if_true]
        rw [w64s done.length (by omega)]
        simp
      · rw [show allIn (x :: xs) a b = allIn xs a b by simp [allIn] at hp ⊢; simp [hp]]
        exact h
    · refine Ev.step (f := fun _ => some false) (fun k => ?_) (by rw [show allIn (x :: xs) a b = false by simp [allIn] at hp ⊢; intro h1 h2; exact absurd (hp h1) (by omega)]; exact Ev.now _)
      simp only [spec_l1All.l0]
      rw [if_pos (by omega), if_pos (by omega), if_pos (by simp; omega), hx, spec_l1In.is]
      simp only [Option.bind_some]
      rw [if_neg hp]
theorem spec_l1All.ev (l : List Int) (a b : Int) (hl : l.length ≤ 1048576) : Ev (fun k => spec_l1All.f k l a b) (allIn l a b) := by
  have h := spec_l1All.l0ev a b l.length (by omega) l [] (by simp)
  simpa [spec_l1All.f] using h
def isHeaps (l : List Int) : Bool := (decide (1 ≤ (l.length : Int)) && decide ((l.length : Int) ≤ 12)) && allIn l 0 1000
theorem spec_hpGood.ev (l : List Int) (hl : l.length ≤ 1048576) : Ev (fun k => spec_hpGood.f k l) (isHeaps l) := by
  unfold spec_hpGood.f isHeaps
  simp only [spec_l1In.is, Option.bind_some]
  by_cases h : (decide (1 ≤ (l.length : Int)) && decide ((l.length : Int) ≤ 12)) = true
  · simp only [h, if_true, Bool.true_and]
    exact Ev.bind (spec_l1All.ev l 0 1000 hl) (Ev.now _)
  · simp only [h]
    simpa using Ev.now false
theorem impl_AreHeaps.is (l : List Int) : impl_AreHeaps.f l = some (isHeaps l) := by
  unfold impl_AreHeaps.f isHeaps impl_areIn.f allIn
  simp only [impl_within.is, Option.bind_some]
  by_cases h : (decide (1 ≤ (l.length : Int)) && decide ((l.length : Int) ≤ 12)) = true
  · simp only [h, if_true, Bool.true_and]
  · simp only [h]
    simp
/-- The sum as the machine makes it. -/
def wsum : List Int → Int → Int
  | [], a => a
  | x :: xs, a => wsum xs (wrap64 (a + x))
theorem spec_hpSum.l0ev (n : Int) (hn : n ≤ 1048576) : ∀ (tl done : List Int) (a : Int), ((done ++ tl).length : Int) = n → Ev (fun k => spec_hpSum.l0 k a (done ++ tl) n done.length) (wsum tl a) := by
  intro tl
  induction tl with
  | nil =>
    intro done a hd
    refine Ev.step (f := fun _ => some a) (fun k => ?_) (Ev.now a)
    simp only [spec_hpSum.l0]
    simp at hd
    rw [if_neg (by omega)]
  | cons x xs ih =>
    intro done a hd
    have hd' : (done.length : Int) + (xs.length + 1) = n := by simpa using hd
    have hx : rd (done ++ x :: xs) (done.length : Int) = x := by simp [rd]
    have h := ih (done ++ [x]) (wrap64 (a + x)) (by simp; omega)
    refine Ev.step (f := fun k => spec_hpSum.l0 k (wrap64 (a + x)) (done ++ [x] ++ xs) n ((done ++ [x]).length : Int)) (fun k => ?_) (by simpa [wsum] using h)
    simp only [spec_hpSum.l0]
    rw [if_pos (by omega), if_pos (by omega), if_pos (by simp; omega), hx, w64s done.length (by omega)]
    simp
theorem spec_hpSum.ev (l : List Int) (hl : l.length ≤ 1048576) : Ev (fun k => spec_hpSum.f k l) (wsum l 0) := by
  have h := spec_hpSum.l0ev l.length (by omega) l [] 0 (by simp)
  simpa [spec_hpSum.f] using h
theorem impl_sum.l0ev (n : Int) (hn : n ≤ 1048576) : ∀ (tl done : List Int) (a : Int), ((done ++ tl).length : Int) = n → Ev (fun k => impl_sum.l0 k a (done ++ tl) n done.length) (wsum tl a) := by
  intro tl
  induction tl with
  | nil =>
    intro done a hd
    refine Ev.step (f := fun _ => some a) (fun k => ?_) (Ev.now a)
    simp only [impl_sum.l0]
    simp at hd
    rw [if_neg (by omega)]
  | cons x xs ih =>
    intro done a hd
    have hd' : (done.length : Int) + (xs.length + 1) = n := by simpa using hd
    have hx : rd (done ++ x :: xs) (done.length : Int) = x := by simp [rd]
    have h := ih (done ++ [x]) (wrap64 (a + x)) (by simp; omega)
    refine Ev.step (f := fun k => impl_sum.l0 k (wrap64 (a + x)) (done ++ [x] ++ xs) n ((done ++ [x]).length : Int)) (fun k => ?_) (by simpa [wsum] using h)
    simp only [impl_sum.l0]
    rw [if_pos (by omega), if_pos (by omega), if_pos (by simp; omega), hx, w64s done.length (by omega)]
    simp
theorem impl_sum.ev (l : List Int) (hl : l.length ≤ 1048576) : Ev (fun k => impl_sum.f k l) (wsum l 0) := by
  have h := impl_sum.l0ev l.length (by omega) l [] 0 (by simp)
  simpa [impl_sum.f] using h
def isFew (l : List Int) : Bool := isHeaps l && ((decide (2 ≤ (l.length : Int)) && decide ((l.length : Int) ≤ 4)) && (decide (1 ≤ wsum l 0) && decide (wsum l 0 ≤ 40)))
theorem spec_dbGood.ev (l : List Int) (hl : l.length ≤ 1048576) : Ev (fun k => spec_dbGood.f k l) (isFew l) := by
  unfold spec_dbGood.f isFew
  simp only [spec_l1In.is, Option.bind_some]
  by_cases h2 : (decide (2 ≤ (l.length : Int)) && decide ((l.length : Int) ≤ 4)) = true
  · simp only [h2, if_true, Bool.true_and]
    refine Ev.bind (spec_hpGood.ev l hl) ?_
    by_cases h : isHeaps l = true
    · simp only [h, if_true, Bool.true_and]
      exact Ev.bind (spec_hpSum.ev l hl) (Ev.now _)
    · simp only [Bool.not_eq_true] at h
      simp only [h, Bool.false_and]
      exact Ev.now _
  · simp only [Bool.not_eq_true] at h2
    simp only [h2, Bool.false_and, Bool.and_false]
    exact Ev.now _
theorem impl_AreFewHeaps.ev (l : List Int) (hl : l.length ≤ 1048576) : Ev (fun k => impl_AreFewHeaps.f k l) (isFew l) := by
  unfold impl_AreFewHeaps.f isFew
  simp only [impl_AreHeaps.is, impl_within.is, Option.bind_some]
  by_cases h : isHeaps l = true
  · simp only [h, if_true, Bool.true_and]
    by_cases h2 : (decide (2 ≤ (l.length : Int)) && decide ((l.length : Int) ≤ 4)) = true
    · simp only [h2, if_true, Bool.true_and]
      exact Ev.bind (impl_sum.ev l hl) (Ev.now _)
    · simp only [Bool.not_eq_true] at h2
      simp only [h2, Bool.false_and]
      exact Ev.now _
  · simp only [Bool.not_eq_true] at h
    simp only [h, Bool.false_and]
    exact Ev.now _
theorem both_DoublingsOf (l : List Int) (hl : l.length ≤ 1048576) : ∃ v : List S70 × Bool, v.1.length ≤ 1048576 ∧ Ev (fun k => spec_DoublingsOf.f k l) v ∧ Ev (fun k => impl_DoublingsOf.f k l) v := by
  by_cases h : isFew l = true
  · have h4 : l.length ≤ 4 := by
      simp [isFew] at h
      omega
    obtain ⟨r, hr, e⟩ := impl_doublingsOf.tot l h4
    refine ⟨(r, true), by simp; omega, Ev.bind (spec_dbGood.ev l hl) ?_, Ev.bind (impl_AreFewHeaps.ev l hl) ?_⟩
    · simp only [h, if_true]
      exact Ev.bind (spec_dbAll.ev l hl e) (Ev.now _)
    · simp only [h, if_true]
      exact Ev.bind e (Ev.now _)
  · refine ⟨([], false), by simp, Ev.bind (spec_dbGood.ev l hl) ?_, Ev.bind (impl_AreFewHeaps.ev l hl) ?_⟩
    · simp only [h]
      exact Ev.now _
    · simp only [h]
      exact Ev.now _
theorem FnExactDoublingsOf : laws_FnExactDoublingsOf.Pure := by
  intro l _ _ _
  by_cases hl : (l.length : Int) > 1048576
  · exact ⟨0, by unfold laws_FnExactDoublingsOf.f; rw [if_pos hl]⟩
  obtain ⟨K1, h1⟩ := laws_toIntS.ev l (by omega)
  obtain ⟨v, hv, ⟨K2, h2⟩, ⟨K3, h3⟩⟩ := both_DoublingsOf l (by omega)
  obtain ⟨v, b⟩ := v
  simp only at hv
  obtain ⟨K4, h4⟩ := laws_eqIntS.ev l (by omega)
  obtain ⟨K5, h5⟩ := laws_eqDoublingS.ev v hv
  obtain ⟨K6, h6⟩ := laws_markIntS.ev l (by omega)
  obtain ⟨K7, h7⟩ := laws_markDoublingS.ev v hv 1 (by omega) (by omega)
  obtain ⟨K8, h8⟩ := laws_heldDoublingS.ev v hv
  dsimp only at h1 h2 h3 h4 h5 h6 h7 h8
  refine ⟨K1 + K2 + K3 + K4 + K5 + K6 + K7 + K8 + 1 + 1 + 1, ?_⟩
  have c1 : ¬ (1 + (l.length : Int) < 0) := by omega
  have c2 : ¬ (1 + 2 * (v.length : Int) < 0) := by omega
  simp (disch := omega) only [laws_FnExactDoublingsOf.f, if_neg hl, h1, h2, h3, h5, Option.bind_some, bne_self_eq_false, if_true]
  simp (disch := omega) only [laws_FnExactDoublingsOf.j0, h1, h4, h5, h6, Option.bind_some, bne_self_eq_false, Bool.false_eq_true, if_true, if_false, if_neg c1]
  simp (disch := omega) only [laws_FnExactDoublingsOf.j1, h1, h3, h5, h7, h8, Option.bind_some, bne_self_eq_false, Bool.false_eq_true, if_true, if_false, if_neg c2]
  simp (disch := omega) only [laws_FnExactDoublingsOf.j2, h8, Option.bind_some, Bool.false_eq_true, if_true, if_false, if_neg c2]

end Go.Proofs.Ytdhhphngabamoaa.Pure
