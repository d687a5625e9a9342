/- The program's HeapsBefore returns what the reference's returns, for all arguments. It has no conditions. -/
import Derived.Test.YtcdlflmeimbdaaaPFnExactHeapsBeforex6
namespace Go.Proofs.Ytcdlflmeimbdaaa.Pure
open Go.RowKit Go.Proofs.Ytcdlflmeimbdaaa.PFnExactHeapsBefore Go.Proofs.YtcdlflmeimbdaaaW.PrintWords Go.Proofs.YtcdlflmeimbdaaaW.PrintLast
set_option linter.unusedVariables false
set_option linter.unusedSimpArgs false

/-! ### small words -/
theorem w64 (n : Int) (h1 : -9223372036854775808 ≤ n) (h2 : n ≤ 9223372036854775807) : wrap64 n = n := by unfold wrap64; omega
theorem w64s (i : Nat) (h : i < 9223372036854775807) : wrap64 ((i : Int) + 1) = ((i + 1 : Nat) : Int) := by unfold wrap64; omega
theorem rd_at (l : List Int) (i : Nat) (h : i < l.length) : rd l (i : Int) = l[i] := by simp [rd, List.getD_eq_getElem?_getD, List.getElem?_eq_getElem h]
theorem wf64 {x : Int} (h : (Lit.int .i64 x).wf = true) : -9223372036854775808 ≤ x ∧ x ≤ 9223372036854775807 := by
  simp [Lit.wf, IntKind.min, IntKind.max, IntKind.bits, IntKind.signed] at h
  omega
/-! ### copies, marks -/
theorem laws_toIntS.l0ev (l : List Int) (hl : l.length ≤ 1048576) (d : Nat) : ∀ i, i + d = l.length → Ev (fun k => laws_toIntS.l0 k l (l.take i ++ List.replicate d 0) i) l := by
  induction d with
  | zero =>
    intro i hi
    refine Ev.step (f := fun _ => some l) (fun k => ?_) (Ev.now _)
    simp only [laws_toIntS.l0]
    rw [if_neg (by omega)]
    simp [List.take_of_length_le (show l.length ≤ i by omega)]
  | succ d ih =>
    intro i hi
    refine Ev.step (f := fun k => laws_toIntS.l0 k l (l.take (i + 1) ++ List.replicate d 0) ((i + 1 : Nat) : Int)) (fun k => ?_) (ih (i + 1) (by omega))
    simp only [laws_toIntS.l0]
    rw [if_pos (by omega), if_pos (by omega), if_pos (by simp; omega), w64s i (by omega), rd_at l i (by omega)]
    congr 1
    rw [show ((i : Int)).toNat = i by omega, List.set_append_right _ _ (by simp; omega), List.replicate_succ, List.length_take, show i - min i l.length = 0 by omega, List.set_cons_zero, List.take_succ_eq_append_getElem (show i < l.length by omega)]
    simp only [List.append_assoc, List.cons_append, List.nil_append]
theorem laws_toIntS.ev (l : List Int) (hl : l.length ≤ 1048576) : Ev (fun k => laws_toIntS.f k l) l := by
  have h := laws_toIntS.l0ev l hl l.length 0 (by omega)
  unfold laws_toIntS.f
  simp only [if_pos (show (0 : Int) ≤ (l.length : Int) by omega), if_pos (show (l.length : Int).toNat ≤ 35184372088832 by omega)]
  simpa using h
theorem laws_eqIntS.l0ev (l : List Int) (hl : l.length ≤ 1048576) (d : Nat) : ∀ i, i + d = l.length → Ev (fun k => laws_eqIntS.l0 k l l i) true := by
  induction d with
  | zero =>
    intro i hi
    refine Ev.step (f := fun _ => some true) (fun k => ?_) (Ev.now _)
    simp only [laws_eqIntS.l0]
    rw [if_neg (by omega)]
  | succ d ih =>
    intro i hi
    refine Ev.step (f := fun k => laws_eqIntS.l0 k l l ((i + 1 : Nat) : Int)) (fun k => ?_) (ih (i + 1) (by omega))
    simp only [laws_eqIntS.l0]
    rw [if_pos (by omega), if_pos (by omega), if_pos (by omega), if_pos trivial, w64s i (by omega)]
theorem laws_eqIntS.ev (l : List Int) (hl : l.length ≤ 1048576) : Ev (fun k => laws_eqIntS.f k l l) true := by
  unfold laws_eqIntS.f
  simp only [if_true]
  exact laws_eqIntS.l0ev l hl l.length 0 (by omega)
/-- Marked cells, from k on. -/
def marks : List Int → Int → List Int
  | [], _ => []
  | _ :: xs, k => k :: marks xs (k + 1)
theorem marks_length : ∀ (l : List Int) (k : Int), (marks l k).length = l.length
  | [], _ => rfl
  | _ :: xs, k => by simp [marks, marks_length xs]
theorem laws_markIntS.l0ev (hd : List Int) : ∀ (tl done : List Int) (m : Int), done.length + tl.length ≤ 1048576 → 0 ≤ m → m ≤ 1048577 + done.length →
    Ev (fun k => laws_markIntS.l0 k (done ++ tl) m done.length) (m + tl.length, done ++ marks tl m) := by
  intro tl
  induction tl with
  | nil =>
    intro done m h1 h2 h3
    refine Ev.step (f := fun _ => some (m, done)) (fun k => ?_) (by simpa [marks] using Ev.now (m, done))
    simp only [laws_markIntS.l0]
    rw [if_neg (by simp)]
    simp
  | cons x xs ih =>
    intro done m h1 h2 h3
    simp only [List.length_cons] at h1
    have h := ih (done ++ [m]) (m + 1) (by simp; omega) (by omega) (by simp; omega)
    refine Ev.step (f := fun k => laws_markIntS.l0 k (done ++ [m] ++ xs) (m + 1) ((done ++ [m]).length : Int)) (fun k => ?_) ?_
    · simp only [laws_markIntS.l0]
      rw [if_pos (by simp; omega), if_pos (by omega), w64 (m + 1) (by omega) (by omega), w64s done.length (by omega)]
      congr 1
      · simp [List.set_append_right]
      · simp
    · have e : (m + ((x :: xs).length : Int), done ++ marks (x :: xs) m) = (m + 1 + (xs.length : Int), done ++ [m] ++ marks xs (m + 1)) := by
        simp [marks]; omega
      rw [e]; exact h
theorem laws_markIntS.ev (l : List Int) (hl : l.length ≤ 1048576) : Ev (fun k => laws_markIntS.f k l 1) (1 + (l.length : Int), marks l 1) := by
  have h := laws_markIntS.l0ev [] l [] 1 (by simpa using hl) (by omega) (by simp)
  simpa [laws_markIntS.f] using h
theorem laws_heldIntS.l0ev : ∀ (tl done : List Int) (m : Int), done.length + tl.length ≤ 1048576 → 0 ≤ m → m ≤ 1048577 + done.length →
    Ev (fun k => laws_heldIntS.l0 k (done ++ marks tl m) m done.length) (m + tl.length) := by
  intro tl
  induction tl with
  | nil =>
    intro done m h1 h2 h3
    refine Ev.step (f := fun _ => some m) (fun k => ?_) (by simpa [marks] using Ev.now m)
    simp only [laws_heldIntS.l0]
    rw [if_neg (by simp [marks])]
  | cons x xs ih =>
    intro done m h1 h2 h3
    simp only [List.length_cons] at h1
    have h := ih (done ++ [m]) (m + 1) (by simp; omega) (by omega) (by simp; omega)
    refine Ev.step (f := fun k => laws_heldIntS.l0 k (done ++ [m] ++ marks xs (m + 1)) (m + 1) ((done ++ [m]).length : Int)) (fun k => ?_) ?_
    · simp only [laws_heldIntS.l0]
      rw [if_pos (by simp [marks]; omega), if_pos (by omega), if_pos (by simp [rd, marks]), w64 (m + 1) (by omega) (by omega), w64s done.length (by omega)]
      congr 1
      · simp [marks]
      · simp
    · have e : m + ((x :: xs).length : Int) = m + 1 + (xs.length : Int) := by simp; omega
      rw [e]; exact h
theorem laws_heldIntS.ev (l : List Int) (hl : l.length ≤ 1048576) : Ev (fun k => laws_heldIntS.f k (marks l 1) 1) (1 + (l.length : Int)) := by
  have h := laws_heldIntS.l0ev l [] 1 (by simpa using hl) (by omega) (by simp)
  simpa [laws_heldIntS.f] using h
theorem spec_l1In.is (x a b : Int) : spec_l1In.f x a b = some (decide (a ≤ x) && decide (x ≤ b)) := by
  unfold spec_l1In.f
  by_cases h : x ≥ a
  · simp [h, show a ≤ x from h]
  · simp [h, show ¬ a ≤ x from h]
def allIn (l : List Int) (a b : Int) : Bool := l.all fun x => decide (a ≤ x) && decide (x ≤ b)
theorem spec_l1All.l0ev (a b : Int) (n : Int) (hn : n ≤ 1048576) : ∀ (tl done : List Int), ((done ++ tl).length : Int) = n → Ev (fun k => spec_l1All.l0 k a b (done ++ tl) n done.length) (allIn tl a b) := by
  intro tl
  induction tl with
  | nil =>
    intro done hd
    refine Ev.step (f := fun _ => some true) (fun k => ?_) (Ev.now _)
    simp only [spec_l1All.l0]
    simp at hd
    rw [if_neg (by omega)]
  | cons x xs ih =>
    intro done hd
    have hd' : (done.length : Int) + (xs.length + 1) = n := by simpa using hd
    have hx : rd (done ++ x :: xs) (done.length : Int) = x := by simp [rd]
    by_cases hp : (decide (a ≤ x) && decide (x ≤ b)) = true
    · have h := ih (done ++ [x]) (by simp; omega)
      refine Ev.step (f := fun k => spec_l1All.l0 k a b (done ++ [x] ++ xs) n ((done ++ [x]).length : Int)) (fun k => ?_) ?_
      · simp only [spec_l1All.l0]
        rw [if_pos (by omega), if_pos (by omega), if_pos (by simp; omega), hx, spec_l1In.is, hp]
        simp only [Option.bind_some, if_true]
        rw [w64s done.length (by omega)]
        simp
      · rw [show allIn (x :: xs) a b = allIn xs a b by simp [allIn] at hp ⊢; simp [hp]]
        exact h
    · refine Ev.step (f := fun _ => some false) (fun k => ?_) (by rw [show allIn (x :: xs) a b = false by simp [allIn] at hp ⊢; intro h1 h2; exact absurd (hp h1) (by omega)]; exact Ev.now _)
      simp only [spec_l1All.l0]
      rw [if_pos (by omega), if_pos (by omega), if_pos (by simp; omega), hx, spec_l1In.is]
      simp only [Option.bind_some]
      rw [if_neg hp]
theorem spec_l1All.ev (l : List Int) (a b : Int) (hl : l.length ≤ 1048576) : Ev (fun k => spec_l1All.f k l a b) (allIn l a b) := by
  have h := spec_l1All.l0ev a b l.length (by omega) l [] (by simp)
  simpa [spec_l1All.f] using h
theorem impl_within.is (x a b : Int) : impl_within.f x a b = some (decide (a ≤ x) && decide (x ≤ b)) := by
  unfold impl_within.f
  by_cases h : x ≥ a
  · simp [h, show a ≤ x from h]
  · simp [h, show ¬ a ≤ x from h]
def isHeaps (l : List Int) : Bool := (decide (1 ≤ (l.length : Int)) && decide ((l.length : Int) ≤ 12)) && allIn l 0 1000
theorem spec_hpGood.ev (l : List Int) (hl : l.length ≤ 1048576) : Ev (fun k => spec_hpGood.f k l) (isHeaps l) := by
  unfold spec_hpGood.f isHeaps
  simp only [spec_l1In.is, Option.bind_some]
  by_cases h : (decide (1 ≤ (l.length : Int)) && decide ((l.length : Int) ≤ 12)) = true
  · simp only [h, if_true, Bool.true_and]
    exact Ev.bind (spec_l1All.ev l 0 1000 hl) (Ev.now _)
  · simp only [h]
    simpa using Ev.now false
theorem impl_AreHeaps.is (l : List Int) : impl_AreHeaps.f l = some (isHeaps l) := by
  unfold impl_AreHeaps.f isHeaps impl_areIn.f allIn
  simp only [impl_within.is, Option.bind_some]
  by_cases h : (decide (1 ≤ (l.length : Int)) && decide ((l.length : Int) ≤ 12)) = true
  · simp only [h, if_true, Bool.true_and]
  · simp only [h]
    simp
/-- The sum as the machine makes it. -/
def wsum : List Int → Int → Int
  | [], a => a
  | x :: xs, a => wsum xs (wrap64 (a + x))
theorem spec_hpSum.l0ev (n : Int) (hn : n ≤ 1048576) : ∀ (tl done : List Int) (a : Int), ((done ++ tl).length : Int) = n → Ev (fun k => spec_hpSum.l0 k a (done ++ tl) n done.length) (wsum tl a) := by
  intro tl
  induction tl with
  | nil =>
    intro done a hd
    refine Ev.step (f := fun _ => some a) (fun k => ?_) (Ev.now a)
    simp only [spec_hpSum.l0]
    simp at hd
    rw [if_neg (by omega)]
  | cons x xs ih =>
    intro done a hd
    have hd' : (done.length : Int) + (xs.length + 1) = n := by simpa using hd
    have hx : rd (done ++ x :: xs) (done.length : Int) = x := by simp [rd]
    have h := ih (done ++ [x]) (wrap64 (a + x)) (by simp; omega)
    refine Ev.step (f := fun k => spec_hpSum.l0 k (wrap64 (a + x)) (done ++ [x] ++ xs) n ((done ++ [x]).length : Int)) (fun k => ?_) (by simpa [wsum] using h)
    simp only [spec_hpSum.l0]
    rw [if_pos (by omega), if_pos (by omega), if_pos (by simp; omega), hx, w64s done.length (by omega)]
    simp
theorem spec_hpSum.ev (l : List Int) (hl : l.length ≤ 1048576) : Ev (fun k => spec_hpSum.f k l) (wsum l 0) := by
  have h := spec_hpSum.l0ev l.length (by omega) l [] 0 (by simp)
  simpa [spec_hpSum.f] using h
theorem impl_sum.l0ev (n : Int) (hn : n ≤ 1048576) : ∀ (tl done : List Int) (a : Int), ((done ++ tl).length : Int) = n → Ev (fun k => impl_sum.l0 k a (done ++ tl) n done.length) (wsum tl a) := by
  intro tl
  induction tl with
  | nil =>
    intro done a hd
    refine Ev.step (f := fun _ => some a) (fun k => ?_) (Ev.now a)
    simp only [impl_sum.l0]
    simp at hd
    rw [if_neg (by omega)]
  | cons x xs ih =>
    intro done a hd
    have hd' : (done.length : Int) + (xs.length + 1) = n := by simpa using hd
    have hx : rd (done ++ x :: xs) (done.length : Int) = x := by simp [rd]
    have h := ih (done ++ [x]) (wrap64 (a + x)) (by simp; omega)
    refine Ev.step (f := fun k => impl_sum.l0 k (wrap64 (a + x)) (done ++ [x] ++ xs) n ((done ++ [x]).length : Int)) (fun k => ?_) (by simpa [wsum] using h)
    simp only [impl_sum.l0]
    rw [if_pos (by omega), if_pos (by omega), if_pos (by simp; omega), hx, w64s done.length (by omega)]
    simp
theorem impl_sum.ev (l : List Int) (hl : l.length ≤ 1048576) : Ev (fun k => impl_sum.f k l) (wsum l 0) := by
  have h := impl_sum.l0ev l.length (by omega) l [] 0 (by simp)
  simpa [impl_sum.f] using h
def isFew (l : List Int) : Bool := isHeaps l && ((decide (2 ≤ (l.length : Int)) && decide ((l.length : Int) ≤ 4)) && (decide (1 ≤ wsum l 0) && decide (wsum l 0 ≤ 40)))
theorem spec_dbGood.ev (l : List Int) (hl : l.length ≤ 1048576) : Ev (fun k => spec_dbGood.f k l) (isFew l) := by
  unfold spec_dbGood.f isFew
  simp only [spec_l1In.is, Option.bind_some]
  by_cases h2 : (decide (2 ≤ (l.length : Int)) && decide ((l.length : Int) ≤ 4)) = true
  · simp only [h2, if_true, Bool.true_and]
    refine Ev.bind (spec_hpGood.ev l hl) ?_
    by_cases h : isHeaps l = true
    · simp only [h, if_true, Bool.true_and]
      exact Ev.bind (spec_hpSum.ev l hl) (Ev.now _)
    · simp only [Bool.not_eq_true] at h
      simp only [h, Bool.false_and]
      exact Ev.now _
  · simp only [Bool.not_eq_true] at h2
    simp only [h2, Bool.false_and, Bool.and_false]
    exact Ev.now _
theorem impl_AreFewHeaps.ev (l : List Int) (hl : l.length ≤ 1048576) : Ev (fun k => impl_AreFewHeaps.f k l) (isFew l) := by
  unfold impl_AreFewHeaps.f isFew
  simp only [impl_AreHeaps.is, impl_within.is, Option.bind_some]
  by_cases h : isHeaps l = true
  · simp only [h, if_true, Bool.true_and]
    by_cases h2 : (decide (2 ≤ (l.length : Int)) && decide ((l.length : Int) ≤ 4)) = true
    · simp only [h2, if_true, Bool.true_and]
      exact Ev.bind (impl_sum.ev l hl) (Ev.now _)
    · simp only [Bool.not_eq_true] at h2
      simp only [h2, Bool.false_and]
      exact Ev.now _
  · simp only [Bool.not_eq_true] at h
    simp only [h, Bool.false_and]
    exact Ev.now _
theorem spec_l1Same.l0ev (n : Int) (hn : n ≤ 1048576) : ∀ (ta tb da db : List Int), da.length = db.length → ta.length = tb.length → ((da ++ ta).length : Int) = n → Ev (fun k => spec_l1Same.l0 k (da ++ ta) (db ++ tb) n da.length) (decide (ta = tb)) := by
  intro ta
  induction ta with
  | nil =>
    intro tb da db hd ht hl
    have htb : tb = [] := List.eq_nil_of_length_eq_zero (by simpa using ht.symm)
    subst htb
    refine Ev.step (f := fun _ => some true) (fun k => ?_) (by simpa using Ev.now true)
    simp only [spec_l1Same.l0]
    simp at hl
    rw [if_neg (by omega)]
  | cons x xs ih =>
    intro tb da db hd ht hl
    cases tb with
    | nil => simp at ht
    | cons y ys =>
      have hl' : (da.length : Int) + (xs.length + 1) = n := by simpa using hl
      have e1 : rd (da ++ x :: xs) (da.length : Int) = x := by simp [rd]
      have e2 : rd (db ++ y :: ys) (da.length : Int) = y := by rw [hd]; simp [rd]
      by_cases c : x = y
      · have h := ih ys (da ++ [x]) (db ++ [y]) (by simp [hd]) (by simpa using ht) (by simp; omega)
        have e3 : decide (x :: xs = y :: ys) = decide (xs = ys) := by simp [c]
        refine Ev.step (f := fun k => spec_l1Same.l0 k (da ++ [x] ++ xs) (db ++ [y] ++ ys) n ((da ++ [x]).length : Int)) (fun k => ?_) (by rw [e3]; exact h)
        simp only [spec_l1Same.l0]
        rw [if_pos (by omega), if_pos (by omega), if_pos (by simp; omega), if_pos (by simp; omega), e1, e2, if_pos c, w64s da.length (by omega)]
        simp
      · have e3 : decide (x :: xs = y :: ys) = false := by simp [c]
        refine Ev.step (f := fun _ => some false) (fun k => ?_) (by rw [e3]; exact Ev.now _)
        simp only [spec_l1Same.l0]
        rw [if_pos (by omega), if_pos (by omega), if_pos (by simp; omega), if_pos (by simp; omega), e1, e2, if_neg c]
theorem spec_l1Same.ev (a b : List Int) (ha : a.length ≤ 1048576) : Ev (fun k => spec_l1Same.f k a b) (decide (a = b)) := by
  unfold spec_l1Same.f
  by_cases c : (a.length : Int) = (b.length : Int)
  · have h := spec_l1Same.l0ev a.length (by omega) a b [] [] rfl (by omega) (by simp)
    simp only [if_pos c]
    simpa using h
  · have e : decide (a = b) = false := by
      have : a ≠ b := fun h => c (by rw [h])
      simp [this]
    simp only [if_neg c, e]
    exact Ev.now _
/-! ### the rows behind one doubling back, found twice -/
def lex (a b : List Int) : Prop := hb.cmp a b < 0
instance lexDec (a b : List Int) : Decidable (lex a b) := inferInstanceAs (Decidable (hb.cmp a b < 0))
theorem cmp_anti : ∀ a b, ¬ hb.cmp a b < 0 → ¬ hb.cmp b a < 0 → a = b
  | [], [], _, _ => rfl
  | [], _ :: _, h, _ => by simp [hb.cmp] at h
  | _ :: _, [], _, h => by simp [hb.cmp] at h
  | x :: xs, y :: ys, h1, h2 => by
    have ih := cmp_anti xs ys
    simp only [hb.cmp] at h1 h2
    by_cases c1 : x < y
    · simp [c1] at h1
    · by_cases c2 : y < x
      · simp [c2] at h2
      · have e : x = y := by omega
        subst e
        simp only [gt_iff_lt, if_neg c1] at h1 h2
        rw [ih h1 h2]
theorem lex_or {a b : List Int} (hne : a ≠ b) (h : ¬ lex a b) : lex b a := by
  by_cases c : lex b a
  · exact c
  · exact absurd (cmp_anti a b h c) hne
theorem lex_ne {a b : List Int} (h : lex a b) : a ≠ b := by
  rintro rfl
  unfold lex at h
  rw [hb.cmp_self] at h
  omega
theorem lex_asym {a b : List Int} (h : lex a b) : ¬ hb.cmp b a < 0 := fun h2 => lex_ne (hb.cmp_trans _ _ _ h h2) rfl
theorem spec_dbLess.l0ev (n : Int) (hn : n ≤ 1048576) : ∀ (ta tb da db : List Int), da.length = db.length → ta.length = tb.length → ((da ++ ta).length : Int) = n → Ev (fun k => spec_dbLess.l0 k (db ++ tb) (da ++ ta) n da.length) (decide (lex ta tb)) := by
  intro ta
  induction ta with
  | nil =>
    intro tb da db hd ht hl
    have htb : tb = [] := List.eq_nil_of_length_eq_zero (by simpa using ht.symm)
    subst htb
    refine Ev.step (f := fun _ => some false) (fun k => ?_) (by simpa [lex, hb.cmp] using Ev.now false)
    simp only [spec_dbLess.l0]
    simp at hl
    rw [if_neg (by omega)]
  | cons x xs ih =>
    intro tb da db hd ht hl
    cases tb with
    | nil => simp at ht
    | cons y ys =>
      have hl' : (da.length : Int) + (xs.length + 1) = n := by simpa using hl
      have e1 : rd (da ++ x :: xs) (da.length : Int) = x := by simp [rd]
      have e2 : rd (db ++ y :: ys) (da.length : Int) = y := by rw [hd]; simp [rd]
      by_cases c : x = y
      · have h := ih ys (da ++ [x]) (db ++ [y]) (by simp [hd]) (by simpa using ht) (by simp; omega)
        have e3 : decide (lex (x :: xs) (y :: ys)) = decide (lex xs ys) := by
          subst c
          refine decide_eq_decide.2 ?_
          unfold lex
          simp only [hb.cmp, gt_iff_lt, if_neg (Int.lt_irrefl x)]
        refine Ev.step (f := fun k => spec_dbLess.l0 k (db ++ [y] ++ ys) (da ++ [x] ++ xs) n ((da ++ [x]).length : Int)) (fun k => ?_) (by rw [e3]; exact h)
        simp only [spec_dbLess.l0]
        rw [if_pos (by omega), if_pos (by omega), if_pos (by simp; omega), if_pos (by simp; omega), e1, e2, if_pos c, w64s da.length (by omega)]
        simp
      · have e3 : decide (lex (x :: xs) (y :: ys)) = decide (x < y) := by
          by_cases c1 : x < y
          · simp [lex, hb.cmp, c1]
          · have c2 : x > y := by omega
            simp [lex, hb.cmp, c1, c2]
        refine Ev.step (f := fun _ => some (decide (x < y))) (fun k => ?_) (by rw [e3]; exact Ev.now _)
        simp only [spec_dbLess.l0]
        rw [if_pos (by omega), if_pos (by omega), if_pos (by simp; omega), if_pos (by simp; omega), e1, e2, if_neg c]
theorem spec_dbLess.ev (a b : List Int) (ha : a.length ≤ 1048576) (hab : a.length = b.length) : Ev (fun k => spec_dbLess.f k a b) (decide (lex a b)) := by
  have h := spec_dbLess.l0ev a.length (by omega) a b [] [] rfl hab (by simp)
  simpa [spec_dbLess.f] using h
theorem ins_ok (M : List (List Int)) (b : List Int) (kk : Nat) (hM : M.Pairwise lex) (h1 : ∀ x ∈ M.take kk, lex x b) (h2 : ∀ x ∈ M.drop kk, lex b x) :
    (M.take kk ++ [b] ++ M.drop kk).Pairwise lex ∧ (M.take kk ++ [b] ++ M.drop kk).Perm (b :: M) := by
  refine ⟨?_, ?_⟩
  · have hM' : (M.take kk ++ M.drop kk).Pairwise lex := by rw [List.take_append_drop]; exact hM
    obtain ⟨p1, p2, p3⟩ := List.pairwise_append.1 hM'
    rw [List.append_assoc]
    refine List.pairwise_append.2 ⟨p1, ?_, ?_⟩
    · exact List.pairwise_cons.2 ⟨h2, p2⟩
    · intro x hx y hy
      rcases List.mem_cons.1 hy with rfl | hy
      · exact h1 x hx
      · exact p3 x hx y hy
  · rw [List.append_assoc]
    have := List.perm_middle (a := b) (l₁ := M.take kk) (l₂ := M.drop kk)
    rw [List.take_append_drop] at this
    exact this
theorem spec_ins (l : List Int) (M : List (List Int)) (b : List Int) (i n j : Int) (hM : M.Pairwise lex) (hbM : b ∉ M) (hlen : ∀ x ∈ M, x.length = b.length) (hbl : b.length ≤ 1048576) (hML : M.length ≤ 1000) :
    ∀ kk : Nat, kk ≤ M.length → (∀ x ∈ M.drop kk, lex b x) → ∃ M' : List (List Int), M'.Pairwise lex ∧ M'.Perm (b :: M) ∧ ∀ v, Ev (fun k => spec_HeapsBefore.l1 k l M' i n i l n (wrap64 (j + 1))) v → Ev (fun k => spec_HeapsBefore.l2 k l M i b kk n i l n j) v := by
  intro kk
  induction kk with
  | zero =>
    intro _ h
    obtain ⟨p1, p2⟩ := ins_ok M b 0 hM (by simp) h
    refine ⟨M.take 0 ++ [b] ++ M.drop 0, p1, p2, fun v hv => Ev.step (f := fun k => spec_HeapsBefore.l1 k l (M.take 0 ++ [b] ++ M.drop 0) i n i l n (wrap64 (j + 1))) (fun k => ?_) hv⟩
    simp only [spec_HeapsBefore.l2]
    rw [if_neg (by simp)]
    (try simp only [Option.bind_some])
    rw [if_pos (by omega), if_pos (by omega)]
    (try simp only [Option.bind_some])
    rw [if_pos (by simp), if_pos (by simp), if_pos (by simp; omega)]
    simp
  | succ kk ih =>
    intro hk h
    have hkl : kk < M.length := by omega
    have hm : M[kk] ∈ M := List.getElem_mem hkl
    have hr : rd_L1 M (wrap64 (((kk + 1 : Nat) : Int) - 1)) = M[kk] := by
      have : wrap64 (((kk + 1 : Nat) : Int) - 1) = (kk : Int) := by unfold wrap64; omega
      rw [this]
      simp [rd_L1, List.getD_eq_getElem?_getD, List.getElem?_eq_getElem hkl]
    have hw : wrap64 (((kk + 1 : Nat) : Int) - 1) = (kk : Int) := by unfold wrap64; omega
    obtain ⟨K1, h1⟩ := spec_dbLess.ev b M[kk] hbl (hlen _ hm).symm
    dsimp only at h1
    by_cases c : lex b M[kk]
    · obtain ⟨M', p1, p2, p3⟩ := ih (by omega) (by
        intro x hx
        rw [List.drop_eq_getElem_cons hkl] at hx
        rcases List.mem_cons.1 hx with rfl | hx
        · exact c
        · exact h x hx)
      refine ⟨M', p1, p2, fun v hv => ?_⟩
      obtain ⟨K2, h2⟩ := p3 v hv
      dsimp only at h2
      refine ⟨K1 + K2 + 1, fun k hk => ?_⟩
      obtain ⟨k, rfl⟩ : ∃ k', k = k' + 1 := ⟨k - 1, by omega⟩
      simp only [spec_HeapsBefore.l2]
      rw [if_pos (by omega), hw, if_pos (by omega), if_pos (by omega), ← hw, hr, h1 k (by omega)]
      simp only [Option.bind_some, c, decide_true, if_true]
      rw [hw]
      exact h2 k (by omega)
    · obtain ⟨K2, h2⟩ := spec_l1Same.ev M[kk] b (by rw [hlen _ hm]; exact hbl)
      have hne : M[kk] ≠ b := fun e => hbM (e ▸ hm)
      have hl := lex_or (fun e => hne e.symm) c
      obtain ⟨p1, p2⟩ := ins_ok M b (kk + 1) hM (by
        intro x hx
        rw [List.take_succ_eq_append_getElem hkl] at hx
        rcases List.mem_append.1 hx with hx | hx
        · obtain ⟨a, ha, rfl⟩ := List.getElem_of_mem hx
          simp at ha
          rw [List.getElem_take]
          exact hb.cmp_trans _ _ _ (List.pairwise_iff_getElem.1 hM a kk (by omega) hkl (by omega)) hl
        · rw [List.mem_singleton.1 hx]; exact hl) h
      refine ⟨M.take (kk + 1) ++ [b] ++ M.drop (kk + 1), p1, p2, fun v ⟨K3, h3⟩ => ⟨K1 + K2 + K3 + 1, fun k hk' => ?_⟩⟩
      obtain ⟨k, rfl⟩ : ∃ k', k = k' + 1 := ⟨k - 1, by omega⟩
      simp only [spec_HeapsBefore.l2]
      rw [if_pos (by omega), hw, if_pos (by omega), if_pos (by omega), ← hw, hr, h1 k (by omega)]
      simp only [Option.bind_some, c, decide_false, Bool.false_eq_true, if_false, h2 k (by omega), hne]
      rw [if_pos (by omega), if_pos (by omega)]
      (try simp only [Option.bind_some])
      rw [if_pos (by simp; omega), if_pos (by simp; omega), if_pos (by simp; omega)]
      have := h3 k (by omega)
      simpa using this
/-! ### heaps before -/
/-- A doubling taken back: half of heap j goes to heap i. -/
def bef (l : List Int) (i j : Nat) : List Int := (l.set i (rd l i + rd l j / 2)).set j (rd l j / 2)
def okp (l : List Int) (i j : Nat) : Prop := i < l.length ∧ j < l.length ∧ i ≠ j ∧ 0 < rd l j ∧ rd l j % 2 = 0
theorem bef_length (l : List Int) (i j : Nat) : (bef l i j).length = l.length := by simp [bef]
theorem rd_bef (l : List Int) (i j p : Nat) (hp : p < l.length) : rd (bef l i j) (p : Int) = if p = j then rd l j / 2 else if p = i then rd l i + rd l j / 2 else rd l p := by
  unfold bef
  rw [rd_at _ p (by simpa using hp), List.getElem_set, List.getElem_set]
  by_cases h1 : j = p
  · simp [h1]
  · have h1' : ¬ p = j := fun e => h1 e.symm
    rw [if_neg h1, if_neg h1']
    by_cases h2 : i = p
    · rw [if_pos h2, if_pos h2.symm]
    · have h2' : ¬ p = i := fun e => h2 e.symm
      rw [if_neg h2, if_neg h2', rd_at l p hp]
theorem bef_inj {l : List Int} {i j i' j' : Nat} (h0 : ∀ p : Nat, p < l.length → 0 ≤ rd l p) (h : okp l i j) (h' : okp l i' j') (e : bef l i j = bef l i' j') : i = i' ∧ j = j' := by
  obtain ⟨a1, a2, a3, a4, a5⟩ := h
  obtain ⟨b1, b2, b3, b4, b5⟩ := h'
  have ej := congrArg (fun z => rd z (j : Int)) e
  have ei := congrArg (fun z => rd z (i : Int)) e
  rw [rd_bef _ _ _ _ a2, rd_bef _ _ _ _ a2, if_pos rfl] at ej
  rw [rd_bef _ _ _ _ a1, rd_bef _ _ _ _ a1, if_neg a3, if_pos rfl] at ei
  have c := h0 j a2
  have d := h0 i' b1
  have f := h0 i a1
  have hjj : j = j' := by
    by_cases q : j = j'
    · exact q
    · rw [if_neg q] at ej
      by_cases q2 : j = i'
      · rw [if_pos q2] at ej
        subst q2
        omega
      · rw [if_neg q2] at ej
        omega
  subst hjj
  refine ⟨?_, rfl⟩
  by_cases q : i = i'
  · exact q
  · rw [if_neg a3, if_neg q] at ei
    omega
def Seen (l : List Int) (i j : Nat) (x : List Int) : Prop := ∃ f t : Nat, x = bef l f t ∧ okp l f t ∧ (f < i ∨ f = i ∧ t < j)
structure Inv (l : List Int) (i j c : Nat) (L M : List (List Int)) : Prop where
  perm : M.Perm L
  sorted : M.Pairwise lex
  seen : ∀ x ∈ L, Seen l i j x
  len : L.length ≤ c
theorem Inv.mono {l : List Int} {i j c c' i' j' : Nat} {L M : List (List Int)} (h : Inv l i j c L M) (hc : c ≤ c') (hij : i < i' ∨ i = i' ∧ j ≤ j') : Inv l i' j' c' L M :=
  ⟨h.perm, h.sorted, fun x hx => by
    obtain ⟨f, t, e, ho, hl⟩ := h.seen x hx
    exact ⟨f, t, e, ho, by omega⟩, Nat.le_trans h.len hc⟩
/-- What both tell in the end. -/
structure Good (n : Nat) (v : List (List Int)) : Prop where
  len : v.length ≤ 12
  each : ∀ x ∈ v, x.length = n
theorem fin_ok {l : List Int} {i j : Nat} {L M : List (List Int)} (hn : l.length ≤ 4) (h : Inv l i j 12 L M) : hb.fin L = some (M, true) ∧ Good l.length M := by
  have hp := hb.ord_perm L
  have hs : (hb.sorted L).Perm L := by
    have h1 : (hb.sorted L).Perm ((List.range L.length).map (fun i => L.getD i [])) := hp.map _
    have h2 : (List.range L.length).map (fun i => L.getD i []) = L := by
      apply List.ext_getElem
      · simp
      · intro k h3 h4
        simp [List.getElem?_eq_getElem h4]
    rw [h2] at h1
    exact h1
  have hw : (hb.sorted L).Pairwise (fun a b => ¬ hb.cmp b a < 0) := by
    unfold hb.sorted
    rw [List.pairwise_map]
    exact hb.ord_sorted L
  have hm : M.Pairwise (fun a b => ¬ hb.cmp b a < 0) := h.sorted.imp (fun hab => lex_asym hab)
  have e : hb.sorted L = M := List.Perm.eq_of_pairwise (fun a b _ _ h1 h2 => cmp_anti a b h2 h1) hw hm (hs.trans h.perm.symm)
  have hnd : M.Nodup := h.sorted.imp (fun hab => lex_ne hab)
  have hlen : ∀ x ∈ L, x.length = l.length := fun x hx => by
    obtain ⟨f, t, rfl, _, _⟩ := h.seen x hx
    exact bef_length _ _ _
  refine ⟨?_, ⟨by rw [h.perm.length_eq]; exact h.len, fun x hx => hlen x (h.perm.mem_iff.1 hx)⟩⟩
  unfold hb.fin
  rw [if_pos ⟨h.len, fun x hx => by have := hlen x hx; omega, by rw [e]; exact hnd⟩, e]
def Both (l : List Int) (L M : List (List Int)) (i : Nat) : Prop := ∃ v, Good l.length v ∧ Ev (fun k => spec_HeapsBefore.l0 k l M (l.length : Int) i) (v, true) ∧ Ev (fun k => impl_HeapsBefore.l0 k l L (l.length : Int) i) (v, true)
theorem rd_set_self (l : List Int) (i : Nat) (x : Int) (h : i < l.length) : rd (l.set i x) (i : Int) = x := by
  rw [rd_at _ i (by simpa using h), List.getElem_set_self]
theorem rd_set_other (l : List Int) (i j : Nat) (x : Int) (hj : j < l.length) (h : i ≠ j) : rd (l.set i x) (j : Int) = rd l j := by
  rw [rd_at _ j (by simpa using hj), List.getElem_set_ne h, rd_at l j hj]
theorem both_in (l : List Int) (h4 : l.length ≤ 4) (h0 : ∀ p : Nat, p < l.length → 0 ≤ rd l p ∧ rd l p ≤ 1000) (i : Nat) (hi : i < l.length) (next : ∀ L M, Inv l (i + 1) 0 ((i + 1) * 3) L M → Both l L M (i + 1)) :
    ∀ (e j : Nat), j + e = l.length → ∀ (L M : List (List Int)), Inv l i j (i * 3 + (if i < j then j - 1 else j)) L M →
    ∃ v, Good l.length v ∧ Ev (fun k => spec_HeapsBefore.l1 k l M i (l.length : Int) i l (l.length : Int) j) (v, true) ∧ Ev (fun k => impl_HeapsBefore.l1 k l L i (l.length : Int) i l (l.length : Int) j) (v, true) := by
  intro e
  induction e with
  | zero =>
    intro j hj L M hI
    obtain ⟨v, hg, h1, h2⟩ := next L M (hI.mono (by rw [if_pos (by omega)]; omega) (by omega))
    have hw : wrap64 ((i : Int) + 1) = ((i + 1 : Nat) : Int) := w64s i (by omega)
    refine ⟨v, hg, Ev.step (f := fun k => spec_HeapsBefore.l0 k l M (l.length : Int) ((i + 1 : Nat) : Int)) (fun k => ?_) h1, Ev.step (f := fun k => impl_HeapsBefore.l0 k l L (l.length : Int) ((i + 1 : Nat) : Int)) (fun k => ?_) h2⟩
    · simp only [spec_HeapsBefore.l1]
      rw [if_neg (by omega), hw]
    · simp only [impl_HeapsBefore.l1]
      rw [if_neg (by omega), hw]
  | succ e ih =>
    intro j hj L M hI
    have hjl : j < l.length := by omega
    have hw : wrap64 ((j : Int) + 1) = ((j + 1 : Nat) : Int) := w64s j (by omega)
    have hLM := hI.perm.length_eq
    have hc : i * 3 + (if i < j then j - 1 else j) ≤ 100 := by split <;> omega
    have hL := hI.len
    by_cases hskip : i = j ∨ rd l j = 0 ∨ Int.tmod (rd l j) 2 = 1
    · obtain ⟨v, hg, ⟨K1, h1⟩, ⟨K2, h2⟩⟩ := ih (j + 1) (by omega) L M (hI.mono (by split <;> split <;> omega) (by omega))
      dsimp only at h1 h2
      refine ⟨v, hg, ⟨K1 + 1 + 1, fun k hk => ?_⟩, ⟨K2 + 1, fun k hk => ?_⟩⟩
      · obtain ⟨k, rfl⟩ : ∃ k', k = k' + 1 + 1 := ⟨k - 2, by omega⟩
        simp only [spec_HeapsBefore.l1]
        rw [if_pos (by omega), if_pos (by omega), if_pos (by omega)]
        have hfin : spec_HeapsBefore.j2 (k + 1) l M i j (rd l j) l.length i l l.length j true = some (v, true) := by
          simp only [spec_HeapsBefore.j2, if_true]
          rw [hw]
          exact h1 k (by omega)
        by_cases c1 : (i : Int) = j
        · rw [if_pos c1]; exact hfin
        · rw [if_neg c1]
          by_cases c2 : rd l j = 0
          · rw [if_pos c2]; exact hfin
          · rw [if_neg c2]
            have c3 : Int.tmod (rd l j) 2 = 1 := by
              rcases hskip with h | h | h
              · exact absurd (by omega) c1
              · exact absurd h c2
              · exact h
            rw [c3]
            exact hfin
      · obtain ⟨k, rfl⟩ : ∃ k', k = k' + 1 := ⟨k - 1, by omega⟩
        simp only [impl_HeapsBefore.l1]
        rw [if_pos (by omega), if_pos (by omega), if_pos (by omega)]
        have hfin : impl_HeapsBefore.l1 k l L i l.length i l l.length (wrap64 ((j : Int) + 1)) = some (v, true) := by
          rw [hw]
          exact h2 k (by omega)
        by_cases c1 : (i : Int) = j
        · rw [if_pos c1]; exact hfin
        · rw [if_neg c1]
          by_cases c2 : rd l j = 0
          · rw [if_pos c2]; exact hfin
          · rw [if_neg c2]
            have c3 : Int.tmod (rd l j) 2 = 1 := by
              rcases hskip with h | h | h
              · exact absurd (by omega) c1
              · exact absurd h c2
              · exact h
            rw [if_pos c3]
            exact hfin
    · have c1 : i ≠ j := fun h => hskip (Or.inl h)
      have c2 : rd l j ≠ 0 := fun h => hskip (Or.inr (Or.inl h))
      have c3 : ¬ Int.tmod (rd l j) 2 = 1 := fun h => hskip (Or.inr (Or.inr h))
      have hj0 := h0 j hjl
      have hi0 := h0 i hi
      have hm : Int.tmod (rd l j) 2 = rd l j % 2 := Int.tmod_eq_emod_of_nonneg hj0.1
      have hd : Int.tdiv (rd l j) 2 = rd l j / 2 := Int.tdiv_eq_ediv_of_nonneg hj0.1
      have heven : rd l j % 2 = 0 := by rw [hm] at c3; omega
      have hok : okp l i j := ⟨hi, hjl, c1, by omega, heven⟩
      have hw2 : wrap64 (rd l j / 2) = rd l j / 2 := w64 _ (by omega) (by omega)
      have hb : bef l i j ∉ M := fun hx => by
        obtain ⟨f, t, e1, e2, e3⟩ := hI.seen _ (hI.perm.mem_iff.1 hx)
        have := bef_inj (fun p hp => (h0 p hp).1) hok e2 e1
        omega
      obtain ⟨M', p1, p2, p3⟩ := spec_ins l M (bef l i j) i l.length j hI.sorted hb (fun x hx => by
        obtain ⟨f, t, rfl, _, _⟩ := hI.seen x (hI.perm.mem_iff.1 hx)
        rw [bef_length, bef_length]) (by rw [bef_length]; omega) (by omega) M.length (Nat.le_refl _) (by simp)
      have hI' : Inv l i (j + 1) (i * 3 + (if i < j + 1 then (j + 1) - 1 else j + 1)) (L ++ [bef l i j]) M' := by
        refine ⟨p2.trans ?_, p1, fun x hx => ?_, ?_⟩
        · exact ((hI.perm.cons (bef l i j)).trans (List.perm_append_comm (l₁ := [bef l i j]) (l₂ := L)))
        · rcases List.mem_append.1 hx with hx | hx
          · obtain ⟨f, t, e1, e2, e3⟩ := hI.seen x hx
            exact ⟨f, t, e1, e2, by omega⟩
          · rw [List.mem_singleton.1 hx]
            exact ⟨i, j, rfl, hok, by omega⟩
        · simp only [List.length_append, List.length_singleton]
          revert hL
          split <;> split <;> omega
      obtain ⟨v, hg, hs, ⟨K2, h2⟩⟩ := ih (j + 1) (by omega) _ _ hI'
      rw [← hw] at hs
      obtain ⟨K1, h1⟩ := p3 _ hs
      dsimp only at h1 h2
      have es : (l.set ((i : Int)).toNat (wrap64 (rd l i + wrap64 (Int.tdiv (rd l j) 2)))).set ((j : Int)).toNat (wrap64 (Int.tdiv (rd l j) 2)) = bef l i j := by
        rw [hd, hw2, w64 _ (by omega) (by omega)]
        rfl
      have ei : ((l.set ((j : Int)).toNat (wrap64 (rd l j - wrap64 (Int.tdiv (rd l j) 2)))).set ((i : Int)).toNat (wrap64 (rd (l.set ((j : Int)).toNat (wrap64 (rd l j - wrap64 (Int.tdiv (rd l j) 2)))) i + wrap64 (Int.tdiv (rd l j) 2)))) = bef l i j := by
        rw [hd, hw2, w64 (rd l j - rd l j / 2) (by omega) (by omega), show rd l j - rd l j / 2 = rd l j / 2 by omega]
        rw [show ((j : Int)).toNat = j by omega, show ((i : Int)).toNat = i by omega, rd_set_other l j i _ hi (fun e => c1 e.symm), w64 _ (by omega) (by omega)]
        exact List.set_comm _ _ (fun e => c1 e.symm)
      refine ⟨v, hg, ⟨K1 + 1 + 1, fun k hk => ?_⟩, ⟨K2 + 1, fun k hk => ?_⟩⟩
      · obtain ⟨k, rfl⟩ : ∃ k', k = k' + 1 + 1 := ⟨k - 2, by omega⟩
        have c4 : (Int.tmod (rd l j) 2 == 1) = false := by simpa using c3
        simp only [spec_HeapsBefore.l1]
        rw [if_pos (by omega), if_pos (by omega), if_pos (by omega), if_neg (by omega), if_neg c2, c4]
        simp only [spec_HeapsBefore.j2, Bool.false_eq_true, if_false, spec_l1Own.f, Option.bind_some, List.length_nil, List.nil_append]
        rw [if_pos (by omega)]
        simp only [Option.bind_some]
        rw [if_pos (by omega), if_pos (by omega), if_pos (by omega), if_pos (by omega), es]
        exact h1 k (by omega)
      · obtain ⟨k, rfl⟩ : ∃ k', k = k' + 1 := ⟨k - 1, by omega⟩
        simp only [impl_HeapsBefore.l1]
        rw [if_pos (by omega), if_pos (by omega), if_pos (by omega), if_neg (by omega), if_neg c2, if_neg c3]
        simp only [slices_Clone_int_int.f]
        rw [if_pos (by omega)]
        simp only [Option.bind_some]
        rw [if_pos (by omega), if_pos (by omega), if_pos (by omega), if_pos (by omega), ei, hw]
        exact h2 k (by omega)
theorem both_out (l : List Int) (h4 : l.length ≤ 4) (h0 : ∀ p : Nat, p < l.length → 0 ≤ rd l p ∧ rd l p ≤ 1000) : ∀ (e i : Nat), i + e = l.length → ∀ L M, Inv l i 0 (i * 3) L M → Both l L M i := by
  intro e
  induction e with
  | zero =>
    intro i hi L M hI
    obtain ⟨h1, h2⟩ := fin_ok h4 (hI.mono (c' := 12) (i' := i) (j' := 0) (by omega) (by omega))
    refine ⟨M, h2, Ev.step (f := fun _ => some (M, true)) (fun k => ?_) (Ev.now _), Ev.step (f := fun _ => some (M, true)) (fun k => ?_) (Ev.now _)⟩
    · simp only [spec_HeapsBefore.l0]
      rw [if_neg (by omega)]
    · simp only [impl_HeapsBefore.l0]
      rw [if_neg (by omega), h1]
  | succ e ih =>
    intro i hi L M hI
    obtain ⟨v, hg, h1, h2⟩ := both_in l h4 h0 i (by omega) (fun L M h => ih (i + 1) (by omega) L M h) l.length 0 (by omega) L M (by simpa using hI)
    refine ⟨v, hg, Ev.step (f := fun k => spec_HeapsBefore.l1 k l M i (l.length : Int) i l (l.length : Int) ((0 : Nat) : Int)) (fun k => ?_) h1, Ev.step (f := fun k => impl_HeapsBefore.l1 k l L i (l.length : Int) i l (l.length : Int) ((0 : Nat) : Int)) (fun k => ?_) h2⟩
    · simp only [spec_HeapsBefore.l0]
      rw [if_pos (by omega)]
      rfl
    · simp only [impl_HeapsBefore.l0]
      rw [if_pos (by omega)]
      rfl
theorem both_HeapsBefore (l : List Int) (hl : l.length ≤ 1048576) : ∃ (v : List (List Int)) (b : Bool), Good 4 (v.map fun _ => [0, 0, 0, 0]) ∧ (∀ x ∈ v, x.length ≤ 4) ∧ Ev (fun k => spec_HeapsBefore.f k l) (v, b) ∧ Ev (fun k => impl_HeapsBefore.f k l) (v, b) := by
  by_cases h : isFew l = true
  · have h4 : l.length ≤ 4 := by
      simp [isFew] at h
      omega
    have h0 : ∀ p : Nat, p < l.length → 0 ≤ rd l p ∧ rd l p ≤ 1000 := fun p hp => by
      have h2 : allIn l 0 1000 = true := by
        simp only [isFew, isHeaps, Bool.and_eq_true] at h
        exact h.1.2
      unfold allIn at h2
      have := List.all_eq_true.1 h2 l[p] (List.getElem_mem hp)
      rw [rd_at l p hp]
      simpa using this
    obtain ⟨v, hg, h1, h2⟩ := both_out l h4 h0 l.length 0 (by omega) [] [] ⟨List.Perm.refl _, List.Pairwise.nil, by simp, by simp⟩
    refine ⟨v, true, ⟨by simpa using hg.len, by simp⟩, fun x hx => by rw [hg.each x hx]; exact h4, Ev.bind (spec_dbGood.ev l hl) ?_, Ev.bind (impl_AreFewHeaps.ev l hl) ?_⟩
    · simp only [h, if_true]
      exact h1
    · simp only [h, if_true]
      exact h2
  · refine ⟨[], false, ⟨by simp, by simp⟩, by simp, Ev.bind (spec_dbGood.ev l hl) ?_, Ev.bind (impl_AreFewHeaps.ev l hl) ?_⟩
    · simp only [h]
      exact Ev.now _
    · simp only [h]
      exact Ev.now _
def tot4 : List (List Int) → Int
  | [] => 0
  | x :: xs => (x.length : Int) + tot4 xs
theorem tot4_nonneg : ∀ l, 0 ≤ tot4 l
  | [] => by simp [tot4]
  | x :: xs => by have := tot4_nonneg xs; simp only [tot4]; omega
def msv : List (List Int) → Int → List (List Int)
  | [], _ => []
  | x :: xs, a => marks x a :: msv xs (a + x.length)
theorem msv_length : ∀ l a, (msv l a).length = l.length
  | [], _ => rfl
  | x :: xs, a => by simp [msv, msv_length xs]
theorem laws_markIntS.evm (l : List Int) (a : Int) (hl : l.length ≤ 4) (h0 : 0 ≤ a) (h1 : a ≤ 100) : Ev (fun k => laws_markIntS.f k l a) (a + (l.length : Int), marks l a) := by
  have h := laws_markIntS.l0ev [] l [] a (by simp; omega) h0 (by simp; omega)
  simpa [laws_markIntS.f] using h
theorem laws_heldIntS.evm (l : List Int) (a : Int) (hl : l.length ≤ 4) (h0 : 0 ≤ a) (h1 : a ≤ 100) : Ev (fun k => laws_heldIntS.f k (marks l a) a) (a + (l.length : Int)) := by
  have h := laws_heldIntS.l0ev l [] a (by simp; omega) h0 (by simp; omega)
  simpa [laws_heldIntS.f] using h
theorem laws_markIntSS.l0ev : ∀ (tl done : List (List Int)) (a : Int), (∀ x ∈ tl, x.length ≤ 4) → done.length + tl.length ≤ 12 → 0 ≤ a → a ≤ 1 + 4 * done.length →
    Ev (fun k => laws_markIntSS.l0 k (done ++ tl) a done.length) (a + tot4 tl, done ++ msv tl a) := by
  intro tl
  induction tl with
  | nil =>
    intro done a h4 h1 h2 h3
    refine Ev.step (f := fun _ => some (a, done)) (fun k => ?_) (by simpa [tot4, msv] using Ev.now (a, done))
    simp only [laws_markIntSS.l0]
    rw [if_neg (by simp)]
    simp
  | cons x xs ih =>
    intro done a h4 h1 h2 h3
    simp only [List.length_cons] at h1
    have hx := h4 x (by simp)
    obtain ⟨K1, h5⟩ := laws_markIntS.evm x a hx h2 (by omega)
    obtain ⟨K2, h6⟩ := ih (done ++ [marks x a]) (a + x.length) (fun y hy => h4 y (by simp [hy])) (by simp; omega) (by omega) (by simp; omega)
    dsimp only at h5 h6
    have hg : (done ++ x :: xs).getD done.length [] = x := by simp
    refine ⟨K1 + K2 + 1, fun k hk => ?_⟩
    obtain ⟨k, rfl⟩ : ∃ k', k = k' + 1 := ⟨k - 1, by omega⟩
    simp only [laws_markIntSS.l0]
    rw [if_pos (by simp), hg, h5 k (by omega)]
    simp only [Option.bind_some]
    have e : a + tot4 (x :: xs) = a + (x.length : Int) + tot4 xs := by simp only [tot4]; omega
    have e2 : (done ++ x :: xs).set done.length (marks x a) = done ++ [marks x a] ++ xs := by simp [List.set_append_right]
    have e3 : done ++ msv (x :: xs) a = done ++ [marks x a] ++ msv xs (a + x.length) := by simp [msv]
    rw [e, e2, e3]
    have := h6 k (by omega)
    simpa using this
theorem laws_heldIntSS.l0ev : ∀ (tl done : List (List Int)) (a : Int), (∀ x ∈ tl, x.length ≤ 4) → done.length + tl.length ≤ 12 → 0 ≤ a → a ≤ 1 + 4 * done.length →
    Ev (fun k => laws_heldIntSS.l0 k (done ++ msv tl a) a done.length) (a + tot4 tl) := by
  intro tl
  induction tl with
  | nil =>
    intro done a h4 h1 h2 h3
    refine Ev.step (f := fun _ => some a) (fun k => ?_) (by simpa [tot4, msv] using Ev.now a)
    simp only [laws_heldIntSS.l0]
    rw [if_neg (by simp [msv])]
  | cons x xs ih =>
    intro done a h4 h1 h2 h3
    simp only [List.length_cons] at h1
    have hx := h4 x (by simp)
    obtain ⟨K1, h5⟩ := laws_heldIntS.evm x a hx h2 (by omega)
    obtain ⟨K2, h6⟩ := ih (done ++ [marks x a]) (a + x.length) (fun y hy => h4 y (by simp [hy])) (by simp; omega) (by omega) (by simp; omega)
    dsimp only at h5 h6
    have hg : rd_L1 (done ++ msv (x :: xs) a) (done.length : Int) = marks x a := by simp [rd_L1, msv]
    refine ⟨K1 + K2 + 1, fun k hk => ?_⟩
    obtain ⟨k, rfl⟩ : ∃ k', k = k' + 1 := ⟨k - 1, by omega⟩
    simp only [laws_heldIntSS.l0]
    rw [if_pos (by simp [msv]; omega), if_pos (by omega), hg, h5 k (by omega)]
    simp only [Option.bind_some]
    rw [if_neg (by omega), w64s done.length (by omega)]
    have e : a + tot4 (x :: xs) = a + (x.length : Int) + tot4 xs := by simp only [tot4]; omega
    have e3 : done ++ msv (x :: xs) a = done ++ [marks x a] ++ msv xs (a + x.length) := by simp [msv]
    rw [e, e3]
    have := h6 k (by omega)
    simpa using this
theorem laws_eqIntSS.l0ev (v : List (List Int)) (hv : v.length ≤ 12) (h4 : ∀ x ∈ v, x.length ≤ 4) (d : Nat) : ∀ i, i + d = v.length → Ev (fun k => laws_eqIntSS.l0 k v v i) true := by
  induction d with
  | zero =>
    intro i hi
    refine Ev.step (f := fun _ => some true) (fun k => ?_) (Ev.now _)
    simp only [laws_eqIntSS.l0]
    rw [if_neg (by omega)]
  | succ d ih =>
    intro i hi
    have hil : i < v.length := by omega
    have hr : rd_L1 v (i : Int) = v[i] := by simp [rd_L1, List.getD_eq_getElem?_getD, List.getElem?_eq_getElem hil]
    obtain ⟨K1, h1⟩ := laws_eqIntS.ev v[i] (by have := h4 _ (List.getElem_mem hil); omega)
    obtain ⟨K2, h2⟩ := ih (i + 1) (by omega)
    dsimp only at h1 h2
    refine ⟨K1 + K2 + 1, fun k hk => ?_⟩
    obtain ⟨k, rfl⟩ : ∃ k', k = k' + 1 := ⟨k - 1, by omega⟩
    simp only [laws_eqIntSS.l0]
    rw [if_pos (by omega), if_pos (by omega), if_pos (by omega), hr, h1 k (by omega)]
    simp only [Option.bind_some, if_true]
    rw [w64s i (by omega)]
    exact h2 k (by omega)
theorem laws_eqIntSS.ev (v : List (List Int)) (hv : v.length ≤ 12) (h4 : ∀ x ∈ v, x.length ≤ 4) : Ev (fun k => laws_eqIntSS.f k v v) true := by
  unfold laws_eqIntSS.f
  simp only [if_true]
  exact laws_eqIntSS.l0ev v hv h4 v.length 0 (by omega)
theorem FnExactHeapsBefore : laws_FnExactHeapsBefore.Pure := by
  intro l _ _ _ hl
  obtain ⟨K1, h1⟩ := laws_toIntS.ev l hl
  obtain ⟨v, b, hg, h4, ⟨K2, h2⟩, ⟨K3, h3⟩⟩ := both_HeapsBefore l hl
  have hv : v.length ≤ 12 := by have := hg.len; simpa using this
  obtain ⟨K4, h5⟩ := laws_eqIntSS.ev v hv h4
  obtain ⟨K5, h6⟩ := laws_eqIntS.ev l hl
  obtain ⟨K6, h7⟩ := laws_markIntS.ev l hl
  obtain ⟨K7, h8⟩ := laws_markIntSS.l0ev v [] 1 h4 (by simpa using hv) (by omega) (by simp)
  obtain ⟨K8, h9⟩ := laws_heldIntSS.l0ev v [] 1 h4 (by simpa using hv) (by omega) (by simp)
  dsimp only at h1 h2 h3 h5 h6 h7 h8 h9
  have ht := tot4_nonneg v
  refine ⟨K1 + K2 + K3 + K4 + K5 + K6 + K7 + K8, v, b, 1 + (l.length : Int), marks l 1, 1 + tot4 v, msv v 1, h1 _ (by omega), h2 _ (by omega), h3 _ (by omega), h5 _ (by omega), h6 _ (by omega), h7 _ (by omega), by omega, ?_, ?_, by omega⟩
  · have := h8 (K1 + K2 + K3 + K4 + K5 + K6 + K7 + K8) (by omega)
    simpa [laws_markIntSS.f] using this
  · have := h9 (K1 + K2 + K3 + K4 + K5 + K6 + K7 + K8) (by omega)
    simpa [laws_heldIntSS.f] using this

end Go.Proofs.Ytcdlflmeimbdaaa.Pure
