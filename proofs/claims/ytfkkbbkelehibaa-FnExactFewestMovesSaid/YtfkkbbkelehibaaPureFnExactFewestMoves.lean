/- The program's FewestMoves returns what the reference's returns, for all arguments. It has no conditions. -/
import Derived.Test.YtfkkbbkelehibaaPFnExactFewestMovesx4
namespace Go.Proofs.Ytfkkbbkelehibaa.Pure
open Go.RowKit Go.Proofs.Ytfkkbbkelehibaa.PFnExactFewestMoves Go.Proofs.YtfkkbbkelehibaaW.PrintWords Go.Proofs.YtfkkbbkelehibaaW.PrintLast
set_option linter.unusedVariables false
set_option linter.unusedSimpArgs false

/-! ### small words -/
theorem w64 (n : Int) (h1 : -9223372036854775808 ≤ n) (h2 : n ≤ 9223372036854775807) : wrap64 n = n := by unfold wrap64; omega
theorem w64s (i : Nat) (h : i < 9223372036854775807) : wrap64 ((i : Int) + 1) = ((i + 1 : Nat) : Int) := by unfold wrap64; omega
theorem rd_at (l : List Int) (i : Nat) (h : i < l.length) : rd l (i : Int) = l[i] := by simp [rd, List.getD_eq_getElem?_getD, List.getElem?_eq_getElem h]
theorem wf64 {x : Int} (h : (Lit.int .i64 x).wf = true) : -9223372036854775808 ≤ x ∧ x ≤ 9223372036854775807 := by
  simp [Lit.wf, IntKind.min, IntKind.max, IntKind.bits, IntKind.signed] at h
  omega
/-! ### copies, marks -/
theorem laws_toIntS.l0ev (l : List Int) (hl : l.length ≤ 1048576) (d : Nat) : ∀ i, i + d = l.length → Ev (fun k => laws_toIntS.l0 k l (l.take i ++ List.replicate d 0) i) l := by
  induction d with
  | zero =>
    intro i hi
    refine Ev.step (f := fun _ => some l) (fun k => ?_) (Ev.now _)
    simp only [laws_toIntS.l0]
    rw [if_neg (by omega)]
    simp [List.take_of_length_le (show l.length ≤ i by omega)]
  | succ d ih =>
    intro i hi
    refine Ev.step (f := fun k => laws_toIntS.l0 k l (l.take (i + 1) ++ List.replicate d 0) ((i + 1 : Nat) : Int)) (fun k => ?_) (ih (i + 1) (by omega))
    simp only [laws_toIntS.l0]
    rw [if_pos (by omega), if_pos (by omega), if_pos (by simp; omega), w64s i (by omega), rd_at l i (by omega)]
    congr 1
    rw [show ((i : Int)).toNat = i by omega, List.set_append_right _ _ (by simp; omega), List.replicate_succ, List.length_take, show i - min i l.length = 0 by omega, List.set_cons_zero, List.take_succ_eq_append_getElem (show i < l.length by omega)]
    simp only [List.append_assoc, List.cons_append, List.nil_append]
theorem laws_toIntS.ev (l : List Int) (hl : l.length ≤ 1048576) : Ev (fun k => laws_toIntS.f k l) l := by
  have h := laws_toIntS.l0ev l hl l.length 0 (by omega)
  unfold laws_toIntS.f
  simp only [if_pos (show (0 : Int) ≤ (l.length : Int) by omega), if_pos (show (l.length : Int).toNat ≤ 35184372088832 by omega)]
  simpa using h
theorem laws_eqIntS.l0ev (l : List Int) (hl : l.length ≤ 1048576) (d : Nat) : ∀ i, i + d = l.length → Ev (fun k => laws_eqIntS.l0 k l l i) true := by
  induction d with
  | zero =>
    intro i hi
    refine Ev.step (f := fun _ => some true) (fun k => ?_) (Ev.now _)
    simp only [laws_eqIntS.l0]
    rw [if_neg (by omega)]
  | succ d ih =>
    intro i hi
    refine Ev.step (f := fun k => laws_eqIntS.l0 k l l ((i + 1 : Nat) : Int)) (fun k => ?_) (ih (i + 1) (by omega))
    simp only [laws_eqIntS.l0]
    rw [if_pos (by omega), if_pos (by omega), if_pos (by omega), if_pos trivial, w64s i (by omega)]
theorem laws_eqIntS.ev (l : List Int) (hl : l.length ≤ 1048576) : Ev (fun k => laws_eqIntS.f k l l) true := by
  unfold laws_eqIntS.f
  simp only [if_true]
  exact laws_eqIntS.l0ev l hl l.length 0 (by omega)
theorem spec_l1Most.is (x y : Int) : spec_l1Most.f x y = some (mx x y) := by
  unfold spec_l1Most.f mx
  by_cases h : x > y
  · rw [if_pos h]; congr 1; omega
  · rw [if_neg h]; congr 1; omega
theorem spec_l1In.is (x a b : Int) : spec_l1In.f x a b = some (decide (a ≤ x) && decide (x ≤ b)) := by
  unfold spec_l1In.f
  by_cases h : x ≥ a
  · simp [h, show a ≤ x from h]
  · simp [h, show ¬ a ≤ x from h]
def allIn (l : List Int) (a b : Int) : Bool := l.all fun x => decide (a ≤ x) && decide (x ≤ b)
theorem spec_l1All.l0ev (a b : Int) (n : Int) (hn : n ≤ 1048576) : ∀ (tl done : List Int), ((done ++ tl).length : Int) = n → Ev (fun k => spec_l1All.l0 k a b (done ++ tl) n done.length) (allIn tl a b) := by
  intro tl
  induction tl with
  | nil =>
    intro done hd
    refine Ev.step (f := fun _ => some true) (fun k => ?_) (Ev.now _)
    simp only [spec_l1All.l0]
    simp at hd
    rw [if_neg (by omega)]
  | cons x xs ih =>
    intro done hd
    have hd' : (done.length : Int) + (xs.length + 1) = n := by simpa using hd
    have hx : rd (done ++ x :: xs) (done.length : Int) = x := by simp [rd]
    by_cases hp : (decide (a ≤ x) && decide (x ≤ b)) = true
    · have h := ih (done ++ [x]) (by simp; omega)
      refine Ev.step (f := fun k => spec_l1All.l0 k a b (done ++ [x] ++ xs) n ((done ++ [x]).length : Int)) (fun k => ?_) ?_
      · simp only [spec_l1All.l0]
        rw [if_pos (by omega), if_pos (by omega), if_pos (by simp; omega), hx, spec_l1In.is, hp]
        simp only [Option.bind_some, if_true]
        rw [w64s done.length (by omega)]
        simp
      · rw [show allIn (x :: xs) a b = allIn xs a b by simp [allIn] at hp ⊢; simp [hp]]
        exact h
    · refine Ev.step (f := fun _ => some false) (fun k => ?_) (by rw [show allIn (x :: xs) a b = false by simp [allIn] at hp ⊢; intro h1 h2; exact absurd (hp h1) (by omega)]; exact Ev.now _)
      simp only [spec_l1All.l0]
      rw [if_pos (by omega), if_pos (by omega), if_pos (by simp; omega), hx, spec_l1In.is]
      simp only [Option.bind_some]
      rw [if_neg hp]
theorem spec_l1All.ev (l : List Int) (a b : Int) (hl : l.length ≤ 1048576) : Ev (fun k => spec_l1All.f k l a b) (allIn l a b) := by
  have h := spec_l1All.l0ev a b l.length (by omega) l [] (by simp)
  simpa [spec_l1All.f] using h
theorem impl_within.is (x a b : Int) : impl_within.f x a b = some (decide (a ≤ x) && decide (x ≤ b)) := by
  unfold impl_within.f
  by_cases h : x ≥ a
  · simp [h, show a ≤ x from h]
  · simp [h, show ¬ a ≤ x from h]
def isHeaps (l : List Int) : Bool := (decide (1 ≤ (l.length : Int)) && decide ((l.length : Int) ≤ 12)) && allIn l 0 1000
theorem spec_hpGood.ev (l : List Int) (hl : l.length ≤ 1048576) : Ev (fun k => spec_hpGood.f k l) (isHeaps l) := by
  unfold spec_hpGood.f isHeaps
  simp only [spec_l1In.is, Option.bind_some]
  by_cases h : (decide (1 ≤ (l.length : Int)) && decide ((l.length : Int) ≤ 12)) = true
  · simp only [h, if_true, Bool.true_and]
    exact Ev.bind (spec_l1All.ev l 0 1000 hl) (Ev.now _)
  · simp only [h]
    simpa using Ev.now false
theorem impl_AreHeaps.is (l : List Int) : impl_AreHeaps.f l = some (isHeaps l) := by
  unfold impl_AreHeaps.f isHeaps impl_areIn.f allIn
  simp only [impl_within.is, Option.bind_some]
  by_cases h : (decide (1 ≤ (l.length : Int)) && decide ((l.length : Int) ≤ 12)) = true
  · simp only [h, if_true, Bool.true_and]
  · simp only [h]
    simp
theorem isHeaps_ne {l : List Int} (h : isHeaps l = true) : ¬ ((l.length : Int) = 0) := by
  simp [isHeaps] at h
  omega
/-- The sum as the machine makes it. -/
def wsum : List Int → Int → Int
  | [], a => a
  | x :: xs, a => wsum xs (wrap64 (a + x))
theorem spec_hpSum.l0ev (n : Int) (hn : n ≤ 1048576) : ∀ (tl done : List Int) (a : Int), ((done ++ tl).length : Int) = n → Ev (fun k => spec_hpSum.l0 k a (done ++ tl) n done.length) (wsum tl a) := by
  intro tl
  induction tl with
  | nil =>
    intro done a hd
    refine Ev.step (f := fun _ => some a) (fun k => ?_) (Ev.now a)
    simp only [spec_hpSum.l0]
    simp at hd
    rw [if_neg (by omega)]
  | cons x xs ih =>
    intro done a hd
    have hd' : (done.length : Int) + (xs.length + 1) = n := by simpa using hd
    have hx : rd (done ++ x :: xs) (done.length : Int) = x := by simp [rd]
    have h := ih (done ++ [x]) (wrap64 (a + x)) (by simp; omega)
    refine Ev.step (f := fun k => spec_hpSum.l0 k (wrap64 (a + x)) (done ++ [x] ++ xs) n ((done ++ [x]).length : Int)) (fun k => ?_) (by simpa [wsum] using h)
    simp only [spec_hpSum.l0]
    rw [if_pos (by omega), if_pos (by omega), if_pos (by simp; omega), hx, w64s done.length (by omega)]
    simp
theorem spec_hpSum.ev (l : List Int) (hl : l.length ≤ 1048576) : Ev (fun k => spec_hpSum.f k l) (wsum l 0) := by
  have h := spec_hpSum.l0ev l.length (by omega) l [] 0 (by simp)
  simpa [spec_hpSum.f] using h
/-- The stones can be shared. -/
def isEqual (l : List Int) : Bool := isHeaps l && (Int.tmod (wsum l 0) (l.length : Int) == 0)
theorem spec_hpEqual.ev (l : List Int) (hl : l.length ≤ 1048576) : Ev (fun k => spec_hpEqual.f k l) (isEqual l) := by
  refine Ev.bind (spec_hpGood.ev l hl) ?_
  unfold isEqual
  by_cases h : isHeaps l = true
  · simp only [h, if_true, Bool.true_and]
    refine Ev.bind (spec_hpSum.ev l hl) ?_
    simp only [if_neg (isHeaps_ne h)]
    exact Ev.now _
  · simp only [h, Bool.not_eq_true] at h ⊢
    simp only [h, Bool.false_and]
    exact Ev.now _
/-- What each heap has too many. -/
def overOf (l : List Int) : List Int := l.map fun x => wrap64 (x - wrap64 (Int.tdiv (wsum l 0) (l.length : Int)))
theorem overOf_length (l : List Int) : (overOf l).length = l.length := by simp [overOf]
def moreR (l : List Int) : List Int × Bool := if isEqual l = true then (overOf l, true) else ([], false)
theorem isEqual_heaps {l : List Int} (h : isEqual l = true) : isHeaps l = true := by
  unfold isEqual at h
  simp at h
  exact h.1
theorem isHeaps_len {l : List Int} (h : isHeaps l = true) : 1 ≤ l.length ∧ l.length ≤ 12 := by
  simp [isHeaps] at h
  omega
theorem impl_sum.l0ev (n : Int) (hn : n ≤ 1048576) : ∀ (tl done : List Int) (a : Int), ((done ++ tl).length : Int) = n → Ev (fun k => impl_sum.l0 k a (done ++ tl) n done.length) (wsum tl a) := by
  intro tl
  induction tl with
  | nil =>
    intro done a hd
    refine Ev.step (f := fun _ => some a) (fun k => ?_) (Ev.now a)
    simp only [impl_sum.l0]
    simp at hd
    rw [if_neg (by omega)]
  | cons x xs ih =>
    intro done a hd
    have hd' : (done.length : Int) + (xs.length + 1) = n := by simpa using hd
    have hx : rd (done ++ x :: xs) (done.length : Int) = x := by simp [rd]
    have h := ih (done ++ [x]) (wrap64 (a + x)) (by simp; omega)
    refine Ev.step (f := fun k => impl_sum.l0 k (wrap64 (a + x)) (done ++ [x] ++ xs) n ((done ++ [x]).length : Int)) (fun k => ?_) (by simpa [wsum] using h)
    simp only [impl_sum.l0]
    rw [if_pos (by omega), if_pos (by omega), if_pos (by simp; omega), hx, w64s done.length (by omega)]
    simp
theorem impl_sum.ev (l : List Int) (hl : l.length ≤ 1048576) : Ev (fun k => impl_sum.f k l) (wsum l 0) := by
  have h := impl_sum.l0ev l.length (by omega) l [] 0 (by simp)
  simpa [impl_sum.f] using h
def canR (l : List Int) : Bool × Bool := (isEqual l, isHeaps l)
theorem impl_CanBeEqual.ev (l : List Int) (hl : l.length ≤ 1048576) : Ev (fun k => impl_CanBeEqual.f k l) (canR l) := by
  unfold impl_CanBeEqual.f canR isEqual
  simp only [impl_AreHeaps.is, Option.bind_some]
  by_cases h : isHeaps l = true
  · simp only [h, if_true, Bool.true_and]
    refine Ev.bind (impl_sum.ev l hl) ?_
    simp only [if_neg (isHeaps_ne h)]
    exact Ev.now _
  · simp only [Bool.not_eq_true] at h
    simp only [h, Bool.false_and]
    exact Ev.now _
theorem impl_surplus.l0ev (sh : Int) (n : Int) (hn : n ≤ 1048576) : ∀ (tl done : List Int) (acc : List Int), ((done ++ tl).length : Int) = n → (acc.length : Int) + tl.length ≤ 1048576 → Ev (fun k => impl_surplus.l0 k sh acc (done ++ tl) n done.length) ((acc ++ tl.map fun x => wrap64 (x - sh), true)) := by
  intro tl
  induction tl with
  | nil =>
    intro done acc hd hs0 
    refine Ev.step (f := fun _ => some ((acc ++ [].map fun x => wrap64 (x - sh), true))) (fun k => ?_) (Ev.now _)
    simp only [impl_surplus.l0]
    simp at hd
    rw [if_neg (by omega)]
    all_goals simp
  | cons x xs ih =>
    intro done acc hd hs0 
    have hd' : (done.length : Int) + (xs.length + 1) = n := by simpa using hd
    simp only [List.length_cons] at hs0
    have hx : rd (done ++ x :: xs) (done.length : Int) = x := by simp [rd]
    skip
    have h := ih (done ++ [x]) (acc ++ [wrap64 (x - sh)]) (by simp; omega) (by simp; omega)
    have e_ : (acc ++ (x :: xs).map fun x => wrap64 (x - sh), true) = ((acc ++ [wrap64 (x - sh)]) ++ xs.map fun x => wrap64 (x - sh), true) := by simp
    rw [e_]
    refine Ev.step (f := fun k => impl_surplus.l0 k sh (acc ++ [wrap64 (x - sh)]) (done ++ [x] ++ xs) n ((done ++ [x]).length : Int)) (fun k => ?_) (by simpa using h)
    simp only [impl_surplus.l0, hx, Option.bind_some]
    rw [if_pos (by omega), if_pos (by omega), if_pos (by simp; omega), if_pos (show acc.length < 17592186044416 by omega), w64s done.length (by omega)]
    simp
theorem impl_surplus.ev (l : List Int) (hl : l.length ≤ 1048576) : Ev (fun k => impl_surplus.f k l) (moreR l) := by
  refine Ev.bind (impl_CanBeEqual.ev l hl) ?_
  unfold canR moreR
  by_cases h : isEqual l = true
  · have hh := isEqual_heaps h
    simp only [h, hh, if_true]
    refine Ev.step (f := fun k => (impl_sum.f k l).bind fun t => impl_surplus.l0 k (wrap64 (Int.tdiv t (l.length : Int))) ([] : List Int) l (l.length : Int) 0) (fun k => ?_) ?_
    · simp only [impl_surplus.j0, Bool.not_true, Bool.false_eq_true, if_false, if_neg (isHeaps_ne hh)]
    · refine Ev.bind (impl_sum.ev l hl) ?_
      have := impl_surplus.l0ev (wrap64 (Int.tdiv (wsum l 0) (l.length : Int))) l.length (by omega) l [] [] (by simp) (by simp; omega)
      simpa [overOf] using this
  · simp only [Bool.not_eq_true] at h
    simp only [h, Bool.not_false]
    refine Ev.congr (f := fun k => impl_surplus.j0 k l true) (fun k => by split <;> rfl) ?_
    refine Ev.step (f := fun _ => some ([], false)) (fun k => ?_) (by simpa using Ev.now _)
    simp [impl_surplus.j0]
theorem spec_hpOver.l0ev (sh : Int) (n : Int) (hn : n ≤ 1048576) : ∀ (tl done : List Int) (acc : List Int), ((done ++ tl).length : Int) = n → (acc.length : Int) + tl.length ≤ 1048576 → Ev (fun k => spec_hpOver.l0 k sh acc (done ++ tl) n done.length) ((acc ++ tl.map fun x => wrap64 (x - sh))) := by
  intro tl
  induction tl with
  | nil =>
    intro done acc hd hs0 
    refine Ev.step (f := fun _ => some ((acc ++ [].map fun x => wrap64 (x - sh)))) (fun k => ?_) (Ev.now _)
    simp only [spec_hpOver.l0]
    simp at hd
    rw [if_neg (by omega)]
    all_goals simp
  | cons x xs ih =>
    intro done acc hd hs0 
    have hd' : (done.length : Int) + (xs.length + 1) = n := by simpa using hd
    simp only [List.length_cons] at hs0
    have hx : rd (done ++ x :: xs) (done.length : Int) = x := by simp [rd]
    skip
    have h := ih (done ++ [x]) (acc ++ [wrap64 (x - sh)]) (by simp; omega) (by simp; omega)
    have e_ : (acc ++ (x :: xs).map fun x => wrap64 (x - sh)) = ((acc ++ [wrap64 (x - sh)]) ++ xs.map fun x => wrap64 (x - sh)) := by simp
    rw [e_]
    refine Ev.step (f := fun k => spec_hpOver.l0 k sh (acc ++ [wrap64 (x - sh)]) (done ++ [x] ++ xs) n ((done ++ [x]).length : Int)) (fun k => ?_) (by simpa using h)
    simp only [spec_hpOver.l0, hx, Option.bind_some]
    rw [if_pos (by omega), if_pos (by omega), if_pos (by simp; omega), if_pos (show acc.length < 17592186044416 by omega), w64s done.length (by omega)]
    simp
theorem spec_hpOver.ev (l : List Int) (h : isHeaps l = true) : Ev (fun k => spec_hpOver.f k l) (overOf l) := by
  have hl := isHeaps_len h
  refine Ev.bind (spec_hpSum.ev l (by omega)) ?_
  simp only [if_neg (isHeaps_ne h)]
  have := spec_hpOver.l0ev (wrap64 (Int.tdiv (wsum l 0) (l.length : Int))) l.length (by omega) l [] [] (by simp) (by simp; omega)
  simpa [overOf] using this
theorem shl_small : ∀ i : Fin 9, shl .i64 1 (i.val : Int) = (2 : Int) ^ i.val := by decide +kernel
theorem set_bits : ∀ i : Fin 8, ∀ x : Fin 256, Go.bits .and .i64 (shr .i64 (x.val : Int) (i.val : Int)) 1 = 1 → (Go.bits .andNot .i64 (x.val : Int) (shl .i64 1 (i.val : Int)) = wrap64 ((x.val : Int) - shl .i64 1 (i.val : Int)) ∧ 0 ≤ wrap64 ((x.val : Int) - shl .i64 1 (i.val : Int)) ∧ wrap64 ((x.val : Int) - shl .i64 1 (i.val : Int)) ≤ (x.val : Int)) := by decide +kernel
theorem fewest (v : List Int) (hv : v.length ≤ 8) (N : Nat) (hN : N ≤ 256) (h1 : 1 ≤ N) : ∀ (e s : Nat) (p : List Int), s + e = N → p.length = N → ∃ r, Ev (fun k => spec_FewestMoves.l0 k v p s) r ∧ Ev (fun k => impl_FewestMoves.l0 k v p s) r := by
  intro e
  induction e with
  | zero =>
    intro s p hs hp
    refine ⟨_, Ev.step (f := fun _ => some (wrap64 ((v.length : Int) - (rd p (wrap64 ((p.length : Int) - 1)))), true)) (fun k => ?_) (Ev.now _), Ev.step (f := fun _ => some (wrap64 ((v.length : Int) - (rd p (wrap64 ((p.length : Int) - 1)))), true)) (fun k => ?_) (Ev.now _)⟩
    · simp only [spec_FewestMoves.l0]
      rw [if_neg (by omega), if_pos (by rw [w64 _ (by omega) (by omega)]; omega), if_pos (by rw [w64 _ (by omega) (by omega)]; omega)]
    · simp only [impl_FewestMoves.l0]
      rw [if_neg (by omega), if_pos (by rw [w64 _ (by omega) (by omega)]; omega), if_pos (by rw [w64 _ (by omega) (by omega)]; omega)]
  | succ e ih =>
    intro s p hs hp
    have inner : ∀ (d j : Nat) (p : List Int) (a : Int), j + d = v.length → p.length = N → ∃ r, Ev (fun k => spec_FewestMoves.l1 k v p s a v (v.length : Int) j) r ∧ Ev (fun k => impl_FewestMoves.l1 k v p s a v (v.length : Int) j) r := by
      intro d
      induction d with
      | zero =>
        intro j p a hj hp
        by_cases c : a = 0
        · obtain ⟨r, e1, e2⟩ := ih (s + 1) (p.set s (wrap64 (rd p s + 1))) (by omega) (by simpa using hp)
          refine ⟨r, Ev.step (f := fun k => spec_FewestMoves.l0 k v (p.set s (wrap64 (rd p s + 1))) ((s + 1 : Nat) : Int)) (fun k => ?_) e1, Ev.step (f := fun k => impl_FewestMoves.l0 k v (p.set s (wrap64 (rd p s + 1))) ((s + 1 : Nat) : Int)) (fun k => ?_) e2⟩
          · simp only [spec_FewestMoves.l1]
            rw [if_neg (by omega), if_pos c, if_pos (by omega), if_pos (by omega), w64s s (by omega), Int.toNat_natCast]
          · simp only [impl_FewestMoves.l1]
            rw [if_neg (by omega), if_pos c, if_pos (by omega), if_pos (by omega), w64s s (by omega), Int.toNat_natCast]
        · obtain ⟨r, e1, e2⟩ := ih (s + 1) p (by omega) hp
          refine ⟨r, Ev.step (f := fun k => spec_FewestMoves.l0 k v p ((s + 1 : Nat) : Int)) (fun k => ?_) e1, Ev.step (f := fun k => impl_FewestMoves.l0 k v p ((s + 1 : Nat) : Int)) (fun k => ?_) e2⟩
          · simp only [spec_FewestMoves.l1]
            rw [if_neg (by omega), if_neg c, w64s s (by omega)]
          · simp only [impl_FewestMoves.l1]
            rw [if_neg (by omega), if_neg c, w64s s (by omega)]
      | succ d ihd =>
        intro j p a hj hp
        by_cases c : Go.bits .and .i64 (shr .i64 (s : Int) (j : Int)) 1 = 1
        · obtain ⟨b1, b2, b3⟩ := set_bits ⟨j, by omega⟩ ⟨s, by omega⟩ c
          simp only at b1 b2 b3
          generalize hx : mx (rd p s) (rd p (wrap64 ((s : Int) - shl .i64 1 (j : Int)))) = x
          obtain ⟨r, e1, e2⟩ := ihd (j + 1) (p.set s x) (wrap64 (a + rd v j)) (by omega) (by simpa using hp)
          refine ⟨r, Ev.step (f := fun k => spec_FewestMoves.l1 k v (p.set s x) s (wrap64 (a + rd v j)) v (v.length : Int) ((j + 1 : Nat) : Int)) (fun k => ?_) e1, Ev.step (f := fun k => impl_FewestMoves.l1 k v (p.set s x) s (wrap64 (a + rd v j)) v (v.length : Int) ((j + 1 : Nat) : Int)) (fun k => ?_) e2⟩
          · simp only [spec_FewestMoves.l1, spec_l1Most.is, Option.bind_some, hx]
            rw [if_pos (by omega), if_pos (by omega), if_pos (by omega), if_pos c, if_pos (by omega), if_pos (by omega), if_pos b2, if_pos (by omega), w64s j (by omega), Int.toNat_natCast]
          · simp only [impl_FewestMoves.l1, b1, hx]
            rw [if_pos (by omega), if_pos (by omega), if_pos (by omega), if_pos c, if_pos (by omega), if_pos (by omega), if_pos b2, if_pos (by omega), w64s j (by omega), Int.toNat_natCast]
        · obtain ⟨r, e1, e2⟩ := ihd (j + 1) p a (by omega) hp
          refine ⟨r, Ev.step (f := fun k => spec_FewestMoves.l1 k v p s a v (v.length : Int) ((j + 1 : Nat) : Int)) (fun k => ?_) e1, Ev.step (f := fun k => impl_FewestMoves.l1 k v p s a v (v.length : Int) ((j + 1 : Nat) : Int)) (fun k => ?_) e2⟩
          · simp only [spec_FewestMoves.l1]
            rw [if_pos (by omega), if_pos (by omega), if_pos (by omega), if_neg c, w64s j (by omega)]
          · simp only [impl_FewestMoves.l1]
            rw [if_pos (by omega), if_pos (by omega), if_pos (by omega), if_neg c, w64s j (by omega)]
    obtain ⟨r, e1, e2⟩ := inner v.length 0 p 0 (by omega) hp
    refine ⟨r, Ev.step (f := fun k => spec_FewestMoves.l1 k v p s 0 v (v.length : Int) 0) (fun k => ?_) e1, Ev.step (f := fun k => impl_FewestMoves.l1 k v p s 0 v (v.length : Int) 0) (fun k => ?_) e2⟩
    · simp only [spec_FewestMoves.l0]
      rw [if_pos (by omega)]
    · simp only [impl_FewestMoves.l0]
      rw [if_pos (by omega)]
theorem both_FewestMoves (l : List Int) (hl : l.length ≤ 1048576) : ∃ v : Int × Bool, Ev (fun k => spec_FewestMoves.f k l) v ∧ Ev (fun k => impl_FewestMoves.f k l) v := by
  by_cases h : isEqual l = true
  · have hh := isHeaps_len (isEqual_heaps h)
    by_cases c : (l.length : Int) > 8
    · refine ⟨(0, false), Ev.bind (spec_hpEqual.ev l hl) ?_, Ev.bind (impl_surplus.ev l hl) ?_⟩
      · simp only [h, if_true, c, decide_true]
        exact Ev.step (f := fun _ => some (0, false)) (fun k => by simp [spec_FewestMoves.j0]) (Ev.now _)
      · unfold moreR
        simp only [h, if_true, c, decide_true]
        exact Ev.step (f := fun _ => some (0, false)) (fun k => by simp [impl_FewestMoves.j0]) (Ev.now _)
    · have hs := shl_small ⟨l.length, by omega⟩
      simp only at hs
      have hp : (2 : Int) ^ l.length = ((2 ^ l.length : Nat) : Int) := by simp
      have hu : 2 ^ l.length ≤ 2 ^ 8 := Nat.pow_le_pow_right (by omega) (by omega)
      have hd : 1 ≤ 2 ^ l.length := Nat.one_le_two_pow
      obtain ⟨r, e1, e2⟩ := fewest (overOf l) (by rw [overOf_length]; omega) (2 ^ l.length) (by omega) hd (2 ^ l.length - 1) 1 (List.replicate (2 ^ l.length) 0) (by omega) (by simp)
      refine ⟨r, Ev.bind (spec_hpEqual.ev l hl) ?_, Ev.bind (impl_surplus.ev l hl) ?_⟩
      · simp only [h, if_true, c, decide_false]
        refine Ev.step (f := fun k => (spec_hpOver.f k l).bind fun t121 => (if 0 ≤ (shl .i64 1 (t121.length : Int)) then (if (shl .i64 1 (t121.length : Int) : Int).toNat ≤ 35184372088832 then (spec_FewestMoves.l0 k t121 (List.replicate (shl .i64 1 (t121.length : Int) : Int).toNat 0) 1) else (none)) else (none))) (fun k => ?_) (Ev.bind (spec_hpOver.ev l (isEqual_heaps h)) ?_)
        · simp only [spec_FewestMoves.j0, Bool.false_eq_true, if_false]
        · simp only [overOf_length, hs, hp, Int.toNat_natCast, if_pos (show (0 : Int) ≤ ((2 ^ l.length : Nat) : Int) by omega), if_pos (show 2 ^ l.length ≤ 35184372088832 by omega)]
          exact e1
      · unfold moreR
        simp only [h, if_true, c, decide_false]
        refine Ev.step (f := fun k => impl_FewestMoves.l0 k (overOf l) (List.replicate (2 ^ l.length) 0) 1) (fun k => ?_) e2
        simp only [impl_FewestMoves.j0, Bool.false_eq_true, if_false, overOf_length, hs, hp, Int.toNat_natCast]
        rw [if_pos (by omega), if_pos (by omega)]
  · refine ⟨(0, false), Ev.bind (spec_hpEqual.ev l hl) ?_, Ev.bind (impl_surplus.ev l hl) ?_⟩
    · simp only [h]
      exact Ev.step (f := fun _ => some (0, false)) (fun k => by simp [spec_FewestMoves.j0]) (Ev.now _)
    · unfold moreR
      simp only [h]
      exact Ev.step (f := fun _ => some (0, false)) (fun k => by simp [impl_FewestMoves.j0]) (Ev.now _)
theorem FnExactFewestMoves : laws_FnExactFewestMoves.Pure := by
  intro l _ _ _
  by_cases hl : (l.length : Int) > 1048576
  · exact ⟨0, by unfold laws_FnExactFewestMoves.f; rw [if_pos hl]⟩
  obtain ⟨K1, h1⟩ := laws_toIntS.ev l (by omega)
  obtain ⟨⟨v, w⟩, ⟨K2, h2⟩, ⟨K3, h3⟩⟩ := both_FewestMoves l (by omega)
  obtain ⟨K4, h4⟩ := laws_eqIntS.ev l (by omega)
  dsimp only at h1 h2 h3 h4
  refine ⟨K1 + K2 + K3 + K4 + 1, ?_⟩
  simp (disch := omega) only [laws_FnExactFewestMoves.f, if_neg hl, h1, h2, h3, h4, Option.bind_some, bne_self_eq_false, Bool.false_eq_true, if_true, if_false]
  simp (disch := omega) only [laws_FnExactFewestMoves.j0, h1, h4, Option.bind_some, Bool.false_eq_true, if_true, if_false]

end Go.Proofs.Ytfkkbbkelehibaa.Pure
