/- The program's RingDistance returns what the reference's returns, for all arguments. It has no conditions. -/
import Derived.Test.YtdhhphngabamoaaPFnExactRingDistancex5
namespace Go.Proofs.Ytdhhphngabamoaa.Pure
open Go.RowKit Go.Proofs.Ytdhhphngabamoaa.PFnExactRingDistance Go.Proofs.YtdhhphngabamoaaW.PrintWords Go.Proofs.YtdhhphngabamoaaW.PrintLast
set_option linter.unusedVariables false
set_option linter.unusedSimpArgs false

/-! ### small words -/
theorem w64 (n : Int) (h1 : -9223372036854775808 ≤ n) (h2 : n ≤ 9223372036854775807) : wrap64 n = n := by unfold wrap64; omega
theorem w64s (i : Nat) (h : i < 9223372036854775807) : wrap64 ((i : Int) + 1) = ((i + 1 : Nat) : Int) := by unfold wrap64; omega
theorem rd_at (l : List Int) (i : Nat) (h : i < l.length) : rd l (i : Int) = l[i] := by simp [rd, List.getD_eq_getElem?_getD, List.getElem?_eq_getElem h]
theorem wf64 {x : Int} (h : (Lit.int .i64 x).wf = true) : -9223372036854775808 ≤ x ∧ x ≤ 9223372036854775807 := by
  simp [Lit.wf, IntKind.min, IntKind.max, IntKind.bits, IntKind.signed] at h
  omega
/-! ### copies, marks -/
theorem laws_toIntS.l0ev (l : List Int) (hl : l.length ≤ 1048576) (d : Nat) : ∀ i, i + d = l.length → Ev (fun k => laws_toIntS.l0 k l (l.take i ++ List.replicate d 0) i) l := by
  induction d with
  | zero =>
    intro i hi
    refine Ev.step (f := fun _ => some l) (fun k => ?_) (Ev.now _)
    simp only [laws_toIntS.l0]
    rw [if_neg (by omega)]
    simp [List.take_of_length_le (show l.length ≤ i by omega)]
  | succ d ih =>
    intro i hi
    refine Ev.step (f := fun k => laws_toIntS.l0 k l (l.take (i + 1) ++ List.replicate d 0) ((i + 1 : Nat) : Int)) (fun k => ?_) (ih (i + 1) (by omega))
    simp only [laws_toIntS.l0]
    rw [if_pos (by omega), if_pos (by omega), if_pos (by simp; omega), w64s i (by omega), rd_at l i (by omega)]
    congr 1
    rw [show ((i : Int)).toNat = i by omega, List.set_append_right _ _ (by simp; omega), List.replicate_succ, List.length_take, show i - min i l.length = 0 by omega, List.set_cons_zero, List.take_succ_eq_append_getElem (show i < l.length by omega)]
    simp only [List.append_assoc, List.cons_append, List.nil_append]
theorem laws_toIntS.ev (l : List Int) (hl : l.length ≤ 1048576) : Ev (fun k => laws_toIntS.f k l) l := by
  have h := laws_toIntS.l0ev l hl l.length 0 (by omega)
  unfold laws_toIntS.f
  simp only [if_pos (show (0 : Int) ≤ (l.length : Int) by omega), if_pos (show (l.length : Int).toNat ≤ 35184372088832 by omega)]
  simpa using h
theorem laws_eqIntS.l0ev (l : List Int) (hl : l.length ≤ 1048576) (d : Nat) : ∀ i, i + d = l.length → Ev (fun k => laws_eqIntS.l0 k l l i) true := by
  induction d with
  | zero =>
    intro i hi
    refine Ev.step (f := fun _ => some true) (fun k => ?_) (Ev.now _)
    simp only [laws_eqIntS.l0]
    rw [if_neg (by omega)]
  | succ d ih =>
    intro i hi
    refine Ev.step (f := fun k => laws_eqIntS.l0 k l l ((i + 1 : Nat) : Int)) (fun k => ?_) (ih (i + 1) (by omega))
    simp only [laws_eqIntS.l0]
    rw [if_pos (by omega), if_pos (by omega), if_pos (by omega), if_pos trivial, w64s i (by omega)]
theorem laws_eqIntS.ev (l : List Int) (hl : l.length ≤ 1048576) : Ev (fun k => laws_eqIntS.f k l l) true := by
  unfold laws_eqIntS.f
  simp only [if_true]
  exact laws_eqIntS.l0ev l hl l.length 0 (by omega)
/-- The sum of a list's values under f. -/
def tot (f : Int → Int) : List Int → Int
  | [] => 0
  | x :: xs => f x + tot f xs
theorem rd_set_eq (v : List Int) (i : Nat) (x : Int) (h : i < v.length) : rd (v.set i x) (i : Int) = x := by
  simp [rd, List.getD_eq_getElem?_getD, h]
theorem rd_set_neN (v : List Int) (i j : Nat) (x : Int) (h : i ≠ j) : rd (v.set i x) (j : Int) = rd v (j : Int) := by
  simp [rd, List.getD_eq_getElem?_getD, List.getElem?_set_ne h]
theorem rd_cons_succ (y : Int) (ys : List Int) (i : Nat) : rd (y :: ys) ((i + 1 : Nat) : Int) = rd ys (i : Int) := by
  unfold rd
  rw [show (((i + 1 : Nat) : Int)).toNat = i + 1 by omega, show ((i : Int)).toNat = i by omega]
  simp
theorem tot_set (f : Int → Int) : ∀ (v : List Int) (i : Nat) (x : Int), i < v.length → tot f (v.set i x) = tot f v - f (rd v (i : Int)) + f x
  | [], i, x, h => by simp at h
  | y :: ys, 0, x, h => by simp [tot, rd]; omega
  | y :: ys, i + 1, x, h => by
    have := tot_set f ys i x (by simpa using h)
    rw [List.set_cons_succ, tot, tot, this, rd_cons_succ]
    omega
theorem mem_rd {v : List Int} {x : Int} (h : x ∈ v) : ∃ a : Nat, a < v.length ∧ rd v (a : Int) = x := by
  obtain ⟨a, ha, e⟩ := List.mem_iff_getElem.mp h
  exact ⟨a, ha, by rw [rd_at v a ha, e]⟩
theorem rd_mem {v : List Int} {a : Nat} (h : a < v.length) : rd v (a : Int) ∈ v := by
  rw [rd_at v a h]; exact List.getElem_mem h
theorem tot_nonpos : ∀ (v : List Int), (∀ x ∈ v, x ≤ 0) → tot id v ≤ 0 ∧ (tot id v = 0 → ∀ x ∈ v, x = 0)
  | [], _ => ⟨by simp [tot], by simp⟩
  | y :: ys, h => by
    have h1 := tot_nonpos ys (fun x hx => h x (by simp [hx]))
    have h2 := h y (by simp)
    constructor
    · simp only [tot, id]; omega
    · intro e
      simp only [tot, id] at e
      intro x hx
      rcases List.mem_cons.mp hx with rfl | hx
      · omega
      · exact h1.2 (by omega) x hx
theorem tot_nonneg : ∀ (v : List Int), (∀ x ∈ v, 0 ≤ x) → 0 ≤ tot id v ∧ (tot id v = 0 → ∀ x ∈ v, x = 0)
  | [], _ => ⟨by simp [tot], by simp⟩
  | y :: ys, h => by
    have h1 := tot_nonneg ys (fun x hx => h x (by simp [hx]))
    have h2 := h y (by simp)
    constructor
    · simp only [tot, id]; omega
    · intro e
      simp only [tot, id] at e
      intro x hx
      rcases List.mem_cons.mp hx with rfl | hx
      · omega
      · exact h1.2 (by omega) x hx
theorem tot_bound (f : Int → Int) (B : Int) : ∀ (v : List Int), (∀ x ∈ v, -B ≤ f x ∧ f x ≤ B) → -(B * v.length) ≤ tot f v ∧ tot f v ≤ B * v.length
  | [], _ => by simp [tot]
  | y :: ys, h => by
    have h1 := tot_bound f B ys (fun x hx => h x (by simp [hx]))
    have h2 := h y (by simp)
    simp only [tot, List.length_cons]
    have e : B * ((ys.length + 1 : Nat) : Int) = B * ys.length + B := by rw [Int.natCast_add, Int.mul_add]; simp
    omega
theorem cmp_Less_int.is (a b : Int) : cmp_Less_int.f a b = some (decide (a < b)) := by
  unfold cmp_Less_int.f cmp_isNaN_int.f
  simp
/-- Two neighbours, turned. -/
def swp (v : List Int) (j : Nat) : List Int := (v.set (j + 1) (rd v (j : Int))).set j (rd v ((j + 1 : Nat) : Int))
theorem swp_length (v : List Int) (j : Nat) : (swp v j).length = v.length := by simp [swp]
theorem swp_rd (v : List Int) (j a : Nat) (hj : j + 1 < v.length) : rd (swp v j) (a : Int) = if a = j then rd v ((j + 1 : Nat) : Int) else if a = j + 1 then rd v (j : Int) else rd v (a : Int) := by
  unfold swp
  by_cases h1 : a = j
  · subst h1
    rw [rd_set_eq _ _ _ (by simp; omega), if_pos rfl]
  · rw [rd_set_neN _ _ _ _ (Ne.symm h1), if_neg h1]
    by_cases h2 : a = j + 1
    · subst h2
      rw [rd_set_eq _ _ _ hj, if_pos rfl]
    · rw [rd_set_neN _ _ _ _ (Ne.symm h2), if_neg h2]
theorem swp_tot (f : Int → Int) (v : List Int) (j : Nat) (hj : j + 1 < v.length) : tot f (swp v j) = tot f v := by
  unfold swp
  rw [tot_set f _ j _ (by simp; omega), tot_set f v (j + 1) _ hj, rd_set_neN _ _ _ _ (by omega)]
  omega
theorem swp_mem {v : List Int} {j : Nat} (hj : j + 1 < v.length) {x : Int} (h : x ∈ swp v j) : x ∈ v := by
  obtain ⟨a, ha, e⟩ := mem_rd h
  rw [swp_length] at ha
  rw [swp_rd v j a hj] at e
  split at e
  · rw [← e]; exact rd_mem hj
  · split at e
    · rw [← e]; exact rd_mem (by omega)
    · rw [← e]; exact rd_mem ha
structure SortOf (v r : List Int) : Prop where
  len : r.length = v.length
  sums : ∀ f, tot f r = tot f v
  mem : ∀ x ∈ r, x ∈ v
  srt : ∀ a b : Nat, a ≤ b → b < r.length → rd r (a : Int) ≤ rd r (b : Int)
theorem insort.l0tot (n : Nat) (hn : n ≤ 1000) : ∀ (e i : Nat) (v : List Int), i + e = n → v.length = n → 1 ≤ i → (∀ a b : Nat, a < b → b < i → rd v (a : Int) ≤ rd v (b : Int)) →
    ∃ r, SortOf v r ∧ Ev (fun k => slices_insertionSortOrdered_int.l0 k v 0 (n : Int) i) r := by
  intro e
  induction e with
  | zero =>
    intro i v hi hv h1 hs
    refine ⟨v, ⟨rfl, fun _ => rfl, fun _ h => h, fun a b hab hb => ?_⟩, Ev.step (f := fun _ => some v) (fun k => ?_) (Ev.now _)⟩
    · rcases Nat.lt_or_ge a b with h | h
      · exact hs a b h (by omega)
      · have : a = b := by omega
        subst this; exact Int.le_refl _
    · simp only [slices_insertionSortOrdered_int.l0]
      rw [if_neg (by omega)]
  | succ e ih =>
    intro i v hi hv h1 hs
    have inner : ∀ (j : Nat) (v : List Int), j ≤ i → v.length = n → (∀ a b : Nat, a < b → b ≤ i → b ≠ j → rd v (a : Int) ≤ rd v (b : Int)) →
        ∃ r, SortOf v r ∧ Ev (fun k => slices_insertionSortOrdered_int.l1 k v 0 (n : Int) i j) r := by
      intro j
      induction j with
      | zero =>
        intro v _ hv hs
        obtain ⟨r, hr, h⟩ := ih (i + 1) v (by omega) hv (by omega) (fun a b hab hb => hs a b hab (by omega) (by omega))
        refine ⟨r, hr, Ev.step (f := fun k => slices_insertionSortOrdered_int.l0 k v 0 (n : Int) ((i + 1 : Nat) : Int)) (fun k => ?_) h⟩
        simp only [slices_insertionSortOrdered_int.l1]
        rw [if_neg (by omega), w64s i (by omega)]
      | succ j ihj =>
        intro v hj hv hs
        have e1 : wrap64 (((j + 1 : Nat) : Int) - 1) = (j : Int) := by rw [w64 _ (by omega) (by omega)]; omega
        by_cases c : rd v ((j + 1 : Nat) : Int) < rd v (j : Int)
        · obtain ⟨r, hr, h⟩ := ihj (swp v j) (by omega) (by rw [swp_length]; exact hv) (fun a b hab hb hbj => by
            rw [swp_rd v j a (by omega), swp_rd v j b (by omega), if_neg hbj]
            by_cases hb1 : b = j + 1
            · rw [if_pos hb1]
              by_cases ha : a = j
              · rw [if_pos ha]; omega
              · rw [if_neg ha, if_neg (by omega)]
                exact hs a j (by omega) (by omega) (by omega)
            · rw [if_neg hb1]
              by_cases ha : a = j
              · rw [if_pos ha]; exact hs (j + 1) b (by omega) hb hb1
              · rw [if_neg ha]
                by_cases ha1 : a = j + 1
                · rw [if_pos ha1]; exact hs j b (by omega) hb hb1
                · rw [if_neg ha1]; exact hs a b hab hb hb1)
          refine ⟨r, ⟨by rw [hr.len, swp_length], fun f => by rw [hr.sums, swp_tot f v j (by omega)], fun x hx => swp_mem (by omega) (hr.mem x hx), hr.srt⟩, Ev.step (f := fun k => slices_insertionSortOrdered_int.l1 k (swp v j) 0 (n : Int) i j) (fun k => ?_) h⟩
          simp only [slices_insertionSortOrdered_int.l1, e1, cmp_Less_int.is, Option.bind_some, decide_eq_true c, if_true]
          rw [if_pos (by omega), if_pos (by omega), if_pos (by omega), if_pos (by omega), if_pos (by omega), Int.toNat_natCast, Int.toNat_natCast]
          rfl
        · obtain ⟨r, hr, h⟩ := ih (i + 1) v (by omega) hv (by omega) (fun a b hab hb => by
            by_cases hbj : b = j + 1
            · subst hbj
              by_cases ha : a = j
              · subst ha; omega
              · have := hs a j (by omega) (by omega) (by omega)
                omega
            · exact hs a b hab (by omega) hbj)
          refine ⟨r, hr, Ev.step (f := fun k => slices_insertionSortOrdered_int.l0 k v 0 (n : Int) ((i + 1 : Nat) : Int)) (fun k => ?_) h⟩
          simp only [slices_insertionSortOrdered_int.l1, e1, cmp_Less_int.is, Option.bind_some, decide_eq_false c, Bool.false_eq_true, if_false]
          rw [if_pos (by omega), if_pos (by omega), if_pos (by omega), if_pos (by omega), if_pos (by omega), w64s i (by omega)]
    obtain ⟨r, hr, h⟩ := inner i v (by omega) hv (fun a b hab hb hbi => hs a b hab (by omega))
    refine ⟨r, hr, Ev.step (f := fun k => slices_insertionSortOrdered_int.l1 k v 0 (n : Int) i i) (fun k => ?_) h⟩
    simp only [slices_insertionSortOrdered_int.l0]
    rw [if_pos (by omega)]
theorem sorted.ev (v : List Int) (h1 : 1 ≤ v.length) (h2 : v.length ≤ 12) : ∃ r, SortOf v r ∧ Ev (fun k => slices_Sorted_int.f k v) r := by
  obtain ⟨r, hr, h⟩ := insort.l0tot v.length (by omega) (v.length - 1) 1 v (by omega) rfl (by omega) (fun a b hab hb => by omega)
  refine ⟨r, hr, ?_⟩
  unfold slices_Sorted_int.f slices_insertionSortOrdered_int.f
  simp only [h1, h2, and_self, if_true, show wrap64 (0 + 1) = ((1 : Nat) : Int) by unfold wrap64; omega]
  exact h
theorem spec_l1In.is (x a b : Int) : spec_l1In.f x a b = some (decide (a ≤ x) && decide (x ≤ b)) := by
  unfold spec_l1In.f
  by_cases h : x ≥ a
  · simp [h, show a ≤ x from h]
  · simp [h, show ¬ a ≤ x from h]
def allIn (l : List Int) (a b : Int) : Bool := l.all fun x => decide (a ≤ x) && decide (x ≤ b)
theorem spec_l1All.l0ev (a b : Int) (n : Int) (hn : n ≤ 1048576) : ∀ (tl done : List Int), ((done ++ tl).length : Int) = n → Ev (fun k => spec_l1All.l0 k a b (done ++ tl) n done.length) (allIn tl a b) := by
  intro tl
  induction tl with
  | nil =>
    intro done hd
    refine Ev.step (f := fun _ => some true) (fun k => ?_) (Ev.now _)
    simp only [spec_l1All.l0]
    simp at hd
    rw [if_neg (by omega)]
  | cons x xs ih =>
    intro done hd
    have hd' : (done.length : Int) + (xs.length + 1) = n := by simpa using hd
    have hx : rd (done ++ x :: xs) (done.length : Int) = x := by simp [rd]
    by_cases hp : (decide (a ≤ x) && decide (x ≤ b)) = true
    · have h := ih (done ++ [x]) (by simp; omega)
      refine Ev.step (f := fun k => spec_l1All.l0 k a b (done ++ [x] ++ xs) n ((done ++ [x]).length : Int)) (fun k => ?_) ?_
      · simp only [spec_l1All.l0]
        rw [if_pos (by omega), if_pos (by omega), if_pos (by simp; omega), hx, spec_l1In.is, hp]
        simp only [Option.bind_some, if_true]
        rw [w64s done.length (by omega)]
        simp
      · rw [show allIn (x :: xs) a b = allIn xs a b by simp [allIn] at hp ⊢; simp [hp]]
        exact h
    · refine Ev.step (f := fun _ => some false) (fun k => ?_) (by rw [show allIn (x :: xs) a b = false by simp [allIn] at hp ⊢; intro h1 h2; exact absurd (hp h1) (by omega)]; exact Ev.now _)
      simp only [spec_l1All.l0]
      rw [if_pos (by omega), if_pos (by omega), if_pos (by simp; omega), hx, spec_l1In.is]
      simp only [Option.bind_some]
      rw [if_neg hp]
theorem spec_l1All.ev (l : List Int) (a b : Int) (hl : l.length ≤ 1048576) : Ev (fun k => spec_l1All.f k l a b) (allIn l a b) := by
  have h := spec_l1All.l0ev a b l.length (by omega) l [] (by simp)
  simpa [spec_l1All.f] using h
theorem impl_within.is (x a b : Int) : impl_within.f x a b = some (decide (a ≤ x) && decide (x ≤ b)) := by
  unfold impl_within.f
  by_cases h : x ≥ a
  · simp [h, show a ≤ x from h]
  · simp [h, show ¬ a ≤ x from h]
def isHeaps (l : List Int) : Bool := (decide (1 ≤ (l.length : Int)) && decide ((l.length : Int) ≤ 12)) && allIn l 0 1000
theorem spec_hpGood.ev (l : List Int) (hl : l.length ≤ 1048576) : Ev (fun k => spec_hpGood.f k l) (isHeaps l) := by
  unfold spec_hpGood.f isHeaps
  simp only [spec_l1In.is, Option.bind_some]
  by_cases h : (decide (1 ≤ (l.length : Int)) && decide ((l.length : Int) ≤ 12)) = true
  · simp only [h, if_true, Bool.true_and]
    exact Ev.bind (spec_l1All.ev l 0 1000 hl) (Ev.now _)
  · simp only [h]
    simpa using Ev.now false
theorem impl_AreHeaps.is (l : List Int) : impl_AreHeaps.f l = some (isHeaps l) := by
  unfold impl_AreHeaps.f isHeaps impl_areIn.f allIn
  simp only [impl_within.is, Option.bind_some]
  by_cases h : (decide (1 ≤ (l.length : Int)) && decide ((l.length : Int) ≤ 12)) = true
  · simp only [h, if_true, Bool.true_and]
  · simp only [h]
    simp
theorem isHeaps_ne {l : List Int} (h : isHeaps l = true) : ¬ ((l.length : Int) = 0) := by
  simp [isHeaps] at h
  omega
/-- The sum as the machine makes it. -/
def wsum : List Int → Int → Int
  | [], a => a
  | x :: xs, a => wsum xs (wrap64 (a + x))
theorem spec_hpSum.l0ev (n : Int) (hn : n ≤ 1048576) : ∀ (tl done : List Int) (a : Int), ((done ++ tl).length : Int) = n → Ev (fun k => spec_hpSum.l0 k a (done ++ tl) n done.length) (wsum tl a) := by
  intro tl
  induction tl with
  | nil =>
    intro done a hd
    refine Ev.step (f := fun _ => some a) (fun k => ?_) (Ev.now a)
    simp only [spec_hpSum.l0]
    simp at hd
    rw [if_neg (by omega)]
  | cons x xs ih =>
    intro done a hd
    have hd' : (done.length : Int) + (xs.length + 1) = n := by simpa using hd
    have hx : rd (done ++ x :: xs) (done.length : Int) = x := by simp [rd]
    have h := ih (done ++ [x]) (wrap64 (a + x)) (by simp; omega)
    refine Ev.step (f := fun k => spec_hpSum.l0 k (wrap64 (a + x)) (done ++ [x] ++ xs) n ((done ++ [x]).length : Int)) (fun k => ?_) (by simpa [wsum] using h)
    simp only [spec_hpSum.l0]
    rw [if_pos (by omega), if_pos (by omega), if_pos (by simp; omega), hx, w64s done.length (by omega)]
    simp
theorem spec_hpSum.ev (l : List Int) (hl : l.length ≤ 1048576) : Ev (fun k => spec_hpSum.f k l) (wsum l 0) := by
  have h := spec_hpSum.l0ev l.length (by omega) l [] 0 (by simp)
  simpa [spec_hpSum.f] using h
/-- The stones can be shared. -/
def isEqual (l : List Int) : Bool := isHeaps l && (Int.tmod (wsum l 0) (l.length : Int) == 0)
theorem spec_hpEqual.ev (l : List Int) (hl : l.length ≤ 1048576) : Ev (fun k => spec_hpEqual.f k l) (isEqual l) := by
  refine Ev.bind (spec_hpGood.ev l hl) ?_
  unfold isEqual
  by_cases h : isHeaps l = true
  · simp only [h, if_true, Bool.true_and]
    refine Ev.bind (spec_hpSum.ev l hl) ?_
    simp only [if_neg (isHeaps_ne h)]
    exact Ev.now _
  · simp only [h, Bool.not_eq_true] at h ⊢
    simp only [h, Bool.false_and]
    exact Ev.now _
/-- What each heap has too many. -/
def overOf (l : List Int) : List Int := l.map fun x => wrap64 (x - wrap64 (Int.tdiv (wsum l 0) (l.length : Int)))
theorem overOf_length (l : List Int) : (overOf l).length = l.length := by simp [overOf]
def moreR (l : List Int) : List Int × Bool := if isEqual l = true then (overOf l, true) else ([], false)
theorem isEqual_heaps {l : List Int} (h : isEqual l = true) : isHeaps l = true := by
  unfold isEqual at h
  simp at h
  exact h.1
theorem isHeaps_len {l : List Int} (h : isHeaps l = true) : 1 ≤ l.length ∧ l.length ≤ 12 := by
  simp [isHeaps] at h
  omega
theorem rd_map_add (v : List Int) (s : Int) (i : Nat) (h : i < v.length) : rd (v.map (· + s)) (i : Int) = rd v (i : Int) + s := by
  rw [rd_at _ i (by simpa using h), rd_at v i h]; simp
structure GoodV (n : Nat) (v : List Int) : Prop where
  len : v.length = n
  bnd : ∀ x ∈ v, -1000000 ≤ x ∧ x ≤ 1000000
  sum : tot id v = 0
def nz (x : Int) : Int := if x = 0 then 0 else 1
theorem nz_nonneg : ∀ v : List Int, 0 ≤ tot nz v ∧ tot nz v ≤ v.length
  | [] => by simp [tot]
  | x :: xs => by
    have := nz_nonneg xs
    simp only [tot, nz, List.length_cons]
    split <;> omega
theorem share_end {n : Nat} {v : List Int} (s : Int) (h : GoodV n v) (hi : ∀ a : Nat, a < n → rd v a ≤ 0) : v.map (· + s) = List.replicate n s ∧ tot (max 0) v = 0 := by
  have h0 : ∀ x ∈ v, x = 0 := (tot_nonpos v (fun x hx => by obtain ⟨a, ha, e⟩ := mem_rd hx; rw [← e]; exact hi a (by rw [← h.len]; exact ha))).2 h.sum
  have e : v = List.replicate n 0 := List.eq_replicate_iff.mpr ⟨h.len, h0⟩
  constructor
  · rw [e]; simp
  · rw [e]
    clear e h0 hi h
    induction n with
    | zero => rfl
    | succ n ih => rw [List.replicate_succ, tot, ih]; rfl
theorem heaps_in {l : List Int} (h : isHeaps l = true) : ∀ x ∈ l, 0 ≤ x ∧ x ≤ 1000 := by
  simp [isHeaps, allIn] at h
  intro x hx
  exact h.2 x hx
theorem wsum_tot : ∀ (l : List Int) (a : Int), (∀ x ∈ l, 0 ≤ x ∧ x ≤ 1000) → 0 ≤ a → a + 1000 * l.length ≤ 1000000 → wsum l a = a + tot id l
  | [], a, _, _, _ => by simp [wsum, tot]
  | x :: xs, a, h, h0, hb => by
    have hx := h x (by simp)
    simp only [List.length_cons] at hb
    have e : (1000 : Int) * ((xs.length + 1 : Nat) : Int) = 1000 * xs.length + 1000 := by omega
    rw [wsum, w64 (a + x) (by omega) (by omega), wsum_tot xs (a + x) (fun y hy => h y (by simp [hy])) (by omega) (by omega), tot]
    simp only [id]; omega
theorem tot_sub (s : Int) : ∀ l : List Int, tot id (l.map fun x => x - s) = tot id l - l.length * s
  | [] => by simp [tot]
  | x :: xs => by
    rw [List.map_cons, tot, tot, tot_sub s xs]
    simp only [id, List.length_cons]
    rw [Int.natCast_add, Int.add_mul]; simp; omega
/-- What each heap is to hold. -/
def shareOf (l : List Int) : Int := wrap64 (Int.tdiv (wsum l 0) (l.length : Int))
theorem equal_facts {l : List Int} (h : isEqual l = true) : 0 ≤ shareOf l ∧ shareOf l ≤ 12000 ∧ GoodV l.length (overOf l) ∧ (overOf l).map (· + shareOf l) = l ∧ overOf l = l.map (fun x => x - shareOf l) := by
  have hh := isEqual_heaps h
  have hl := isHeaps_len hh
  have hin := heaps_in hh
  have hm : Int.tmod (wsum l 0) (l.length : Int) = 0 := by
    unfold isEqual at h
    simp at h
    exact h.2
  have hw := wsum_tot l 0 hin (by omega) (by omega)
  have hS := tot_nonneg l (fun x hx => (hin x hx).1)
  have hB := tot_bound id 1000 l (fun x hx => by have := hin x hx; simp only [id]; omega)
  have hq : (l.length : Int) * Int.tdiv (wsum l 0) (l.length : Int) = wsum l 0 := by
    have := Int.mul_tdiv_add_tmod (wsum l 0) (l.length : Int)
    omega
  have hS0 : 0 ≤ wsum l 0 := by omega
  have hS1 : wsum l 0 ≤ 12000 := by omega
  have h0 : 0 ≤ Int.tdiv (wsum l 0) (l.length : Int) := Int.tdiv_nonneg hS0 (by omega)
  have h1 : Int.tdiv (wsum l 0) (l.length : Int) ≤ 12000 := by
    have := Int.tdiv_le_self (l.length : Int) hS0
    omega
  have hs : shareOf l = Int.tdiv (wsum l 0) (l.length : Int) := w64 _ (by omega) (by omega)
  have eo : overOf l = l.map fun x => x - shareOf l := by
    unfold overOf
    refine List.map_congr_left (fun x hx => ?_)
    have := hin x hx
    show wrap64 (x - shareOf l) = _
    exact w64 _ (by omega) (by omega)
  refine ⟨by omega, by omega, ⟨overOf_length l, ?_, ?_⟩, ?_, eo⟩
  · intro x hx
    rw [eo] at hx
    obtain ⟨y, hy, rfl⟩ := List.mem_map.mp hx
    have := hin y hy
    omega
  · rw [eo, tot_sub, hs, hq]; omega
  · rw [eo, List.map_map]
    conv => rhs; rw [← List.map_id l]
    refine List.map_congr_left (fun x _ => ?_)
    simp
/-- A number without its sign, as both make it. -/
def absw (x : Int) : Int := mx x (wrap64 (-x))
/-- The sums of the first numbers, from a on. -/
def psums : List Int → Int → List Int
  | [], _ => []
  | x :: xs, a => wrap64 (a + x) :: psums xs (wrap64 (a + x))
theorem psums_length : ∀ (l : List Int) (a : Int), (psums l a).length = l.length
  | [], _ => rfl
  | x :: xs, a => by simp [psums, psums_length xs]
theorem psums_take : ∀ (m : Nat) (l : List Int) (a : Int), (psums l a).take m = psums (l.take m) a
  | 0, _, _ => by simp [psums]
  | m + 1, [], _ => by simp [psums]
  | m + 1, x :: xs, a => by simp [psums, psums_take m xs]
/-- How many stones go from each heap to the next one. -/
def flowsOf (l : List Int) : List Int := psums ((overOf l).take (l.length - 1)) 0
theorem flowsOf_length (l : List Int) : (flowsOf l).length = l.length - 1 := by
  unfold flowsOf
  rw [psums_length, List.length_take, overOf_length]
  omega
def flowsR (l : List Int) : List Int × Bool := if isEqual l = true then (flowsOf l, true) else ([], false)
def absSum : List Int → Int → Int
  | [], a => a
  | x :: xs, a => absSum xs (wrap64 (a + absw x))
def lineR (l : List Int) : Int × Bool := if isEqual l = true then (absSum (flowsOf l) 0, true) else (0, false)
/-- The sum of what is too many. -/
def posSum : List Int → Int → Int
  | [], a => a
  | x :: xs, a => posSum xs (wrap64 (a + mx 0 x))
def toMoveR (l : List Int) : Int × Bool := if isEqual l = true then (posSum (overOf l) 0, true) else (0, false)
theorem posSum_tot : ∀ (v : List Int) (a : Int), (∀ x ∈ v, -1000000 ≤ x ∧ x ≤ 1000000) → 0 ≤ a → a + 1000000 * v.length ≤ 1000000000 → posSum v a = a + tot (max 0) v
  | [], a, _, _, _ => by simp [posSum, tot]
  | x :: xs, a, h, h0, hb => by
    have hx := h x (by simp)
    simp only [List.length_cons] at hb
    have em : mx 0 x = max 0 x := by unfold mx; omega
    rw [posSum, em, w64 (a + max 0 x) (by omega) (by omega), posSum_tot xs _ (fun y hy => h y (by simp [hy])) (by omega) (by omega), tot]
    omega
theorem absw_is {x : Int} (h1 : -1000000000 ≤ x) (h2 : x ≤ 1000000000) : absw x = max x (-x) := by
  unfold absw mx
  rw [w64 (-x) (by omega) (by omega)]
  omega
def ab (x : Int) : Int := max x (-x)
theorem absSum_tot : ∀ (v : List Int) (a : Int), (∀ x ∈ v, -100000000 ≤ x ∧ x ≤ 100000000) → 0 ≤ a → a + 100000000 * v.length ≤ 10000000000 → absSum v a = a + tot ab v
  | [], a, _, _, _ => by simp [absSum, tot]
  | x :: xs, a, h, h0, hb => by
    have hx := h x (by simp)
    simp only [List.length_cons] at hb
    rw [absSum, absw_is (by omega) (by omega), w64 (a + max x (-x)) (by omega) (by omega), absSum_tot xs _ (fun y hy => h y (by simp [hy])) (by omega) (by omega), tot]
    unfold ab; omega
theorem tot_take_succ (f : Int → Int) : ∀ (v : List Int) (i : Nat), i < v.length → tot f (v.take (i + 1)) = tot f (v.take i) + f (rd v (i : Int))
  | [], i, h => by simp at h
  | x :: xs, 0, h => by simp [tot, rd]
  | x :: xs, i + 1, h => by
    have := tot_take_succ f xs i (by simpa using h)
    rw [List.take_succ_cons, List.take_succ_cons, tot, tot, this, rd_cons_succ]
    omega
theorem psums_rd : ∀ (v : List Int) (a : Int) (i : Nat), i < v.length → (∀ j : Nat, j ≤ v.length → -100000000 ≤ a + tot id (v.take j) ∧ a + tot id (v.take j) ≤ 100000000) → rd (psums v a) (i : Int) = a + tot id (v.take (i + 1))
  | [], a, i, h, _ => by simp at h
  | x :: xs, a, 0, h, hb => by
    have := hb 1 (by simp)
    simp [tot] at this
    simp [psums, rd, tot]
    exact w64 _ (by omega) (by omega)
  | x :: xs, a, i + 1, h, hb => by
    have h1 := hb 1 (by simp)
    simp [tot] at h1
    rw [psums, rd_cons_succ, w64 (a + x) (by omega) (by omega), psums_rd xs (a + x) i (by simpa using h) (fun j hj => by
      have := hb (j + 1) (by simpa using hj)
      rw [List.take_succ_cons, tot] at this
      simp only [id] at this
      omega)]
    rw [List.take_succ_cons (i := i + 1), tot]
    simp only [id]; omega
theorem tot_drop (f : Int → Int) : ∀ (v : List Int) (i : Nat), i < v.length → tot f (v.drop i) = f (rd v (i : Int)) + tot f (v.drop (i + 1))
  | [], i, h => by simp at h
  | x :: xs, 0, h => by simp [tot, rd]
  | x :: xs, i + 1, h => by
    have := tot_drop f xs i (by simpa using h)
    rw [List.drop_succ_cons, List.drop_succ_cons, this, rd_cons_succ]
theorem tot_ab_nonneg : ∀ v : List Int, 0 ≤ tot ab v
  | [] => by simp [tot]
  | x :: xs => by
    have := tot_ab_nonneg xs
    simp only [tot, ab]; omega
/-- What there is too many of in the first i heaps. -/
def pre (l : List Int) (i : Nat) : Int := tot id ((overOf l).take i)
theorem pre_bound {l : List Int} (h : isEqual l = true) (i : Nat) : -12000000 ≤ pre l i ∧ pre l i ≤ 12000000 := by
  obtain ⟨s0, s1, g, e, _⟩ := equal_facts h
  have hh := isHeaps_len (isEqual_heaps h)
  have hB := tot_bound id 1000000 ((overOf l).take i) (fun x hx => by have := g.bnd x (List.mem_of_mem_take hx); simp only [id]; omega)
  have hL : ((overOf l).take i).length ≤ 12 := by rw [List.length_take, g.len]; omega
  unfold pre
  omega
theorem flows_rd {l : List Int} (h : isEqual l = true) (i : Nat) (hi : i < l.length - 1) : rd (flowsOf l) (i : Int) = pre l (i + 1) := by
  unfold flowsOf
  rw [psums_rd _ 0 i (by rw [List.length_take, overOf_length]; omega) (fun j hj => by
    rw [List.length_take] at hj
    rw [List.take_take]
    have := pre_bound h (min j (l.length - 1))
    unfold pre at this
    omega), List.take_take, show min (i + 1) (l.length - 1) = i + 1 by omega]
  unfold pre
  omega
theorem pre_all {l : List Int} (h : isEqual l = true) : pre l l.length = 0 := by
  obtain ⟨s0, s1, g, e, _⟩ := equal_facts h
  unfold pre
  rw [List.take_of_length_le (by rw [g.len]; omega)]
  exact g.sum
theorem pre_succ (l : List Int) (i : Nat) (hi : i < l.length) : pre l (i + 1) = pre l i + rd (overOf l) (i : Int) := by
  unfold pre
  rw [tot_take_succ id _ i (by rw [overOf_length]; exact hi)]
  rfl
theorem heap_over {l : List Int} (h : isEqual l = true) (i : Nat) (hi : i < l.length) : rd l (i : Int) = rd (overOf l) (i : Int) + shareOf l := by
  obtain ⟨s0, s1, g, e, _⟩ := equal_facts h
  have := rd_map_add (overOf l) (shareOf l) i (by rw [g.len]; exact hi)
  rw [e] at this
  exact this
theorem flows_bound {l : List Int} (h : isEqual l = true) : ∀ x ∈ flowsOf l, -100000000 ≤ x ∧ x ≤ 100000000 := by
  intro x hx
  obtain ⟨i, hi, e⟩ := mem_rd hx
  rw [flowsOf_length] at hi
  rw [flows_rd h i hi] at e
  have := pre_bound h (i + 1)
  omega
/-- The sum of the distances from t. -/
def Sd (v : List Int) (t : Int) : Int := tot (fun m => ab (m - t)) v
theorem tot_le (f g : Int → Int) : ∀ v : List Int, (∀ x ∈ v, f x ≤ g x) → tot f v ≤ tot g v
  | [], _ => by simp [tot]
  | x :: xs, h => by
    have h1 := tot_le f g xs (fun y hy => h y (by simp [hy]))
    have h2 := h x (by simp)
    simp only [tot]; omega
theorem tot_add (f g : Int → Int) : ∀ v : List Int, tot (fun x => f x + g x) v = tot f v + tot g v
  | [] => by simp [tot]
  | x :: xs => by simp only [tot, tot_add f g xs]; omega
theorem tot_mul (f : Int → Int) (c : Int) : ∀ v : List Int, tot (fun x => c * f x) v = c * tot f v
  | [] => by simp [tot]
  | x :: xs => by simp only [tot, tot_mul f c xs]; rw [Int.mul_add]
/-- +1 for the numbers that are not above m, -1 for the others. -/
def up (m : Int) (x : Int) : Int := if x ≤ m then 1 else -1
def dn (m : Int) (x : Int) : Int := if m ≤ x then 1 else -1
theorem tot_up (m : Int) : ∀ (r : List Int) (q : Nat), q ≤ r.length → (∀ a : Nat, a < q → rd r (a : Int) ≤ m) → 2 * (q : Int) - r.length ≤ tot (up m) r
  | [], q, h, _ => by simp [tot] at *; omega
  | x :: xs, 0, _, _ => by
    have := tot_up m xs 0 (by omega) (fun a ha => by omega)
    simp only [tot, up, List.length_cons] at *
    split <;> omega
  | x :: xs, q + 1, h, hs => by
    have h0 : x ≤ m := by simpa [rd] using hs 0 (by omega)
    have := tot_up m xs q (by simpa using h) (fun a ha => by rw [← rd_cons_succ x]; exact hs (a + 1) (by omega))
    simp only [tot, up, List.length_cons, if_pos h0] at *
    omega
theorem tot_dn (m : Int) : ∀ (r : List Int) (q : Nat), q ≤ r.length → (∀ a : Nat, q ≤ a → a < r.length → m ≤ rd r (a : Int)) → (r.length : Int) - 2 * (q : Int) ≤ tot (dn m) r
  | [], q, h, _ => by simp [tot] at *; omega
  | x :: xs, 0, _, hs => by
    have h0 : m ≤ x := by simpa [rd] using hs 0 (by omega) (by simp)
    have := tot_dn m xs 0 (by omega) (fun a _ ha => by rw [← rd_cons_succ x]; exact hs (a + 1) (by omega) (by simpa using ha))
    simp only [tot, dn, List.length_cons, if_pos h0] at *
    omega
  | x :: xs, q + 1, h, hs => by
    have := tot_dn m xs q (by simpa using h) (fun a ha hb => by rw [← rd_cons_succ x]; exact hs (a + 1) (by omega) (by simpa using hb))
    simp only [tot, dn, List.length_cons] at *
    split <;> omega
/-- The upper middle number is the greatest of those whose distances' sum is least. -/
theorem median {v r : List Int} (h : SortOf v r) (h1 : 1 ≤ v.length) (x : Int) : (rd r ((v.length / 2 : Nat) : Int) < x → Sd v (rd r ((v.length / 2 : Nat) : Int)) < Sd v x) ∧ Sd v (rd r ((v.length / 2 : Nat) : Int)) ≤ Sd v x := by
  have hl := h.len
  generalize hm : rd r ((v.length / 2 : Nat) : Int) = m
  have hup : 2 * ((v.length / 2 + 1 : Nat) : Int) - r.length ≤ tot (up m) r := tot_up m r (v.length / 2 + 1) (by omega) (fun a ha => by rw [← hm]; exact h.srt a (v.length / 2) (by omega) (by omega))
  have hdn : (r.length : Int) - 2 * ((v.length / 2 : Nat) : Int) ≤ tot (dn m) r := tot_dn m r (v.length / 2) (by omega) (fun a ha hb => by rw [← hm]; exact h.srt (v.length / 2) a ha hb)
  rw [h.sums] at hup hdn
  have A : m < x → Sd v m < Sd v x := by
    intro hx
    have e := tot_le (fun y => ab (y - m) + (x - m) * up m y) (fun y => ab (y - x)) v (fun y _ => by
      simp only [ab, up]
      split
      · rw [Int.mul_one]; omega
      · rw [Int.mul_neg, Int.mul_one]; omega)
    rw [tot_add, tot_mul] at e
    have p : (x - m) * 1 ≤ (x - m) * tot (up m) v := Int.mul_le_mul_of_nonneg_left (by omega) (by omega)
    rw [Int.mul_one] at p
    unfold Sd
    omega
  refine ⟨A, ?_⟩
  rcases Int.lt_trichotomy m x with hx | hx | hx
  · exact Int.le_of_lt (A hx)
  · rw [hx]; exact Int.le_refl _
  · have e := tot_le (fun y => ab (y - m) + (m - x) * dn m y) (fun y => ab (y - x)) v (fun y _ => by
      simp only [ab, dn]
      split
      · rw [Int.mul_one]; omega
      · rw [Int.mul_neg, Int.mul_one]; omega)
    rw [tot_add, tot_mul] at e
    have p : (0 : Int) ≤ (m - x) * tot (dn m) v := Int.mul_nonneg (by omega) (by omega)
    unfold Sd
    omega
theorem spec_l1Most.is (x y : Int) : spec_l1Most.f x y = some (mx x y) := by
  unfold spec_l1Most.f mx
  by_cases h : x > y
  · rw [if_pos h]; congr 1; omega
  · rw [if_neg h]; congr 1; omega
theorem spec_l1Abs.is (x : Int) : spec_l1Abs.f x = some (absw x) := by
  unfold spec_l1Abs.f absw
  rw [spec_l1Most.is]
  rfl
theorem spec_hpSize.l0ev (n : Int) (hn : n ≤ 1048576) : ∀ (tl done : List Int) (a : Int), ((done ++ tl).length : Int) = n → Ev (fun k => spec_hpSize.l0 k a (done ++ tl) n done.length) ((absSum tl a)) := by
  intro tl
  induction tl with
  | nil =>
    intro done a hd  
    refine Ev.step (f := fun _ => some ((absSum [] a))) (fun k => ?_) (Ev.now _)
    simp only [spec_hpSize.l0]
    simp at hd
    rw [if_neg (by omega)]
    all_goals simp [absSum]
  | cons x xs ih =>
    intro done a hd  
    have hd' : (done.length : Int) + (xs.length + 1) = n := by simpa using hd
    skip
    have hx : rd (done ++ x :: xs) (done.length : Int) = x := by simp [rd]
    skip
    have h := ih (done ++ [x]) (wrap64 (a + absw x)) (by simp; omega) 
    have e_ : (absSum (x :: xs) a) = (absSum xs (wrap64 (a + absw x))) := by simp [absSum]
    rw [e_]
    refine Ev.step (f := fun k => spec_hpSize.l0 k (wrap64 (a + absw x)) (done ++ [x] ++ xs) n ((done ++ [x]).length : Int)) (fun k => ?_) (by simpa using h)
    simp only [spec_hpSize.l0, hx, spec_l1Abs.is, Option.bind_some]
    rw [if_pos (by omega), if_pos (by omega), if_pos (by simp; omega), w64s done.length (by omega)]
    simp
theorem spec_hpSize.ev (l : List Int) (hl : l.length ≤ 1048576) : Ev (fun k => spec_hpSize.f k l) (absSum l 0) := by
  have := spec_hpSize.l0ev l.length (by omega) l [] 0 (by simp)
  simpa [spec_hpSize.f] using this
theorem spec_hpOver.l0ev (sh : Int) (n : Int) (hn : n ≤ 1048576) : ∀ (tl done : List Int) (acc : List Int), ((done ++ tl).length : Int) = n → (acc.length : Int) + tl.length ≤ 1048576 → Ev (fun k => spec_hpOver.l0 k sh acc (done ++ tl) n done.length) ((acc ++ tl.map fun x => wrap64 (x - sh))) := by
  intro tl
  induction tl with
  | nil =>
    intro done acc hd hs0 
    refine Ev.step (f := fun _ => some ((acc ++ [].map fun x => wrap64 (x - sh)))) (fun k => ?_) (Ev.now _)
    simp only [spec_hpOver.l0]
    simp at hd
    rw [if_neg (by omega)]
    all_goals simp
  | cons x xs ih =>
    intro done acc hd hs0 
    have hd' : (done.length : Int) + (xs.length + 1) = n := by simpa using hd
    simp only [List.length_cons] at hs0
    have hx : rd (done ++ x :: xs) (done.length : Int) = x := by simp [rd]
    skip
    have h := ih (done ++ [x]) (acc ++ [wrap64 (x - sh)]) (by simp; omega) (by simp; omega)
    have e_ : (acc ++ (x :: xs).map fun x => wrap64 (x - sh)) = ((acc ++ [wrap64 (x - sh)]) ++ xs.map fun x => wrap64 (x - sh)) := by simp
    rw [e_]
    refine Ev.step (f := fun k => spec_hpOver.l0 k sh (acc ++ [wrap64 (x - sh)]) (done ++ [x] ++ xs) n ((done ++ [x]).length : Int)) (fun k => ?_) (by simpa using h)
    simp only [spec_hpOver.l0, hx, Option.bind_some]
    rw [if_pos (by omega), if_pos (by omega), if_pos (by simp; omega), if_pos (show acc.length < 17592186044416 by omega), w64s done.length (by omega)]
    simp
theorem spec_hpOver.ev (l : List Int) (h : isHeaps l = true) : Ev (fun k => spec_hpOver.f k l) (overOf l) := by
  have hl := isHeaps_len h
  refine Ev.bind (spec_hpSum.ev l (by omega)) ?_
  simp only [if_neg (isHeaps_ne h)]
  have := spec_hpOver.l0ev (wrap64 (Int.tdiv (wsum l 0) (l.length : Int))) l.length (by omega) l [] [] (by simp) (by simp; omega)
  simpa [overOf] using this
theorem spec_hpFlows.l0ev (n : Int) (hn : n ≤ 1048576) : ∀ (tl done : List Int) (acc : List Int) (a : Int), ((done ++ tl).length : Int) = n → (acc.length : Int) + tl.length ≤ 1048576 → Ev (fun k => spec_hpFlows.l0 k acc a (done ++ tl) n done.length) ((acc ++ psums tl a)) := by
  intro tl
  induction tl with
  | nil =>
    intro done acc a hd hs0 
    refine Ev.step (f := fun _ => some ((acc ++ psums [] a))) (fun k => ?_) (Ev.now _)
    simp only [spec_hpFlows.l0]
    simp at hd
    rw [if_neg (by omega)]
    all_goals simp [psums]
  | cons x xs ih =>
    intro done acc a hd hs0 
    have hd' : (done.length : Int) + (xs.length + 1) = n := by simpa using hd
    simp only [List.length_cons] at hs0
    have hx : rd (done ++ x :: xs) (done.length : Int) = x := by simp [rd]
    skip
    have h := ih (done ++ [x]) (acc ++ [wrap64 (a + x)]) (wrap64 (a + x)) (by simp; omega) (by simp; omega)
    have e_ : (acc ++ psums (x :: xs) a) = ((acc ++ [wrap64 (a + x)]) ++ psums xs (wrap64 (a + x))) := by simp [psums]
    rw [e_]
    refine Ev.step (f := fun k => spec_hpFlows.l0 k (acc ++ [wrap64 (a + x)]) (wrap64 (a + x)) (done ++ [x] ++ xs) n ((done ++ [x]).length : Int)) (fun k => ?_) (by simpa using h)
    simp only [spec_hpFlows.l0, hx, Option.bind_some]
    rw [if_pos (by omega), if_pos (by omega), if_pos (by simp; omega), if_pos (show acc.length < 17592186044416 by omega), w64s done.length (by omega)]
    simp
theorem spec_hpFlows.ev (l : List Int) (h : isHeaps l = true) : Ev (fun k => spec_hpFlows.f k l) (flowsOf l) := by
  have hl := isHeaps_len h
  refine Ev.bind (spec_hpOver.ev l h) ?_
  have e : wrap64 ((l.length : Int) - 1) = ((l.length - 1 : Nat) : Int) := by rw [w64 _ (by omega) (by omega)]; omega
  simp only [overOf_length, e, if_pos (show (0 : Int) ≤ ((l.length - 1 : Nat) : Int) by omega), if_pos (show ((l.length - 1 : Nat) : Int) ≤ (l.length : Int) by omega), Option.bind_some, show (((l.length - 1 : Nat) : Int)).toNat = l.length - 1 by omega]
  have hl2 : ((overOf l).take (l.length - 1)).length ≤ 1048576 := by rw [List.length_take, overOf_length]; omega
  have := spec_hpFlows.l0ev ((overOf l).take (l.length - 1)).length (by omega) ((overOf l).take (l.length - 1)) [] [] 0 (by simp) (by simp; omega)
  simpa [flowsOf] using this
theorem impl_sum.l0ev (n : Int) (hn : n ≤ 1048576) : ∀ (tl done : List Int) (a : Int), ((done ++ tl).length : Int) = n → Ev (fun k => impl_sum.l0 k a (done ++ tl) n done.length) (wsum tl a) := by
  intro tl
  induction tl with
  | nil =>
    intro done a hd
    refine Ev.step (f := fun _ => some a) (fun k => ?_) (Ev.now a)
    simp only [impl_sum.l0]
    simp at hd
    rw [if_neg (by omega)]
  | cons x xs ih =>
    intro done a hd
    have hd' : (done.length : Int) + (xs.length + 1) = n := by simpa using hd
    have hx : rd (done ++ x :: xs) (done.length : Int) = x := by simp [rd]
    have h := ih (done ++ [x]) (wrap64 (a + x)) (by simp; omega)
    refine Ev.step (f := fun k => impl_sum.l0 k (wrap64 (a + x)) (done ++ [x] ++ xs) n ((done ++ [x]).length : Int)) (fun k => ?_) (by simpa [wsum] using h)
    simp only [impl_sum.l0]
    rw [if_pos (by omega), if_pos (by omega), if_pos (by simp; omega), hx, w64s done.length (by omega)]
    simp
theorem impl_sum.ev (l : List Int) (hl : l.length ≤ 1048576) : Ev (fun k => impl_sum.f k l) (wsum l 0) := by
  have h := impl_sum.l0ev l.length (by omega) l [] 0 (by simp)
  simpa [impl_sum.f] using h
def canR (l : List Int) : Bool × Bool := (isEqual l, isHeaps l)
theorem impl_CanBeEqual.ev (l : List Int) (hl : l.length ≤ 1048576) : Ev (fun k => impl_CanBeEqual.f k l) (canR l) := by
  unfold impl_CanBeEqual.f canR isEqual
  simp only [impl_AreHeaps.is, Option.bind_some]
  by_cases h : isHeaps l = true
  · simp only [h, if_true, Bool.true_and]
    refine Ev.bind (impl_sum.ev l hl) ?_
    simp only [if_neg (isHeaps_ne h)]
    exact Ev.now _
  · simp only [Bool.not_eq_true] at h
    simp only [h, Bool.false_and]
    exact Ev.now _
theorem impl_surplus.l0ev (sh : Int) (n : Int) (hn : n ≤ 1048576) : ∀ (tl done : List Int) (acc : List Int), ((done ++ tl).length : Int) = n → (acc.length : Int) + tl.length ≤ 1048576 → Ev (fun k => impl_surplus.l0 k sh acc (done ++ tl) n done.length) ((acc ++ tl.map fun x => wrap64 (x - sh), true)) := by
  intro tl
  induction tl with
  | nil =>
    intro done acc hd hs0 
    refine Ev.step (f := fun _ => some ((acc ++ [].map fun x => wrap64 (x - sh), true))) (fun k => ?_) (Ev.now _)
    simp only [impl_surplus.l0]
    simp at hd
    rw [if_neg (by omega)]
    all_goals simp
  | cons x xs ih =>
    intro done acc hd hs0 
    have hd' : (done.length : Int) + (xs.length + 1) = n := by simpa using hd
    simp only [List.length_cons] at hs0
    have hx : rd (done ++ x :: xs) (done.length : Int) = x := by simp [rd]
    skip
    have h := ih (done ++ [x]) (acc ++ [wrap64 (x - sh)]) (by simp; omega) (by simp; omega)
    have e_ : (acc ++ (x :: xs).map fun x => wrap64 (x - sh), true) = ((acc ++ [wrap64 (x - sh)]) ++ xs.map fun x => wrap64 (x - sh), true) := by simp
    rw [e_]
    refine Ev.step (f := fun k => impl_surplus.l0 k sh (acc ++ [wrap64 (x - sh)]) (done ++ [x] ++ xs) n ((done ++ [x]).length : Int)) (fun k => ?_) (by simpa using h)
    simp only [impl_surplus.l0, hx, Option.bind_some]
    rw [if_pos (by omega), if_pos (by omega), if_pos (by simp; omega), if_pos (show acc.length < 17592186044416 by omega), w64s done.length (by omega)]
    simp
theorem impl_surplus.ev (l : List Int) (hl : l.length ≤ 1048576) : Ev (fun k => impl_surplus.f k l) (moreR l) := by
  refine Ev.bind (impl_CanBeEqual.ev l hl) ?_
  unfold canR moreR
  by_cases h : isEqual l = true
  · have hh := isEqual_heaps h
    simp only [h, hh, if_true]
    refine Ev.step (f := fun k => (impl_sum.f k l).bind fun t => impl_surplus.l0 k (wrap64 (Int.tdiv t (l.length : Int))) ([] : List Int) l (l.length : Int) 0) (fun k => ?_) ?_
    · simp only [impl_surplus.j0, Bool.not_true, Bool.false_eq_true, if_false, if_neg (isHeaps_ne hh)]
    · refine Ev.bind (impl_sum.ev l hl) ?_
      have := impl_surplus.l0ev (wrap64 (Int.tdiv (wsum l 0) (l.length : Int))) l.length (by omega) l [] [] (by simp) (by simp; omega)
      simpa [overOf] using this
  · simp only [Bool.not_eq_true] at h
    simp only [h, Bool.not_false]
    refine Ev.congr (f := fun k => impl_surplus.j0 k l true) (fun k => by split <;> rfl) ?_
    refine Ev.step (f := fun _ => some ([], false)) (fun k => ?_) (by simpa using Ev.now _)
    simp [impl_surplus.j0]
theorem impl_sumsOf.l0ev (n : Int) (hn : n ≤ 1048576) : ∀ (tl done : List Int) (acc : List Int) (a : Int), ((done ++ tl).length : Int) = n → (acc.length : Int) + tl.length ≤ 1048576 → Ev (fun k => impl_sumsOf.l0 k acc a (done ++ tl) n done.length) ((acc ++ psums tl a)) := by
  intro tl
  induction tl with
  | nil =>
    intro done acc a hd hs0 
    refine Ev.step (f := fun _ => some ((acc ++ psums [] a))) (fun k => ?_) (Ev.now _)
    simp only [impl_sumsOf.l0]
    simp at hd
    rw [if_neg (by omega)]
    all_goals simp [psums]
  | cons x xs ih =>
    intro done acc a hd hs0 
    have hd' : (done.length : Int) + (xs.length + 1) = n := by simpa using hd
    simp only [List.length_cons] at hs0
    have hx : rd (done ++ x :: xs) (done.length : Int) = x := by simp [rd]
    skip
    have h := ih (done ++ [x]) (acc ++ [wrap64 (a + x)]) (wrap64 (a + x)) (by simp; omega) (by simp; omega)
    have e_ : (acc ++ psums (x :: xs) a) = ((acc ++ [wrap64 (a + x)]) ++ psums xs (wrap64 (a + x))) := by simp [psums]
    rw [e_]
    refine Ev.step (f := fun k => impl_sumsOf.l0 k (acc ++ [wrap64 (a + x)]) (wrap64 (a + x)) (done ++ [x] ++ xs) n ((done ++ [x]).length : Int)) (fun k => ?_) (by simpa using h)
    simp only [impl_sumsOf.l0, hx, Option.bind_some]
    rw [if_pos (by omega), if_pos (by omega), if_pos (by simp; omega), if_pos (show acc.length < 17592186044416 by omega), w64s done.length (by omega)]
    simp
theorem impl_sumsOf.ev (l : List Int) (hl : l.length ≤ 1048576) : Ev (fun k => impl_sumsOf.f k l) (psums l 0) := by
  have := impl_sumsOf.l0ev l.length (by omega) l [] [] 0 (by simp) (by simp; omega)
  simpa [impl_sumsOf.f] using this
/-- All numbers less t. -/
def sh (v : List Int) (t : Int) : List Int := v.map fun m => wrap64 (m - t)
theorem sh_length (v : List Int) (t : Int) : (sh v t).length = v.length := by simp [sh]
/-- Which of two numbers is the better one to take away. -/
def pick (v : List Int) (t x : Int) : Int := if Sd v x < Sd v t then x else if Sd v x = Sd v t ∧ t < x then x else t
theorem pick_in (v : List Int) {t x : Int} (hx : -20000000 ≤ x ∧ x ≤ 20000000) (ht : -20000000 ≤ t ∧ t ≤ 20000000) : -20000000 ≤ pick v t x ∧ pick v t x ≤ 20000000 := by
  unfold pick
  split
  · exact hx
  · split
    · exact hx
    · exact ht
theorem pick_mem (v : List Int) {t x : Int} (hx : x ∈ v) (ht : t ∈ v) : pick v t x ∈ v := by
  unfold pick
  split
  · exact hx
  · split
    · exact hx
    · exact ht
def small (v : List Int) : Prop := ∀ x ∈ v, -20000000 ≤ x ∧ x ≤ 20000000
theorem sh_size {v : List Int} (hv : small v) (hl : v.length ≤ 12) (t : Int) (ht : -20000000 ≤ t ∧ t ≤ 20000000) : absSum (sh v t) 0 = Sd v t := by
  have e : sh v t = v.map fun m => m - t := by
    unfold sh
    refine List.map_congr_left (fun m hm => ?_)
    have := hv m hm
    exact w64 _ (by omega) (by omega)
  rw [e, absSum_tot _ 0 (fun y hy => by obtain ⟨m, hm, rfl⟩ := List.mem_map.mp hy; have := hv m hm; omega) (by omega) (by simp; omega), Int.zero_add]
  unfold Sd
  clear e hl hv ht
  induction v with
  | nil => rfl
  | cons x xs ih => simp only [List.map_cons, tot, ih]
theorem sh_first {v : List Int} (hv : small v) (h1 : 1 ≤ v.length) (t x : Int) (ht : -20000000 ≤ t ∧ t ≤ 20000000) (hx : -20000000 ≤ x ∧ x ≤ 20000000) : (rd (sh v x) 0 < rd (sh v t) 0) ↔ t < x := by
  match v, h1 with
  | y :: ys, _ =>
    have := hv y (by simp)
    have a : rd (sh (y :: ys) x) 0 = wrap64 (y - x) := by simp [sh, rd]
    have b : rd (sh (y :: ys) t) 0 = wrap64 (y - t) := by simp [sh, rd]
    rw [a, b, w64 (y - x) (by omega) (by omega), w64 (y - t) (by omega) (by omega)]
    omega
theorem spec_hpRing.l1ev {v : List Int} (hv : small v) (hl : v.length ≤ 12) (h1 : 1 ≤ v.length) (t x : Int) (ht : -20000000 ≤ t ∧ t ≤ 20000000) (hx : -20000000 ≤ x ∧ x ≤ 20000000) (i : Nat) (hi : i < 1000) (r : List Int)
    (h : Ev (fun k => spec_hpRing.l0 k v (sh v (pick v t x)) v (v.length : Int) ((i + 1 : Nat) : Int)) r) : ∀ (tl pre : List Int), pre ++ tl = v → Ev (fun k => spec_hpRing.l1 k v (sh v t) x (sh pre x) v (v.length : Int) i v (v.length : Int) pre.length) r := by
  intro tl
  induction tl with
  | nil =>
    intro pre hp
    obtain rfl : pre = v := by simpa using hp
    refine Ev.step (f := fun k => (spec_hpSize.f k (sh pre x)).bind fun t147 => ((spec_hpSize.f k (sh pre t)).bind fun t148 => (if t147 < t148 then (spec_hpRing.l0 k pre (sh pre x) pre (pre.length : Int) ((i + 1 : Nat) : Int)) else (if t147 = t148 then (if rd (sh pre x) 0 < rd (sh pre t) 0 then (spec_hpRing.l0 k pre (sh pre x) pre (pre.length : Int) ((i + 1 : Nat) : Int)) else (spec_hpRing.l0 k pre (sh pre t) pre (pre.length : Int) ((i + 1 : Nat) : Int))) else (spec_hpRing.l0 k pre (sh pre t) pre (pre.length : Int) ((i + 1 : Nat) : Int)))))) (fun k => ?_) ?_
    · simp only [spec_hpRing.l1, sh_length]
      rw [if_neg (by omega), w64s i (by omega)]
      simp only [if_pos (show (0 : Int) < (pre.length : Int) by omega)]
    · refine Ev.bind (spec_hpSize.ev _ (by rw [sh_length]; omega)) (Ev.bind (spec_hpSize.ev _ (by rw [sh_length]; omega)) ?_)
      rw [sh_size hv hl x hx, sh_size hv hl t ht]
      have hf := sh_first hv h1 t x ht hx
      unfold pick at h
      by_cases c : Sd pre x < Sd pre t
      · simp only [if_pos c] at h ⊢
        exact h
      · simp only [if_neg c] at h ⊢
        by_cases c2 : Sd pre x = Sd pre t
        · simp only [c2, true_and, if_true] at h ⊢
          by_cases c3 : t < x
          · simp only [if_pos c3, if_pos (hf.mpr c3)] at h ⊢
            exact h
          · simp only [if_neg c3, if_neg (fun z => c3 (hf.mp z))] at h ⊢
            exact h
        · simp only [c2, false_and, if_false] at h ⊢
          exact h
  | cons y ys ih =>
    intro pre hp
    have e := ih (pre ++ [y]) (by simpa using hp)
    have hlen : pre.length < v.length := by rw [← hp]; simp
    have hr : rd v (pre.length : Int) = y := by rw [← hp]; simp [rd]
    refine Ev.step (f := fun k => spec_hpRing.l1 k v (sh v t) x (sh (pre ++ [y]) x) v (v.length : Int) i v (v.length : Int) ((pre ++ [y]).length : Int)) (fun k => ?_) e
    simp only [spec_hpRing.l1, sh_length, hr]
    rw [if_pos (by omega), if_pos (by omega), if_pos (by omega), if_pos (by omega), w64s pre.length (by omega)]
    simp [sh]
theorem spec_hpRing.l0ev {v : List Int} (hv : small v) (hl : v.length ≤ 12) (h1 : 1 ≤ v.length) : ∀ (tl pre : List Int) (t : Int), pre ++ tl = v → (-20000000 ≤ t ∧ t ≤ 20000000) → Ev (fun k => spec_hpRing.l0 k v (sh v t) v (v.length : Int) pre.length) (sh v (tl.foldl (pick v) t)) := by
  intro tl
  induction tl with
  | nil =>
    intro pre t hp ht
    refine Ev.step (f := fun _ => some (sh v t)) (fun k => ?_) (Ev.now _)
    simp only [spec_hpRing.l0]
    rw [if_neg (by rw [← hp]; simp)]
  | cons y ys ih =>
    intro pre t hp ht
    have hy : -20000000 ≤ y ∧ y ≤ 20000000 := hv y (by rw [← hp]; simp)
    have hlen : pre.length < v.length := by rw [← hp]; simp
    have hr : rd v (pre.length : Int) = y := by rw [← hp]; simp [rd]
    have e := ih (pre ++ [y]) (pick v t y) (by simpa using hp) (pick_in v hy ht)
    rw [List.length_append, List.length_singleton] at e
    have e2 := spec_hpRing.l1ev hv hl h1 t y ht hy pre.length (by omega) _ e v [] (by simp)
    refine Ev.step (f := fun k => spec_hpRing.l1 k v (sh v t) y [] v (v.length : Int) pre.length v (v.length : Int) 0) (fun k => ?_) (by simpa [sh] using e2)
    simp only [spec_hpRing.l0, hr]
    rw [if_pos (by omega), if_pos (by omega), if_pos (by omega)]
theorem pick_best (v : List Int) : ∀ (tl : List Int) (done : List Int) (t : Int), (∀ y ∈ done, Sd v t < Sd v y ∨ (Sd v t = Sd v y ∧ y ≤ t)) → t ∈ v → (∀ y ∈ tl, y ∈ v) →
    (tl.foldl (pick v) t ∈ v ∧ ∀ y ∈ done ++ tl, Sd v (tl.foldl (pick v) t) < Sd v y ∨ (Sd v (tl.foldl (pick v) t) = Sd v y ∧ y ≤ tl.foldl (pick v) t))
  | [], done, t, h, ht, _ => ⟨ht, by simpa using h⟩
  | x :: xs, done, t, h, ht, hm => by
    have hx := hm x (by simp)
    have := pick_best v xs (done ++ [x]) (pick v t x) (fun y hy => by
      unfold pick
      rcases List.mem_append.mp hy with hy | hy
      · have := h y hy
        split
        · omega
        · split <;> omega
      · have : y = x := by simpa using hy
        subst this
        split
        · exact Or.inr ⟨rfl, Int.le_refl _⟩
        · split
          · exact Or.inr ⟨rfl, Int.le_refl _⟩
          · omega) (pick_mem v hx ht) (fun y hy => hm y (by simp [hy]))
    simpa using this
theorem impl_RingFlows.l0ev (m n : Int) (hn : n ≤ 1000) : ∀ (tl done : List Int), ((done ++ tl).length : Int) = n → Ev (fun k => impl_RingFlows.l0 k (sh done m ++ tl) m n done.length) (sh (done ++ tl) m, true) := by
  intro tl
  induction tl with
  | nil =>
    intro done hd
    refine Ev.step (f := fun _ => some (sh done m, true)) (fun k => ?_) (by simpa using Ev.now _)
    simp at hd
    simp only [impl_RingFlows.l0, List.append_nil]
    rw [if_neg (by omega)]
  | cons x xs ih =>
    intro done hd
    have hd' : (done.length : Int) + (xs.length + 1) = n := by simpa using hd
    have e := ih (done ++ [x]) (by simp; omega)
    have hr : rd (sh done m ++ x :: xs) (done.length : Int) = x := by
      have := rd_at (sh done m ++ x :: xs) done.length (by simp [sh_length])
      rw [this, List.getElem_append_right (by rw [sh_length]; omega)]
      simp [sh_length]
    refine Ev.step (f := fun k => impl_RingFlows.l0 k (sh (done ++ [x]) m ++ xs) m n ((done ++ [x]).length : Int)) (fun k => ?_) (by simpa using e)
    simp only [impl_RingFlows.l0, hr]
    rw [if_pos (by omega), if_pos (by omega), if_pos (by simp [sh_length]; omega), w64s done.length (by omega), Int.toNat_natCast, List.set_append_right _ _ (by rw [sh_length]; omega), sh_length, Nat.sub_self, List.set_cons_zero]
    congr 1
    · simp [sh]
    · simp
theorem psums_all {l : List Int} (h : isEqual l = true) : psums (overOf l) 0 = flowsOf l ++ [0] ∧ small (flowsOf l ++ [0]) := by
  have hh := isHeaps_len (isEqual_heaps h)
  have hp : (psums (overOf l) 0).length = l.length := by rw [psums_length, overOf_length]
  have e1 := psums_take (l.length - 1) (overOf l) 0
  have e2 : (psums (overOf l) 0).drop (l.length - 1) = [0] := by
    rw [List.drop_eq_getElem_cons (by omega), List.drop_eq_nil_of_le (by omega)]
    have := psums_rd (overOf l) 0 (l.length - 1) (by rw [overOf_length]; omega) (fun j hj => by have := pre_bound h j; unfold pre at this; omega)
    rw [rd_at _ _ (by omega)] at this
    rw [this]
    have z := pre_all h
    unfold pre at z
    rw [show l.length - 1 + 1 = l.length by omega, z]
    rfl
  refine ⟨?_, ?_⟩
  · rw [← List.take_append_drop (l.length - 1) (psums (overOf l) 0), e1, e2]
    rfl
  · intro x hx
    rcases List.mem_append.mp hx with hx | hx
    · obtain ⟨i, hi, e⟩ := mem_rd hx
      rw [flowsOf_length] at hi
      rw [flows_rd h i hi] at e
      have := pre_bound h (i + 1)
      omega
    · have : x = 0 := by simpa using hx
      omega
/-- Both tell the same flows around a ring. -/
theorem both_ring {l : List Int} (h : isEqual l = true) : ∃ m : Int, m ∈ flowsOf l ++ [0] ∧ (∀ x, Sd (flowsOf l ++ [0]) m ≤ Sd (flowsOf l ++ [0]) x) ∧ Ev (fun k => spec_hpRing.f k l) (sh (flowsOf l ++ [0]) m) ∧ Ev (fun k => impl_RingFlows.f k l) (sh (flowsOf l ++ [0]) m, true) := by
  have hh := isHeaps_len (isEqual_heaps h)
  have hf := flowsOf_length l
  obtain ⟨ep, hv⟩ := psums_all h
  generalize hV : flowsOf l ++ [0] = v at ep hv
  have hlv : v.length = l.length := by rw [← hV]; simp [hf]; omega
  have h0 : (0 : Int) ∈ v := by rw [← hV]; simp
  obtain ⟨r, hr, er⟩ := sorted.ev v (by omega) (by omega)
  have med := median hr (by omega)
  generalize hm : rd r ((v.length / 2 : Nat) : Int) = m at med
  have hmem : m ∈ v := by rw [← hm]; exact hr.mem _ (rd_mem (by rw [hr.len]; omega))
  obtain ⟨b1, b2⟩ := pick_best v v [] 0 (fun y hy => by simp at hy) h0 (fun y hy => hy)
  have hpk : v.foldl (pick v) 0 = m := by
    have c1 := b2 m (by simpa using hmem)
    have c2 := med (v.foldl (pick v) 0)
    rcases Int.lt_trichotomy m (v.foldl (pick v) 0) with hx | hx | hx
    · have := c2.1 hx; omega
    · exact hx.symm
    · omega
  refine ⟨m, hmem, fun x => (med x).2, ?_, ?_⟩
  · have e := spec_hpRing.l0ev hv (by omega) (by omega) v [] 0 (by simp) (by omega)
    rw [hpk] at e
    refine Ev.bind (spec_hpFlows.ev l (isEqual_heaps h)) ?_
    rw [hV]
    unfold spec_l1Own.f
    have hs : sh v 0 = v := by
      unfold sh
      conv => rhs; rw [← List.map_id v]
      refine List.map_congr_left (fun y hy => ?_)
      have := hv y hy
      rw [w64 (y - 0) (by omega) (by omega)]; simp
    simp only [if_pos (show (flowsOf l).length < 17592186044416 by omega), Option.bind_some, List.nil_append]
    have hlt : ([] : List Int).length + v.length < 17592186044416 := by simp; omega
    simp only [if_pos hlt, Option.bind_some]
    rw [hs] at e
    simpa using e
  · refine Ev.bind (impl_surplus.ev l (by omega)) ?_
    unfold moreR
    simp only [h, if_true]
    refine Ev.bind (impl_sumsOf.ev (overOf l) (by rw [overOf_length]; omega)) ?_
    rw [ep]
    refine Ev.bind er ?_
    have hd : wrap64 ((r.length : Int) / 2) = ((v.length / 2 : Nat) : Int) := by rw [hr.len, w64 _ (by omega) (by omega)]; omega
    simp only [hd, hm, if_pos (show (0 : Int) ≤ ((v.length / 2 : Nat) : Int) by omega), if_pos (show ((v.length / 2 : Nat) : Int) < (r.length : Int) by rw [hr.len]; omega)]
    have e := impl_RingFlows.l0ev m v.length (by omega) v [] (by simp)
    simpa [sh] using e
theorem impl_size.is (x : Int) : impl_size.f x = some (absw x) := rfl
theorem impl_sizes.l0ev (n : Int) (hn : n ≤ 1048576) : ∀ (tl done : List Int) (a : Int), ((done ++ tl).length : Int) = n → Ev (fun k => impl_sizes.l0 k a (done ++ tl) n done.length) ((absSum tl a)) := by
  intro tl
  induction tl with
  | nil =>
    intro done a hd  
    refine Ev.step (f := fun _ => some ((absSum [] a))) (fun k => ?_) (Ev.now _)
    simp only [impl_sizes.l0]
    simp at hd
    rw [if_neg (by omega)]
    all_goals simp [absSum]
  | cons x xs ih =>
    intro done a hd  
    have hd' : (done.length : Int) + (xs.length + 1) = n := by simpa using hd
    skip
    have hx : rd (done ++ x :: xs) (done.length : Int) = x := by simp [rd]
    skip
    have h := ih (done ++ [x]) (wrap64 (a + absw x)) (by simp; omega) 
    have e_ : (absSum (x :: xs) a) = (absSum xs (wrap64 (a + absw x))) := by simp [absSum]
    rw [e_]
    refine Ev.step (f := fun k => impl_sizes.l0 k (wrap64 (a + absw x)) (done ++ [x] ++ xs) n ((done ++ [x]).length : Int)) (fun k => ?_) (by simpa using h)
    simp only [impl_sizes.l0, hx, impl_size.is, Option.bind_some]
    rw [if_pos (by omega), if_pos (by omega), if_pos (by simp; omega), w64s done.length (by omega)]
    simp
theorem impl_sizes.ev (l : List Int) (hl : l.length ≤ 1048576) : Ev (fun k => impl_sizes.f k l) (absSum l 0) := by
  have := impl_sizes.l0ev l.length (by omega) l [] 0 (by simp)
  simpa [impl_sizes.f] using this
theorem both_RingDistance (l : List Int) (hl : l.length ≤ 1048576) : ∃ v : Int × Bool, Ev (fun k => spec_RingDistance.f k l) v ∧ Ev (fun k => impl_RingDistance.f k l) v := by
  by_cases h : isEqual l = true
  · obtain ⟨m, hm, _, e1, e2⟩ := both_ring h
    have hh := isHeaps_len (isEqual_heaps h)
    have hf := flowsOf_length l
    have hsl : (sh (flowsOf l ++ [0]) m).length ≤ 1048576 := by rw [sh_length]; simp; omega
    refine ⟨(absSum (sh (flowsOf l ++ [0]) m) 0, true), Ev.bind (spec_hpEqual.ev l hl) ?_, Ev.bind e2 (Ev.bind (impl_sizes.ev _ hsl) (Ev.now _))⟩
    simp only [h, if_true]
    by_cases c : (l.length : Int) = 1
    · have hn : flowsOf l = [] := List.eq_nil_of_length_eq_zero (by omega)
      rw [hn] at hm ⊢
      have hm0 : m = 0 := by simpa using hm
      have e0 : absSum (sh ([] ++ [0]) m) 0 = 0 := by
        rw [hm0]
        show wrap64 (0 + absw (wrap64 (0 - 0))) = 0
        rw [w64 (0 - 0) (by omega) (by omega), absw_is (by omega) (by omega), w64 _ (by omega) (by omega)]
        omega
      rw [e0]
      simp only [if_pos c]
      exact Ev.now _
    · simp only [if_neg c]
      exact Ev.bind e1 (Ev.bind (spec_hpSize.ev _ hsl) (Ev.now _))
  · refine ⟨(0, false), Ev.bind (spec_hpEqual.ev l hl) ?_, Ev.bind (a := ([], false)) (Ev.bind (impl_surplus.ev l hl) ?_) (Ev.bind (impl_sizes.ev [] (by simp)) (Ev.now _))⟩
    · simp only [h]
      exact Ev.now _
    · unfold moreR
      simp only [h]
      exact Ev.now _
theorem FnExactRingDistance : laws_FnExactRingDistance.Pure := by
  intro l _ _ _
  by_cases hl : (l.length : Int) > 1048576
  · exact ⟨0, by unfold laws_FnExactRingDistance.f; rw [if_pos hl]⟩
  obtain ⟨K1, h1⟩ := laws_toIntS.ev l (by omega)
  obtain ⟨⟨v, w⟩, ⟨K2, h2⟩, ⟨K3, h3⟩⟩ := both_RingDistance l (by omega)
  obtain ⟨K4, h4⟩ := laws_eqIntS.ev l (by omega)
  dsimp only at h1 h2 h3 h4
  refine ⟨K1 + K2 + K3 + K4 + 1, ?_⟩
  simp (disch := omega) only [laws_FnExactRingDistance.f, if_neg hl, h1, h2, h3, h4, Option.bind_some, bne_self_eq_false, Bool.false_eq_true, if_true, if_false]
  simp (disch := omega) only [laws_FnExactRingDistance.j0, h1, h4, Option.bind_some, Bool.false_eq_true, if_true, if_false]

end Go.Proofs.Ytdhhphngabamoaa.Pure
