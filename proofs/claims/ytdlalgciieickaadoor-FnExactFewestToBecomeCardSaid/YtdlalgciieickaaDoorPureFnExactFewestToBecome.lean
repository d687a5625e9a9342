/- The program's FewestToBecome returns what the reference's returns, for all arguments. It has no conditions. -/
import Derived.Test.YtdlalgciieickaaDoorPFnExactFewestToBecomex7
namespace Go.Proofs.YtdlalgciieickaaDoor.Pure
open Go.RowKit Go.Proofs.YtdlalgciieickaaDoor.PFnExactFewestToBecome Go.Proofs.YtdlalgciieickaaDoorW.PrintWords Go.Proofs.YtdlalgciieickaaDoorW.PrintLast
set_option linter.unusedVariables false
set_option linter.unusedSimpArgs false

/-! ### small words -/
theorem w64 (n : Int) (h1 : -9223372036854775808 ≤ n) (h2 : n ≤ 9223372036854775807) : wrap64 n = n := by unfold wrap64; omega
theorem w64s (i : Nat) (h : i < 9223372036854775807) : wrap64 ((i : Int) + 1) = ((i + 1 : Nat) : Int) := by unfold wrap64; omega
theorem rd_at (l : List Int) (i : Nat) (h : i < l.length) : rd l (i : Int) = l[i] := by simp [rd, List.getD_eq_getElem?_getD, List.getElem?_eq_getElem h]
theorem wf64 {x : Int} (h : (Lit.int .i64 x).wf = true) : -9223372036854775808 ≤ x ∧ x ≤ 9223372036854775807 := by
  simp [Lit.wf, IntKind.min, IntKind.max, IntKind.bits, IntKind.signed] at h
  omega
/-! ### copies, marks -/
theorem laws_toIntS.l0ev (l : List Int) (hl : l.length ≤ 1048576) (d : Nat) : ∀ i, i + d = l.length → Ev (fun k => laws_toIntS.l0 k l (l.take i ++ List.replicate d 0) i) l := by
  induction d with
  | zero =>
    intro i hi
    refine Ev.step (f := fun _ => some l) (fun k => ?_) (Ev.now _)
    simp only [laws_toIntS.l0]
    rw [if_neg (by omega)]
    simp [List.take_of_length_le (show l.length ≤ i by omega)]
  | succ d ih =>
    intro i hi
    refine Ev.step (f := fun k => laws_toIntS.l0 k l (l.take (i + 1) ++ List.replicate d 0) ((i + 1 : Nat) : Int)) (fun k => ?_) (ih (i + 1) (by omega))
    simp only [laws_toIntS.l0]
    rw [if_pos (by omega), if_pos (by omega), if_pos (by simp; omega), w64s i (by omega), rd_at l i (by omega)]
    congr 1
    rw [show ((i : Int)).toNat = i by omega, List.set_append_right _ _ (by simp; omega), List.replicate_succ, List.length_take, show i - min i l.length = 0 by omega, List.set_cons_zero, List.take_succ_eq_append_getElem (show i < l.length by omega)]
    simp only [List.append_assoc, List.cons_append, List.nil_append]
theorem laws_toIntS.ev (l : List Int) (hl : l.length ≤ 1048576) : Ev (fun k => laws_toIntS.f k l) l := by
  have h := laws_toIntS.l0ev l hl l.length 0 (by omega)
  unfold laws_toIntS.f
  simp only [if_pos (show (0 : Int) ≤ (l.length : Int) by omega), if_pos (show (l.length : Int).toNat ≤ 35184372088832 by omega)]
  simpa using h
theorem laws_eqIntS.l0ev (l : List Int) (hl : l.length ≤ 1048576) (d : Nat) : ∀ i, i + d = l.length → Ev (fun k => laws_eqIntS.l0 k l l i) true := by
  induction d with
  | zero =>
    intro i hi
    refine Ev.step (f := fun _ => some true) (fun k => ?_) (Ev.now _)
    simp only [laws_eqIntS.l0]
    rw [if_neg (by omega)]
  | succ d ih =>
    intro i hi
    refine Ev.step (f := fun k => laws_eqIntS.l0 k l l ((i + 1 : Nat) : Int)) (fun k => ?_) (ih (i + 1) (by omega))
    simp only [laws_eqIntS.l0]
    rw [if_pos (by omega), if_pos (by omega), if_pos (by omega), if_pos trivial, w64s i (by omega)]
theorem laws_eqIntS.ev (l : List Int) (hl : l.length ≤ 1048576) : Ev (fun k => laws_eqIntS.f k l l) true := by
  unfold laws_eqIntS.f
  simp only [if_true]
  exact laws_eqIntS.l0ev l hl l.length 0 (by omega)
theorem spec_l1In.is (x a b : Int) : spec_l1In.f x a b = some (decide (a ≤ x) && decide (x ≤ b)) := by
  unfold spec_l1In.f
  by_cases h : x ≥ a
  · simp [h, show a ≤ x from h]
  · simp [h, show ¬ a ≤ x from h]
def allIn (l : List Int) (a b : Int) : Bool := l.all fun x => decide (a ≤ x) && decide (x ≤ b)
theorem spec_l1All.l0ev (a b : Int) (n : Int) (hn : n ≤ 1048576) : ∀ (tl done : List Int), ((done ++ tl).length : Int) = n → Ev (fun k => spec_l1All.l0 k a b (done ++ tl) n done.length) (allIn tl a b) := by
  intro tl
  induction tl with
  | nil =>
    intro done hd
    refine Ev.step (f := fun _ => some true) (fun k => ?_) (Ev.now _)
    simp only [spec_l1All.l0]
    simp at hd
    rw [if_neg (by omega)]
  | cons x xs ih =>
    intro done hd
    have hd' : (done.length : Int) + (xs.length + 1) = n := by simpa using hd
    have hx : rd (done ++ x :: xs) (done.length : Int) = x := by simp [rd]
    by_cases hp : (decide (a ≤ x) && decide (x ≤ b)) = true
    · have h := ih (done ++ [x]) (by simp; omega)
      refine Ev.step (f := fun k => spec_l1All.l0 k a b (done ++ [x] ++ xs) n ((done ++ [x]).length : Int)) (fun k => ?_) ?_
      · simp only [spec_l1All.l0]
        rw [if_pos (by omega), if_pos (by omega), if_pos (by simp; omega), hx, spec_l1In.is, hp]
        simp only [Option.bind_some, if_true]
        rw [w64s done.length (by omega)]
        simp
      · rw [show allIn (x :: xs) a b = allIn xs a b by simp [allIn] at hp ⊢; simp [hp]]
        exact h
    · refine Ev.step (f := fun _ => some false) (fun k => ?_) (by rw [show allIn (x :: xs) a b = false by simp [allIn] at hp ⊢; intro h1 h2; exact absurd (hp h1) (by omega)]; exact Ev.now _)
      simp only [spec_l1All.l0]
      rw [if_pos (by omega), if_pos (by omega), if_pos (by simp; omega), hx, spec_l1In.is]
      simp only [Option.bind_some]
      rw [if_neg hp]
theorem spec_l1All.ev (l : List Int) (a b : Int) (hl : l.length ≤ 1048576) : Ev (fun k => spec_l1All.f k l a b) (allIn l a b) := by
  have h := spec_l1All.l0ev a b l.length (by omega) l [] (by simp)
  simpa [spec_l1All.f] using h
theorem impl_within.is (x a b : Int) : impl_within.f x a b = some (decide (a ≤ x) && decide (x ≤ b)) := by
  unfold impl_within.f
  by_cases h : x ≥ a
  · simp [h, show a ≤ x from h]
  · simp [h, show ¬ a ≤ x from h]
def isHeaps (l : List Int) : Bool := (decide (1 ≤ (l.length : Int)) && decide ((l.length : Int) ≤ 12)) && allIn l 0 1000
theorem spec_hpGood.ev (l : List Int) (hl : l.length ≤ 1048576) : Ev (fun k => spec_hpGood.f k l) (isHeaps l) := by
  unfold spec_hpGood.f isHeaps
  simp only [spec_l1In.is, Option.bind_some]
  by_cases h : (decide (1 ≤ (l.length : Int)) && decide ((l.length : Int) ≤ 12)) = true
  · simp only [h, if_true, Bool.true_and]
    exact Ev.bind (spec_l1All.ev l 0 1000 hl) (Ev.now _)
  · simp only [h]
    simpa using Ev.now false
theorem impl_AreHeaps.is (l : List Int) : impl_AreHeaps.f l = some (isHeaps l) := by
  unfold impl_AreHeaps.f isHeaps impl_areIn.f allIn
  simp only [impl_within.is, Option.bind_some]
  by_cases h : (decide (1 ≤ (l.length : Int)) && decide ((l.length : Int) ≤ 12)) = true
  · simp only [h, if_true, Bool.true_and]
  · simp only [h]
    simp
/-- The sum as the machine makes it. -/
def wsum : List Int → Int → Int
  | [], a => a
  | x :: xs, a => wsum xs (wrap64 (a + x))
theorem spec_hpSum.l0ev (n : Int) (hn : n ≤ 1048576) : ∀ (tl done : List Int) (a : Int), ((done ++ tl).length : Int) = n → Ev (fun k => spec_hpSum.l0 k a (done ++ tl) n done.length) (wsum tl a) := by
  intro tl
  induction tl with
  | nil =>
    intro done a hd
    refine Ev.step (f := fun _ => some a) (fun k => ?_) (Ev.now a)
    simp only [spec_hpSum.l0]
    simp at hd
    rw [if_neg (by omega)]
  | cons x xs ih =>
    intro done a hd
    have hd' : (done.length : Int) + (xs.length + 1) = n := by simpa using hd
    have hx : rd (done ++ x :: xs) (done.length : Int) = x := by simp [rd]
    have h := ih (done ++ [x]) (wrap64 (a + x)) (by simp; omega)
    refine Ev.step (f := fun k => spec_hpSum.l0 k (wrap64 (a + x)) (done ++ [x] ++ xs) n ((done ++ [x]).length : Int)) (fun k => ?_) (by simpa [wsum] using h)
    simp only [spec_hpSum.l0]
    rw [if_pos (by omega), if_pos (by omega), if_pos (by simp; omega), hx, w64s done.length (by omega)]
    simp
theorem spec_hpSum.ev (l : List Int) (hl : l.length ≤ 1048576) : Ev (fun k => spec_hpSum.f k l) (wsum l 0) := by
  have h := spec_hpSum.l0ev l.length (by omega) l [] 0 (by simp)
  simpa [spec_hpSum.f] using h
theorem impl_sum.l0ev (n : Int) (hn : n ≤ 1048576) : ∀ (tl done : List Int) (a : Int), ((done ++ tl).length : Int) = n → Ev (fun k => impl_sum.l0 k a (done ++ tl) n done.length) (wsum tl a) := by
  intro tl
  induction tl with
  | nil =>
    intro done a hd
    refine Ev.step (f := fun _ => some a) (fun k => ?_) (Ev.now a)
    simp only [impl_sum.l0]
    simp at hd
    rw [if_neg (by omega)]
  | cons x xs ih =>
    intro done a hd
    have hd' : (done.length : Int) + (xs.length + 1) = n := by simpa using hd
    have hx : rd (done ++ x :: xs) (done.length : Int) = x := by simp [rd]
    have h := ih (done ++ [x]) (wrap64 (a + x)) (by simp; omega)
    refine Ev.step (f := fun k => impl_sum.l0 k (wrap64 (a + x)) (done ++ [x] ++ xs) n ((done ++ [x]).length : Int)) (fun k => ?_) (by simpa [wsum] using h)
    simp only [impl_sum.l0]
    rw [if_pos (by omega), if_pos (by omega), if_pos (by simp; omega), hx, w64s done.length (by omega)]
    simp
theorem impl_sum.ev (l : List Int) (hl : l.length ≤ 1048576) : Ev (fun k => impl_sum.f k l) (wsum l 0) := by
  have h := impl_sum.l0ev l.length (by omega) l [] 0 (by simp)
  simpa [impl_sum.f] using h
def isFew (l : List Int) : Bool := isHeaps l && ((decide (2 ≤ (l.length : Int)) && decide ((l.length : Int) ≤ 4)) && (decide (1 ≤ wsum l 0) && decide (wsum l 0 ≤ 40)))
theorem spec_dbGood.ev (l : List Int) (hl : l.length ≤ 1048576) : Ev (fun k => spec_dbGood.f k l) (isFew l) := by
  unfold spec_dbGood.f isFew
  simp only [spec_l1In.is, Option.bind_some]
  by_cases h2 : (decide (2 ≤ (l.length : Int)) && decide ((l.length : Int) ≤ 4)) = true
  · simp only [h2, if_true, Bool.true_and]
    refine Ev.bind (spec_hpGood.ev l hl) ?_
    by_cases h : isHeaps l = true
    · simp only [h, if_true, Bool.true_and]
      exact Ev.bind (spec_hpSum.ev l hl) (Ev.now _)
    · simp only [Bool.not_eq_true] at h
      simp only [h, Bool.false_and]
      exact Ev.now _
  · simp only [Bool.not_eq_true] at h2
    simp only [h2, Bool.false_and, Bool.and_false]
    exact Ev.now _
theorem impl_AreFewHeaps.ev (l : List Int) (hl : l.length ≤ 1048576) : Ev (fun k => impl_AreFewHeaps.f k l) (isFew l) := by
  unfold impl_AreFewHeaps.f isFew
  simp only [impl_AreHeaps.is, impl_within.is, Option.bind_some]
  by_cases h : isHeaps l = true
  · simp only [h, if_true, Bool.true_and]
    by_cases h2 : (decide (2 ≤ (l.length : Int)) && decide ((l.length : Int) ≤ 4)) = true
    · simp only [h2, if_true, Bool.true_and]
      exact Ev.bind (impl_sum.ev l hl) (Ev.now _)
    · simp only [Bool.not_eq_true] at h2
      simp only [h2, Bool.false_and]
      exact Ev.now _
  · simp only [Bool.not_eq_true] at h
    simp only [h, Bool.false_and]
    exact Ev.now _
/-- The sum of a list's values under f. -/
def tot (f : Int → Int) : List Int → Int
  | [] => 0
  | x :: xs => f x + tot f xs
theorem rd_set_eq (v : List Int) (i : Nat) (x : Int) (h : i < v.length) : rd (v.set i x) (i : Int) = x := by
  simp [rd, List.getD_eq_getElem?_getD, h]
theorem rd_set_neN (v : List Int) (i j : Nat) (x : Int) (h : i ≠ j) : rd (v.set i x) (j : Int) = rd v (j : Int) := by
  simp [rd, List.getD_eq_getElem?_getD, List.getElem?_set_ne h]
theorem rd_cons_succ (y : Int) (ys : List Int) (i : Nat) : rd (y :: ys) ((i + 1 : Nat) : Int) = rd ys (i : Int) := by
  unfold rd
  rw [show (((i + 1 : Nat) : Int)).toNat = i + 1 by omega, show ((i : Int)).toNat = i by omega]
  simp
theorem tot_set (f : Int → Int) : ∀ (v : List Int) (i : Nat) (x : Int), i < v.length → tot f (v.set i x) = tot f v - f (rd v (i : Int)) + f x
  | [], i, x, h => by simp at h
  | y :: ys, 0, x, h => by simp [tot, rd]; omega
  | y :: ys, i + 1, x, h => by
    have := tot_set f ys i x (by simpa using h)
    rw [List.set_cons_succ, tot, tot, this, rd_cons_succ]
    omega
theorem mem_rd {v : List Int} {x : Int} (h : x ∈ v) : ∃ a : Nat, a < v.length ∧ rd v (a : Int) = x := by
  obtain ⟨a, ha, e⟩ := List.mem_iff_getElem.mp h
  exact ⟨a, ha, by rw [rd_at v a ha, e]⟩
theorem rd_mem {v : List Int} {a : Nat} (h : a < v.length) : rd v (a : Int) ∈ v := by
  rw [rd_at v a h]; exact List.getElem_mem h
theorem tot_nonpos : ∀ (v : List Int), (∀ x ∈ v, x ≤ 0) → tot id v ≤ 0 ∧ (tot id v = 0 → ∀ x ∈ v, x = 0)
  | [], _ => ⟨by simp [tot], by simp⟩
  | y :: ys, h => by
    have h1 := tot_nonpos ys (fun x hx => h x (by simp [hx]))
    have h2 := h y (by simp)
    constructor
    · simp only [tot, id]; omega
    · intro e
      simp only [tot, id] at e
      intro x hx
      rcases List.mem_cons.mp hx with rfl | hx
      · omega
      · exact h1.2 (by omega) x hx
theorem tot_nonneg : ∀ (v : List Int), (∀ x ∈ v, 0 ≤ x) → 0 ≤ tot id v ∧ (tot id v = 0 → ∀ x ∈ v, x = 0)
  | [], _ => ⟨by simp [tot], by simp⟩
  | y :: ys, h => by
    have h1 := tot_nonneg ys (fun x hx => h x (by simp [hx]))
    have h2 := h y (by simp)
    constructor
    · simp only [tot, id]; omega
    · intro e
      simp only [tot, id] at e
      intro x hx
      rcases List.mem_cons.mp hx with rfl | hx
      · omega
      · exact h1.2 (by omega) x hx
theorem tot_bound (f : Int → Int) (B : Int) : ∀ (v : List Int), (∀ x ∈ v, -B ≤ f x ∧ f x ≤ B) → -(B * v.length) ≤ tot f v ∧ tot f v ≤ B * v.length
  | [], _ => by simp [tot]
  | y :: ys, h => by
    have h1 := tot_bound f B ys (fun x hx => h x (by simp [hx]))
    have h2 := h y (by simp)
    simp only [tot, List.length_cons]
    have e : B * ((ys.length + 1 : Nat) : Int) = B * ys.length + B := by rw [Int.natCast_add, Int.mul_add]; simp
    omega
/-- Whether a doubling can be made. -/
def canD (l : List Int) (f t : Int) : Bool := decide (0 ≤ f) && decide (f ≤ (l.length : Int) - 1) && decide (0 ≤ t) && decide (t ≤ (l.length : Int) - 1) && decide (f ≠ t) && decide (rd l t > 0) && decide (rd l f ≥ rd l t)
theorem canD_in {l : List Int} {f t : Int} (h : canD l f t = true) : 0 ≤ f ∧ f < (l.length : Int) ∧ 0 ≤ t ∧ t < (l.length : Int) ∧ f ≠ t ∧ rd l t > 0 ∧ rd l f ≥ rd l t := by
  simp [canD] at h
  omega
/-- The heaps behind a doubling. -/
def dMade (l : List Int) (f t : Int) : List Int := (l.set f.toNat (wrap64 (rd l f - rd l t))).set t.toNat (wrap64 (2 * rd l t))
theorem dMade_length (l : List Int) (f t : Int) : (dMade l f t).length = l.length := by simp [dMade]
/-- Heaps of n places with s stones. -/
def St (n : Nat) (s : Int) (l : List Int) : Prop := l.length = n ∧ (∀ x ∈ l, 0 ≤ x) ∧ tot id l = s
theorem tot_ge : ∀ {l : List Int}, (∀ x ∈ l, 0 ≤ x) → ∀ x ∈ l, x ≤ tot id l
  | [], _, x, hx => by cases hx
  | y :: ys, h, x, hx => by
    have h0 := (tot_nonneg ys (fun z hz => h z (by simp [hz]))).1
    have hy := h y (by simp)
    simp only [tot, id]
    rcases List.mem_cons.mp hx with rfl | hx
    · omega
    · have := tot_ge (fun z hz => h z (by simp [hz])) x hx
      omega
theorem wsum_tot : ∀ (l : List Int) (a : Int), (∀ x ∈ l, 0 ≤ x ∧ x ≤ 1000) → 0 ≤ a → a + 1000 * l.length ≤ 1000000000 → wsum l a = a + tot id l
  | [], a, _, _, _ => by simp [wsum, tot]
  | x :: xs, a, h, ha, hb => by
    have hx := h x (by simp)
    simp only [List.length_cons] at hb
    rw [wsum, w64 _ (by omega) (by omega), wsum_tot xs (a + x) (fun z hz => h z (by simp [hz])) (by omega) (by omega)]
    simp only [tot, id]
    omega
theorem few_st {l : List Int} (h : isFew l = true) : 2 ≤ l.length ∧ l.length ≤ 4 ∧ ∃ s, 1 ≤ s ∧ s ≤ 40 ∧ St l.length s l := by
  simp [isFew, isHeaps, allIn] at h
  obtain ⟨⟨_, h1⟩, ⟨h2, h3⟩, h4, h5⟩ := h
  have h1' : ∀ x ∈ l, 0 ≤ x ∧ x ≤ 1000 := fun x hx => by have := h1 x hx; omega
  have e := wsum_tot l 0 h1' (by omega) (by omega)
  exact ⟨by omega, by omega, wsum l 0, h4, h5, rfl, fun x hx => (h1' x hx).1, by omega⟩
theorem St.le {n : Nat} {s : Int} {l : List Int} (h : St n s l) : ∀ x ∈ l, 0 ≤ x ∧ x ≤ s := fun x hx => ⟨h.2.1 x hx, h.2.2 ▸ tot_ge h.2.1 x hx⟩
theorem St.made {n : Nat} {s : Int} {l : List Int} (h : St n s l) (hs : s ≤ 40) {f t : Int} (c : canD l f t = true) : St n s (dMade l f t) := by
  obtain ⟨h1, h2, h3, h4, h5, h6, h7⟩ := canD_in c
  obtain ⟨f, rfl⟩ := Int.eq_ofNat_of_zero_le h1
  obtain ⟨t, rfl⟩ := Int.eq_ofNat_of_zero_le h3
  have hf := h.le _ (rd_mem (v := l) (a := f) (by omega))
  have ht := h.le _ (rd_mem (v := l) (a := t) (by omega))
  have e1 : wrap64 (rd l f - rd l t) = rd l f - rd l t := w64 _ (by omega) (by omega)
  have e2 : wrap64 (2 * rd l t) = 2 * rd l t := w64 _ (by omega) (by omega)
  unfold dMade
  rw [e1, e2, show ((f : Int)).toNat = f by omega, show ((t : Int)).toNat = t by omega]
  refine ⟨by simp [h.1], fun x hx => ?_, ?_⟩
  · obtain ⟨a, ha, rfl⟩ := mem_rd hx
    simp only [List.length_set] at ha
    by_cases et : a = t
    · subst et
      rw [rd_set_eq _ _ _ (by simpa using ha)]
      omega
    · rw [rd_set_neN _ _ _ _ (fun e => et e.symm)]
      by_cases ef : a = f
      · subst ef
        rw [rd_set_eq _ _ _ ha]
        omega
      · rw [rd_set_neN _ _ _ _ (fun e => ef e.symm)]
        exact (h.le _ (rd_mem ha)).1
  · rw [tot_set _ _ _ _ (by simp; omega), tot_set _ _ _ _ (by omega), rd_set_neN _ _ _ _ (by omega)]
    have := h.2.2
    simp only [id]
    omega
/-! numbers of heaps -/
def num : List Int → Int → Int
  | [], a => a
  | x :: xs, a => num xs (a * 41 + x)
theorem num_le : ∀ (l : List Int) (a : Int) (d : Nat), (∀ x ∈ l, 0 ≤ x ∧ x ≤ 40) → 0 ≤ a → a < (41 : Int) ^ d → 0 ≤ num l a ∧ num l a < (41 : Int) ^ (d + l.length)
  | [], a, d, _, h0, h1 => ⟨h0, h1⟩
  | x :: xs, a, d, h, h0, h1 => by
    have hx := h x (by simp)
    have := num_le xs (a * 41 + x) (d + 1) (fun z hz => h z (by simp [hz])) (by omega) (by rw [Int.pow_succ]; omega)
    simpa [num, Nat.add_assoc, Nat.add_comm 1] using this
theorem num_inj : ∀ (l m : List Int) (a b : Int), l.length = m.length → (∀ x ∈ l, 0 ≤ x ∧ x ≤ 40) → (∀ x ∈ m, 0 ≤ x ∧ x ≤ 40) → num l a = num m b → l = m ∧ a = b
  | [], [], a, b, _, _, _, e => ⟨rfl, e⟩
  | [], _ :: _, _, _, hl, _, _, _ => by simp at hl
  | _ :: _, [], _, _, hl, _, _, _ => by simp at hl
  | x :: xs, y :: ys, a, b, hl, hx, hy, e => by
    obtain ⟨e1, e2⟩ := num_inj xs ys _ _ (by simpa using hl) (fun z hz => hx z (by simp [hz])) (fun z hz => hy z (by simp [hz])) e
    have h1 := hx x (by simp)
    have h2 := hy y (by simp)
    have : a = b ∧ x = y := by omega
    exact ⟨by rw [e1, this.2], this.1⟩
theorem pow41 {d : Nat} (h : d ≤ 4) : (1 : Int) ≤ (41 : Int) ^ d ∧ (41 : Int) ^ d ≤ 2825761 := by
  match d, h with
  | 0, _ => decide
  | 1, _ => decide
  | 2, _ => decide
  | 3, _ => decide
  | 4, _ => decide
theorem spec_dbNumber.l0ev (n : Int) (hn : n ≤ 4) : ∀ (tl done : List Int) (a : Int), ((done ++ tl).length : Int) = n → (∀ x ∈ tl, 0 ≤ x ∧ x ≤ 40) → 0 ≤ a → a < (41 : Int) ^ done.length → Ev (fun k => spec_dbNumber.l0 k a (done ++ tl) n done.length) (num tl a) := by
  intro tl
  induction tl with
  | nil =>
    intro done a hd _ _ _
    refine Ev.step (f := fun _ => some a) (fun k => ?_) (Ev.now a)
    simp only [spec_dbNumber.l0]
    simp at hd
    rw [if_neg (by omega)]
  | cons x xs ih =>
    intro done a hd hx h0 h1
    have hd' : (done.length : Int) + (xs.length + 1) = n := by simpa using hd
    have e : rd (done ++ x :: xs) (done.length : Int) = x := by simp [rd]
    have hx1 := hx x (by simp)
    have p := pow41 (show done.length ≤ 4 by omega)
    have h := ih (done ++ [x]) (a * 41 + x) (by simp; omega) (fun z hz => hx z (by simp [hz])) (by omega) (by simp only [List.length_append, List.length_singleton, Int.pow_succ]; omega)
    refine Ev.step (f := fun k => spec_dbNumber.l0 k (a * 41 + x) (done ++ [x] ++ xs) n ((done ++ [x]).length : Int)) (fun k => ?_) (by simpa [num] using h)
    simp only [spec_dbNumber.l0]
    rw [if_pos (by omega), if_pos (by omega), if_pos (by simp; omega), e, w64s done.length (by omega), w64 (a * 41) (by omega) (by omega), w64 (a * 41 + x) (by omega) (by omega)]
    simp
theorem spec_dbNumber.ev {n : Nat} {s : Int} {l : List Int} (h : St n s l) (hn : n ≤ 4) (hs : s ≤ 40) : Ev (fun k => spec_dbNumber.f k l) (num l 0) := by
  have hl := h.1
  have := spec_dbNumber.l0ev l.length (by omega) l [] 0 (by simp) (fun x hx => by have := h.le x hx; omega) (by omega) (by simp)
  simpa [spec_dbNumber.f] using this
/-! keys of heaps -/
def dec (x : Int) : ByteArray := ⟨(Lib.decDigits x.toNat).toArray⟩
def keyR : List Int → ByteArray → ByteArray
  | [], a => a
  | x :: xs, a => keyR xs (a ++ (dec x ++ (⟨#[32]⟩ : ByteArray)))
def keyL : List Int → List UInt8
  | [] => []
  | x :: xs => Lib.decDigits x.toNat ++ 32 :: keyL xs
theorem dec_tab : ∀ x : Fin 41, (Lib.decDigits x.val).length ≤ 2 ∧ (32 : UInt8) ∉ Lib.decDigits x.val ∧ ∀ y : Fin 41, Lib.decDigits x.val = Lib.decDigits y.val → x = y := by decide +kernel
theorem keyR_toList : ∀ (l : List Int) (a : ByteArray), (keyR l a).data.toList = a.data.toList ++ keyL l
  | [], a => by simp [keyR, keyL]
  | x :: xs, a => by
    rw [keyR, keyR_toList xs]
    simp [keyL, dec, ByteArray.data_append]
theorem split32 : ∀ (a b r t : List UInt8), (32 : UInt8) ∉ a → (32 : UInt8) ∉ b → a ++ 32 :: r = b ++ 32 :: t → a = b ∧ r = t
  | [], [], r, t, _, _, e => by simpa using e
  | [], y :: ys, r, t, _, hb, e => by
    simp only [List.nil_append, List.cons_append, List.cons.injEq] at e
    exact absurd (by simp [e.1]) hb
  | x :: xs, [], r, t, ha, _, e => by
    simp only [List.nil_append, List.cons_append, List.cons.injEq] at e
    exact absurd (by simp [e.1]) ha
  | x :: xs, y :: ys, r, t, ha, hb, e => by
    simp only [List.cons_append, List.cons.injEq] at e
    obtain ⟨e1, e2⟩ := split32 xs ys r t (fun h => ha (by simp [h])) (fun h => hb (by simp [h])) e.2
    exact ⟨by rw [e.1, e1], e2⟩
theorem keyL_inj : ∀ (l m : List Int), l.length = m.length → (∀ x ∈ l, 0 ≤ x ∧ x ≤ 40) → (∀ x ∈ m, 0 ≤ x ∧ x ≤ 40) → keyL l = keyL m → l = m
  | [], [], _, _, _, _ => rfl
  | [], _ :: _, hl, _, _, _ => by simp at hl
  | _ :: _, [], hl, _, _, _ => by simp at hl
  | x :: xs, y :: ys, hl, hx, hy, e => by
    have h1 := hx x (by simp)
    have h2 := hy y (by simp)
    have t1 := dec_tab ⟨x.toNat, by omega⟩
    have t2 := dec_tab ⟨y.toNat, by omega⟩
    obtain ⟨e1, e2⟩ := split32 _ _ _ _ t1.2.1 t2.2.1 e
    have e3 := congrArg Fin.val (t1.2.2 ⟨y.toNat, by omega⟩ e1)
    dsimp only at e3
    rw [keyL_inj xs ys (by simpa using hl) (fun z hz => hx z (by simp [hz])) (fun z hz => hy z (by simp [hz])) e2, show x = y by omega]
def key (l : List Int) : ByteArray := keyR l ⟨#[]⟩
theorem key_inj {l m : List Int} (h : l.length = m.length) (hl : ∀ x ∈ l, 0 ≤ x ∧ x ≤ 40) (hm : ∀ x ∈ m, 0 ≤ x ∧ x ≤ 40) (e : key l = key m) : l = m := by
  refine keyL_inj l m h hl hm ?_
  have e' := congrArg (fun b : ByteArray => b.data.toList) e
  simpa [key, keyR_toList] using e'
theorem dec_size {x : Int} (h : 0 ≤ x ∧ x ≤ 40) : (dec x).size ≤ 2 := by
  have := (dec_tab ⟨x.toNat, by omega⟩).1
  simpa [dec, ByteArray.size] using this
theorem keyR_size : ∀ (l : List Int) (a : ByteArray), (∀ x ∈ l, 0 ≤ x ∧ x ≤ 40) → (keyR l a).size ≤ a.size + 3 * l.length
  | [], a, _ => by simp [keyR]
  | x :: xs, a, h => by
    have h1 := keyR_size xs (a ++ (dec x ++ (⟨#[32]⟩ : ByteArray))) (fun z hz => h z (by simp [hz]))
    have h2 := dec_size (h x (by simp))
    have h3 : (⟨#[32]⟩ : ByteArray).size = 1 := rfl
    simp only [ByteArray.size_append, h3] at h1
    simp only [keyR, List.length_cons]
    omega
theorem impl_heapsKey.l0ev (n : Int) (hn : n ≤ 4) : ∀ (tl done : List Int) (a : ByteArray), ((done ++ tl).length : Int) = n → (∀ x ∈ tl, 0 ≤ x ∧ x ≤ 40) → a.size ≤ 3 * done.length → Ev (fun k => impl_heapsKey.l0 k a (done ++ tl) n done.length) (keyR tl a) := by
  intro tl
  induction tl with
  | nil =>
    intro done a hd _ _
    refine Ev.step (f := fun _ => some a) (fun k => ?_) (Ev.now a)
    simp only [impl_heapsKey.l0]
    simp at hd
    rw [if_neg (by omega)]
  | cons x xs ih =>
    intro done a hd hx ha
    have hd' : (done.length : Int) + (xs.length + 1) = n := by simpa using hd
    have e : rd (done ++ x :: xs) (done.length : Int) = x := by simp [rd]
    have hx1 := hx x (by simp)
    have hs := dec_size hx1
    have h3 : (⟨#[32]⟩ : ByteArray).size = 1 := rfl
    have h := ih (done ++ [x]) (a ++ (dec x ++ (⟨#[32]⟩ : ByteArray))) (by simp; omega) (fun z hz => hx z (by simp [hz])) (by simp only [ByteArray.size_append, h3, List.length_append, List.length_singleton]; omega)
    refine Ev.step (f := fun k => impl_heapsKey.l0 k (a ++ (dec x ++ (⟨#[32]⟩ : ByteArray))) (done ++ [x] ++ xs) n ((done ++ [x]).length : Int)) (fun k => ?_) (by simpa [keyR] using h)
    simp only [impl_heapsKey.l0]
    rw [if_pos (by omega), if_pos (by omega), if_pos (by simp; omega), e, w64s done.length (by omega)]
    unfold strconv_Itoa_49.f
    rw [if_pos (by omega)]
    simp only [Option.bind_some]
    rw [if_pos (by have : (dec x).size ≤ 2 := hs; unfold dec at this; omega), if_pos (by have : (dec x).size ≤ 2 := hs; unfold dec at this; simp only [ByteArray.size_append, h3]; omega)]
    simp [dec]
theorem impl_heapsKey.ev {n : Nat} {s : Int} {l : List Int} (h : St n s l) (hn : n ≤ 4) (hs : s ≤ 40) : Ev (fun k => impl_heapsKey.f k l) (key l) := by
  have hl := h.1
  have := impl_heapsKey.l0ev l.length (by omega) l [] ⟨#[]⟩ (by simp) (fun x hx => by have := h.le x hx; omega) (Nat.le_refl 0)
  simpa [impl_heapsKey.f, key] using this
/-! how many there are -/
theorem nodup_len : ∀ (N : Nat) (l : List Nat), l.Nodup → (∀ x ∈ l, x < N) → l.length ≤ N
  | 0, l, _, h => by
    cases l with
    | nil => simp
    | cons x xs => exact absurd (h x (by simp)) (by omega)
  | N + 1, l, hd, h => by
    have h1 := nodup_len N (l.erase N) (hd.erase N) (fun x hx => by
      have hm := (List.Nodup.mem_erase_iff hd).mp hx
      have := h x hm.2
      omega)
    have h2 : l.length ≤ (l.erase N).length + 1 := by
      rw [List.length_erase]
      split <;> omega
    omega
theorem st_count {n : Nat} {s : Int} (hn : n ≤ 4) (hs : s ≤ 40) {L : List (List Int)} (h : ∀ l ∈ L, St n s l) (hd : L.Nodup) (h2 : 1 ≤ n) : L.length ≤ 68921 := by
  have e : (L.map fun l => (num l.tail 0).toNat).length ≤ 68921 := by
    refine nodup_len _ _ ?_ ?_
    · rw [List.Nodup, List.pairwise_map]
      refine List.Pairwise.imp_of_mem ?_ hd
      intro a b ha hb hab e
      have sa := h a ha
      have sb := h b hb
      have la := sa.1
      have lb := sb.1
      have ra := sa.le
      have rb := sb.le
      obtain ⟨_, na, ta⟩ := sa
      obtain ⟨_, nb, tb⟩ := sb
      match a, b, la, lb, ra, rb, ta, tb, e, hab with
      | [], _, la, _, _, _, _, _, _, _ => simp at la; omega
      | _ :: _, [], _, lb, _, _, _, _, _, _ => simp at lb; omega
      | x :: xs, y :: ys, la, lb, ra, rb, ta, tb, e, hab =>
        simp only [List.tail_cons] at e
        have rx : ∀ z ∈ xs, 0 ≤ z ∧ z ≤ 40 := fun z hz => by have := ra z (by simp [hz]); omega
        have ry : ∀ z ∈ ys, 0 ≤ z ∧ z ≤ 40 := fun z hz => by have := rb z (by simp [hz]); omega
        have b1 := num_le xs 0 0 rx (by omega) (by simp)
        have b2 := num_le ys 0 0 ry (by omega) (by simp)
        obtain ⟨e1, _⟩ := num_inj xs ys 0 0 (by simp at la lb; omega) rx ry (by omega)
        subst e1
        simp only [tot, id] at ta tb
        exact hab (by rw [show x = y by omega])
    · intro x hx
      obtain ⟨l, hl, rfl⟩ := List.mem_map.mp hx
      have sl := h l hl
      have b := num_le l.tail 0 0 (fun z hz => by have := sl.le z (List.mem_of_mem_tail hz); omega) (by omega) (by simp)
      have hlen : l.tail.length ≤ 3 := by rw [List.length_tail, sl.1]; omega
      have : (41 : Int) ^ (0 + l.tail.length) ≤ 68921 := by
        generalize l.tail.length = d at hlen
        match d, hlen with
        | 0, _ => decide
        | 1, _ => decide
        | 2, _ => decide
        | 3, _ => decide
      omega
  simpa using e
theorem impl_canDouble.is (l : List Int) (f t : Int) (hl : l.length ≤ 1048576) : impl_canDouble.f l f t = some (canD l f t) := by
  unfold impl_canDouble.f canD
  simp only [impl_within.is, Option.bind_some, w64 ((l.length : Int) - 1) (by omega) (by omega)]
  by_cases h1 : (decide (0 ≤ f) && decide (f ≤ (l.length : Int) - 1)) = true
  · by_cases h2 : (decide (0 ≤ t) && decide (t ≤ (l.length : Int) - 1)) = true
    · have h1' : 0 ≤ f ∧ f ≤ (l.length : Int) - 1 := by simpa using h1
      have h2' : 0 ≤ t ∧ t ≤ (l.length : Int) - 1 := by simpa using h2
      rw [if_pos h1, if_pos h2]
      by_cases h3 : f = t
      · rw [if_pos h3]; simp [h3]
      · rw [if_neg h3, if_pos h2'.1, if_pos (by omega)]
        by_cases h4 : rd l t > 0
        · rw [if_pos h4, if_pos h1'.1, if_pos (by omega)]; simp [h1', h2', h3, h4]
        · rw [if_neg h4]; simp [h4]
    · rw [if_pos h1, if_neg h2]
      simp only [Bool.not_eq_true] at h2
      simp only [h1, Bool.true_and, h2, Bool.false_and]
  · rw [if_neg h1]
    simp only [Bool.not_eq_true] at h1
    simp only [h1, Bool.false_and]
theorem impl_doublingsOf.l0tot (l : List Int) (hl : l.length ≤ 4) : ∀ (e i : Nat) (acc : List S52), i + e = l.length → acc.length + e * 4 ≤ 16 → ∃ r, r.length ≤ 16 ∧ Ev (fun k => impl_doublingsOf.l0 k l acc (l.length : Int) i) r := by
  intro e
  induction e with
  | zero =>
    intro i acc hi ha
    refine ⟨acc, by omega, Ev.step (f := fun _ => some acc) (fun k => ?_) (Ev.now _)⟩
    simp only [impl_doublingsOf.l0]
    rw [if_neg (by omega)]
  | succ e ih =>
    intro i acc hi ha
    have inner : ∀ (d j : Nat) (acc : List S52), j + d = l.length → acc.length + d + e * 4 ≤ 16 → ∃ r, r.length ≤ 16 ∧ Ev (fun k => impl_doublingsOf.l1 k l acc i (l.length : Int) i (l.length : Int) j) r := by
      intro d
      induction d with
      | zero =>
        intro j acc hj ha
        obtain ⟨r, hr, h⟩ := ih (i + 1) acc (by omega) (by omega)
        refine ⟨r, hr, Ev.step (f := fun k => impl_doublingsOf.l0 k l acc (l.length : Int) ((i + 1 : Nat) : Int)) (fun k => ?_) h⟩
        simp only [impl_doublingsOf.l1]
        rw [if_neg (by omega), w64s i (by omega)]
      | succ d ihd =>
        intro j acc hj ha
        by_cases c : canD l i j = true
        · obtain ⟨r, hr, h⟩ := ihd (j + 1) (acc ++ [⟨i, j⟩]) (by omega) (by simp; omega)
          refine ⟨r, hr, Ev.step (f := fun k => impl_doublingsOf.l1 k l (acc ++ [⟨i, j⟩]) i (l.length : Int) i (l.length : Int) ((j + 1 : Nat) : Int)) (fun k => ?_) h⟩
          simp only [impl_doublingsOf.l1, impl_canDouble.is l _ _ (show l.length ≤ 1048576 by omega), Option.bind_some]
          rw [if_pos (by omega), if_pos c, if_pos (by omega), w64s j (by omega)]
        · obtain ⟨r, hr, h⟩ := ihd (j + 1) acc (by omega) (by omega)
          refine ⟨r, hr, Ev.step (f := fun k => impl_doublingsOf.l1 k l acc i (l.length : Int) i (l.length : Int) ((j + 1 : Nat) : Int)) (fun k => ?_) h⟩
          simp only [impl_doublingsOf.l1, impl_canDouble.is l _ _ (show l.length ≤ 1048576 by omega), Option.bind_some]
          rw [if_pos (by omega), if_neg c, w64s j (by omega)]
    obtain ⟨r, hr, h⟩ := inner l.length 0 acc (by omega) (by omega)
    refine ⟨r, hr, Ev.step (f := fun k => impl_doublingsOf.l1 k l acc i (l.length : Int) i (l.length : Int) 0) (fun k => ?_) h⟩
    simp only [impl_doublingsOf.l0]
    rw [if_pos (by omega)]
theorem impl_doublingsOf.tot (l : List Int) (hl : l.length ≤ 4) : ∃ r, r.length ≤ 16 ∧ Ev (fun k => impl_doublingsOf.f k l) r := by
  have h := impl_doublingsOf.l0tot l hl l.length 0 [] (by omega) (by simp; omega)
  simpa [impl_doublingsOf.f] using h
theorem spec_dbCan.is (l : List Int) (f t : Int) (hl : l.length ≤ 1048576) : spec_dbCan.f l f t = some (canD l f t) := by
  unfold spec_dbCan.f canD
  simp only [spec_l1In.is, Option.bind_some, w64 ((l.length : Int) - 1) (by omega) (by omega)]
  by_cases h1 : (decide (0 ≤ f) && decide (f ≤ (l.length : Int) - 1)) = true
  · by_cases h2 : (decide (0 ≤ t) && decide (t ≤ (l.length : Int) - 1)) = true
    · have h1' : 0 ≤ f ∧ f ≤ (l.length : Int) - 1 := by simpa using h1
      have h2' : 0 ≤ t ∧ t ≤ (l.length : Int) - 1 := by simpa using h2
      rw [if_pos h1, if_pos h2]
      by_cases h3 : f = t
      · rw [if_pos h3]; simp [h3]
      · rw [if_neg h3, if_pos h2'.1, if_pos (by omega)]
        by_cases h4 : rd l t > 0
        · rw [if_pos h4, if_pos h1'.1, if_pos (by omega)]; simp [h1', h2', h3, h4]
        · rw [if_neg h4]; simp [h4]
    · rw [if_pos h1, if_neg h2]
      simp only [Bool.not_eq_true] at h2
      simp only [h1, Bool.true_and, h2, Bool.false_and]
  · rw [if_neg h1]
    simp only [Bool.not_eq_true] at h1
    simp only [h1, Bool.false_and]
theorem spec_dbAll.same (l : List Int) (hl : l.length ≤ 1048576) : ∀ k, (∀ a n i, spec_dbAll.l0 k l a n i = impl_doublingsOf.l0 k l a n i) ∧ (∀ a b n i m j, spec_dbAll.l1 k l a b n i m j = impl_doublingsOf.l1 k l a b n i m j) := by
  intro k
  induction k with
  | zero => exact ⟨fun _ _ _ => rfl, fun _ _ _ _ _ _ => rfl⟩
  | succ k ih =>
    refine ⟨fun a n i => ?_, fun a b n i m j => ?_⟩
    · simp only [spec_dbAll.l0, impl_doublingsOf.l0, ih.2]
    · simp only [spec_dbAll.l1, impl_doublingsOf.l1, ih.1, ih.2, spec_dbCan.is l _ _ hl, impl_canDouble.is l _ _ hl]
theorem spec_dbAll.ev (l : List Int) (hl : l.length ≤ 1048576) {r : List S52} (h : Ev (fun k => impl_doublingsOf.f k l) r) : Ev (fun k => spec_dbAll.f k l) r := by
  refine Ev.congr (fun k => ?_) h
  unfold spec_dbAll.f impl_doublingsOf.f
  exact (spec_dbAll.same l hl k).1 _ _ _
/-- The moves that stand behind each other: each can be made, and each that can be made stands there. -/
def AllM (l : List Int) (r : List S52) : Prop := (∀ m ∈ r, canD l m.f0 m.f1 = true) ∧ ∀ f t, canD l f t = true → (⟨f, t⟩ : S52) ∈ r
def rowM (l : List Int) (i : Int) : Nat → Nat → List S52
  | 0, _ => []
  | d + 1, j => (if canD l i j = true then [⟨i, j⟩] else []) ++ rowM l i d (j + 1)
def allM (l : List Int) : Nat → Nat → List S52
  | 0, _ => []
  | e + 1, i => rowM l i l.length 0 ++ allM l e (i + 1)
theorem rowM_len (l : List Int) (i : Int) : ∀ d j, (rowM l i d j).length ≤ d
  | 0, j => by simp [rowM]
  | d + 1, j => by
    have := rowM_len l i d (j + 1)
    unfold rowM
    split <;> simp <;> omega
theorem allM_len (l : List Int) (hl : l.length ≤ 4) : ∀ e i, (allM l e i).length ≤ 4 * e
  | 0, i => by simp [allM]
  | e + 1, i => by
    have h1 := allM_len l hl e (i + 1)
    have h2 := rowM_len l i l.length 0
    simp only [allM, List.length_append]
    omega
theorem rowM_mem (l : List Int) (i : Int) (m : S52) : ∀ d j, m ∈ rowM l i d j ↔ m.f0 = i ∧ (∃ t : Nat, j ≤ t ∧ t < j + d ∧ m.f1 = t) ∧ canD l m.f0 m.f1 = true
  | 0, j => by
    simp only [rowM, List.not_mem_nil, false_iff]
    rintro ⟨_, ⟨t, h1, h2, _⟩, _⟩
    omega
  | d + 1, j => by
    rw [rowM, List.mem_append, rowM_mem l i m d (j + 1)]
    constructor
    · rintro (h | ⟨h1, ⟨t, h2, h3, h4⟩, h5⟩)
      · split at h
        · rename_i c
          obtain rfl := List.mem_singleton.mp h
          exact ⟨rfl, ⟨j, by omega, by omega, rfl⟩, c⟩
        · cases h
      · exact ⟨h1, ⟨t, by omega, by omega, h4⟩, h5⟩
    · rintro ⟨h1, ⟨t, h2, h3, h4⟩, h5⟩
      by_cases e : t = j
      · subst e
        left
        rw [h1, h4] at h5
        rw [if_pos h5, List.mem_singleton]
        cases m
        simp only at h1 h4
        rw [h1, h4]
      · exact Or.inr ⟨h1, ⟨t, by omega, by omega, h4⟩, h5⟩
theorem allM_mem (l : List Int) (m : S52) : ∀ e i, i + e = l.length → (m ∈ allM l e i ↔ (∃ f : Nat, i ≤ f ∧ m.f0 = f) ∧ canD l m.f0 m.f1 = true)
  | 0, i, h => by
    simp only [allM, List.not_mem_nil, false_iff]
    rintro ⟨⟨f, h1, h2⟩, c⟩
    have := canD_in c
    omega
  | e + 1, i, h => by
    rw [allM, List.mem_append, rowM_mem, allM_mem l m e (i + 1) (by omega)]
    constructor
    · rintro (⟨h1, _, h3⟩ | ⟨⟨f, h1, h2⟩, h3⟩)
      · exact ⟨⟨i, by omega, h1⟩, h3⟩
      · exact ⟨⟨f, by omega, h2⟩, h3⟩
    · rintro ⟨⟨f, h1, h2⟩, c⟩
      by_cases e : f = i
      · subst e
        have := canD_in c
        obtain ⟨t, ht⟩ := Int.eq_ofNat_of_zero_le this.2.2.1
        exact Or.inl ⟨h2, ⟨t, by omega, by omega, ht⟩, c⟩
      · exact Or.inr ⟨⟨f, by omega, h2⟩, c⟩
/-- All moves at l, in order. -/
def mvs (l : List Int) : List S52 := allM l l.length 0
theorem mvs_len (l : List Int) (hl : l.length ≤ 4) : (mvs l).length ≤ 16 := by
  have := allM_len l hl l.length 0
  unfold mvs
  omega
theorem mvs_mem (l : List Int) (m : S52) : m ∈ mvs l ↔ canD l m.f0 m.f1 = true := by
  unfold mvs
  rw [allM_mem l m l.length 0 (by omega)]
  refine ⟨fun h => h.2, fun c => ⟨?_, c⟩⟩
  obtain ⟨f, hf⟩ := Int.eq_ofNat_of_zero_le (canD_in c).1
  exact ⟨f, by omega, hf⟩
theorem impl_doublingsOf.l0is (l : List Int) (hl : l.length ≤ 4) : ∀ (e i : Nat) (acc : List S52), i + e = l.length → acc.length + e * 4 ≤ 16 → Ev (fun k => impl_doublingsOf.l0 k l acc (l.length : Int) i) (acc ++ allM l e i) := by
  intro e
  induction e with
  | zero =>
    intro i acc hi ha
    refine Ev.step (f := fun _ => some acc) (fun k => ?_) (by simpa [allM] using Ev.now acc)
    simp only [impl_doublingsOf.l0]
    rw [if_neg (by omega)]
  | succ e ih =>
    intro i acc hi ha
    have inner : ∀ (d j : Nat) (acc : List S52), j + d = l.length → acc.length + d + e * 4 ≤ 16 → Ev (fun k => impl_doublingsOf.l1 k l acc i (l.length : Int) i (l.length : Int) j) (acc ++ rowM l i d j ++ allM l e (i + 1)) := by
      intro d
      induction d with
      | zero =>
        intro j acc hj ha
        have h := ih (i + 1) acc (by omega) (by omega)
        refine Ev.step (f := fun k => impl_doublingsOf.l0 k l acc (l.length : Int) ((i + 1 : Nat) : Int)) (fun k => ?_) (by simpa [rowM] using h)
        simp only [impl_doublingsOf.l1]
        rw [if_neg (by omega), w64s i (by omega)]
      | succ d ihd =>
        intro j acc hj ha
        by_cases c : canD l i j = true
        · have h := ihd (j + 1) (acc ++ [⟨i, j⟩]) (by omega) (by simp; omega)
          refine Ev.step (f := fun k => impl_doublingsOf.l1 k l (acc ++ [⟨i, j⟩]) i (l.length : Int) i (l.length : Int) ((j + 1 : Nat) : Int)) (fun k => ?_) (by simpa [rowM, c] using h)
          simp only [impl_doublingsOf.l1, impl_canDouble.is l _ _ (show l.length ≤ 1048576 by omega), Option.bind_some]
          rw [if_pos (by omega), if_pos c, if_pos (by omega), w64s j (by omega)]
        · have h := ihd (j + 1) acc (by omega) (by omega)
          refine Ev.step (f := fun k => impl_doublingsOf.l1 k l acc i (l.length : Int) i (l.length : Int) ((j + 1 : Nat) : Int)) (fun k => ?_) (by simpa [rowM, c] using h)
          simp only [impl_doublingsOf.l1, impl_canDouble.is l _ _ (show l.length ≤ 1048576 by omega), Option.bind_some]
          rw [if_pos (by omega), if_neg c, w64s j (by omega)]
    have h := inner l.length 0 acc (by omega) (by omega)
    refine Ev.step (f := fun k => impl_doublingsOf.l1 k l acc i (l.length : Int) i (l.length : Int) 0) (fun k => ?_) (by simpa [allM] using h)
    simp only [impl_doublingsOf.l0]
    rw [if_pos (by omega)]
theorem impl_doublingsOf.ev (l : List Int) (hl : l.length ≤ 4) : Ev (fun k => impl_doublingsOf.f k l) (mvs l) := by
  have h := impl_doublingsOf.l0is l hl l.length 0 [] (by omega) (by simp; omega)
  simpa [impl_doublingsOf.f, mvs] using h
theorem spec_dbAll.evM (l : List Int) (hl : l.length ≤ 4) : Ev (fun k => spec_dbAll.f k l) (mvs l) := spec_dbAll.ev l (by omega) (impl_doublingsOf.ev l hl)
theorem spec_dbMake.is (l : List Int) (f t : Int) (hl : l.length ≤ 1048576) (h : canD l f t = true) : spec_dbMake.f l f t = some (dMade l f t) := by
  obtain ⟨h1, h2, h3, h4, _⟩ := canD_in h
  unfold spec_dbMake.f spec_l1Own.f dMade
  simp only [Option.bind_some, List.nil_append]
  rw [if_pos (by simp; omega)]
  simp only [Option.bind_some]
  rw [if_pos h1, if_pos h2, if_pos h3, if_pos h4, if_pos h4]
/-! the specification's search, round by round -/
theorem rdL_app (L M : List (List Int)) (i : Nat) (h : i < L.length) : rd_L2 (L ++ M) (i : Int) = rd_L2 L (i : Int) := by
  simp [rd_L2, List.getD_eq_getElem?_getD, List.getElem?_append_left h]
theorem rdL_mem {L : List (List Int)} {i : Nat} (h : i < L.length) : rd_L2 L (i : Int) ∈ L := by
  simp [rd_L2, List.getD_eq_getElem?_getD, List.getElem?_eq_getElem h]
theorem memL_rd {L : List (List Int)} {l : List Int} (h : l ∈ L) : ∃ a : Nat, a < L.length ∧ rd_L2 L (a : Int) = l := by
  obtain ⟨a, ha, e⟩ := List.mem_iff_getElem.mp h
  exact ⟨a, ha, by simp [rd_L2, List.getD_eq_getElem?_getD, List.getElem?_eq_getElem ha, e]⟩
theorem rdD_app (done : List S52) (x : S52) (xs : List S52) : rd_T52 (done ++ x :: xs) (done.length : Int) = x := by simp [rd_T52]
theorem rd_appl (v w : List Int) (a : Nat) (h : a < v.length) : rd (v ++ w) (a : Int) = rd v (a : Int) := by
  simp [rd, List.getD_eq_getElem?_getD, List.getElem?_append_left h]
theorem rd_last (v : List Int) (x : Int) : rd (v ++ [x]) (v.length : Int) = x := by simp [rd]
theorem rdB_set (F : List Bool) (a b : Int) (ha : 0 ≤ a) (hb : 0 ≤ b) (hl : a < F.length) (v : Bool) : rdOf false (F.set a.toNat v) b = if a = b then v else rdOf false F b := by
  unfold rdOf
  rw [List.getD_eq_getElem?_getD, List.getD_eq_getElem?_getD, List.getElem?_set]
  by_cases e : a = b
  · subst e
    rw [if_pos rfl, if_pos rfl, if_pos (by omega)]
    rfl
  · rw [if_neg (by omega), if_neg e]
/-- What the specification holds behind i rounds (those that have been seen, and how far they are). -/
def InvS (n : Nat) (s : Int) (i : Nat) (L : List (List Int)) (F : List Bool) (T : List Int) : Prop :=
  (∀ l ∈ L, St n s l) ∧ L.Nodup ∧ (F.length : Int) = (41 : Int) ^ n ∧ (∀ l, St n s l → (rdOf false F (num l 0) = true ↔ l ∈ L)) ∧ T.length = L.length ∧
  (∀ a : Nat, a < T.length → 0 ≤ rd T a ∧ rd T a ≤ a) ∧ (∀ a b : Nat, a ≤ b → b < T.length → rd T a ≤ rd T b) ∧ (i < T.length → ∀ a : Nat, a < T.length → rd T a ≤ rd T i + 1) ∧
  (∀ a : Nat, a < i → ∀ f t, canD (rd_L2 L a) f t = true → ∃ b : Nat, b < L.length ∧ rd_L2 L b = dMade (rd_L2 L a) f t ∧ rd T b ≤ rd T a + 1)
section
variable {n : Nat} {s : Int} {i : Nat} {L : List (List Int)} {F : List Bool} {T : List Int}
theorem InvS.count (I : InvS n s i L F T) (h1 : 1 ≤ n) (hn : n ≤ 4) (hs : s ≤ 40) : L.length ≤ 68921 := st_count hn hs I.1 I.2.1 h1
theorem InvS.at_ (I : InvS n s i L F T) (hi : i < L.length) : St n s (rd_L2 L i) := I.1 _ (rdL_mem hi)
theorem InvS.flag (I : InvS n s i L F T) (hs : s ≤ 40) {l : List Int} (h : St n s l) : 0 ≤ num l 0 ∧ num l 0 < (F.length : Int) := by
  have := num_le l 0 0 (fun x hx => by have := h.le x hx; omega) (by omega) (by simp)
  rw [Nat.zero_add, h.1] at this
  rw [I.2.2.1]
  exact this
theorem num_ne (hs : s ≤ 40) {l m : List Int} (hl : St n s l) (hm : St n s m) (h : num l 0 = num m 0) : l = m :=
  (num_inj l m 0 0 (by rw [hl.1, hm.1]) (fun x hx => by have := hl.le x hx; omega) (fun x hx => by have := hm.le x hx; omega) h).1
theorem InvS.grow (I : InvS n s i L F T) (hs : s ≤ 40) (hi : i < L.length) {t : List Int} (ht : St n s t) (hnew : t ∉ L) : InvS n s i (L ++ [t]) (F.set (num t 0).toNat true) (T ++ [rd T i + 1]) := by
  have hf := I.flag hs ht
  obtain ⟨I1, I2, I3, I4, I5, I6, I7, I8, I9⟩ := I
  have hiT : i < T.length := by omega
  refine ⟨?_, ?_, ?_, ?_, ?_, ?_, ?_, ?_, ?_⟩
  · intro l hl
    rcases List.mem_append.mp hl with hl | hl
    · exact I1 l hl
    · rw [List.mem_singleton.mp hl]; exact ht
  · rw [List.nodup_append]
    refine ⟨I2, by simp, ?_⟩
    intro a ha b hb e
    rw [List.mem_singleton.mp hb] at e
    exact hnew (e ▸ ha)
  · simpa using I3
  · intro l hl
    have hl0 := num_le l 0 0 (fun x hx => by have := hl.le x hx; omega) (by omega) (by simp)
    rw [rdB_set F _ _ hf.1 hl0.1 hf.2]
    by_cases e : num t 0 = num l 0
    · rw [if_pos e]
      have := num_ne hs ht hl e
      simp [this]
    · rw [if_neg e, I4 l hl]
      have : l ≠ t := fun z => e (by rw [z])
      simp [this]
  · simp [I5]
  · intro a ha
    simp only [List.length_append, List.length_singleton] at ha
    by_cases e : a = T.length
    · subst e
      rw [rd_last]
      have := I6 i hiT
      omega
    · rw [rd_appl _ _ _ (by omega)]
      exact I6 a (by omega)
  · intro a b hab hb
    simp only [List.length_append, List.length_singleton] at hb
    by_cases e : b = T.length
    · subst e
      rw [rd_last]
      by_cases e : a = T.length
      · subst e; rw [rd_last]; omega
      · rw [rd_appl _ _ _ (by omega)]
        exact I8 hiT a (by omega)
    · rw [rd_appl _ _ _ (by omega), rd_appl _ _ _ (by omega)]
      exact I7 a b hab (by omega)
  · intro _ a ha
    simp only [List.length_append, List.length_singleton] at ha
    rw [rd_appl _ _ i hiT]
    by_cases e : a = T.length
    · subst e; rw [rd_last]; omega
    · rw [rd_appl _ _ _ (by omega)]
      exact I8 hiT a (by omega)
  · intro a ha f u c
    rw [rdL_app _ _ _ (by omega)] at c ⊢
    obtain ⟨b, hb, e1, e2⟩ := I9 a ha f u c
    refine ⟨b, by simp; omega, by rw [rdL_app _ _ _ hb]; exact e1, ?_⟩
    rw [rd_appl _ _ _ (by omega), rd_appl _ _ _ (by omega)]
    exact e2
theorem InvS.next (I : InvS n s i L F T) (hi : i < L.length) (h : ∀ m ∈ mvs (rd_L2 L i), dMade (rd_L2 L i) m.f0 m.f1 ∈ L) : InvS n s (i + 1) L F T := by
  obtain ⟨I1, I2, I3, I4, I5, I6, I7, I8, I9⟩ := I
  refine ⟨I1, I2, I3, I4, I5, I6, I7, ?_, ?_⟩
  · intro h1 a ha
    have := I8 (by omega) a ha
    have := I7 i (i + 1) (by omega) h1
    omega
  · intro a ha f t c
    by_cases e : a = i
    · subst e
      obtain ⟨b, hb, e⟩ := memL_rd (h ⟨f, t⟩ ((mvs_mem _ _).mpr c))
      exact ⟨b, hb, e, I8 (by omega) b (by omega)⟩
    · exact I9 a (by omega) f t c
theorem spec_l1_end {v} (h : ¬ i < L.length) (hv : v = (L, T)) : Ev (fun k => spec_dbFar.l1 k F L T i) v := by
  subst hv
  refine Ev.step (f := fun _ => some (L, T)) (fun k => ?_) (Ev.now _)
  simp only [spec_dbFar.l1]
  rw [if_neg (by omega)]
theorem spec_l1_go (hi : i < L.length) (hl : (rd_L2 L i).length ≤ 4) {v} (H : Ev (fun k => spec_dbFar.l2 k F L T i (mvs (rd_L2 L i)) ((mvs (rd_L2 L i)).length : Int) ((0 : Nat) : Int)) v) : Ev (fun k => spec_dbFar.l1 k F L T i) v := by
  obtain ⟨K1, h1⟩ := spec_dbAll.evM (rd_L2 L i) hl
  obtain ⟨K2, h2⟩ := H
  refine ⟨K1 + K2 + 1, fun k hk => ?_⟩
  obtain ⟨k, rfl⟩ : ∃ k', k = k' + 1 := ⟨k - 1, by omega⟩
  simp only [spec_dbFar.l1, h1 k (by omega), Option.bind_some]
  rw [if_pos (by omega), if_pos (by omega)]
  exact h2 k (by omega)
theorem spec_l2_end {M : List S52} {j : Nat} (hj : j = M.length) (hi : i < 1000000) {v} (H : Ev (fun k => spec_dbFar.l1 k F L T ((i + 1 : Nat) : Int)) v) : Ev (fun k => spec_dbFar.l2 k F L T i M (M.length : Int) (j : Int)) v := by
  refine Ev.step (f := fun k => spec_dbFar.l1 k F L T ((i + 1 : Nat) : Int)) (fun k => ?_) H
  simp only [spec_dbFar.l2]
  rw [if_neg (by omega), w64s i (by omega)]
theorem spec_l2_skip (I : InvS n s i L F T) (hn : n ≤ 4) (hs : s ≤ 40) (hi : i < L.length) {done rest : List S52} {m : S52} (hr : (done ++ m :: rest).length ≤ 16) (c : canD (rd_L2 L i) m.f0 m.f1 = true) (hm : dMade (rd_L2 L i) m.f0 m.f1 ∈ L) {v} (H : Ev (fun k => spec_dbFar.l2 k F L T i (done ++ m :: rest) ((done ++ m :: rest).length : Int) ((done ++ [m]).length : Int)) v) : Ev (fun k => spec_dbFar.l2 k F L T i (done ++ m :: rest) ((done ++ m :: rest).length : Int) (done.length : Int)) v := by
  have st := (I.at_ hi).made hs c
  have hl := (I.at_ hi).1
  have fl := I.flag hs st
  obtain ⟨K1, h1⟩ := spec_dbNumber.ev st hn hs
  obtain ⟨K2, h2⟩ := H
  refine ⟨K1 + K2 + 1, fun k hk => ?_⟩
  obtain ⟨k, rfl⟩ : ∃ k', k = k' + 1 := ⟨k - 1, by omega⟩
  simp only [spec_dbFar.l2, rdD_app, spec_dbMake.is _ _ _ (show (rd_L2 L i).length ≤ 1048576 by omega) c, h1 k (by omega), Option.bind_some]
  simp only [List.length_append, List.length_cons] at hr
  rw [if_pos (by simp; omega), if_pos (by omega), if_pos (by simp; omega), if_pos (by omega), if_pos (by omega), if_pos fl.1, if_pos fl.2, if_pos ((I.2.2.2.1 _ st).mpr hm), w64s done.length (by omega)]
  have := h2 k (by omega)
  simpa using this
theorem spec_l2_new (I : InvS n s i L F T) (h1n : 1 ≤ n) (hn : n ≤ 4) (hs : s ≤ 40) (hi : i < L.length) {done rest : List S52} {m : S52} (hr : (done ++ m :: rest).length ≤ 16) (c : canD (rd_L2 L i) m.f0 m.f1 = true) (hm : dMade (rd_L2 L i) m.f0 m.f1 ∉ L) {v}
    (H : Ev (fun k => spec_dbFar.l2 k (F.set (num (dMade (rd_L2 L i) m.f0 m.f1) 0).toNat true) (L ++ [dMade (rd_L2 L i) m.f0 m.f1]) (T ++ [rd T i + 1]) i (done ++ m :: rest) ((done ++ m :: rest).length : Int) ((done ++ [m]).length : Int)) v) : Ev (fun k => spec_dbFar.l2 k F L T i (done ++ m :: rest) ((done ++ m :: rest).length : Int) (done.length : Int)) v := by
  have st := (I.at_ hi).made hs c
  have hl := (I.at_ hi).1
  have fl := I.flag hs st
  have ct := I.count h1n hn hs
  have tl := I.2.2.2.2.1
  have tb := I.2.2.2.2.2.1 i (by omega)
  obtain ⟨K1, h1⟩ := spec_dbNumber.ev st hn hs
  obtain ⟨K2, h2⟩ := H
  refine ⟨K1 + K2 + 1, fun k hk => ?_⟩
  obtain ⟨k, rfl⟩ : ∃ k', k = k' + 1 := ⟨k - 1, by omega⟩
  simp only [spec_dbFar.l2, rdD_app, spec_dbMake.is _ _ _ (show (rd_L2 L i).length ≤ 1048576 by omega) c, h1 k (by omega), Option.bind_some]
  simp only [List.length_append, List.length_cons] at hr
  rw [if_pos (by simp; omega), if_pos (by omega), if_pos (by simp; omega), if_pos (by omega), if_pos (by omega), if_pos fl.1, if_pos fl.2, if_neg (fun z => hm ((I.2.2.2.1 _ st).mp z)), if_pos (by omega), if_pos (by omega), if_pos (by omega), w64s done.length (by omega), w64 (rd T i + 1) (by omega) (by omega)]
  have := h2 k (by omega)
  simpa using this
end
/-- The specification's search ends, from wherever it stands. -/
theorem spec_tot {n : Nat} {s : Int} (h1n : 1 ≤ n) (hn : n ≤ 4) (hs : s ≤ 40) : ∀ (e i : Nat) (L : List (List Int)) (F : List Bool) (T : List Int), i + e = 68922 → InvS n s i L F T → i ≤ L.length → ∃ M U F', Ev (fun k => spec_dbFar.l1 k F L T i) (L ++ M, T ++ U) ∧ InvS n s (L ++ M).length (L ++ M) F' (T ++ U) := by
  intro e
  induction e with
  | zero =>
    intro i L F T hi I hle
    have := I.count h1n hn hs
    omega
  | succ e ih =>
    intro i L F T hi I hle
    by_cases hlt : i < L.length
    · have st := I.at_ hlt
      have m16 := mvs_len (rd_L2 L i) (by rw [st.1]; exact hn)
      have inner : ∀ (rest done : List S52) (L' : List (List Int)) (F : List Bool) (T : List Int), mvs (rd_L2 L i) = done ++ rest → InvS n s i L' F T → i < L'.length → rd_L2 L' i = rd_L2 L i → (∀ m ∈ done, dMade (rd_L2 L i) m.f0 m.f1 ∈ L') → ∃ M U F', Ev (fun k => spec_dbFar.l2 k F L' T i (done ++ rest) ((done ++ rest).length : Int) (done.length : Int)) (L' ++ M, T ++ U) ∧ InvS n s (L' ++ M).length (L' ++ M) F' (T ++ U) := by
        intro rest
        induction rest with
        | nil =>
          intro done L' F T hm I hi' hE hd
          have ct := I.count h1n hn hs
          obtain ⟨M, U, F', h1, h2⟩ := ih (i + 1) L' F T (by omega) (I.next hi' (by rw [hE, hm]; simpa using hd)) (by omega)
          exact ⟨M, U, F', spec_l2_end (by simp) (by omega) h1, h2⟩
        | cons m rest ihr =>
          intro done L' F T hm I hi' hE hd
          have c : canD (rd_L2 L' i) m.f0 m.f1 = true := by rw [hE]; exact (mvs_mem _ _).mp (by rw [hm]; simp)
          have hr : (done ++ m :: rest).length ≤ 16 := by rw [← hm]; exact m16
          by_cases hmem : dMade (rd_L2 L' i) m.f0 m.f1 ∈ L'
          · obtain ⟨M, U, F', h1, h2⟩ := ihr (done ++ [m]) L' F T (by simpa using hm) I hi' hE (fun z hz => by
              rcases List.mem_append.mp hz with hz | hz
              · exact hd z hz
              · rw [List.mem_singleton.mp hz, ← hE]; exact hmem)
            exact ⟨M, U, F', spec_l2_skip I hn hs hi' hr c hmem (by simpa using h1), h2⟩
          · obtain ⟨M, U, F', h1, h2⟩ := ihr (done ++ [m]) (L' ++ [dMade (rd_L2 L' i) m.f0 m.f1]) _ _ (by simpa using hm) (I.grow hs hi' ((I.at_ hi').made hs c) hmem) (by simp; omega) (by rw [rdL_app _ _ _ hi']; exact hE) (fun z hz => by
              rcases List.mem_append.mp hz with hz | hz
              · exact List.mem_append_left _ (hd z hz)
              · rw [List.mem_singleton.mp hz, ← hE]; simp)
            refine ⟨dMade (rd_L2 L' i) m.f0 m.f1 :: M, (rd T i + 1) :: U, F', spec_l2_new I h1n hn hs hi' hr c hmem (by simpa using h1), by simpa using h2⟩
      obtain ⟨M, U, F', h1, h2⟩ := inner (mvs (rd_L2 L i)) [] L F T rfl I hlt rfl (by simp)
      exact ⟨M, U, F', spec_l1_go hlt (by rw [st.1]; exact hn) (by simpa using h1), h2⟩
    · refine ⟨[], [], F, spec_l1_end hlt (by simp), ?_⟩
      have e : i = L.length := by omega
      subst e
      simpa using I
theorem rd_set_ne (l : List Int) (f t v : Int) (h1 : 0 ≤ f) (h3 : 0 ≤ t) (h : f ≠ t) : rd (l.set f.toNat v) t = rd l t := by
  unfold rd
  rw [List.getD_eq_getElem?_getD, List.getD_eq_getElem?_getD, List.getElem?_set_ne (by omega)]
theorem impl_doubled.is (l : List Int) (f t : Int) (hl : l.length ≤ 1048576) (h : canD l f t = true) : impl_doubled.f l f t = some (dMade l f t) := by
  obtain ⟨h1, h2, h3, h4, h5, _⟩ := canD_in h
  unfold impl_doubled.f slices_Clone_int_int.f dMade
  rw [if_pos (by omega)]
  simp only [Option.bind_some]
  rw [if_pos h1, if_pos h2, if_pos h3, if_pos h4, if_pos h4, rd_set_ne l f t _ h1 h3 h5, show rd l t + rd l t = 2 * rd l t by omega]
/-! the program's search beside the specification's -/
def heapsOf (X : List S89) : List (List Int) := X.map (fun x => x.f0)
theorem rdX (X : List S89) (i : Nat) (h : i < X.length) : (rd_T89 X (i : Int)).f0 = rd_L2 (heapsOf X) (i : Int) := by
  simp [rd_T89, rd_L2, heapsOf, List.getD_eq_getElem?_getD, List.getElem?_eq_getElem h]
theorem rdX_app (X Y : List S89) (i : Nat) (h : i < X.length) : rd_T89 (X ++ Y) (i : Int) = rd_T89 X (i : Int) := by
  simp [rd_T89, List.getD_eq_getElem?_getD, List.getElem?_append_left h]
theorem rdX_last (X : List S89) (x : S89) : rd_T89 (X ++ [x]) (X.length : Int) = x := by simp [rd_T89]
/-- All that came ahead of move m from place b stands ahead of place a. -/
def Ord (L : List (List Int)) (b a : Nat) (m : S52) : Prop :=
  (∃ done rest, mvs (rd_L2 L b) = done ++ m :: rest ∧ ∀ z ∈ done, dMade (rd_L2 L b) z.f0 z.f1 ∈ L.take a) ∧ ∀ c : Nat, c < b → ∀ z ∈ mvs (rd_L2 L c), dMade (rd_L2 L c) z.f0 z.f1 ∈ L.take a
theorem Ord.app {L : List (List Int)} {b a : Nat} {m : S52} (h : Ord L b a m) (M : List (List Int)) (hb : b < L.length) (ha : a ≤ L.length) : Ord (L ++ M) b a m := by
  obtain ⟨⟨done, rest, h1, h2⟩, h3⟩ := h
  refine ⟨⟨done, rest, by rw [rdL_app _ _ _ hb]; exact h1, fun z hz => ?_⟩, fun c hc z hz => ?_⟩
  · rw [rdL_app _ _ _ hb, List.take_append_of_le_length ha]; exact h2 z hz
  · rw [rdL_app _ _ _ (by omega)] at hz ⊢
    rw [List.take_append_of_le_length ha]; exact h3 c hc z hz
/-- What the program's search holds beside it. -/
def InvX (l0 : List Int) (L : List (List Int)) (T : List Int) (X : List S89) (K : List ByteArray) : Prop :=
  heapsOf X = L ∧ K = L.map key ∧ rd T 0 = 0 ∧ (rd_T89 X 0).f1 = -1 ∧ rd_L2 L 0 = l0 ∧ 1 ≤ L.length ∧
  (∀ a : Nat, 1 ≤ a → a < X.length → ∃ b : Nat, b < a ∧ (rd_T89 X a).f1 = b ∧ rd T a = rd T b + 1 ∧ canD (rd_L2 L b) (rd_T89 X a).f2.f0 (rd_T89 X a).f2.f1 = true ∧ rd_L2 L a = dMade (rd_L2 L b) (rd_T89 X a).f2.f0 (rd_T89 X a).f2.f1 ∧ Ord L b a (rd_T89 X a).f2)
section
variable {l0 : List Int} {n : Nat} {s : Int} {i : Nat} {L : List (List Int)} {F : List Bool} {T : List Int} {X : List S89} {K : List ByteArray}
theorem InvX.len (J : InvX l0 L T X K) : X.length = L.length := by rw [← J.1]; simp [heapsOf]
theorem InvX.at_ (J : InvX l0 L T X K) (h : i < L.length) : (rd_T89 X (i : Int)).f0 = rd_L2 L (i : Int) := by rw [rdX X i (by rw [J.len]; exact h), J.1]
theorem InvX.seen (J : InvX l0 L T X K) (I : InvS n s i L F T) (h1n : 1 ≤ n) (hn : n ≤ 4) (hs : s ≤ 40) {t : List Int} (ht : St n s t) : seenHas.f K (key t) = some (decide (t ∈ L)) := by
  have ct := I.count h1n hn hs
  have sz : (key t).size ≤ 1000 := by
    have := keyR_size t ⟨#[]⟩ (fun x hx => by have := ht.le x hx; omega)
    have e0 : (⟨#[]⟩ : ByteArray).size = 0 := rfl
    rw [ht.1, e0] at this
    unfold key
    omega
  have kl : K.length = L.length := by rw [J.2.1]; simp
  unfold seenHas.f
  rw [if_pos ⟨sz, by omega⟩]
  congr 1
  have : key t ∈ K ↔ t ∈ L := by
    rw [J.2.1, List.mem_map]
    constructor
    · rintro ⟨l, hl, e⟩
      have sl := I.1 l hl
      have := key_inj (by rw [sl.1, ht.1]) (fun x hx => by have := sl.le x hx; omega) (fun x hx => by have := ht.le x hx; omega) e
      exact this ▸ hl
    · exact fun h => ⟨t, h, rfl⟩
  simp only [this]
theorem InvX.grow (J : InvX l0 L T X K) (hT : T.length = L.length) (hi : i < L.length) {m : S52} (c : canD (rd_L2 L i) m.f0 m.f1 = true) {done rest : List S52} (hm : mvs (rd_L2 L i) = done ++ m :: rest) (hd : ∀ z ∈ done, dMade (rd_L2 L i) z.f0 z.f1 ∈ L)
    (hp : ∀ c : Nat, c < i → ∀ z ∈ mvs (rd_L2 L c), dMade (rd_L2 L c) z.f0 z.f1 ∈ L) : InvX l0 (L ++ [dMade (rd_L2 L i) m.f0 m.f1]) (T ++ [rd T i + 1]) (X ++ [⟨dMade (rd_L2 L i) m.f0 m.f1, (i : Int), ⟨m.f0, m.f1⟩⟩]) (K ++ [key (dMade (rd_L2 L i) m.f0 m.f1)]) := by
  have hX := J.len
  obtain ⟨J1, J2, J3, J4, J6, J7, J5⟩ := J
  refine ⟨?_, ?_, ?_, ?_, ?_, ?_, ?_⟩
  · rw [← J1]; simp [heapsOf]
  · rw [J2]; simp
  · have := rd_appl T [rd T i + 1] 0 (by omega)
    rw [show ((0 : Nat) : Int) = 0 from rfl] at this
    rw [this]; exact J3
  · have := rdX_app X [⟨dMade (rd_L2 L i) m.f0 m.f1, (i : Int), ⟨m.f0, m.f1⟩⟩] 0 (by omega)
    rw [show ((0 : Nat) : Int) = 0 from rfl] at this
    rw [this]; exact J4
  · have := rdL_app L [dMade (rd_L2 L i) m.f0 m.f1] 0 (by omega)
    rw [show ((0 : Nat) : Int) = 0 from rfl] at this
    rw [this]; exact J6
  · simp
  · intro a h1 ha
    simp only [List.length_append, List.length_singleton] at ha
    by_cases e : a = X.length
    · subst e
      rw [rdX_last]
      refine ⟨i, by omega, rfl, ?_, ?_, ?_, ?_⟩
      · rw [hX, ← hT, rd_last, rd_appl _ _ _ (by omega)]
      · rw [rdL_app _ _ _ hi]; exact c
      · rw [rdL_app _ _ _ hi]
        rw [hX]
        simp [rd_L2]
      · rw [hX]
        refine Ord.app (L := L) ⟨⟨done, rest, hm, fun z hz => ?_⟩, fun c hc z hz => ?_⟩ _ hi (Nat.le_refl _)
        · rw [List.take_length]; exact hd z hz
        · rw [List.take_length]; exact hp c hc z hz
    · obtain ⟨b, hb, e1, e2, e3, e4, e5⟩ := J5 a h1 (by omega)
      rw [rdX_app _ _ _ (by omega)]
      refine ⟨b, hb, e1, ?_, ?_, ?_, ?_⟩
      · rw [rd_appl _ _ _ (by omega), rd_appl _ _ _ (by omega)]; exact e2
      · rw [rdL_app _ _ _ (by omega)]; exact e3
      · rw [rdL_app _ _ _ (by omega), rdL_app _ _ _ (by omega)]; exact e4
      · exact e5.app _ (by omega) (by omega)
theorem InvS.past (I : InvS n s i L F T) : ∀ c : Nat, c < i → ∀ z ∈ mvs (rd_L2 L c), dMade (rd_L2 L c) z.f0 z.f1 ∈ L := by
  intro c hc z hz
  obtain ⟨b, hb, e, _⟩ := I.2.2.2.2.2.2.2.2 c hc z.f0 z.f1 ((mvs_mem _ _).mp hz)
  rw [← e]; exact rdL_mem hb
variable {is : Nat → List Int → Option Bool}
theorem impl_l0_end {v} (J : InvX l0 L T X K) (h : ¬ i < L.length) (hv : v = (X, (-1 : Int))) : Ev (fun k => impl_search.l0 is k X K i) v := by
  subst hv
  have := J.len
  refine Ev.step (f := fun _ => some (X, -1)) (fun k => ?_) (Ev.now _)
  simp only [impl_search.l0]
  rw [if_neg (by omega)]
theorem impl_l0_stop {v} (J : InvX l0 L T X K) (hi : i < L.length) (hp : Ev (fun k => is k (rd_L2 L i)) true) (hv : v = (X, (i : Int))) : Ev (fun k => impl_search.l0 is k X K i) v := by
  subst hv
  have := J.len
  obtain ⟨K1, h1⟩ := hp
  refine ⟨K1 + 1, fun k hk => ?_⟩
  obtain ⟨k, rfl⟩ : ∃ k', k = k' + 1 := ⟨k - 1, by omega⟩
  simp only [impl_search.l0, J.at_ hi, h1 k (by omega), Option.bind_some]
  rw [if_pos (by omega), if_pos (by omega)]
  rfl
theorem impl_l0_go {v} (J : InvX l0 L T X K) (hi : i < L.length) (hl : (rd_L2 L i).length ≤ 4) (hp : Ev (fun k => is k (rd_L2 L i)) false) (H : Ev (fun k => impl_search.l1 is k X K i (mvs (rd_L2 L i)) ((mvs (rd_L2 L i)).length : Int) ((0 : Nat) : Int)) v) : Ev (fun k => impl_search.l0 is k X K i) v := by
  have := J.len
  obtain ⟨K0, h0⟩ := hp
  obtain ⟨K1, h1⟩ := impl_doublingsOf.ev (rd_L2 L i) hl
  obtain ⟨K2, h2⟩ := H
  refine ⟨K0 + K1 + K2 + 1, fun k hk => ?_⟩
  obtain ⟨k, rfl⟩ : ∃ k', k = k' + 1 := ⟨k - 1, by omega⟩
  simp only [impl_search.l0, J.at_ hi, h0 k (by omega), h1 k (by omega), Option.bind_some, Bool.false_eq_true, if_false]
  rw [if_pos (by omega), if_pos (by omega)]
  exact h2 k (by omega)
theorem impl_l1_end {M : List S52} {j : Nat} (hj : j = M.length) (hi : i < 1000000) {v} (H : Ev (fun k => impl_search.l0 is k X K ((i + 1 : Nat) : Int)) v) : Ev (fun k => impl_search.l1 is k X K i M (M.length : Int) (j : Int)) v := by
  refine Ev.step (f := fun k => impl_search.l0 is k X K ((i + 1 : Nat) : Int)) (fun k => ?_) H
  simp only [impl_search.l1]
  rw [if_neg (by omega), w64s i (by omega)]
theorem impl_l1_skip (J : InvX l0 L T X K) (I : InvS n s i L F T) (h1n : 1 ≤ n) (hn : n ≤ 4) (hs : s ≤ 40) (hi : i < L.length) {done rest : List S52} {m : S52} (hr : (done ++ m :: rest).length ≤ 16) (c : canD (rd_L2 L i) m.f0 m.f1 = true) (hm : dMade (rd_L2 L i) m.f0 m.f1 ∈ L) {v} (H : Ev (fun k => impl_search.l1 is k X K i (done ++ m :: rest) ((done ++ m :: rest).length : Int) ((done ++ [m]).length : Int)) v) : Ev (fun k => impl_search.l1 is k X K i (done ++ m :: rest) ((done ++ m :: rest).length : Int) (done.length : Int)) v := by
  have st := (I.at_ hi).made hs c
  have hl := (I.at_ hi).1
  have hX := J.len
  obtain ⟨K1, h1⟩ := impl_heapsKey.ev st hn hs
  obtain ⟨K2, h2⟩ := H
  refine ⟨K1 + K2 + 1, fun k hk => ?_⟩
  obtain ⟨k, rfl⟩ : ∃ k', k = k' + 1 := ⟨k - 1, by omega⟩
  simp only [impl_search.l1, rdD_app, J.at_ hi, impl_doubled.is _ _ _ (show (rd_L2 L i).length ≤ 1048576 by omega) c, h1 k (by omega), J.seen I h1n hn hs st, Option.bind_some]
  simp only [List.length_append, List.length_cons] at hr
  rw [if_pos (by simp; omega), if_pos (by omega), if_pos (by simp; omega), if_pos (by omega), if_pos (by omega), if_pos (decide_eq_true hm), w64s done.length (by omega)]
  have := h2 k (by omega)
  simpa using this
theorem impl_l1_new (J : InvX l0 L T X K) (I : InvS n s i L F T) (h1n : 1 ≤ n) (hn : n ≤ 4) (hs : s ≤ 40) (hi : i < L.length) {done rest : List S52} {m : S52} (hr : (done ++ m :: rest).length ≤ 16) (c : canD (rd_L2 L i) m.f0 m.f1 = true) (hm : dMade (rd_L2 L i) m.f0 m.f1 ∉ L) {v}
    (H : Ev (fun k => impl_search.l1 is k (X ++ [⟨dMade (rd_L2 L i) m.f0 m.f1, (i : Int), ⟨m.f0, m.f1⟩⟩]) (K ++ [key (dMade (rd_L2 L i) m.f0 m.f1)]) i (done ++ m :: rest) ((done ++ m :: rest).length : Int) ((done ++ [m]).length : Int)) v) : Ev (fun k => impl_search.l1 is k X K i (done ++ m :: rest) ((done ++ m :: rest).length : Int) (done.length : Int)) v := by
  have st := (I.at_ hi).made hs c
  have hl := (I.at_ hi).1
  have hX := J.len
  have kl : K.length = L.length := by rw [J.2.1]; simp
  have ct := I.count h1n hn hs
  obtain ⟨K1, h1⟩ := impl_heapsKey.ev st hn hs
  obtain ⟨K2, h2⟩ := H
  refine ⟨K1 + K2 + 1, fun k hk => ?_⟩
  obtain ⟨k, rfl⟩ : ∃ k', k = k' + 1 := ⟨k - 1, by omega⟩
  simp only [impl_search.l1, rdD_app, J.at_ hi, impl_doubled.is _ _ _ (show (rd_L2 L i).length ≤ 1048576 by omega) c, h1 k (by omega), J.seen I h1n hn hs st, Option.bind_some]
  simp only [List.length_append, List.length_cons] at hr
  rw [if_pos (by simp; omega), if_pos (by omega), if_pos (by simp; omega), if_pos (by omega), if_pos (by omega), if_neg (by simp [hm]), if_pos (by omega), if_pos (by omega), w64s done.length (by omega)]
  have := h2 k (by omega)
  simpa using this
end
/-- How the two searches end: the program's either at the first heaps that p takes, or with all. -/
def Fin2 (l0 : List Int) (n : Nat) (s : Int) (p : List Int → Bool) (r : List (List Int)) (U : List Int) (X : List S89) (j : Int) : Prop :=
  (∃ F', InvS n s r.length r F' U) ∧ ((j = -1 ∧ (∃ K, InvX l0 r U X K) ∧ ∀ l ∈ r, p l = false) ∨
  ∃ (q : Nat) (L : List (List Int)) (T : List Int) (M : List (List Int)) (V : List Int), j = q ∧ q < L.length ∧ r = L ++ M ∧ U = T ++ V ∧ T.length = L.length ∧ (∃ K, InvX l0 L T X K) ∧ p (rd_L2 L q) = true ∧ ∀ a : Nat, a < q → p (rd_L2 L a) = false)
theorem both_seek {l0 : List Int} {n : Nat} {s : Int} (h1n : 1 ≤ n) (hn : n ≤ 4) (hs : s ≤ 40) (is : Nat → List Int → Option Bool) (p : List Int → Bool) (hp : ∀ l, St n s l → Ev (fun k => is k l) (p l)) : ∀ (e i : Nat) (L : List (List Int)) (F : List Bool) (T : List Int) (X : List S89) (K : List ByteArray), i + e = 68922 → InvS n s i L F T → InvX l0 L T X K → i ≤ L.length → (∀ a : Nat, a < i → p (rd_L2 L a) = false) →
    ∃ r U X' j, Ev (fun k => spec_dbFar.l1 k F L T i) (r, U) ∧ Ev (fun k => impl_search.l0 is k X K i) (X', j) ∧ Fin2 l0 n s p r U X' j := by
  intro e
  induction e with
  | zero =>
    intro i L F T X K hi I J hle _
    have := I.count h1n hn hs
    omega
  | succ e ih =>
    intro i L F T X K hi I J hle hno
    by_cases hlt : i < L.length
    · have st := I.at_ hlt
      have m16 := mvs_len (rd_L2 L i) (by rw [st.1]; exact hn)
      by_cases hpi : p (rd_L2 L i) = true
      · obtain ⟨M, V, F', h1, h2⟩ := spec_tot h1n hn hs (e + 1) i L F T hi I hle
        exact ⟨_, _, X, i, h1, impl_l0_stop J hlt (hpi ▸ hp _ st) rfl, ⟨F', h2⟩, Or.inr ⟨i, L, T, M, V, rfl, hlt, rfl, rfl, I.2.2.2.2.1, ⟨K, J⟩, hpi, hno⟩⟩
      have hpf : p (rd_L2 L i) = false := by simpa using hpi
      have inner : ∀ (rest done : List S52) (L' : List (List Int)) (F : List Bool) (T : List Int) (X : List S89) (K : List ByteArray), mvs (rd_L2 L i) = done ++ rest → InvS n s i L' F T → InvX l0 L' T X K → i < L'.length → (∀ a : Nat, a ≤ i → rd_L2 L' a = rd_L2 L a) → (∀ m ∈ done, dMade (rd_L2 L i) m.f0 m.f1 ∈ L') →
          ∃ r U X' j, Ev (fun k => spec_dbFar.l2 k F L' T i (done ++ rest) ((done ++ rest).length : Int) (done.length : Int)) (r, U) ∧ Ev (fun k => impl_search.l1 is k X K i (done ++ rest) ((done ++ rest).length : Int) (done.length : Int)) (X', j) ∧ Fin2 l0 n s p r U X' j := by
        intro rest
        induction rest with
        | nil =>
          intro done L' F T X K hm I J hi' hE hd
          have ct := I.count h1n hn hs
          obtain ⟨r, U, X', j, h1, h2, h3⟩ := ih (i + 1) L' F T X K (by omega) (I.next hi' (by rw [hE i (Nat.le_refl _), hm]; simpa using hd)) J (by omega) (fun a ha => by
            rw [hE a (by omega)]
            by_cases ea : a = i
            · rw [ea]; exact hpf
            · exact hno a (by omega))
          exact ⟨r, U, X', j, spec_l2_end (by simp) (by omega) h1, impl_l1_end (by simp) (by omega) h2, h3⟩
        | cons m rest ihr =>
          intro done L' F T X K hm I J hi' hE hd
          have hEi := hE i (Nat.le_refl _)
          have c : canD (rd_L2 L' i) m.f0 m.f1 = true := by rw [hEi]; exact (mvs_mem _ _).mp (by rw [hm]; simp)
          have hr : (done ++ m :: rest).length ≤ 16 := by rw [← hm]; exact m16
          by_cases hmem : dMade (rd_L2 L' i) m.f0 m.f1 ∈ L'
          · obtain ⟨r, U, X', j, h1, h2, h3⟩ := ihr (done ++ [m]) L' F T X K (by simpa using hm) I J hi' hE (fun z hz => by
              rcases List.mem_append.mp hz with hz | hz
              · exact hd z hz
              · rw [List.mem_singleton.mp hz, ← hEi]; exact hmem)
            exact ⟨r, U, X', j, spec_l2_skip I hn hs hi' hr c hmem (by simpa using h1), impl_l1_skip J I h1n hn hs hi' hr c hmem (by simpa using h2), h3⟩
          · obtain ⟨r, U, X', j, h1, h2, h3⟩ := ihr (done ++ [m]) (L' ++ [dMade (rd_L2 L' i) m.f0 m.f1]) _ _ _ _ (by simpa using hm) (I.grow hs hi' ((I.at_ hi').made hs c) hmem) (J.grow I.2.2.2.2.1 hi' c (by rw [hEi]; exact hm) (by rw [hEi]; exact hd) I.past) (by simp; omega) (fun a ha => by rw [rdL_app _ _ _ (by omega)]; exact hE a ha) (fun z hz => by
              rcases List.mem_append.mp hz with hz | hz
              · exact List.mem_append_left _ (hd z hz)
              · rw [List.mem_singleton.mp hz, ← hEi]; simp)
            exact ⟨r, U, X', j, spec_l2_new I h1n hn hs hi' hr c hmem (by simpa using h1), impl_l1_new J I h1n hn hs hi' hr c hmem (by simpa using h2), h3⟩
      obtain ⟨r, U, X', j, h1, h2, h3⟩ := inner (mvs (rd_L2 L i)) [] L F T X K rfl I J hlt (fun _ _ => rfl) (by simp)
      exact ⟨r, U, X', j, spec_l1_go hlt (by rw [st.1]; exact hn) (by simpa using h1), impl_l0_go J hlt (by rw [st.1]; exact hn) (hpf ▸ hp _ st) (by simpa using h2), h3⟩
    · have e : i = L.length := by omega
      refine ⟨L, T, X, -1, spec_l1_end hlt rfl, impl_l0_end J hlt rfl, ⟨F, e ▸ I⟩, Or.inl ⟨rfl, ⟨K, J⟩, fun l hl => ?_⟩⟩
      obtain ⟨a, ha, rfl⟩ := memL_rd hl
      exact hno a (by omega)
/-! the start -/
theorem far_start {n : Nat} {s : Int} {l : List Int} (h1n : 1 ≤ n) (hn : n ≤ 4) (hs : s ≤ 40) (h : St n s l) : ∃ F, InvS n s 0 [l] F [0] ∧ ∀ v, Ev (fun k => spec_dbFar.l1 k F [l] [0] ((0 : Nat) : Int)) v → Ev (fun k => spec_dbFar.f k l) v := by
  have p4 := pow41 hn
  have nb := num_le l 0 0 (fun x hx => by have := h.le x hx; omega) (by omega) (by simp)
  rw [Nat.zero_add, h.1] at nb
  refine ⟨(List.replicate ((41 : Int) ^ n).toNat false).set (num l 0).toNat true, ?_, fun v H => ?_⟩
  · refine ⟨?_, by simp, by simp; omega, ?_, rfl, ?_, ?_, ?_, ?_⟩
    · intro x hx; rw [List.mem_singleton.mp hx]; exact h
    · intro m hm
      have mb := num_le m 0 0 (fun x hx => by have := hm.le x hx; omega) (by omega) (by simp)
      rw [rdB_set _ _ _ nb.1 mb.1 (by simp; omega)]
      by_cases e : num l 0 = num m 0
      · rw [if_pos e]
        simp [num_ne hs h hm e]
      · rw [if_neg e]
        have e2 : m ≠ l := fun z => e (by rw [z])
        have e3 : rdOf false (List.replicate ((41 : Int) ^ n).toNat false) (num m 0) = false := by
          unfold rdOf
          rw [List.getD_eq_getElem?_getD, List.getElem?_replicate]
          split <;> rfl
        simp [e2, e3]
    · intro a ha
      simp only [List.length_singleton] at ha
      obtain rfl : a = 0 := by omega
      decide
    · intro a b hab hb
      simp only [List.length_singleton] at hb
      obtain rfl : b = 0 := by omega
      obtain rfl : a = 0 := by omega
      exact Int.le_refl _
    · intro _ a ha
      simp only [List.length_singleton] at ha
      obtain rfl : a = 0 := by omega
      decide
    · intro a ha
      omega
  · have loop : ∀ (e d : Nat), d + e = n → Ev (fun k => spec_dbFar.l0 k l ((41 : Int) ^ d) (l.length : Int) (d : Int)) v := by
      intro e
      induction e with
      | zero =>
        intro d hd
        obtain rfl : d = n := by omega
        obtain ⟨K1, h1⟩ := spec_dbNumber.ev h hn hs
        obtain ⟨K2, h2⟩ := H
        refine ⟨K1 + K2 + 1, fun k hk => ?_⟩
        obtain ⟨k, rfl⟩ : ∃ k', k = k' + 1 := ⟨k - 1, by omega⟩
        have hl := h.1
        simp only [spec_dbFar.l0, h1 k (by omega), Option.bind_some]
        rw [if_neg (by omega), if_pos (by omega), if_pos (by omega), if_pos (by omega), if_pos (by simp; omega)]
        unfold spec_l1Own.f
        simp only [Option.bind_some, List.nil_append]
        rw [if_pos (by simp; omega)]
        exact h2 k (by omega)
      | succ e ih =>
        intro d hd
        have pd := pow41 (show d + 1 ≤ 4 by omega)
        have pd0 := pow41 (show d ≤ 4 by omega)
        have hl := h.1
        refine Ev.step (f := fun k => spec_dbFar.l0 k l ((41 : Int) ^ (d + 1)) (l.length : Int) ((d + 1 : Nat) : Int)) (fun k => ?_) (ih (d + 1) (by omega))
        simp only [spec_dbFar.l0]
        rw [if_pos (by omega), w64s d (by omega), Int.pow_succ] at *
        rw [w64 _ (by omega) (by omega)]
    have := loop n 0 (by omega)
    simpa [spec_dbFar.f] using this
theorem search_start {n : Nat} {s : Int} {l : List Int} (h1n : 1 ≤ n) (hn : n ≤ 4) (hs : s ≤ 40) (h : St n s l) (is : Nat → List Int → Option Bool) : ∃ X, InvX l [l] [0] X [key l] ∧ ∀ v, Ev (fun k => impl_search.l0 is k X [key l] ((0 : Nat) : Int)) v → Ev (fun k => impl_search.f is k l) v := by
  refine ⟨[⟨l, -1, ⟨0, 0⟩⟩], ⟨rfl, rfl, rfl, rfl, rfl, Nat.le_refl 1, fun a h1 ha => by simp only [List.length_singleton] at ha; omega⟩, fun v H => ?_⟩
  have sz : (key l).size ≤ 1000 := by
    have := keyR_size l ⟨#[]⟩ (fun x hx => by have := h.le x hx; omega)
    have e0 : (⟨#[]⟩ : ByteArray).size = 0 := rfl
    rw [h.1, e0] at this
    unfold key
    omega
  obtain ⟨K1, h1⟩ := impl_heapsKey.ev h hn hs
  obtain ⟨K2, h2⟩ := H
  refine ⟨K1 + K2, fun k hk => ?_⟩
  have hl := h.1
  unfold impl_search.f slices_Clone_int_int.f seenHas.f
  rw [if_pos (by omega)]
  simp only [Option.bind_some, h1 k (by omega)]
  rw [if_pos ⟨sz, by simp⟩]
  exact h2 k (by omega)
/-- Both searches from heaps of n places with s stones. -/
theorem seek {n : Nat} {s : Int} {l : List Int} (h1n : 1 ≤ n) (hn : n ≤ 4) (hs : s ≤ 40) (h : St n s l) (is : Nat → List Int → Option Bool) (p : List Int → Bool) (hp : ∀ l, St n s l → Ev (fun k => is k l) (p l)) : ∃ r U X j, Ev (fun k => spec_dbFar.f k l) (r, U) ∧ Ev (fun k => impl_search.f is k l) (X, j) ∧ Fin2 l n s p r U X j := by
  obtain ⟨F, I, HS⟩ := far_start h1n hn hs h
  obtain ⟨X, J, HX⟩ := search_start h1n hn hs h is
  obtain ⟨r, U, X', j, h1, h2, h3⟩ := both_seek h1n hn hs is p hp 68922 0 [l] F [0] X [key l] (by omega) I J (by simp) (fun a ha => by omega)
  exact ⟨r, U, X', j, HS _ h1, HX _ h2, h3⟩
/-! what is reached by how few doublings -/
/-- p is reached from l by k doublings. -/
def Way (p : List Int → Bool) : Nat → List Int → Prop
  | 0, l => p l = true
  | k + 1, l => ∃ m : S52, canD l m.f0 m.f1 = true ∧ Way p k (dMade l m.f0 m.f1)
/-- .. and by no fewer. -/
def Mn (p : List Int → Bool) (k : Nat) (l : List Int) : Prop := Way p k l ∧ ∀ j, Way p j l → k ≤ j
/-- The first of the shortest ways. -/
def Lex (p : List Int → Bool) : Nat → List Int → List S52 → Prop
  | 0, _, ms => ms = []
  | t + 1, l, ms => ∃ (d : S52) (ms' done rest : List S52), ms = d :: ms' ∧ mvs l = done ++ d :: rest ∧ (∀ z ∈ done, ¬ Mn p t (dMade l z.f0 z.f1)) ∧ Mn p t (dMade l d.f0 d.f1) ∧ Lex p t (dMade l d.f0 d.f1) ms'
/-- The moves that lead from place a to place q, by who came from whom. -/
def Anc (X : List S89) (q : Nat) : Nat → List S52 → Prop
  | a, [] => a = q
  | a, d :: ms => ∃ b : Nat, 1 ≤ b ∧ b < X.length ∧ (rd_T89 X (b : Int)).f1 = (a : Int) ∧ (rd_T89 X (b : Int)).f2 = d ∧ Anc X q b ms
section
variable {l0 : List Int} {n : Nat} {s : Int} {i : Nat} {L : List (List Int)} {F : List Bool} {T : List Int} {X : List S89} {K : List ByteArray} {p : List Int → Bool}
theorem InvX.up (J : InvX l0 L T X K) : ∀ (a : Nat), a < L.length → ∀ (t k : Nat), rd T a = t → Way p k (rd_L2 L a) → Way p (k + t) l0 := by
  intro a
  induction a using Nat.strongRecOn with
  | _ a ih =>
    intro ha t k ht hw
    have hX := J.len
    obtain ⟨J1, J2, J3, J4, J6, J7, J5⟩ := J
    by_cases e : a = 0
    · subst e
      rw [show ((0 : Nat) : Int) = 0 from rfl] at ht hw
      rw [J3] at ht
      obtain rfl : t = 0 := by omega
      rw [← J6]; exact hw
    · obtain ⟨b, hb, e1, e2, e3, e4, e5⟩ := J5 a (by omega) (by omega)
      have h1 : Way p (k + 1) (rd_L2 L b) := ⟨_, e3, by rw [← e4]; exact hw⟩
      by_cases ht0 : t = 0
      · exfalso
        have hb0 : ∀ c : Nat, c < L.length → 0 ≤ rd T c := by
          intro c
          induction c using Nat.strongRecOn with
          | _ c ihc =>
            intro hc
            by_cases e : c = 0
            · subst e; rw [show ((0 : Nat) : Int) = 0 from rfl, J3]; omega
            · obtain ⟨b', hb', _, e2', _⟩ := J5 c (by omega) (by omega)
              have := ihc b' hb' (by omega)
              omega
        have := hb0 b (by omega)
        omega
      · have := ih b hb (by omega) (t - 1) (k + 1) (by omega) h1
        rw [show k + t = k + 1 + (t - 1) by omega]; exact this
theorem InvS.down (I : InvS n s L.length L F T) : ∀ (j a : Nat), a < L.length → Way p j (rd_L2 L a) → ∃ b : Nat, b < L.length ∧ p (rd_L2 L b) = true ∧ rd T b ≤ rd T a + j := by
  intro j
  induction j with
  | zero => intro a ha h; exact ⟨a, ha, h, by omega⟩
  | succ j ih =>
    rintro a ha ⟨m, c, h⟩
    obtain ⟨b, hb, e1, e2⟩ := I.2.2.2.2.2.2.2.2 a ha m.f0 m.f1 c
    obtain ⟨b', hb', e3, e4⟩ := ih b hb (by rw [e1]; exact h)
    exact ⟨b', hb', e3, by omega⟩
theorem InvX.back (J : InvX l0 L T X K) {q : Nat} : ∀ (a : Nat), a < L.length → ∀ ms, Anc X q a ms → ∃ full, Anc X q 0 full ∧ (∃ pre, full = pre ++ ms) := by
  intro a
  induction a using Nat.strongRecOn with
  | _ a ih =>
    intro ha ms h
    have hX := J.len
    by_cases e : a = 0
    · subst e; exact ⟨ms, h, [], rfl⟩
    · obtain ⟨b, hb, e1, _⟩ := J.2.2.2.2.2.2 a (by omega) (by omega)
      obtain ⟨full, h1, pre, h2⟩ := ih b hb (by omega) ((rd_T89 X (a : Int)).f2 :: ms) ⟨a, by omega, by omega, e1, rfl, h⟩
      exact ⟨full, h1, pre ++ [(rd_T89 X (a : Int)).f2], by rw [h2]; simp⟩
theorem InvX.anc (J : InvX l0 L T X K) {q : Nat} (hq : q < L.length) : ∀ (ms : List S52) (a : Nat), Anc X q a ms → a ≤ q ∧ a + ms.length ≤ q ∧ rd T q = rd T a + ms.length ∧ (p (rd_L2 L q) = true → Way p ms.length (rd_L2 L a)) := by
  intro ms
  induction ms with
  | nil =>
    intro a h
    obtain rfl : a = q := h
    exact ⟨Nat.le_refl _, by simp, by simp, fun h => h⟩
  | cons d ms ih =>
    rintro a ⟨b, h1, h2, h3, h4, h5⟩
    obtain ⟨i1, i2, i3, i4⟩ := ih b h5
    obtain ⟨b', hb, e1, e2, e3, e4, _⟩ := J.2.2.2.2.2.2 b h1 h2
    obtain rfl : b' = a := by omega
    refine ⟨by omega, by simp only [List.length_cons]; omega, by simp only [List.length_cons]; omega, fun hp => ?_⟩
    exact ⟨_, e3, by rw [← e4]; exact i4 hp⟩
theorem InvX.less (J : InvX l0 L T X K) {q : Nat} (hq : q < L.length) : ∀ (ms : List S52) (b c : Nat), c < b → Anc X q b ms → Way p ms.length (rd_L2 L c) → ∃ e : Nat, e < q ∧ p (rd_L2 L e) = true := by
  intro ms
  induction ms with
  | nil =>
    intro b c hc h hw
    obtain rfl : b = q := h
    exact ⟨c, hc, hw⟩
  | cons d ms ih =>
    rintro b c hc ⟨b', h1, h2, h3, h4, h5⟩ ⟨m, hm, hw⟩
    have hX := J.len
    obtain ⟨b'', hb, e1, e2, e3, e4, ⟨_, e6⟩⟩ := J.2.2.2.2.2.2 b' h1 h2
    obtain rfl : b'' = b := by omega
    have hmem := e6 c hc m ((mvs_mem _ _).mpr hm)
    obtain ⟨c', hc', e⟩ := memL_rd hmem
    simp only [List.length_take] at hc'
    have e' : rd_L2 L (c' : Int) = rd_L2 (L.take b') (c' : Int) := by
      have := rdL_app (L.take b') (L.drop b') c' (by simp; omega)
      rw [List.take_append_drop] at this
      exact this
    exact ih b' c' (by omega) h5 (by rw [e', e]; exact hw)
theorem InvX.lex (J : InvX l0 L T X K) {q : Nat} (hq : q < L.length) (hT : T.length = L.length) (h0 : ∀ a : Nat, a < T.length → 0 ≤ rd T a) (hp : p (rd_L2 L q) = true) (hno : ∀ a : Nat, a < q → p (rd_L2 L a) = false) {t : Nat} (ht : rd T q = t) (hmin : ∀ j, Way p j l0 → t ≤ j) : ∀ (ms : List S52) (a : Nat), Anc X q a ms → Lex p ms.length (rd_L2 L a) ms := by
  intro ms
  induction ms with
  | nil => intro a _; rfl
  | cons d ms ih =>
    rintro a ⟨b, h1, h2, h3, h4, h5⟩
    have hX := J.len
    obtain ⟨a', hb, e1, e2, e3, e4, ⟨⟨done, rest, e5, e6⟩, e7⟩⟩ := J.2.2.2.2.2.2 b h1 h2
    obtain rfl : a' = a := by omega
    have an := J.anc (p := p) hq ms b h5
    have hL := ih b h5
    rw [h4] at e4 e5
    refine ⟨d, ms, done, rest, rfl, e5, fun z hz hw => ?_, ⟨?_, ?_⟩, ?_⟩
    · obtain ⟨c', hc', e⟩ := memL_rd (e6 z hz)
      simp only [List.length_take] at hc'
      have e' : rd_L2 L (c' : Int) = rd_L2 (L.take b) (c' : Int) := by
        have := rdL_app (L.take b) (L.drop b) c' (by simp; omega)
        rw [List.take_append_drop] at this
        exact this
      obtain ⟨g, hg, hpg⟩ := J.less (p := p) hq ms b c' (by omega) h5 (by rw [e', e]; exact hw.1)
      rw [hno g hg] at hpg
      cases hpg
    · rw [← e4]; exact an.2.2.2 hp
    · intro j hj
      rw [← e4] at hj
      have := h0 b (by omega)
      obtain ⟨tb, htb⟩ := Int.eq_ofNat_of_zero_le this
      have := hmin _ (J.up b (by omega) tb j htb hj)
      omega
    · rw [← e4]; exact hL
end
/-! the way back -/
theorem rdD_atN (l : List S52) (i : Nat) (h : i < l.length) : rd_T52 l (i : Int) = l[i] := by simp [rd_T52, List.getD_eq_getElem?_getD, List.getElem?_eq_getElem h]
theorem impl_Doubling.l0ev (l : List S52) (hl : l.length ≤ 1048576) (d : Nat) : ∀ (i : Nat) (x : List S52), x.length = l.length → 2 * i + d = l.length →
    (∀ q, q < l.length → (q < i ∨ l.length ≤ q + i → x[q]? = l[l.length - 1 - q]?) ∧ (i ≤ q ∧ q + i < l.length → x[q]? = l[q]?)) →
    Ev (fun k => impl_Doubling.l0 k x i ((l.length : Int) - 1 - i)) l.reverse := by
  induction d using Nat.strongRecOn with
  | _ d ih =>
    intro i x hx hd hq
    by_cases c : d ≤ 1
    · have e : x = l.reverse := by
        apply List.ext_getElem?
        intro q
        by_cases hql : q < l.length
        · rw [List.getElem?_reverse hql]
          by_cases h1 : q < i ∨ l.length ≤ q + i
          · exact (hq q hql).1 h1
          · have h2 : i ≤ q ∧ q + i < l.length := by omega
            rw [(hq q hql).2 h2, show l.length - 1 - q = q by omega]
        · rw [List.getElem?_eq_none (by omega), List.getElem?_eq_none (by simp; omega)]
      refine Ev.step (f := fun _ => some l.reverse) (fun k => ?_) (Ev.now _)
      simp only [impl_Doubling.l0]
      rw [if_neg (by omega), e]
    · have hi : i < l.length := by omega
      have hj : l.length - 1 - i < l.length := by omega
      have ej : (l.length : Int) - 1 - i = ((l.length - 1 - i : Nat) : Int) := by omega
      have e1 : rd_T52 x ((l.length : Int) - 1 - i) = l[l.length - 1 - i] := by
        rw [ej]; unfold rd_T52
        rw [List.getD_eq_getElem?_getD, show (((l.length - 1 - i : Nat) : Int)).toNat = l.length - 1 - i by omega, (hq _ hj).2 (by omega), List.getElem?_eq_getElem hj]; rfl
      have e2 : rd_T52 x (i : Int) = l[i] := by
        unfold rd_T52
        rw [List.getD_eq_getElem?_getD, show ((i : Int)).toNat = i by omega, (hq _ hi).2 (by omega), List.getElem?_eq_getElem hi]; rfl
      have h := ih (d - 2) (by omega) (i + 1) ((x.set i l[l.length - 1 - i]).set (l.length - 1 - i) l[i]) (by simpa using hx) (by omega) (by
        intro q hql
        constructor
        · intro hqq
          rw [List.getElem?_set, List.getElem?_set]
          by_cases q1 : l.length - 1 - i = q
          · rw [if_pos q1, if_pos (by simp; omega), show l.length - 1 - q = i by omega, List.getElem?_eq_getElem hi]
          · rw [if_neg q1]
            by_cases q2 : i = q
            · rw [if_pos q2, if_pos (by omega), show l.length - 1 - q = l.length - 1 - i by omega, List.getElem?_eq_getElem hj]
            · rw [if_neg q2]; exact (hq q hql).1 (by omega)
        · intro hqq
          rw [List.getElem?_set_ne (by omega), List.getElem?_set_ne (by omega)]
          exact (hq q hql).2 (by omega))
      refine Ev.step (f := fun k => impl_Doubling.l0 k ((x.set i l[l.length - 1 - i]).set (l.length - 1 - i) l[i]) ((i + 1 : Nat) : Int) ((l.length : Int) - 1 - ((i + 1 : Nat) : Int))) (fun k => ?_) h
      simp only [impl_Doubling.l0]
      rw [if_pos (by omega), if_pos (by omega), if_pos (by omega), if_pos (by omega), if_pos (by omega), e1, e2, w64s i (by omega), w64 ((l.length : Int) - 1 - (i : Int) - 1) (by omega) (by omega)]
      congr 1
      · rw [show ((i : Int)).toNat = i by omega, show ((l.length : Int) - 1 - i).toNat = l.length - 1 - i by omega]
      · omega
theorem impl_Doubling.ev (l : List S52) (hl : l.length ≤ 1048576) : Ev (fun k => impl_Doubling.f k l) l.reverse := by
  have h := impl_Doubling.l0ev l hl l.length 0 l rfl (by omega) (fun q hq => ⟨fun h => by omega, fun _ => rfl⟩)
  unfold impl_Doubling.f
  rw [w64 _ (by omega) (by omega)]
  simpa using h
theorem wayTo_ev {l0 : List Int} {L : List (List Int)} {T : List Int} {X : List S89} {K : List ByteArray} (J : InvX l0 L T X K) {q : Nat} (hq : q < L.length) (hL : L.length ≤ 68921) : ∀ (a : Nat) (ms : List S52), Anc X q a ms → ∃ full, Anc X q 0 full ∧ Ev (fun k => impl_wayTo.l0 k X (a : Int) ms.reverse) full := by
  intro a
  induction a using Nat.strongRecOn with
  | _ a ih =>
    intro ms h
    have hX := J.len
    have an := J.anc (p := fun _ => true) hq ms a h
    by_cases e : a = 0
    · subst e
      refine ⟨ms, h, ?_⟩
      have hr := impl_Doubling.ev ms.reverse (by simp; omega)
      rw [List.reverse_reverse] at hr
      obtain ⟨K1, h1⟩ := hr
      refine ⟨K1 + 1, fun k hk => ?_⟩
      obtain ⟨k, rfl⟩ : ∃ k', k = k' + 1 := ⟨k - 1, by omega⟩
      simp only [impl_wayTo.l0]
      have h4 := J.2.2.2.1
      rw [if_pos (by omega), if_pos (by omega), show ((0 : Nat) : Int) = 0 from rfl, h4, if_neg (by omega)]
      simp only [h1 k (by omega), Option.bind_some]
    · obtain ⟨b, hb, e1, _⟩ := J.2.2.2.2.2.2 a (by omega) (by omega)
      obtain ⟨full, h1, h2⟩ := ih b hb ((rd_T89 X (a : Int)).f2 :: ms) ⟨a, by omega, by omega, e1, rfl, h⟩
      refine ⟨full, h1, Ev.step (f := fun k => impl_wayTo.l0 k X (b : Int) (((rd_T89 X (a : Int)).f2 :: ms).reverse)) (fun k => ?_) h2⟩
      simp only [impl_wayTo.l0]
      rw [if_pos (by omega), if_pos (by omega), e1, if_pos (by omega), if_pos (by simp; omega), List.reverse_cons]
/-- What the program's search finds, and what the specification's holds beside it. -/
def FewR (p : List Int → Bool) (l : List Int) (r : List (List Int)) (U : List Int) (X : List S89) (j : Int) : Prop :=
  U.length = r.length ∧ r.length ≤ 68921 ∧ ((j = -1 ∧ (∀ x ∈ r, p x = false) ∧ ∀ k, ¬ Way p k l) ∨
  ∃ (q t : Nat) (ms : List S52), j = q ∧ q < r.length ∧ p (rd_L2 r q) = true ∧ (∀ a : Nat, a < q → p (rd_L2 r a) = false) ∧ rd U q = t ∧ Mn p t l ∧ t ≤ 68921 ∧ ms.length = t ∧ Lex p t l ms ∧ Ev (fun k => impl_wayTo.f k X j) ms)
theorem few_core {n : Nat} {s : Int} {l : List Int} (h1n : 1 ≤ n) (hn : n ≤ 4) (hs : s ≤ 40) (h : St n s l) (is : Nat → List Int → Option Bool) (p : List Int → Bool) (hp : ∀ l, St n s l → Ev (fun k => is k l) (p l)) :
    ∃ r U X j, Ev (fun k => spec_dbFar.f k l) (r, U) ∧ Ev (fun k => impl_search.f is k l) (X, j) ∧ FewR p l r U X j := by
  obtain ⟨r, U, X, j, e1, e2, ⟨F, I⟩, H⟩ := seek h1n hn hs h is p hp
  have ct := I.count h1n hn hs
  refine ⟨r, U, X, j, e1, e2, I.2.2.2.2.1, ct, ?_⟩
  rcases H with ⟨rfl, ⟨K, J⟩, hno⟩ | ⟨q, L, T, M, V, rfl, hq, rfl, rfl, hT, ⟨K, J⟩, hpq, hno⟩
  · refine Or.inl ⟨rfl, hno, fun k hk => ?_⟩
    have J6 := J.2.2.2.2.1
    have J7 := J.2.2.2.2.2.1
    obtain ⟨b, hb, hb2, _⟩ := I.down (p := p) k 0 (by omega) (by rw [show ((0 : Nat) : Int) = 0 from rfl, J6]; exact hk)
    rw [hno _ (rdL_mem hb)] at hb2
    cases hb2
  · have J3 := J.2.2.1
    have J6 := J.2.2.2.2.1
    have J7 := J.2.2.2.2.2.1
    have tb := I.2.2.2.2.2.1 q (by simp; omega)
    rw [rd_appl _ _ _ (by omega)] at tb
    obtain ⟨t, ht⟩ := Int.eq_ofNat_of_zero_le tb.1
    have hway : Way p (0 + t) l := J.up q hq t 0 ht hpq
    rw [Nat.zero_add] at hway
    have hmin : ∀ j, Way p j l → t ≤ j := by
      intro j hj
      obtain ⟨b, hb, hb2, hb3⟩ := I.down (p := p) j 0 (by simp; omega) (by rw [rdL_app _ _ _ (by omega), show ((0 : Nat) : Int) = 0 from rfl, J6]; exact hj)
      have e0 : rd (T ++ V) ((0 : Nat) : Int) = 0 := by rw [rd_appl _ _ _ (by omega)]; exact J3
      have : q ≤ b := by
        by_cases c : b < q
        · rw [rdL_app _ _ _ (by omega), hno b c] at hb2; cases hb2
        · omega
      have h7 := I.2.2.2.2.2.2.1 q b this (by rw [I.2.2.2.2.1]; exact hb)
      rw [rd_appl _ _ q (by omega)] at h7
      omega
    obtain ⟨ms, h1, h2⟩ := wayTo_ev J hq (by simp at ct; omega) q [] rfl
    have an := J.anc (p := p) hq ms 0 h1
    have e0 : rd T ((0 : Nat) : Int) = 0 := J3
    have el : ms.length = t := by omega
    refine Or.inr ⟨q, t, ms, rfl, by simp; omega, by rw [rdL_app _ _ _ hq]; exact hpq, fun a ha => by rw [rdL_app _ _ _ (by omega)]; exact hno a ha, by rw [rd_appl _ _ _ (by omega)]; exact ht, ⟨hway, hmin⟩, ?_, el, ?_, ?_⟩
    · simp at ct; omega
    · have := J.lex (p := p) hq hT (fun a ha => by have := (I.2.2.2.2.2.1 a (by simp; omega)).1; rw [rd_appl _ _ _ ha] at this; exact this) hpq hno ht hmin ms 0 h1
      rw [show ((0 : Nat) : Int) = 0 from rfl, J6, el] at this
      exact this
    · unfold impl_wayTo.f
      simpa using h2
theorem spec_l1Same.l0ev (n : Int) (hn : n ≤ 1048576) : ∀ (ta tb da db : List Int), da.length = db.length → ta.length = tb.length → ((da ++ ta).length : Int) = n → Ev (fun k => spec_l1Same.l0 k (da ++ ta) (db ++ tb) n da.length) (decide (ta = tb)) := by
  intro ta
  induction ta with
  | nil =>
    intro tb da db hd ht hl
    have htb : tb = [] := List.eq_nil_of_length_eq_zero (by simpa using ht.symm)
    subst htb
    refine Ev.step (f := fun _ => some true) (fun k => ?_) (by simpa using Ev.now true)
    simp only [spec_l1Same.l0]
    simp at hl
    rw [if_neg (by omega)]
  | cons x xs ih =>
    intro tb da db hd ht hl
    cases tb with
    | nil => simp at ht
    | cons y ys =>
      have hl' : (da.length : Int) + (xs.length + 1) = n := by simpa using hl
      have e1 : rd (da ++ x :: xs) (da.length : Int) = x := by simp [rd]
      have e2 : rd (db ++ y :: ys) (da.length : Int) = y := by rw [hd]; simp [rd]
      by_cases c : x = y
      · have h := ih ys (da ++ [x]) (db ++ [y]) (by simp [hd]) (by simpa using ht) (by simp; omega)
        have e3 : decide (x :: xs = y :: ys) = decide (xs = ys) := by simp [c]
        refine Ev.step (f := fun k => spec_l1Same.l0 k (da ++ [x] ++ xs) (db ++ [y] ++ ys) n ((da ++ [x]).length : Int)) (fun k => ?_) (by rw [e3]; exact h)
        simp only [spec_l1Same.l0]
        rw [if_pos (by omega), if_pos (by omega), if_pos (by simp; omega), if_pos (by simp; omega), e1, e2, if_pos c, w64s da.length (by omega)]
        simp
      · have e3 : decide (x :: xs = y :: ys) = false := by simp [c]
        refine Ev.step (f := fun _ => some false) (fun k => ?_) (by rw [e3]; exact Ev.now _)
        simp only [spec_l1Same.l0]
        rw [if_pos (by omega), if_pos (by omega), if_pos (by simp; omega), if_pos (by simp; omega), e1, e2, if_neg c]
theorem spec_l1Same.ev (a b : List Int) (ha : a.length ≤ 1048576) : Ev (fun k => spec_l1Same.f k a b) (decide (a = b)) := by
  unfold spec_l1Same.f
  by_cases c : (a.length : Int) = (b.length : Int)
  · have h := spec_l1Same.l0ev a.length (by omega) a b [] [] rfl (by omega) (by simp)
    simp only [if_pos c]
    simpa using h
  · have e : decide (a = b) = false := by
      have : a ≠ b := fun h => c (by rw [h])
      simp [this]
    simp only [if_neg c, e]
    exact Ev.now _
theorem slices_Equal_int_int.l0ev (n : Int) (hn : n ≤ 1048576) : ∀ (ta tb da db : List Int), da.length = db.length → ta.length = tb.length → ((da ++ ta).length : Int) = n → Ev (fun k => slices_Equal_int_int.l0 k (da ++ ta) (db ++ tb) n da.length) (decide (ta = tb)) := by
  intro ta
  induction ta with
  | nil =>
    intro tb da db hd ht hl
    have htb : tb = [] := List.eq_nil_of_length_eq_zero (by simpa using ht.symm)
    subst htb
    refine Ev.step (f := fun _ => some true) (fun k => ?_) (by simpa using Ev.now true)
    simp only [slices_Equal_int_int.l0]
    simp at hl
    rw [if_neg (by omega)]
  | cons x xs ih =>
    intro tb da db hd ht hl
    cases tb with
    | nil => simp at ht
    | cons y ys =>
      have hl' : (da.length : Int) + (xs.length + 1) = n := by simpa using hl
      have e1 : rd (da ++ x :: xs) (da.length : Int) = x := by simp [rd]
      have e2 : rd (db ++ y :: ys) (da.length : Int) = y := by rw [hd]; simp [rd]
      by_cases c : x = y
      · have h := ih ys (da ++ [x]) (db ++ [y]) (by simp [hd]) (by simpa using ht) (by simp; omega)
        have e3 : decide (x :: xs = y :: ys) = decide (xs = ys) := by simp [c]
        refine Ev.step (f := fun k => slices_Equal_int_int.l0 k (da ++ [x] ++ xs) (db ++ [y] ++ ys) n ((da ++ [x]).length : Int)) (fun k => ?_) (by rw [e3]; exact h)
        simp only [slices_Equal_int_int.l0]
        rw [if_pos (by omega), if_pos (by omega), if_pos (by simp; omega), if_pos (by simp; omega), e1, e2, if_pos c, w64s da.length (by omega)]
        simp
      · have e3 : decide (x :: xs = y :: ys) = false := by simp [c]
        refine Ev.step (f := fun _ => some false) (fun k => ?_) (by rw [e3]; exact Ev.now _)
        simp only [slices_Equal_int_int.l0]
        rw [if_pos (by omega), if_pos (by omega), if_pos (by simp; omega), if_pos (by simp; omega), e1, e2, if_neg c]
theorem slices_Equal_int_int.ev (a b : List Int) (ha : a.length ≤ 1048576) : Ev (fun k => slices_Equal_int_int.f k a b) (decide (a = b)) := by
  unfold slices_Equal_int_int.f
  by_cases c : (a.length : Int) = (b.length : Int)
  · have h := slices_Equal_int_int.l0ev a.length (by omega) a b [] [] rfl (by omega) (by simp)
    simp only [if_pos c]
    simpa using h
  · have e : decide (a = b) = false := by
      have : a ≠ b := fun h => c (by rw [h])
      simp [this]
    simp only [if_neg c, e]
    exact Ev.now _
def isG (g l : List Int) : Bool := decide (l = g)
theorem spec_FewestToBecome.l0ev {g : List Int} {r : List (List Int)} {U : List Int} (hU : U.length = r.length) (hr : r.length ≤ 68921) (h4 : ∀ x ∈ r, x.length ≤ 4) {v : Int × Bool} : ∀ (e i : Nat), i + e = r.length → ((∃ q : Nat, i ≤ q ∧ q < r.length ∧ isG g (rd_L2 r q) = true ∧ (∀ a : Nat, a < q → isG g (rd_L2 r a) = false) ∧ v = (rd U q, true)) ∨ (v = (0, false) ∧ ∀ x ∈ r, isG g x = false)) → Ev (fun k => spec_FewestToBecome.l0 k g U r (r.length : Int) i) v := by
  intro e
  induction e with
  | zero =>
    rintro i hi (⟨q, h1, h2, _⟩ | ⟨rfl, h⟩)
    · omega
    · refine Ev.step (f := fun _ => some (0, false)) (fun k => ?_) (Ev.now _)
      simp only [spec_FewestToBecome.l0]
      rw [if_neg (by omega)]
  | succ e ih =>
    intro i hi H
    have hil : i < r.length := by omega
    obtain ⟨K1, h1⟩ := spec_l1Same.ev (rd_L2 r i) g (by have := h4 _ (rdL_mem hil); omega)
    by_cases c : isG g (rd_L2 r i) = true
    · have hv : (rd U i, true) = v := by
        rcases H with ⟨q, h2, h3, h5, h6, h7⟩ | ⟨_, h⟩
        · have : q = i := by
            by_cases e : i < q
            · rw [h6 i e] at c; cases c
            · omega
          rw [← this]; exact h7.symm
        · rw [h _ (rdL_mem hil)] at c; cases c
      have c2 : decide (rd_L2 r i = g) = true := c
      refine ⟨K1 + 1, fun k hk => ?_⟩
      obtain ⟨k, rfl⟩ : ∃ k', k = k' + 1 := ⟨k - 1, by omega⟩
      simp only [spec_FewestToBecome.l0, h1 k (by omega), c2, Option.bind_some, if_true]
      rw [if_pos (by omega), if_pos (by omega), if_pos (by omega), if_pos (by omega), hv]
    · have c' : isG g (rd_L2 r i) = false := by simpa using c
      have c2 : decide (rd_L2 r i = g) = false := c'
      obtain ⟨K2, h2⟩ := ih (i + 1) (by omega) (by
        rcases H with ⟨q, h2, h3, h5, h6, h7⟩ | h
        · refine Or.inl ⟨q, ?_, h3, h5, h6, h7⟩
          by_cases e : q = i
          · subst e; exact absurd h5 c
          · omega
        · exact Or.inr h)
      refine ⟨K1 + K2 + 1, fun k hk => ?_⟩
      obtain ⟨k, rfl⟩ : ∃ k', k = k' + 1 := ⟨k - 1, by omega⟩
      simp only [spec_FewestToBecome.l0, h1 k (by omega), c2, Option.bind_some, Bool.false_eq_true, if_false]
      rw [if_pos (by omega), if_pos (by omega), if_pos (by omega), w64s i (by omega)]
      exact h2 k (by omega)
theorem Ev.unique2 {α : Type} {g : Nat → Option α} {a b : α} (h1 : Ev g a) (h2 : Ev g b) : a = b := by
  obtain ⟨K1, h1⟩ := h1
  obtain ⟨K2, h2⟩ := h2
  have e := (h1 (K1 + K2) (by omega)).symm.trans (h2 (K1 + K2) (by omega))
  exact Option.some.inj e
theorem both_FewestToBecome (l g : List Int) (hl : l.length ≤ 1048576) : ∃ v : Int × Bool, Ev (fun k => spec_FewestToBecome.f k l g) v ∧ Ev (fun k => impl_FewestToBecome.f k l g) v := by
  by_cases h : isFew l = true
  · by_cases hg : (g.length : Int) = (l.length : Int)
    · obtain ⟨h2, h4, s, hs1, hs2, st⟩ := few_st h
      have hne : ((g.length : Int) != (l.length : Int)) = false := by simpa using hg
      have hp : ∀ m, St l.length s m → Ev (fun k => slices_Equal_int_int.f k m g) (isG g m) := fun m hm => slices_Equal_int_int.ev m g (by rw [hm.1]; omega)
      obtain ⟨r, U, X, j, e1, e2, hU, hr, H⟩ := few_core (by omega) h4 hs2 st (fun k m => slices_Equal_int_int.f k m g) (isG g) hp
      obtain ⟨r', U', X', j', e1', e2', ⟨⟨F, I⟩, _⟩⟩ := seek (by omega) h4 hs2 st (fun k m => slices_Equal_int_int.f k m g) (isG g) hp
      have hr4 : ∀ x ∈ r, x.length ≤ 4 := by
        have ee := Ev.unique2 e1 e1'
        obtain ⟨rfl, rfl⟩ : r = r' ∧ U = U' := by simpa using ee
        exact fun x hx => by rw [(I.1 x hx).1]; exact h4
      rcases H with ⟨rfl, h1, h2⟩ | ⟨q, t, ms, rfl, h1, h2', h3, h4', h5, h6, h7, h8, h9⟩
      · refine ⟨(0, false), Ev.bind (spec_dbGood.ev l hl) ?_, Ev.bind (impl_AreFewHeaps.ev l hl) ?_⟩
        · simp only [h, if_true, hne]
          refine Ev.step (f := fun k => (spec_dbFar.f k l).bind fun bt => spec_FewestToBecome.l0 k g bt.2 bt.1 (bt.1.length : Int) 0) (fun k => by simp [spec_FewestToBecome.j0]) ?_
          exact Ev.bind e1 (spec_FewestToBecome.l0ev hU hr hr4 r.length 0 (by omega) (Or.inr ⟨rfl, h1⟩))
        · simp only [h, if_true, if_pos hg]
          exact Ev.bind e2 (Ev.now _)
      · refine ⟨((t : Int), true), Ev.bind (spec_dbGood.ev l hl) ?_, Ev.bind (impl_AreFewHeaps.ev l hl) ?_⟩
        · simp only [h, if_true, hne]
          refine Ev.step (f := fun k => (spec_dbFar.f k l).bind fun bt => spec_FewestToBecome.l0 k g bt.2 bt.1 (bt.1.length : Int) 0) (fun k => by simp [spec_FewestToBecome.j0]) ?_
          exact Ev.bind e1 (spec_FewestToBecome.l0ev hU hr hr4 r.length 0 (by omega) (Or.inl ⟨q, by omega, h1, h2', h3, by rw [h4']⟩))
        · simp only [h, if_true, if_pos hg]
          refine Ev.bind e2 ?_
          simp only [show ¬ ((q : Int) < 0) by omega, if_false]
          refine Ev.bind h9 ?_
          rw [h7]
          exact Ev.now _
    · have hne : ((g.length : Int) != (l.length : Int)) = true := by simpa using hg
      refine ⟨(0, false), Ev.bind (spec_dbGood.ev l hl) ?_, Ev.bind (impl_AreFewHeaps.ev l hl) ?_⟩
      · simp only [h, if_true, hne]
        exact Ev.step (f := fun _ => some (0, false)) (fun k => by simp [spec_FewestToBecome.j0]) (Ev.now _)
      · simp only [h, if_true, if_neg hg]
        exact Ev.now _
  · refine ⟨(0, false), Ev.bind (spec_dbGood.ev l hl) ?_, Ev.bind (impl_AreFewHeaps.ev l hl) ?_⟩
    · simp only [h]
      exact Ev.step (f := fun _ => some (0, false)) (fun k => by simp [spec_FewestToBecome.j0]) (Ev.now _)
    · simp only [h]; exact Ev.now _
theorem FnExactFewestToBecome : laws_FnExactFewestToBecome.Pure := by
  intro l g _ _ _ _ _ _
  by_cases hl : (l.length : Int) > 1048576
  · exact ⟨0, by unfold laws_FnExactFewestToBecome.f; rw [if_pos hl]⟩
  by_cases hg : (g.length : Int) > 1048576
  · exact ⟨0, by unfold laws_FnExactFewestToBecome.f; rw [if_neg hl, if_pos hg]⟩
  obtain ⟨K1, h1⟩ := laws_toIntS.ev l (by omega)
  obtain ⟨K5, h5⟩ := laws_toIntS.ev g (by omega)
  obtain ⟨v, ⟨K2, h2⟩, ⟨K3, h3⟩⟩ := both_FewestToBecome l g (by omega)
  obtain ⟨v, b⟩ := v
  obtain ⟨K4, h4⟩ := laws_eqIntS.ev l (by omega)
  obtain ⟨K6, h6⟩ := laws_eqIntS.ev g (by omega)
  dsimp only at h1 h2 h3 h4 h5 h6
  refine ⟨K1 + K2 + K3 + K4 + K5 + K6 + 1, ?_⟩
  simp (disch := omega) only [laws_FnExactFewestToBecome.f, if_neg hl, if_neg hg, h1, h2, h3, h4, h5, h6, Option.bind_some, bne_self_eq_false, Bool.false_eq_true, if_true, if_false]
  simp (disch := omega) only [laws_FnExactFewestToBecome.j0, h1, h4, h5, h6, Option.bind_some, Bool.false_eq_true, if_true, if_false]

end Go.Proofs.YtdlalgciieickaaDoor.Pure
