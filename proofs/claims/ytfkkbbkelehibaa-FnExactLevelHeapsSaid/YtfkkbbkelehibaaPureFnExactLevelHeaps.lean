/- The program's LevelHeaps returns what the reference's returns, for all arguments. It has no conditions. -/
import Derived.Test.YtfkkbbkelehibaaPFnExactLevelHeapsx2
namespace Go.Proofs.Ytfkkbbkelehibaa.Pure
open Go.RowKit Go.Proofs.Ytfkkbbkelehibaa.PFnExactLevelHeaps Go.Proofs.YtfkkbbkelehibaaW.PrintWords Go.Proofs.YtfkkbbkelehibaaW.PrintLast
set_option linter.unusedVariables false
set_option linter.unusedSimpArgs false

/-! ### small words -/
theorem w64 (n : Int) (h1 : -9223372036854775808 ≤ n) (h2 : n ≤ 9223372036854775807) : wrap64 n = n := by unfold wrap64; omega
theorem w64s (i : Nat) (h : i < 9223372036854775807) : wrap64 ((i : Int) + 1) = ((i + 1 : Nat) : Int) := by unfold wrap64; omega
theorem rd_at (l : List Int) (i : Nat) (h : i < l.length) : rd l (i : Int) = l[i] := by simp [rd, List.getD_eq_getElem?_getD, List.getElem?_eq_getElem h]
theorem wf64 {x : Int} (h : (Lit.int .i64 x).wf = true) : -9223372036854775808 ≤ x ∧ x ≤ 9223372036854775807 := by
  simp [Lit.wf, IntKind.min, IntKind.max, IntKind.bits, IntKind.signed] at h
  omega
theorem laws_eqIntS.l0ev (l : List Int) (hl : l.length ≤ 1048576) (d : Nat) : ∀ i, i + d = l.length → Ev (fun k => laws_eqIntS.l0 k l l i) true := by
  induction d with
  | zero =>
    intro i hi
    refine Ev.step (f := fun _ => some true) (fun k => ?_) (Ev.now _)
    simp only [laws_eqIntS.l0]
    rw [if_neg (by omega)]
  | succ d ih =>
    intro i hi
    refine Ev.step (f := fun k => laws_eqIntS.l0 k l l ((i + 1 : Nat) : Int)) (fun k => ?_) (ih (i + 1) (by omega))
    simp only [laws_eqIntS.l0]
    rw [if_pos (by omega), if_pos (by omega), if_pos (by omega), if_pos trivial, w64s i (by omega)]
theorem laws_eqIntS.ev (l : List Int) (hl : l.length ≤ 1048576) : Ev (fun k => laws_eqIntS.f k l l) true := by
  unfold laws_eqIntS.f
  simp only [if_true]
  exact laws_eqIntS.l0ev l hl l.length 0 (by omega)
/-- Marked cells, from k on. -/
def marks : List Int → Int → List Int
  | [], _ => []
  | _ :: xs, k => k :: marks xs (k + 1)
theorem marks_length : ∀ (l : List Int) (k : Int), (marks l k).length = l.length
  | [], _ => rfl
  | _ :: xs, k => by simp [marks, marks_length xs]
theorem laws_markIntS.l0ev (hd : List Int) : ∀ (tl done : List Int) (m : Int), done.length + tl.length ≤ 1048576 → 0 ≤ m → m ≤ 1048577 + done.length →
    Ev (fun k => laws_markIntS.l0 k (done ++ tl) m done.length) (m + tl.length, done ++ marks tl m) := by
  intro tl
  induction tl with
  | nil =>
    intro done m h1 h2 h3
    refine Ev.step (f := fun _ => some (m, done)) (fun k => ?_) (by simpa [marks] using Ev.now (m, done))
    simp only [laws_markIntS.l0]
    rw [if_neg (by simp)]
    simp
  | cons x xs ih =>
    intro done m h1 h2 h3
    simp only [List.length_cons] at h1
    have h := ih (done ++ [m]) (m + 1) (by simp; omega) (by omega) (by simp; omega)
    refine Ev.step (f := fun k => laws_markIntS.l0 k (done ++ [m] ++ xs) (m + 1) ((done ++ [m]).length : Int)) (fun k => ?_) ?_
    · simp only [laws_markIntS.l0]
      rw [if_pos (by simp; omega), if_pos (by omega), w64 (m + 1) (by omega) (by omega), w64s done.length (by omega)]
      congr 1
      · simp [List.set_append_right]
      · simp
    · have e : (m + ((x :: xs).length : Int), done ++ marks (x :: xs) m) = (m + 1 + (xs.length : Int), done ++ [m] ++ marks xs (m + 1)) := by
        simp [marks]; omega
      rw [e]; exact h
theorem laws_markIntS.ev (l : List Int) (hl : l.length ≤ 1048576) : Ev (fun k => laws_markIntS.f k l 1) (1 + (l.length : Int), marks l 1) := by
  have h := laws_markIntS.l0ev [] l [] 1 (by simpa using hl) (by omega) (by simp)
  simpa [laws_markIntS.f] using h
theorem laws_heldIntS.l0ev : ∀ (tl done : List Int) (m : Int), done.length + tl.length ≤ 1048576 → 0 ≤ m → m ≤ 1048577 + done.length →
    Ev (fun k => laws_heldIntS.l0 k (done ++ marks tl m) m done.length) (m + tl.length) := by
  intro tl
  induction tl with
  | nil =>
    intro done m h1 h2 h3
    refine Ev.step (f := fun _ => some m) (fun k => ?_) (by simpa [marks] using Ev.now m)
    simp only [laws_heldIntS.l0]
    rw [if_neg (by simp [marks])]
  | cons x xs ih =>
    intro done m h1 h2 h3
    simp only [List.length_cons] at h1
    have h := ih (done ++ [m]) (m + 1) (by simp; omega) (by omega) (by simp; omega)
    refine Ev.step (f := fun k => laws_heldIntS.l0 k (done ++ [m] ++ marks xs (m + 1)) (m + 1) ((done ++ [m]).length : Int)) (fun k => ?_) ?_
    · simp only [laws_heldIntS.l0]
      rw [if_pos (by simp [marks]; omega), if_pos (by omega), if_pos (by simp [rd, marks]), w64 (m + 1) (by omega) (by omega), w64s done.length (by omega)]
      congr 1
      · simp [marks]
      · simp
    · have e : m + ((x :: xs).length : Int) = m + 1 + (xs.length : Int) := by simp; omega
      rw [e]; exact h
theorem laws_heldIntS.ev (l : List Int) (hl : l.length ≤ 1048576) : Ev (fun k => laws_heldIntS.f k (marks l 1) 1) (1 + (l.length : Int)) := by
  have h := laws_heldIntS.l0ev l [] 1 (by simpa using hl) (by omega) (by simp)
  simpa [laws_heldIntS.f] using h
theorem spec_l1In.is (x a b : Int) : spec_l1In.f x a b = some (decide (a ≤ x) && decide (x ≤ b)) := by
  unfold spec_l1In.f
  by_cases h : x ≥ a
  · simp [h, show a ≤ x from h]
  · simp [h, show ¬ a ≤ x from h]
theorem impl_within.is (x a b : Int) : impl_within.f x a b = some (decide (a ≤ x) && decide (x ≤ b)) := by
  unfold impl_within.f
  by_cases h : x ≥ a
  · simp [h, show a ≤ x from h]
  · simp [h, show ¬ a ≤ x from h]
/-- The sum of a list's values under f. -/
def tot (f : Int → Int) : List Int → Int
  | [] => 0
  | x :: xs => f x + tot f xs
theorem rd_set_eq (v : List Int) (i : Nat) (x : Int) (h : i < v.length) : rd (v.set i x) (i : Int) = x := by
  simp [rd, List.getD_eq_getElem?_getD, h]
theorem rd_set_neN (v : List Int) (i j : Nat) (x : Int) (h : i ≠ j) : rd (v.set i x) (j : Int) = rd v (j : Int) := by
  simp [rd, List.getD_eq_getElem?_getD, List.getElem?_set_ne h]
theorem rd_cons_succ (y : Int) (ys : List Int) (i : Nat) : rd (y :: ys) ((i + 1 : Nat) : Int) = rd ys (i : Int) := by
  unfold rd
  rw [show (((i + 1 : Nat) : Int)).toNat = i + 1 by omega, show ((i : Int)).toNat = i by omega]
  simp
theorem tot_set (f : Int → Int) : ∀ (v : List Int) (i : Nat) (x : Int), i < v.length → tot f (v.set i x) = tot f v - f (rd v (i : Int)) + f x
  | [], i, x, h => by simp at h
  | y :: ys, 0, x, h => by simp [tot, rd]; omega
  | y :: ys, i + 1, x, h => by
    have := tot_set f ys i x (by simpa using h)
    rw [List.set_cons_succ, tot, tot, this, rd_cons_succ]
    omega
theorem mem_rd {v : List Int} {x : Int} (h : x ∈ v) : ∃ a : Nat, a < v.length ∧ rd v (a : Int) = x := by
  obtain ⟨a, ha, e⟩ := List.mem_iff_getElem.mp h
  exact ⟨a, ha, by rw [rd_at v a ha, e]⟩
theorem rd_mem {v : List Int} {a : Nat} (h : a < v.length) : rd v (a : Int) ∈ v := by
  rw [rd_at v a h]; exact List.getElem_mem h
theorem tot_nonpos : ∀ (v : List Int), (∀ x ∈ v, x ≤ 0) → tot id v ≤ 0 ∧ (tot id v = 0 → ∀ x ∈ v, x = 0)
  | [], _ => ⟨by simp [tot], by simp⟩
  | y :: ys, h => by
    have h1 := tot_nonpos ys (fun x hx => h x (by simp [hx]))
    have h2 := h y (by simp)
    constructor
    · simp only [tot, id]; omega
    · intro e
      simp only [tot, id] at e
      intro x hx
      rcases List.mem_cons.mp hx with rfl | hx
      · omega
      · exact h1.2 (by omega) x hx
theorem tot_nonneg : ∀ (v : List Int), (∀ x ∈ v, 0 ≤ x) → 0 ≤ tot id v ∧ (tot id v = 0 → ∀ x ∈ v, x = 0)
  | [], _ => ⟨by simp [tot], by simp⟩
  | y :: ys, h => by
    have h1 := tot_nonneg ys (fun x hx => h x (by simp [hx]))
    have h2 := h y (by simp)
    constructor
    · simp only [tot, id]; omega
    · intro e
      simp only [tot, id] at e
      intro x hx
      rcases List.mem_cons.mp hx with rfl | hx
      · omega
      · exact h1.2 (by omega) x hx
theorem tot_bound (f : Int → Int) (B : Int) : ∀ (v : List Int), (∀ x ∈ v, -B ≤ f x ∧ f x ≤ B) → -(B * v.length) ≤ tot f v ∧ tot f v ≤ B * v.length
  | [], _ => by simp [tot]
  | y :: ys, h => by
    have h1 := tot_bound f B ys (fun x hx => h x (by simp [hx]))
    have h2 := h y (by simp)
    simp only [tot, List.length_cons]
    have e : B * ((ys.length + 1 : Nat) : Int) = B * ys.length + B := by rw [Int.natCast_add, Int.mul_add]; simp
    omega
/-- Heaps as level as can be: the first i of them, out of which the first m hold one stone more. -/
def lvl (q : Int) (m i : Nat) : List Int := List.replicate (min i m) (wrap64 (q + 1)) ++ List.replicate (i - min i m) q
theorem lvl_length (q : Int) (m i : Nat) : (lvl q m i).length = i := by simp [lvl]; omega
theorem lvl_step (q : Int) (m i : Nat) : lvl q m (i + 1) = lvl q m i ++ [if i < m then wrap64 (q + 1) else q] := by
  unfold lvl
  by_cases h : i < m
  · rw [if_pos h, show min (i + 1) m = i + 1 by omega, show min i m = i by omega, Nat.sub_self, Nat.sub_self]
    simp [List.replicate_succ']
  · rw [if_neg h, show min (i + 1) m = m by omega, show min i m = m by omega, show i + 1 - m = (i - m) + 1 by omega, List.replicate_succ', List.append_assoc]
theorem spec_lvl (x0 : Int) (c m : Nat) (hc : c ≤ 12) (h1 : 1 ≤ c) (hm : Int.tmod x0 (c : Int) = (m : Int)) : ∀ (d i : Nat), i + d = c → Ev (fun k => spec_LevelHeaps.l0 k x0 c (lvl (wrap64 (Int.tdiv x0 c)) m i) i) (lvl (wrap64 (Int.tdiv x0 c)) m c, true) := by
  intro d
  induction d with
  | zero =>
    intro i hi
    obtain rfl : i = c := by omega
    refine Ev.step (f := fun _ => some (lvl (wrap64 (Int.tdiv x0 i)) m i, true)) (fun k => ?_) (Ev.now _)
    simp only [spec_LevelHeaps.l0]
    rw [if_neg (by omega)]
  | succ d ih =>
    intro i hi
    refine Ev.step (f := fun k => spec_LevelHeaps.l0 k x0 c (lvl (wrap64 (Int.tdiv x0 c)) m (i + 1)) ((i + 1 : Nat) : Int)) (fun k => ?_) (ih (i + 1) (by omega))
    simp only [spec_LevelHeaps.l0, hm, lvl_length, lvl_step]
    rw [if_pos (by omega), if_neg (by omega), if_pos (show i < 17592186044416 by omega), w64s i (by omega)]
    by_cases h : i < m
    · rw [if_pos (by omega), if_pos h]
    · rw [if_neg (by omega), if_neg h, if_pos (by omega)]
/-- The first i of c heaps are raised. -/
def lvr (q : Int) (c i : Nat) : List Int := List.replicate i (wrap64 (q + 1)) ++ List.replicate (c - i) q
theorem impl_lvl (q : Int) (c m : Nat) (hc : c ≤ 12) (hm : m ≤ c) : ∀ (d i : Nat), i + d = m → Ev (fun k => impl_LevelHeaps.l0 k (lvr q c i) m i) (lvr q c m, true) := by
  intro d
  induction d with
  | zero =>
    intro i hi
    obtain rfl : i = m := by omega
    refine Ev.step (f := fun _ => some (lvr q c i, true)) (fun k => ?_) (Ev.now _)
    simp only [impl_LevelHeaps.l0]
    rw [if_neg (by omega)]
  | succ d ih =>
    intro i hi
    refine Ev.step (f := fun k => impl_LevelHeaps.l0 k (lvr q c (i + 1)) m ((i + 1 : Nat) : Int)) (fun k => ?_) (ih (i + 1) (by omega))
    have hl : (lvr q c i).length = c := by simp [lvr]; omega
    have hr : rd (lvr q c i) (i : Int) = q := by
      rw [rd_at _ i (by omega)]
      unfold lvr
      rw [List.getElem_append_right (by simp)]
      simp
    simp only [impl_LevelHeaps.l0, hl, hr]
    rw [if_pos (by omega), if_pos (by omega), if_pos (by omega), w64s i (by omega), Int.toNat_natCast]
    congr 1
    unfold lvr
    rw [List.set_append_right _ _ (by simp), List.length_replicate, Nat.sub_self, show c - i = (c - (i + 1)) + 1 by omega, List.replicate_succ, List.set_cons_zero, List.replicate_succ', List.append_assoc]
    rfl
theorem both_LevelHeaps (x y : Int) : ∃ v : List Int × Bool, v.1.length ≤ 12 ∧ Ev (fun k => spec_LevelHeaps.f k x y) v ∧ Ev (fun k => impl_LevelHeaps.f k x y) v := by
  unfold spec_LevelHeaps.f impl_LevelHeaps.f
  simp only [spec_l1In.is, impl_within.is, Option.bind_some]
  by_cases h1 : (decide (0 ≤ x) && decide (x ≤ 1000)) = true
  · by_cases h2 : (decide (1 ≤ y) && decide (y ≤ 12)) = true
    · have h1' : 0 ≤ x ∧ x ≤ 1000 := by simpa using h1
      have h2' : 1 ≤ y ∧ y ≤ 12 := by simpa using h2
      obtain ⟨c, rfl⟩ : ∃ c : Nat, y = c := ⟨y.toNat, by omega⟩
      obtain ⟨m, hm⟩ : ∃ m : Nat, Int.tmod x (c : Int) = m := ⟨(Int.tmod x (c : Int)).toNat, by have := Int.tmod_nonneg (c : Int) h1'.1; omega⟩
      have hlt : m < c := by have := Int.tmod_lt_of_pos x (show (0 : Int) < c by omega); omega
      refine ⟨(lvl (wrap64 (Int.tdiv x c)) m c, true), by simp [lvl_length]; omega, ?_, ?_⟩
      · simp only [h1, h2, if_true, Bool.not_true]
        refine Ev.step (f := fun k => spec_LevelHeaps.l0 k x c [] 0) (fun k => by simp [spec_LevelHeaps.j0]) ?_
        have := spec_lvl x c m (by omega) (by omega) hm c 0 (by omega)
        simpa [lvl] using this
      · simp only [h1, h2, if_true, Bool.not_true]
        refine Ev.step (f := fun k => impl_LevelHeaps.l0 k (List.replicate c (wrap64 (Int.tdiv x c))) m 0) (fun k => ?_) ?_
        · simp only [impl_LevelHeaps.j0, Bool.false_eq_true, if_false, slices_Repeat_int_int.f]
          rw [if_neg (by omega), if_pos ⟨by simp, by omega, by omega⟩, Option.bind_some, hm]
          simp [rd]
        · have := impl_lvl (wrap64 (Int.tdiv x c)) c m (by omega) (by omega) m 0 (by omega)
          have e : lvl (wrap64 (Int.tdiv x c)) m c = lvr (wrap64 (Int.tdiv x c)) c m := by unfold lvl lvr; rw [show min c m = m by omega]
          rw [e]
          simpa [lvr] using this
    · refine ⟨([], false), by simp, ?_, ?_⟩
      · simp only [h1, h2, if_true, Bool.not_false]
        exact Ev.step (f := fun _ => some ([], false)) (fun k => by simp [spec_LevelHeaps.j0]) (Ev.now _)
      · simp only [h1, h2, if_true, Bool.not_false]
        exact Ev.step (f := fun _ => some ([], false)) (fun k => by simp [impl_LevelHeaps.j0]) (Ev.now _)
  · refine ⟨([], false), by simp, ?_, ?_⟩
    · simp only [h1]
      exact Ev.step (f := fun _ => some ([], false)) (fun k => by simp [spec_LevelHeaps.j0]) (Ev.now _)
    · simp only [h1]
      exact Ev.step (f := fun _ => some ([], false)) (fun k => by simp [impl_LevelHeaps.j0]) (Ev.now _)
theorem FnExactLevelHeaps : laws_FnExactLevelHeaps.Pure := by
  intro x y _ _
  obtain ⟨v, hv, ⟨K2, h2⟩, ⟨K3, h3⟩⟩ := both_LevelHeaps x y
  obtain ⟨v, b⟩ := v
  simp only at hv
  obtain ⟨K5, h5⟩ := laws_eqIntS.ev v (by omega)
  obtain ⟨K7, h7⟩ := laws_markIntS.ev v (by omega)
  obtain ⟨K8, h8⟩ := laws_heldIntS.ev v (by omega)
  dsimp only at h2 h3 h5 h7 h8
  refine ⟨K2 + K3 + K5 + K7 + K8 + 1 + 1, ?_⟩
  have c2 : ¬ (1 + (v.length : Int) < 0) := by omega
  simp (disch := omega) only [laws_FnExactLevelHeaps.f, h2, h3, h5, Option.bind_some, bne_self_eq_false, if_true]
  simp (disch := omega) only [laws_FnExactLevelHeaps.j0, h3, h5, h7, h8, Option.bind_some, bne_self_eq_false, Bool.false_eq_true, if_true, if_false, if_neg c2]
  simp (disch := omega) only [laws_FnExactLevelHeaps.j1, h8, Option.bind_some, Bool.false_eq_true, if_true, if_false, if_neg c2]

end Go.Proofs.Ytfkkbbkelehibaa.Pure
