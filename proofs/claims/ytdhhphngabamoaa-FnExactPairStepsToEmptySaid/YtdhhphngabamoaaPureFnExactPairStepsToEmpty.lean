/- The program's PairStepsToEmpty returns what the reference's returns, for all arguments. It has no conditions. -/
import Derived.Test.YtdhhphngabamoaaPFnExactPairStepsToEmptyx2
namespace Go.Proofs.Ytdhhphngabamoaa.Pure
open Go.RowKit Go.Proofs.Ytdhhphngabamoaa.PFnExactPairStepsToEmpty Go.Proofs.YtdhhphngabamoaaW.PrintWords Go.Proofs.YtdhhphngabamoaaW.PrintLast
set_option linter.unusedVariables false
set_option linter.unusedSimpArgs false

/-! ### small words -/
theorem w64 (n : Int) (h1 : -9223372036854775808 ≤ n) (h2 : n ≤ 9223372036854775807) : wrap64 n = n := by unfold wrap64; omega
theorem w64s (i : Nat) (h : i < 9223372036854775807) : wrap64 ((i : Int) + 1) = ((i + 1 : Nat) : Int) := by unfold wrap64; omega
theorem rd_at (l : List Int) (i : Nat) (h : i < l.length) : rd l (i : Int) = l[i] := by simp [rd, List.getD_eq_getElem?_getD, List.getElem?_eq_getElem h]
theorem wf64 {x : Int} (h : (Lit.int .i64 x).wf = true) : -9223372036854775808 ≤ x ∧ x ≤ 9223372036854775807 := by
  simp [Lit.wf, IntKind.min, IntKind.max, IntKind.bits, IntKind.signed] at h
  omega
/-- The sum of a list's values under f. -/
def tot (f : Int → Int) : List Int → Int
  | [] => 0
  | x :: xs => f x + tot f xs
theorem rd_set_eq (v : List Int) (i : Nat) (x : Int) (h : i < v.length) : rd (v.set i x) (i : Int) = x := by
  simp [rd, List.getD_eq_getElem?_getD, h]
theorem rd_set_neN (v : List Int) (i j : Nat) (x : Int) (h : i ≠ j) : rd (v.set i x) (j : Int) = rd v (j : Int) := by
  simp [rd, List.getD_eq_getElem?_getD, List.getElem?_set_ne h]
theorem rd_cons_succ (y : Int) (ys : List Int) (i : Nat) : rd (y :: ys) ((i + 1 : Nat) : Int) = rd ys (i : Int) := by
  unfold rd
  rw [show (((i + 1 : Nat) : Int)).toNat = i + 1 by omega, show ((i : Int)).toNat = i by omega]
  simp
theorem tot_set (f : Int → Int) : ∀ (v : List Int) (i : Nat) (x : Int), i < v.length → tot f (v.set i x) = tot f v - f (rd v (i : Int)) + f x
  | [], i, x, h => by simp at h
  | y :: ys, 0, x, h => by simp [tot, rd]; omega
  | y :: ys, i + 1, x, h => by
    have := tot_set f ys i x (by simpa using h)
    rw [List.set_cons_succ, tot, tot, this, rd_cons_succ]
    omega
theorem mem_rd {v : List Int} {x : Int} (h : x ∈ v) : ∃ a : Nat, a < v.length ∧ rd v (a : Int) = x := by
  obtain ⟨a, ha, e⟩ := List.mem_iff_getElem.mp h
  exact ⟨a, ha, by rw [rd_at v a ha, e]⟩
theorem rd_mem {v : List Int} {a : Nat} (h : a < v.length) : rd v (a : Int) ∈ v := by
  rw [rd_at v a h]; exact List.getElem_mem h
theorem tot_nonpos : ∀ (v : List Int), (∀ x ∈ v, x ≤ 0) → tot id v ≤ 0 ∧ (tot id v = 0 → ∀ x ∈ v, x = 0)
  | [], _ => ⟨by simp [tot], by simp⟩
  | y :: ys, h => by
    have h1 := tot_nonpos ys (fun x hx => h x (by simp [hx]))
    have h2 := h y (by simp)
    constructor
    · simp only [tot, id]; omega
    · intro e
      simp only [tot, id] at e
      intro x hx
      rcases List.mem_cons.mp hx with rfl | hx
      · omega
      · exact h1.2 (by omega) x hx
theorem tot_nonneg : ∀ (v : List Int), (∀ x ∈ v, 0 ≤ x) → 0 ≤ tot id v ∧ (tot id v = 0 → ∀ x ∈ v, x = 0)
  | [], _ => ⟨by simp [tot], by simp⟩
  | y :: ys, h => by
    have h1 := tot_nonneg ys (fun x hx => h x (by simp [hx]))
    have h2 := h y (by simp)
    constructor
    · simp only [tot, id]; omega
    · intro e
      simp only [tot, id] at e
      intro x hx
      rcases List.mem_cons.mp hx with rfl | hx
      · omega
      · exact h1.2 (by omega) x hx
theorem tot_bound (f : Int → Int) (B : Int) : ∀ (v : List Int), (∀ x ∈ v, -B ≤ f x ∧ f x ≤ B) → -(B * v.length) ≤ tot f v ∧ tot f v ≤ B * v.length
  | [], _ => by simp [tot]
  | y :: ys, h => by
    have h1 := tot_bound f B ys (fun x hx => h x (by simp [hx]))
    have h2 := h y (by simp)
    simp only [tot, List.length_cons]
    have e : B * ((ys.length + 1 : Nat) : Int) = B * ys.length + B := by rw [Int.natCast_add, Int.mul_add]; simp
    omega
/-! ### pairs: the step, and many steps -/
def pstep (a b : Int) : Int × Int := if a = 0 ∨ b = 0 then (a, b) else if a < b then (wrap64 (2 * a), wrap64 (b - a)) else (wrap64 (a - b), wrap64 (2 * b))
theorem spec_dbStep.ev (a b : Int) : Ev (fun k => spec_dbStep.f k a b) (pstep a b) := by
  refine ⟨1, fun k hk => ?_⟩
  obtain ⟨k, rfl⟩ : ∃ m, k = m + 1 := ⟨k - 1, by omega⟩
  show spec_dbStep.f (k + 1) a b = _
  unfold spec_dbStep.f pstep
  by_cases ha : a = 0
  · simp [ha, spec_dbStep.j0]
  · by_cases hb : b = 0
    · simp [ha, hb, spec_dbStep.j0]
    · by_cases h : a < b
      · rw [if_neg ha, if_neg (by omega), if_pos h]
        simp only [spec_dbStep.j0]
        rw [if_neg (by simpa using hb), if_neg (by omega)]
      · rw [if_neg ha, if_neg (by omega), if_neg h]
        simp only [spec_dbStep.j0]
        rw [if_neg (by simpa using hb), if_pos (by omega)]
theorem impl_pairStep.ev (a b : Int) : Ev (fun k => impl_pairStep.f k a b) (pstep a b) := by
  refine ⟨1, fun k hk => ?_⟩
  obtain ⟨k, rfl⟩ : ∃ m, k = m + 1 := ⟨k - 1, by omega⟩
  show impl_pairStep.f (k + 1) a b = _
  unfold impl_pairStep.f pstep
  by_cases ha : a = 0
  · simp [ha, impl_pairStep.j0]
  · by_cases hb : b = 0
    · simp [ha, hb, impl_pairStep.j0]
    · by_cases h : a < b
      · rw [if_neg ha, if_neg (by omega), if_pos h]
        simp only [impl_pairStep.j0]
        rw [if_neg (by simpa using hb), if_pos (by omega)]
      · rw [if_neg ha, if_neg (by omega), if_neg h]
        simp only [impl_pairStep.j0]
        rw [if_neg (by simpa using hb), if_neg (by omega)]
theorem isPair_same (a b : Int) : impl_isPair.f a b = spec_dbPair.f a b := rfl
theorem spec_dbPair.some_ (a b : Int) : ∃ g, spec_dbPair.f a b = some g := by
  unfold spec_dbPair.f spec_l1In.f
  repeat' (first | exact ⟨_, rfl⟩ | split | (simp only [Option.bind_some]))
/-! ### pairs: many steps -/
def pit : Nat → Int × Int → Int × Int
  | 0, p => p
  | n + 1, p => pit n (pstep p.1 p.2)
/-- What both tell. -/
def pafter (a b s : Int) : Int × Int × Bool := if spec_dbPair.f a b = some true ∧ 0 ≤ s ∧ s ≤ 1000000 then ((pit s.toNat (a, b)).1, (pit s.toNat (a, b)).2, true) else (0, 0, false)
theorem spec_l1In.is (x a b : Int) : spec_l1In.f x a b = some (decide (a ≤ x) && decide (x ≤ b)) := by
  unfold spec_l1In.f
  by_cases h : x ≥ a
  · simp [h, show a ≤ x from h]
  · simp [h, show ¬ a ≤ x from h]
/-- A pair of n stones. -/
def pdom (n : Nat) (p : Int × Int) : Prop := 0 ≤ p.1 ∧ 0 ≤ p.2 ∧ p.1 + p.2 = n
theorem pstep_dom {n : Nat} (hn : n ≤ 100000) {a b : Int} (h : pdom n (a, b)) : pdom n (pstep a b) := by
  obtain ⟨h1, h2, h3⟩ := h
  simp only at h1 h2 h3
  unfold pstep
  split
  · exact ⟨h1, h2, h3⟩
  · split
    · rw [w64 (2 * a) (by omega) (by omega), w64 (b - a) (by omega) (by omega)]
      exact ⟨by simp only; omega, by simp only; omega, by simp only; omega⟩
    · rw [w64 (a - b) (by omega) (by omega), w64 (2 * b) (by omega) (by omega)]
      exact ⟨by simp only; omega, by simp only; omega, by simp only; omega⟩
theorem pit_succ' : ∀ (s : Nat) (p : Int × Int), pit (s + 1) p = pstep (pit s p).1 (pit s p).2
  | 0, p => rfl
  | s + 1, p => by
    show pit (s + 1) (pstep p.1 p.2) = _
    rw [pit_succ' s (pstep p.1 p.2)]
    rfl
theorem pit_dom {n : Nat} (hn : n ≤ 100000) : ∀ (s : Nat) (p : Int × Int), pdom n p → pdom n (pit s p)
  | 0, p, h => h
  | s + 1, p, h => by
    rw [pit_succ']
    exact pstep_dom hn (pit_dom hn s p h)
def negs (t : List Int) : Int := tot (fun x => if x < 0 then 1 else 0) t
theorem negs_nonneg : ∀ t : List Int, 0 ≤ negs t
  | [] => by simp [negs, tot]
  | x :: xs => by
    have := negs_nonneg xs
    unfold negs at *
    simp only [tot]
    split <;> omega
theorem negs_pos : ∀ (t : List Int) (i : Nat), i < t.length → rd t (i : Int) < 0 → 1 ≤ negs t
  | [], i, h, _ => by simp at h
  | x :: xs, 0, _, h => by
    have := negs_nonneg xs
    have hx : x < 0 := by simpa [rd] using h
    unfold negs at *
    simp only [tot, if_pos hx]
    omega
  | x :: xs, i + 1, hi, h => by
    rw [rd_cons_succ] at h
    have := negs_pos xs i (by simpa using hi) h
    unfold negs at *
    simp only [tot]
    split <;> omega
theorem negs_rep : ∀ n : Nat, negs (List.replicate n (-1)) = n
  | 0 => rfl
  | n + 1 => by
    have := negs_rep n
    unfold negs at *
    rw [List.replicate_succ]
    simp only [tot, this]
    simp; omega
theorem wf_of {x : Int} (h1 : -9223372036854775808 ≤ x) (h2 : x ≤ 9223372036854775807) : (Lit.int .i64 x).wf = true := by
  simp [Lit.wf, IntKind.min, IntKind.max, IntKind.bits, IntKind.signed]
  omega
theorem cycle_found {n : Nat} (hn : n ≤ 100000) (p : Int × Int) (hp : pdom n p) (s : Nat) (t : List Int) (m : List (Int × Int)) (ht : t.length = n + 1) (hm : m.length = s) (hs : s ≤ n + 1)
    (h1 : ∀ x : Nat, x ≤ n → rd t (x : Int) = (pcGet m (x : Int)).getD (-1)) (h2 : ∀ x f, pcGet m x = some f → ∃ i : Nat, f = i ∧ i < s ∧ (pit i p).1 = x) (h3 : ∀ i : Nat, i < s → pcGet m (pit i p).1 = some (i : Int)) (f : Int) (hf : pcGet m (pit s p).1 = some f) :
    ∃ lead e : Nat, lead < e ∧ e ≤ n + 1 ∧ Ev (fun k => spec_dbCycle.l1 k (pit s p).1 (pit s p).2 t s) ((lead : Int), (e : Int) - lead) ∧ Ev (fun k => impl_pairCycle.l0 k m (pit s p).1 (pit s p).2 s) ((lead : Int), (e : Int) - lead) ∧ (pit e p).1 = (pit lead p).1 ∧ (∀ i j : Nat, i < e → j < e → (pit i p).1 = (pit j p).1 → i = j) := by
  obtain ⟨d1, d2, d3⟩ := pit_dom hn s p hp
  obtain ⟨x, hx⟩ : ∃ x : Nat, (pit s p).1 = x := ⟨(pit s p).1.toNat, by omega⟩
  obtain ⟨i, rfl, hi, hpi⟩ := h2 _ _ hf
  have hr := h1 x (by omega)
  rw [← hx, hf] at hr
  simp only [Option.getD_some] at hr
  refine ⟨i, s, hi, hs, ?_, ?_, hpi.symm, fun a b ha hb e => ?_⟩
  · refine Ev.step (f := fun _ => some ((i : Int), (s : Int) - i)) (fun k => ?_) (Ev.now _)
    simp only [spec_dbCycle.l1]
    rw [if_pos (by omega), if_pos (by omega), hr, if_neg (by omega), w64 ((s : Int) - i) (by omega) (by omega)]
  · refine Ev.step (f := fun _ => some ((i : Int), (s : Int) - i)) (fun k => ?_) (Ev.now _)
    simp only [impl_pairCycle.l0]
    rw [if_pos ⟨wf_of (by omega) (by omega), wf_of (by omega) (by omega), by omega⟩, hf]
    simp only
    rw [w64 ((s : Int) - i) (by omega) (by omega)]
  · have ea := h3 a ha
    rw [e, h3 b hb] at ea
    have := Option.some.inj ea
    omega
theorem both_cycle {n : Nat} (hn : n ≤ 100000) (p : Int × Int) (hp : pdom n p) : ∀ (c s : Nat) (t : List Int) (m : List (Int × Int)), negs t = c → t.length = n + 1 → m.length = s → s + c = n + 1 →
    (∀ x : Nat, x ≤ n → rd t (x : Int) = (pcGet m (x : Int)).getD (-1)) → (∀ x f, pcGet m x = some f → ∃ i : Nat, f = i ∧ i < s ∧ (pit i p).1 = x) → (∀ i : Nat, i < s → pcGet m (pit i p).1 = some (i : Int)) →
    ∃ lead e : Nat, lead < e ∧ e ≤ n + 1 ∧ Ev (fun k => spec_dbCycle.l1 k (pit s p).1 (pit s p).2 t s) ((lead : Int), (e : Int) - lead) ∧ Ev (fun k => impl_pairCycle.l0 k m (pit s p).1 (pit s p).2 s) ((lead : Int), (e : Int) - lead) ∧ (pit e p).1 = (pit lead p).1 ∧ (∀ i j : Nat, i < e → j < e → (pit i p).1 = (pit j p).1 → i = j) := by
  intro c
  induction c with
  | zero =>
    intro s t m hc ht hm hs h1 h2 h3
    cases hf : pcGet m (pit s p).1 with
    | some f => exact cycle_found hn p hp s t m ht hm (by omega) h1 h2 h3 f hf
    | none =>
      exfalso
      obtain ⟨d1, d2, d3⟩ := pit_dom hn s p hp
      obtain ⟨x, hx⟩ : ∃ x : Nat, (pit s p).1 = x := ⟨(pit s p).1.toNat, by omega⟩
      have hr := h1 x (by omega)
      rw [← hx, hf] at hr
      simp only [Option.getD_none] at hr
      have := negs_pos t x (by omega) (by rw [← hx]; omega)
      omega
  | succ c ih =>
    intro s t m hc ht hm hs h1 h2 h3
    cases hf : pcGet m (pit s p).1 with
    | some f => exact cycle_found hn p hp s t m ht hm (by omega) h1 h2 h3 f hf
    | none =>
      obtain ⟨d1, d2, d3⟩ := pit_dom hn s p hp
      obtain ⟨x, hx⟩ : ∃ x : Nat, (pit s p).1 = x := ⟨(pit s p).1.toNat, by omega⟩
      have hr := h1 x (by omega)
      rw [← hx, hf] at hr
      simp only [Option.getD_none] at hr
      have hns : negs (t.set x (s : Int)) = c := by
        have := tot_set (fun x => if x < 0 then 1 else 0) t x (s : Int) (by omega)
        unfold negs at *
        rw [this, hc, ← hx, hr]
        simp; omega
      obtain ⟨lead, e, q0, q1, e1, e2, q2, q3⟩ := ih (s + 1) (t.set x (s : Int)) (((pit s p).1, (s : Int)) :: m) hns (by simpa using ht) (by simpa using hm) (by omega) (fun y hy => by
          unfold pcGet
          by_cases h : x = y
          · subst h
            rw [rd_set_eq _ _ _ (by omega), if_pos hx]; rfl
          · rw [rd_set_neN _ _ _ _ h, if_neg (by omega)]
            exact h1 y hy) (fun y f hy => by
          unfold pcGet at hy
          split at hy
          · rename_i h
            exact ⟨s, (Option.some.inj hy).symm, by omega, h⟩
          · obtain ⟨i, a, b, c⟩ := h2 y f hy
            exact ⟨i, a, by omega, c⟩) (fun i hi => by
          unfold pcGet
          by_cases h : (pit s p).1 = (pit i p).1
          · rw [if_pos h]
            rcases Nat.lt_or_ge i s with hlt | hge
            · rw [h, h3 i hlt] at hf
              cases hf
            · have : i = s := by omega
              rw [this]
          · rw [if_neg h]
            rcases Nat.lt_or_ge i s with hlt | hge
            · exact h3 i hlt
            · have : i = s := by omega
              rw [this] at h
              exact absurd rfl h)
      rw [pit_succ' s p] at e1 e2
      refine ⟨lead, e, q0, q1, ?_, ?_, q2, q3⟩
      · refine Ev.step (f := fun k => (spec_dbStep.f k (pit s p).1 (pit s p).2).bind fun bt => spec_dbCycle.l1 k bt.1 bt.2 (t.set x (s : Int)) ((s + 1 : Nat) : Int)) (fun k => ?_) (Ev.bind (spec_dbStep.ev _ _) e1)
        simp only [spec_dbCycle.l1]
        rw [if_pos (by omega), if_pos (by omega), if_pos (by omega), w64s s (by omega), hx, Int.toNat_natCast]
      · refine Ev.step (f := fun k => (impl_pairStep.f k (pit s p).1 (pit s p).2).bind fun bt => impl_pairCycle.l0 k (((pit s p).1, (s : Int)) :: m) bt.1 bt.2 ((s + 1 : Nat) : Int)) (fun k => ?_) (Ev.bind (impl_pairStep.ev _ _) e2)
        simp only [impl_pairCycle.l0]
        rw [if_pos ⟨wf_of (by omega) (by omega), wf_of (by omega) (by omega), by omega⟩, hf]
        simp only
        rw [w64s s (by omega)]
theorem spec_dbCycle.l0ev {n : Nat} (hn : n ≤ 100000) (a b : Int) (r : Int × Int) (h : Ev (fun k => spec_dbCycle.l1 k a b (List.replicate (n + 1) (-1)) 0) r) : ∀ (d i : Nat), i + d = n + 1 → Ev (fun k => spec_dbCycle.l0 k a b (List.replicate i (-1) ++ List.replicate d 0) ((n + 1 : Nat) : Int) i) r := by
  intro d
  induction d with
  | zero =>
    intro i hi
    obtain rfl : i = n + 1 := by omega
    refine Ev.step (f := fun k => spec_dbCycle.l1 k a b (List.replicate (n + 1) (-1)) 0) (fun k => ?_) h
    simp only [spec_dbCycle.l0]
    rw [if_neg (by omega)]
    simp
  | succ d ih =>
    intro i hi
    refine Ev.step (f := fun k => spec_dbCycle.l0 k a b (List.replicate (i + 1) (-1) ++ List.replicate d 0) ((n + 1 : Nat) : Int) ((i + 1 : Nat) : Int)) (fun k => ?_) (ih (i + 1) (by omega))
    simp only [spec_dbCycle.l0]
    rw [if_pos (by omega), if_pos (by omega), if_pos (by simp; omega), w64s i (by omega), Int.toNat_natCast]
    congr 1
    rw [List.set_append_right _ _ (by simp), List.length_replicate, Nat.sub_self, List.replicate_succ, List.set_cons_zero, List.replicate_succ', List.append_assoc]
    rfl
/-- Both tell when a pair comes again: lead and e, the first time that it has come before. -/
theorem cycles {a b : Int} {n : Nat} (hn : n ≤ 100000) (hp : pdom n (a, b)) : ∃ lead e : Nat, lead < e ∧ e ≤ n + 1 ∧ Ev (fun k => spec_dbCycle.f k a b) ((lead : Int), (e : Int) - lead) ∧ Ev (fun k => impl_pairCycle.f k a b) ((lead : Int), (e : Int) - lead) ∧ (pit e (a, b)).1 = (pit lead (a, b)).1 ∧ (∀ i j : Nat, i < e → j < e → (pit i (a, b)).1 = (pit j (a, b)).1 → i = j) := by
  obtain ⟨lead, e, q0, q1, e1, e2, q2, q3⟩ := both_cycle hn (a, b) hp (n + 1) 0 (List.replicate (n + 1) (-1)) [] (by rw [negs_rep]) (by simp) rfl (by omega) (fun x hx => by
      rw [rd_at _ x (by simp; omega)]; simp [pcGet]) (fun x f h => by simp [pcGet] at h) (fun i hi => by omega)
  refine ⟨lead, e, q0, q1, ?_, e2, q2, q3⟩
  have hs : wrap64 (wrap64 (a + b) + 1) = ((n + 1 : Nat) : Int) := by
    have h3 := hp.2.2
    simp only at h3
    rw [h3, w64 (n : Int) (by omega) (by omega), w64 _ (by omega) (by omega)]; omega
  unfold spec_dbCycle.f
  simp only [hs, if_pos (show (0 : Int) ≤ ((n + 1 : Nat) : Int) by omega), if_pos (show (((n + 1 : Nat) : Int)).toNat ≤ 35184372088832 by omega), Option.bind_some, Int.toNat_natCast, List.length_replicate]
  have := spec_dbCycle.l0ev hn a b _ e1 (n + 1) 0 (by omega)
  simpa [show n ≤ 35184372088831 by omega] using this
theorem isPair_dom {a b : Int} (h : spec_dbPair.f a b = some true) : ∃ n : Nat, n ≤ 100000 ∧ pdom n (a, b) := by
  unfold spec_dbPair.f at h
  simp only [spec_l1In.is, Option.bind_some] at h
  by_cases h1 : (decide (0 ≤ a) && decide (a ≤ 100000)) = true
  · by_cases h2 : (decide (0 ≤ b) && decide (b ≤ 100000)) = true
    · rw [if_pos h1, if_pos h2] at h
      have h1' : 0 ≤ a ∧ a ≤ 100000 := by simpa using h1
      have h2' : 0 ≤ b ∧ b ≤ 100000 := by simpa using h2
      rw [w64 (a + b) (by omega) (by omega)] at h
      have h3 := Option.some.inj h
      simp at h3
      exact ⟨(a + b).toNat, by omega, h1'.1, h2'.1, by simp only; omega⟩
    · rw [if_pos h1, if_neg h2] at h
      cases h
  · rw [if_neg h1] at h
    cases h
theorem pit_stay (p : Int × Int) : ∀ (s : Nat), (pit s p).1 = 0 ∨ (pit s p).2 = 0 → pit (s + 1) p = pit s p := by
  intro s h
  rw [pit_succ']
  unfold pstep
  rw [if_pos h]
/-- Before e there is no empty heap among the pairs from i on. -/
theorem spec_empty_none (p : Int × Int) (lead : Nat) (hl : lead ≤ 100001) (h : ∀ i : Nat, i ≤ lead → ¬ ((pit i p).1 = 0 ∨ (pit i p).2 = 0)) : ∀ (d i : Nat), i + d = lead + 1 → Ev (fun k => spec_dbEmpty.l0 k (pit i p).1 (pit i p).2 (lead : Int) i) (-1) := by
  intro d
  induction d with
  | zero =>
    intro i hi
    refine Ev.step (f := fun _ => some (-1)) (fun k => ?_) (Ev.now _)
    simp only [spec_dbEmpty.l0]
    rw [if_neg (by omega)]
  | succ d ih =>
    intro i hi
    have hh := h i (by omega)
    have e := ih (i + 1) (by omega)
    rw [pit_succ'] at e
    refine Ev.step (f := fun k => (spec_dbStep.f k (pit i p).1 (pit i p).2).bind fun bt => spec_dbEmpty.l0 k bt.1 bt.2 (lead : Int) ((i + 1 : Nat) : Int)) (fun k => ?_) (Ev.bind (spec_dbStep.ev _ _) e)
    simp only [spec_dbEmpty.l0]
    rw [if_pos (by omega), if_neg (by omega), if_neg (by omega), w64s i (by omega)]
theorem spec_empty_at (p : Int × Int) (lead z : Nat) (hz : z ≤ lead) (hl : lead ≤ 100001) (hzero : (pit z p).1 = 0 ∨ (pit z p).2 = 0) (h : ∀ i : Nat, i < z → ¬ ((pit i p).1 = 0 ∨ (pit i p).2 = 0)) : ∀ (d i : Nat), i + d = z → Ev (fun k => spec_dbEmpty.l0 k (pit i p).1 (pit i p).2 (lead : Int) i) (z : Int) := by
  intro d
  induction d with
  | zero =>
    intro i hi
    obtain rfl : i = z := by omega
    refine Ev.step (f := fun _ => some (i : Int)) (fun k => ?_) (Ev.now _)
    simp only [spec_dbEmpty.l0]
    rw [if_pos (by omega)]
    by_cases c : (pit i p).1 = 0
    · rw [if_pos c]
    · rw [if_neg c, if_pos (by omega)]
  | succ d ih =>
    intro i hi
    have hh := h i (by omega)
    have e := ih (i + 1) (by omega)
    rw [pit_succ'] at e
    refine Ev.step (f := fun k => (spec_dbStep.f k (pit i p).1 (pit i p).2).bind fun bt => spec_dbEmpty.l0 k bt.1 bt.2 (lead : Int) ((i + 1 : Nat) : Int)) (fun k => ?_) (Ev.bind (spec_dbStep.ev _ _) e)
    simp only [spec_dbEmpty.l0]
    rw [if_pos (by omega), if_neg (by omega), if_neg (by omega), w64s i (by omega)]
theorem impl_empty_none (p : Int × Int) (lead : Nat) (hl : lead ≤ 100001) (h : ∀ i : Nat, i < lead → ¬ ((pit i p).1 = 0 ∨ (pit i p).2 = 0)) : ∀ (d i : Nat), i + d = lead → Ev (fun k => impl_stepsToEmpty.l0 k (pit i p).1 (pit i p).2 (lead : Int) i) (-1) := by
  intro d
  induction d with
  | zero =>
    intro i hi
    refine Ev.step (f := fun _ => some (-1)) (fun k => ?_) (Ev.now _)
    simp only [impl_stepsToEmpty.l0]
    rw [if_neg (by omega)]
  | succ d ih =>
    intro i hi
    have hh := h i (by omega)
    have e := ih (i + 1) (by omega)
    rw [pit_succ'] at e
    refine Ev.step (f := fun k => (impl_pairStep.f k (pit i p).1 (pit i p).2).bind fun bt => impl_stepsToEmpty.l0 k bt.1 bt.2 (lead : Int) ((i + 1 : Nat) : Int)) (fun k => ?_) (Ev.bind (impl_pairStep.ev _ _) e)
    simp only [impl_stepsToEmpty.l0]
    rw [if_pos (by omega), if_neg (by omega), if_neg (by omega), w64s i (by omega)]
theorem impl_empty_at (p : Int × Int) (lead z : Nat) (hz : z < lead) (hl : lead ≤ 100001) (hzero : (pit z p).1 = 0 ∨ (pit z p).2 = 0) (h : ∀ i : Nat, i < z → ¬ ((pit i p).1 = 0 ∨ (pit i p).2 = 0)) : ∀ (d i : Nat), i + d = z → Ev (fun k => impl_stepsToEmpty.l0 k (pit i p).1 (pit i p).2 (lead : Int) i) (z : Int) := by
  intro d
  induction d with
  | zero =>
    intro i hi
    obtain rfl : i = z := by omega
    refine Ev.step (f := fun _ => some (i : Int)) (fun k => ?_) (Ev.now _)
    simp only [impl_stepsToEmpty.l0]
    rw [if_pos (by omega)]
    by_cases c : (pit i p).1 = 0
    · rw [if_pos c]
    · rw [if_neg c, if_pos (by omega)]
  | succ d ih =>
    intro i hi
    have hh := h i (by omega)
    have e := ih (i + 1) (by omega)
    rw [pit_succ'] at e
    refine Ev.step (f := fun k => (impl_pairStep.f k (pit i p).1 (pit i p).2).bind fun bt => impl_stepsToEmpty.l0 k bt.1 bt.2 (lead : Int) ((i + 1 : Nat) : Int)) (fun k => ?_) (Ev.bind (impl_pairStep.ev _ _) e)
    simp only [impl_stepsToEmpty.l0]
    rw [if_pos (by omega), if_neg (by omega), if_neg (by omega), w64s i (by omega)]
/-- The first of the numbers below n for which P holds, or none. -/
theorem first_or_none (P : Nat → Prop) (n : Nat) : (∃ z, z < n ∧ P z ∧ ∀ i, i < z → ¬ P i) ∨ ∀ i, i < n → ¬ P i := by
  induction n with
  | zero => exact Or.inr (fun i h => by omega)
  | succ n ih =>
    rcases ih with ⟨z, h1, h2, h3⟩ | h
    · exact Or.inl ⟨z, by omega, h2, h3⟩
    · rcases Classical.em (P n) with hp | hp
      · exact Or.inl ⟨n, by omega, hp, h⟩
      · exact Or.inr (fun i hi => by
          by_cases c : i = n
          · rw [c]; exact hp
          · exact h i (by omega))
theorem empties {a b : Int} {n : Nat} (hn : n ≤ 100000) (hp : pdom n (a, b)) : ∃ r : Int, Ev (fun k => spec_dbEmpty.f k a b) r ∧ Ev (fun k => impl_stepsToEmpty.f k a b) r := by
  obtain ⟨lead, e, q0, q1, e1, e2, q2, q3⟩ := cycles hn hp
  have he : wrap64 ((lead : Int) + ((e : Int) - lead)) = e := by rw [w64 _ (by omega) (by omega)]; omega
  rcases first_or_none (fun i => (pit i (a, b)).1 = 0 ∨ (pit i (a, b)).2 = 0) e with ⟨z, h1, h2, h3⟩ | h
  · have hst := pit_stay (a, b) z h2
    have hz : z ≤ lead := by
      rcases Nat.lt_or_ge (z + 1) e with c | c
      · have := q3 z (z + 1) (by omega) c (by rw [hst])
        omega
      · have : e = z + 1 := by omega
        rw [this, hst] at q2
        have := q3 z lead h1 q0 q2
        omega
    refine ⟨z, Ev.bind e1 ?_, Ev.bind e2 ?_⟩
    · exact spec_empty_at (a, b) lead z hz (by omega) h2 h3 z 0 (by omega)
    · rw [he]
      exact impl_empty_at (a, b) e z h1 (by omega) h2 h3 z 0 (by omega)
  · refine ⟨-1, Ev.bind e1 ?_, Ev.bind e2 ?_⟩
    · exact spec_empty_none (a, b) lead (by omega) (fun i hi => h i (by omega)) (lead + 1) 0 (by omega)
    · rw [he]
      exact impl_empty_none (a, b) e (by omega) h e 0 (by omega)
theorem FnExactPairStepsToEmpty : laws_FnExactPairStepsToEmpty.Pure := by
  intro a b _ _
  have : ∃ v : Int × Bool, Ev (fun k => spec_PairStepsToEmpty.f k a b) v ∧ Ev (fun k => impl_PairStepsToEmpty.f k a b) v := by
    obtain ⟨g, hg⟩ := spec_dbPair.some_ a b
    unfold spec_PairStepsToEmpty.f impl_PairStepsToEmpty.f
    simp only [isPair_same, hg, Option.bind_some]
    cases g with
    | false => exact ⟨(0, false), by simpa using Ev.now _, by simpa using Ev.now _⟩
    | true =>
      obtain ⟨n, hn, hp⟩ := isPair_dom hg
      obtain ⟨r, e1, e2⟩ := empties hn hp
      simp only [if_true]
      refine ⟨(mx 0 r, decide (r ≥ 0)), Ev.bind e1 ?_, Ev.bind e2 (Ev.now _)⟩
      by_cases c : r < 0
      · simp only [if_pos c]
        rw [show mx 0 r = 0 by unfold mx; omega, decide_eq_false (by omega)]
        exact Ev.now _
      · simp only [if_neg c]
        rw [show mx 0 r = r by unfold mx; omega, decide_eq_true (by omega)]
        exact Ev.bind e1 (Ev.now _)
  obtain ⟨⟨v, w⟩, h1, h2⟩ := this
  refine Ev.rounds (Ev.bind h1 (Ev.bind h2 ?_))
  simp
  exact Ev.now true

end Go.Proofs.Ytdhhphngabamoaa.Pure
