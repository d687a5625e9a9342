/- Pairs keep their stones and come again by their lead and period, they empty just where no odd part is in the way, plays are doublings one after the other, and texts are read back. (P2) It has no conditions. -/
import Derived.Test.YtpmlpcdhkpcejaaGreatDoorPFnDoublingsPairedx12
namespace Go.Proofs.YtpmlpcdhkpcejaaGreatDoor.Pure
open Go.RowKit Go.Proofs.YtpmlpcdhkpcejaaGreatDoor.PFnDoublingsPaired Go.Proofs.YtpmlpcdhkpcejaaGreatDoorW.PrintWords Go.Proofs.YtpmlpcdhkpcejaaGreatDoorW.PrintLast
set_option linter.unusedVariables false
set_option linter.unusedSimpArgs false

/-! ### small words -/
theorem w64 (n : Int) (h1 : -9223372036854775808 ≤ n) (h2 : n ≤ 9223372036854775807) : wrap64 n = n := by unfold wrap64; omega
theorem w64s (i : Nat) (h : i < 9223372036854775807) : wrap64 ((i : Int) + 1) = ((i + 1 : Nat) : Int) := by unfold wrap64; omega
theorem rd_at (l : List Int) (i : Nat) (h : i < l.length) : rd l (i : Int) = l[i] := by simp [rd, List.getD_eq_getElem?_getD, List.getElem?_eq_getElem h]
theorem wf64 {x : Int} (h : (Lit.int .i64 x).wf = true) : -9223372036854775808 ≤ x ∧ x ≤ 9223372036854775807 := by
  simp [Lit.wf, IntKind.min, IntKind.max, IntKind.bits, IntKind.signed] at h
  omega
/-- The sum of a list's values under f. -/
def tot (f : Int → Int) : List Int → Int
  | [] => 0
  | x :: xs => f x + tot f xs
theorem rd_set_eq (v : List Int) (i : Nat) (x : Int) (h : i < v.length) : rd (v.set i x) (i : Int) = x := by
  simp [rd, List.getD_eq_getElem?_getD, h]
theorem rd_set_neN (v : List Int) (i j : Nat) (x : Int) (h : i ≠ j) : rd (v.set i x) (j : Int) = rd v (j : Int) := by
  simp [rd, List.getD_eq_getElem?_getD, List.getElem?_set_ne h]
theorem rd_cons_succ (y : Int) (ys : List Int) (i : Nat) : rd (y :: ys) ((i + 1 : Nat) : Int) = rd ys (i : Int) := by
  unfold rd
  rw [show (((i + 1 : Nat) : Int)).toNat = i + 1 by omega, show ((i : Int)).toNat = i by omega]
  simp
theorem tot_set (f : Int → Int) : ∀ (v : List Int) (i : Nat) (x : Int), i < v.length → tot f (v.set i x) = tot f v - f (rd v (i : Int)) + f x
  | [], i, x, h => by simp at h
  | y :: ys, 0, x, h => by simp [tot, rd]; omega
  | y :: ys, i + 1, x, h => by
    have := tot_set f ys i x (by simpa using h)
    rw [List.set_cons_succ, tot, tot, this, rd_cons_succ]
    omega
theorem mem_rd {v : List Int} {x : Int} (h : x ∈ v) : ∃ a : Nat, a < v.length ∧ rd v (a : Int) = x := by
  obtain ⟨a, ha, e⟩ := List.mem_iff_getElem.mp h
  exact ⟨a, ha, by rw [rd_at v a ha, e]⟩
theorem rd_mem {v : List Int} {a : Nat} (h : a < v.length) : rd v (a : Int) ∈ v := by
  rw [rd_at v a h]; exact List.getElem_mem h
theorem tot_nonpos : ∀ (v : List Int), (∀ x ∈ v, x ≤ 0) → tot id v ≤ 0 ∧ (tot id v = 0 → ∀ x ∈ v, x = 0)
  | [], _ => ⟨by simp [tot], by simp⟩
  | y :: ys, h => by
    have h1 := tot_nonpos ys (fun x hx => h x (by simp [hx]))
    have h2 := h y (by simp)
    constructor
    · simp only [tot, id]; omega
    · intro e
      simp only [tot, id] at e
      intro x hx
      rcases List.mem_cons.mp hx with rfl | hx
      · omega
      · exact h1.2 (by omega) x hx
theorem tot_nonneg : ∀ (v : List Int), (∀ x ∈ v, 0 ≤ x) → 0 ≤ tot id v ∧ (tot id v = 0 → ∀ x ∈ v, x = 0)
  | [], _ => ⟨by simp [tot], by simp⟩
  | y :: ys, h => by
    have h1 := tot_nonneg ys (fun x hx => h x (by simp [hx]))
    have h2 := h y (by simp)
    constructor
    · simp only [tot, id]; omega
    · intro e
      simp only [tot, id] at e
      intro x hx
      rcases List.mem_cons.mp hx with rfl | hx
      · omega
      · exact h1.2 (by omega) x hx
theorem tot_bound (f : Int → Int) (B : Int) : ∀ (v : List Int), (∀ x ∈ v, -B ≤ f x ∧ f x ≤ B) → -(B * v.length) ≤ tot f v ∧ tot f v ≤ B * v.length
  | [], _ => by simp [tot]
  | y :: ys, h => by
    have h1 := tot_bound f B ys (fun x hx => h x (by simp [hx]))
    have h2 := h y (by simp)
    simp only [tot, List.length_cons]
    have e : B * ((ys.length + 1 : Nat) : Int) = B * ys.length + B := by rw [Int.natCast_add, Int.mul_add]; simp
    omega
/-! ### pairs: the step, and many steps -/
def pstep (a b : Int) : Int × Int := if a = 0 ∨ b = 0 then (a, b) else if a < b then (wrap64 (2 * a), wrap64 (b - a)) else (wrap64 (a - b), wrap64 (2 * b))
theorem spec_dbStep.ev (a b : Int) : Ev (fun k => spec_dbStep.f k a b) (pstep a b) := by
  refine ⟨1, fun k hk => ?_⟩
  obtain ⟨k, rfl⟩ : ∃ m, k = m + 1 := ⟨k - 1, by omega⟩
  show spec_dbStep.f (k + 1) a b = _
  unfold spec_dbStep.f pstep
  by_cases ha : a = 0
  · simp [ha, spec_dbStep.j0]
  · by_cases hb : b = 0
    · simp [ha, hb, spec_dbStep.j0]
    · by_cases h : a < b
      · rw [if_neg ha, if_neg (by omega), if_pos h]
        simp only [spec_dbStep.j0]
        rw [if_neg (by simpa using hb), if_neg (by omega)]
      · rw [if_neg ha, if_neg (by omega), if_neg h]
        simp only [spec_dbStep.j0]
        rw [if_neg (by simpa using hb), if_pos (by omega)]
theorem impl_pairStep.ev (a b : Int) : Ev (fun k => impl_pairStep.f k a b) (pstep a b) := by
  refine ⟨1, fun k hk => ?_⟩
  obtain ⟨k, rfl⟩ : ∃ m, k = m + 1 := ⟨k - 1, by omega⟩
  show impl_pairStep.f (k + 1) a b = _
  unfold impl_pairStep.f pstep
  by_cases ha : a = 0
  · simp [ha, impl_pairStep.j0]
  · by_cases hb : b = 0
    · simp [ha, hb, impl_pairStep.j0]
    · by_cases h : a < b
      · rw [if_neg ha, if_neg (by omega), if_pos h]
        simp only [impl_pairStep.j0]
        rw [if_neg (by simpa using hb), if_pos (by omega)]
      · rw [if_neg ha, if_neg (by omega), if_neg h]
        simp only [impl_pairStep.j0]
        rw [if_neg (by simpa using hb), if_neg (by omega)]
theorem isPair_same (a b : Int) : impl_isPair.f a b = spec_dbPair.f a b := rfl
theorem spec_dbPair.some_ (a b : Int) : ∃ g, spec_dbPair.f a b = some g := by
  unfold spec_dbPair.f spec_l1In.f
  repeat' (first | exact ⟨_, rfl⟩ | split | (simp only [Option.bind_some]))
/-! ### pairs: many steps -/
def pit : Nat → Int × Int → Int × Int
  | 0, p => p
  | n + 1, p => pit n (pstep p.1 p.2)
/-- What both tell. -/
def pafter (a b s : Int) : Int × Int × Bool := if spec_dbPair.f a b = some true ∧ 0 ≤ s ∧ s ≤ 1000000 then ((pit s.toNat (a, b)).1, (pit s.toNat (a, b)).2, true) else (0, 0, false)
theorem spec_l1In.is (x a b : Int) : spec_l1In.f x a b = some (decide (a ≤ x) && decide (x ≤ b)) := by
  unfold spec_l1In.f
  by_cases h : x ≥ a
  · simp [h, show a ≤ x from h]
  · simp [h, show ¬ a ≤ x from h]
/-- A pair of n stones. -/
def pdom (n : Nat) (p : Int × Int) : Prop := 0 ≤ p.1 ∧ 0 ≤ p.2 ∧ p.1 + p.2 = n
theorem pstep_dom {n : Nat} (hn : n ≤ 100000) {a b : Int} (h : pdom n (a, b)) : pdom n (pstep a b) := by
  obtain ⟨h1, h2, h3⟩ := h
  simp only at h1 h2 h3
  unfold pstep
  split
  · exact ⟨h1, h2, h3⟩
  · split
    · rw [w64 (2 * a) (by omega) (by omega), w64 (b - a) (by omega) (by omega)]
      exact ⟨by simp only; omega, by simp only; omega, by simp only; omega⟩
    · rw [w64 (a - b) (by omega) (by omega), w64 (2 * b) (by omega) (by omega)]
      exact ⟨by simp only; omega, by simp only; omega, by simp only; omega⟩
theorem pit_succ' : ∀ (s : Nat) (p : Int × Int), pit (s + 1) p = pstep (pit s p).1 (pit s p).2
  | 0, p => rfl
  | s + 1, p => by
    show pit (s + 1) (pstep p.1 p.2) = _
    rw [pit_succ' s (pstep p.1 p.2)]
    rfl
theorem pit_dom {n : Nat} (hn : n ≤ 100000) : ∀ (s : Nat) (p : Int × Int), pdom n p → pdom n (pit s p)
  | 0, p, h => h
  | s + 1, p, h => by
    rw [pit_succ']
    exact pstep_dom hn (pit_dom hn s p h)
def negs (t : List Int) : Int := tot (fun x => if x < 0 then 1 else 0) t
theorem negs_nonneg : ∀ t : List Int, 0 ≤ negs t
  | [] => by simp [negs, tot]
  | x :: xs => by
    have := negs_nonneg xs
    unfold negs at *
    simp only [tot]
    split <;> omega
theorem negs_pos : ∀ (t : List Int) (i : Nat), i < t.length → rd t (i : Int) < 0 → 1 ≤ negs t
  | [], i, h, _ => by simp at h
  | x :: xs, 0, _, h => by
    have := negs_nonneg xs
    have hx : x < 0 := by simpa [rd] using h
    unfold negs at *
    simp only [tot, if_pos hx]
    omega
  | x :: xs, i + 1, hi, h => by
    rw [rd_cons_succ] at h
    have := negs_pos xs i (by simpa using hi) h
    unfold negs at *
    simp only [tot]
    split <;> omega
theorem negs_rep : ∀ n : Nat, negs (List.replicate n (-1)) = n
  | 0 => rfl
  | n + 1 => by
    have := negs_rep n
    unfold negs at *
    rw [List.replicate_succ]
    simp only [tot, this]
    simp; omega
theorem wf_of {x : Int} (h1 : -9223372036854775808 ≤ x) (h2 : x ≤ 9223372036854775807) : (Lit.int .i64 x).wf = true := by
  simp [Lit.wf, IntKind.min, IntKind.max, IntKind.bits, IntKind.signed]
  omega
theorem cycle_found {n : Nat} (hn : n ≤ 100000) (p : Int × Int) (hp : pdom n p) (s : Nat) (t : List Int) (m : List (Int × Int)) (ht : t.length = n + 1) (hm : m.length = s) (hs : s ≤ n + 1)
    (h1 : ∀ x : Nat, x ≤ n → rd t (x : Int) = (pcGet m (x : Int)).getD (-1)) (h2 : ∀ x f, pcGet m x = some f → ∃ i : Nat, f = i ∧ i < s ∧ (pit i p).1 = x) (h3 : ∀ i : Nat, i < s → pcGet m (pit i p).1 = some (i : Int)) (f : Int) (hf : pcGet m (pit s p).1 = some f) :
    ∃ lead e : Nat, lead < e ∧ e ≤ n + 1 ∧ Ev (fun k => spec_dbCycle.l1 k (pit s p).1 (pit s p).2 t s) ((lead : Int), (e : Int) - lead) ∧ Ev (fun k => impl_pairCycle.l0 k m (pit s p).1 (pit s p).2 s) ((lead : Int), (e : Int) - lead) ∧ (pit e p).1 = (pit lead p).1 ∧ (∀ i j : Nat, i < e → j < e → (pit i p).1 = (pit j p).1 → i = j) := by
  obtain ⟨d1, d2, d3⟩ := pit_dom hn s p hp
  obtain ⟨x, hx⟩ : ∃ x : Nat, (pit s p).1 = x := ⟨(pit s p).1.toNat, by omega⟩
  obtain ⟨i, rfl, hi, hpi⟩ := h2 _ _ hf
  have hr := h1 x (by omega)
  rw [← hx, hf] at hr
  simp only [Option.getD_some] at hr
  refine ⟨i, s, hi, hs, ?_, ?_, hpi.symm, fun a b ha hb e => ?_⟩
  · refine Ev.step (f := fun _ => some ((i : Int), (s : Int) - i)) (fun k => ?_) (Ev.now _)
    simp only [spec_dbCycle.l1]
    rw [if_pos (by omega), if_pos (by omega), hr, if_neg (by omega), w64 ((s : Int) - i) (by omega) (by omega)]
  · refine Ev.step (f := fun _ => some ((i : Int), (s : Int) - i)) (fun k => ?_) (Ev.now _)
    simp only [impl_pairCycle.l0]
    rw [if_pos ⟨wf_of (by omega) (by omega), wf_of (by omega) (by omega), by omega⟩, hf]
    simp only
    rw [w64 ((s : Int) - i) (by omega) (by omega)]
  · have ea := h3 a ha
    rw [e, h3 b hb] at ea
    have := Option.some.inj ea
    omega
theorem both_cycle {n : Nat} (hn : n ≤ 100000) (p : Int × Int) (hp : pdom n p) : ∀ (c s : Nat) (t : List Int) (m : List (Int × Int)), negs t = c → t.length = n + 1 → m.length = s → s + c = n + 1 →
    (∀ x : Nat, x ≤ n → rd t (x : Int) = (pcGet m (x : Int)).getD (-1)) → (∀ x f, pcGet m x = some f → ∃ i : Nat, f = i ∧ i < s ∧ (pit i p).1 = x) → (∀ i : Nat, i < s → pcGet m (pit i p).1 = some (i : Int)) →
    ∃ lead e : Nat, lead < e ∧ e ≤ n + 1 ∧ Ev (fun k => spec_dbCycle.l1 k (pit s p).1 (pit s p).2 t s) ((lead : Int), (e : Int) - lead) ∧ Ev (fun k => impl_pairCycle.l0 k m (pit s p).1 (pit s p).2 s) ((lead : Int), (e : Int) - lead) ∧ (pit e p).1 = (pit lead p).1 ∧ (∀ i j : Nat, i < e → j < e → (pit i p).1 = (pit j p).1 → i = j) := by
  intro c
  induction c with
  | zero =>
    intro s t m hc ht hm hs h1 h2 h3
    cases hf : pcGet m (pit s p).1 with
    | some f => exact cycle_found hn p hp s t m ht hm (by omega) h1 h2 h3 f hf
    | none =>
      exfalso
      obtain ⟨d1, d2, d3⟩ := pit_dom hn s p hp
      obtain ⟨x, hx⟩ : ∃ x : Nat, (pit s p).1 = x := ⟨(pit s p).1.toNat, by omega⟩
      have hr := h1 x (by omega)
      rw [← hx, hf] at hr
      simp only [Option.getD_none] at hr
      have := negs_pos t x (by omega) (by rw [← hx]; omega)
      omega
  | succ c ih =>
    intro s t m hc ht hm hs h1 h2 h3
    cases hf : pcGet m (pit s p).1 with
    | some f => exact cycle_found hn p hp s t m ht hm (by omega) h1 h2 h3 f hf
    | none =>
      obtain ⟨d1, d2, d3⟩ := pit_dom hn s p hp
      obtain ⟨x, hx⟩ : ∃ x : Nat, (pit s p).1 = x := ⟨(pit s p).1.toNat, by omega⟩
      have hr := h1 x (by omega)
      rw [← hx, hf] at hr
      simp only [Option.getD_none] at hr
      have hns : negs (t.set x (s : Int)) = c := by
        have := tot_set (fun x => if x < 0 then 1 else 0) t x (s : Int) (by omega)
        unfold negs at *
        rw [this, hc, ← hx, hr]
        simp; omega
      obtain ⟨lead, e, q0, q1, e1, e2, q2, q3⟩ := ih (s + 1) (t.set x (s : Int)) (((pit s p).1, (s : Int)) :: m) hns (by simpa using ht) (by simpa using hm) (by omega) (fun y hy => by
          unfold pcGet
          by_cases h : x = y
          · subst h
            rw [rd_set_eq _ _ _ (by omega), if_pos hx]; rfl
          · rw [rd_set_neN _ _ _ _ h, if_neg (by omega)]
            exact h1 y hy) (fun y f hy => by
          unfold pcGet at hy
          split at hy
          · rename_i h
            exact ⟨s, (Option.some.inj hy).symm, by omega, h⟩
          · obtain ⟨i, a, b, c⟩ := h2 y f hy
            exact ⟨i, a, by omega, c⟩) (fun i hi => by
          unfold pcGet
          by_cases h : (pit s p).1 = (pit i p).1
          · rw [if_pos h]
            rcases Nat.lt_or_ge i s with hlt | hge
            · rw [h, h3 i hlt] at hf
              cases hf
            · have : i = s := by omega
              rw [this]
          · rw [if_neg h]
            rcases Nat.lt_or_ge i s with hlt | hge
            · exact h3 i hlt
            · have : i = s := by omega
              rw [this] at h
              exact absurd rfl h)
      rw [pit_succ' s p] at e1 e2
      refine ⟨lead, e, q0, q1, ?_, ?_, q2, q3⟩
      · refine Ev.step (f := fun k => (spec_dbStep.f k (pit s p).1 (pit s p).2).bind fun bt => spec_dbCycle.l1 k bt.1 bt.2 (t.set x (s : Int)) ((s + 1 : Nat) : Int)) (fun k => ?_) (Ev.bind (spec_dbStep.ev _ _) e1)
        simp only [spec_dbCycle.l1]
        rw [if_pos (by omega), if_pos (by omega), if_pos (by omega), w64s s (by omega), hx, Int.toNat_natCast]
      · refine Ev.step (f := fun k => (impl_pairStep.f k (pit s p).1 (pit s p).2).bind fun bt => impl_pairCycle.l0 k (((pit s p).1, (s : Int)) :: m) bt.1 bt.2 ((s + 1 : Nat) : Int)) (fun k => ?_) (Ev.bind (impl_pairStep.ev _ _) e2)
        simp only [impl_pairCycle.l0]
        rw [if_pos ⟨wf_of (by omega) (by omega), wf_of (by omega) (by omega), by omega⟩, hf]
        simp only
        rw [w64s s (by omega)]
theorem spec_dbCycle.l0ev {n : Nat} (hn : n ≤ 100000) (a b : Int) (r : Int × Int) (h : Ev (fun k => spec_dbCycle.l1 k a b (List.replicate (n + 1) (-1)) 0) r) : ∀ (d i : Nat), i + d = n + 1 → Ev (fun k => spec_dbCycle.l0 k a b (List.replicate i (-1) ++ List.replicate d 0) ((n + 1 : Nat) : Int) i) r := by
  intro d
  induction d with
  | zero =>
    intro i hi
    obtain rfl : i = n + 1 := by omega
    refine Ev.step (f := fun k => spec_dbCycle.l1 k a b (List.replicate (n + 1) (-1)) 0) (fun k => ?_) h
    simp only [spec_dbCycle.l0]
    rw [if_neg (by omega)]
    simp
  | succ d ih =>
    intro i hi
    refine Ev.step (f := fun k => spec_dbCycle.l0 k a b (List.replicate (i + 1) (-1) ++ List.replicate d 0) ((n + 1 : Nat) : Int) ((i + 1 : Nat) : Int)) (fun k => ?_) (ih (i + 1) (by omega))
    simp only [spec_dbCycle.l0]
    rw [if_pos (by omega), if_pos (by omega), if_pos (by simp; omega), w64s i (by omega), Int.toNat_natCast]
    congr 1
    rw [List.set_append_right _ _ (by simp), List.length_replicate, Nat.sub_self, List.replicate_succ, List.set_cons_zero, List.replicate_succ', List.append_assoc]
    rfl
/-- Both tell when a pair comes again: lead and e, the first time that it has come before. -/
theorem cycles {a b : Int} {n : Nat} (hn : n ≤ 100000) (hp : pdom n (a, b)) : ∃ lead e : Nat, lead < e ∧ e ≤ n + 1 ∧ Ev (fun k => spec_dbCycle.f k a b) ((lead : Int), (e : Int) - lead) ∧ Ev (fun k => impl_pairCycle.f k a b) ((lead : Int), (e : Int) - lead) ∧ (pit e (a, b)).1 = (pit lead (a, b)).1 ∧ (∀ i j : Nat, i < e → j < e → (pit i (a, b)).1 = (pit j (a, b)).1 → i = j) := by
  obtain ⟨lead, e, q0, q1, e1, e2, q2, q3⟩ := both_cycle hn (a, b) hp (n + 1) 0 (List.replicate (n + 1) (-1)) [] (by rw [negs_rep]) (by simp) rfl (by omega) (fun x hx => by
      rw [rd_at _ x (by simp; omega)]; simp [pcGet]) (fun x f h => by simp [pcGet] at h) (fun i hi => by omega)
  refine ⟨lead, e, q0, q1, ?_, e2, q2, q3⟩
  have hs : wrap64 (wrap64 (a + b) + 1) = ((n + 1 : Nat) : Int) := by
    have h3 := hp.2.2
    simp only at h3
    rw [h3, w64 (n : Int) (by omega) (by omega), w64 _ (by omega) (by omega)]; omega
  unfold spec_dbCycle.f
  simp only [hs, if_pos (show (0 : Int) ≤ ((n + 1 : Nat) : Int) by omega), if_pos (show (((n + 1 : Nat) : Int)).toNat ≤ 35184372088832 by omega), Option.bind_some, Int.toNat_natCast, List.length_replicate]
  have := spec_dbCycle.l0ev hn a b _ e1 (n + 1) 0 (by omega)
  simpa [show n ≤ 35184372088831 by omega] using this
theorem isPair_dom {a b : Int} (h : spec_dbPair.f a b = some true) : ∃ n : Nat, n ≤ 100000 ∧ pdom n (a, b) := by
  unfold spec_dbPair.f at h
  simp only [spec_l1In.is, Option.bind_some] at h
  by_cases h1 : (decide (0 ≤ a) && decide (a ≤ 100000)) = true
  · by_cases h2 : (decide (0 ≤ b) && decide (b ≤ 100000)) = true
    · rw [if_pos h1, if_pos h2] at h
      have h1' : 0 ≤ a ∧ a ≤ 100000 := by simpa using h1
      have h2' : 0 ≤ b ∧ b ≤ 100000 := by simpa using h2
      rw [w64 (a + b) (by omega) (by omega)] at h
      have h3 := Option.some.inj h
      simp at h3
      exact ⟨(a + b).toNat, by omega, h1'.1, h2'.1, by simp only; omega⟩
    · rw [if_pos h1, if_neg h2] at h
      cases h
  · rw [if_neg h1] at h
    cases h
theorem pit_stay (p : Int × Int) : ∀ (s : Nat), (pit s p).1 = 0 ∨ (pit s p).2 = 0 → pit (s + 1) p = pit s p := by
  intro s h
  rw [pit_succ']
  unfold pstep
  rw [if_pos h]
/-- Before e there is no empty heap among the pairs from i on. -/
theorem spec_empty_none (p : Int × Int) (lead : Nat) (hl : lead ≤ 100001) (h : ∀ i : Nat, i ≤ lead → ¬ ((pit i p).1 = 0 ∨ (pit i p).2 = 0)) : ∀ (d i : Nat), i + d = lead + 1 → Ev (fun k => spec_dbEmpty.l0 k (pit i p).1 (pit i p).2 (lead : Int) i) (-1) := by
  intro d
  induction d with
  | zero =>
    intro i hi
    refine Ev.step (f := fun _ => some (-1)) (fun k => ?_) (Ev.now _)
    simp only [spec_dbEmpty.l0]
    rw [if_neg (by omega)]
  | succ d ih =>
    intro i hi
    have hh := h i (by omega)
    have e := ih (i + 1) (by omega)
    rw [pit_succ'] at e
    refine Ev.step (f := fun k => (spec_dbStep.f k (pit i p).1 (pit i p).2).bind fun bt => spec_dbEmpty.l0 k bt.1 bt.2 (lead : Int) ((i + 1 : Nat) : Int)) (fun k => ?_) (Ev.bind (spec_dbStep.ev _ _) e)
    simp only [spec_dbEmpty.l0]
    rw [if_pos (by omega), if_neg (by omega), if_neg (by omega), w64s i (by omega)]
theorem spec_empty_at (p : Int × Int) (lead z : Nat) (hz : z ≤ lead) (hl : lead ≤ 100001) (hzero : (pit z p).1 = 0 ∨ (pit z p).2 = 0) (h : ∀ i : Nat, i < z → ¬ ((pit i p).1 = 0 ∨ (pit i p).2 = 0)) : ∀ (d i : Nat), i + d = z → Ev (fun k => spec_dbEmpty.l0 k (pit i p).1 (pit i p).2 (lead : Int) i) (z : Int) := by
  intro d
  induction d with
  | zero =>
    intro i hi
    obtain rfl : i = z := by omega
    refine Ev.step (f := fun _ => some (i : Int)) (fun k => ?_) (Ev.now _)
    simp only [spec_dbEmpty.l0]
    rw [if_pos (by omega)]
    by_cases c : (pit i p).1 = 0
    · rw [if_pos c]
    · rw [if_neg c, if_pos (by omega)]
  | succ d ih =>
    intro i hi
    have hh := h i (by omega)
    have e := ih (i + 1) (by omega)
    rw [pit_succ'] at e
    refine Ev.step (f := fun k => (spec_dbStep.f k (pit i p).1 (pit i p).2).bind fun bt => spec_dbEmpty.l0 k bt.1 bt.2 (lead : Int) ((i + 1 : Nat) : Int)) (fun k => ?_) (Ev.bind (spec_dbStep.ev _ _) e)
    simp only [spec_dbEmpty.l0]
    rw [if_pos (by omega), if_neg (by omega), if_neg (by omega), w64s i (by omega)]
theorem impl_empty_none (p : Int × Int) (lead : Nat) (hl : lead ≤ 100001) (h : ∀ i : Nat, i < lead → ¬ ((pit i p).1 = 0 ∨ (pit i p).2 = 0)) : ∀ (d i : Nat), i + d = lead → Ev (fun k => impl_stepsToEmpty.l0 k (pit i p).1 (pit i p).2 (lead : Int) i) (-1) := by
  intro d
  induction d with
  | zero =>
    intro i hi
    refine Ev.step (f := fun _ => some (-1)) (fun k => ?_) (Ev.now _)
    simp only [impl_stepsToEmpty.l0]
    rw [if_neg (by omega)]
  | succ d ih =>
    intro i hi
    have hh := h i (by omega)
    have e := ih (i + 1) (by omega)
    rw [pit_succ'] at e
    refine Ev.step (f := fun k => (impl_pairStep.f k (pit i p).1 (pit i p).2).bind fun bt => impl_stepsToEmpty.l0 k bt.1 bt.2 (lead : Int) ((i + 1 : Nat) : Int)) (fun k => ?_) (Ev.bind (impl_pairStep.ev _ _) e)
    simp only [impl_stepsToEmpty.l0]
    rw [if_pos (by omega), if_neg (by omega), if_neg (by omega), w64s i (by omega)]
theorem impl_empty_at (p : Int × Int) (lead z : Nat) (hz : z < lead) (hl : lead ≤ 100001) (hzero : (pit z p).1 = 0 ∨ (pit z p).2 = 0) (h : ∀ i : Nat, i < z → ¬ ((pit i p).1 = 0 ∨ (pit i p).2 = 0)) : ∀ (d i : Nat), i + d = z → Ev (fun k => impl_stepsToEmpty.l0 k (pit i p).1 (pit i p).2 (lead : Int) i) (z : Int) := by
  intro d
  induction d with
  | zero =>
    intro i hi
    obtain rfl : i = z := by omega
    refine Ev.step (f := fun _ => some (i : Int)) (fun k => ?_) (Ev.now _)
    simp only [impl_stepsToEmpty.l0]
    rw [if_pos (by omega)]
    by_cases c : (pit i p).1 = 0
    · rw [if_pos c]
    · rw [if_neg c, if_pos (by omega)]
  | succ d ih =>
    intro i hi
    have hh := h i (by omega)
    have e := ih (i + 1) (by omega)
    rw [pit_succ'] at e
    refine Ev.step (f := fun k => (impl_pairStep.f k (pit i p).1 (pit i p).2).bind fun bt => impl_stepsToEmpty.l0 k bt.1 bt.2 (lead : Int) ((i + 1 : Nat) : Int)) (fun k => ?_) (Ev.bind (impl_pairStep.ev _ _) e)
    simp only [impl_stepsToEmpty.l0]
    rw [if_pos (by omega), if_neg (by omega), if_neg (by omega), w64s i (by omega)]
/-- The first of the numbers below n for which P holds, or none. -/
theorem first_or_none (P : Nat → Prop) (n : Nat) : (∃ z, z < n ∧ P z ∧ ∀ i, i < z → ¬ P i) ∨ ∀ i, i < n → ¬ P i := by
  induction n with
  | zero => exact Or.inr (fun i h => by omega)
  | succ n ih =>
    rcases ih with ⟨z, h1, h2, h3⟩ | h
    · exact Or.inl ⟨z, by omega, h2, h3⟩
    · rcases Classical.em (P n) with hp | hp
      · exact Or.inl ⟨n, by omega, hp, h⟩
      · exact Or.inr (fun i hi => by
          by_cases c : i = n
          · rw [c]; exact hp
          · exact h i (by omega))
theorem empties {a b : Int} {n : Nat} (hn : n ≤ 100000) (hp : pdom n (a, b)) : ∃ r : Int, Ev (fun k => spec_dbEmpty.f k a b) r ∧ Ev (fun k => impl_stepsToEmpty.f k a b) r := by
  obtain ⟨lead, e, q0, q1, e1, e2, q2, q3⟩ := cycles hn hp
  have he : wrap64 ((lead : Int) + ((e : Int) - lead)) = e := by rw [w64 _ (by omega) (by omega)]; omega
  rcases first_or_none (fun i => (pit i (a, b)).1 = 0 ∨ (pit i (a, b)).2 = 0) e with ⟨z, h1, h2, h3⟩ | h
  · have hst := pit_stay (a, b) z h2
    have hz : z ≤ lead := by
      rcases Nat.lt_or_ge (z + 1) e with c | c
      · have := q3 z (z + 1) (by omega) c (by rw [hst])
        omega
      · have : e = z + 1 := by omega
        rw [this, hst] at q2
        have := q3 z lead h1 q0 q2
        omega
    refine ⟨z, Ev.bind e1 ?_, Ev.bind e2 ?_⟩
    · exact spec_empty_at (a, b) lead z hz (by omega) h2 h3 z 0 (by omega)
    · rw [he]
      exact impl_empty_at (a, b) e z h1 (by omega) h2 h3 z 0 (by omega)
  · refine ⟨-1, Ev.bind e1 ?_, Ev.bind e2 ?_⟩
    · exact spec_empty_none (a, b) lead (by omega) (fun i hi => h i (by omega)) (lead + 1) 0 (by omega)
    · rw [he]
      exact impl_empty_none (a, b) e (by omega) h e 0 (by omega)
theorem spec_PairAfter.l0ev (n : Nat) : n ≤ 1000000 → ∀ a b, Ev (fun k => spec_PairAfter.l0 k a b n) ((pit n (a, b)).1, (pit n (a, b)).2, true) := by
  induction n with
  | zero =>
    intro _ a b
    refine Ev.step (f := fun _ => some (a, b, true)) (fun k => ?_) (Ev.now _)
    simp only [spec_PairAfter.l0]
    rw [if_neg (by omega)]
  | succ n ih =>
    intro hn a b
    refine Ev.step (f := fun k => (spec_dbStep.f k a b).bind fun bt => spec_PairAfter.l0 k bt.1 bt.2 n) (fun k => ?_) (Ev.bind (spec_dbStep.ev a b) (ih (by omega) _ _))
    simp only [spec_PairAfter.l0]
    rw [if_pos (by omega), show wrap64 (((n + 1 : Nat) : Int) - 1) = n by unfold wrap64; omega]
theorem spec_PairAfter.ev (a b s : Int) : Ev (fun k => spec_PairAfter.f k a b s) (pafter a b s) := by
  obtain ⟨g, hg⟩ := spec_dbPair.some_ a b
  unfold spec_PairAfter.f pafter
  rw [hg]
  simp only [Option.bind_some]
  cases g with
  | false =>
    rw [if_neg (by simp)]
    refine Ev.step (f := fun _ => some (0, 0, false)) (fun k => ?_) (Ev.now _)
    simp [spec_PairAfter.j0]
  | true =>
    by_cases hs : 0 ≤ s ∧ s ≤ 1000000
    · rw [if_pos ⟨rfl, hs⟩]
      have h1 : spec_l1In.f s 0 1000000 = some true := by unfold spec_l1In.f; rw [if_pos (by omega)]; simp [hs.2]
      rw [h1]
      refine Ev.step (f := fun k => spec_PairAfter.l0 k a b s) (fun k => ?_) ?_
      · simp [spec_PairAfter.j0]
      · have := spec_PairAfter.l0ev s.toNat (by omega) a b
        rw [show ((s.toNat : Nat) : Int) = s by omega] at this
        exact this
    · rw [if_neg (fun h => hs h.2)]
      have h1 : spec_l1In.f s 0 1000000 = some false := by
        unfold spec_l1In.f
        by_cases h0 : s ≥ 0
        · rw [if_pos h0]; simp; omega
        · rw [if_neg h0]
      rw [h1]
      refine Ev.step (f := fun _ => some (0, 0, false)) (fun k => ?_) (Ev.now _)
      simp [spec_PairAfter.j0]
theorem impl_PairAfter.l0ev (s : Int) (hs : s ≤ 1000000) (n : Nat) : ∀ i : Int, 0 ≤ i → s - i = n → ∀ a b, Ev (fun k => impl_PairAfter.l0 k a b s i) ((pit n (a, b)).1, (pit n (a, b)).2, true) := by
  induction n with
  | zero =>
    intro i h0 hi a b
    refine Ev.step (f := fun _ => some (a, b, true)) (fun k => ?_) (Ev.now _)
    simp only [impl_PairAfter.l0]
    rw [if_neg (by omega)]
  | succ n ih =>
    intro i h0 hi a b
    refine Ev.step (f := fun k => (impl_pairStep.f k a b).bind fun bt => impl_PairAfter.l0 k bt.1 bt.2 s (i + 1)) (fun k => ?_) (Ev.bind (impl_pairStep.ev a b) (ih (i + 1) (by omega) (by omega) _ _))
    simp only [impl_PairAfter.l0]
    rw [if_pos (by omega), show wrap64 (i + 1) = i + 1 by unfold wrap64; omega]
theorem impl_PairAfter.ev (a b s : Int) : Ev (fun k => impl_PairAfter.f k a b s) (pafter a b s) := by
  obtain ⟨g, hg⟩ := spec_dbPair.some_ a b
  unfold impl_PairAfter.f pafter
  rw [isPair_same, hg]
  simp only [Option.bind_some]
  cases g with
  | false =>
    rw [if_neg (by simp)]
    refine Ev.step (f := fun _ => some (0, 0, false)) (fun k => ?_) (Ev.now _)
    simp [impl_PairAfter.j0]
  | true =>
    by_cases hs : 0 ≤ s ∧ s ≤ 1000000
    · rw [if_pos ⟨rfl, hs⟩]
      have h1 : impl_within.f s 0 1000000 = some true := by unfold impl_within.f; rw [if_pos (by omega)]; simp [hs.2]
      rw [h1]
      refine Ev.step (f := fun k => impl_PairAfter.l0 k a b s 0) (fun k => ?_) ?_
      · simp [impl_PairAfter.j0]
      · exact impl_PairAfter.l0ev s hs.2 s.toNat 0 (by omega) (by omega) a b
    · rw [if_neg (fun h => hs h.2)]
      have h1 : impl_within.f s 0 1000000 = some false := by
        unfold impl_within.f
        by_cases h0 : s ≥ 0
        · rw [if_pos h0]; simp; omega
        · rw [if_neg h0]
      rw [h1]
      refine Ev.step (f := fun _ => some (0, 0, false)) (fun k => ?_) (Ev.now _)
      simp [impl_PairAfter.j0]
/-! ### what the pairs' functions tell of one another -/
theorem pit_add (s t : Nat) (p : Int × Int) : pit (s + t) p = pit t (pit s p) := by
  induction s generalizing p with
  | zero => simp [pit]
  | succ s ih => rw [show s + 1 + t = (s + t) + 1 by omega]; exact ih _
theorem dom_pair {n : Nat} (hn : n ≤ 100000) {a b : Int} (h : pdom n (a, b)) (h1 : 1 ≤ n) : spec_dbPair.f a b = some true := by
  obtain ⟨h2, h3, h4⟩ := h
  simp only at h2 h3 h4
  unfold spec_dbPair.f
  simp only [spec_l1In.is, Option.bind_some]
  rw [if_pos (by simp; omega), if_pos (by simp; omega), w64 (a + b) (by omega) (by omega)]
  simp; omega
theorem isPair_dom1 {a b : Int} (h : spec_dbPair.f a b = some true) : ∃ n : Nat, 1 ≤ n ∧ n ≤ 100000 ∧ pdom n (a, b) := by
  obtain ⟨n, hn, hp⟩ := isPair_dom h
  refine ⟨n, ?_, hn, hp⟩
  have h3 := hp.2.2
  have h1 := hp.1
  have h2 := hp.2.1
  simp only at h1 h2 h3
  unfold spec_dbPair.f at h
  simp only [spec_l1In.is, Option.bind_some] at h
  rw [if_pos (by simp; omega), if_pos (by simp; omega), w64 (a + b) (by omega) (by omega)] at h
  have := Option.some.inj h
  simp at this
  omega
theorem pafter_at {n : Nat} (h1 : 1 ≤ n) (hn : n ≤ 100000) {a b : Int} (h : pdom n (a, b)) (s : Nat) (hs : s ≤ 1000000) : pafter a b s = ((pit s (a, b)).1, (pit s (a, b)).2, true) := by
  unfold pafter
  rw [if_pos ⟨dom_pair hn h h1, by omega, by omega⟩]
  simp
theorem pit_pair {n : Nat} (hn : n ≤ 100000) {p : Int × Int} (h : pdom n p) {s t : Nat} (e : (pit s p).1 = (pit t p).1) : pit s p = pit t p := by
  have h1 := (pit_dom hn s p h).2.2
  have h2 := (pit_dom hn t p h).2.2
  have : (pit s p).2 = (pit t p).2 := by omega
  exact Prod.ext e this
/-- The first heap: doubled, less all stones once where that is too many. -/
theorem pit_first {n : Nat} (hn : n ≤ 100000) (p : Int × Int) (h : pdom n p) : ∀ s : Nat, ∃ m : Int, (pit s p).1 = 2 ^ s * p.1 - m * n := by
  intro s
  induction s with
  | zero => exact ⟨0, by simp [pit]⟩
  | succ s ih =>
    obtain ⟨m, hm⟩ := ih
    obtain ⟨d1, d2, d3⟩ := pit_dom hn s p h
    have key : ∃ q : Int, (pit (s + 1) p).1 = 2 * (pit s p).1 - q * n := by
      rw [pit_succ']
      generalize (pit s p).1 = x at *
      generalize (pit s p).2 = y at *
      unfold pstep
      split
      · rename_i c
        rcases c with c | c
        · exact ⟨0, by simp only; omega⟩
        · exact ⟨1, by simp only; omega⟩
      · split
        · exact ⟨0, by simp only; rw [w64 _ (by omega) (by omega)]; omega⟩
        · exact ⟨1, by simp only; rw [w64 _ (by omega) (by omega)]; omega⟩
    obtain ⟨q, hq⟩ := key
    refine ⟨2 * m + q, ?_⟩
    rw [hq, hm, Int.pow_succ, Int.mul_sub, Int.add_mul]
    have e1 : (2 : Int) ^ s * 2 * p.1 = 2 * (2 ^ s * p.1) := by rw [Int.mul_comm ((2 : Int) ^ s) 2, Int.mul_assoc]
    have e2 : (2 : Int) * m * n = 2 * (m * n) := Int.mul_assoc _ _ _
    omega
theorem odd_dvd {o : Int} (ho : o % 2 = 1) : ∀ (z : Nat) (a : Int), o ∣ 2 ^ z * a → o ∣ a := by
  intro z
  induction z with
  | zero => intro a h; simpa using h
  | succ z ih =>
    intro a h
    have h2 : o ∣ 2 ^ z * (2 * a) := by rw [Int.pow_succ, Int.mul_assoc] at h; exact h
    obtain ⟨c, hc⟩ := ih (2 * a) h2
    have hce : c % 2 = 0 := by
      have h3 : (o * c) % 2 = 0 := by rw [← hc]; omega
      rw [Int.mul_emod, ho] at h3
      omega
    refine ⟨c / 2, ?_⟩
    have h4 : c = 2 * (c / 2) := by omega
    rw [h4, ← Int.mul_assoc, Int.mul_comm o 2, Int.mul_assoc] at hc
    omega
/-- All that the law asks of a pair. -/
structure PairLaw (a b : Int) (lead per : Nat) (emp : Bool) (need : Nat) : Prop where
  pl : Ev (fun k => spec_PairLead.f k a b) ((lead : Int), true) ∧ Ev (fun k => impl_PairLead.f k a b) ((lead : Int), true)
  pp : Ev (fun k => spec_PairPeriod.f k a b) ((per : Int), true) ∧ Ev (fun k => impl_PairPeriod.f k a b) ((per : Int), true)
  pe : Ev (fun k => spec_DoesPairEmpty.f k a b) (emp, true) ∧ Ev (fun k => impl_DoesPairEmpty.f k a b) (emp, true)
  pn : Ev (fun k => spec_PairStepsToEmpty.f k a b) ((need : Int), emp) ∧ Ev (fun k => impl_PairStepsToEmpty.f k a b) ((need : Int), emp)
  le : lead ≤ 100001 ∧ 1 ≤ per ∧ per ≤ 100001 ∧ need ≤ 100001
  dom : ∃ n : Nat, 1 ≤ n ∧ n ≤ 100000 ∧ pdom n (a, b)
  again : ∃ p q : Int, pafter a b lead = (p, q, true) ∧ pafter p q per = (p, q, true)
  first : 0 < lead → ∃ g h i j : Int, pafter a b ((lead : Int) - 1) = (g, h, true) ∧ pafter g h per = (i, j, true) ∧ ¬ (i = g ∧ j = h)
  empt : emp = true → (∃ p q : Int, pafter a b need = (p, q, true) ∧ (p = 0 ∨ q = 0)) ∧ per = 1 ∧ need = lead ∧ (0 < need → ∃ r : Int, pafter a b ((need : Int) - 1) = (r, r, true))
  odd : ∀ (t : Nat) (o : Int), a + b = 2 ^ t * o → o % 2 = 1 → (o ∣ a ↔ emp = true)
theorem pairlaw {a b : Int} (hg : spec_dbPair.f a b = some true) : ∃ lead per emp need, PairLaw a b lead per emp need := by
  obtain ⟨n, h1, hn, hp⟩ := isPair_dom1 hg
  obtain ⟨lead, e, q0, q1, e1, e2, q2, q3⟩ := cycles hn hp
  have hper : ((e - lead : Nat) : Int) = (e : Int) - lead := by omega
  have he : wrap64 ((lead : Int) + ((e : Int) - lead)) = e := by rw [w64 _ (by omega) (by omega)]; omega
  have hpe : pit e (a, b) = pit lead (a, b) := pit_pair hn hp q2
  have dl := pit_dom hn lead (a, b) hp
  have hagain : ∃ p q : Int, pafter a b lead = (p, q, true) ∧ pafter p q ((e - lead : Nat) : Int) = (p, q, true) := by
    refine ⟨(pit lead (a, b)).1, (pit lead (a, b)).2, pafter_at h1 hn hp lead (by omega), ?_⟩
    rw [pafter_at h1 hn dl (e - lead) (by omega)]
    have : pit (e - lead) (pit lead (a, b)) = pit lead (a, b) := by rw [← pit_add, show lead + (e - lead) = e by omega]; exact hpe
    rw [show ((pit lead (a, b)).1, (pit lead (a, b)).2) = pit lead (a, b) from rfl, this]
  have hfirst : 0 < lead → ∃ g h i j : Int, pafter a b ((lead : Int) - 1) = (g, h, true) ∧ pafter g h ((e - lead : Nat) : Int) = (i, j, true) ∧ ¬ (i = g ∧ j = h) := by
    intro hl
    have dm := pit_dom hn (lead - 1) (a, b) hp
    have ep : pit (e - lead) (pit (lead - 1) (a, b)) = pit (e - 1) (a, b) := by rw [← pit_add, show lead - 1 + (e - lead) = e - 1 by omega]
    refine ⟨(pit (lead - 1) (a, b)).1, (pit (lead - 1) (a, b)).2, (pit (e - 1) (a, b)).1, (pit (e - 1) (a, b)).2, ?_, ?_, ?_⟩
    · have := pafter_at h1 hn hp (lead - 1) (by omega)
      rw [show ((lead : Int) - 1) = ((lead - 1 : Nat) : Int) by omega]
      exact this
    · rw [pafter_at h1 hn dm (e - lead) (by omega)]
      rw [show ((pit (lead - 1) (a, b)).1, (pit (lead - 1) (a, b)).2) = pit (lead - 1) (a, b) from rfl, ep]
    · rintro ⟨c, _⟩
      have := q3 (e - 1) (lead - 1) (by omega) (by omega) c
      omega
  have zero_or : ∀ z : Nat, ((pit z (a, b)).1 = 0 ∨ (pit z (a, b)).2 = 0) ↔ (n : Int) ∣ (pit z (a, b)).1 := by
    intro z
    obtain ⟨d1, d2, d3⟩ := pit_dom hn z (a, b) hp
    constructor
    · rintro (c | c)
      · rw [c]; exact Int.dvd_zero _
      · exact ⟨1, by omega⟩
    · rintro ⟨c, hc⟩
      generalize (pit z (a, b)).1 = x at *
      generalize (pit z (a, b)).2 = y at *
      have hc0 : 0 ≤ c := by
        by_cases h : 0 ≤ c
        · exact h
        · exfalso
          have : (n : Int) * c ≤ n * (-1) := Int.mul_le_mul_of_nonneg_left (by omega) (by omega)
          omega
      by_cases h : c = 0
      · left; rw [hc, h]; simp
      · right
        have : (n : Int) * 1 ≤ n * c := Int.mul_le_mul_of_nonneg_left (by omega) (by omega)
        omega
  have hodd1 : ∀ (t : Nat) (o : Int), a + b = 2 ^ t * o → o % 2 = 1 → (o ∣ a ↔ ∃ z, (pit z (a, b)).1 = 0 ∨ (pit z (a, b)).2 = 0) := by
    intro t o ho ho1
    have hn3 : (n : Int) = 2 ^ t * o := by rw [← ho]; exact hp.2.2.symm
    constructor
    · rintro ⟨c, hc⟩
      refine ⟨t, (zero_or t).2 ?_⟩
      obtain ⟨m, hm⟩ := pit_first hn (a, b) hp t
      refine ⟨c - m, ?_⟩
      rw [hm, Int.mul_sub, Int.mul_comm m]
      have : (2 : Int) ^ t * a = n * c := by rw [hc, hn3, Int.mul_assoc]
      simp only
      rw [this]
    · rintro ⟨z, hz⟩
      obtain ⟨m, hm⟩ := pit_first hn (a, b) hp z
      obtain ⟨c, hc⟩ := (zero_or z).1 hz
      refine odd_dvd ho1 z a ⟨2 ^ t * (c + m), ?_⟩
      have : (2 : Int) ^ z * a = n * c + m * n := by rw [← hc, hm]; simp only; omega
      rw [this, hn3, ← Int.mul_assoc, Int.mul_comm o, Int.mul_add, Int.mul_comm m]
      rw [Int.add_mul, Int.mul_right_comm (2 ^ t) o c]
  rcases first_or_none (fun i => (pit i (a, b)).1 = 0 ∨ (pit i (a, b)).2 = 0) e with ⟨z, z1, z2, z3⟩ | h
  · have hst := pit_stay (a, b) z z2
    have hz : z ≤ lead ∧ e = z + 1 := by
      rcases Nat.lt_or_ge (z + 1) e with c | c
      · have := q3 z (z + 1) (by omega) c (by rw [hst])
        omega
      · have c2 : e = z + 1 := by omega
        rw [c2, hst] at q2
        have := q3 z lead z1 q0 q2
        omega
    have hzl : z = lead := by omega
    have hnone : ¬ ((z : Int) < 0) := by omega
    refine ⟨lead, e - lead, true, z, ⟨?_, ?_, ?_, ?_, by omega, ⟨n, h1, hn, hp⟩, hagain, hfirst, fun _ => ⟨?_, by omega, hzl, ?_⟩, fun t o ho ho1 => (hodd1 t o ho ho1).trans ⟨fun _ => rfl, fun _ => ⟨z, z2⟩⟩⟩⟩
    · unfold spec_PairLead.f impl_PairLead.f
      simp only [isPair_same, hg, Option.bind_some, if_true]
      exact ⟨Ev.bind e1 (Ev.now _), Ev.bind e2 (Ev.now _)⟩
    · unfold spec_PairPeriod.f impl_PairPeriod.f
      simp only [isPair_same, hg, Option.bind_some, if_true]
      rw [hper]
      exact ⟨Ev.bind e1 (Ev.now _), Ev.bind e2 (Ev.now _)⟩
    · have s1 : Ev (fun k => spec_dbEmpty.f k a b) (z : Int) := Ev.bind e1 (spec_empty_at (a, b) lead z (by omega) (by omega) z2 z3 z 0 (by omega))
      have s2 : Ev (fun k => impl_stepsToEmpty.f k a b) (z : Int) := Ev.bind e2 (by rw [he]; exact impl_empty_at (a, b) e z z1 (by omega) z2 z3 z 0 (by omega))
      unfold spec_DoesPairEmpty.f impl_DoesPairEmpty.f
      simp only [isPair_same, hg, Option.bind_some, if_true]
      have hd : decide ((z : Int) ≥ 0) = true := by simp
      exact ⟨Ev.bind s1 (by simpa using Ev.now _), Ev.bind s2 (by simpa using Ev.now _)⟩
    · have s1 : Ev (fun k => spec_dbEmpty.f k a b) (z : Int) := Ev.bind e1 (spec_empty_at (a, b) lead z (by omega) (by omega) z2 z3 z 0 (by omega))
      have s2 : Ev (fun k => impl_stepsToEmpty.f k a b) (z : Int) := Ev.bind e2 (by rw [he]; exact impl_empty_at (a, b) e z z1 (by omega) z2 z3 z 0 (by omega))
      unfold spec_PairStepsToEmpty.f impl_PairStepsToEmpty.f
      simp only [isPair_same, hg, Option.bind_some, if_true]
      refine ⟨Ev.bind s1 ?_, Ev.bind s2 ?_⟩
      · simp only [if_neg hnone]
        exact Ev.bind s1 (Ev.now _)
      · rw [show mx 0 (z : Int) = z by unfold mx; omega, decide_eq_true (by omega)]
        exact Ev.now _
    · exact ⟨_, _, pafter_at h1 hn hp z (by omega), z2⟩
    · intro hz0
      obtain ⟨d1, d2, d3⟩ := pit_dom hn (z - 1) (a, b) hp
      have hm := z3 (z - 1) (by omega)
      have hs := pit_succ' (z - 1) (a, b)
      rw [show z - 1 + 1 = z by omega] at hs
      have e5 := pafter_at h1 hn hp (z - 1) (by omega)
      rw [hs] at z2
      generalize (pit (z - 1) (a, b)).1 = x at *
      generalize (pit (z - 1) (a, b)).2 = y at *
      have hxy : x = y := by
        unfold pstep at z2
        rw [if_neg hm] at z2
        split at z2
        · rw [w64 _ (by omega) (by omega), w64 _ (by omega) (by omega)] at z2
          simp only at z2
          omega
        · rw [w64 _ (by omega) (by omega), w64 _ (by omega) (by omega)] at z2
          simp only at z2
          omega
      refine ⟨x, ?_⟩
      rw [show ((z : Int) - 1) = ((z - 1 : Nat) : Int) by omega, e5, ← hxy]
  · have hnoz : ¬ ∃ z, (pit z (a, b)).1 = 0 ∨ (pit z (a, b)).2 = 0 := by
      rintro ⟨z, hz⟩
      have key : ∀ z : Nat, ¬ ((pit z (a, b)).1 = 0 ∨ (pit z (a, b)).2 = 0) := by
        intro z
        induction z using Nat.strongRecOn with
        | ind z ih =>
          rcases Nat.lt_or_ge z e with c | c
          · exact h z c
          · have ez : pit z (a, b) = pit (lead + (z - e)) (a, b) := by
              rw [show z = e + (z - e) by omega, pit_add, hpe, ← pit_add]
              congr 1; omega
            rw [ez]
            exact ih _ (by omega)
      exact key z hz
    refine ⟨lead, e - lead, false, 0, ⟨?_, ?_, ?_, ?_, by omega, ⟨n, h1, hn, hp⟩, hagain, hfirst, (fun h => by cases h), fun t o ho ho1 => (hodd1 t o ho ho1).trans ⟨fun h => absurd h hnoz, fun h => by cases h⟩⟩⟩
    · unfold spec_PairLead.f impl_PairLead.f
      simp only [isPair_same, hg, Option.bind_some, if_true]
      exact ⟨Ev.bind e1 (Ev.now _), Ev.bind e2 (Ev.now _)⟩
    · unfold spec_PairPeriod.f impl_PairPeriod.f
      simp only [isPair_same, hg, Option.bind_some, if_true]
      rw [hper]
      exact ⟨Ev.bind e1 (Ev.now _), Ev.bind e2 (Ev.now _)⟩
    · have s1 : Ev (fun k => spec_dbEmpty.f k a b) (-1) := Ev.bind e1 (spec_empty_none (a, b) lead (by omega) (fun i hi => h i (by omega)) (lead + 1) 0 (by omega))
      have s2 : Ev (fun k => impl_stepsToEmpty.f k a b) (-1) := Ev.bind e2 (by rw [he]; exact impl_empty_none (a, b) e (by omega) h e 0 (by omega))
      unfold spec_DoesPairEmpty.f impl_DoesPairEmpty.f
      simp only [isPair_same, hg, Option.bind_some, if_true]
      exact ⟨Ev.bind s1 (by simpa using Ev.now _), Ev.bind s2 (by simpa using Ev.now _)⟩
    · have s1 : Ev (fun k => spec_dbEmpty.f k a b) (-1) := Ev.bind e1 (spec_empty_none (a, b) lead (by omega) (fun i hi => h i (by omega)) (lead + 1) 0 (by omega))
      have s2 : Ev (fun k => impl_stepsToEmpty.f k a b) (-1) := Ev.bind e2 (by rw [he]; exact impl_empty_none (a, b) e (by omega) h e 0 (by omega))
      unfold spec_PairStepsToEmpty.f impl_PairStepsToEmpty.f
      simp only [isPair_same, hg, Option.bind_some, if_true]
      refine ⟨Ev.bind s1 ?_, Ev.bind s2 ?_⟩
      · simp
        exact Ev.now _
      · simp [mx]
        exact Ev.now _
/-- Whether a doubling can be made. -/
def canD (l : List Int) (f t : Int) : Bool := decide (0 ≤ f) && decide (f ≤ (l.length : Int) - 1) && decide (0 ≤ t) && decide (t ≤ (l.length : Int) - 1) && decide (f ≠ t) && decide (rd l t > 0) && decide (rd l f ≥ rd l t)
theorem canD_in {l : List Int} {f t : Int} (h : canD l f t = true) : 0 ≤ f ∧ f < (l.length : Int) ∧ 0 ≤ t ∧ t < (l.length : Int) ∧ f ≠ t ∧ rd l t > 0 ∧ rd l f ≥ rd l t := by
  simp [canD] at h
  omega
/-- The heaps behind a doubling. -/
def dMade (l : List Int) (f t : Int) : List Int := (l.set f.toNat (wrap64 (rd l f - rd l t))).set t.toNat (wrap64 (2 * rd l t))
theorem dMade_length (l : List Int) (f t : Int) : (dMade l f t).length = l.length := by simp [dMade]
def playD : List S48 → List Int → List Int × Bool
  | [], out => (out, true)
  | d :: ds, out => if canD out d.f0 d.f1 = true then playD ds (dMade out d.f0 d.f1) else ([], false)
theorem playD_len : ∀ (ds : List S48) (out : List Int), out.length ≤ 1048576 → (playD ds out).1.length ≤ 1048576
  | [], out, h => h
  | d :: ds, out, h => by
    unfold playD
    split
    · exact playD_len ds _ (by rw [dMade_length]; exact h)
    · simp
theorem rdD_app (done : List S48) (x : S48) (xs : List S48) : rd_T48 (done ++ x :: xs) (done.length : Int) = x := by simp [rd_T48]
theorem impl_within.is (x a b : Int) : impl_within.f x a b = some (decide (a ≤ x) && decide (x ≤ b)) := by
  unfold impl_within.f
  by_cases h : x ≥ a
  · simp [h, show a ≤ x from h]
  · simp [h, show ¬ a ≤ x from h]
theorem impl_canDouble.is (l : List Int) (f t : Int) (hl : l.length ≤ 1048576) : impl_canDouble.f l f t = some (canD l f t) := by
  unfold impl_canDouble.f canD
  simp only [impl_within.is, Option.bind_some, w64 ((l.length : Int) - 1) (by omega) (by omega)]
  by_cases h1 : (decide (0 ≤ f) && decide (f ≤ (l.length : Int) - 1)) = true
  · by_cases h2 : (decide (0 ≤ t) && decide (t ≤ (l.length : Int) - 1)) = true
    · have h1' : 0 ≤ f ∧ f ≤ (l.length : Int) - 1 := by simpa using h1
      have h2' : 0 ≤ t ∧ t ≤ (l.length : Int) - 1 := by simpa using h2
      rw [if_pos h1, if_pos h2]
      by_cases h3 : f = t
      · rw [if_pos h3]; simp [h3]
      · rw [if_neg h3, if_pos h2'.1, if_pos (by omega)]
        by_cases h4 : rd l t > 0
        · rw [if_pos h4, if_pos h1'.1, if_pos (by omega)]; simp [h1', h2', h3, h4]
        · rw [if_neg h4]; simp [h4]
    · rw [if_pos h1, if_neg h2]
      simp only [Bool.not_eq_true] at h2
      simp only [h1, Bool.true_and, h2, Bool.false_and]
  · rw [if_neg h1]
    simp only [Bool.not_eq_true] at h1
    simp only [h1, Bool.false_and]
theorem rd_set_ne (l : List Int) (f t v : Int) (h1 : 0 ≤ f) (h3 : 0 ≤ t) (h : f ≠ t) : rd (l.set f.toNat v) t = rd l t := by
  unfold rd
  rw [List.getD_eq_getElem?_getD, List.getD_eq_getElem?_getD, List.getElem?_set_ne (by omega)]
theorem impl_doubled.is (l : List Int) (f t : Int) (hl : l.length ≤ 1048576) (h : canD l f t = true) : impl_doubled.f l f t = some (dMade l f t) := by
  obtain ⟨h1, h2, h3, h4, h5, _⟩ := canD_in h
  unfold impl_doubled.f slices_Clone_int_int.f dMade
  rw [if_pos (by omega)]
  simp only [Option.bind_some]
  rw [if_pos h1, if_pos h2, if_pos h3, if_pos h4, if_pos h4, rd_set_ne l f t _ h1 h3 h5, show rd l t + rd l t = 2 * rd l t by omega]
def allIn (l : List Int) (a b : Int) : Bool := l.all fun x => decide (a ≤ x) && decide (x ≤ b)
theorem spec_l1All.l0ev (a b : Int) (n : Int) (hn : n ≤ 1048576) : ∀ (tl done : List Int), ((done ++ tl).length : Int) = n → Ev (fun k => spec_l1All.l0 k a b (done ++ tl) n done.length) (allIn tl a b) := by
  intro tl
  induction tl with
  | nil =>
    intro done hd
    refine Ev.step (f := fun _ => some true) (fun k => ?_) (Ev.now _)
    simp only [spec_l1All.l0]
    simp at hd
    rw [if_neg (by omega)]
  | cons x xs ih =>
    intro done hd
    have hd' : (done.length : Int) + (xs.length + 1) = n := by simpa using hd
    have hx : rd (done ++ x :: xs) (done.length : Int) = x := by simp [rd]
    by_cases hp : (decide (a ≤ x) && decide (x ≤ b)) = true
    · have h := ih (done ++ [x]) (by simp; omega)
      refine Ev.step (f := fun k => spec_l1All.l0 k a b (done ++ [x] ++ xs) n ((done ++ [x]).length : Int)) (fun k => ?_) ?_
      · simp only [spec_l1All.l0]
        rw [if_pos (by omega), if_pos (by omega), if_pos (by simp; omega), hx, spec_l1In.is, hp]
        simp only [Option.bind_some, if_true]
        rw [w64s done.length (by omega)]
        simp
      · rw [show allIn (x :: xs) a b = allIn xs a b by simp [allIn] at hp ⊢; simp [hp]]
        exact h
    · refine Ev.step (f := fun _ => some false) (fun k => ?_) (by rw [show allIn (x :: xs) a b = false by simp [allIn] at hp ⊢; intro h1 h2; exact absurd (hp h1) (by omega)]; exact Ev.now _)
      simp only [spec_l1All.l0]
      rw [if_pos (by omega), if_pos (by omega), if_pos (by simp; omega), hx, spec_l1In.is]
      simp only [Option.bind_some]
      rw [if_neg hp]
theorem spec_l1All.ev (l : List Int) (a b : Int) (hl : l.length ≤ 1048576) : Ev (fun k => spec_l1All.f k l a b) (allIn l a b) := by
  have h := spec_l1All.l0ev a b l.length (by omega) l [] (by simp)
  simpa [spec_l1All.f] using h
def isHeaps (l : List Int) : Bool := (decide (1 ≤ (l.length : Int)) && decide ((l.length : Int) ≤ 12)) && allIn l 0 1000
theorem spec_hpGood.ev (l : List Int) (hl : l.length ≤ 1048576) : Ev (fun k => spec_hpGood.f k l) (isHeaps l) := by
  unfold spec_hpGood.f isHeaps
  simp only [spec_l1In.is, Option.bind_some]
  by_cases h : (decide (1 ≤ (l.length : Int)) && decide ((l.length : Int) ≤ 12)) = true
  · simp only [h, if_true, Bool.true_and]
    exact Ev.bind (spec_l1All.ev l 0 1000 hl) (Ev.now _)
  · simp only [h]
    simpa using Ev.now false
theorem impl_AreHeaps.is (l : List Int) : impl_AreHeaps.f l = some (isHeaps l) := by
  unfold impl_AreHeaps.f isHeaps impl_areIn.f allIn
  simp only [impl_within.is, Option.bind_some]
  by_cases h : (decide (1 ≤ (l.length : Int)) && decide ((l.length : Int) ≤ 12)) = true
  · simp only [h, if_true, Bool.true_and]
  · simp only [h]
    simp
/-- The sum as the machine makes it. -/
def wsum : List Int → Int → Int
  | [], a => a
  | x :: xs, a => wsum xs (wrap64 (a + x))
theorem spec_hpSum.l0ev (n : Int) (hn : n ≤ 1048576) : ∀ (tl done : List Int) (a : Int), ((done ++ tl).length : Int) = n → Ev (fun k => spec_hpSum.l0 k a (done ++ tl) n done.length) (wsum tl a) := by
  intro tl
  induction tl with
  | nil =>
    intro done a hd
    refine Ev.step (f := fun _ => some a) (fun k => ?_) (Ev.now a)
    simp only [spec_hpSum.l0]
    simp at hd
    rw [if_neg (by omega)]
  | cons x xs ih =>
    intro done a hd
    have hd' : (done.length : Int) + (xs.length + 1) = n := by simpa using hd
    have hx : rd (done ++ x :: xs) (done.length : Int) = x := by simp [rd]
    have h := ih (done ++ [x]) (wrap64 (a + x)) (by simp; omega)
    refine Ev.step (f := fun k => spec_hpSum.l0 k (wrap64 (a + x)) (done ++ [x] ++ xs) n ((done ++ [x]).length : Int)) (fun k => ?_) (by simpa [wsum] using h)
    simp only [spec_hpSum.l0]
    rw [if_pos (by omega), if_pos (by omega), if_pos (by simp; omega), hx, w64s done.length (by omega)]
    simp
theorem spec_hpSum.ev (l : List Int) (hl : l.length ≤ 1048576) : Ev (fun k => spec_hpSum.f k l) (wsum l 0) := by
  have h := spec_hpSum.l0ev l.length (by omega) l [] 0 (by simp)
  simpa [spec_hpSum.f] using h
theorem impl_sum.l0ev (n : Int) (hn : n ≤ 1048576) : ∀ (tl done : List Int) (a : Int), ((done ++ tl).length : Int) = n → Ev (fun k => impl_sum.l0 k a (done ++ tl) n done.length) (wsum tl a) := by
  intro tl
  induction tl with
  | nil =>
    intro done a hd
    refine Ev.step (f := fun _ => some a) (fun k => ?_) (Ev.now a)
    simp only [impl_sum.l0]
    simp at hd
    rw [if_neg (by omega)]
  | cons x xs ih =>
    intro done a hd
    have hd' : (done.length : Int) + (xs.length + 1) = n := by simpa using hd
    have hx : rd (done ++ x :: xs) (done.length : Int) = x := by simp [rd]
    have h := ih (done ++ [x]) (wrap64 (a + x)) (by simp; omega)
    refine Ev.step (f := fun k => impl_sum.l0 k (wrap64 (a + x)) (done ++ [x] ++ xs) n ((done ++ [x]).length : Int)) (fun k => ?_) (by simpa [wsum] using h)
    simp only [impl_sum.l0]
    rw [if_pos (by omega), if_pos (by omega), if_pos (by simp; omega), hx, w64s done.length (by omega)]
    simp
theorem impl_sum.ev (l : List Int) (hl : l.length ≤ 1048576) : Ev (fun k => impl_sum.f k l) (wsum l 0) := by
  have h := impl_sum.l0ev l.length (by omega) l [] 0 (by simp)
  simpa [impl_sum.f] using h
def isFew (l : List Int) : Bool := isHeaps l && ((decide (2 ≤ (l.length : Int)) && decide ((l.length : Int) ≤ 4)) && (decide (1 ≤ wsum l 0) && decide (wsum l 0 ≤ 40)))
theorem spec_dbGood.ev (l : List Int) (hl : l.length ≤ 1048576) : Ev (fun k => spec_dbGood.f k l) (isFew l) := by
  unfold spec_dbGood.f isFew
  simp only [spec_l1In.is, Option.bind_some]
  by_cases h2 : (decide (2 ≤ (l.length : Int)) && decide ((l.length : Int) ≤ 4)) = true
  · simp only [h2, if_true, Bool.true_and]
    refine Ev.bind (spec_hpGood.ev l hl) ?_
    by_cases h : isHeaps l = true
    · simp only [h, if_true, Bool.true_and]
      exact Ev.bind (spec_hpSum.ev l hl) (Ev.now _)
    · simp only [Bool.not_eq_true] at h
      simp only [h, Bool.false_and]
      exact Ev.now _
  · simp only [Bool.not_eq_true] at h2
    simp only [h2, Bool.false_and, Bool.and_false]
    exact Ev.now _
theorem impl_AreFewHeaps.ev (l : List Int) (hl : l.length ≤ 1048576) : Ev (fun k => impl_AreFewHeaps.f k l) (isFew l) := by
  unfold impl_AreFewHeaps.f isFew
  simp only [impl_AreHeaps.is, impl_within.is, Option.bind_some]
  by_cases h : isHeaps l = true
  · simp only [h, if_true, Bool.true_and]
    by_cases h2 : (decide (2 ≤ (l.length : Int)) && decide ((l.length : Int) ≤ 4)) = true
    · simp only [h2, if_true, Bool.true_and]
      exact Ev.bind (impl_sum.ev l hl) (Ev.now _)
    · simp only [Bool.not_eq_true] at h2
      simp only [h2, Bool.false_and]
      exact Ev.now _
  · simp only [Bool.not_eq_true] at h
    simp only [h, Bool.false_and]
    exact Ev.now _
theorem impl_PlayDoublings.l0ev (n : Int) (hn : n ≤ 1048576) : ∀ (tl done : List S48) (out : List Int), ((done ++ tl).length : Int) = n → out.length ≤ 1048576 → Ev (fun k => impl_PlayDoublings.l0 k out (done ++ tl) n done.length) (playD tl out) := by
  intro tl
  induction tl with
  | nil =>
    intro done out hd ho
    refine Ev.step (f := fun _ => some (out, true)) (fun k => ?_) (Ev.now _)
    simp only [impl_PlayDoublings.l0]
    simp at hd
    rw [if_neg (by omega)]
  | cons d ds ih =>
    intro done out hd ho
    have hd' : (done.length : Int) + (ds.length + 1) = n := by simpa using hd
    by_cases c : canD out d.f0 d.f1 = true
    · have h := ih (done ++ [d]) (dMade out d.f0 d.f1) (by simp; omega) (by rw [dMade_length]; exact ho)
      refine Ev.step (f := fun k => impl_PlayDoublings.l0 k (dMade out d.f0 d.f1) (done ++ [d] ++ ds) n ((done ++ [d]).length : Int)) (fun k => ?_) (by rw [playD, if_pos c]; exact h)
      simp only [impl_PlayDoublings.l0, rdD_app, impl_canDouble.is out _ _ ho, c, impl_doubled.is out _ _ ho c, Option.bind_some, if_true]
      rw [if_pos (by omega), if_pos (by omega), if_pos (by simp; omega), w64s done.length (by omega)]
      simp
    · refine Ev.step (f := fun _ => some ([], false)) (fun k => ?_) (by rw [playD, if_neg c]; exact Ev.now _)
      simp only [impl_PlayDoublings.l0, rdD_app, impl_canDouble.is out _ _ ho, Option.bind_some]
      rw [if_pos (by omega), if_pos (by omega), if_pos (by simp; omega), if_neg c]
def playR (ds : List S48) (l : List Int) : List Int × Bool := if isFew l = true ∧ (ds.length : Int) ≤ 100 then playD ds l else ([], false)
theorem playR_len (ds : List S48) (l : List Int) (hl : l.length ≤ 1048576) : (playR ds l).1.length ≤ 1048576 := by
  unfold playR
  split
  · exact playD_len ds l hl
  · simp
theorem impl_PlayDoublings.ev (ds : List S48) (l : List Int) (hl : l.length ≤ 1048576) (hd : ds.length ≤ 1048576) : Ev (fun k => impl_PlayDoublings.f k l ds) (playR ds l) := by
  refine Ev.bind (impl_AreFewHeaps.ev l hl) ?_
  unfold playR
  by_cases h : isFew l = true
  · simp only [h, if_true, true_and]
    by_cases c : (ds.length : Int) ≤ 100
    · refine Ev.step (f := fun k => impl_PlayDoublings.l0 k l ds (ds.length : Int) 0) (fun k => ?_) ?_
      · simp only [impl_PlayDoublings.j0]
        rw [if_neg (by simp; omega)]
        unfold slices_Clone_int_int.f
        rw [if_pos (by omega)]
        rfl
      · rw [if_pos c]
        have := impl_PlayDoublings.l0ev ds.length (by omega) ds [] l (by simp) hl
        simpa using this
    · refine Ev.step (f := fun _ => some ([], false)) (fun k => ?_) (by rw [if_neg c]; exact Ev.now _)
      simp only [impl_PlayDoublings.j0]
      rw [if_pos (by simp; omega)]
  · simp only [h, false_and, if_false]
    refine Ev.congr (f := fun k => impl_PlayDoublings.j0 k l ds true) (fun k => by simp) ?_
    refine Ev.step (f := fun _ => some ([], false)) (fun k => ?_) (by simpa using Ev.now _)
    simp [impl_PlayDoublings.j0]
/-- Heaps of n places with s stones. -/
def St (n : Nat) (s : Int) (l : List Int) : Prop := l.length = n ∧ (∀ x ∈ l, 0 ≤ x) ∧ tot id l = s
theorem tot_ge : ∀ {l : List Int}, (∀ x ∈ l, 0 ≤ x) → ∀ x ∈ l, x ≤ tot id l
  | [], _, x, hx => by cases hx
  | y :: ys, h, x, hx => by
    have h0 := (tot_nonneg ys (fun z hz => h z (by simp [hz]))).1
    have hy := h y (by simp)
    simp only [tot, id]
    rcases List.mem_cons.mp hx with rfl | hx
    · omega
    · have := tot_ge (fun z hz => h z (by simp [hz])) x hx
      omega
theorem wsum_tot : ∀ (l : List Int) (a : Int), (∀ x ∈ l, 0 ≤ x ∧ x ≤ 1000) → 0 ≤ a → a + 1000 * l.length ≤ 1000000000 → wsum l a = a + tot id l
  | [], a, _, _, _ => by simp [wsum, tot]
  | x :: xs, a, h, ha, hb => by
    have hx := h x (by simp)
    simp only [List.length_cons] at hb
    rw [wsum, w64 _ (by omega) (by omega), wsum_tot xs (a + x) (fun z hz => h z (by simp [hz])) (by omega) (by omega)]
    simp only [tot, id]
    omega
theorem few_st {l : List Int} (h : isFew l = true) : 2 ≤ l.length ∧ l.length ≤ 4 ∧ ∃ s, 1 ≤ s ∧ s ≤ 40 ∧ St l.length s l := by
  simp [isFew, isHeaps, allIn] at h
  obtain ⟨⟨_, h1⟩, ⟨h2, h3⟩, h4, h5⟩ := h
  have h1' : ∀ x ∈ l, 0 ≤ x ∧ x ≤ 1000 := fun x hx => by have := h1 x hx; omega
  have e := wsum_tot l 0 h1' (by omega) (by omega)
  exact ⟨by omega, by omega, wsum l 0, h4, h5, rfl, fun x hx => (h1' x hx).1, by omega⟩
theorem St.le {n : Nat} {s : Int} {l : List Int} (h : St n s l) : ∀ x ∈ l, 0 ≤ x ∧ x ≤ s := fun x hx => ⟨h.2.1 x hx, h.2.2 ▸ tot_ge h.2.1 x hx⟩
theorem St.made {n : Nat} {s : Int} {l : List Int} (h : St n s l) (hs : s ≤ 40) {f t : Int} (c : canD l f t = true) : St n s (dMade l f t) := by
  obtain ⟨h1, h2, h3, h4, h5, h6, h7⟩ := canD_in c
  obtain ⟨f, rfl⟩ := Int.eq_ofNat_of_zero_le h1
  obtain ⟨t, rfl⟩ := Int.eq_ofNat_of_zero_le h3
  have hf := h.le _ (rd_mem (v := l) (a := f) (by omega))
  have ht := h.le _ (rd_mem (v := l) (a := t) (by omega))
  have e1 : wrap64 (rd l f - rd l t) = rd l f - rd l t := w64 _ (by omega) (by omega)
  have e2 : wrap64 (2 * rd l t) = 2 * rd l t := w64 _ (by omega) (by omega)
  unfold dMade
  rw [e1, e2, show ((f : Int)).toNat = f by omega, show ((t : Int)).toNat = t by omega]
  refine ⟨by simp [h.1], fun x hx => ?_, ?_⟩
  · obtain ⟨a, ha, rfl⟩ := mem_rd hx
    simp only [List.length_set] at ha
    by_cases et : a = t
    · subst et
      rw [rd_set_eq _ _ _ (by simpa using ha)]
      omega
    · rw [rd_set_neN _ _ _ _ (fun e => et e.symm)]
      by_cases ef : a = f
      · subst ef
        rw [rd_set_eq _ _ _ ha]
        omega
      · rw [rd_set_neN _ _ _ _ (fun e => ef e.symm)]
        exact (h.le _ (rd_mem ha)).1
  · rw [tot_set _ _ _ _ (by simp; omega), tot_set _ _ _ _ (by omega), rd_set_neN _ _ _ _ (by omega)]
    have := h.2.2
    simp only [id]
    omega
/-! ### a play is doublings one after the other -/
theorem few_of_st {n : Nat} {s : Int} {l : List Int} (h2 : 2 ≤ n) (h4 : n ≤ 4) (s1 : 1 ≤ s) (s40 : s ≤ 40) (h : St n s l) : isFew l = true := by
  have hb := h.le
  have hl := h.1
  have hw := wsum_tot l 0 (fun x hx => by have := hb x hx; omega) (by omega) (by omega)
  have ht := h.2.2
  have ha : allIn l 0 1000 = true := by
    unfold allIn
    refine List.all_eq_true.mpr (fun x hx => ?_)
    have := hb x hx
    simp; omega
  simp only [isFew, isHeaps, ha, Bool.and_true, Bool.and_eq_true, decide_eq_true_eq]
  omega
theorem play_chain {n : Nat} {s : Int} (h2 : 2 ≤ n) (h4 : n ≤ 4) (s1 : 1 ≤ s) (s40 : s ≤ 40) : ∀ (ds : List S48) (l v : List Int), St n s l → playD ds l = (v, true) →
    ∃ st : Nat → List Int, st 0 = l ∧ st ds.length = v ∧ (∀ i, i ≤ ds.length → St n s (st i)) ∧ ∀ i (hi : i < ds.length), canD (st i) ds[i].f0 ds[i].f1 = true ∧ st (i + 1) = dMade (st i) ds[i].f0 ds[i].f1
  | [], l, v, h, e => by
    simp only [playD, Prod.mk.injEq, and_true] at e
    exact ⟨fun _ => l, rfl, e, fun _ _ => h, fun i hi => by simp at hi⟩
  | d :: ds, l, v, h, e => by
    unfold playD at e
    by_cases c : canD l d.f0 d.f1 = true
    · rw [if_pos c] at e
      obtain ⟨st, e0, e1, e2, e3⟩ := play_chain h2 h4 s1 s40 ds _ v (h.made s40 c) e
      refine ⟨fun i => if i = 0 then l else st (i - 1), by simp, by simpa using e1, fun i hi => ?_, fun i hi => ?_⟩
      · by_cases hi0 : i = 0
        · simp only [hi0, if_true]; exact h
        · simp only [hi0, if_false]
          simp only [List.length_cons] at hi
          exact e2 (i - 1) (by omega)
      · cases i with
        | zero =>
          refine ⟨by simpa using c, ?_⟩
          simpa using e0
        | succ i =>
          simp only [List.length_cons] at hi
          have := e3 i (by omega)
          simpa using this
    · rw [if_neg c] at e
      cases e
theorem play_all (ds : List S48) (l v : List Int) (h : playR ds l = (v, true)) : ∃ st : Nat → List Int, st 0 = l ∧ st ds.length = v ∧ (∀ i, i ≤ ds.length → (st i).length ≤ 4) ∧ ∀ i (hi : i < ds.length), playR [ds[i]] (st i) = (st (i + 1), true) := by
  unfold playR at h
  split at h
  · rename_i c
    obtain ⟨a1, a2, s, a3, a4, a5⟩ := few_st c.1
    obtain ⟨st, e0, e1, e2, e3⟩ := play_chain a1 a2 a3 a4 ds l v a5 h
    refine ⟨st, e0, e1, fun i hi => by rw [(e2 i hi).1]; exact a2, fun i hi => ?_⟩
    have hf := few_of_st a1 a2 a3 a4 (e2 i (by omega))
    obtain ⟨c1, c2⟩ := e3 i hi
    unfold playR
    rw [if_pos ⟨hf, by simp⟩]
    simp [playD, c1, c2]
  · cases h
/-- The text with these bytes. -/
def mkB (l : List UInt8) : ByteArray := ⟨l.toArray⟩
theorem mkB_append (a b : List UInt8) : mkB a ++ mkB b = mkB (a ++ b) := by
  apply ByteArray.ext
  simp [mkB, ByteArray.data_append]
theorem mkB_size (a : List UInt8) : (mkB a).size = a.length := by simp [mkB, ByteArray.size]
theorem mkB_toList (a : List UInt8) : (mkB a).data.toList = a := by simp [mkB]
/-- The numeral of a number. -/
def numL (n : Int) : List UInt8 := Lib.decDigits n.toNat
theorem numL_len : ∀ (d : Nat) (n : Nat), n < 10 ^ (d + 1) → (Lib.decDigits n).length ≤ d + 1
  | 0, n, h => by
    rw [Lib.decDigits, dif_pos (by simpa using h)]
    simp
  | d + 1, n, h => by
    rw [Lib.decDigits]
    split
    · simp
    · have := numL_len d (n / 10) (by rw [Nat.pow_succ] at h; omega)
      simp only [List.length_append, List.length_singleton]
      omega
/-! texts taken apart at '-' -/
def spl : List UInt8 → List UInt8 → List (List UInt8)
  | [], c => [c]
  | b :: l, c => if b = 45 then c :: spl l [] else spl l (c ++ [b])
theorem spl_none : ∀ (l c : List UInt8), (45 : UInt8) ∉ l → spl l c = [c ++ l]
  | [], c, _ => by simp [spl]
  | b :: l, c, h => by
    have hb : b ≠ 45 := fun e => h (by simp [e])
    rw [spl, if_neg hb, spl_none l (c ++ [b]) (fun e => h (by simp [e]))]
    simp
theorem spl_hit : ∀ (a c b : List UInt8), (45 : UInt8) ∉ a → spl (a ++ 45 :: b) c = (c ++ a) :: spl b []
  | [], c, b, _ => by simp [spl]
  | x :: a, c, b, h => by
    have hx : x ≠ 45 := fun e => h (by simp [e])
    rw [List.cons_append, spl, if_neg hx, spl_hit a (c ++ [x]) b (fun e => h (by simp [e]))]
    simp
theorem spl_len : ∀ (l c : List UInt8), (spl l c).length ≤ l.length + 1
  | [], c => by simp [spl]
  | b :: l, c => by
    unfold spl
    split
    · have := spl_len l []
      simp only [List.length_cons]; omega
    · have := spl_len l (c ++ [b])
      simp only [List.length_cons]; omega
theorem mkB_extract (l : List UInt8) (i j : Nat) : (mkB l).extract i j = mkB ((l.take j).drop i) := by
  apply ByteArray.ext
  simp [mkB, ByteArray.data_extract, List.drop_take]
theorem mkB_get (l : List UInt8) (i : Nat) (h : i < l.length) : bt (mkB l) (i : Int) = (l[i].toNat : Int) := by
  unfold bt
  rw [dif_pos (by rw [mkB_size]; simpa using h)]
  have : ((mkB l)[((i : Int)).toNat]'(by rw [mkB_size]; simpa using h)) = l[i] := by
    show ((mkB l).data[((i : Int)).toNat]'_) = l[i]
    simp [mkB]
  rw [this]
/-- The library's pieces are these. -/
theorem splitB_spl : ∀ (k : Nat) (L : List UInt8), Lib.countB (mkB L) (mkB [45]) = k → Lib.splitB (mkB [45]) 0 k (mkB L) = (spl L []).map mkB := by
  intro k
  induction k with
  | zero =>
    intro L hk
    rw [Lib.splitB_zero]
    have hno : (45 : UInt8) ∉ L := by
      intro hm
      rcases Lib.indexB_cases (mkB L) (mkB [45]) with hix | ⟨i, hix, _⟩
      · have hix' : Lib.index L [45] = -1 := by simpa [Lib.indexB, mkB_toList] using hix
        rw [Lib.index_one] at hix'
        obtain ⟨j, hj, e⟩ := List.mem_iff_getElem.mp hm
        exact Lib.indexByte_none hix' j (by rw [List.getElem?_eq_getElem hj, e])
      · have := Lib.countB_hit (mkB L) (mkB [45]) i (by rw [mkB_size]; simp) hix
        omega
    rw [spl_none L [] hno]
    simp
  | succ k ih =>
    intro L hk
    rcases Lib.indexB_cases (mkB L) (mkB [45]) with hix | ⟨i, hix, hroom⟩
    · rw [Lib.countB_miss _ _ hix] at hk; omega
    · have hc := Lib.countB_hit (mkB L) (mkB [45]) i (by rw [mkB_size]; simp) hix
      rw [Lib.splitB_hit _ _ _ _ i hix]
      have hix' : Lib.index L [45] = (i : Int) := by simpa [Lib.indexB, mkB_toList] using hix
      rw [Lib.index_one] at hix'
      obtain ⟨h1, h2⟩ := Lib.indexByte_some hix'
      have hl : i < L.length := by
        rw [List.getElem?_eq_some_iff] at h1
        exact h1.1
      have e45 : L[i] = 45 := by
        rw [List.getElem?_eq_getElem hl] at h1
        exact Option.some.inj h1
      have eL : L = L.take i ++ 45 :: L.drop (i + 1) := by
        conv => lhs; rw [← List.take_append_drop i L, List.drop_eq_getElem_cons hl, e45]
      have hno : (45 : UInt8) ∉ L.take i := by
        intro hm
        obtain ⟨j, hj, e⟩ := List.mem_iff_getElem.mp hm
        simp only [List.length_take] at hj
        refine h2 j (by omega) ?_
        rw [List.getElem_take] at e
        rw [List.getElem?_eq_getElem (by omega), e]
      have s1 : (mkB [45]).size = 1 := by rw [mkB_size]; rfl
      rw [s1] at hc ⊢
      have x1 : (mkB L).extract 0 (i + 0) = mkB (L.take i) := by rw [mkB_extract]; simp
      have x2 : (mkB L).extract (i + 1) (mkB L).size = mkB (L.drop (i + 1)) := by rw [mkB_extract, mkB_size]; simp
      rw [x2] at hc
      rw [x1, x2, ih (L.drop (i + 1)) (by omega)]
      conv => rhs; rw [eL, spl_hit _ _ _ hno]
      simp
theorem strings_Split.is (L : List UInt8) (h : L.length ≤ 1048576) : strings_Split.f (mkB L) (⟨#[45]⟩ : ByteArray) = some ((spl L []).map mkB) := by
  unfold strings_Split.f
  have e : (⟨#[45]⟩ : ByteArray) = mkB [45] := rfl
  rw [e, if_pos ⟨by rw [mkB_size]; omega, by rw [mkB_size]; simp⟩, splitB_spl _ _ rfl]
theorem cut_mid (pre cur rest : List UInt8) : List.drop pre.length (List.take (pre.length + cur.length) (pre ++ cur ++ rest)) = cur := by
  rw [← List.length_append, List.take_left, List.drop_left]
theorem spec_l1Split.l0ev (L : List UInt8) (hL : L.length ≤ 1048576) : ∀ (rest pre cur : List UInt8) (acc : List ByteArray), L = pre ++ cur ++ rest → acc.length + rest.length ≤ 1048577 →
    Ev (fun k => spec_l1Split.l0 k (mkB L) 45 acc (pre.length : Int) ((pre.length + cur.length : Nat) : Int)) (acc ++ (spl rest cur).map mkB) := by
  intro rest
  induction rest with
  | nil =>
    intro pre cur acc e ha
    have hsz : (mkB L).size = pre.length + cur.length := by rw [mkB_size, e]; simp
    have hx : (mkB L).extract pre.length (mkB L).size = mkB cur := by
      rw [hsz, mkB_extract, e, cut_mid]
    refine Ev.step (f := fun _ => some (acc ++ [mkB cur])) (fun k => ?_) (by simpa [spl] using Ev.now _)
    simp only [spec_l1Split.l0]
    rw [if_neg (by omega), if_pos (by omega), if_pos (by omega), if_pos (by omega), show ((pre.length : Int)).toNat = pre.length by omega, hx]
  | cons b rest ih =>
    intro pre cur acc e ha
    have hsz : (mkB L).size = pre.length + cur.length + (rest.length + 1) := by rw [mkB_size, e]; simp; omega
    have hl : L.length = pre.length + cur.length + (rest.length + 1) := by rw [e]; simp; omega
    have hg : bt (mkB L) ((pre.length + cur.length : Nat) : Int) = (b.toNat : Int) := by
      rw [mkB_get L (pre.length + cur.length) (by omega)]
      have : L[pre.length + cur.length]'(by omega) = b := by
        simp only [e]
        rw [List.getElem_append_right (by simp)]
        simp
      rw [this]
    have e1 : wrap64 (((pre.length + cur.length : Nat) : Int) + 1) = ((pre.length + cur.length + 1 : Nat) : Int) := by rw [w64 _ (by omega) (by omega)]; omega
    simp only [List.length_cons] at ha
    by_cases hb : b = 45
    · subst hb
      have hx : (mkB L).extract pre.length (pre.length + cur.length) = mkB cur := by
        rw [mkB_extract, e, cut_mid]
      have h := ih (pre ++ cur ++ [45]) [] (acc ++ [mkB cur]) (by rw [e]; simp) (by simp; omega)
      have en : (((pre ++ cur ++ [45]).length + ([] : List UInt8).length : Nat) : Int) = ((pre.length + cur.length + 1 : Nat) : Int) := by simp; omega
      have em : (((pre ++ cur ++ [45] : List UInt8).length : Nat) : Int) = ((pre.length + cur.length + 1 : Nat) : Int) := by simp; omega
      rw [en, em] at h
      refine Ev.step (f := fun k => spec_l1Split.l0 k (mkB L) 45 (acc ++ [mkB cur]) ((pre.length + cur.length + 1 : Nat) : Int) ((pre.length + cur.length + 1 : Nat) : Int)) (fun k => ?_) (by simpa [spl] using h)
      simp only [spec_l1Split.l0, hg, e1]
      rw [if_pos (by omega), if_pos (by omega), if_pos (by decide), if_pos (by omega), if_pos (by omega), if_pos (by omega), if_pos (by omega), show ((pre.length : Int)).toNat = pre.length by omega, show (((pre.length + cur.length : Nat) : Int)).toNat = pre.length + cur.length by omega, hx]
    · have h := ih pre (cur ++ [b]) acc (by rw [e]; simp) (by omega)
      have en : ((pre.length + (cur ++ [b]).length : Nat) : Int) = ((pre.length + cur.length + 1 : Nat) : Int) := by simp; omega
      rw [en] at h
      refine Ev.step (f := fun k => spec_l1Split.l0 k (mkB L) 45 acc (pre.length : Int) ((pre.length + cur.length + 1 : Nat) : Int)) (fun k => ?_) (by rw [spl, if_neg hb]; exact h)
      have hne : ¬ ((b.toNat : Int) = 45) := by
        intro h45
        apply hb
        have : b.toNat = 45 := by omega
        exact UInt8.toNat_inj.mp (by rw [this]; rfl)
      simp only [spec_l1Split.l0, hg, e1]
      rw [if_pos (by omega), if_pos (by omega), if_neg hne]
theorem spec_l1Split.ev (L : List UInt8) (hL : L.length ≤ 1048576) : Ev (fun k => spec_l1Split.f k (mkB L) 45) ((spl L []).map mkB) := by
  have h := spec_l1Split.l0ev L hL L [] [] [] (by simp) (by simp; omega)
  simpa [spec_l1Split.f] using h
/-! and put together -/
def jt : List (List UInt8) → List UInt8
  | [] => []
  | p :: ps => 45 :: p ++ jt ps
def jn : List (List UInt8) → List UInt8
  | [] => []
  | p :: ps => p ++ jt ps
theorem spl_ne : ∀ (l c : List UInt8), spl l c ≠ []
  | [], c => by simp [spl]
  | b :: l, c => by
    unfold spl
    split
    · simp
    · exact spl_ne l _
theorem jt_jn {ps : List (List UInt8)} (h : ps ≠ []) : jt ps = 45 :: jn ps := by
  cases ps with
  | nil => exact absurd rfl h
  | cons p ps => rfl
theorem jn_spl : ∀ (l c : List UInt8), jn (spl l c) = c ++ l
  | [], c => by simp [spl, jn, jt]
  | b :: l, c => by
    unfold spl
    split
    · rename_i hb
      rw [jn, jt_jn (spl_ne l []), jn_spl l [], hb]
      simp
    · rw [jn_spl l (c ++ [b])]
      simp
theorem strOf1 (x : Int) (h : 0 ≤ x ∧ x < 10) : strOfNums ([(wrap64 (48 + x)) % 256] : List Int) = mkB [UInt8.ofNat (48 + x.toNat)] := by
  rw [w64 _ (by omega) (by omega)]
  have : (48 + x) % 256 = ((48 + x.toNat : Nat) : Int) := by omega
  rw [this]
  rfl
theorem spec_l1Num.ev : ∀ (d : Nat) (n : Nat), d ≤ 18 → n < 10 ^ (d + 1) → Ev (fun k => spec_l1Num.f k (n : Int)) (mkB (numL (n : Int))) := by
  intro d
  induction d with
  | zero =>
    intro n _ h
    have h10 : n < 10 := by simpa using h
    refine Ev.step (f := fun _ => some (mkB (numL (n : Int)))) (fun k => ?_) (Ev.now _)
    simp only [spec_l1Num.f]
    rw [if_pos (by omega), strOf1 _ (by omega)]
    unfold numL
    rw [Lib.decDigits, dif_pos (by omega)]
  | succ d ih =>
    intro n hd h
    by_cases h10 : n < 10
    · refine Ev.step (f := fun _ => some (mkB (numL (n : Int)))) (fun k => ?_) (Ev.now _)
      simp only [spec_l1Num.f]
      rw [if_pos (by omega), strOf1 _ (by omega)]
      unfold numL
      rw [Lib.decDigits, dif_pos (by omega)]
    · have hn : n / 10 < 10 ^ (d + 1) := by rw [Nat.pow_succ] at h; omega
      have hb : n < 10 ^ 19 := Nat.lt_of_lt_of_le h (Nat.pow_le_pow_right (by omega) (by omega))
      have hb2 : (n / 10 : Nat) < 1000000000000000000 := by
        have : (10 : Nat) ^ 19 = 10000000000000000000 := by decide
        omega
      obtain ⟨K, hK⟩ := ih (n / 10) (by omega) hn
      refine ⟨K + 1, fun k hk => ?_⟩
      obtain ⟨k, rfl⟩ : ∃ k', k = k' + 1 := ⟨k - 1, by omega⟩
      have e1 : wrap64 (Int.tdiv (n : Int) 10) = ((n / 10 : Nat) : Int) := by
        rw [Int.tdiv_eq_ediv_of_nonneg (by omega), w64 _ (by omega) (by omega)]
        omega
      have e2 : Int.tmod (n : Int) 10 = ((n % 10 : Nat) : Int) := by
        rw [Int.tmod_eq_emod_of_nonneg (by omega)]
        omega
      have hlen := numL_len d (n / 10) hn
      have hK' : spec_l1Num.f k ((n / 10 : Nat) : Int) = some (mkB (numL ((n / 10 : Nat) : Int))) := hK k (by omega)
      simp only [spec_l1Num.f, e1, e2]
      rw [if_neg (by omega), hK']
      simp only [Option.bind_some]
      rw [strOf1 _ (by omega), mkB_size, mkB_size, if_pos (by simp only [numL, List.length_singleton, Int.toNat_natCast]; omega), mkB_append]
      have e3 : numL ((n / 10 : Nat) : Int) ++ [UInt8.ofNat (48 + (((n % 10 : Nat) : Int)).toNat)] = numL (n : Int) := by
        unfold numL
        simp only [Int.toNat_natCast]
        have := Lib.decDigits.eq_1 n
        rw [this, dif_neg (by omega)]
      rw [e3]
/-- A doubling of two different heaps among four. -/
def isD (d : S48) : Bool := (decide (0 ≤ d.f0) && decide (d.f0 ≤ 3)) && ((decide (0 ≤ d.f1) && decide (d.f1 ≤ 3)) && !decide (d.f0 = d.f1))
def areD (l : List S48) : Bool := decide ((l.length : Int) ≤ 100) && l.all isD
def pieceD (d : S48) : List UInt8 := numL d.f0 ++ numL d.f1
def tailD : List S48 → List UInt8
  | [] => []
  | d :: ds => 45 :: pieceD d ++ tailD ds
def textD : List S48 → List UInt8
  | [] => []
  | d :: ds => pieceD d ++ tailD ds
theorem rdD_appT (done : List S48) (x : S48) (xs : List S48) : rd_T48 (done ++ x :: xs) (done.length : Int) = x := by simp [rd_T48]
theorem spec_dbList.l0ev (n : Int) (hn : n ≤ 1048576) : ∀ (tl done : List S48), ((done ++ tl).length : Int) = n → Ev (fun k => spec_dbList.l0 k (done ++ tl) n done.length) (tl.all isD) := by
  intro tl
  induction tl with
  | nil =>
    intro done hd
    refine Ev.step (f := fun _ => some true) (fun k => ?_) (by simpa using Ev.now true)
    simp only [spec_dbList.l0]
    simp at hd
    rw [if_neg (by omega)]
  | cons d ds ih =>
    intro done hd
    have hd' : (done.length : Int) + (ds.length + 1) = n := by simpa using hd
    have h := ih (done ++ [d]) (by simp; omega)
    by_cases c1 : (decide (0 ≤ d.f0) && decide (d.f0 ≤ 3)) = true
    · by_cases c2 : (decide (0 ≤ d.f1) && decide (d.f1 ≤ 3)) = true
      · by_cases c3 : d.f0 = d.f1
        · have e : (d :: ds).all isD = false := by simp [isD, c3]
          refine Ev.step (f := fun _ => some false) (fun k => ?_) (by rw [e]; exact Ev.now _)
          simp only [spec_dbList.l0, rdD_appT, spec_l1In.is, c1, c2, Option.bind_some, if_true]
          rw [if_pos (by omega), if_pos (by omega), if_pos (by simp; omega), if_pos c3]
        · have e : (d :: ds).all isD = ds.all isD := by
            have : isD d = true := by unfold isD; rw [c1, c2]; simp [c3]
            simp [this]
          refine Ev.step (f := fun k => spec_dbList.l0 k (done ++ [d] ++ ds) n ((done ++ [d]).length : Int)) (fun k => ?_) (by rw [e]; exact h)
          simp only [spec_dbList.l0, rdD_appT, spec_l1In.is, c1, c2, Option.bind_some, if_true]
          rw [if_pos (by omega), if_pos (by omega), if_pos (by simp; omega), if_neg c3, w64s done.length (by omega)]
          simp
      · have e : (d :: ds).all isD = false := by
          have : isD d = false := by unfold isD; simp only [Bool.not_eq_true] at c2; rw [c2]; simp
          simp [this]
        refine Ev.step (f := fun _ => some false) (fun k => ?_) (by rw [e]; exact Ev.now _)
        simp only [spec_dbList.l0, rdD_appT, spec_l1In.is, c1, Option.bind_some, if_true]
        rw [if_pos (by omega), if_pos (by omega), if_pos (by simp; omega), if_neg c2]
    · have e : (d :: ds).all isD = false := by
        have : isD d = false := by unfold isD; simp only [Bool.not_eq_true] at c1; rw [c1]; simp
        simp [this]
      refine Ev.step (f := fun _ => some false) (fun k => ?_) (by rw [e]; exact Ev.now _)
      simp only [spec_dbList.l0, rdD_appT, spec_l1In.is, Option.bind_some]
      rw [if_pos (by omega), if_pos (by omega), if_pos (by simp; omega), if_neg c1]
theorem spec_dbList.ev (l : List S48) (hl : l.length ≤ 1048576) : Ev (fun k => spec_dbList.f k l) (areD l) := by
  unfold spec_dbList.f areD
  by_cases c : (l.length : Int) > 100
  · rw [show decide ((l.length : Int) ≤ 100) = false from decide_eq_false (by omega)]
    simp only [if_pos c, Bool.false_and]
    exact Ev.now _
  · rw [show decide ((l.length : Int) ≤ 100) = true from decide_eq_true (by omega)]
    simp only [if_neg c, Bool.true_and]
    have := spec_dbList.l0ev l.length (by omega) l [] (by simp)
    simpa using this
theorem isD_in {d : S48} (h : isD d = true) : (0 ≤ d.f0 ∧ d.f0 ≤ 3) ∧ 0 ≤ d.f1 ∧ d.f1 ≤ 3 := by
  simp [isD] at h
  omega
theorem num3 {x : Int} (h : 0 ≤ x ∧ x ≤ 3) : numL x = [UInt8.ofNat (48 + x.toNat)] := by
  unfold numL
  rw [Lib.decDigits, dif_pos (by omega)]
theorem num3_ev {x : Int} (h : 0 ≤ x ∧ x ≤ 3) : Ev (fun k => spec_l1Num.f k x) (mkB (numL x)) := by
  obtain ⟨n, rfl⟩ := Int.eq_ofNat_of_zero_le h.1
  exact spec_l1Num.ev 0 n (by omega) (by simp; omega)
theorem spec_dbText.l0ev (n : Int) (hn : n ≤ 100) : ∀ (tl done : List S48) (a : List UInt8), ((done ++ tl).length : Int) = n → (∀ d ∈ tl, isD d = true) → a.length ≤ 3 * done.length →
    Ev (fun k => spec_dbText.l0 k (mkB a) (done ++ tl) n done.length) (mkB (a ++ if done = [] then textD tl else tailD tl)) := by
  intro tl
  induction tl with
  | nil =>
    intro done a hd _ _
    refine Ev.step (f := fun _ => some (mkB a)) (fun k => ?_) ?_
    · simp only [spec_dbText.l0]
      simp at hd
      rw [if_neg (by omega)]
    · have : (if done = [] then textD [] else tailD []) = [] := by split <;> rfl
      rw [this, List.append_nil]
      exact Ev.now _
  | cons d ds ih =>
    intro done a hd hall ha
    have hd' : (done.length : Int) + (ds.length + 1) = n := by simpa using hd
    have hD := isD_in (hall d (by simp))
    obtain ⟨K1, h1⟩ := num3_ev hD.1
    obtain ⟨K2, h2⟩ := num3_ev hD.2
    have l1 : (numL d.f0).length = 1 := by rw [num3 hD.1]; rfl
    have l2 : (numL d.f1).length = 1 := by rw [num3 hD.2]; rfl
    have s45 : (⟨#[45]⟩ : ByteArray) = mkB [45] := rfl
    by_cases z : done = []
    · subst z
      obtain ⟨K3, h3⟩ := ih [d] (a ++ (numL d.f0 ++ numL d.f1)) (by simpa using hd) (fun x hx => hall x (by simp [hx])) (by simp only [List.length_append, List.length_nil, List.length_singleton] at ha ⊢; omega)
      refine ⟨K1 + K2 + K3 + 1, fun k hk => ?_⟩
      obtain ⟨k, rfl⟩ : ∃ k', k = k' + 1 := ⟨k - 1, by omega⟩
      simp only [spec_dbText.l0, rdD_appT, h1 k (by omega), h2 k (by omega), Option.bind_some]
      rw [if_pos (by simp only [List.length_nil]; omega), if_pos (by simp), if_pos (by simp), if_neg (by simp), if_pos (by rw [mkB_size, mkB_size]; omega), mkB_append, if_pos (by rw [mkB_size, mkB_size]; simp only [List.length_append, List.length_nil] at ha ⊢; omega), mkB_append, w64s _ (by simp)]
      have := h3 k (by omega)
      simpa [textD, pieceD] using this
    · have zl : 0 < done.length := List.length_pos_iff.mpr z
      obtain ⟨K3, h3⟩ := ih (done ++ [d]) (a ++ [45] ++ (numL d.f0 ++ numL d.f1)) (by simpa using hd) (fun x hx => hall x (by simp [hx])) (by simp only [List.length_append, List.length_singleton] at ha ⊢; omega)
      refine ⟨K1 + K2 + K3 + 1, fun k hk => ?_⟩
      obtain ⟨k, rfl⟩ : ∃ k', k = k' + 1 := ⟨k - 1, by omega⟩
      simp only [spec_dbText.l0, rdD_appT, h1 k (by omega), h2 k (by omega), Option.bind_some]
      rw [if_pos (by omega), if_pos (by omega), if_pos (by simp; omega), if_pos (by omega), s45, if_pos (by rw [mkB_size]; omega), if_pos (by rw [mkB_size, mkB_size]; omega), mkB_append, mkB_append, if_pos (by rw [mkB_size, mkB_size]; simp only [List.length_append, List.length_singleton]; omega), mkB_append, w64s _ (by omega)]
      have := h3 k (by omega)
      rw [if_neg (by simp)] at this
      rw [if_neg z]
      simpa [tailD, pieceD] using this
theorem impl_areDoublings.is (l : List S48) : impl_areDoublings.f l = some (areD l) := by
  unfold impl_areDoublings.f areD
  have e : ∀ d : S48, impl_areDoublings.bad d = !isD d := by
    intro d
    unfold impl_areDoublings.bad isD
    cases (decide (0 ≤ d.f0) && decide (d.f0 ≤ 3)) <;> cases (decide (0 ≤ d.f1) && decide (d.f1 ≤ 3)) <;> cases decide (d.f0 = d.f1) <;> rfl
  have e2 : (!(l.any impl_areDoublings.bad)) = l.all isD := by
    rw [List.not_any_eq_all_not]
    congr 1
    funext d
    rw [e, Bool.not_not]
  by_cases c : (l.length : Int) ≤ 100
  · rw [if_pos c, e2, decide_eq_true c, Bool.true_and]
  · rw [if_neg c, decide_eq_false c, Bool.false_and]
theorem rdS_at (done : List (List UInt8)) (p : List UInt8) (ps : List (List UInt8)) : rdOf ByteArray.empty ((done ++ p :: ps).map mkB) (done.length : Int) = mkB p := by
  simp [rdOf, List.getD_eq_getElem?_getD]
def toD (p : List UInt8) : S48 := ⟨((p.getD 0 0).toNat : Int) - 48, ((p.getD 1 0).toNat : Int) - 48⟩
theorem toD_at {p : List UInt8} (h : p.length = 2) : (⟨wrap64 ((wrap64 (bt (mkB p) 0)) - 48), wrap64 ((wrap64 (bt (mkB p) 1)) - 48)⟩ : S48) = toD p := by
  have h0 := mkB_get p 0 (by omega)
  have h1 := mkB_get p 1 (by omega)
  rw [show ((0 : Nat) : Int) = 0 from rfl] at h0
  rw [show ((1 : Nat) : Int) = 1 from rfl] at h1
  have l0 := (p[0]'(by omega)).toNat_lt
  have l1 := (p[1]'(by omega)).toNat_lt
  rw [h0, h1, w64 (((p[0]'(by omega)).toNat : Nat) : Int) (by omega) (by omega), w64 (((p[1]'(by omega)).toNat : Nat) : Int) (by omega) (by omega), w64 _ (by omega) (by omega), w64 _ (by omega) (by omega)]
  unfold toD
  simp [List.getD_eq_getElem?_getD, List.getElem?_eq_getElem (show 0 < p.length by omega), List.getElem?_eq_getElem (show 1 < p.length by omega)]
def two (p : List UInt8) : Bool := decide (p.length = 2)
theorem spec_ParseDoublings.l0ev (s : ByteArray) (n : Int) (hn : n ≤ 1048577) {v : List S48 × Bool} : ∀ (tl done : List (List UInt8)) (acc : List S48), ((done ++ tl).length : Int) = n → acc.length = done.length →
    (if tl.all two = true then Ev (fun k => spec_ParseDoublings.j1 k s (acc ++ tl.map toD)) v else v = ([], false)) → Ev (fun k => spec_ParseDoublings.l0 k s acc ((done ++ tl).map mkB) n done.length) v := by
  intro tl
  induction tl with
  | nil =>
    intro done acc hd ha H
    simp only [List.all_nil, if_true, List.map_nil, List.append_nil] at H
    refine Ev.step (f := fun k => spec_ParseDoublings.j1 k s acc) (fun k => ?_) H
    simp only [spec_ParseDoublings.l0]
    simp at hd
    rw [if_neg (by omega)]
  | cons p ps ih =>
    intro done acc hd ha H
    have hd' : (done.length : Int) + (ps.length + 1) = n := by simpa using hd
    by_cases h2 : p.length = 2
    · have h := ih (done ++ [p]) (acc ++ [toD p]) (by simpa using hd) (by simp [ha]) (by
        simpa [two, h2] using H)
      refine Ev.step (f := fun k => spec_ParseDoublings.l0 k s (acc ++ [toD p]) ((done ++ [p] ++ ps).map mkB) n ((done ++ [p]).length : Int)) (fun k => ?_) h
      simp only [spec_ParseDoublings.l0, rdS_at, mkB_size, h2, toD_at h2]
      rw [if_pos (by omega), if_pos (by omega), if_pos (by simp; omega), if_pos (by decide), if_pos (by decide), if_pos (by decide), if_pos (by omega), w64s done.length (by omega)]
      simp
    · have hv : v = ([], false) := by
        have : (p :: ps).all two = false := by simp [two, h2]
        rw [this] at H
        simpa using H
      subst hv
      refine Ev.step (f := fun _ => some ([], false)) (fun k => ?_) (Ev.now _)
      simp only [spec_ParseDoublings.l0, rdS_at, mkB_size]
      rw [if_pos (by omega), if_pos (by omega), if_pos (by simp; omega), if_neg (by omega)]
theorem impl_ParseDoublings.l0ev (n : Int) (hn : n ≤ 1048577) : ∀ (tl done : List (List UInt8)) (acc : List S48), ((done ++ tl).length : Int) = n → acc.length = done.length →
    Ev (fun k => impl_ParseDoublings.l0 k acc ((done ++ tl).map mkB) n done.length) (if tl.all two = true ∧ areD (acc ++ tl.map toD) = true then (acc ++ tl.map toD, true) else ([], false)) := by
  intro tl
  induction tl with
  | nil =>
    intro done acc hd ha
    simp only [List.all_nil, List.map_nil, List.append_nil, true_and]
    simp at hd
    by_cases c : areD acc = true
    · rw [if_pos c]
      refine Ev.step (f := fun _ => some (acc, true)) (fun k => ?_) (Ev.now _)
      simp only [impl_ParseDoublings.l0, impl_areDoublings.is, c, Option.bind_some, if_true]
      rw [if_neg (by omega)]
    · rw [if_neg c]
      refine Ev.step (f := fun _ => some ([], false)) (fun k => ?_) (Ev.now _)
      simp only [impl_ParseDoublings.l0, impl_areDoublings.is, Option.bind_some]
      rw [if_neg (by omega), if_neg c]
  | cons p ps ih =>
    intro done acc hd ha
    have hd' : (done.length : Int) + (ps.length + 1) = n := by simpa using hd
    by_cases h2 : p.length = 2
    · have h := ih (done ++ [p]) (acc ++ [toD p]) (by simpa using hd) (by simp [ha])
      refine Ev.step (f := fun k => impl_ParseDoublings.l0 k (acc ++ [toD p]) ((done ++ [p] ++ ps).map mkB) n ((done ++ [p]).length : Int)) (fun k => ?_) (by simpa [two, h2] using h)
      simp only [impl_ParseDoublings.l0, rdS_at, mkB_size, h2, toD_at h2]
      rw [if_pos (by omega), if_pos (by omega), if_pos (by simp; omega), if_pos (by decide), if_pos (by decide), if_pos (by decide), if_pos (by omega), w64s done.length (by omega)]
      simp
    · rw [if_neg (by simp [two, h2])]
      refine Ev.step (f := fun _ => some ([], false)) (fun k => ?_) (Ev.now _)
      simp only [impl_ParseDoublings.l0, rdS_at, mkB_size]
      rw [if_pos (by omega), if_pos (by omega), if_pos (by simp; omega), if_neg (by omega)]
theorem piece_toD {p : List UInt8} (h2 : p.length = 2) (h : isD (toD p) = true) : pieceD (toD p) = p := by
  have hD := isD_in h
  match p, h2 with
  | [a, b], _ =>
    unfold pieceD
    rw [num3 hD.1, num3 hD.2]
    simp only [toD, List.getD_cons_zero, List.getD_cons_succ] at hD ⊢
    have ea : UInt8.ofNat (48 + ((a.toNat : Int) - 48).toNat) = a := by
      rw [show 48 + ((a.toNat : Int) - 48).toNat = a.toNat by omega]
      exact UInt8.ofNat_toNat
    have eb : UInt8.ofNat (48 + ((b.toNat : Int) - 48).toNat) = b := by
      rw [show 48 + ((b.toNat : Int) - 48).toNat = b.toNat by omega]
      exact UInt8.ofNat_toNat
    rw [ea, eb]
    rfl
theorem tail_toD : ∀ (ps : List (List UInt8)), (∀ p ∈ ps, p.length = 2) → (∀ d ∈ ps.map toD, isD d = true) → tailD (ps.map toD) = jt ps
  | [], _, _ => rfl
  | p :: ps, h2, h => by
    rw [List.map_cons, tailD, jt, piece_toD (h2 p (by simp)) (h _ (by simp)), tail_toD ps (fun q hq => h2 q (by simp [hq])) (fun d hd => h d (by simp only [List.map_cons, List.mem_cons]; exact Or.inr hd))]
theorem text_toD (ps : List (List UInt8)) (h2 : ∀ p ∈ ps, p.length = 2) (h : ∀ d ∈ ps.map toD, isD d = true) : textD (ps.map toD) = jn ps := by
  cases ps with
  | nil => rfl
  | cons p ps =>
    rw [List.map_cons, textD, jn, piece_toD (h2 p (by simp)) (h _ (by simp)), tail_toD ps (fun q hq => h2 q (by simp [hq])) (fun d hd => h d (by simp only [List.map_cons, List.mem_cons]; exact Or.inr hd))]
theorem jt_len : ∀ (ps : List (List UInt8)), (∀ p ∈ ps, p.length = 2) → (jt ps).length = 3 * ps.length
  | [], _ => rfl
  | p :: ps, h => by
    have h1 := h p (by simp)
    have := jt_len ps (fun q hq => h q (by simp [hq]))
    simp only [jt, List.length_append, List.length_cons, this, h1]
    omega
theorem jn_len (ps : List (List UInt8)) (h : ∀ p ∈ ps, p.length = 2) : (jn ps).length + 1 = 3 * ps.length ∨ ps = [] := by
  cases ps with
  | nil => exact Or.inr rfl
  | cons p ps =>
    have h1 := h p (by simp)
    have := jt_len ps (fun q hq => h q (by simp [hq]))
    simp only [jn, List.length_append, List.length_cons, this, h1]
    omega
theorem both_ParseDoublings (L : List UInt8) (hL : L.length ≤ 1048576) : ∃ v : List S48 × Bool, v.1.length ≤ 1048576 ∧ Ev (fun k => spec_ParseDoublings.f k (mkB L)) v ∧ Ev (fun k => impl_ParseDoublings.f k (mkB L)) v := by
  by_cases h0 : L = []
  · subst h0
    refine ⟨([], true), by simp, ?_, ?_⟩
    · unfold spec_ParseDoublings.f
      simp only [mkB_size, List.length_nil]
      rw [show ((0 : Nat) : Int) = 0 from rfl]
      simp only [show ¬ ((0 : Int) > 300) by omega, show ¬ ((0 : Int) > 0) by omega, if_false]
      have hx := spec_dbList.ev [] (by simp)
      have ht : Ev (fun k => spec_dbText.f k []) (mkB []) := by
        have := spec_dbText.l0ev 0 (by omega) [] [] [] (by simp) (by simp) (by simp)
        simp only [if_true, List.nil_append, List.length_nil] at this
        exact this
      refine Ev.step (f := fun k => (spec_dbList.f k []).bind fun t131 => (if t131 = true then ((spec_dbText.f k []).bind fun t132 => (if t132.toList = (mkB []).toList then (some (([] : List S48), true)) else (some (([] : List S48), false)))) else (some (([] : List S48), false)))) (fun k => by simp only [spec_ParseDoublings.j1]) ?_
      refine Ev.bind hx ?_
      rw [show areD [] = true from rfl]
      simp only [if_true]
      refine Ev.bind ht ?_
      simp only [if_true]
      exact Ev.now _
    · unfold impl_ParseDoublings.f
      have : (mkB []).toList = ([] : List UInt8) := by rw [ByteArray.toList_eq, mkB_toList]
      simp only [this, if_true]
      exact Ev.now _
  · have hne : ¬ (mkB L).toList = ([] : List UInt8) := by
      rw [ByteArray.toList_eq]
      rw [mkB_toList]
      exact h0
    have hpos : 0 < L.length := List.length_pos_iff.mpr h0
    have hs := strings_Split.is L hL
    have hsp := spec_l1Split.ev L hL
    have hjn := jn_spl L []
    have hlen := spl_len L []
    generalize spl L [] = P at hs hsp hjn hlen
    rw [List.nil_append] at hjn
    have him := impl_ParseDoublings.l0ev P.length (by omega) P [] [] (by simp) rfl
    simp only [List.nil_append] at him
    refine ⟨if P.all two = true ∧ areD (P.map toD) = true then (P.map toD, true) else ([], false), ?_, ?_, ?_⟩
    · split
      · rename_i hc
        have : ((P.map toD).length : Int) ≤ 100 := by
          have := hc.2
          simp [areD] at this
          simpa using this.1
        show (P.map toD).length ≤ 1048576
        omega
      · simp
    · unfold spec_ParseDoublings.f
      rw [mkB_size]
      by_cases big : (L.length : Int) > 300
      · simp only [if_pos big]
        rw [if_neg]
        · exact Ev.now _
        · rintro ⟨hc1, hc2⟩
          have h2 : ∀ p ∈ P, p.length = 2 := by simpa [two] using hc1
          have hl := jn_len P h2
          have : ((P.map toD).length : Int) ≤ 100 := by
            simp [areD] at hc2
            simpa using hc2.1
          rw [List.length_map] at this
          rw [hjn] at hl
          rcases hl with hl | hl
          · omega
          · subst hl
            simp [jn] at hjn
            exact h0 hjn
      · simp only [if_neg big, if_pos (show (L.length : Int) > 0 by omega)]
        refine Ev.bind hsp ?_
        have hll : (((P.map mkB).length : Nat) : Int) = P.length := by simp
        rw [hll]
        refine spec_ParseDoublings.l0ev (mkB L) P.length (by omega) P [] [] (by simp) rfl ?_
        by_cases ht : P.all two = true
        · rw [if_pos ht, List.nil_append]
          have h2 : ∀ p ∈ P, p.length = 2 := by simpa [two] using ht
          refine Ev.step (f := fun k => (spec_dbList.f k (P.map toD)).bind fun t131 => (if t131 = true then ((spec_dbText.f k (P.map toD)).bind fun t132 => (if t132.toList = (mkB L).toList then (some (P.map toD, true)) else (some (([] : List S48), false)))) else (some (([] : List S48), false)))) (fun k => by simp only [spec_ParseDoublings.j1]) ?_
          refine Ev.bind (spec_dbList.ev (P.map toD) (by simp; omega)) ?_
          by_cases ha : areD (P.map toD) = true
          · rw [if_pos ⟨ht, ha⟩]
            simp only [ha, if_true]
            have h100 : ((P.map toD).length : Int) ≤ 100 := by simp [areD] at ha; simpa using ha.1
            have hall : ∀ d ∈ P.map toD, isD d = true := by
              intro d hd
              unfold areD at ha
              rw [Bool.and_eq_true] at ha
              exact (List.all_eq_true.mp ha.2) d hd
            have htx := spec_dbText.l0ev (P.map toD).length h100 (P.map toD) [] [] (by simp) hall (by simp)
            simp only [if_true, List.nil_append, List.length_nil] at htx
            rw [text_toD P h2 hall, hjn] at htx
            refine Ev.bind (a := mkB L) htx ?_
            simp only [if_true]
            exact Ev.now _
          · rw [if_neg (fun hc => ha hc.2)]
            simp only [ha]
            exact Ev.now _
        · rw [if_neg ht, if_neg (fun hc => ht hc.1)]
    · unfold impl_ParseDoublings.f
      simp only [if_neg hne, hs, Option.bind_some]
      have hll : (((P.map mkB).length : Nat) : Int) = P.length := by simp
      rw [hll]
      simpa using him
/-! ### read back -/
theorem piece_len {d : S48} (h : isD d = true) : (pieceD d).length = 2 := by
  have hD := isD_in h
  unfold pieceD
  rw [num3 hD.1, num3 hD.2]
  rfl
theorem piece_45 {d : S48} (h : isD d = true) : (45 : UInt8) ∉ pieceD d := by
  obtain ⟨x, y⟩ := d
  have hD := isD_in h
  simp only at hD
  unfold pieceD
  rw [num3 hD.1, num3 hD.2]
  have ex : x = 0 ∨ x = 1 ∨ x = 2 ∨ x = 3 := by omega
  have ey : y = 0 ∨ y = 1 ∨ y = 2 ∨ y = 3 := by omega
  rcases ex with rfl | rfl | rfl | rfl <;> rcases ey with rfl | rfl | rfl | rfl <;> decide
theorem toD_piece {d : S48} (h : isD d = true) : toD (pieceD d) = d := by
  obtain ⟨x, y⟩ := d
  have hD := isD_in h
  simp only at hD
  unfold pieceD
  rw [num3 hD.1, num3 hD.2]
  have ex : x = 0 ∨ x = 1 ∨ x = 2 ∨ x = 3 := by omega
  have ey : y = 0 ∨ y = 1 ∨ y = 2 ∨ y = 3 := by omega
  rcases ex with rfl | rfl | rfl | rfl <;> rcases ey with rfl | rfl | rfl | rfl <;> rfl
theorem areD_all {ds : List S48} (h : areD ds = true) : ∀ d ∈ ds, isD d = true := by
  unfold areD at h
  rw [Bool.and_eq_true] at h
  exact List.all_eq_true.mp h.2
theorem textD_ne (d : S48) (ds : List S48) (hd : isD d = true) : textD (d :: ds) ≠ [] := by
  intro h
  have h1 := piece_len hd
  have h2 := congrArg List.length h
  rw [textD, List.length_append, h1] at h2
  simp at h2 <;> omega
theorem spl_textD : ∀ (d : S48) (ds : List S48), (∀ e ∈ d :: ds, isD e = true) → spl (textD (d :: ds)) [] = (d :: ds).map pieceD
  | d, [], h => by
    rw [textD, tailD, List.append_nil, spl_none _ _ (piece_45 (h d (by simp)))]
    rfl
  | d, e :: es, h => by
    have ih := spl_textD e es (fun x hx => h x (by simp only [List.mem_cons]; exact Or.inr (List.mem_cons.1 hx)))
    rw [textD, tailD, List.cons_append, spl_hit _ _ _ (piece_45 (h d (by simp)))]
    rw [textD] at ih
    rw [ih]
    rfl
theorem parse_is (L : List UInt8) (hL : L.length ≤ 1048576) : ∃ v : List S48 × Bool, (v.1.length ≤ 1048576 ∧ (v.2 = true → areD v.1 = true ∧ textD v.1 = L) ∧ ∀ ds, areD ds = true → L = textD ds → v = (ds, true)) ∧ Ev (fun k => spec_ParseDoublings.f k (mkB L)) v ∧ Ev (fun k => impl_ParseDoublings.f k (mkB L)) v := by
  by_cases h0 : L = []
  · subst h0
    refine ⟨([], true), ⟨by simp, fun _ => ⟨rfl, rfl⟩, fun ds hds h => by
      cases ds with
      | nil => rfl
      | cons d ds => exact absurd h.symm (textD_ne d ds (areD_all hds d (by simp)))⟩, ?_, ?_⟩
    · unfold spec_ParseDoublings.f
      simp only [mkB_size, List.length_nil]
      rw [show ((0 : Nat) : Int) = 0 from rfl]
      simp only [show ¬ ((0 : Int) > 300) by omega, show ¬ ((0 : Int) > 0) by omega, if_false]
      have hx := spec_dbList.ev [] (by simp)
      have ht : Ev (fun k => spec_dbText.f k []) (mkB []) := by
        have := spec_dbText.l0ev 0 (by omega) [] [] [] (by simp) (by simp) (by simp)
        simp only [if_true, List.nil_append, List.length_nil] at this
        exact this
      refine Ev.step (f := fun k => (spec_dbList.f k []).bind fun t131 => (if t131 = true then ((spec_dbText.f k []).bind fun t132 => (if t132.toList = (mkB []).toList then (some (([] : List S48), true)) else (some (([] : List S48), false)))) else (some (([] : List S48), false)))) (fun k => by simp only [spec_ParseDoublings.j1]) ?_
      refine Ev.bind hx ?_
      rw [show areD [] = true from rfl]
      simp only [if_true]
      refine Ev.bind ht ?_
      simp only [if_true]
      exact Ev.now _
    · unfold impl_ParseDoublings.f
      have : (mkB []).toList = ([] : List UInt8) := by rw [ByteArray.toList_eq, mkB_toList]
      simp only [this, if_true]
      exact Ev.now _
  · have hne : ¬ (mkB L).toList = ([] : List UInt8) := by
      rw [ByteArray.toList_eq]
      rw [mkB_toList]
      exact h0
    have hpos : 0 < L.length := List.length_pos_iff.mpr h0
    have hs := strings_Split.is L hL
    have hsp := spec_l1Split.ev L hL
    have hjn := jn_spl L []
    have hlen := spl_len L []
    generalize hP : spl L [] = P at hs hsp hjn hlen
    rw [List.nil_append] at hjn
    have him := impl_ParseDoublings.l0ev P.length (by omega) P [] [] (by simp) rfl
    simp only [List.nil_append] at him
    refine ⟨if P.all two = true ∧ areD (P.map toD) = true then (P.map toD, true) else ([], false), ?_, ?_, ?_⟩
    · refine ⟨?_, ?_, ?_⟩
      · split
        · rename_i hc
          have : ((P.map toD).length : Int) ≤ 100 := by
            have := hc.2
            simp [areD] at this
            simpa using this.1
          show (P.map toD).length ≤ 1048576
          omega
        · simp
      · split
        · rename_i hc
          intro _
          refine ⟨hc.2, ?_⟩
          have h2 : ∀ p ∈ P, p.length = 2 := by simpa [two] using hc.1
          have hall : ∀ d ∈ P.map toD, isD d = true := by
            have hc2 := hc.2
            unfold areD at hc2
            rw [Bool.and_eq_true] at hc2
            exact List.all_eq_true.mp hc2.2
          rw [text_toD P h2 hall, hjn]
        · intro h
          cases h
      · intro ds hds hL2
        have hall : ∀ d ∈ ds, isD d = true := by
          have hc2 := hds
          unfold areD at hc2
          rw [Bool.and_eq_true] at hc2
          exact List.all_eq_true.mp hc2.2
        have hP2 : P = ds.map pieceD := by
          rw [← hP, hL2]
          cases ds with
          | nil => rw [hL2] at h0; exact absurd rfl h0
          | cons d ds => exact spl_textD d ds hall
        have e1 : P.all two = true := by
          rw [hP2, List.all_map]
          refine List.all_eq_true.mpr (fun d hd => ?_)
          simp [two, piece_len (hall d hd)]
        have e2 : P.map toD = ds := by
          rw [hP2, List.map_map]
          have : ∀ d ∈ ds, (toD ∘ pieceD) d = id d := fun d hd => toD_piece (hall d hd)
          rw [List.map_congr_left this, List.map_id]
        rw [e2, if_pos ⟨e1, hds⟩]
    · unfold spec_ParseDoublings.f
      rw [mkB_size]
      by_cases big : (L.length : Int) > 300
      · simp only [if_pos big]
        rw [if_neg]
        · exact Ev.now _
        · rintro ⟨hc1, hc2⟩
          have h2 : ∀ p ∈ P, p.length = 2 := by simpa [two] using hc1
          have hl := jn_len P h2
          have : ((P.map toD).length : Int) ≤ 100 := by
            simp [areD] at hc2
            simpa using hc2.1
          rw [List.length_map] at this
          rw [hjn] at hl
          rcases hl with hl | hl
          · omega
          · subst hl
            simp [jn] at hjn
            exact h0 hjn
      · simp only [if_neg big, if_pos (show (L.length : Int) > 0 by omega)]
        refine Ev.bind hsp ?_
        have hll : (((P.map mkB).length : Nat) : Int) = P.length := by simp
        rw [hll]
        refine spec_ParseDoublings.l0ev (mkB L) P.length (by omega) P [] [] (by simp) rfl ?_
        by_cases ht : P.all two = true
        · rw [if_pos ht, List.nil_append]
          have h2 : ∀ p ∈ P, p.length = 2 := by simpa [two] using ht
          refine Ev.step (f := fun k => (spec_dbList.f k (P.map toD)).bind fun t131 => (if t131 = true then ((spec_dbText.f k (P.map toD)).bind fun t132 => (if t132.toList = (mkB L).toList then (some (P.map toD, true)) else (some (([] : List S48), false)))) else (some (([] : List S48), false)))) (fun k => by simp only [spec_ParseDoublings.j1]) ?_
          refine Ev.bind (spec_dbList.ev (P.map toD) (by simp; omega)) ?_
          by_cases ha : areD (P.map toD) = true
          · rw [if_pos ⟨ht, ha⟩]
            simp only [ha, if_true]
            have h100 : ((P.map toD).length : Int) ≤ 100 := by simp [areD] at ha; simpa using ha.1
            have hall : ∀ d ∈ P.map toD, isD d = true := by
              intro d hd
              unfold areD at ha
              rw [Bool.and_eq_true] at ha
              exact (List.all_eq_true.mp ha.2) d hd
            have htx := spec_dbText.l0ev (P.map toD).length h100 (P.map toD) [] [] (by simp) hall (by simp)
            simp only [if_true, List.nil_append, List.length_nil] at htx
            rw [text_toD P h2 hall, hjn] at htx
            refine Ev.bind (a := mkB L) htx ?_
            simp only [if_true]
            exact Ev.now _
          · rw [if_neg (fun hc => ha hc.2)]
            simp only [ha]
            exact Ev.now _
        · rw [if_neg ht, if_neg (fun hc => ht hc.1)]
    · unfold impl_ParseDoublings.f
      simp only [if_neg hne, hs, Option.bind_some]
      have hll : (((P.map mkB).length : Nat) : Int) = P.length := by simp
      rw [hll]
      simpa using him
theorem spec_dbCan.is (l : List Int) (f t : Int) (hl : l.length ≤ 1048576) : spec_dbCan.f l f t = some (canD l f t) := by
  unfold spec_dbCan.f canD
  simp only [spec_l1In.is, Option.bind_some, w64 ((l.length : Int) - 1) (by omega) (by omega)]
  by_cases h1 : (decide (0 ≤ f) && decide (f ≤ (l.length : Int) - 1)) = true
  · by_cases h2 : (decide (0 ≤ t) && decide (t ≤ (l.length : Int) - 1)) = true
    · have h1' : 0 ≤ f ∧ f ≤ (l.length : Int) - 1 := by simpa using h1
      have h2' : 0 ≤ t ∧ t ≤ (l.length : Int) - 1 := by simpa using h2
      rw [if_pos h1, if_pos h2]
      by_cases h3 : f = t
      · rw [if_pos h3]; simp [h3]
      · rw [if_neg h3, if_pos h2'.1, if_pos (by omega)]
        by_cases h4 : rd l t > 0
        · rw [if_pos h4, if_pos h1'.1, if_pos (by omega)]; simp [h1', h2', h3, h4]
        · rw [if_neg h4]; simp [h4]
    · rw [if_pos h1, if_neg h2]
      simp only [Bool.not_eq_true] at h2
      simp only [h1, Bool.true_and, h2, Bool.false_and]
  · rw [if_neg h1]
    simp only [Bool.not_eq_true] at h1
    simp only [h1, Bool.false_and]
theorem rdT_mem {r : List S48} {j : Int} (h0 : 0 ≤ j) (h : j < r.length) : rd_T48 r j ∈ r := by
  unfold rd_T48
  rw [List.getD_eq_getElem?_getD, List.getElem?_eq_getElem (show j.toNat < r.length by omega)]
  exact List.getElem_mem _
theorem spec_dbAll.l0tot (l : List Int) (hl : l.length ≤ 4) : ∀ (e i : Nat) (acc : List S48), i + e = l.length → acc.length + e * 4 ≤ 16 → (∀ d ∈ acc, canD l d.f0 d.f1 = true) → ∃ r, r.length ≤ 16 ∧ (∀ d ∈ r, canD l d.f0 d.f1 = true) ∧ Ev (fun k => spec_dbAll.l0 k l acc (l.length : Int) i) r := by
  intro e
  induction e with
  | zero =>
    intro i acc hi ha hc
    refine ⟨acc, by omega, hc, Ev.step (f := fun _ => some acc) (fun k => ?_) (Ev.now _)⟩
    simp only [spec_dbAll.l0]
    rw [if_neg (by omega)]
  | succ e ih =>
    intro i acc hi ha hc
    have inner : ∀ (d j : Nat) (acc : List S48), j + d = l.length → acc.length + d + e * 4 ≤ 16 → (∀ d ∈ acc, canD l d.f0 d.f1 = true) → ∃ r, r.length ≤ 16 ∧ (∀ d ∈ r, canD l d.f0 d.f1 = true) ∧ Ev (fun k => spec_dbAll.l1 k l acc i (l.length : Int) i (l.length : Int) j) r := by
      intro d
      induction d with
      | zero =>
        intro j acc hj ha hc
        obtain ⟨r, hr, hr2, h⟩ := ih (i + 1) acc (by omega) (by omega) hc
        refine ⟨r, hr, hr2, Ev.step (f := fun k => spec_dbAll.l0 k l acc (l.length : Int) ((i + 1 : Nat) : Int)) (fun k => ?_) h⟩
        simp only [spec_dbAll.l1]
        rw [if_neg (by omega), w64s i (by omega)]
      | succ d ihd =>
        intro j acc hj ha hc
        by_cases c : canD l i j = true
        · obtain ⟨r, hr, hr2, h⟩ := ihd (j + 1) (acc ++ [⟨i, j⟩]) (by omega) (by simp; omega) (fun d hd => by
            rcases List.mem_append.1 hd with hd | hd
            · exact hc d hd
            · rw [List.mem_singleton.1 hd]; exact c)
          refine ⟨r, hr, hr2, Ev.step (f := fun k => spec_dbAll.l1 k l (acc ++ [⟨i, j⟩]) i (l.length : Int) i (l.length : Int) ((j + 1 : Nat) : Int)) (fun k => ?_) h⟩
          simp only [spec_dbAll.l1, spec_dbCan.is l _ _ (show l.length ≤ 1048576 by omega), Option.bind_some]
          rw [if_pos (by omega), if_pos c, if_pos (by omega), w64s j (by omega)]
        · obtain ⟨r, hr, hr2, h⟩ := ihd (j + 1) acc (by omega) (by omega) hc
          refine ⟨r, hr, hr2, Ev.step (f := fun k => spec_dbAll.l1 k l acc i (l.length : Int) i (l.length : Int) ((j + 1 : Nat) : Int)) (fun k => ?_) h⟩
          simp only [spec_dbAll.l1, spec_dbCan.is l _ _ (show l.length ≤ 1048576 by omega), Option.bind_some]
          rw [if_pos (by omega), if_neg c, w64s j (by omega)]
    obtain ⟨r, hr, hr2, h⟩ := inner l.length 0 acc (by omega) (by omega) hc
    refine ⟨r, hr, hr2, Ev.step (f := fun k => spec_dbAll.l1 k l acc i (l.length : Int) i (l.length : Int) 0) (fun k => ?_) h⟩
    simp only [spec_dbAll.l0]
    rw [if_pos (by omega)]
theorem spec_dbAll.tot (l : List Int) (hl : l.length ≤ 4) : ∃ r, r.length ≤ 16 ∧ (∀ d ∈ r, canD l d.f0 d.f1 = true) ∧ Ev (fun k => spec_dbAll.f k l) r := by
  have h := spec_dbAll.l0tot l hl l.length 0 [] (by omega) (by simp; omega) (by simp)
  simpa [spec_dbAll.f] using h
theorem spec_dbMake.is (l : List Int) (f t : Int) (hl : l.length ≤ 1048576) (h : canD l f t = true) : spec_dbMake.f l f t = some (dMade l f t) := by
  obtain ⟨h1, h2, h3, h4, _⟩ := canD_in h
  unfold spec_dbMake.f spec_l1Own.f dMade
  simp only [Option.bind_some, List.nil_append]
  rw [if_pos (by simp; omega)]
  simp only [Option.bind_some]
  rw [if_pos h1, if_pos h2, if_pos h3, if_pos h4, if_pos h4]
theorem spec_DoublingsText.ev (l : List S48) (hl : l.length ≤ 1048576) : Ev (fun k => spec_DoublingsText.f k l) (if areD l = true then (mkB (textD l), true) else (mkB [], false)) := by
  refine Ev.bind (spec_dbList.ev l hl) ?_
  by_cases c : areD l = true
  · simp only [c, if_true]
    have h100 : (l.length : Int) ≤ 100 := by simp [areD] at c; omega
    have hall : ∀ d ∈ l, isD d = true := by simp [areD] at c; exact c.2
    have := spec_dbText.l0ev l.length h100 l [] [] (by simp) hall (by simp)
    exact Ev.bind (a := mkB (textD l)) (by simp only [if_true, List.nil_append, List.length_nil] at this; exact this) (Ev.now _)
  · simp only [c]
    exact Ev.now _
theorem itoa3 {x : Int} (h : 0 ≤ x ∧ x ≤ 3) : strconv_Itoa_52.f x = some (mkB (numL x)) := by
  unfold strconv_Itoa_52.f
  rw [if_pos (by omega)]
  rfl
theorem tail_join (l : List S48) : Lib.joinTail [45] (l.map pieceD) = tailD l := by
  induction l with
  | nil => rfl
  | cons d ds ih =>
    unfold Lib.joinTail at ih ⊢
    simp only [List.map_cons, List.flatten_cons, ih, tailD]
    simp
theorem text_join (l : List S48) : Lib.join (l.map pieceD) [45] = textD l := by
  cases l with
  | nil => rfl
  | cons d ds => rw [List.map_cons, Lib.join_cons, tail_join]; rfl
theorem tailD_len : ∀ (l : List S48), (∀ d ∈ l, isD d = true) → (tailD l).length = 3 * l.length
  | [], _ => rfl
  | d :: ds, h => by
    have hD := isD_in (h d (by simp))
    have := tailD_len ds (fun x hx => h x (by simp [hx]))
    simp only [tailD, pieceD, num3 hD.1, num3 hD.2, List.length_append, List.length_cons, List.length_nil, this]
    omega
theorem textD_len (l : List S48) (h : ∀ d ∈ l, isD d = true) : (textD l).length ≤ 3 * l.length := by
  cases l with
  | nil => simp [textD]
  | cons d ds =>
    have hD := isD_in (h d (by simp))
    have := tailD_len ds (fun x hx => h x (by simp [hx]))
    simp only [textD, pieceD, num3 hD.1, num3 hD.2, List.length_append, List.length_cons, List.length_nil, this]
    omega
theorem impl_DoublingsText.l0ev (n : Int) (hn : n ≤ 100) : ∀ (tl done : List S48), ((done ++ tl).length : Int) = n → (∀ d ∈ done ++ tl, isD d = true) →
    Ev (fun k => impl_DoublingsText.l0 k (done.map fun d => mkB (pieceD d)) (done ++ tl) n done.length) (mkB (textD (done ++ tl)), true) := by
  intro tl
  induction tl with
  | nil =>
    intro done hd hall
    simp only [List.append_nil] at hd hall ⊢
    refine Ev.step (f := fun _ => some (mkB (textD done), true)) (fun k => ?_) (Ev.now _)
    simp only [impl_DoublingsText.l0]
    rw [if_neg (by omega)]
    unfold strings_Join.f
    have e : (done.map fun d => mkB (pieceD d)).map (·.data.toList) = done.map pieceD := by
      rw [List.map_map]
      refine List.map_congr_left (fun d _ => ?_)
      exact mkB_toList _
    have e45 : ((⟨#[45]⟩ : ByteArray).data.toList) = [45] := rfl
    rw [e, e45, text_join]
    have := textD_len done hall
    rw [if_pos ⟨by simp; omega, by omega⟩]
    rfl
  | cons d ds ih =>
    intro done hd hall
    have hd' : (done.length : Int) + (ds.length + 1) = n := by simpa using hd
    have hD := isD_in (hall d (by simp))
    have l1 : (numL d.f0).length = 1 := by rw [num3 hD.1]; rfl
    have l2 : (numL d.f1).length = 1 := by rw [num3 hD.2]; rfl
    have h := ih (done ++ [d]) (by simpa using hd) (by simpa using hall)
    refine Ev.step (f := fun k => impl_DoublingsText.l0 k ((done ++ [d]).map fun d => mkB (pieceD d)) (done ++ [d] ++ ds) n ((done ++ [d]).length : Int)) (fun k => ?_) (by simpa using h)
    simp only [impl_DoublingsText.l0, rdD_appT, itoa3 hD.1, itoa3 hD.2, Option.bind_some]
    rw [if_pos (by omega), if_pos (by omega), if_pos (by simp; omega), if_pos (by rw [mkB_size, mkB_size]; omega), if_pos (by simp; omega), mkB_append, w64s _ (by omega)]
    simp [pieceD]
theorem impl_DoublingsText.ev (l : List S48) (hl : l.length ≤ 1048576) : Ev (fun k => impl_DoublingsText.f k l) (if areD l = true then (mkB (textD l), true) else (mkB [], false)) := by
  unfold impl_DoublingsText.f
  simp only [impl_areDoublings.is, Option.bind_some]
  by_cases c : areD l = true
  · simp only [c, if_true]
    have h100 : (l.length : Int) ≤ 100 := by simp [areD] at c; omega
    have hall : ∀ d ∈ l, isD d = true := by simp [areD] at c; exact c.2
    have := impl_DoublingsText.l0ev l.length h100 l [] (by simp) (by simpa using hall)
    simpa using this
  · simp only [c]
    exact Ev.now _
theorem spec_PlayDoublings.l0ev (n : Int) (hn : n ≤ 1048576) : ∀ (tl done : List S48) (out : List Int), ((done ++ tl).length : Int) = n → out.length ≤ 1048576 → Ev (fun k => spec_PlayDoublings.l0 k out (done ++ tl) n done.length) (playD tl out) := by
  intro tl
  induction tl with
  | nil =>
    intro done out hd ho
    refine Ev.step (f := fun _ => some (out, true)) (fun k => ?_) (Ev.now _)
    simp only [spec_PlayDoublings.l0]
    simp at hd
    rw [if_neg (by omega)]
  | cons d ds ih =>
    intro done out hd ho
    have hd' : (done.length : Int) + (ds.length + 1) = n := by simpa using hd
    by_cases c : canD out d.f0 d.f1 = true
    · have h := ih (done ++ [d]) (dMade out d.f0 d.f1) (by simp; omega) (by rw [dMade_length]; exact ho)
      refine Ev.step (f := fun k => spec_PlayDoublings.l0 k (dMade out d.f0 d.f1) (done ++ [d] ++ ds) n ((done ++ [d]).length : Int)) (fun k => ?_) (by rw [playD, if_pos c]; exact h)
      simp only [spec_PlayDoublings.l0, rdD_app, spec_dbCan.is out _ _ ho, c, spec_dbMake.is out _ _ ho c, Option.bind_some, if_true]
      rw [if_pos (by omega), if_pos (by omega), if_pos (by simp; omega), w64s done.length (by omega)]
      simp
    · refine Ev.step (f := fun _ => some ([], false)) (fun k => ?_) (by rw [playD, if_neg c]; exact Ev.now _)
      simp only [spec_PlayDoublings.l0, rdD_app, spec_dbCan.is out _ _ ho, Option.bind_some]
      rw [if_pos (by omega), if_pos (by omega), if_pos (by simp; omega), if_neg c]
theorem spec_PlayDoublings.ev (ds : List S48) (l : List Int) (hl : l.length ≤ 1048576) (hd : ds.length ≤ 1048576) : Ev (fun k => spec_PlayDoublings.f k l ds) (playR ds l) := by
  refine Ev.bind (spec_dbGood.ev l hl) ?_
  unfold playR
  by_cases h : isFew l = true
  · simp only [h, if_true, true_and]
    by_cases c : (ds.length : Int) ≤ 100
    · refine Ev.step (f := fun k => spec_PlayDoublings.l0 k l ds (ds.length : Int) 0) (fun k => ?_) ?_
      · simp only [spec_PlayDoublings.j0]
        rw [if_neg (by simp; omega)]
        unfold spec_l1Own.f
        simp only [Option.bind_some, List.nil_append]
        rw [if_pos (by simp; omega)]
        rfl
      · rw [if_pos c]
        have := spec_PlayDoublings.l0ev ds.length (by omega) ds [] l (by simp) hl
        simpa using this
    · refine Ev.step (f := fun _ => some ([], false)) (fun k => ?_) (by rw [if_neg c]; exact Ev.now _)
      simp only [spec_PlayDoublings.j0]
      rw [if_pos (by simp; omega)]
  · simp only [h, false_and, if_false]
    refine Ev.congr (f := fun k => spec_PlayDoublings.j0 k l ds true) (fun k => by simp) ?_
    refine Ev.step (f := fun _ => some ([], false)) (fun k => ?_) (by simpa using Ev.now _)
    simp [spec_PlayDoublings.j0]
theorem Ev.ex {α : Type} {g : Nat → Option α} {r : α} (h : Ev g r) : ∃ k, g k = some r := by
  obtain ⟨K, h⟩ := h
  exact ⟨K, h K (Nat.le_refl _)⟩
theorem spec_PairStep.ev (a b : Int) : Ev (fun k => spec_PairStep.f k a b) (pafter a b 1) := by
  obtain ⟨g, hg⟩ := spec_dbPair.some_ a b
  unfold spec_PairStep.f pafter
  rw [hg]
  simp only [Option.bind_some]
  cases g with
  | false => simp; exact Ev.now _
  | true => simp only [if_pos]; exact Ev.bind (spec_dbStep.ev a b) (Ev.now _)
theorem impl_PairStep.ev (a b : Int) : Ev (fun k => impl_PairStep.f k a b) (pafter a b 1) := Ev.bind (impl_PairAfter.ev a b 1) (Ev.now _)
theorem pairs (a b s : Int) : ∃ x y ok lead per g emp need c d, dp.Pair a b s x y ok lead per g emp need c d := by
  obtain ⟨g, hg⟩ := spec_dbPair.some_ a b
  cases g with
  | false =>
    have hn : ∀ t, pafter a b t = (0, 0, false) := fun t => by
      unfold pafter
      rw [if_neg (by rw [hg]; simp)]
    have q1 := impl_PairAfter.ev a b s
    have q2 := spec_PairAfter.ev a b s
    have q3 := impl_PairStep.ev a b
    have q4 := spec_PairStep.ev a b
    rw [hn] at q1 q2 q3 q4
    refine ⟨0, 0, false, 0, 0, false, false, 0, 0, 0, (Ev.ex q1), (Ev.ex q2), ?_, ?_, ?_, ?_, ?_, ?_, ?_, ?_, (Ev.ex q3), (Ev.ex q4), ?_, ?_, ?_, ?_, ?_, ?_, ?_, ?_, ?_, ?_, ?_, ?_⟩
    · exact ⟨0, by unfold impl_PairLead.f; simp only [isPair_same, hg, Option.bind_some]; rfl⟩
    · exact ⟨0, by unfold spec_PairLead.f; simp only [hg, Option.bind_some]; rfl⟩
    · exact ⟨0, by unfold impl_PairPeriod.f; simp only [isPair_same, hg, Option.bind_some]; rfl⟩
    · exact ⟨0, by unfold spec_PairPeriod.f; simp only [hg, Option.bind_some]; rfl⟩
    · exact ⟨0, by unfold impl_DoesPairEmpty.f; simp only [isPair_same, hg, Option.bind_some]; rfl⟩
    · exact ⟨0, by unfold spec_DoesPairEmpty.f; simp only [hg, Option.bind_some]; rfl⟩
    · exact ⟨0, by unfold impl_PairStepsToEmpty.f; simp only [isPair_same, hg, Option.bind_some]; rfl⟩
    · exact ⟨0, by unfold spec_PairStepsToEmpty.f; simp only [hg, Option.bind_some]; rfl⟩
    all_goals intro h; cases h
  | true =>
    obtain ⟨lead, per, emp, need, h⟩ := pairlaw hg
    obtain ⟨n, n1, n2, hp⟩ := h.dom
    have hab := hp.2.2
    have ha0 := hp.1
    have hb0 := hp.2.1
    simp only at hab ha0 hb0
    have q1 := impl_PairAfter.ev a b s
    have q2 := spec_PairAfter.ev a b s
    have q3 := impl_PairStep.ev a b
    have q4 := spec_PairStep.ev a b
    have e1 := pafter_at n1 n2 hp 1 (by omega)
    have d1 := pit_dom n2 1 (a, b) hp
    rw [show ((1 : Nat) : Int) = 1 from rfl] at e1
    rw [e1] at q3 q4
    have hs : ∃ x y ok, pafter a b s = (x, y, ok) ∧ (ok = true → x + y = a + b ∧ 0 ≤ x ∧ 0 ≤ y) := by
      unfold pafter
      split
      · have ds := pit_dom n2 s.toNat (a, b) hp
        exact ⟨_, _, _, rfl, fun _ => ⟨by have := ds.2.2; omega, ds.1, ds.2.1⟩⟩
      · exact ⟨_, _, _, rfl, fun h => by cases h⟩
    obtain ⟨x, y, ok, es, hs⟩ := hs
    rw [es] at q1 q2
    refine ⟨x, y, ok, lead, per, true, emp, need, _, _, (Ev.ex q1), (Ev.ex q2), (Ev.ex h.pl.2), (Ev.ex h.pl.1), (Ev.ex h.pp.2), (Ev.ex h.pp.1), (Ev.ex h.pe.2), (Ev.ex h.pe.1), (Ev.ex h.pn.2), (Ev.ex h.pn.1), (Ev.ex q3), (Ev.ex q4), fun _ => rfl, fun _ => rfl, ?_, ?_, ?_, ?_, ?_, ?_, ?_, ?_, ?_, ?_⟩
    · intro ho
      obtain ⟨s1, s2, s3⟩ := hs ho
      exact ⟨by rw [s1], s2, s3⟩
    · intro _
      have := d1.2.2
      rw [show (pit 1 (a, b)).1 + (pit 1 (a, b)).2 = a + b by omega]
    · intro _
      have := h.le
      omega
    · intro _
      obtain ⟨p, q, h1, h2⟩ := h.again
      have i1 := impl_PairAfter.ev a b lead
      have i2 := impl_PairAfter.ev p q per
      rw [h1] at i1
      rw [h2] at i2
      exact ⟨p, q, (Ev.ex i1), (Ev.ex i2)⟩
    · intro _ hl
      obtain ⟨p, q, i, j, h1, h2, h3⟩ := h.first (by omega)
      have i1 := impl_PairAfter.ev a b ((lead : Int) - 1)
      have i2 := impl_PairAfter.ev p q per
      rw [h1] at i1
      rw [h2] at i2
      exact ⟨p, q, i, j, (Ev.ex i1), (Ev.ex i2), h3⟩
    · intro _
      omega
    · intro _ t o ho ho1
      rw [← h.odd t o ho ho1]
      exact Int.dvd_iff_tmod_eq_zero.symm
    · intro he
      obtain ⟨⟨p, q, h1, h2⟩, _⟩ := h.empt he
      have i1 := impl_PairAfter.ev a b need
      rw [h1] at i1
      exact ⟨p, q, (Ev.ex i1), h2⟩
    · intro he
      obtain ⟨_, h1, h2, _⟩ := h.empt he
      omega
    · intro he hn
      obtain ⟨_, _, _, h3⟩ := h.empt he
      obtain ⟨r, hr⟩ := h3 (by omega)
      have i1 := impl_PairAfter.ev a b ((need : Int) - 1)
      rw [hr] at i1
      exact ⟨r, (Ev.ex i1)⟩
theorem rSame.l0ev (l : List Int) (hl : l.length ≤ 1048576) (d : Nat) : ∀ i, i + d = l.length → Ev (fun k => laws_rSame.l0 k l l (l.length : Int) i) true := by
  induction d with
  | zero =>
    intro i hi
    refine Ev.step (f := fun _ => some true) (fun k => ?_) (Ev.now _)
    simp only [laws_rSame.l0]
    rw [if_neg (by omega)]
  | succ d ih =>
    intro i hi
    refine Ev.step (f := fun k => laws_rSame.l0 k l l (l.length : Int) ((i + 1 : Nat) : Int)) (fun k => ?_) (ih (i + 1) (by omega))
    simp only [laws_rSame.l0]
    rw [if_pos (by omega), if_pos (by omega), if_pos (by omega), if_pos (by omega), if_pos trivial, w64s i (by omega)]
theorem rSame.ev (l : List Int) (hl : l.length ≤ 1048576) : Ev (fun k => laws_rSame.f k l l) true := by
  unfold laws_rSame.f
  simp only [if_true]
  exact rSame.l0ev l hl l.length 0 (by omega)
theorem rDoublings.l0ev (l : List S48) (hl : l.length ≤ 1048576) (d : Nat) : ∀ i, i + d = l.length → Ev (fun k => laws_rDoublings.l0 k l l (l.length : Int) i) true := by
  induction d with
  | zero =>
    intro i hi
    refine Ev.step (f := fun _ => some true) (fun k => ?_) (Ev.now _)
    simp only [laws_rDoublings.l0]
    rw [if_neg (by omega)]
  | succ d ih =>
    intro i hi
    refine Ev.step (f := fun k => laws_rDoublings.l0 k l l (l.length : Int) ((i + 1 : Nat) : Int)) (fun k => ?_) (ih (i + 1) (by omega))
    simp only [laws_rDoublings.l0]
    rw [if_pos (by omega), if_pos (by omega), if_pos (by omega), if_pos (by omega), if_neg (by simp), w64s i (by omega)]
theorem rDoublings.ev (l : List S48) (hl : l.length ≤ 1048576) : Ev (fun k => laws_rDoublings.f k l l) true := by
  unfold laws_rDoublings.f
  simp only [if_true]
  exact rDoublings.l0ev l hl l.length 0 (by omega)
theorem impl_DoubleHeap.ev (l : List Int) (f t : Int) (hl : l.length ≤ 1048576) : Ev (fun k => impl_DoubleHeap.f k l f t) (playR [⟨f, t⟩] l) :=
  Ev.bind (impl_PlayDoublings.ev [⟨f, t⟩] l hl (by simp)) (Ev.now _)
theorem text_back (ds : List S48) (h : areD ds = true) (hl : ds.length ≤ 100) : ∃ k, impl_ParseDoublings.f k (mkB (textD ds)) = some (ds, true) := by
  have hlen := textD_len ds (areD_all h)
  obtain ⟨v, ⟨_, _, h3⟩, _, h5⟩ := parse_is (textD ds) (by omega)
  rw [h3 ds h rfl] at h5
  exact (Ev.ex h5)
theorem FnDoublingsPaired : laws_FnDoublingsPaired.Pure := by
  refine ⟨fun xs ys => ?_, ⟨fun l hl => ?_, fun l hl => ?_⟩, fun ds hd => ?_, pairs, fun l ds hl hd => ?_, fun ds hd => ?_, fun s hs => ?_⟩
  · unfold laws_big.f
    split <;> exact ⟨_, rfl⟩
  · obtain ⟨k, h⟩ := (Ev.ex (spec_dbGood.ev l (by omega)))
    refine ⟨k, _, h, fun h => ?_⟩
    simp [isFew] at h
    omega
  · obtain ⟨r, h1, h2, h3⟩ := spec_dbAll.tot l hl
    obtain ⟨k, h⟩ := (Ev.ex h3)
    refine ⟨k, r, h, h1, fun j h0 hj => ⟨_, spec_dbMake.is l _ _ (by omega) (h2 _ (rdT_mem h0 hj)), ?_⟩⟩
    rw [dMade_length]; exact hl
  · obtain ⟨k, h⟩ := (Ev.ex (spec_dbList.ev ds (by omega)))
    refine ⟨k, _, h, fun ha => ?_⟩
    have htx := spec_dbText.l0ev ds.length (by omega) ds [] [] (by simp) (areD_all ha) (by simp)
    simp only [if_true, List.nil_append, List.length_nil] at htx
    obtain ⟨k2, h2⟩ := Ev.ex htx
    refine ⟨k2, _, h2, ?_⟩
    have := textD_len ds (areD_all ha)
    rw [mkB_size]
    omega
  · obtain ⟨k1, h1⟩ := (Ev.ex (impl_PlayDoublings.ev ds l (by omega) (by omega)))
    obtain ⟨k2, h2⟩ := (Ev.ex (spec_PlayDoublings.ev ds l (by omega) (by omega)))
    have hlen := playR_len ds l (by omega)
    cases hv : playR ds l with
    | mk e ok =>
      rw [hv] at h1 h2 hlen
      refine ⟨e, ok, ⟨k1, h1⟩, ⟨k2, h2⟩, (Ev.ex (rSame.ev e hlen)), fun ho => ?_⟩
      subst ho
      obtain ⟨st, s0, s1, s2, s3⟩ := play_all ds l e hv
      refine ⟨st, s0, s1, fun i hi => ?_⟩
      have h4 := impl_DoubleHeap.ev (st i) ds[i].f0 ds[i].f1 (by have := s2 i (by omega); omega)
      have e1 : (⟨ds[i].f0, ds[i].f1⟩ : S48) = ds[i] := rfl
      rw [e1, s3 i hi] at h4
      have e2 : rd_T48 ds (i : Int) = ds[i] := by simp [rd_T48, List.getD_eq_getElem?_getD, List.getElem?_eq_getElem hi]
      rw [e2]
      exact (Ev.ex h4)
  · obtain ⟨k1, h1⟩ := (Ev.ex (impl_DoublingsText.ev ds (by omega)))
    obtain ⟨k2, h2⟩ := (Ev.ex (spec_DoublingsText.ev ds (by omega)))
    by_cases ha : areD ds = true
    · rw [if_pos ha] at h1 h2
      exact ⟨_, _, ⟨k1, h1⟩, ⟨k2, h2⟩, fun _ => text_back ds ha (by omega), (Ev.ex (rDoublings.ev ds (by omega)))⟩
    · rw [if_neg ha] at h1 h2
      exact ⟨_, _, ⟨k1, h1⟩, ⟨k2, h2⟩, fun h => (by cases h), (Ev.ex (rDoublings.ev ds (by omega)))⟩
  · obtain ⟨L, rfl⟩ : ∃ L, s = mkB L := ⟨s.data.toList, by simp [mkB]⟩
    rw [mkB_size] at hs
    obtain ⟨v, ⟨h1, h2, _⟩, h4, h5⟩ := parse_is L (by omega)
    obtain ⟨v, ok⟩ := v
    refine ⟨v, ok, (Ev.ex h5), (Ev.ex h4), (Ev.ex (rDoublings.ev v h1)), fun ho => ?_⟩
    obtain ⟨ha, ht⟩ := h2 ho
    obtain ⟨k, hk⟩ := (Ev.ex (impl_DoublingsText.ev v h1))
    rw [if_pos ha, ht] at hk
    exact ⟨k, hk⟩

end Go.Proofs.YtpmlpcdhkpcejaaGreatDoor.Pure
