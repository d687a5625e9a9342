-- Written by hprint.py (a program of this session's) over the kit's print.py. Lean checks it.
import Derived.Test.YtdhhphngabamoaaPFnExactPairStepsToEmptyx0
import Derived.Test.YtdhhphngabamoaaPFnExactPairStepsToEmptyx1
namespace Go.Proofs.Ytdhhphngabamoaa.PFnExactPairStepsToEmpty
open Go.RowKit Go.Proofs.YtdhhphngabamoaaW.PrintWords Go.Proofs.YtdhhphngabamoaaW.PrintLast Go.Proofs.YtdhhphngabamoaaW.PrintMore
attribute [local go_sem] max2_int min2_int max_two min_two max_three min_three max_four min_four   -- for this text's walks alone
set_option linter.unusedVariables false
set_option linter.unusedSimpArgs false

/-! ### impl_pairCycle: function 61, by hand -/
/-- What a list of pairs says of a number; the last pair first. -/
def pcGet : List (Int × Int) → Int → Option Int
  | [], _ => none
  | (a, s) :: m, x => if a = x then some s else pcGet m x
def impl_pairCycle.l0 : Nat → List (Int × Int) → Int → Int → Int → Option (Int × Int)
  | 0, _, _, _, _ => none
  | k + 1, m, a, b, s => if (Lit.int .i64 a).wf = true ∧ (Lit.int .i64 s).wf = true ∧ m.length < 1048576 then (match pcGet m a with | some f => some (f, wrap64 (s - f)) | none => (impl_pairStep.f k a b).bind fun t => impl_pairCycle.l0 k ((a, s) :: m) t.1 t.2 (wrap64 (s + 1))) else none
def impl_pairCycle.f (k : Nat) (a0 a1 : Int) : Option (Int × Int) := impl_pairCycle.l0 k [] a0 a1 0
theorem impl_pairCycle.mono_l : ∀ k m a b s, LeO (impl_pairCycle.l0 k m a b s) (impl_pairCycle.l0 (k + 1) m a b s)
  | 0, _, _, _, _ => fun r h => by simp [impl_pairCycle.l0] at h
  | k + 1, m, a, b, s => by
    rw [impl_pairCycle.l0, impl_pairCycle.l0]
    by_cases h : (Lit.int .i64 a).wf = true ∧ (Lit.int .i64 s).wf = true ∧ m.length < 1048576
    · rw [if_pos h, if_pos h]
      cases pcGet m a with
      | some f => exact LeO.refl _
      | none => exact LeO.bind (impl_pairStep.mono _ _ _) (fun _ => impl_pairCycle.mono_l k _ _ _ _)
    · rw [if_neg h]
      exact LeO.none _
theorem impl_pairCycle.mono : ∀ a0 a1 k, LeO (impl_pairCycle.f k a0 a1) (impl_pairCycle.f (k + 1) a0 a1) := fun _ _ k => impl_pairCycle.mono_l k _ _ _ _
/-- The map that the list tells of. -/
def pcD : List (Int × Int) → DataW Unit
  | [] => .map []
  | (a, s) :: m => (pcD m).put (.int .i64 a) (.lit (.int .i64 s))
theorem pcD_isMap : ∀ m, Go.Maps.IsMap (pcD m)
  | [] => Go.Maps.isMap_empty
  | (a, s) :: m => (pcD_isMap m).put _ _
theorem pcD_has : ∀ (m : List (Int × Int)) (x : Int), Go.Maps.has (pcD m) (.int .i64 x) = (pcGet m x).isSome
  | [], x => rfl
  | (a, s) :: m, x => by
    unfold pcD pcGet
    by_cases h : a = x
    · subst h
      rw [if_pos rfl, Go.Maps.has_put_same (pcD_isMap m) (by simp [WideAt.IsKeyLit])]
      rfl
    · rw [if_neg h, Go.Maps.has_put_other (by intro e; injection e with _ e; exact h e.symm)]
      exact pcD_has m x
theorem pcD_at : ∀ (m : List (Int × Int)) (x f c : Int), pcGet m x = some f → (pcD m).atKey (.int .i64 x) (.lit (.int .i64 0)) = .lit (.int .i64 c) → c = f
  | [], x, f, c, h, _ => by simp [pcGet] at h
  | (a, s) :: m, x, f, c, h, hat => by
    unfold pcD at hat
    unfold pcGet at h
    by_cases e : a = x
    · subst e
      rw [if_pos rfl] at h
      rw [Go.Maps.atKey_put_same (pcD_isMap m) (by simp [WideAt.IsKeyLit])] at hat
      injection hat with hat
      injection hat with _ hat
      rw [← hat]
      exact Option.some.inj h
    · rw [if_neg e] at h
      rw [Go.Maps.atKey_put_other (by intro e'; injection e' with _ e'; exact e e'.symm)] at hat
      exact pcD_at m x f c h hat
theorem impl_pairCycle.law : Go.Maps.Keyed Try.prog 3 := Go.Maps.int_keyed Try.underlying3
theorem impl_pairCycle.zero (w : World) : (zeroValue 3).run Try.prog w = .ok (.int .i64 0) w := by kernel_rfl
set_option maxHeartbeats 8000000 in
set_option maxRecDepth 100000 in
theorem impl_pairCycle.calls (k : Nat) (a0 : Int) (a1 : Int) (r1 : Int) (r2 : Int) (w : World) (h : impl_pairCycle.f k a0 a1 = some (r1, r2)) :
    Calls Try.prog 61 #[.int .i64 a0, .int .i64 a1] w fun e w' => e = .returned (.tuple #[.int .i64 r1, .int .i64 r2]) ∧ Below w.heap.size w w' := by
  have HC := Aside0.mk h
  clear h
  have hmm := @run_makeMap Try.prog
  go_enter Try.func61, Try.ntmps61
  go_wp2
  go_loopg [0, 1, 7] k (fun kq v0 v1 v7 wr => ∃ (m : List (Int × Int)) (a b s : Int), v0 = .int .i64 a ∧ v1 = .int .i64 b ∧ v7 = .int .i64 s ∧ Aside0 (impl_pairCycle.l0 kq m a b s = some (r1, r2)) ∧ Aside0 (kq ≤ k) ∧ Aside0 (wr.ownsMap Try.prog 3 (plainElem (H := Unit) Try.prog 3) w.heap.size m.length (pcD m)) ∧ Aside0 (Below w.heap.size w wr))
  case atStart => exact ⟨[], a0, a1, 0, rfl, rfl, rfl, HC, ⟨Nat.le_refl _⟩, ⟨World.ownsMap_made _ _ _ _⟩, ⟨(Below.refl _ _).alloc (Nat.le_refl _) _⟩⟩
  case round =>
    clear HC hmm
    obtain ⟨m, a, b, s, rfl, rfl, rfl, HA, HK1, HO, HB⟩ := hrel
    cases gk with
    | zero => exact absurd HA.out (by simp [impl_pairCycle.l0])
    | succ k1 =>
      have H := HA.out
      clear HA
      simp only [impl_pairCycle.l0] at H
      by_cases hc : (Lit.int .i64 a).wf = true ∧ (Lit.int .i64 s).wf = true ∧ m.length < 1048576
      case neg => rw [if_neg hc] at H; cases H
      rw [if_pos hc] at H
      have hkey := Aside0.mk (Go.Maps.keyOf_int_mk Try.underlying3 hc.1)
      have hwf := Aside0.mk hc.2.1
      have hlen := Aside0.mk hc.2.2
      clear hc
      cases hg : pcGet m a with
      | some f =>
        rw [hg] at H
        obtain ⟨rfl, rfl⟩ : f = r1 ∧ wrap64 (s - f) = r2 := by simpa using H
        clear H
        have HG := Aside0.mk hg
        clear hg
        have HH := Aside0.mk (show Go.Maps.has (pcD m) (.int .i64 a) = true by rw [pcD_has, HG.out]; rfl)
        go_wp2_with (first
          | (at_lookup; refine wpList_lookup_own_ok_int _ rfl _ _ 88 rfl 3 3 .i64 impl_pairCycle.law Try.underlying88 Try.underlying3 (impl_pairCycle.zero _) w.heap.size m.length _ rfl HO.out _ _ rfl hkey.out ?_; intro c hat hwc; obtain rfl := pcD_at m a f c HG.out hat; rw [HH.out]; clear hat hwc))
        go_ret2
        exact ⟨rfl, HB.out⟩
      | none =>
        rw [hg] at H
        obtain ⟨t, ht, H⟩ := Option.bind_eq_some_iff.mp H
        obtain ⟨t1, t2⟩ := t
        have HS := Aside0.mk ht
        have HN := Aside0.mk H
        clear H ht
        have HH := Aside0.mk (show Go.Maps.has (pcD m) (.int .i64 a) = false by rw [pcD_has, hg]; rfl)
        clear hg
        go_wp2_with (first
          | (at_lookup; refine wpList_lookup_own_ok_int _ rfl _ _ 88 rfl 3 3 .i64 impl_pairCycle.law Try.underlying88 Try.underlying3 (impl_pairCycle.zero _) w.heap.size m.length _ rfl HO.out _ _ rfl hkey.out ?_; intro c hat hwc; rw [HH.out]; clear hat hwc)
          | (at_mapUpdate; refine wpList_mapUpdate_own _ rfl _ _ _ 88 rfl 3 3 impl_pairCycle.law Try.underlying88 _ w.heap.size m.length _ rfl HO.out (by have := hlen.out; unfold maxLen; omega) _ _ _ rfl rfl hkey.out _ [] (plainElem_int Try.underlying3 hwf.out) ?_; intro w1 hown1 hgrow1; have HO1 := Aside0.mk hown1; have HB1 := Aside0.mk (HB.out.grown hgrow1 HB.out.size (fun j hj => by cases hj; exact Nat.le_refl _)); clear hown1 hgrow1)
          | (go_at_call 107; (with_reducible refine (impl_pairStep.calls k1 a b t1 t2 _ HS.out).mono ?_); rintro e w' ⟨rfl, ⟨nd, rfl⟩⟩))
        go_roundg k1
        case measure => have := HK1.out; omega
        case rel => exact ⟨(a, s) :: m, t1, t2, wrap64 (s + 1), rfl, rfl, rfl, HN, ⟨by have := HK1.out; omega⟩, ⟨HO1.out⟩, ⟨pw_below_drewN HB1.out _⟩⟩

/-! ### impl_stepsToEmpty: function 63 -/
def impl_stepsToEmpty.l0 : Nat → Int → Int → Int → Int → Option (Int)
  | 0, _, _, _, _ => none
  | k + 1, x0, x1, x16, x17 => if x17 < x16 then (if x0 = 0 then (some x17) else (if x1 = 0 then (some x17) else ((impl_pairStep.f k x0 x1).bind fun bt126 => (impl_stepsToEmpty.l0 k bt126.1 bt126.2 x16 (wrap64 (x17 + 1)))))) else (some (-1))
def impl_stepsToEmpty.f (k : Nat) (a0 : Int) (a1 : Int) : Option (Int) := (impl_pairCycle.f k a0 a1).bind fun bt124 => (impl_stepsToEmpty.l0 k a0 a1 (wrap64 (bt124.1 + bt124.2)) 0)
theorem impl_stepsToEmpty.mono_l : ∀ k, (∀ y0 y1 y2 y3, LeO (impl_stepsToEmpty.l0 k y0 y1 y2 y3) (impl_stepsToEmpty.l0 (k + 1) y0 y1 y2 y3))
  | 0 => fun _ _ _ _ r h => by simp [impl_stepsToEmpty.l0] at h
  | k + 1 => by
    have ih0 := impl_stepsToEmpty.mono_l k
    · intro y0 y1 y2 y3
      unfold impl_stepsToEmpty.l0
      repeat' first
      | (with_reducible exact ih0 _ _ _ _)
      | (with_reducible exact impl_pairCycle.mono _ _ _)
      | (with_reducible exact impl_pairStep.mono _ _ _)
      | (with_reducible exact LeO.refl _)
      | (with_reducible exact LeO.none _)
      | (with_reducible refine LeO.ite ?_ ?_)
      | (with_reducible refine LeO.bind ?_ (fun _ => ?_))
      | exact ih0 _ _ _ _
      | exact impl_pairCycle.mono _ _ _
      | exact impl_pairStep.mono _ _ _
      | exact LeO.none _
      | refine LeO.ite ?_ ?_
      | refine LeO.bind ?_ (fun _ => ?_)
theorem impl_stepsToEmpty.mono : ∀ a0 a1 k, LeO (impl_stepsToEmpty.f k a0 a1) (impl_stepsToEmpty.f (k + 1) a0 a1) := by
  intro a0 a1 k
  have ih0 := impl_stepsToEmpty.mono_l k
  unfold impl_stepsToEmpty.f
  repeat' first
      | (with_reducible exact ih0 _ _ _ _)
      | (with_reducible exact impl_pairCycle.mono _ _ _)
      | (with_reducible exact impl_pairStep.mono _ _ _)
      | (with_reducible exact LeO.refl _)
      | (with_reducible exact LeO.none _)
      | (with_reducible refine LeO.ite ?_ ?_)
      | (with_reducible refine LeO.bind ?_ (fun _ => ?_))
      | exact ih0 _ _ _ _
      | exact impl_pairCycle.mono _ _ _
      | exact impl_pairStep.mono _ _ _
      | exact LeO.none _
      | refine LeO.ite ?_ ?_
      | refine LeO.bind ?_ (fun _ => ?_)
set_option maxHeartbeats 8000000 in
set_option maxRecDepth 100000 in
theorem impl_stepsToEmpty.calls (k : Nat) (a0 : Int) (a1 : Int) (r : Int) (w : World) (h : impl_stepsToEmpty.f k a0 a1 = some r) :
    Calls Try.prog 63 #[.int .i64 a0, .int .i64 a1] w fun e w' => e = .returned (.int .i64 r) ∧ Below w.heap.size w w' := by
  have HB := Aside0.mk (Below.refl w.heap.size w)
  have H : ((impl_pairCycle.f k a0 a1).bind fun bt124 => (impl_stepsToEmpty.l0 k a0 a1 (wrap64 (bt124.1 + bt124.2)) 0)) = some r := h
  clear h
  replace H := Option.bind_eq_some_iff.mp H
  obtain ⟨⟨t124, t125⟩, A30, H⟩ := H
  replace H : (impl_stepsToEmpty.l0 k a0 a1 (wrap64 (t124 + t125)) 0) = some r := H
  have A3 := Aside0.mk A30
  clear A30
  have H' := Aside0.mk H
  clear H
  go_enter Try.func63, Try.ntmps63
  go_wp2_with (first | ((with_reducible refine gate_callee (f := 61) rfl ?_); refine goesL_ (some 11) rfl rfl Try.func61 (by kernel_rfl) rfl #[.int .i64 a0, .int .i64 a1] rfl (by (try simp only [List.map_toArray, List.map_cons, List.map_nil]); first | done | rfl | (simp only [List.length_drop, List.length_take]; rfl)) ?_; (with_reducible refine (impl_pairCycle.calls k a0 a1 t124 t125 _ A3.out).mono ?_); rintro e w4 ⟨rfl, hb⟩; refine ⟨_, rfl, ?_⟩; have n0_ := Aside0.mk (below_step (by repeat (first | (with_reducible first | exact HB.out | apply below_alloc | apply pw_below_drewN | apply below_drew1) | exact HB.out)) hb); clear HB; have HB := n0_; clear n0_; (try clear hb); (try clear hb2); (try clear hk); (try clear hi)))
  go_loopg [0, 1, 17] k (fun kq v0 v1 v17 w' => ∃ (x0_1 : Int) (x1_1 : Int) (x17_1 : Int), v0 = .int .i64 x0_1 ∧ v1 = .int .i64 x1_1 ∧ v17 = .int .i64 x17_1 ∧ Aside0 (impl_stepsToEmpty.l0 kq x0_1 x1_1 (wrap64 (t124 + t125)) x17_1 = some r) ∧ Aside0 (kq ≤ k) ∧ Aside0 (Below w.heap.size w w'))
  case atStart => exact ⟨(a0), (a1), (0), (by first | rfl | (simp; done) | (simp [*]; done)), (by first | rfl | (simp; done) | (simp [*]; done)), (by first | rfl | (simp; done) | (simp [*]; done)), H', ⟨Nat.le_refl _⟩, ⟨by repeat (first | (with_reducible first | exact HB.out | apply below_alloc | apply pw_below_drewN | apply below_drew1) | exact HB.out)⟩⟩
  case round =>
    clear H'
    try clear p2
    obtain ⟨x0_1, x1_1, x17_1, rfl, rfl, rfl, HA, HK1, HB⟩ := hrel
    cases gk with
    | zero => exact absurd HA.out (by simp [impl_stepsToEmpty.l0])
    | succ k1 =>
      have H := HA.out
      clear HA
      simp only [impl_stepsToEmpty.l0] at H
      by_cases c5 : x17_1 < (wrap64 (t124 + t125))
      · rw [if_pos c5] at H
        have c5b0 : decide (x17_1 < (wrap64 (t124 + t125))) = true := decide_eq_true c5
        clear c5
        by_cases c6 : x0_1 = 0
        · rw [if_pos c6] at H
          have c6b0 : (x0_1 == 0) = true := beq_iff_eq.mpr c6
          have c6b1 : (x0_1 != 0) = false := bne_eq_false_iff_eq.mpr c6
          clear c6
          obtain rfl := Option.some.inj H
          go_wp2
          go_ret
          exact ⟨by first | rfl | (simp [errW_none, errW_some] <;> rfl) | (simp [*, errW_none, errW_some] <;> rfl), by repeat (first | (with_reducible first | exact HB.out | apply below_alloc | apply pw_below_drewN | apply below_drew1) | exact HB.out)⟩
        · rw [if_neg c6] at H
          have c6b0 : (x0_1 == 0) = false := beq_eq_false_iff_ne.mpr c6
          have c6b1 : (x0_1 != 0) = true := bne_iff_ne.mpr c6
          by_cases c7 : x1_1 = 0
          · rw [if_pos c7] at H
            have c7b0 : (x1_1 == 0) = true := beq_iff_eq.mpr c7
            have c7b1 : (x1_1 != 0) = false := bne_eq_false_iff_eq.mpr c7
            clear c7
            obtain rfl := Option.some.inj H
            go_wp2
            go_ret
            exact ⟨by first | rfl | (simp [errW_none, errW_some] <;> rfl) | (simp [*, errW_none, errW_some] <;> rfl), by repeat (first | (with_reducible first | exact HB.out | apply below_alloc | apply pw_below_drewN | apply below_drew1) | exact HB.out)⟩
          · rw [if_neg c7] at H
            have c7b0 : (x1_1 == 0) = false := beq_eq_false_iff_ne.mpr c7
            have c7b1 : (x1_1 != 0) = true := bne_iff_ne.mpr c7
            replace H := Option.bind_eq_some_iff.mp H
            obtain ⟨⟨t126, t127⟩, A80, H⟩ := H
            replace H : (impl_stepsToEmpty.l0 k1 t126 t127 (wrap64 (t124 + t125)) (wrap64 (x17_1 + 1))) = some r := H
            have A8 := Aside0.mk A80
            clear A80
            have H' := Aside0.mk H
            clear H
            go_wp2_with (first | ((with_reducible refine gate_callee (f := 107) rfl ?_); refine goesL_ (some 30) rfl rfl Try.func107 (by kernel_rfl) rfl #[.int .i64 x0_1, .int .i64 x1_1] rfl (by (try simp only [List.map_toArray, List.map_cons, List.map_nil]); first | done | rfl | (simp only [List.length_drop, List.length_take]; rfl)) ?_; (with_reducible refine (impl_pairStep.calls k1 x0_1 x1_1 t126 t127 _ A8.out).mono ?_); rintro e w' ⟨rfl, ⟨nd, rfl⟩⟩; refine ⟨_, rfl, ?_⟩))
            go_roundg k1
            case measure => have := HK1.out; omega
            case rel => exact ⟨(t126), (t127), (wrap64 (x17_1 + 1)), (by first | rfl | (simp; done) | (simp [*]; done)), (by first | rfl | (simp; done) | (simp [*]; done)), (by first | rfl | (simp; done) | (simp [*]; done)), H', ⟨by have := HK1.out; omega⟩, ⟨by repeat (first | (with_reducible first | exact HB.out | apply below_alloc | apply pw_below_drewN | apply below_drew1) | exact HB.out)⟩⟩
      · rw [if_neg c5] at H
        have c5b0 : decide (x17_1 < (wrap64 (t124 + t125))) = false := decide_eq_false c5
        clear c5
        obtain rfl := Option.some.inj H
        go_wp2
        go_ret
        exact ⟨by first | rfl | (simp [errW_none, errW_some] <;> rfl) | (simp [*, errW_none, errW_some] <;> rfl), by repeat (first | (with_reducible first | exact HB.out | apply below_alloc | apply pw_below_drewN | apply below_drew1) | exact HB.out)⟩

/-! ### impl_PairStepsToEmpty: function 22 -/
def impl_PairStepsToEmpty.f (k : Nat) (a0 : Int) (a1 : Int) : Option (Int × Bool) := (impl_isPair.f a0 a1).bind fun t128 => (if t128 = true then ((impl_stepsToEmpty.f k a0 a1).bind fun t129 => (some (mx 0 t129, decide (t129 ≥ 0)))) else (some (0, false)))
theorem impl_PairStepsToEmpty.mono : ∀ a0 a1 k, LeO (impl_PairStepsToEmpty.f k a0 a1) (impl_PairStepsToEmpty.f (k + 1) a0 a1) := by
  intro a0 a1 k
  unfold impl_PairStepsToEmpty.f
  repeat' first
      | (with_reducible exact impl_stepsToEmpty.mono _ _ _)
      | (with_reducible exact LeO.refl _)
      | (with_reducible exact LeO.none _)
      | (with_reducible refine LeO.ite ?_ ?_)
      | (with_reducible refine LeO.bind ?_ (fun _ => ?_))
      | exact impl_stepsToEmpty.mono _ _ _
      | exact LeO.none _
      | refine LeO.ite ?_ ?_
      | refine LeO.bind ?_ (fun _ => ?_)
set_option maxHeartbeats 8000000 in
set_option maxRecDepth 100000 in
theorem impl_PairStepsToEmpty.calls (k : Nat) (a0 : Int) (a1 : Int) (r1 : Int) (r2 : Bool) (w : World) (h : impl_PairStepsToEmpty.f k a0 a1 = some (r1, r2)) :
    Calls Try.prog 22 #[.int .i64 a0, .int .i64 a1] w fun e w' => e = .returned (.tuple #[.int .i64 r1, .bool r2]) ∧ Below w.heap.size w w' := by
  have HB := Aside0.mk (Below.refl w.heap.size w)
  have H : ((impl_isPair.f a0 a1).bind fun t128 => (if t128 = true then ((impl_stepsToEmpty.f k a0 a1).bind fun t129 => (some (mx 0 t129, decide (t129 ≥ 0)))) else (some (0, false)))) = some (r1, r2) := h
  clear h
  replace H := Option.bind_eq_some_iff.mp H
  obtain ⟨t128, A30, H⟩ := H
  replace H : (if t128 = true then ((impl_stepsToEmpty.f k a0 a1).bind fun t129 => (some (mx 0 t129, decide (t129 ≥ 0)))) else (some (0, false))) = some (r1, r2) := H
  have A3 := Aside0.mk A30
  clear A30
  by_cases c4 : t128 = true
  · subst c4
    have H1 : ((impl_stepsToEmpty.f k a0 a1).bind fun t129 => (some (mx 0 t129, decide (t129 ≥ 0)))) = some (r1, r2) := by rw [if_pos rfl] at H; exact H
    clear H
    have H := H1
    clear H1
    replace H := Option.bind_eq_some_iff.mp H
    obtain ⟨t129, A50, H⟩ := H
    replace H : (some (mx 0 t129, decide (t129 ≥ 0))) = some (r1, r2) := H
    have A5 := Aside0.mk A50
    clear A50
    obtain ⟨ji6, hji6⟩ : ∃ j_ : Int, (mx 0 t129) = j_ := ⟨_, rfl⟩
    replace H : (some (ji6, decide (t129 ≥ 0))) = some (r1, r2) := by first | (rw [hji6] at H; exact H) | (simp only [hji6] at H ⊢; exact H)
    (try rw [hji6] at A3)
    (try rw [hji6] at A5)
    (try (have hji6l : 0 ≤ ji6 := by (rw [← hji6]; unfold mx; (repeat' split) <;> omega)))
    (try (have hji6m : 0 ≤ ji6 := by omega))
    have hji6_ : (if 0 < t129 then t129 else 0) = ji6 := hji6
    simp only [Option.some.injEq, Prod.mk.injEq] at H
    obtain ⟨rfl, rfl⟩ := H
    go_enter Try.func22, Try.ntmps22
    go_wp2_with (first | ((with_reducible refine gate_callee (f := 60) rfl ?_); refine goesL_ (some 9) rfl rfl Try.func60 (by kernel_rfl) rfl #[.int .i64 a0, .int .i64 a1] rfl (by (try simp only [List.map_toArray, List.map_cons, List.map_nil]); first | done | rfl | (simp only [List.length_drop, List.length_take]; rfl)) ?_; (with_reducible refine (impl_isPair.calls a0 a1 true _ A3.out).mono ?_); rintro e w' ⟨rfl, ⟨nd, rfl⟩⟩; refine ⟨_, rfl, ?_⟩) | ((with_reducible refine gate_callee (f := 63) rfl ?_); refine goesL_ (some 13) rfl rfl Try.func63 (by kernel_rfl) rfl #[.int .i64 a0, .int .i64 a1] rfl (by (try simp only [List.map_toArray, List.map_cons, List.map_nil]); first | done | rfl | (simp only [List.length_drop, List.length_take]; rfl)) ?_; (with_reducible refine (impl_stepsToEmpty.calls k a0 a1 t129 _ A5.out).mono ?_); rintro e w7 ⟨rfl, hb⟩; refine ⟨_, rfl, ?_⟩; have n0_ := Aside0.mk (below_step (by repeat (first | (with_reducible first | exact HB.out | apply below_alloc | apply pw_below_drewN | apply below_drew1) | exact HB.out)) hb); clear HB; have HB := n0_; clear n0_; (try clear hb); (try clear hb2); (try clear hk); (try clear hi)))
    go_ret2
    exact ⟨by first | rfl | (simp [errW_none, errW_some] <;> rfl) | (simp only [← hji6]; first | rfl | (simp [errW_none, errW_some] <;> rfl)) | (simp [*, errW_none, errW_some] <;> rfl), by repeat (first | (with_reducible first | exact HB.out | apply below_alloc | apply pw_below_drewN | apply below_drew1) | exact HB.out)⟩
  · replace c4 := Bool.eq_false_iff.mpr c4
    subst c4
    have H1 : (some (0, false)) = some (r1, r2) := by rw [if_neg (show ¬ (false = true) by decide)] at H; exact H
    clear H
    have H := H1
    clear H1
    simp only [Option.some.injEq, Prod.mk.injEq] at H
    obtain ⟨rfl, rfl⟩ := H
    go_enter Try.func22, Try.ntmps22
    go_wp2_with (first | ((with_reducible refine gate_callee (f := 60) rfl ?_); refine goesL_ (some 9) rfl rfl Try.func60 (by kernel_rfl) rfl #[.int .i64 a0, .int .i64 a1] rfl (by (try simp only [List.map_toArray, List.map_cons, List.map_nil]); first | done | rfl | (simp only [List.length_drop, List.length_take]; rfl)) ?_; (with_reducible refine (impl_isPair.calls a0 a1 false _ A3.out).mono ?_); rintro e w' ⟨rfl, ⟨nd, rfl⟩⟩; refine ⟨_, rfl, ?_⟩))
    go_ret2
    exact ⟨by first | rfl | (simp [errW_none, errW_some] <;> rfl) | (simp [*, errW_none, errW_some] <;> rfl), by repeat (first | (with_reducible first | exact HB.out | apply below_alloc | apply pw_below_drewN | apply below_drew1) | exact HB.out)⟩

/-! ### laws_FnExactPairStepsToEmpty: function 6 -/
def laws_FnExactPairStepsToEmpty.f (k : Nat) (a0 : Int) (a1 : Int) : Option (Bool) := (spec_PairStepsToEmpty.f k a0 a1).bind fun bt130 => ((impl_PairStepsToEmpty.f k a0 a1).bind fun bt132 => (if bt132.1 = bt130.1 then (if (bt132.2 != bt130.2) = true then (some false) else (some true)) else (some false)))
theorem laws_FnExactPairStepsToEmpty.mono : ∀ a0 a1 k, LeO (laws_FnExactPairStepsToEmpty.f k a0 a1) (laws_FnExactPairStepsToEmpty.f (k + 1) a0 a1) := by
  intro a0 a1 k
  unfold laws_FnExactPairStepsToEmpty.f
  repeat' first
      | (with_reducible exact impl_PairStepsToEmpty.mono _ _ _)
      | (with_reducible exact spec_PairStepsToEmpty.mono _ _ _)
      | (with_reducible exact LeO.refl _)
      | (with_reducible exact LeO.none _)
      | (with_reducible refine LeO.ite ?_ ?_)
      | (with_reducible refine LeO.bind ?_ (fun _ => ?_))
      | exact impl_PairStepsToEmpty.mono _ _ _
      | exact spec_PairStepsToEmpty.mono _ _ _
      | exact LeO.none _
      | refine LeO.ite ?_ ?_
      | refine LeO.bind ?_ (fun _ => ?_)
set_option maxHeartbeats 8000000 in
set_option maxRecDepth 100000 in
theorem laws_FnExactPairStepsToEmpty.calls (k : Nat) (a0 : Int) (a1 : Int) (r : Bool) (w : World) (h : laws_FnExactPairStepsToEmpty.f k a0 a1 = some r) :
    Calls Try.prog 6 #[.int .i64 a0, .int .i64 a1] w fun e w' => e = .returned (.bool r) ∧ Below w.heap.size w w' := by
  have HB := Aside0.mk (Below.refl w.heap.size w)
  have H : ((spec_PairStepsToEmpty.f k a0 a1).bind fun bt130 => ((impl_PairStepsToEmpty.f k a0 a1).bind fun bt132 => (if bt132.1 = bt130.1 then (if (bt132.2 != bt130.2) = true then (some false) else (some true)) else (some false)))) = some r := h
  clear h
  replace H := Option.bind_eq_some_iff.mp H
  obtain ⟨⟨t130, t131⟩, A30, H⟩ := H
  replace H : ((impl_PairStepsToEmpty.f k a0 a1).bind fun bt132 => (if bt132.1 = t130 then (if (bt132.2 != t131) = true then (some false) else (some true)) else (some false))) = some r := H
  have A3 := Aside0.mk A30
  clear A30
  replace H := Option.bind_eq_some_iff.mp H
  obtain ⟨⟨t132, t133⟩, A40, H⟩ := H
  replace H : (if t132 = t130 then (if (t133 != t131) = true then (some false) else (some true)) else (some false)) = some r := H
  have A4 := Aside0.mk A40
  clear A40
  by_cases c5 : t132 = t130
  · rw [if_pos c5] at H
    have c5b0 : (t132 == t130) = true := beq_iff_eq.mpr c5
    have c5b1 : (t132 != t130) = false := bne_eq_false_iff_eq.mpr c5
    clear c5
    by_cases c6 : (t133 != t131) = true
    · rw [if_pos c6] at H
      have c6b0 : (t133 != t131) = true := c6
      (try (have c6b1 : decide (t133 = t131) = false := by simpa using c6))
      (try (have c6b2 : (t133 == t131) = false := by simpa using c6))
      (try (have c6b3 : ¬ (t133 = t131) := by simpa using c6))
      clear c6
      obtain rfl := Option.some.inj H
      go_enter Try.func6, Try.ntmps6
      go_wp2_with (first | ((with_reducible refine gate_callee (f := 21) rfl ?_); refine goesL_ (some 12) rfl rfl Try.func21 (by kernel_rfl) rfl #[.int .i64 a0, .int .i64 a1] rfl (by (try simp only [List.map_toArray, List.map_cons, List.map_nil]); first | done | rfl | (simp only [List.length_drop, List.length_take]; rfl)) ?_; (with_reducible refine (spec_PairStepsToEmpty.calls k a0 a1 t130 t131 _ A3.out).mono ?_); rintro e w7 ⟨rfl, hb⟩; refine ⟨_, rfl, ?_⟩; have n0_ := Aside0.mk (below_step (by repeat (first | (with_reducible first | exact HB.out | apply below_alloc | apply pw_below_drewN | apply below_drew1) | exact HB.out)) hb); clear HB; have HB := n0_; clear n0_; (try clear hb); (try clear hb2); (try clear hk); (try clear hi)) | ((with_reducible refine gate_callee (f := 22) rfl ?_); refine goesL_ (some 18) rfl rfl Try.func22 (by kernel_rfl) rfl #[.int .i64 a0, .int .i64 a1] rfl (by (try simp only [List.map_toArray, List.map_cons, List.map_nil]); first | done | rfl | (simp only [List.length_drop, List.length_take]; rfl)) ?_; (with_reducible refine (impl_PairStepsToEmpty.calls k a0 a1 t132 t133 _ A4.out).mono ?_); rintro e w8 ⟨rfl, hb⟩; refine ⟨_, rfl, ?_⟩; have n0_ := Aside0.mk (below_step (by repeat (first | (with_reducible first | exact HB.out | apply below_alloc | apply pw_below_drewN | apply below_drew1) | exact HB.out)) hb); clear HB; have HB := n0_; clear n0_; (try clear hb); (try clear hb2); (try clear hk); (try clear hi)))
      go_ret
      exact ⟨by first | rfl | (simp [errW_none, errW_some] <;> rfl) | (simp [*, errW_none, errW_some] <;> rfl), by repeat (first | (with_reducible first | exact HB.out | apply below_alloc | apply pw_below_drewN | apply below_drew1) | exact HB.out)⟩
    · rw [if_neg c6] at H
      have c6b0 : (t133 != t131) = false := by simpa using c6
      (try (have c6b1 : decide (t133 = t131) = true := by simpa using c6))
      (try (have c6b2 : (t133 == t131) = true := by simpa using c6))
      clear c6
      obtain rfl := Option.some.inj H
      go_enter Try.func6, Try.ntmps6
      go_wp2_with (first | ((with_reducible refine gate_callee (f := 21) rfl ?_); refine goesL_ (some 12) rfl rfl Try.func21 (by kernel_rfl) rfl #[.int .i64 a0, .int .i64 a1] rfl (by (try simp only [List.map_toArray, List.map_cons, List.map_nil]); first | done | rfl | (simp only [List.length_drop, List.length_take]; rfl)) ?_; (with_reducible refine (spec_PairStepsToEmpty.calls k a0 a1 t130 t131 _ A3.out).mono ?_); rintro e w9 ⟨rfl, hb⟩; refine ⟨_, rfl, ?_⟩; have n0_ := Aside0.mk (below_step (by repeat (first | (with_reducible first | exact HB.out | apply below_alloc | apply pw_below_drewN | apply below_drew1) | exact HB.out)) hb); clear HB; have HB := n0_; clear n0_; (try clear hb); (try clear hb2); (try clear hk); (try clear hi)) | ((with_reducible refine gate_callee (f := 22) rfl ?_); refine goesL_ (some 18) rfl rfl Try.func22 (by kernel_rfl) rfl #[.int .i64 a0, .int .i64 a1] rfl (by (try simp only [List.map_toArray, List.map_cons, List.map_nil]); first | done | rfl | (simp only [List.length_drop, List.length_take]; rfl)) ?_; (with_reducible refine (impl_PairStepsToEmpty.calls k a0 a1 t132 t133 _ A4.out).mono ?_); rintro e w10 ⟨rfl, hb⟩; refine ⟨_, rfl, ?_⟩; have n0_ := Aside0.mk (below_step (by repeat (first | (with_reducible first | exact HB.out | apply below_alloc | apply pw_below_drewN | apply below_drew1) | exact HB.out)) hb); clear HB; have HB := n0_; clear n0_; (try clear hb); (try clear hb2); (try clear hk); (try clear hi)))
      go_ret
      exact ⟨by first | rfl | (simp [errW_none, errW_some] <;> rfl) | (simp [*, errW_none, errW_some] <;> rfl), by repeat (first | (with_reducible first | exact HB.out | apply below_alloc | apply pw_below_drewN | apply below_drew1) | exact HB.out)⟩
  · rw [if_neg c5] at H
    have c5b0 : (t132 == t130) = false := beq_eq_false_iff_ne.mpr c5
    have c5b1 : (t132 != t130) = true := bne_iff_ne.mpr c5
    obtain rfl := Option.some.inj H
    go_enter Try.func6, Try.ntmps6
    go_wp2_with (first | ((with_reducible refine gate_callee (f := 21) rfl ?_); refine goesL_ (some 12) rfl rfl Try.func21 (by kernel_rfl) rfl #[.int .i64 a0, .int .i64 a1] rfl (by (try simp only [List.map_toArray, List.map_cons, List.map_nil]); first | done | rfl | (simp only [List.length_drop, List.length_take]; rfl)) ?_; (with_reducible refine (spec_PairStepsToEmpty.calls k a0 a1 t130 t131 _ A3.out).mono ?_); rintro e w11 ⟨rfl, hb⟩; refine ⟨_, rfl, ?_⟩; have n0_ := Aside0.mk (below_step (by repeat (first | (with_reducible first | exact HB.out | apply below_alloc | apply pw_below_drewN | apply below_drew1) | exact HB.out)) hb); clear HB; have HB := n0_; clear n0_; (try clear hb); (try clear hb2); (try clear hk); (try clear hi)) | ((with_reducible refine gate_callee (f := 22) rfl ?_); refine goesL_ (some 18) rfl rfl Try.func22 (by kernel_rfl) rfl #[.int .i64 a0, .int .i64 a1] rfl (by (try simp only [List.map_toArray, List.map_cons, List.map_nil]); first | done | rfl | (simp only [List.length_drop, List.length_take]; rfl)) ?_; (with_reducible refine (impl_PairStepsToEmpty.calls k a0 a1 t132 t133 _ A4.out).mono ?_); rintro e w12 ⟨rfl, hb⟩; refine ⟨_, rfl, ?_⟩; have n0_ := Aside0.mk (below_step (by repeat (first | (with_reducible first | exact HB.out | apply below_alloc | apply pw_below_drewN | apply below_drew1) | exact HB.out)) hb); clear HB; have HB := n0_; clear n0_; (try clear hb); (try clear hb2); (try clear hk); (try clear hi)))
    go_ret
    exact ⟨by first | rfl | (simp [errW_none, errW_some] <;> rfl) | (simp [*, errW_none, errW_some] <;> rfl), by repeat (first | (with_reducible first | exact HB.out | apply below_alloc | apply pw_below_drewN | apply below_drew1) | exact HB.out)⟩

/-- THE ONE PURE STATEMENT of laws_FnExactPairStepsToEmpty: yours. -/
def laws_FnExactPairStepsToEmpty.Pure : Prop := ∀ (a0 : Int) (a1 : Int), (Lit.int .i64 a0).wf = true → (Lit.int .i64 a1).wf = true → ∃ k, laws_FnExactPairStepsToEmpty.f k a0 a1 = some true
theorem laws_FnExactPairStepsToEmpty.walk (P : laws_FnExactPairStepsToEmpty.Pure) (a0 : Int) (a1 : Int) (w : World) (w0 : (Lit.int .i64 a0).wf = true) (w1 : (Lit.int .i64 a1).wf = true) :
    Calls Try.prog 6 #[.int .i64 a0, .int .i64 a1] w fun e w' => e = .returned (.bool true) ∧ Below w.heap.size w w' := by
  obtain ⟨k, h⟩ := P a0 a1 w0 w1
  refine (laws_FnExactPairStepsToEmpty.calls k a0 a1 true w h).mono ?_
  rintro e w' ⟨rfl, hd⟩
  exact ⟨rfl, hd⟩

end Go.Proofs.Ytdhhphngabamoaa.PFnExactPairStepsToEmpty
