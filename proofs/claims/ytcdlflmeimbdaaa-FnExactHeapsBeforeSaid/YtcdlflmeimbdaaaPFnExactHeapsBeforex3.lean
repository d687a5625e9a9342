-- Written by hprint.py (a program of this session's) over the kit's print.py. Lean checks it.
import Derived.Test.YtcdlflmeimbdaaaPFnExactHeapsBeforex0
import Derived.Test.YtcdlflmeimbdaaaPFnExactHeapsBeforex1
import Derived.Test.YtcdlflmeimbdaaaPFnExactHeapsBeforex2
namespace Go.Proofs.Ytcdlflmeimbdaaa.PFnExactHeapsBefore
open Go.RowKit Go.Proofs.YtcdlflmeimbdaaaW.PrintWords Go.Proofs.YtcdlflmeimbdaaaW.PrintLast Go.Proofs.YtcdlflmeimbdaaaW.PrintMore
attribute [local go_sem] max2_int min2_int max_two min_two max_three min_three max_four min_four   -- for this text's walks alone
set_option linter.unusedVariables false
set_option linter.unusedSimpArgs false

/-! ### spec_HeapsBefore: function 4 -/
mutual
def spec_HeapsBefore.l0 : Nat → List Int → List (List Int) → Int → Int → Option ((List (List Int)) × Bool)
  | 0, _, _, _, _ => none
  | k + 1, x0, x4, x15, x16 => if x16 < x15 then (spec_HeapsBefore.l1 k x0 x4 x16 x15 x16 x0 (x0.length : Int) 0) else (some (x4, true))
def spec_HeapsBefore.l1 : Nat → List Int → List (List Int) → Int → Int → Int → List Int → Int → Int → Option ((List (List Int)) × Bool)
  | 0, _, _, _, _, _, _, _, _ => none
  | k + 1, x0, x4, x5, x15, x16, x19, x20, x21 => if x21 < x20 then (if 0 ≤ x21 then (if x21 < (x19.length : Int) then (if x5 = x21 then (spec_HeapsBefore.j2 k x0 x4 x5 x21 (rd x19 x21) x15 x16 x19 x20 x21 true) else (if (rd x19 x21) = 0 then (spec_HeapsBefore.j2 k x0 x4 x5 x21 (rd x19 x21) x15 x16 x19 x20 x21 true) else (spec_HeapsBefore.j2 k x0 x4 x5 x21 (rd x19 x21) x15 x16 x19 x20 x21 ((Int.tmod (rd x19 x21) 2) == 1)))) else (none)) else (none)) else (spec_HeapsBefore.l0 k x0 x4 x15 (wrap64 (x16 + 1)))
def spec_HeapsBefore.j2 : Nat → List Int → List (List Int) → Int → Int → Int → Int → Int → List Int → Int → Int → Bool → Option ((List (List Int)) × Bool)
  | 0, _, _, _, _, _, _, _, _, _, _, _ => none
  | k + 1, x0, x4, x5, x6, x7, x15, x16, x19, x20, x21, x37 => if x37 = true then (spec_HeapsBefore.l1 k x0 x4 x5 x15 x16 x19 x20 (wrap64 (x21 + 1))) else ((spec_l1Own.f x0).bind fun t130 => (if 0 ≤ x5 then (if x5 < (t130.length : Int) then (if 0 ≤ x6 then (if x6 < (t130.length : Int) then (spec_HeapsBefore.l2 k x0 x4 x5 ((t130.set (x5 : Int).toNat (wrap64 ((rd t130 x5) + (wrap64 (Int.tdiv x7 2))))).set (x6 : Int).toNat (wrap64 (Int.tdiv x7 2))) (x4.length : Int) x15 x16 x19 x20 x21) else (none)) else (none)) else (none)) else (none)))
def spec_HeapsBefore.l2 : Nat → List Int → List (List Int) → Int → List Int → Int → Int → Int → List Int → Int → Int → Option ((List (List Int)) × Bool)
  | 0, _, _, _, _, _, _, _, _, _, _ => none
  | k + 1, x0, x4, x5, x8, x9, x15, x16, x19, x20, x21 => if x9 > 0 then (if 0 ≤ (wrap64 (x9 - 1)) then (if (wrap64 (x9 - 1)) < (x4.length : Int) then ((spec_dbLess.f k x8 (rd_L1 x4 (wrap64 (x9 - 1)))).bind fun t137 => (if t137 = true then (spec_HeapsBefore.l2 k x0 x4 x5 x8 (wrap64 (x9 - 1)) x15 x16 x19 x20 x21) else ((spec_l1Same.f k (rd_L1 x4 (wrap64 (x9 - 1))) x8).bind fun t139 => (if t139 = true then (spec_HeapsBefore.l1 k x0 x4 x5 x15 x16 x19 x20 (wrap64 (x21 + 1))) else ((some (([] : List (List Int)) : List (List Int))).bind fun y140 => (if 0 ≤ x9 then (if x9 ≤ (x4.length : Int) then ((some (x4.take (x9 : Int).toNat : List (List Int))).bind fun y143 => (if y140.length + y143.length < 5864062014805 then ((some (y140 ++ y143 : List (List Int))).bind fun y148 => (if y148.length < 5864062014805 then ((some (y148 ++ [x8] : List (List Int))).bind fun y151 => ((some (x4.drop (x9 : Int).toNat : List (List Int))).bind fun y154 => (if y151.length + y154.length < 5864062014805 then (spec_HeapsBefore.l1 k x0 (y151 ++ y154) x5 x15 x16 x19 x20 (wrap64 (x21 + 1))) else (none)))) else (none))) else (none))) else (none)) else (none))))))) else (none)) else (none)) else ((some (([] : List (List Int)) : List (List Int))).bind fun y162 => (if 0 ≤ x9 then (if x9 ≤ (x4.length : Int) then ((some (x4.take (x9 : Int).toNat : List (List Int))).bind fun y165 => (if y162.length + y165.length < 5864062014805 then ((some (y162 ++ y165 : List (List Int))).bind fun y170 => (if y170.length < 5864062014805 then ((some (y170 ++ [x8] : List (List Int))).bind fun y173 => ((some (x4.drop (x9 : Int).toNat : List (List Int))).bind fun y176 => (if y173.length + y176.length < 5864062014805 then (spec_HeapsBefore.l1 k x0 (y173 ++ y176) x5 x15 x16 x19 x20 (wrap64 (x21 + 1))) else (none)))) else (none))) else (none))) else (none)) else (none)))
end
def spec_HeapsBefore.f (k : Nat) (l0 : List Int) : Option ((List (List Int)) × Bool) := (spec_dbGood.f k l0).bind fun t128 => (if t128 = true then (spec_HeapsBefore.l0 k l0 ([] : List (List Int)) (l0.length : Int) 0) else (some (([] : List (List Int)), false)))
theorem spec_HeapsBefore.mono_l : ∀ k, (∀ y0 y1 y2 y3, LeO (spec_HeapsBefore.l0 k y0 y1 y2 y3) (spec_HeapsBefore.l0 (k + 1) y0 y1 y2 y3)) ∧ (∀ y0 y1 y2 y3 y4 y5 y6 y7, LeO (spec_HeapsBefore.l1 k y0 y1 y2 y3 y4 y5 y6 y7) (spec_HeapsBefore.l1 (k + 1) y0 y1 y2 y3 y4 y5 y6 y7)) ∧ (∀ y0 y1 y2 y3 y4 y5 y6 y7 y8 y9 y10, LeO (spec_HeapsBefore.j2 k y0 y1 y2 y3 y4 y5 y6 y7 y8 y9 y10) (spec_HeapsBefore.j2 (k + 1) y0 y1 y2 y3 y4 y5 y6 y7 y8 y9 y10)) ∧ (∀ y0 y1 y2 y3 y4 y5 y6 y7 y8 y9, LeO (spec_HeapsBefore.l2 k y0 y1 y2 y3 y4 y5 y6 y7 y8 y9) (spec_HeapsBefore.l2 (k + 1) y0 y1 y2 y3 y4 y5 y6 y7 y8 y9))
  | 0 => ⟨fun _ _ _ _ r h => by simp [spec_HeapsBefore.l0] at h, fun _ _ _ _ _ _ _ _ r h => by simp [spec_HeapsBefore.l1] at h, fun _ _ _ _ _ _ _ _ _ _ _ r h => by simp [spec_HeapsBefore.j2] at h, fun _ _ _ _ _ _ _ _ _ _ r h => by simp [spec_HeapsBefore.l2] at h⟩
  | k + 1 => by
    obtain ⟨ih0, ih1, ih2, ih3⟩ := spec_HeapsBefore.mono_l k
    refine ⟨?_, ?_, ?_, ?_⟩
    · intro y0 y1 y2 y3
      unfold spec_HeapsBefore.l0
      repeat' first
      | (with_reducible exact ih0 _ _ _ _)
      | (with_reducible exact ih1 _ _ _ _ _ _ _ _)
      | (with_reducible exact ih2 _ _ _ _ _ _ _ _ _ _ _)
      | (with_reducible exact ih3 _ _ _ _ _ _ _ _ _ _)
      | (with_reducible exact spec_dbGood.mono _ _)
      | (with_reducible exact spec_dbLess.mono _ _ _)
      | (with_reducible exact spec_l1Same.mono _ _ _)
      | (with_reducible exact LeO.refl _)
      | (with_reducible exact LeO.none _)
      | (with_reducible refine LeO.ite ?_ ?_)
      | (with_reducible refine LeO.bind ?_ (fun _ => ?_))
      | exact ih0 _ _ _ _
      | exact ih1 _ _ _ _ _ _ _ _
      | exact ih2 _ _ _ _ _ _ _ _ _ _ _
      | exact ih3 _ _ _ _ _ _ _ _ _ _
      | exact spec_dbGood.mono _ _
      | exact spec_dbLess.mono _ _ _
      | exact spec_l1Same.mono _ _ _
      | exact LeO.none _
      | refine LeO.ite ?_ ?_
      | refine LeO.bind ?_ (fun _ => ?_)
    · intro y0 y1 y2 y3 y4 y5 y6 y7
      unfold spec_HeapsBefore.l1
      repeat' first
      | (with_reducible exact ih0 _ _ _ _)
      | (with_reducible exact ih1 _ _ _ _ _ _ _ _)
      | (with_reducible exact ih2 _ _ _ _ _ _ _ _ _ _ _)
      | (with_reducible exact ih3 _ _ _ _ _ _ _ _ _ _)
      | (with_reducible exact spec_dbGood.mono _ _)
      | (with_reducible exact spec_dbLess.mono _ _ _)
      | (with_reducible exact spec_l1Same.mono _ _ _)
      | (with_reducible exact LeO.refl _)
      | (with_reducible exact LeO.none _)
      | (with_reducible refine LeO.ite ?_ ?_)
      | (with_reducible refine LeO.bind ?_ (fun _ => ?_))
      | exact ih0 _ _ _ _
      | exact ih1 _ _ _ _ _ _ _ _
      | exact ih2 _ _ _ _ _ _ _ _ _ _ _
      | exact ih3 _ _ _ _ _ _ _ _ _ _
      | exact spec_dbGood.mono _ _
      | exact spec_dbLess.mono _ _ _
      | exact spec_l1Same.mono _ _ _
      | exact LeO.none _
      | refine LeO.ite ?_ ?_
      | refine LeO.bind ?_ (fun _ => ?_)
    · intro y0 y1 y2 y3 y4 y5 y6 y7 y8 y9 y10
      unfold spec_HeapsBefore.j2
      repeat' first
      | (with_reducible exact ih0 _ _ _ _)
      | (with_reducible exact ih1 _ _ _ _ _ _ _ _)
      | (with_reducible exact ih2 _ _ _ _ _ _ _ _ _ _ _)
      | (with_reducible exact ih3 _ _ _ _ _ _ _ _ _ _)
      | (with_reducible exact spec_dbGood.mono _ _)
      | (with_reducible exact spec_dbLess.mono _ _ _)
      | (with_reducible exact spec_l1Same.mono _ _ _)
      | (with_reducible exact LeO.refl _)
      | (with_reducible exact LeO.none _)
      | (with_reducible refine LeO.ite ?_ ?_)
      | (with_reducible refine LeO.bind ?_ (fun _ => ?_))
      | exact ih0 _ _ _ _
      | exact ih1 _ _ _ _ _ _ _ _
      | exact ih2 _ _ _ _ _ _ _ _ _ _ _
      | exact ih3 _ _ _ _ _ _ _ _ _ _
      | exact spec_dbGood.mono _ _
      | exact spec_dbLess.mono _ _ _
      | exact spec_l1Same.mono _ _ _
      | exact LeO.none _
      | refine LeO.ite ?_ ?_
      | refine LeO.bind ?_ (fun _ => ?_)
    · intro y0 y1 y2 y3 y4 y5 y6 y7 y8 y9
      unfold spec_HeapsBefore.l2
      repeat' first
      | (with_reducible exact ih0 _ _ _ _)
      | (with_reducible exact ih1 _ _ _ _ _ _ _ _)
      | (with_reducible exact ih2 _ _ _ _ _ _ _ _ _ _ _)
      | (with_reducible exact ih3 _ _ _ _ _ _ _ _ _ _)
      | (with_reducible exact spec_dbGood.mono _ _)
      | (with_reducible exact spec_dbLess.mono _ _ _)
      | (with_reducible exact spec_l1Same.mono _ _ _)
      | (with_reducible exact LeO.refl _)
      | (with_reducible exact LeO.none _)
      | (with_reducible refine LeO.ite ?_ ?_)
      | (with_reducible refine LeO.bind ?_ (fun _ => ?_))
      | exact ih0 _ _ _ _
      | exact ih1 _ _ _ _ _ _ _ _
      | exact ih2 _ _ _ _ _ _ _ _ _ _ _
      | exact ih3 _ _ _ _ _ _ _ _ _ _
      | exact spec_dbGood.mono _ _
      | exact spec_dbLess.mono _ _ _
      | exact spec_l1Same.mono _ _ _
      | exact LeO.none _
      | refine LeO.ite ?_ ?_
      | refine LeO.bind ?_ (fun _ => ?_)
theorem spec_HeapsBefore.mono : ∀ a0 k, LeO (spec_HeapsBefore.f k a0) (spec_HeapsBefore.f (k + 1) a0) := by
  intro a0 k
  obtain ⟨ih0, ih1, ih2, ih3⟩ := spec_HeapsBefore.mono_l k
  unfold spec_HeapsBefore.f
  repeat' first
      | (with_reducible exact ih0 _ _ _ _)
      | (with_reducible exact ih1 _ _ _ _ _ _ _ _)
      | (with_reducible exact ih2 _ _ _ _ _ _ _ _ _ _ _)
      | (with_reducible exact ih3 _ _ _ _ _ _ _ _ _ _)
      | (with_reducible exact spec_dbGood.mono _ _)
      | (with_reducible exact spec_dbLess.mono _ _ _)
      | (with_reducible exact spec_l1Same.mono _ _ _)
      | (with_reducible exact LeO.refl _)
      | (with_reducible exact LeO.none _)
      | (with_reducible refine LeO.ite ?_ ?_)
      | (with_reducible refine LeO.bind ?_ (fun _ => ?_))
      | exact ih0 _ _ _ _
      | exact ih1 _ _ _ _ _ _ _ _
      | exact ih2 _ _ _ _ _ _ _ _ _ _ _
      | exact ih3 _ _ _ _ _ _ _ _ _ _
      | exact spec_dbGood.mono _ _
      | exact spec_dbLess.mono _ _ _
      | exact spec_l1Same.mono _ _ _
      | exact LeO.none _
      | refine LeO.ite ?_ ?_
      | refine LeO.bind ?_ (fun _ => ?_)
set_option maxHeartbeats 8000000 in
set_option maxRecDepth 100000 in
theorem spec_HeapsBefore.calls (k : Nat) (A0 : Option Addr) (c0 : Nat) (l0 : List Int) (r1 : List (List Int)) (r2 : Bool) (w : World) (hr0 : Kd.C (Kd.int .i64) w A0 l0.length l0) (hc0 : l0.length ≤ c0) (h : spec_HeapsBefore.f k l0 = some (r1, r2)) :
    Calls Try.prog 4 #[.slice A0 l0.length c0] w fun e w' => ∃ v0_ : Value, e = .returned (.tuple #[v0_, .bool r2]) ∧ Kd.N (Kd.slice 3 (Kd.int .i64)) 22 w' w.heap.size (fun k_ => (w.heap.size ≤ k_)) v0_ r1 ∧ Below w.heap.size w w' := by
  have HR0 := Aside0.mk hr0
  have HC0 := Aside0.mk hc0
  clear hr0 hc0
  have HB := Aside0.mk (Below.refl w.heap.size w)
  have H : ((spec_dbGood.f k l0).bind fun t128 => (if t128 = true then (spec_HeapsBefore.l0 k l0 ([] : List (List Int)) (l0.length : Int) 0) else (some (([] : List (List Int)), false)))) = some (r1, r2) := h
  clear h
  replace H := Option.bind_eq_some_iff.mp H
  obtain ⟨t128, A20, H⟩ := H
  replace H : (if t128 = true then (spec_HeapsBefore.l0 k l0 ([] : List (List Int)) (l0.length : Int) 0) else (some (([] : List (List Int)), false))) = some (r1, r2) := H
  have A2 := Aside0.mk A20
  clear A20
  by_cases c3 : t128 = true
  · subst c3
    have H1 : (spec_HeapsBefore.l0 k l0 ([] : List (List Int)) (l0.length : Int) 0) = some (r1, r2) := by rw [if_pos rfl] at H; exact H
    clear H
    have H := H1
    clear H1
    have H' := Aside0.mk H
    clear H
    go_enter Try.func4, Try.ntmps4
    go_wp2_with (first | ((with_reducible refine gate_callee (f := 12) rfl ?_); refine goesL_ (some 12) rfl rfl Try.func12 (by kernel_rfl) rfl #[.slice A0 l0.length c0] rfl (by (try simp only [List.map_toArray, List.map_cons, List.map_nil]); first | done | rfl | (simp only [List.length_drop, List.length_take]; rfl)) ?_; (with_reducible refine (spec_dbGood.calls k _ _ l0 true _ ?side1 ?side2 A2.out).mono ?_); (case side1 => repeat (first | exact HR0.out | (with_reducible refine Kd.C_alloc ?_ _) | (with_reducible refine Kd.C_drewN ?_ _) | (with_reducible refine Kd.C_drew ?_))); (case side2 => exact HC0.out); rintro e w' ⟨rfl, ⟨nd, rfl⟩⟩; refine ⟨_, rfl, ?_⟩))
    go_loopg [4, 16] k (fun kq v4 v16 w' => ∃ (x4_1 : List (List Int)) (x16_1 : Int), v16 = .int .i64 x16_1 ∧ Aside0 (spec_HeapsBefore.l0 kq l0 x4_1 (l0.length : Int) x16_1 = some (r1, r2)) ∧ Aside0 (kq ≤ k) ∧ Aside0 (Kd.N (Kd.slice 3 (Kd.int .i64)) 22 w' w.heap.size (fun k_ => (w.heap.size ≤ k_)) v4 x4_1) ∧ Aside0 (Below w.heap.size w w'))
    case atStart => exact ⟨(([] : List (List Int))), (0), (by first | rfl | (simp; done) | (simp [*]; done)), H', ⟨Nat.le_refl _⟩, ⟨by first | exact Kd.S_nil _ _ _ _ _ | exact Kd.N_nil _ _ _ _ _ | exact Kd.V_nil _ _ _ _ _ | exact Kd.Q_nil _ _ _ _ _ | exact Kd.R_nil _ _ _ _ _⟩, ⟨by repeat (first | (with_reducible first | exact HB.out | apply below_alloc | apply pw_below_drewN | apply below_drew1) | exact HB.out)⟩⟩
    case round =>
      clear H'
      try clear c1
      try clear p2
      try clear c3
      obtain ⟨x4_1, x16_1, rfl, HA, HK1, HO_4, HB⟩ := hrel
      cases gk with
      | zero => exact absurd HA.out (by simp [spec_HeapsBefore.l0])
      | succ k1 =>
        have H := HA.out
        clear HA
        simp only [spec_HeapsBefore.l0] at H
        by_cases c4 : x16_1 < (l0.length : Int)
        · rw [if_pos c4] at H
          have c4b0 : decide (x16_1 < (l0.length : Int)) = true := decide_eq_true c4
          clear c4
          have H' := Aside0.mk H
          clear H
          go_wp2
          go_loopg [4, 21] k1 (fun kq v4 v21 w' => ∃ (x4_2 : List (List Int)) (x21_2 : Int), v21 = .int .i64 x21_2 ∧ Aside0 (spec_HeapsBefore.l1 kq l0 x4_2 x16_1 (l0.length : Int) x16_1 l0 (l0.length : Int) x21_2 = some (r1, r2)) ∧ Aside0 (kq ≤ k1) ∧ Aside0 (Kd.N (Kd.slice 3 (Kd.int .i64)) 22 w' w.heap.size (fun k_ => (w.heap.size ≤ k_)) v4 x4_2) ∧ Aside0 (Below w.heap.size w w'))
          case atStart => exact ⟨(x4_1), (0), (by first | rfl | (simp; done) | (simp [*]; done)), H', ⟨Nat.le_refl _⟩, ⟨by (with_reducible repeat (first | apply Kd.N_alloc | apply Kd.N_drewN | apply Kd.N_drew)); exact HO_4.out⟩, ⟨by repeat (first | (with_reducible first | exact HB.out | apply below_alloc | apply pw_below_drewN | apply below_drew1) | exact HB.out)⟩⟩
          case round =>
            clear H'
            try clear c1
            try clear p2
            try clear c3
            try clear c4
            try clear c4b0
            try clear p2
            obtain ⟨x4_2, x21_2, rfl, HA, HK2, HO_4, HB⟩ := hrel
            cases gk with
            | zero => exact absurd HA.out (by simp [spec_HeapsBefore.l1])
            | succ k2 =>
              have H := HA.out
              clear HA
              simp only [spec_HeapsBefore.l1] at H
              by_cases c5 : x21_2 < (l0.length : Int)
              · rw [if_pos c5] at H
                have c5b0 : decide (x21_2 < (l0.length : Int)) = true := decide_eq_true c5
                clear c5
                by_cases c6 : 0 ≤ x21_2
                · rw [if_pos c6] at H
                  have c6b0 : decide (0 ≤ x21_2) = true := decide_eq_true c6
                  clear c6
                  by_cases c7 : x21_2 < (l0.length : Int)
                  · rw [if_pos c7] at H
                    have c7b0 : decide (x21_2 < (l0.length : Int)) = true := decide_eq_true c7
                    clear c7
                    have HC8 := Aside0.mk H
                    clear H
                    have p129 : 0 ≤ (x21_2 : Int) := of_decide_eq_true (by first | (with_reducible assumption) | assumption)
                    have q129 : x21_2 < (l0.length : Int) := of_decide_eq_true (by first | (with_reducible assumption) | assumption)
                    obtain ⟨ad129, e129, hx129_0⟩ := Kd.at_int HR0.out x21_2 p129 q129
                    cases e129
                    replace hx129_0 := (HB.out.cell (World.block_lt_of_cell? w _ hx129_0)).trans hx129_0
                    replace p129 := eq_true p129
                    replace q129 := eq_true q129
                    go_upto_region 10 with (fail)
                    go_cut [37] (fun v37 wc => ∃ (kq : Nat) (x37_7 : Bool), v37 = .bool x37_7 ∧ Aside0 (spec_HeapsBefore.j2 kq l0 x4_2 x16_1 x21_2 (rd l0 x21_2) (l0.length : Int) x16_1 l0 (l0.length : Int) x21_2 x37_7 = some (r1, r2)) ∧ Aside0 (kq ≤ k2) ∧ Aside0 (Kd.N (Kd.slice 3 (Kd.int .i64)) 22 wc w.heap.size (fun k_ => (w.heap.size ≤ k_)) u4 x4_2) ∧ Aside0 (Below w.heap.size w wc))
                    case first =>
                      have H := HC8.out
                      clear HC8
                      by_cases c9 : x16_1 = x21_2
                      · rw [if_pos c9] at H
                        have c9b0 : (x16_1 == x21_2) = true := beq_iff_eq.mpr c9
                        have c9b1 : (x16_1 != x21_2) = false := bne_eq_false_iff_eq.mpr c9
                        clear c9
                        (first | rw [c9b0] | (simp only [i64_w, i32_w]; rw [c9b0]) | rw [c9b1] | skip)
                        have H' := Aside0.mk H
                        clear H
                        go_wp2
                        go_meet
                        case rel => exact ⟨_, (true), (by first | rfl | (simp; done) | (simp [*]; done)), H', ⟨by have := HK1.out; have := HK2.out; first | omega | exact Nat.le_refl _⟩, ⟨by (with_reducible repeat (first | apply Kd.N_alloc | apply Kd.N_drewN | apply Kd.N_drew)); exact HO_4.out⟩, ⟨by repeat (first | (with_reducible first | exact HB.out | apply below_alloc | apply pw_below_drewN | apply below_drew1) | exact HB.out)⟩⟩
                      · rw [if_neg c9] at H
                        have c9b0 : (x16_1 == x21_2) = false := beq_eq_false_iff_ne.mpr c9
                        have c9b1 : (x16_1 != x21_2) = true := bne_iff_ne.mpr c9
                        (first | rw [c9b0] | (simp only [i64_w, i32_w]; rw [c9b0]) | rw [c9b1] | skip)
                        by_cases c10 : (rd l0 x21_2) = 0
                        · rw [if_pos c10] at H
                          have c10b0 : ((rd l0 x21_2) == 0) = true := beq_iff_eq.mpr c10
                          have c10b1 : ((rd l0 x21_2) != 0) = false := bne_eq_false_iff_eq.mpr c10
                          clear c10
                          have H' := Aside0.mk H
                          clear H
                          go_wp2
                          go_meet
                          case rel => exact ⟨_, (true), (by first | rfl | (simp; done) | (simp [*]; done)), H', ⟨by have := HK1.out; have := HK2.out; first | omega | exact Nat.le_refl _⟩, ⟨by (with_reducible repeat (first | apply Kd.N_alloc | apply Kd.N_drewN | apply Kd.N_drew)); exact HO_4.out⟩, ⟨by repeat (first | (with_reducible first | exact HB.out | apply below_alloc | apply pw_below_drewN | apply below_drew1) | exact HB.out)⟩⟩
                        · rw [if_neg c10] at H
                          have c10b0 : ((rd l0 x21_2) == 0) = false := beq_eq_false_iff_ne.mpr c10
                          have c10b1 : ((rd l0 x21_2) != 0) = true := bne_iff_ne.mpr c10
                          have H' := Aside0.mk H
                          clear H
                          go_wp2
                          go_meet
                          case rel => exact ⟨_, (((Int.tmod (rd l0 x21_2) 2) == 1)), (by first | rfl | (simp; done) | (simp [*]; done)), H', ⟨by have := HK1.out; have := HK2.out; first | omega | exact Nat.le_refl _⟩, ⟨by (with_reducible repeat (first | apply Kd.N_alloc | apply Kd.N_drewN | apply Kd.N_drew)); exact HO_4.out⟩, ⟨by repeat (first | (with_reducible first | exact HB.out | apply below_alloc | apply pw_below_drewN | apply below_drew1) | exact HB.out)⟩⟩
                    case rest =>
                      clear HC8
                      try clear c1
                      try clear p1
                      try clear q1
                      try clear hx1
                      try clear p2
                      try clear c3
                      try clear c4
                      try clear c4b0
                      try clear c5
                      try clear c5b0
                      try clear c6
                      try clear c6b0
                      try clear c7
                      try clear c7b0
                      try clear c9
                      try clear c9b0
                      try clear c9b1
                      try clear c10
                      try clear c10b0
                      try clear c10b1
                      try clear hx129_0
                      try clear p129
                      try clear p2
                      try clear q129
                      obtain ⟨kq, x37_7, rfl, HA, HJ7, HO_4, HB⟩ := hcut
                      cases kq with
                      | zero => exact absurd HA.out (by simp [spec_HeapsBefore.j2])
                      | succ kj7 =>
                        have H := HA.out
                        clear HA
                        simp only [spec_HeapsBefore.j2] at H
                        by_cases c11 : x37_7 = true
                        · subst c11
                          have H1 : (spec_HeapsBefore.l1 kj7 l0 x4_2 x16_1 (l0.length : Int) x16_1 l0 (l0.length : Int) (wrap64 (x21_2 + 1))) = some (r1, r2) := by rw [if_pos rfl] at H; exact H
                          clear H
                          have H := H1
                          clear H1
                          have H' := Aside0.mk H
                          clear H
                          go_wp2
                          go_roundg kj7
                          case measure => have := HK1.out; have := HK2.out; have := HJ7.out; omega
                          case rel => exact ⟨(x4_2), (wrap64 (x21_2 + 1)), (by first | rfl | (simp; done) | (simp [*]; done)), H', ⟨by have := HK1.out; have := HK2.out; have := HJ7.out; omega⟩, ⟨by (with_reducible repeat (first | apply Kd.N_alloc | apply Kd.N_drewN | apply Kd.N_drew)); exact HO_4.out⟩, ⟨by repeat (first | (with_reducible first | exact HB.out | apply below_alloc | apply pw_below_drewN | apply below_drew1) | exact HB.out)⟩⟩
                        · replace c11 := Bool.eq_false_iff.mpr c11
                          subst c11
                          have H1 : ((spec_l1Own.f l0).bind fun t130 => (if 0 ≤ x16_1 then (if x16_1 < (t130.length : Int) then (if 0 ≤ x21_2 then (if x21_2 < (t130.length : Int) then (spec_HeapsBefore.l2 kj7 l0 x4_2 x16_1 ((t130.set (x16_1 : Int).toNat (wrap64 ((rd t130 x16_1) + (wrap64 (Int.tdiv (rd l0 x21_2) 2))))).set (x21_2 : Int).toNat (wrap64 (Int.tdiv (rd l0 x21_2) 2))) (x4_2.length : Int) (l0.length : Int) x16_1 l0 (l0.length : Int) x21_2) else (none)) else (none)) else (none)) else (none))) = some (r1, r2) := by rw [if_neg (show ¬ (false = true) by decide)] at H; exact H
                          clear H
                          have H := H1
                          clear H1
                          replace H := Option.bind_eq_some_iff.mp H
                          obtain ⟨t130, A120, H⟩ := H
                          replace H : (if 0 ≤ x16_1 then (if x16_1 < (t130.length : Int) then (if 0 ≤ x21_2 then (if x21_2 < (t130.length : Int) then (spec_HeapsBefore.l2 kj7 l0 x4_2 x16_1 ((t130.set (x16_1 : Int).toNat (wrap64 ((rd t130 x16_1) + (wrap64 (Int.tdiv (rd l0 x21_2) 2))))).set (x21_2 : Int).toNat (wrap64 (Int.tdiv (rd l0 x21_2) 2))) (x4_2.length : Int) (l0.length : Int) x16_1 l0 (l0.length : Int) x21_2) else (none)) else (none)) else (none)) else (none)) = some (r1, r2) := H
                          have A12 := Aside0.mk A120
                          clear A120
                          by_cases c13 : 0 ≤ x16_1
                          · rw [if_pos c13] at H
                            have c13b0 : decide (0 ≤ x16_1) = true := decide_eq_true c13
                            clear c13
                            by_cases c14 : x16_1 < (t130.length : Int)
                            · rw [if_pos c14] at H
                              have c14b0 : decide (x16_1 < (t130.length : Int)) = true := decide_eq_true c14
                              clear c14
                              obtain ⟨y134, hy134⟩ : ∃ y_ : List Int, y_ = (t130.set (x16_1 : Int).toNat (wrap64 ((rd t130 x16_1) + (wrap64 (Int.tdiv (rd l0 x21_2) 2))))) := ⟨_, rfl⟩
                              replace H : (if 0 ≤ x21_2 then (if x21_2 < (t130.length : Int) then (spec_HeapsBefore.l2 kj7 l0 x4_2 x16_1 (y134.set (x21_2 : Int).toNat (wrap64 (Int.tdiv (rd l0 x21_2) 2))) (x4_2.length : Int) (l0.length : Int) x16_1 l0 (l0.length : Int) x21_2) else (none)) else (none)) = some (r1, r2) := by first | (rw [hy134]; with_reducible exact H) | (have H2_ := (Option.bind_some _ _).symm.trans H; rw [hy134]; with_reducible exact H2_) | (have H2_ := (Option.bind_some _ _).symm.trans H; with_reducible exact H2_) | with_reducible exact H | (rw [hy134]; exact H) | exact H
                              have Ny134 := Aside0.mk hy134
                              clear hy134
                              by_cases c16 : 0 ≤ x21_2
                              · rw [if_pos c16] at H
                                have c16b0 : decide (0 ≤ x21_2) = true := decide_eq_true c16
                                clear c16
                                by_cases c17 : x21_2 < (t130.length : Int)
                                · rw [if_pos c17] at H
                                  have c17b0 : decide (x21_2 < (t130.length : Int)) = true := decide_eq_true c17
                                  clear c17
                                  obtain ⟨y135, hy135⟩ : ∃ y_ : List Int, y_ = (y134.set (x21_2 : Int).toNat (wrap64 (Int.tdiv (rd l0 x21_2) 2))) := ⟨_, rfl⟩
                                  replace H : (spec_HeapsBefore.l2 kj7 l0 x4_2 x16_1 y135 (x4_2.length : Int) (l0.length : Int) x16_1 l0 (l0.length : Int) x21_2) = some (r1, r2) := by first | (rw [hy135]; with_reducible exact H) | (have H2_ := (Option.bind_some _ _).symm.trans H; rw [hy135]; with_reducible exact H2_) | (have H2_ := (Option.bind_some _ _).symm.trans H; with_reducible exact H2_) | with_reducible exact H | (rw [hy135]; exact H) | exact H
                                  have Ny135 := Aside0.mk hy135
                                  clear hy135
                                  have H' := Aside0.mk H
                                  clear H
                                  go_wp2_with (first | ((with_reducible refine gate_callee (f := 13) rfl ?_); refine goesL_ (some 39) rfl rfl Try.func13 (by kernel_rfl) rfl #[.slice (some ad129) l0.length c0] rfl (by (try simp only [List.map_toArray, List.map_cons, List.map_nil]); first | done | rfl | (simp only [List.length_drop, List.length_take]; rfl)) ?_; (with_reducible refine (spec_l1Own.calls _ _ l0 t130 _ ?side1 ?side2 A12.out).mono ?_); (case side1 => repeat (first | exact (Kd.C_below HR0.out HB.out) | (with_reducible refine Kd.C_alloc ?_ _) | (with_reducible refine Kd.C_drewN ?_ _) | (with_reducible refine Kd.C_drew ?_))); (case side2 => exact HC0.out); rintro e w19 ⟨v131, rfl, ho0, hb⟩; refine ⟨_, rfl, ?_⟩; have n0_ := Aside0.mk (Kd.N_elder' (by (with_reducible repeat (first | apply Kd.N_alloc | apply Kd.N_drewN | apply Kd.N_drew)); exact HO_4.out) (Kd.R_base ho0) hb); have n1_ := Aside0.mk (Kd.R_lower (Kd.R_newM (M := fun k_ => (w.heap.size ≤ k_)) ho0 (below_size (by repeat (first | (with_reducible first | exact HB.out | apply below_alloc | apply pw_below_drewN | apply below_drew1) | exact HB.out))) (fun k_ h_ => h_)) (below_size (by repeat (first | (with_reducible first | exact HB.out | apply below_alloc | apply pw_below_drewN | apply below_drew1) | exact HB.out)))); have n2_ := Aside0.mk (below_step (by repeat (first | (with_reducible first | exact HB.out | apply below_alloc | apply pw_below_drewN | apply below_drew1) | exact HB.out)) hb); clear HO_4; clear HB; have HO_4 := n0_; have HO132 := n1_; have HB := n2_; clear n0_ n1_ n2_; (try clear hb); (try clear hb2); (try clear hk); (try clear hi); (try clear ho0); obtain ⟨Ao20, co20, eo20⟩ := Kd.R_slice HO132.out; subst eo20; have p133 : 0 ≤ (x16_1 : Int) := of_decide_eq_true (by first | (with_reducible assumption) | assumption); have q133 : x16_1 < (t130.length : Int) := of_decide_eq_true (by first | (with_reducible assumption) | assumption); obtain ⟨ad133, e133, hx133_0⟩ := Kd.at_int (Kd.R_reads' HO132.out).2.2 x16_1 p133 q133; cases e133; replace p133 := eq_true p133; replace q133 := eq_true q133; have p15 : 0 ≤ (x16_1 : Int) := of_decide_eq_true (by first | (with_reducible assumption) | assumption); have q15 : (x16_1 : Int) < ((t130.length : Int) : Int) := of_decide_eq_true (by first | (with_reducible assumption) | assumption); obtain ⟨go15, co15, eo15, gb15, gl15, cl15, HG15⟩ := Kd.R_form HO132.out (by omega); (first | cases eo15 | (injection eo15 with ea_ en_ ec_; (first | subst ea_ | (injection ea_ with ea_; subst ea_)); subst ec_; clear en_)); have GB15 := Aside0.mk gb15; have GG15 := Aside0.mk HG15; clear gb15 gl15 HG15; (first | simp only [add_plain] at hx133_0 | skip); obtain ⟨hx15_0, hf15_0⟩ := Kd.R_celln 0 HO132.out (x16_1 : Int) p15 q15; replace p15 := eq_true p15; replace q15 := eq_true q15; have n_ := Aside0.mk (Kd.R_mono (ok' := (fun k_ => (w.heap.size ≤ k_))) HO132.out (by first | exact fun k_ hk => hk.1 | exact fun k_ hk => hk)); clear HO132; have HO132 := n_; clear n_; obtain ⟨hy21_, hz21_⟩ := Kd.R_celln 0 HO132.out (x16_1 : Int) (of_decide_eq_true (by first | (with_reducible assumption) | assumption)) (of_decide_eq_true (by first | (with_reducible assumption) | assumption)); have HP21 := Kd.R_putg HO132.out (x16_1 : Int) (wrap64 ((rd t130 x16_1) + (wrap64 (Int.tdiv (rd l0 x21_2) 2))))) | ((with_reducible refine gate_store (t := 3) (p := 47) rfl ?_); refine store_event (t := 3) (p := 47) (v := ?vo_w22) (w1 := (w19.setCell ⟨go15, (x16_1 : Int).toNat, none⟩ (.int .i64 (wrap64 ((rd t130 x16_1) + (wrap64 (Int.tdiv (rd l0 x21_2) 2))))))) ?hg ?ho ?hn ?hr ?_; (case ho => rfl); (case hg => rfl); (case hn => rfl); (case hr => first | (go_simp; done) | (go_simp; rfl)); intro w22 hw; have hg : w19.grownBy w22 (some go15) := (by rw [hw]; exact HP21.2); have hp_ : Kd.R (Kd.int .i64) 3 w22 w.heap.size (fun k_ => (w.heap.size ≤ k_)) (.slice (some ⟨go15, 0, none⟩) t130.length co20) y134 := (by rw [hw, Ny134.out]; exact HP21.1); clear HP21; have n0_ := Aside0.mk (Kd.N_afterv (v := (.slice (some ⟨go15, 0, none⟩) t130.length co20)) (v1 := (.slice (some ⟨go15, 0, none⟩) t130.length co20)) (ok := (fun k_ => (w.heap.size ≤ k_))) (by (with_reducible repeat (first | apply Kd.N_alloc | apply Kd.N_drewN | apply Kd.N_drew)); exact HO_4.out) hg (.inl rfl)); have n1_ := Aside0.mk (hp_); have n2_ := Aside0.mk ((by rw [hw]; exact below_set (HB.out) GB15.out : Below w.heap.size w w22)); clear HO_4; clear HO132; clear HB; have HO_4 := n0_; have HO132 := n1_; have HB := n2_; clear n0_ n1_ n2_; clear hg hw hp_; have p18 : 0 ≤ (x21_2 : Int) := of_decide_eq_true (by first | (with_reducible assumption) | assumption); have q18 : (x21_2 : Int) < ((t130.length : Int) : Int) := of_decide_eq_true (by first | (with_reducible assumption) | assumption); obtain ⟨hx18_0, hf18_0⟩ := Kd.R_celln 0 HO132.out (x21_2 : Int) p18 q18; replace p18 := eq_true p18; replace q18 := eq_true q18; obtain ⟨hy23_, hz23_⟩ := Kd.R_celln 0 HO132.out (x21_2 : Int) (of_decide_eq_true (by first | (with_reducible assumption) | assumption)) (of_decide_eq_true (by first | (with_reducible assumption) | assumption)); have HP23 := Kd.R_putg HO132.out (x21_2 : Int) (wrap64 (Int.tdiv (rd l0 x21_2) 2))) | ((with_reducible refine gate_store (t := 3) (p := 52) rfl ?_); refine store_event (t := 3) (p := 52) (v := ?vo_w24) (w1 := (w22.setCell ⟨go15, (x21_2 : Int).toNat, none⟩ (.int .i64 (wrap64 (Int.tdiv (rd l0 x21_2) 2))))) ?hg ?ho ?hn ?hr ?_; (case ho => rfl); (case hg => rfl); (case hn => rfl); (case hr => first | (go_simp; done) | (go_simp; rfl)); intro w24 hw; have hg : w22.grownBy w24 (some go15) := (by rw [hw]; exact HP23.2); have hp_ : Kd.R (Kd.int .i64) 3 w24 w.heap.size (fun k_ => (w.heap.size ≤ k_)) (.slice (some ⟨go15, 0, none⟩) t130.length co20) y135 := (by rw [hw, Ny135.out]; exact HP23.1); clear HP23; have n0_ := Aside0.mk (Kd.N_afterv (v := (.slice (some ⟨go15, 0, none⟩) t130.length co20)) (v1 := (.slice (some ⟨go15, 0, none⟩) t130.length co20)) (ok := (fun k_ => (w.heap.size ≤ k_))) (by (with_reducible repeat (first | apply Kd.N_alloc | apply Kd.N_drewN | apply Kd.N_drew)); exact HO_4.out) hg (.inl rfl)); have n1_ := Aside0.mk (hp_); have n2_ := Aside0.mk ((by rw [hw]; exact below_set (HB.out) GB15.out : Below w.heap.size w w24)); clear HO_4; clear HO132; clear HB; have HO_4 := n0_; have HO132 := n1_; have HB := n2_; clear n0_ n1_ n2_; clear hg hw hp_; obtain ⟨Ao25, co25, eo25⟩ := Kd.N_slice HO_4.out; subst eo25))
                                  go_loopg [9] kj7 (fun kq v9 w' => ∃ (x9_4 : Int), v9 = .int .i64 x9_4 ∧ Aside0 (spec_HeapsBefore.l2 kq l0 x4_2 x16_1 y135 x9_4 (l0.length : Int) x16_1 l0 (l0.length : Int) x21_2 = some (r1, r2)) ∧ Aside0 (kq ≤ kj7) ∧ Aside0 (Kd.N (Kd.slice 3 (Kd.int .i64)) 22 w' w.heap.size (fun k_ => (w.heap.size ≤ k_) ∧ some k_ ≠ ((.slice (some ⟨go15, 0, none⟩) t130.length co20) : Value).ownBlock) (.slice Ao25 x4_2.length co25) x4_2) ∧ Aside0 (Kd.R (Kd.int .i64) 3 w' w.heap.size (fun k_ => (w.heap.size ≤ k_)) (.slice (some ⟨go15, 0, none⟩) t130.length co20) y135) ∧ Aside0 (Below w.heap.size w w'))
                                  case atStart => exact ⟨((x4_2.length : Int)), (by first | rfl | (simp; done) | (simp [*]; done)), H', ⟨Nat.le_refl _⟩, ⟨by (with_reducible repeat (first | apply Kd.N_alloc | apply Kd.N_drewN | apply Kd.N_drew)); exact HO_4.out⟩, ⟨by (with_reducible repeat (first | apply Kd.R_alloc | apply Kd.R_drewN | apply Kd.R_drew)); exact HO132.out⟩, ⟨by repeat (first | (with_reducible first | exact HB.out | apply below_alloc | apply pw_below_drewN | apply below_drew1) | exact HB.out)⟩⟩
                                  case round =>
                                    clear H'
                                    try clear c1
                                    try clear p1
                                    try clear q1
                                    try clear hx1
                                    try clear hf1
                                    try clear p2
                                    try clear c3
                                    try clear c4
                                    try clear c4b0
                                    try clear c5
                                    try clear c5b0
                                    try clear c6
                                    try clear c6b0
                                    try clear p6
                                    try clear c7
                                    try clear c7b0
                                    try clear c9
                                    try clear c9b0
                                    try clear c9b1
                                    try clear c10
                                    try clear c10b0
                                    try clear c10b1
                                    try clear c11
                                    try clear c12
                                    try clear p12
                                    try clear q12
                                    try clear hx12
                                    try clear c13
                                    try clear c13b0
                                    try clear p13
                                    try clear q13
                                    try clear hx13
                                    try clear c14
                                    try clear c14b0
                                    try clear p15
                                    try clear q15
                                    try clear hx15
                                    try clear hf15
                                    try clear c16
                                    try clear c16b0
                                    try clear c17
                                    try clear c17b0
                                    try clear p18
                                    try clear q18
                                    try clear hx18
                                    try clear hf18
                                    try clear hx129_0
                                    try clear hx133_0
                                    try clear hx15_0
                                    try clear hx18_0
                                    try clear p1
                                    try clear p129
                                    try clear p133
                                    try clear p15
                                    try clear p18
                                    try clear p2
                                    try clear q1
                                    try clear q129
                                    try clear q133
                                    try clear q15
                                    try clear q18
                                    obtain ⟨x9_4, rfl, HA, HK4, HO_4, HO_8, HB⟩ := hrel
                                    have hl8_4 := (Kd.R_reads' HO_8.out).1
                                    rw [hl8_4] at HO_8
                                    (try simp only [hl8_4])
                                    (try simp only [hl8_4] at HO_4)
                                    cases gk with
                                    | zero => exact absurd HA.out (by simp [spec_HeapsBefore.l2])
                                    | succ k4 =>
                                      have H := HA.out
                                      clear HA
                                      simp only [spec_HeapsBefore.l2] at H
                                      by_cases c26 : x9_4 > 0
                                      · rw [if_pos c26] at H
                                        have c26b0 : decide (0 < x9_4) = true := decide_eq_true c26
                                        clear c26
                                        obtain ⟨ji27, hji27⟩ : ∃ j_ : Int, (wrap64 (x9_4 - 1)) = j_ := ⟨_, rfl⟩
                                        replace H : (if 0 ≤ (ji27) then (if (ji27) < (x4_2.length : Int) then ((spec_dbLess.f k4 y135 (rd_L1 x4_2 (ji27))).bind fun t137 => (if t137 = true then (spec_HeapsBefore.l2 k4 l0 x4_2 x16_1 y135 ji27 (l0.length : Int) x16_1 l0 (l0.length : Int) x21_2) else ((spec_l1Same.f k4 (rd_L1 x4_2 (ji27)) y135).bind fun t139 => (if t139 = true then (spec_HeapsBefore.l1 k4 l0 x4_2 x16_1 (l0.length : Int) x16_1 l0 (l0.length : Int) (wrap64 (x21_2 + 1))) else ((some (([] : List (List Int)) : List (List Int))).bind fun y140 => (if 0 ≤ x9_4 then (if x9_4 ≤ (x4_2.length : Int) then ((some (x4_2.take (x9_4 : Int).toNat : List (List Int))).bind fun y143 => (if y140.length + y143.length < 5864062014805 then ((some (y140 ++ y143 : List (List Int))).bind fun y148 => (if y148.length < 5864062014805 then ((some (y148 ++ [y135] : List (List Int))).bind fun y151 => ((some (x4_2.drop (x9_4 : Int).toNat : List (List Int))).bind fun y154 => (if y151.length + y154.length < 5864062014805 then (spec_HeapsBefore.l1 k4 l0 (y151 ++ y154) x16_1 (l0.length : Int) x16_1 l0 (l0.length : Int) (wrap64 (x21_2 + 1))) else (none)))) else (none))) else (none))) else (none)) else (none))))))) else (none)) else (none)) = some (r1, r2) := by first | (rw [hji27] at H; exact H) | (simp only [hji27] at H ⊢; exact H)
                                        have hji27w : (IntKind.i64.wrap (x9_4 - 1)) = ji27 := (i64_w _).trans hji27
                                        by_cases c28 : 0 ≤ (ji27)
                                        · rw [if_pos c28] at H
                                          have c28b0 : decide (0 ≤ (ji27)) = true := decide_eq_true c28
                                          clear c28
                                          by_cases c29 : (ji27) < (x4_2.length : Int)
                                          · rw [if_pos c29] at H
                                            have c29b0 : decide ((ji27) < (x4_2.length : Int)) = true := decide_eq_true c29
                                            clear c29
                                            replace H := Option.bind_eq_some_iff.mp H
                                            obtain ⟨t137, A300, H⟩ := H
                                            replace H : (if t137 = true then (spec_HeapsBefore.l2 k4 l0 x4_2 x16_1 y135 ji27 (l0.length : Int) x16_1 l0 (l0.length : Int) x21_2) else ((spec_l1Same.f k4 (rd_L1 x4_2 (ji27)) y135).bind fun t139 => (if t139 = true then (spec_HeapsBefore.l1 k4 l0 x4_2 x16_1 (l0.length : Int) x16_1 l0 (l0.length : Int) (wrap64 (x21_2 + 1))) else ((some (([] : List (List Int)) : List (List Int))).bind fun y140 => (if 0 ≤ x9_4 then (if x9_4 ≤ (x4_2.length : Int) then ((some (x4_2.take (x9_4 : Int).toNat : List (List Int))).bind fun y143 => (if y140.length + y143.length < 5864062014805 then ((some (y140 ++ y143 : List (List Int))).bind fun y148 => (if y148.length < 5864062014805 then ((some (y148 ++ [y135] : List (List Int))).bind fun y151 => ((some (x4_2.drop (x9_4 : Int).toNat : List (List Int))).bind fun y154 => (if y151.length + y154.length < 5864062014805 then (spec_HeapsBefore.l1 k4 l0 (y151 ++ y154) x16_1 (l0.length : Int) x16_1 l0 (l0.length : Int) (wrap64 (x21_2 + 1))) else (none)))) else (none))) else (none))) else (none)) else (none)))))) = some (r1, r2) := H
                                            have A30 := Aside0.mk A300
                                            clear A300
                                            by_cases c31 : t137 = true
                                            · subst c31
                                              have H1 : (spec_HeapsBefore.l2 k4 l0 x4_2 x16_1 y135 ji27 (l0.length : Int) x16_1 l0 (l0.length : Int) x21_2) = some (r1, r2) := by rw [if_pos rfl] at H; exact H
                                              clear H
                                              have H := H1
                                              clear H1
                                              have H' := Aside0.mk H
                                              clear H
                                              have p136 : 0 ≤ ((ji27) : Int) := of_decide_eq_true (by first | (with_reducible assumption) | assumption)
                                              have q136 : (ji27) < (x4_2.length : Int) := of_decide_eq_true (by first | (with_reducible assumption) | assumption)
                                              obtain ⟨ad136, A136_0, c136_0, e136, hx136_0, hl136_0, hi136_0⟩ := at_L1 (Kd.N_reads' HO_4.out).2.2 (ji27) p136 q136
                                              cases e136
                                              obtain ⟨ce136, hce136, hMe136, hcc136⟩ := Kd.N_get HO_4.out [] (ji27) p136 (by first | exact q136 | exact of_decide_eq_true (by first | (with_reducible assumption) | assumption) | (have e_ := (Kd.N_reads' HO_4.out).1; omega))
                                              obtain ⟨ua136_0, uc136_0, rfl, ul136_0, ge136_0⟩ := Kd.FK_slice_open hMe136
                                              have hv136_0 := hcc136 0 _ rfl
                                              rw [Nat.add_zero, show ((Kd.slice 3 (Kd.int .i64))).sz = 1 from rfl, Nat.mul_one] at hv136_0
                                              replace hv136_0 := Option.some.inj (hv136_0.symm.trans hx136_0)
                                              injection hv136_0 with hva_ hvn_ hvc_
                                              rw [hva_] at ge136_0
                                              rw [hvc_] at ul136_0
                                              have HL136_0 := Aside0.mk (show Kd.V (Kd.int .i64) 3 _ w.heap.size _ _ (rd_L1 x4_2 (ji27)) from Kd.V_mk ul136_0 ge136_0)
                                              clear hva_ hvn_ hvc_ ge136_0 ul136_0
                                              clear hcc136 hce136
                                              have HR136_0 := Aside0.mk hi136_0
                                              have HC136_0 := Aside0.mk hl136_0
                                              clear hi136_0 hl136_0
                                              replace p136 := eq_true p136
                                              replace q136 := eq_true q136
                                              go_wp2_with (first | (go_at_call 14; (with_reducible refine (spec_dbLess.calls k4 _ _ y135 _ _ (rd_L1 x4_2 (ji27)) true _ ?side1 ?side2 ?side3 ?side4 A30.out).mono ?_); (case side1 => repeat (first | exact (Kd.R_reads' HO_8.out).2.2 | (with_reducible refine Kd.C_alloc ?_ _) | (with_reducible refine Kd.C_drewN ?_ _) | (with_reducible refine Kd.C_drew ?_))); (case side2 => exact (Kd.R_reads' HO_8.out).2.1); (case side3 => repeat (first | exact (by repeat (first | (with_reducible exact HR136_0.out) | (with_reducible refine Kd.C_alloc ?_ _) | (with_reducible refine Kd.C_drewN ?_ _) | (with_reducible refine Kd.C_drew ?_) | exact HR136_0.out)) | (with_reducible refine Kd.C_alloc ?_ _) | (with_reducible refine Kd.C_drewN ?_ _) | (with_reducible refine Kd.C_drew ?_))); (case side4 => exact HC136_0.out); rintro e w' ⟨rfl, ⟨nd, rfl⟩⟩))
                                              (try simp only [← hl8_4])
                                              go_roundg k4
                                              case measure => have := HK1.out; have := HK2.out; have := HJ7.out; have := HK4.out; omega
                                              case rel => exact ⟨(ji27), (by first | rfl | (simp; done) | (simp only [← hji27] <;> (first | rfl | simp)) | (simp [*]; done)), H', ⟨by have := HK1.out; have := HK2.out; have := HJ7.out; have := HK4.out; omega⟩, ⟨by (try simp only [hl8_4]); (with_reducible repeat (first | apply Kd.N_alloc | apply Kd.N_drewN | apply Kd.N_drew)); exact HO_4.out⟩, ⟨by (try simp only [hl8_4]); (with_reducible repeat (first | apply Kd.R_alloc | apply Kd.R_drewN | apply Kd.R_drew)); exact HO_8.out⟩, ⟨by repeat (first | (with_reducible first | exact HB.out | apply below_alloc | apply pw_below_drewN | apply below_drew1) | exact HB.out)⟩⟩
                                            · replace c31 := Bool.eq_false_iff.mpr c31
                                              subst c31
                                              have H1 : ((spec_l1Same.f k4 (rd_L1 x4_2 (ji27)) y135).bind fun t139 => (if t139 = true then (spec_HeapsBefore.l1 k4 l0 x4_2 x16_1 (l0.length : Int) x16_1 l0 (l0.length : Int) (wrap64 (x21_2 + 1))) else ((some (([] : List (List Int)) : List (List Int))).bind fun y140 => (if 0 ≤ x9_4 then (if x9_4 ≤ (x4_2.length : Int) then ((some (x4_2.take (x9_4 : Int).toNat : List (List Int))).bind fun y143 => (if y140.length + y143.length < 5864062014805 then ((some (y140 ++ y143 : List (List Int))).bind fun y148 => (if y148.length < 5864062014805 then ((some (y148 ++ [y135] : List (List Int))).bind fun y151 => ((some (x4_2.drop (x9_4 : Int).toNat : List (List Int))).bind fun y154 => (if y151.length + y154.length < 5864062014805 then (spec_HeapsBefore.l1 k4 l0 (y151 ++ y154) x16_1 (l0.length : Int) x16_1 l0 (l0.length : Int) (wrap64 (x21_2 + 1))) else (none)))) else (none))) else (none))) else (none)) else (none))))) = some (r1, r2) := by rw [if_neg (show ¬ (false = true) by decide)] at H; exact H
                                              clear H
                                              have H := H1
                                              clear H1
                                              replace H := Option.bind_eq_some_iff.mp H
                                              obtain ⟨t139, A320, H⟩ := H
                                              replace H : (if t139 = true then (spec_HeapsBefore.l1 k4 l0 x4_2 x16_1 (l0.length : Int) x16_1 l0 (l0.length : Int) (wrap64 (x21_2 + 1))) else ((some (([] : List (List Int)) : List (List Int))).bind fun y140 => (if 0 ≤ x9_4 then (if x9_4 ≤ (x4_2.length : Int) then ((some (x4_2.take (x9_4 : Int).toNat : List (List Int))).bind fun y143 => (if y140.length + y143.length < 5864062014805 then ((some (y140 ++ y143 : List (List Int))).bind fun y148 => (if y148.length < 5864062014805 then ((some (y148 ++ [y135] : List (List Int))).bind fun y151 => ((some (x4_2.drop (x9_4 : Int).toNat : List (List Int))).bind fun y154 => (if y151.length + y154.length < 5864062014805 then (spec_HeapsBefore.l1 k4 l0 (y151 ++ y154) x16_1 (l0.length : Int) x16_1 l0 (l0.length : Int) (wrap64 (x21_2 + 1))) else (none)))) else (none))) else (none))) else (none)) else (none)))) = some (r1, r2) := H
                                              have A32 := Aside0.mk A320
                                              clear A320
                                              by_cases c33 : t139 = true
                                              · subst c33
                                                have H1 : (spec_HeapsBefore.l1 k4 l0 x4_2 x16_1 (l0.length : Int) x16_1 l0 (l0.length : Int) (wrap64 (x21_2 + 1))) = some (r1, r2) := by rw [if_pos rfl] at H; exact H
                                                clear H
                                                have H := H1
                                                clear H1
                                                have H' := Aside0.mk H
                                                clear H
                                                have p136 : 0 ≤ ((ji27) : Int) := of_decide_eq_true (by first | (with_reducible assumption) | assumption)
                                                have q136 : (ji27) < (x4_2.length : Int) := of_decide_eq_true (by first | (with_reducible assumption) | assumption)
                                                obtain ⟨ad136, A136_0, c136_0, e136, hx136_0, hl136_0, hi136_0⟩ := at_L1 (Kd.N_reads' HO_4.out).2.2 (ji27) p136 q136
                                                cases e136
                                                obtain ⟨ce136, hce136, hMe136, hcc136⟩ := Kd.N_get HO_4.out [] (ji27) p136 (by first | exact q136 | exact of_decide_eq_true (by first | (with_reducible assumption) | assumption) | (have e_ := (Kd.N_reads' HO_4.out).1; omega))
                                                obtain ⟨ua136_0, uc136_0, rfl, ul136_0, ge136_0⟩ := Kd.FK_slice_open hMe136
                                                have hv136_0 := hcc136 0 _ rfl
                                                rw [Nat.add_zero, show ((Kd.slice 3 (Kd.int .i64))).sz = 1 from rfl, Nat.mul_one] at hv136_0
                                                replace hv136_0 := Option.some.inj (hv136_0.symm.trans hx136_0)
                                                injection hv136_0 with hva_ hvn_ hvc_
                                                rw [hva_] at ge136_0
                                                rw [hvc_] at ul136_0
                                                have HL136_0 := Aside0.mk (show Kd.V (Kd.int .i64) 3 _ w.heap.size _ _ (rd_L1 x4_2 (ji27)) from Kd.V_mk ul136_0 ge136_0)
                                                clear hva_ hvn_ hvc_ ge136_0 ul136_0
                                                clear hcc136 hce136
                                                have HR136_0 := Aside0.mk hi136_0
                                                have HC136_0 := Aside0.mk hl136_0
                                                clear hi136_0 hl136_0
                                                replace p136 := eq_true p136
                                                replace q136 := eq_true q136
                                                go_wp2_with (first | (go_at_call 14; (with_reducible refine (spec_dbLess.calls k4 _ _ y135 _ _ (rd_L1 x4_2 (ji27)) false _ ?side1 ?side2 ?side3 ?side4 A30.out).mono ?_); (case side1 => repeat (first | exact (Kd.R_reads' HO_8.out).2.2 | (with_reducible refine Kd.C_alloc ?_ _) | (with_reducible refine Kd.C_drewN ?_ _) | (with_reducible refine Kd.C_drew ?_))); (case side2 => exact (Kd.R_reads' HO_8.out).2.1); (case side3 => repeat (first | exact (by repeat (first | (with_reducible exact HR136_0.out) | (with_reducible refine Kd.C_alloc ?_ _) | (with_reducible refine Kd.C_drewN ?_ _) | (with_reducible refine Kd.C_drew ?_) | exact HR136_0.out)) | (with_reducible refine Kd.C_alloc ?_ _) | (with_reducible refine Kd.C_drewN ?_ _) | (with_reducible refine Kd.C_drew ?_))); (case side4 => exact HC136_0.out); rintro e w' ⟨rfl, ⟨nd, rfl⟩⟩; have p138 : 0 ≤ ((ji27) : Int) := of_decide_eq_true (by first | (with_reducible assumption) | assumption); have q138 : (ji27) < (x4_2.length : Int) := of_decide_eq_true (by first | (with_reducible assumption) | assumption); obtain ⟨ad138, A138_0, c138_0, e138, hx138_0, hl138_0, hi138_0⟩ := at_L1 (Kd.N_reads' HO_4.out).2.2 (ji27) p138 q138; obtain rfl : ad136 = ad138 := (by injection e138); obtain ⟨ce138, hce138, hMe138, hcc138⟩ := Kd.N_get HO_4.out [] (ji27) p138 (by first | exact q138 | exact of_decide_eq_true (by first | (with_reducible assumption) | assumption) | (have e_ := (Kd.N_reads' HO_4.out).1; omega)); obtain ⟨ua138_0, uc138_0, rfl, ul138_0, ge138_0⟩ := Kd.FK_slice_open hMe138; have hv138_0 := hcc138 0 _ rfl; rw [Nat.add_zero, show ((Kd.slice 3 (Kd.int .i64))).sz = 1 from rfl, Nat.mul_one] at hv138_0; replace hv138_0 := Option.some.inj (hv138_0.symm.trans hx138_0); injection hv138_0 with hva_ hvn_ hvc_; rw [hva_] at ge138_0; rw [hvc_] at ul138_0; have HL138_0 := Aside0.mk (show Kd.V (Kd.int .i64) 3 _ w.heap.size _ _ (rd_L1 x4_2 (ji27)) from Kd.V_mk ul138_0 ge138_0); clear hva_ hvn_ hvc_ ge138_0 ul138_0; clear hcc138 hce138; have HR138_0 := Aside0.mk hi138_0; have HC138_0 := Aside0.mk hl138_0; clear hi138_0 hl138_0; replace p138 := eq_true p138; replace q138 := eq_true q138; have ea_ := Option.some.inj (hx136_0.symm.trans hx138_0); injection ea_ with ea_ en_ ec_; subst ea_; subst ec_; clear en_) | (go_at_call 15; (with_reducible refine (spec_l1Same.calls k4 _ _ (rd_L1 x4_2 (ji27)) _ _ y135 true _ ?side1 ?side2 ?side3 ?side4 A32.out).mono ?_); (case side1 => repeat (first | exact (by repeat (first | (with_reducible exact HR138_0.out) | (with_reducible refine Kd.C_alloc ?_ _) | (with_reducible refine Kd.C_drewN ?_ _) | (with_reducible refine Kd.C_drew ?_) | exact HR138_0.out)) | (with_reducible refine Kd.C_alloc ?_ _) | (with_reducible refine Kd.C_drewN ?_ _) | (with_reducible refine Kd.C_drew ?_))); (case side2 => exact HC138_0.out); (case side3 => repeat (first | exact (Kd.R_reads' HO_8.out).2.2 | (with_reducible refine Kd.C_alloc ?_ _) | (with_reducible refine Kd.C_drewN ?_ _) | (with_reducible refine Kd.C_drew ?_))); (case side4 => exact (Kd.R_reads' HO_8.out).2.1); rintro e w' ⟨rfl, ⟨nd, rfl⟩⟩))
                                                (try simp only [← hl8_4])
                                                go_roundg k4
                                                case measure => have := HK1.out; have := HK2.out; have := HJ7.out; have := HK4.out; omega
                                                case rel => exact ⟨(x4_2), (wrap64 (x21_2 + 1)), (by first | rfl | (simp; done) | (simp [*]; done)), H', ⟨by have := HK1.out; have := HK2.out; have := HJ7.out; have := HK4.out; omega⟩, ⟨by (try simp only [hl8_4]); (with_reducible repeat (first | apply Kd.N_alloc | apply Kd.N_drewN | apply Kd.N_drew)); exact Kd.N_mono HO_4.out (fun _ hk => hk.1)⟩, ⟨by repeat (first | (with_reducible first | exact HB.out | apply below_alloc | apply pw_below_drewN | apply below_drew1) | exact HB.out)⟩⟩
                                              · replace c33 := Bool.eq_false_iff.mpr c33
                                                subst c33
                                                have H1 : ((some (([] : List (List Int)) : List (List Int))).bind fun y140 => (if 0 ≤ x9_4 then (if x9_4 ≤ (x4_2.length : Int) then ((some (x4_2.take (x9_4 : Int).toNat : List (List Int))).bind fun y143 => (if y140.length + y143.length < 5864062014805 then ((some (y140 ++ y143 : List (List Int))).bind fun y148 => (if y148.length < 5864062014805 then ((some (y148 ++ [y135] : List (List Int))).bind fun y151 => ((some (x4_2.drop (x9_4 : Int).toNat : List (List Int))).bind fun y154 => (if y151.length + y154.length < 5864062014805 then (spec_HeapsBefore.l1 k4 l0 (y151 ++ y154) x16_1 (l0.length : Int) x16_1 l0 (l0.length : Int) (wrap64 (x21_2 + 1))) else (none)))) else (none))) else (none))) else (none)) else (none))) = some (r1, r2) := by rw [if_neg (show ¬ (false = true) by decide)] at H; exact H
                                                clear H
                                                have H := H1
                                                clear H1
                                                obtain ⟨y140, hy140⟩ : ∃ y_ : List (List Int), y_ = (([] : List (List Int))) := ⟨_, rfl⟩
                                                replace H : (if 0 ≤ x9_4 then (if x9_4 ≤ (x4_2.length : Int) then ((some (x4_2.take (x9_4 : Int).toNat : List (List Int))).bind fun y143 => (if y140.length + y143.length < 5864062014805 then ((some (y140 ++ y143 : List (List Int))).bind fun y148 => (if y148.length < 5864062014805 then ((some (y148 ++ [y135] : List (List Int))).bind fun y151 => ((some (x4_2.drop (x9_4 : Int).toNat : List (List Int))).bind fun y154 => (if y151.length + y154.length < 5864062014805 then (spec_HeapsBefore.l1 k4 l0 (y151 ++ y154) x16_1 (l0.length : Int) x16_1 l0 (l0.length : Int) (wrap64 (x21_2 + 1))) else (none)))) else (none))) else (none))) else (none)) else (none)) = some (r1, r2) := by first | (rw [hy140]; with_reducible exact H) | (have H2_ := (Option.bind_some _ _).symm.trans H; rw [hy140]; with_reducible exact H2_) | (have H2_ := (Option.bind_some _ _).symm.trans H; with_reducible exact H2_) | with_reducible exact H | (rw [hy140]; exact H) | exact H
                                                have Ny140 := Aside0.mk hy140
                                                clear hy140
                                                by_cases c34 : 0 ≤ x9_4
                                                · rw [if_pos c34] at H
                                                  have c34b0 := eq_true c34
                                                  have c34b1 : decide (0 ≤ x9_4) = true := decide_eq_true c34
                                                  clear c34
                                                  by_cases c35 : x9_4 ≤ (x4_2.length : Int)
                                                  · rw [if_pos c35] at H
                                                    have c35b0 := eq_true c35
                                                    have c35b1 : decide (x9_4 ≤ (x4_2.length : Int)) = true := decide_eq_true c35
                                                    clear c35
                                                    obtain ⟨y143, hy143⟩ : ∃ y_ : List (List Int), y_ = (x4_2.take (x9_4 : Int).toNat) := ⟨_, rfl⟩
                                                    replace H : (if y140.length + y143.length < 5864062014805 then ((some (y140 ++ y143 : List (List Int))).bind fun y148 => (if y148.length < 5864062014805 then ((some (y148 ++ [y135] : List (List Int))).bind fun y151 => ((some (x4_2.drop (x9_4 : Int).toNat : List (List Int))).bind fun y154 => (if y151.length + y154.length < 5864062014805 then (spec_HeapsBefore.l1 k4 l0 (y151 ++ y154) x16_1 (l0.length : Int) x16_1 l0 (l0.length : Int) (wrap64 (x21_2 + 1))) else (none)))) else (none))) else (none)) = some (r1, r2) := by first | (rw [hy143]; with_reducible exact H) | (have H2_ := (Option.bind_some _ _).symm.trans H; rw [hy143]; with_reducible exact H2_) | (have H2_ := (Option.bind_some _ _).symm.trans H; with_reducible exact H2_) | with_reducible exact H | (rw [hy143]; exact H) | exact H
                                                    have Ny143 := Aside0.mk hy143
                                                    clear hy143
                                                    by_cases c36 : y140.length + y143.length < 5864062014805
                                                    · rw [if_pos c36] at H
                                                      have LMc36 := Aside0.mk c36
                                                      clear c36
                                                      obtain ⟨y148, hy148⟩ : ∃ y_ : List (List Int), y_ = (y140 ++ y143) := ⟨_, rfl⟩
                                                      replace H : (if y148.length < 5864062014805 then ((some (y148 ++ [y135] : List (List Int))).bind fun y151 => ((some (x4_2.drop (x9_4 : Int).toNat : List (List Int))).bind fun y154 => (if y151.length + y154.length < 5864062014805 then (spec_HeapsBefore.l1 k4 l0 (y151 ++ y154) x16_1 (l0.length : Int) x16_1 l0 (l0.length : Int) (wrap64 (x21_2 + 1))) else (none)))) else (none)) = some (r1, r2) := by first | (rw [hy148]; with_reducible exact H) | (have H2_ := (Option.bind_some _ _).symm.trans H; rw [hy148]; with_reducible exact H2_) | (have H2_ := (Option.bind_some _ _).symm.trans H; with_reducible exact H2_) | with_reducible exact H | (rw [hy148]; exact H) | exact H
                                                      have Ny148 := Aside0.mk hy148
                                                      clear hy148
                                                      by_cases c37 : y148.length < 5864062014805
                                                      · rw [if_pos c37] at H
                                                        have LMc37 := Aside0.mk c37
                                                        clear c37
                                                        obtain ⟨y151, hy151⟩ : ∃ y_ : List (List Int), y_ = (y148 ++ [y135]) := ⟨_, rfl⟩
                                                        replace H : ((some (x4_2.drop (x9_4 : Int).toNat : List (List Int))).bind fun y154 => (if y151.length + y154.length < 5864062014805 then (spec_HeapsBefore.l1 k4 l0 (y151 ++ y154) x16_1 (l0.length : Int) x16_1 l0 (l0.length : Int) (wrap64 (x21_2 + 1))) else (none))) = some (r1, r2) := by first | (rw [hy151]; with_reducible exact H) | (have H2_ := (Option.bind_some _ _).symm.trans H; rw [hy151]; with_reducible exact H2_) | (have H2_ := (Option.bind_some _ _).symm.trans H; with_reducible exact H2_) | with_reducible exact H | (rw [hy151]; exact H) | exact H
                                                        have Ny151 := Aside0.mk hy151
                                                        clear hy151
                                                        have c38b0 := eq_true (of_decide_eq_true (by first | (with_reducible assumption) | assumption) : 0 ≤ x9_4)
                                                        have c39b0 := eq_true (of_decide_eq_true (by first | (with_reducible assumption) | assumption) : x9_4 ≤ (x4_2.length : Int))
                                                        obtain ⟨y154, hy154⟩ : ∃ y_ : List (List Int), y_ = (x4_2.drop (x9_4 : Int).toNat) := ⟨_, rfl⟩
                                                        replace H : (if y151.length + y154.length < 5864062014805 then (spec_HeapsBefore.l1 k4 l0 (y151 ++ y154) x16_1 (l0.length : Int) x16_1 l0 (l0.length : Int) (wrap64 (x21_2 + 1))) else (none)) = some (r1, r2) := by first | (rw [hy154]; with_reducible exact H) | (have H2_ := (Option.bind_some _ _).symm.trans H; rw [hy154]; with_reducible exact H2_) | (have H2_ := (Option.bind_some _ _).symm.trans H; with_reducible exact H2_) | with_reducible exact H | (rw [hy154]; exact H) | exact H
                                                        have Ny154 := Aside0.mk hy154
                                                        clear hy154
                                                        by_cases c40 : y151.length + y154.length < 5864062014805
                                                        · rw [if_pos c40] at H
                                                          have LMc40 := Aside0.mk c40
                                                          clear c40
                                                          obtain ⟨y159, hy159⟩ : ∃ y_ : List (List Int), y_ = (y151 ++ y154) := ⟨_, rfl⟩
                                                          replace H : (spec_HeapsBefore.l1 k4 l0 y159 x16_1 (l0.length : Int) x16_1 l0 (l0.length : Int) (wrap64 (x21_2 + 1))) = some (r1, r2) := by first | (rw [hy159]; with_reducible exact H) | (have H2_ := (Option.bind_some _ _).symm.trans H; rw [hy159]; with_reducible exact H2_) | (have H2_ := (Option.bind_some _ _).symm.trans H; with_reducible exact H2_) | with_reducible exact H | (rw [hy159]; exact H) | exact H
                                                          have Ny159 := Aside0.mk hy159
                                                          clear hy159
                                                          have H' := Aside0.mk H
                                                          clear H
                                                          have p136 : 0 ≤ ((ji27) : Int) := of_decide_eq_true (by first | (with_reducible assumption) | assumption)
                                                          have q136 : (ji27) < (x4_2.length : Int) := of_decide_eq_true (by first | (with_reducible assumption) | assumption)
                                                          obtain ⟨ad136, A136_0, c136_0, e136, hx136_0, hl136_0, hi136_0⟩ := at_L1 (Kd.N_reads' HO_4.out).2.2 (ji27) p136 q136
                                                          cases e136
                                                          obtain ⟨ce136, hce136, hMe136, hcc136⟩ := Kd.N_get HO_4.out [] (ji27) p136 (by first | exact q136 | exact of_decide_eq_true (by first | (with_reducible assumption) | assumption) | (have e_ := (Kd.N_reads' HO_4.out).1; omega))
                                                          obtain ⟨ua136_0, uc136_0, rfl, ul136_0, ge136_0⟩ := Kd.FK_slice_open hMe136
                                                          have hv136_0 := hcc136 0 _ rfl
                                                          rw [Nat.add_zero, show ((Kd.slice 3 (Kd.int .i64))).sz = 1 from rfl, Nat.mul_one] at hv136_0
                                                          replace hv136_0 := Option.some.inj (hv136_0.symm.trans hx136_0)
                                                          injection hv136_0 with hva_ hvn_ hvc_
                                                          rw [hva_] at ge136_0
                                                          rw [hvc_] at ul136_0
                                                          have HL136_0 := Aside0.mk (show Kd.V (Kd.int .i64) 3 _ w.heap.size _ _ (rd_L1 x4_2 (ji27)) from Kd.V_mk ul136_0 ge136_0)
                                                          clear hva_ hvn_ hvc_ ge136_0 ul136_0
                                                          clear hcc136 hce136
                                                          have HR136_0 := Aside0.mk hi136_0
                                                          have HC136_0 := Aside0.mk hl136_0
                                                          clear hi136_0 hl136_0
                                                          replace p136 := eq_true p136
                                                          replace q136 := eq_true q136
                                                          go_wp2_with (first | (go_at_call 14; (with_reducible refine (spec_dbLess.calls k4 _ _ y135 _ _ (rd_L1 x4_2 (ji27)) false _ ?side1 ?side2 ?side3 ?side4 A30.out).mono ?_); (case side1 => repeat (first | exact (Kd.R_reads' HO_8.out).2.2 | (with_reducible refine Kd.C_alloc ?_ _) | (with_reducible refine Kd.C_drewN ?_ _) | (with_reducible refine Kd.C_drew ?_))); (case side2 => exact (Kd.R_reads' HO_8.out).2.1); (case side3 => repeat (first | exact (by repeat (first | (with_reducible exact HR136_0.out) | (with_reducible refine Kd.C_alloc ?_ _) | (with_reducible refine Kd.C_drewN ?_ _) | (with_reducible refine Kd.C_drew ?_) | exact HR136_0.out)) | (with_reducible refine Kd.C_alloc ?_ _) | (with_reducible refine Kd.C_drewN ?_ _) | (with_reducible refine Kd.C_drew ?_))); (case side4 => exact HC136_0.out); rintro e w' ⟨rfl, ⟨nd, rfl⟩⟩; have p138 : 0 ≤ ((ji27) : Int) := of_decide_eq_true (by first | (with_reducible assumption) | assumption); have q138 : (ji27) < (x4_2.length : Int) := of_decide_eq_true (by first | (with_reducible assumption) | assumption); obtain ⟨ad138, A138_0, c138_0, e138, hx138_0, hl138_0, hi138_0⟩ := at_L1 (Kd.N_reads' HO_4.out).2.2 (ji27) p138 q138; obtain rfl : ad136 = ad138 := (by injection e138); obtain ⟨ce138, hce138, hMe138, hcc138⟩ := Kd.N_get HO_4.out [] (ji27) p138 (by first | exact q138 | exact of_decide_eq_true (by first | (with_reducible assumption) | assumption) | (have e_ := (Kd.N_reads' HO_4.out).1; omega)); obtain ⟨ua138_0, uc138_0, rfl, ul138_0, ge138_0⟩ := Kd.FK_slice_open hMe138; have hv138_0 := hcc138 0 _ rfl; rw [Nat.add_zero, show ((Kd.slice 3 (Kd.int .i64))).sz = 1 from rfl, Nat.mul_one] at hv138_0; replace hv138_0 := Option.some.inj (hv138_0.symm.trans hx138_0); injection hv138_0 with hva_ hvn_ hvc_; rw [hva_] at ge138_0; rw [hvc_] at ul138_0; have HL138_0 := Aside0.mk (show Kd.V (Kd.int .i64) 3 _ w.heap.size _ _ (rd_L1 x4_2 (ji27)) from Kd.V_mk ul138_0 ge138_0); clear hva_ hvn_ hvc_ ge138_0 ul138_0; clear hcc138 hce138; have HR138_0 := Aside0.mk hi138_0; have HC138_0 := Aside0.mk hl138_0; clear hi138_0 hl138_0; replace p138 := eq_true p138; replace q138 := eq_true q138; have ea_ := Option.some.inj (hx136_0.symm.trans hx138_0); injection ea_ with ea_ en_ ec_; subst ea_; subst ec_; clear en_) | (go_at_call 15; (with_reducible refine (spec_l1Same.calls k4 _ _ (rd_L1 x4_2 (ji27)) _ _ y135 false _ ?side1 ?side2 ?side3 ?side4 A32.out).mono ?_); (case side1 => repeat (first | exact (by repeat (first | (with_reducible exact HR138_0.out) | (with_reducible refine Kd.C_alloc ?_ _) | (with_reducible refine Kd.C_drewN ?_ _) | (with_reducible refine Kd.C_drew ?_) | exact HR138_0.out)) | (with_reducible refine Kd.C_alloc ?_ _) | (with_reducible refine Kd.C_drewN ?_ _) | (with_reducible refine Kd.C_drew ?_))); (case side2 => exact HC138_0.out); (case side3 => repeat (first | exact (Kd.R_reads' HO_8.out).2.2 | (with_reducible refine Kd.C_alloc ?_ _) | (with_reducible refine Kd.C_drewN ?_ _) | (with_reducible refine Kd.C_drew ?_))); (case side4 => exact (Kd.R_reads' HO_8.out).2.1); rintro e w' ⟨rfl, ⟨nd, rfl⟩⟩) | ((with_reducible refine gate_dst (N := 79) rfl ?_); refine Kd.N_lit (Kd.slice 3 (Kd.int .i64)) _ 22 ?hg (N' := 79) ?hd (xs := ([] : List (List Int))) (inner := []) (ok := (fun k_ => (w.heap.size ≤ k_) ∧ some k_ ≠ (.slice (some ad136) x4_2.length co25 : Value).ownBlock ∧ some k_ ≠ (.slice (some ⟨go15, 0, none⟩) y135.length co20 : Value).ownBlock)) (okp := (fun k_ => (w.heap.size ≤ k_) ∧ some k_ ≠ (.slice (some ad136) x4_2.length co25 : Value).ownBlock ∧ some k_ ≠ (.slice (some ⟨go15, 0, none⟩) y135.length co20 : Value).ownBlock)) ?hr ?hp (fun _ hk => hk) ((show ∀ k_, wr.heap.size ≤ k_ → (fun k_ => (w.heap.size ≤ k_) ∧ some k_ ≠ (.slice (some ad136) x4_2.length co25 : Value).ownBlock ∧ some k_ ≠ (.slice (some ⟨go15, 0, none⟩) y135.length co20 : Value).ownBlock) k_ from fun k_ hk => ⟨(Nat.le_trans (below_size (by repeat (first | (with_reducible first | exact HB.out | apply below_alloc | apply pw_below_drewN | apply below_drew1) | exact HB.out))) hk), Kd.fresh' (Kd.N_lt (by (with_reducible repeat (first | apply Kd.N_alloc | apply Kd.N_drewN | apply Kd.N_drew)); exact HO_4.out)) k_ hk, Kd.fresh' (Kd.R_lt (by (with_reducible repeat (first | apply Kd.R_alloc | apply Kd.R_drewN | apply Kd.R_drew)); exact HO_8.out)) k_ hk⟩) _ (Nat.le_refl _)) (Below.refl _ _) (Nat.le_refl _) (by simp) ?_; (case hd => rfl); (case hg => rfl); (case hr => first | (go_simp; done) | (go_simp; rfl)); (case hp => exact (Reps.none _ _)); intro v141 w41 ho42 hb hg_ hnew_; clear hg_ hnew_; (first | rw [← Ny140.out] at ho42 | (simp only [Int.reduceToNat] at ho42; rw [← Ny140.out] at ho42)); have n0_ := Aside0.mk (Kd.N_elder' (by (with_reducible repeat (first | apply Kd.N_alloc | apply Kd.N_drewN | apply Kd.N_drew)); exact HO_4.out) (Kd.N_base ho42) hb); have n1_ := Aside0.mk (Kd.R_below (by (with_reducible repeat (first | apply Kd.R_alloc | apply Kd.R_drewN | apply Kd.R_drew)); exact HO_8.out) hb); have n2_ := Aside0.mk (Kd.V_elder' (by (with_reducible repeat (first | apply Kd.V_alloc | apply Kd.V_drewN | apply Kd.V_drew)); exact HL136_0.out) (Kd.N_base ho42) hb); have n3_ := Aside0.mk (Kd.V_elder' (by (with_reducible repeat (first | apply Kd.V_alloc | apply Kd.V_drewN | apply Kd.V_drew)); exact HL138_0.out) (Kd.N_base ho42) hb); have n4_ := Aside0.mk (Kd.N_lower ho42 (below_size (by repeat (first | (with_reducible first | exact HB.out | apply below_alloc | apply pw_below_drewN | apply below_drew1) | exact HB.out)))); have n5_ := Aside0.mk (Kd.C_below (by repeat (first | (with_reducible exact HR136_0.out) | (with_reducible refine Kd.C_alloc ?_ _) | (with_reducible refine Kd.C_drewN ?_ _) | (with_reducible refine Kd.C_drew ?_) | exact HR136_0.out)) hb); have n6_ := Aside0.mk (Kd.C_below (by repeat (first | (with_reducible exact HR138_0.out) | (with_reducible refine Kd.C_alloc ?_ _) | (with_reducible refine Kd.C_drewN ?_ _) | (with_reducible refine Kd.C_drew ?_) | exact HR138_0.out)) hb); have n7_ := Aside0.mk (below_step (by repeat (first | (with_reducible first | exact HB.out | apply below_alloc | apply pw_below_drewN | apply below_drew1) | exact HB.out)) hb); clear HO_4; clear HO_8; clear HL136_0; clear HL138_0; clear HR136_0; clear HR138_0; clear HB; have HO_4 := n0_; have HO_8 := n1_; have HL136_0 := n2_; have HL138_0 := n3_; have HO142 := n4_; have HR136_0 := n5_; have HR138_0 := n6_; have HB := n7_; clear n0_ n1_ n2_ n3_ n4_ n5_ n6_ n7_; clear hb ho42; have q43 : (x9_4 : Int) ≤ ((x4_2.length : Int) : Int) := of_decide_eq_true (by first | (with_reducible assumption) | assumption); obtain ⟨i043, hi043, _, hsz43, _⟩ := info_parts info22; have hroom43 : x4_2.length ≤ co25 := (Kd.N_reads' HO_4.out).2.1; have hC43 : Kd.F (Kd.slice 3 (Kd.int .i64)) _ _ (some ad136) x4_2.length x4_2 := (Kd.V_at (base := w.heap.size) (Kd.N_V HO_4.out)).2.2; have hcut43 := cut_to (P := Try.prog) 23 22 .i64 Try.underlying23 hi043 (some ad136) x4_2.length co25 x9_4 (of_decide_eq_true (by first | (with_reducible assumption) | assumption)) q43 hroom43; have hr43 := Kd.F_take (m := (x9_4 : Int).toNat) hC43 (by omega); have hy43 : y143.length = (x9_4 : Int).toNat := (by rw [Ny143.out, List.length_take]; omega); rw [← Ny143.out] at hr43; rw [← hy43] at hcut43; have HO147 := Aside0.mk (show Kd.V (Kd.slice 3 (Kd.int .i64)) 22 _ w.heap.size _ (.slice (some ad136) y143.length co25) y143 from Kd.V_mk (by omega) hr43); have HC147 := Aside0.mk (show y143.length ≤ co25 from by omega); clear hr43 hC43 hroom43 hi043 hsz43; have KY43 := Aside0.mk hy43; clear hy43; replace q43 := eq_true q43) | ((with_reducible refine gate_builtin (b := .append) (xs := #[.tmp 79, .tmp 82]) rfl ?_); at_builtin; refine Kd.N_append_rows (Kd.slice 3 (Kd.int .i64)) (w0 := w) w.heap.size rfl (.tmp 79) (.tmp 82) 23 22 (.slice none 0 0) 24 rfl Try.underlying23 info22 rfl (by decide) (by omega) v141 y140 y143 _ _ _ (fun k_ => (w.heap.size ≤ k_) ∧ some k_ ≠ (.slice (some ⟨go15, 0, none⟩) y135.length co20 : Value).ownBlock) (fun k_ => ((fun k_ => (w.heap.size ≤ k_) ∧ some k_ ≠ (.slice (some ⟨go15, 0, none⟩) y135.length co20 : Value).ownBlock)) k_ ∧ some k_ ≠ (v141 : Value).ownBlock) rfl rfl ?aO ?aR (fun _ hk => hk) ?aF ?aB ?aS ?aL ?_; (case aR => exact (by skip; exact Kd.V_F (Kd.V_mono (ok' := (fun k_ => ((fun k_ => (w.heap.size ≤ k_) ∧ some k_ ≠ (.slice (some ⟨go15, 0, none⟩) y135.length co20 : Value).ownBlock)) k_ ∧ some k_ ≠ (v141 : Value).ownBlock)) (HO147.out) (fun k_ hk => ⟨⟨hk.1.1, hk.1.2⟩, hk.2⟩)))); (case aB => exact (by repeat (first | (with_reducible first | exact HB.out | apply below_alloc | apply pw_below_drewN | apply below_drew1) | exact HB.out))); (case aF => exact (fun k_ hk => ⟨(Nat.le_trans (below_size (by repeat (first | (with_reducible first | exact HB.out | apply below_alloc | apply pw_below_drewN | apply below_drew1) | exact HB.out))) hk), Kd.fresh' (Kd.R_lt (by (with_reducible repeat (first | apply Kd.R_alloc | apply Kd.R_drewN | apply Kd.R_drew)); exact HO_8.out)) k_ hk⟩)); (case aO => exact (by (with_reducible repeat (first | apply Kd.N_alloc | apply Kd.N_drewN | apply Kd.N_drew)); exact Kd.N_mono HO142.out (fun _ hk => ⟨hk.1, hk.2.2⟩))); (case aS => exact (below_size (by repeat (first | (with_reducible first | exact HB.out | apply below_alloc | apply pw_below_drewN | apply below_drew1) | exact HB.out)))); (case aL => have := LMc36.out; omega); intro v149 w44 ho hb hg hat; rw [← Ny148.out] at ho; have n0_ := Aside0.mk (Kd.N_afterv (ok := (fun k_ => (w.heap.size ≤ k_) ∧ some k_ ≠ (.slice (some ⟨go15, 0, none⟩) y135.length co20 : Value).ownBlock)) (by (with_reducible repeat (first | apply Kd.N_alloc | apply Kd.N_drewN | apply Kd.N_drew)); exact HO_4.out) hg hat); have n1_ := Aside0.mk (Kd.R_over' (by (with_reducible repeat (first | apply Kd.R_alloc | apply Kd.R_drewN | apply Kd.R_drew)); exact HO_8.out) (Kd.N_typed (by (with_reducible repeat (first | apply Kd.N_alloc | apply Kd.N_drewN | apply Kd.N_drew)); exact HO142.out)) (by decide) hg); have n2_ := Aside0.mk (Kd.V_afterv (ok := (fun k_ => (w.heap.size ≤ k_) ∧ some k_ ≠ (.slice (some ad136) x4_2.length co25 : Value).ownBlock ∧ some k_ ≠ (.slice (some ⟨go15, 0, none⟩) y135.length co20 : Value).ownBlock)) (by (with_reducible repeat (first | apply Kd.V_alloc | apply Kd.V_drewN | apply Kd.V_drew)); exact Kd.V_mono HL136_0.out (fun _ hk => ⟨⟨hk.1.1.1, ⟨hk.1.2, hk.1.1.2⟩⟩, hk.2⟩)) hg hat); have n3_ := Aside0.mk (Kd.V_afterv (ok := (fun k_ => (w.heap.size ≤ k_) ∧ some k_ ≠ (.slice (some ad136) x4_2.length co25 : Value).ownBlock ∧ some k_ ≠ (.slice (some ⟨go15, 0, none⟩) y135.length co20 : Value).ownBlock)) (by (with_reducible repeat (first | apply Kd.V_alloc | apply Kd.V_drewN | apply Kd.V_drew)); exact Kd.V_mono HL138_0.out (fun _ hk => ⟨⟨hk.1.1.1, ⟨hk.1.2, hk.1.1.2⟩⟩, hk.2⟩)) hg hat); have n4_ := Aside0.mk (Kd.V_afterv (ok := (fun k_ => (w.heap.size ≤ k_) ∧ some k_ ≠ (.slice (some ⟨go15, 0, none⟩) y135.length co20 : Value).ownBlock)) (by (with_reducible repeat (first | apply Kd.V_alloc | apply Kd.V_drewN | apply Kd.V_drew)); exact HO147.out) hg hat); have n5_ := Aside0.mk (hb); have n6_ := Aside0.mk (ho); clear HO_4; clear HO_8; clear HL136_0; clear HL138_0; clear HO147; clear HB; clear HO142; have HO_4 := n0_; have HO_8 := n1_; have HL136_0 := n2_; have HL138_0 := n3_; have HO147 := n4_; have HB := n5_; have HO150 := n6_; clear n0_ n1_ n2_ n3_ n4_ n5_ n6_; clear ho hb hg hat) | ((with_reducible refine gate_builtin (b := .append) (xs := #[.tmp 83, .tmp 85]) rfl ?_); at_builtin; refine Kd.N_append (Kd.slice 3 (Kd.int .i64)) (w0 := w) w.heap.size rfl (.tmp 83) (.tmp 85) 23 22 (.slice none 0 0) 24 rfl Try.underlying23 info22 rfl (by decide) (by omega) v149 y148 y135 [.slice (some ⟨go15, 0, none⟩) y135.length co20] (fun k_ => (w.heap.size ≤ k_)) (fun k_ => ((fun k_ => (w.heap.size ≤ k_))) k_ ∧ some k_ ≠ (v149 : Value).ownBlock) rfl rfl ?aP (fun _ hk => hk) ?aF ?aO ?aB ?aS ?aL ?_; (case aP => exact (Kd.FK_slice_mk (Kd.R_reads' (Kd.R_mono (ok' := (fun k_ => ((fun k_ => (w.heap.size ≤ k_))) k_ ∧ some k_ ≠ (v149 : Value).ownBlock)) (Kd.R_apart' (HO_8.out) (Kd.N_typed HO150.out) (by decide)) (fun k_ hk => ⟨hk.1, hk.2⟩))).2.1 (Kd.R_F (Kd.R_mono (ok' := (fun k_ => ((fun k_ => (w.heap.size ≤ k_))) k_ ∧ some k_ ≠ (v149 : Value).ownBlock)) (Kd.R_apart' (HO_8.out) (Kd.N_typed HO150.out) (by decide)) (fun k_ hk => ⟨hk.1, hk.2⟩))))); (case aB => exact (by repeat (first | (with_reducible first | exact HB.out | apply below_alloc | apply pw_below_drewN | apply below_drew1) | exact HB.out))); (case aF => exact (fun k_ hk => (Nat.le_trans (below_size (by repeat (first | (with_reducible first | exact HB.out | apply below_alloc | apply pw_below_drewN | apply below_drew1) | exact HB.out))) hk))); (case aO => exact (by (with_reducible repeat (first | apply Kd.N_alloc | apply Kd.N_drewN | apply Kd.N_drew)); exact Kd.N_mono HO150.out (fun _ hk => hk.1))); (case aS => exact (below_size (by repeat (first | (with_reducible first | exact HB.out | apply below_alloc | apply pw_below_drewN | apply below_drew1) | exact HB.out)))); (case aL => have := LMc37.out; omega); intro v152 w45 ho hb hg hat; rw [← Ny151.out] at ho; have n0_ := Aside0.mk (Kd.N_afterv (ok := (fun k_ => (w.heap.size ≤ k_) ∧ some k_ ≠ (.slice (some ⟨go15, 0, none⟩) y135.length co20 : Value).ownBlock)) (by (with_reducible repeat (first | apply Kd.N_alloc | apply Kd.N_drewN | apply Kd.N_drew)); exact HO_4.out) hg hat); have n1_ := Aside0.mk (Kd.V_afterv (ok := (fun k_ => (w.heap.size ≤ k_) ∧ some k_ ≠ (.slice (some ad136) x4_2.length co25 : Value).ownBlock ∧ some k_ ≠ (.slice (some ⟨go15, 0, none⟩) y135.length co20 : Value).ownBlock)) (by (with_reducible repeat (first | apply Kd.V_alloc | apply Kd.V_drewN | apply Kd.V_drew)); exact HL136_0.out) hg hat); have n2_ := Aside0.mk (Kd.V_afterv (ok := (fun k_ => (w.heap.size ≤ k_) ∧ some k_ ≠ (.slice (some ad136) x4_2.length co25 : Value).ownBlock ∧ some k_ ≠ (.slice (some ⟨go15, 0, none⟩) y135.length co20 : Value).ownBlock)) (by (with_reducible repeat (first | apply Kd.V_alloc | apply Kd.V_drewN | apply Kd.V_drew)); exact HL138_0.out) hg hat); have n3_ := Aside0.mk (Kd.V_afterv (ok := (fun k_ => (w.heap.size ≤ k_) ∧ some k_ ≠ (.slice (some ⟨go15, 0, none⟩) y135.length co20 : Value).ownBlock)) (by (with_reducible repeat (first | apply Kd.V_alloc | apply Kd.V_drewN | apply Kd.V_drew)); exact HO147.out) hg hat); have n4_ := Aside0.mk (hb); have n5_ := Aside0.mk (ho); clear HO_4; clear HL136_0; clear HL138_0; clear HO147; clear HB; clear HO150; clear HO_8; have HO_4 := n0_; have HL136_0 := n1_; have HL138_0 := n2_; have HO147 := n3_; have HB := n4_; have HO153 := n5_; clear n0_ n1_ n2_ n3_ n4_ n5_; clear ho hb hg hat; have q46 : (x9_4 : Int) ≤ ((x4_2.length : Int) : Int) := of_decide_eq_true (by first | (with_reducible assumption) | assumption); obtain ⟨i046, hi046, _, hsz46, _⟩ := info_parts info22; have hroom46 : x4_2.length ≤ co25 := (Kd.N_reads' HO_4.out).2.1; have hC46 : Kd.F (Kd.slice 3 (Kd.int .i64)) _ _ (some ad136) x4_2.length x4_2 := (Kd.V_at (base := w.heap.size) (Kd.N_V HO_4.out)).2.2; have q046 : (0 : Int) ≤ (x9_4 : Int) := of_decide_eq_true (by first | (with_reducible assumption) | assumption); have hcut46 := cut_from (P := Try.prog) 23 22 .i64 Try.underlying23 hi046 1 hsz46 (some ad136) x4_2.length co25 x9_4 q046 q46; have hr46 := Kd.F_cut (m := (x9_4 : Int).toNat) (c := co25) hC46 (by omega) hroom46; obtain ⟨A46, hA46⟩ : ∃ A1, A1 = (if co25 = (x9_4 : Int).toNat then (some ad136) else ((some ad136) : Option Addr).map (·.add ((x9_4 : Int).toNat * 1))) := ⟨_, rfl⟩; obtain ⟨c46, hc46⟩ : ∃ c1, c1 = co25 - (x9_4 : Int).toNat := ⟨_, rfl⟩; have hy46 : y154.length = x4_2.length - (x9_4 : Int).toNat := (by rw [Ny154.out, List.length_drop] <;> omega); rw [show (x4_2).drop (x9_4 : Int).toNat = y154 from Ny154.out.symm] at hr46; replace hr46 : Kd.F (Kd.slice 3 (Kd.int .i64)) _ _ A46 y154.length y154 := (by rw [hA46]; exact hr46); rw [← hy46, ← hA46, ← hc46] at hcut46; have HO158 := Aside0.mk (show Kd.V (Kd.slice 3 (Kd.int .i64)) 22 _ w.heap.size _ (.slice A46 y154.length c46) y154 from Kd.V_mk (by rw [hy46, hc46]; exact Nat.sub_le_sub_right hroom46 _) hr46); have HC158 := Aside0.mk (show y154.length ≤ c46 from by rw [hy46, hc46]; exact Nat.sub_le_sub_right hroom46 _); clear hr46 hC46 hroom46 hi046 hsz46 hc46; have KY46 := Aside0.mk hy46; have KA46 := Aside0.mk hA46; clear hy46 hA46; replace q46 := eq_true q46) | ((with_reducible refine gate_builtin (b := .append) (xs := #[.tmp 87, .tmp 90]) rfl ?_); at_builtin; refine Kd.N_append_rows (Kd.slice 3 (Kd.int .i64)) (w0 := w) w.heap.size rfl (.tmp 87) (.tmp 90) 23 22 (.slice none 0 0) 24 rfl Try.underlying23 info22 rfl (by decide) (by omega) v152 y151 y154 _ _ _ (fun k_ => (w.heap.size ≤ k_)) (fun k_ => ((fun k_ => (w.heap.size ≤ k_))) k_ ∧ some k_ ≠ (v152 : Value).ownBlock) rfl rfl ?aO ?aR (fun _ hk => hk) ?aF ?aB ?aS ?aL ?_; (case aR => exact (by skip; exact Kd.V_F (Kd.V_mono (ok' := (fun k_ => ((fun k_ => (w.heap.size ≤ k_))) k_ ∧ some k_ ≠ (v152 : Value).ownBlock)) (HO158.out) (fun k_ hk => ⟨hk.1.1, hk.2⟩)))); (case aB => exact (by repeat (first | (with_reducible first | exact HB.out | apply below_alloc | apply pw_below_drewN | apply below_drew1) | exact HB.out))); (case aF => exact (fun k_ hk => (Nat.le_trans (below_size (by repeat (first | (with_reducible first | exact HB.out | apply below_alloc | apply pw_below_drewN | apply below_drew1) | exact HB.out))) hk))); (case aO => exact (by (with_reducible repeat (first | apply Kd.N_alloc | apply Kd.N_drewN | apply Kd.N_drew)); exact HO153.out)); (case aS => exact (below_size (by repeat (first | (with_reducible first | exact HB.out | apply below_alloc | apply pw_below_drewN | apply below_drew1) | exact HB.out)))); (case aL => have := LMc40.out; omega); intro v160 w47 ho hb hg hat; rw [← Ny159.out] at ho; have n0_ := Aside0.mk (Kd.N_afterv (ok := (fun k_ => (w.heap.size ≤ k_))) (by (with_reducible repeat (first | apply Kd.N_alloc | apply Kd.N_drewN | apply Kd.N_drew)); exact Kd.N_mono HO_4.out (fun _ hk => ⟨hk.1.1, hk.2⟩)) hg hat); have n1_ := Aside0.mk (Kd.V_afterv (ok := (fun k_ => (w.heap.size ≤ k_) ∧ some k_ ≠ (.slice (some ad136) x4_2.length co25 : Value).ownBlock)) (by (with_reducible repeat (first | apply Kd.V_alloc | apply Kd.V_drewN | apply Kd.V_drew)); exact Kd.V_mono HL136_0.out (fun _ hk => ⟨⟨hk.1.1, hk.1.2.1⟩, hk.2⟩)) hg hat); have n2_ := Aside0.mk (Kd.V_afterv (ok := (fun k_ => (w.heap.size ≤ k_) ∧ some k_ ≠ (.slice (some ad136) x4_2.length co25 : Value).ownBlock)) (by (with_reducible repeat (first | apply Kd.V_alloc | apply Kd.V_drewN | apply Kd.V_drew)); exact Kd.V_mono HL138_0.out (fun _ hk => ⟨⟨hk.1.1, hk.1.2.1⟩, hk.2⟩)) hg hat); have n3_ := Aside0.mk (Kd.V_afterv (ok := (fun k_ => (w.heap.size ≤ k_))) (by (with_reducible repeat (first | apply Kd.V_alloc | apply Kd.V_drewN | apply Kd.V_drew)); exact Kd.V_mono HO147.out (fun _ hk => ⟨hk.1.1, hk.2⟩)) hg hat); have n4_ := Aside0.mk (Kd.V_afterv (ok := (fun k_ => (w.heap.size ≤ k_))) (by (with_reducible repeat (first | apply Kd.V_alloc | apply Kd.V_drewN | apply Kd.V_drew)); exact Kd.V_mono HO158.out (fun _ hk => ⟨hk.1.1, hk.2⟩)) hg hat); have n5_ := Aside0.mk (hb); have n6_ := Aside0.mk (ho); clear HO_4; clear HL136_0; clear HL138_0; clear HO147; clear HO158; clear HB; clear HO153; have HO_4 := n0_; have HL136_0 := n1_; have HL138_0 := n2_; have HO147 := n3_; have HO158 := n4_; have HB := n5_; have HO161 := n6_; clear n0_ n1_ n2_ n3_ n4_ n5_ n6_; clear ho hb hg hat))
                                                          (try simp only [← hl8_4])
                                                          go_roundg k4
                                                          case measure => have := HK1.out; have := HK2.out; have := HJ7.out; have := HK4.out; omega
                                                          case rel => exact ⟨(y159), (wrap64 (x21_2 + 1)), (by first | rfl | (simp; done) | (simp [*]; done)), H', ⟨by have := HK1.out; have := HK2.out; have := HJ7.out; have := HK4.out; omega⟩, ⟨by (try simp only [hl8_4]); (with_reducible repeat (first | apply Kd.N_alloc | apply Kd.N_drewN | apply Kd.N_drew)); exact HO161.out⟩, ⟨by repeat (first | (with_reducible first | exact HB.out | apply below_alloc | apply pw_below_drewN | apply below_drew1) | exact HB.out)⟩⟩
                                                        · rw [if_neg c40] at H
                                                          exact absurd H (by simp)
                                                      · rw [if_neg c37] at H
                                                        exact absurd H (by simp)
                                                    · rw [if_neg c36] at H
                                                      exact absurd H (by simp)
                                                  · rw [if_neg c35] at H
                                                    exact absurd H (by simp)
                                                · rw [if_neg c34] at H
                                                  exact absurd H (by simp)
                                          · rw [if_neg c29] at H
                                            exact absurd H (by simp)
                                        · rw [if_neg c28] at H
                                          exact absurd H (by simp)
                                      · rw [if_neg c26] at H
                                        have c26b0 : decide (0 < x9_4) = false := decide_eq_false c26
                                        clear c26
                                        obtain ⟨y162, hy162⟩ : ∃ y_ : List (List Int), y_ = (([] : List (List Int))) := ⟨_, rfl⟩
                                        replace H : (if 0 ≤ x9_4 then (if x9_4 ≤ (x4_2.length : Int) then ((some (x4_2.take (x9_4 : Int).toNat : List (List Int))).bind fun y165 => (if y162.length + y165.length < 5864062014805 then ((some (y162 ++ y165 : List (List Int))).bind fun y170 => (if y170.length < 5864062014805 then ((some (y170 ++ [y135] : List (List Int))).bind fun y173 => ((some (x4_2.drop (x9_4 : Int).toNat : List (List Int))).bind fun y176 => (if y173.length + y176.length < 5864062014805 then (spec_HeapsBefore.l1 k4 l0 (y173 ++ y176) x16_1 (l0.length : Int) x16_1 l0 (l0.length : Int) (wrap64 (x21_2 + 1))) else (none)))) else (none))) else (none))) else (none)) else (none)) = some (r1, r2) := by first | (rw [hy162]; with_reducible exact H) | (have H2_ := (Option.bind_some _ _).symm.trans H; rw [hy162]; with_reducible exact H2_) | (have H2_ := (Option.bind_some _ _).symm.trans H; with_reducible exact H2_) | with_reducible exact H | (rw [hy162]; exact H) | exact H
                                        have Ny162 := Aside0.mk hy162
                                        clear hy162
                                        by_cases c48 : 0 ≤ x9_4
                                        · rw [if_pos c48] at H
                                          have c48b0 := eq_true c48
                                          have c48b1 : decide (0 ≤ x9_4) = true := decide_eq_true c48
                                          clear c48
                                          by_cases c49 : x9_4 ≤ (x4_2.length : Int)
                                          · rw [if_pos c49] at H
                                            have c49b0 := eq_true c49
                                            have c49b1 : decide (x9_4 ≤ (x4_2.length : Int)) = true := decide_eq_true c49
                                            clear c49
                                            obtain ⟨y165, hy165⟩ : ∃ y_ : List (List Int), y_ = (x4_2.take (x9_4 : Int).toNat) := ⟨_, rfl⟩
                                            replace H : (if y162.length + y165.length < 5864062014805 then ((some (y162 ++ y165 : List (List Int))).bind fun y170 => (if y170.length < 5864062014805 then ((some (y170 ++ [y135] : List (List Int))).bind fun y173 => ((some (x4_2.drop (x9_4 : Int).toNat : List (List Int))).bind fun y176 => (if y173.length + y176.length < 5864062014805 then (spec_HeapsBefore.l1 k4 l0 (y173 ++ y176) x16_1 (l0.length : Int) x16_1 l0 (l0.length : Int) (wrap64 (x21_2 + 1))) else (none)))) else (none))) else (none)) = some (r1, r2) := by first | (rw [hy165]; with_reducible exact H) | (have H2_ := (Option.bind_some _ _).symm.trans H; rw [hy165]; with_reducible exact H2_) | (have H2_ := (Option.bind_some _ _).symm.trans H; with_reducible exact H2_) | with_reducible exact H | (rw [hy165]; exact H) | exact H
                                            have Ny165 := Aside0.mk hy165
                                            clear hy165
                                            by_cases c50 : y162.length + y165.length < 5864062014805
                                            · rw [if_pos c50] at H
                                              have LMc50 := Aside0.mk c50
                                              clear c50
                                              obtain ⟨y170, hy170⟩ : ∃ y_ : List (List Int), y_ = (y162 ++ y165) := ⟨_, rfl⟩
                                              replace H : (if y170.length < 5864062014805 then ((some (y170 ++ [y135] : List (List Int))).bind fun y173 => ((some (x4_2.drop (x9_4 : Int).toNat : List (List Int))).bind fun y176 => (if y173.length + y176.length < 5864062014805 then (spec_HeapsBefore.l1 k4 l0 (y173 ++ y176) x16_1 (l0.length : Int) x16_1 l0 (l0.length : Int) (wrap64 (x21_2 + 1))) else (none)))) else (none)) = some (r1, r2) := by first | (rw [hy170]; with_reducible exact H) | (have H2_ := (Option.bind_some _ _).symm.trans H; rw [hy170]; with_reducible exact H2_) | (have H2_ := (Option.bind_some _ _).symm.trans H; with_reducible exact H2_) | with_reducible exact H | (rw [hy170]; exact H) | exact H
                                              have Ny170 := Aside0.mk hy170
                                              clear hy170
                                              by_cases c51 : y170.length < 5864062014805
                                              · rw [if_pos c51] at H
                                                have LMc51 := Aside0.mk c51
                                                clear c51
                                                obtain ⟨y173, hy173⟩ : ∃ y_ : List (List Int), y_ = (y170 ++ [y135]) := ⟨_, rfl⟩
                                                replace H : ((some (x4_2.drop (x9_4 : Int).toNat : List (List Int))).bind fun y176 => (if y173.length + y176.length < 5864062014805 then (spec_HeapsBefore.l1 k4 l0 (y173 ++ y176) x16_1 (l0.length : Int) x16_1 l0 (l0.length : Int) (wrap64 (x21_2 + 1))) else (none))) = some (r1, r2) := by first | (rw [hy173]; with_reducible exact H) | (have H2_ := (Option.bind_some _ _).symm.trans H; rw [hy173]; with_reducible exact H2_) | (have H2_ := (Option.bind_some _ _).symm.trans H; with_reducible exact H2_) | with_reducible exact H | (rw [hy173]; exact H) | exact H
                                                have Ny173 := Aside0.mk hy173
                                                clear hy173
                                                have c52b0 := eq_true (of_decide_eq_true (by first | (with_reducible assumption) | assumption) : 0 ≤ x9_4)
                                                have c53b0 := eq_true (of_decide_eq_true (by first | (with_reducible assumption) | assumption) : x9_4 ≤ (x4_2.length : Int))
                                                obtain ⟨y176, hy176⟩ : ∃ y_ : List (List Int), y_ = (x4_2.drop (x9_4 : Int).toNat) := ⟨_, rfl⟩
                                                replace H : (if y173.length + y176.length < 5864062014805 then (spec_HeapsBefore.l1 k4 l0 (y173 ++ y176) x16_1 (l0.length : Int) x16_1 l0 (l0.length : Int) (wrap64 (x21_2 + 1))) else (none)) = some (r1, r2) := by first | (rw [hy176]; with_reducible exact H) | (have H2_ := (Option.bind_some _ _).symm.trans H; rw [hy176]; with_reducible exact H2_) | (have H2_ := (Option.bind_some _ _).symm.trans H; with_reducible exact H2_) | with_reducible exact H | (rw [hy176]; exact H) | exact H
                                                have Ny176 := Aside0.mk hy176
                                                clear hy176
                                                by_cases c54 : y173.length + y176.length < 5864062014805
                                                · rw [if_pos c54] at H
                                                  have LMc54 := Aside0.mk c54
                                                  clear c54
                                                  obtain ⟨y181, hy181⟩ : ∃ y_ : List (List Int), y_ = (y173 ++ y176) := ⟨_, rfl⟩
                                                  replace H : (spec_HeapsBefore.l1 k4 l0 y181 x16_1 (l0.length : Int) x16_1 l0 (l0.length : Int) (wrap64 (x21_2 + 1))) = some (r1, r2) := by first | (rw [hy181]; with_reducible exact H) | (have H2_ := (Option.bind_some _ _).symm.trans H; rw [hy181]; with_reducible exact H2_) | (have H2_ := (Option.bind_some _ _).symm.trans H; with_reducible exact H2_) | with_reducible exact H | (rw [hy181]; exact H) | exact H
                                                  have Ny181 := Aside0.mk hy181
                                                  clear hy181
                                                  have H' := Aside0.mk H
                                                  clear H
                                                  go_wp2_with (first | ((with_reducible refine gate_dst (N := 79) rfl ?_); refine Kd.N_lit (Kd.slice 3 (Kd.int .i64)) _ 22 ?hg (N' := 79) ?hd (xs := ([] : List (List Int))) (inner := []) (ok := (fun k_ => (w.heap.size ≤ k_) ∧ some k_ ≠ (.slice Ao25 x4_2.length co25 : Value).ownBlock ∧ some k_ ≠ (.slice (some ⟨go15, 0, none⟩) y135.length co20 : Value).ownBlock)) (okp := (fun k_ => (w.heap.size ≤ k_) ∧ some k_ ≠ (.slice Ao25 x4_2.length co25 : Value).ownBlock ∧ some k_ ≠ (.slice (some ⟨go15, 0, none⟩) y135.length co20 : Value).ownBlock)) ?hr ?hp (fun _ hk => hk) ((show ∀ k_, wr.heap.size ≤ k_ → (fun k_ => (w.heap.size ≤ k_) ∧ some k_ ≠ (.slice Ao25 x4_2.length co25 : Value).ownBlock ∧ some k_ ≠ (.slice (some ⟨go15, 0, none⟩) y135.length co20 : Value).ownBlock) k_ from fun k_ hk => ⟨(Nat.le_trans (below_size (by repeat (first | (with_reducible first | exact HB.out | apply below_alloc | apply pw_below_drewN | apply below_drew1) | exact HB.out))) hk), Kd.fresh' (Kd.N_lt (by (with_reducible repeat (first | apply Kd.N_alloc | apply Kd.N_drewN | apply Kd.N_drew)); exact HO_4.out)) k_ hk, Kd.fresh' (Kd.R_lt (by (with_reducible repeat (first | apply Kd.R_alloc | apply Kd.R_drewN | apply Kd.R_drew)); exact HO_8.out)) k_ hk⟩) _ (Nat.le_refl _)) (Below.refl _ _) (Nat.le_refl _) (by simp) ?_; (case hd => rfl); (case hg => rfl); (case hr => first | (go_simp; done) | (go_simp; rfl)); (case hp => exact (Reps.none _ _)); intro v163 w55 ho56 hb hg_ hnew_; clear hg_ hnew_; (first | rw [← Ny162.out] at ho56 | (simp only [Int.reduceToNat] at ho56; rw [← Ny162.out] at ho56)); have n0_ := Aside0.mk (Kd.N_elder' (by (with_reducible repeat (first | apply Kd.N_alloc | apply Kd.N_drewN | apply Kd.N_drew)); exact HO_4.out) (Kd.N_base ho56) hb); have n1_ := Aside0.mk (Kd.R_below (by (with_reducible repeat (first | apply Kd.R_alloc | apply Kd.R_drewN | apply Kd.R_drew)); exact HO_8.out) hb); have n2_ := Aside0.mk (Kd.N_lower ho56 (below_size (by repeat (first | (with_reducible first | exact HB.out | apply below_alloc | apply pw_below_drewN | apply below_drew1) | exact HB.out)))); have n3_ := Aside0.mk (below_step (by repeat (first | (with_reducible first | exact HB.out | apply below_alloc | apply pw_below_drewN | apply below_drew1) | exact HB.out)) hb); clear HO_4; clear HO_8; clear HB; have HO_4 := n0_; have HO_8 := n1_; have HO164 := n2_; have HB := n3_; clear n0_ n1_ n2_ n3_; clear hb ho56; have q57 : (x9_4 : Int) ≤ ((x4_2.length : Int) : Int) := of_decide_eq_true (by first | (with_reducible assumption) | assumption); obtain ⟨i057, hi057, _, hsz57, _⟩ := info_parts info22; have hroom57 : x4_2.length ≤ co25 := (Kd.N_reads' HO_4.out).2.1; have hC57 : Kd.F (Kd.slice 3 (Kd.int .i64)) _ _ Ao25 x4_2.length x4_2 := (Kd.V_at (base := w.heap.size) (Kd.N_V HO_4.out)).2.2; have hcut57 := cut_to (P := Try.prog) 23 22 .i64 Try.underlying23 hi057 Ao25 x4_2.length co25 x9_4 (of_decide_eq_true (by first | (with_reducible assumption) | assumption)) q57 hroom57; have hr57 := Kd.F_take (m := (x9_4 : Int).toNat) hC57 (by omega); have hy57 : y165.length = (x9_4 : Int).toNat := (by rw [Ny165.out, List.length_take]; omega); rw [← Ny165.out] at hr57; rw [← hy57] at hcut57; have HO169 := Aside0.mk (show Kd.V (Kd.slice 3 (Kd.int .i64)) 22 _ w.heap.size _ (.slice Ao25 y165.length co25) y165 from Kd.V_mk (by omega) hr57); have HC169 := Aside0.mk (show y165.length ≤ co25 from by omega); clear hr57 hC57 hroom57 hi057 hsz57; have KY57 := Aside0.mk hy57; clear hy57; replace q57 := eq_true q57) | ((with_reducible refine gate_builtin (b := .append) (xs := #[.tmp 79, .tmp 82]) rfl ?_); at_builtin; refine Kd.N_append_rows (Kd.slice 3 (Kd.int .i64)) (w0 := w) w.heap.size rfl (.tmp 79) (.tmp 82) 23 22 (.slice none 0 0) 24 rfl Try.underlying23 info22 rfl (by decide) (by omega) v163 y162 y165 _ _ _ (fun k_ => (w.heap.size ≤ k_) ∧ some k_ ≠ (.slice (some ⟨go15, 0, none⟩) y135.length co20 : Value).ownBlock) (fun k_ => ((fun k_ => (w.heap.size ≤ k_) ∧ some k_ ≠ (.slice (some ⟨go15, 0, none⟩) y135.length co20 : Value).ownBlock)) k_ ∧ some k_ ≠ (v163 : Value).ownBlock) rfl rfl ?aO ?aR (fun _ hk => hk) ?aF ?aB ?aS ?aL ?_; (case aR => exact (by skip; exact Kd.V_F (Kd.V_mono (ok' := (fun k_ => ((fun k_ => (w.heap.size ≤ k_) ∧ some k_ ≠ (.slice (some ⟨go15, 0, none⟩) y135.length co20 : Value).ownBlock)) k_ ∧ some k_ ≠ (v163 : Value).ownBlock)) (HO169.out) (fun k_ hk => ⟨⟨hk.1.1, hk.1.2⟩, hk.2⟩)))); (case aB => exact (by repeat (first | (with_reducible first | exact HB.out | apply below_alloc | apply pw_below_drewN | apply below_drew1) | exact HB.out))); (case aF => exact (fun k_ hk => ⟨(Nat.le_trans (below_size (by repeat (first | (with_reducible first | exact HB.out | apply below_alloc | apply pw_below_drewN | apply below_drew1) | exact HB.out))) hk), Kd.fresh' (Kd.R_lt (by (with_reducible repeat (first | apply Kd.R_alloc | apply Kd.R_drewN | apply Kd.R_drew)); exact HO_8.out)) k_ hk⟩)); (case aO => exact (by (with_reducible repeat (first | apply Kd.N_alloc | apply Kd.N_drewN | apply Kd.N_drew)); exact Kd.N_mono HO164.out (fun _ hk => ⟨hk.1, hk.2.2⟩))); (case aS => exact (below_size (by repeat (first | (with_reducible first | exact HB.out | apply below_alloc | apply pw_below_drewN | apply below_drew1) | exact HB.out)))); (case aL => have := LMc50.out; omega); intro v171 w58 ho hb hg hat; rw [← Ny170.out] at ho; have n0_ := Aside0.mk (Kd.N_afterv (ok := (fun k_ => (w.heap.size ≤ k_) ∧ some k_ ≠ (.slice (some ⟨go15, 0, none⟩) y135.length co20 : Value).ownBlock)) (by (with_reducible repeat (first | apply Kd.N_alloc | apply Kd.N_drewN | apply Kd.N_drew)); exact HO_4.out) hg hat); have n1_ := Aside0.mk (Kd.R_over' (by (with_reducible repeat (first | apply Kd.R_alloc | apply Kd.R_drewN | apply Kd.R_drew)); exact HO_8.out) (Kd.N_typed (by (with_reducible repeat (first | apply Kd.N_alloc | apply Kd.N_drewN | apply Kd.N_drew)); exact HO164.out)) (by decide) hg); have n2_ := Aside0.mk (Kd.V_afterv (ok := (fun k_ => (w.heap.size ≤ k_) ∧ some k_ ≠ (.slice (some ⟨go15, 0, none⟩) y135.length co20 : Value).ownBlock)) (by (with_reducible repeat (first | apply Kd.V_alloc | apply Kd.V_drewN | apply Kd.V_drew)); exact HO169.out) hg hat); have n3_ := Aside0.mk (hb); have n4_ := Aside0.mk (ho); clear HO_4; clear HO_8; clear HO169; clear HB; clear HO164; have HO_4 := n0_; have HO_8 := n1_; have HO169 := n2_; have HB := n3_; have HO172 := n4_; clear n0_ n1_ n2_ n3_ n4_; clear ho hb hg hat) | ((with_reducible refine gate_builtin (b := .append) (xs := #[.tmp 83, .tmp 85]) rfl ?_); at_builtin; refine Kd.N_append (Kd.slice 3 (Kd.int .i64)) (w0 := w) w.heap.size rfl (.tmp 83) (.tmp 85) 23 22 (.slice none 0 0) 24 rfl Try.underlying23 info22 rfl (by decide) (by omega) v171 y170 y135 [.slice (some ⟨go15, 0, none⟩) y135.length co20] (fun k_ => (w.heap.size ≤ k_)) (fun k_ => ((fun k_ => (w.heap.size ≤ k_))) k_ ∧ some k_ ≠ (v171 : Value).ownBlock) rfl rfl ?aP (fun _ hk => hk) ?aF ?aO ?aB ?aS ?aL ?_; (case aP => exact (Kd.FK_slice_mk (Kd.R_reads' (Kd.R_mono (ok' := (fun k_ => ((fun k_ => (w.heap.size ≤ k_))) k_ ∧ some k_ ≠ (v171 : Value).ownBlock)) (Kd.R_apart' (HO_8.out) (Kd.N_typed HO172.out) (by decide)) (fun k_ hk => ⟨hk.1, hk.2⟩))).2.1 (Kd.R_F (Kd.R_mono (ok' := (fun k_ => ((fun k_ => (w.heap.size ≤ k_))) k_ ∧ some k_ ≠ (v171 : Value).ownBlock)) (Kd.R_apart' (HO_8.out) (Kd.N_typed HO172.out) (by decide)) (fun k_ hk => ⟨hk.1, hk.2⟩))))); (case aB => exact (by repeat (first | (with_reducible first | exact HB.out | apply below_alloc | apply pw_below_drewN | apply below_drew1) | exact HB.out))); (case aF => exact (fun k_ hk => (Nat.le_trans (below_size (by repeat (first | (with_reducible first | exact HB.out | apply below_alloc | apply pw_below_drewN | apply below_drew1) | exact HB.out))) hk))); (case aO => exact (by (with_reducible repeat (first | apply Kd.N_alloc | apply Kd.N_drewN | apply Kd.N_drew)); exact Kd.N_mono HO172.out (fun _ hk => hk.1))); (case aS => exact (below_size (by repeat (first | (with_reducible first | exact HB.out | apply below_alloc | apply pw_below_drewN | apply below_drew1) | exact HB.out)))); (case aL => have := LMc51.out; omega); intro v174 w59 ho hb hg hat; rw [← Ny173.out] at ho; have n0_ := Aside0.mk (Kd.N_afterv (ok := (fun k_ => (w.heap.size ≤ k_) ∧ some k_ ≠ (.slice (some ⟨go15, 0, none⟩) y135.length co20 : Value).ownBlock)) (by (with_reducible repeat (first | apply Kd.N_alloc | apply Kd.N_drewN | apply Kd.N_drew)); exact HO_4.out) hg hat); have n1_ := Aside0.mk (Kd.V_afterv (ok := (fun k_ => (w.heap.size ≤ k_) ∧ some k_ ≠ (.slice (some ⟨go15, 0, none⟩) y135.length co20 : Value).ownBlock)) (by (with_reducible repeat (first | apply Kd.V_alloc | apply Kd.V_drewN | apply Kd.V_drew)); exact HO169.out) hg hat); have n2_ := Aside0.mk (hb); have n3_ := Aside0.mk (ho); clear HO_4; clear HO169; clear HB; clear HO172; clear HO_8; have HO_4 := n0_; have HO169 := n1_; have HB := n2_; have HO175 := n3_; clear n0_ n1_ n2_ n3_; clear ho hb hg hat; have q60 : (x9_4 : Int) ≤ ((x4_2.length : Int) : Int) := of_decide_eq_true (by first | (with_reducible assumption) | assumption); obtain ⟨i060, hi060, _, hsz60, _⟩ := info_parts info22; have hroom60 : x4_2.length ≤ co25 := (Kd.N_reads' HO_4.out).2.1; have hC60 : Kd.F (Kd.slice 3 (Kd.int .i64)) _ _ Ao25 x4_2.length x4_2 := (Kd.V_at (base := w.heap.size) (Kd.N_V HO_4.out)).2.2; have q060 : (0 : Int) ≤ (x9_4 : Int) := of_decide_eq_true (by first | (with_reducible assumption) | assumption); have hcut60 := cut_from (P := Try.prog) 23 22 .i64 Try.underlying23 hi060 1 hsz60 Ao25 x4_2.length co25 x9_4 q060 q60; have hr60 := Kd.F_cut (m := (x9_4 : Int).toNat) (c := co25) hC60 (by omega) hroom60; obtain ⟨A60, hA60⟩ : ∃ A1, A1 = (if co25 = (x9_4 : Int).toNat then Ao25 else (Ao25 : Option Addr).map (·.add ((x9_4 : Int).toNat * 1))) := ⟨_, rfl⟩; obtain ⟨c60, hc60⟩ : ∃ c1, c1 = co25 - (x9_4 : Int).toNat := ⟨_, rfl⟩; have hy60 : y176.length = x4_2.length - (x9_4 : Int).toNat := (by rw [Ny176.out, List.length_drop] <;> omega); rw [show (x4_2).drop (x9_4 : Int).toNat = y176 from Ny176.out.symm] at hr60; replace hr60 : Kd.F (Kd.slice 3 (Kd.int .i64)) _ _ A60 y176.length y176 := (by rw [hA60]; exact hr60); rw [← hy60, ← hA60, ← hc60] at hcut60; have HO180 := Aside0.mk (show Kd.V (Kd.slice 3 (Kd.int .i64)) 22 _ w.heap.size _ (.slice A60 y176.length c60) y176 from Kd.V_mk (by rw [hy60, hc60]; exact Nat.sub_le_sub_right hroom60 _) hr60); have HC180 := Aside0.mk (show y176.length ≤ c60 from by rw [hy60, hc60]; exact Nat.sub_le_sub_right hroom60 _); clear hr60 hC60 hroom60 hi060 hsz60 hc60; have KY60 := Aside0.mk hy60; have KA60 := Aside0.mk hA60; clear hy60 hA60; replace q60 := eq_true q60) | ((with_reducible refine gate_builtin (b := .append) (xs := #[.tmp 87, .tmp 90]) rfl ?_); at_builtin; refine Kd.N_append_rows (Kd.slice 3 (Kd.int .i64)) (w0 := w) w.heap.size rfl (.tmp 87) (.tmp 90) 23 22 (.slice none 0 0) 24 rfl Try.underlying23 info22 rfl (by decide) (by omega) v174 y173 y176 _ _ _ (fun k_ => (w.heap.size ≤ k_)) (fun k_ => ((fun k_ => (w.heap.size ≤ k_))) k_ ∧ some k_ ≠ (v174 : Value).ownBlock) rfl rfl ?aO ?aR (fun _ hk => hk) ?aF ?aB ?aS ?aL ?_; (case aR => exact (by skip; exact Kd.V_F (Kd.V_mono (ok' := (fun k_ => ((fun k_ => (w.heap.size ≤ k_))) k_ ∧ some k_ ≠ (v174 : Value).ownBlock)) (HO180.out) (fun k_ hk => ⟨hk.1.1, hk.2⟩)))); (case aB => exact (by repeat (first | (with_reducible first | exact HB.out | apply below_alloc | apply pw_below_drewN | apply below_drew1) | exact HB.out))); (case aF => exact (fun k_ hk => (Nat.le_trans (below_size (by repeat (first | (with_reducible first | exact HB.out | apply below_alloc | apply pw_below_drewN | apply below_drew1) | exact HB.out))) hk))); (case aO => exact (by (with_reducible repeat (first | apply Kd.N_alloc | apply Kd.N_drewN | apply Kd.N_drew)); exact HO175.out)); (case aS => exact (below_size (by repeat (first | (with_reducible first | exact HB.out | apply below_alloc | apply pw_below_drewN | apply below_drew1) | exact HB.out)))); (case aL => have := LMc54.out; omega); intro v182 w61 ho hb hg hat; rw [← Ny181.out] at ho; have n0_ := Aside0.mk (Kd.N_afterv (ok := (fun k_ => (w.heap.size ≤ k_))) (by (with_reducible repeat (first | apply Kd.N_alloc | apply Kd.N_drewN | apply Kd.N_drew)); exact Kd.N_mono HO_4.out (fun _ hk => ⟨hk.1.1, hk.2⟩)) hg hat); have n1_ := Aside0.mk (Kd.V_afterv (ok := (fun k_ => (w.heap.size ≤ k_))) (by (with_reducible repeat (first | apply Kd.V_alloc | apply Kd.V_drewN | apply Kd.V_drew)); exact Kd.V_mono HO169.out (fun _ hk => ⟨hk.1.1, hk.2⟩)) hg hat); have n2_ := Aside0.mk (Kd.V_afterv (ok := (fun k_ => (w.heap.size ≤ k_))) (by (with_reducible repeat (first | apply Kd.V_alloc | apply Kd.V_drewN | apply Kd.V_drew)); exact Kd.V_mono HO180.out (fun _ hk => ⟨hk.1.1, hk.2⟩)) hg hat); have n3_ := Aside0.mk (hb); have n4_ := Aside0.mk (ho); clear HO_4; clear HO169; clear HO180; clear HB; clear HO175; have HO_4 := n0_; have HO169 := n1_; have HO180 := n2_; have HB := n3_; have HO183 := n4_; clear n0_ n1_ n2_ n3_ n4_; clear ho hb hg hat))
                                                  (try simp only [← hl8_4])
                                                  go_roundg k4
                                                  case measure => have := HK1.out; have := HK2.out; have := HJ7.out; have := HK4.out; omega
                                                  case rel => exact ⟨(y181), (wrap64 (x21_2 + 1)), (by first | rfl | (simp; done) | (simp [*]; done)), H', ⟨by have := HK1.out; have := HK2.out; have := HJ7.out; have := HK4.out; omega⟩, ⟨by (try simp only [hl8_4]); (with_reducible repeat (first | apply Kd.N_alloc | apply Kd.N_drewN | apply Kd.N_drew)); exact HO183.out⟩, ⟨by repeat (first | (with_reducible first | exact HB.out | apply below_alloc | apply pw_below_drewN | apply below_drew1) | exact HB.out)⟩⟩
                                                · rw [if_neg c54] at H
                                                  exact absurd H (by simp)
                                              · rw [if_neg c51] at H
                                                exact absurd H (by simp)
                                            · rw [if_neg c50] at H
                                              exact absurd H (by simp)
                                          · rw [if_neg c49] at H
                                            exact absurd H (by simp)
                                        · rw [if_neg c48] at H
                                          exact absurd H (by simp)
                                · rw [if_neg c17] at H
                                  exact absurd H (by simp)
                              · rw [if_neg c16] at H
                                exact absurd H (by simp)
                            · rw [if_neg c14] at H
                              exact absurd H (by simp)
                          · rw [if_neg c13] at H
                            exact absurd H (by simp)
                  · rw [if_neg c7] at H
                    exact absurd H (by simp)
                · rw [if_neg c6] at H
                  exact absurd H (by simp)
              · rw [if_neg c5] at H
                have c5b0 : decide (x21_2 < (l0.length : Int)) = false := decide_eq_false c5
                clear c5
                have H' := Aside0.mk H
                clear H
                go_wp2
                go_roundg k2
                case measure => have := HK1.out; have := HK2.out; omega
                case rel => exact ⟨(x4_2), (wrap64 (x16_1 + 1)), (by first | rfl | (simp; done) | (simp [*]; done)), H', ⟨by have := HK1.out; have := HK2.out; omega⟩, ⟨by (with_reducible repeat (first | apply Kd.N_alloc | apply Kd.N_drewN | apply Kd.N_drew)); exact HO_4.out⟩, ⟨by repeat (first | (with_reducible first | exact HB.out | apply below_alloc | apply pw_below_drewN | apply below_drew1) | exact HB.out)⟩⟩
        · rw [if_neg c4] at H
          have c4b0 : decide (x16_1 < (l0.length : Int)) = false := decide_eq_false c4
          clear c4
          simp only [Option.some.injEq, Prod.mk.injEq] at H
          obtain ⟨rfl, rfl⟩ := H
          go_wp2
          go_ret2
          exact ⟨_, by first | rfl | (simp [errW_none, errW_some] <;> rfl) | (simp [*, errW_none, errW_some] <;> rfl), by (with_reducible repeat (first | apply Kd.N_alloc | apply Kd.N_drewN | apply Kd.N_drew)); exact HO_4.out, by repeat (first | (with_reducible first | exact HB.out | apply below_alloc | apply pw_below_drewN | apply below_drew1) | exact HB.out)⟩
  · replace c3 := Bool.eq_false_iff.mpr c3
    subst c3
    have H1 : (some (([] : List (List Int)), false)) = some (r1, r2) := by rw [if_neg (show ¬ (false = true) by decide)] at H; exact H
    clear H
    have H := H1
    clear H1
    simp only [Option.some.injEq, Prod.mk.injEq] at H
    obtain ⟨rfl, rfl⟩ := H
    go_enter Try.func4, Try.ntmps4
    go_wp2_with (first | ((with_reducible refine gate_callee (f := 12) rfl ?_); refine goesL_ (some 12) rfl rfl Try.func12 (by kernel_rfl) rfl #[.slice A0 l0.length c0] rfl (by (try simp only [List.map_toArray, List.map_cons, List.map_nil]); first | done | rfl | (simp only [List.length_drop, List.length_take]; rfl)) ?_; (with_reducible refine (spec_dbGood.calls k _ _ l0 false _ ?side1 ?side2 A2.out).mono ?_); (case side1 => repeat (first | exact HR0.out | (with_reducible refine Kd.C_alloc ?_ _) | (with_reducible refine Kd.C_drewN ?_ _) | (with_reducible refine Kd.C_drew ?_))); (case side2 => exact HC0.out); rintro e w' ⟨rfl, ⟨nd, rfl⟩⟩; refine ⟨_, rfl, ?_⟩))
    go_ret2
    exact ⟨_, by first | rfl | (simp [errW_none, errW_some] <;> rfl) | (simp [*, errW_none, errW_some] <;> rfl), by first | exact Kd.S_nil _ _ _ _ _ | exact Kd.N_nil _ _ _ _ _ | exact Kd.V_nil _ _ _ _ _ | exact Kd.Q_nil _ _ _ _ _ | exact Kd.R_nil _ _ _ _ _, by repeat (first | (with_reducible first | exact HB.out | apply below_alloc | apply pw_below_drewN | apply below_drew1) | exact HB.out)⟩

/-! ### laws_toIntS: function 5 -/
def laws_toIntS.l0 : Nat → List Int → List Int → Int → Option (List Int)
  | 0, _, _, _ => none
  | k + 1, x0, x3, x4 => if x4 < (x0.length : Int) then (if 0 ≤ x4 then (if x4 < (x3.length : Int) then (laws_toIntS.l0 k x0 (x3.set (x4 : Int).toNat (rd x0 x4)) (wrap64 (x4 + 1))) else (none)) else (none)) else (some x3)
def laws_toIntS.f (k : Nat) (l0 : List Int) : Option (List Int) := if 0 ≤ (l0.length : Int) then (if ((l0.length : Int) : Int).toNat ≤ 35184372088832 then (laws_toIntS.l0 k l0 (List.replicate ((l0.length : Int) : Int).toNat 0) 0) else (none)) else (none)
theorem laws_toIntS.mono_l : ∀ k, (∀ y0 y1 y2, LeO (laws_toIntS.l0 k y0 y1 y2) (laws_toIntS.l0 (k + 1) y0 y1 y2))
  | 0 => fun _ _ _ r h => by simp [laws_toIntS.l0] at h
  | k + 1 => by
    have ih0 := laws_toIntS.mono_l k
    · intro y0 y1 y2
      unfold laws_toIntS.l0
      repeat' first
      | (with_reducible exact ih0 _ _ _)
      | (with_reducible exact LeO.refl _)
      | (with_reducible exact LeO.none _)
      | (with_reducible refine LeO.ite ?_ ?_)
      | (with_reducible refine LeO.bind ?_ (fun _ => ?_))
      | exact ih0 _ _ _
      | exact LeO.none _
      | refine LeO.ite ?_ ?_
      | refine LeO.bind ?_ (fun _ => ?_)
theorem laws_toIntS.mono : ∀ a0 k, LeO (laws_toIntS.f k a0) (laws_toIntS.f (k + 1) a0) := by
  intro a0 k
  have ih0 := laws_toIntS.mono_l k
  unfold laws_toIntS.f
  repeat' first
      | (with_reducible exact ih0 _ _ _)
      | (with_reducible exact LeO.refl _)
      | (with_reducible exact LeO.none _)
      | (with_reducible refine LeO.ite ?_ ?_)
      | (with_reducible refine LeO.bind ?_ (fun _ => ?_))
      | exact ih0 _ _ _
      | exact LeO.none _
      | refine LeO.ite ?_ ?_
      | refine LeO.bind ?_ (fun _ => ?_)
set_option maxHeartbeats 8000000 in
set_option maxRecDepth 100000 in
theorem laws_toIntS.calls (k : Nat) (A0 : Option Addr) (c0 : Nat) (l0 : List Int) (r : List Int) (w : World) (hr0 : Kd.C (Kd.int .i64) w A0 l0.length l0) (hc0 : l0.length ≤ c0) (h : laws_toIntS.f k l0 = some r) :
    Calls Try.prog 5 #[.slice A0 l0.length c0] w fun e w' => ∃ v0_ : Value, e = .returned (v0_) ∧ Kd.R (Kd.int .i64) 3 w' w.heap.size (fun _ => True) v0_ r ∧ Below w.heap.size w w' := by
  have HR0 := Aside0.mk hr0
  have HC0 := Aside0.mk hc0
  clear hr0 hc0
  have HB := Aside0.mk (Below.refl w.heap.size w)
  have H : (if 0 ≤ (l0.length : Int) then (if ((l0.length : Int) : Int).toNat ≤ 35184372088832 then (laws_toIntS.l0 k l0 (List.replicate ((l0.length : Int) : Int).toNat 0) 0) else (none)) else (none)) = some r := h
  clear h
  by_cases c2 : 0 ≤ (l0.length : Int)
  · rw [if_pos c2] at H
    have c2b0 := eq_true c2
    have c2b1 : decide (0 ≤ (l0.length : Int)) = true := decide_eq_true c2
    clear c2
    by_cases c3 : ((l0.length : Int) : Int).toNat ≤ 35184372088832
    · rw [if_pos c3] at H
      have c3b0 := eq_true c3
      have c3b1 : decide (((l0.length : Int) : Int).toNat ≤ 35184372088832) = true := decide_eq_true c3
      clear c3
      obtain ⟨y184, hy184⟩ : ∃ y_ : List Int, y_ = (List.replicate ((l0.length : Int) : Int).toNat 0) := ⟨_, rfl⟩
      replace H : (laws_toIntS.l0 k l0 y184 0) = some r := by first | (rw [hy184]; with_reducible exact H) | (have H2_ := (Option.bind_some _ _).symm.trans H; rw [hy184]; with_reducible exact H2_) | (have H2_ := (Option.bind_some _ _).symm.trans H; with_reducible exact H2_) | with_reducible exact H | (rw [hy184]; exact H) | exact H
      have Ny184 := Aside0.mk hy184
      clear hy184
      have H' := Aside0.mk H
      clear H
      go_enter Try.func5, Try.ntmps5
      go_wp2_with (first | ((with_reducible refine gate_dst (N := 7) rfl ?_); refine Kd.R_make (Kd.int .i64) _ 3 rfl (N := 7) rfl 22 _ _ rfl (l0.length : Int) rfl rfl Try.underlying22 (.int .i64 0) 8 info3 rfl (by decide) (by omega) 0 (ok := fun _ => True) (okp := fun _ => True) rfl (fun _ hk => hk) trivial (of_decide_eq_true (by first | (with_reducible assumption) | assumption)) (Nat.le_trans (Nat.mul_le_mul_right _ (of_decide_eq_true (by first | (with_reducible assumption) | assumption) : (l0.length : Int).toNat ≤ 35184372088832)) (by omega)) (Below.refl _ _) (Nat.le_refl _) ?_; intro v185 w4 ho5 hb hg_ hnew_; clear hg_ hnew_; (first | rw [← Ny184.out] at ho5 | (simp only [Int.reduceToNat] at ho5; rw [← Ny184.out] at ho5)); have n0_ := Aside0.mk (Kd.R_lower ho5 (below_size (by repeat (first | (with_reducible first | exact HB.out | apply below_alloc | apply pw_below_drewN | apply below_drew1) | exact HB.out)))); have n1_ := Aside0.mk (below_step (by repeat (first | (with_reducible first | exact HB.out | apply below_alloc | apply pw_below_drewN | apply below_drew1) | exact HB.out)) hb); clear HB; have HO186 := n0_; have HB := n1_; clear n0_ n1_; clear hb ho5))
      go_loopg [4] k (fun kq v4 w' => ∃ (x3_1 : List Int) (x4_1 : Int), v4 = .int .i64 x4_1 ∧ Aside0 (laws_toIntS.l0 kq l0 x3_1 x4_1 = some r) ∧ Aside0 (kq ≤ k) ∧ Aside0 (Kd.R (Kd.int .i64) 3 w' w.heap.size (fun _ => True) v185 x3_1) ∧ Aside0 (Below w.heap.size w w'))
      case atStart => exact ⟨(y184), (0), (by first | rfl | (simp; done) | (simp [*]; done)), H', ⟨Nat.le_refl _⟩, ⟨by (with_reducible repeat (first | apply Kd.R_alloc | apply Kd.R_drewN | apply Kd.R_drew)); exact HO186.out⟩, ⟨by repeat (first | (with_reducible first | exact HB.out | apply below_alloc | apply pw_below_drewN | apply below_drew1) | exact HB.out)⟩⟩
      case round =>
        clear H'
        try clear c2
        try clear c2b0
        try clear c2b1
        try clear p2
        try clear c3
        try clear c3b0
        try clear c3b1
        try clear c5
        obtain ⟨x3_1, x4_1, rfl, HA, HK1, HO_3, HB⟩ := hrel
        cases gk with
        | zero => exact absurd HA.out (by simp [laws_toIntS.l0])
        | succ k1 =>
          have H := HA.out
          clear HA
          simp only [laws_toIntS.l0] at H
          by_cases c6 : x4_1 < (l0.length : Int)
          · rw [if_pos c6] at H
            have c6b0 : decide (x4_1 < (l0.length : Int)) = true := decide_eq_true c6
            clear c6
            by_cases c7 : 0 ≤ x4_1
            · rw [if_pos c7] at H
              have c7b0 : decide (0 ≤ x4_1) = true := decide_eq_true c7
              clear c7
              by_cases c8 : x4_1 < (x3_1.length : Int)
              · rw [if_pos c8] at H
                have c8b0 : decide (x4_1 < (x3_1.length : Int)) = true := decide_eq_true c8
                clear c8
                obtain ⟨y188, hy188⟩ : ∃ y_ : List Int, y_ = (x3_1.set (x4_1 : Int).toNat (rd l0 x4_1)) := ⟨_, rfl⟩
                replace H : (laws_toIntS.l0 k1 l0 y188 (wrap64 (x4_1 + 1))) = some r := by first | (rw [hy188]; with_reducible exact H) | (have H2_ := (Option.bind_some _ _).symm.trans H; rw [hy188]; with_reducible exact H2_) | (have H2_ := (Option.bind_some _ _).symm.trans H; with_reducible exact H2_) | with_reducible exact H | (rw [hy188]; exact H) | exact H
                have Ny188 := Aside0.mk hy188
                clear hy188
                have H' := Aside0.mk H
                clear H
                have p187 : 0 ≤ (x4_1 : Int) := of_decide_eq_true (by first | (with_reducible assumption) | assumption)
                have q187 : x4_1 < (l0.length : Int) := of_decide_eq_true (by first | (with_reducible assumption) | assumption)
                obtain ⟨ad187, e187, hx187_0⟩ := Kd.at_int HR0.out x4_1 p187 q187
                cases e187
                replace hx187_0 := (HB.out.cell (World.block_lt_of_cell? w _ hx187_0)).trans hx187_0
                replace p187 := eq_true p187
                replace q187 := eq_true q187
                have p9 : 0 ≤ (x4_1 : Int) := of_decide_eq_true (by first | (with_reducible assumption) | assumption)
                have q9 : (x4_1 : Int) < ((x3_1.length : Int) : Int) := of_decide_eq_true (by first | (with_reducible assumption) | assumption)
                obtain ⟨go9, co9, eo9, gb9, gl9, cl9, HG9⟩ := Kd.R_form HO_3.out (by omega)
                (first | cases eo9 | (injection eo9 with ea_ en_ ec_; (first | subst ea_ | (injection ea_ with ea_; subst ea_)); subst ec_; clear en_))
                have GB9 := Aside0.mk gb9
                have GG9 := Aside0.mk HG9
                clear gb9 gl9 HG9
                obtain ⟨hx9_0, hf9_0⟩ := Kd.R_celln 0 HO_3.out (x4_1 : Int) p9 q9
                replace p9 := eq_true p9
                replace q9 := eq_true q9
                have HP10 := Kd.R_putg HO_3.out (x4_1 : Int) (rd l0 x4_1)
                go_wp2_with (first | ((with_reducible refine gate_store (t := 3) (p := 20) rfl ?_); refine store_event (t := 3) (p := 20) (v := ?vo_w11) (w1 := (wr.setCell ⟨go9, (x4_1 : Int).toNat, none⟩ (.int .i64 (rd l0 x4_1)))) ?hg ?ho ?hn ?hr ?_; (case ho => rfl); (case hg => rfl); (case hn => rfl); (case hr => first | (go_simp; done) | (go_simp; rfl)); intro w11 hw; have hg : wr.grownBy w11 (some go9) := (by rw [hw]; exact HP10.2); have hp_ : Kd.R (Kd.int .i64) 3 w11 w.heap.size (fun _ => True) (.slice (some ⟨go9, 0, none⟩) x3_1.length co9) y188 := (by rw [hw, Ny188.out]; exact HP10.1); clear HP10; have n0_ := Aside0.mk (hp_); have n1_ := Aside0.mk ((by rw [hw]; exact below_set (HB.out) GB9.out : Below w.heap.size w w11)); clear HO_3; clear HB; have HO_3 := n0_; have HB := n1_; clear n0_ n1_; clear hg hw hp_))
                go_roundg k1
                case measure => have := HK1.out; omega
                case rel => exact ⟨(y188), (wrap64 (x4_1 + 1)), (by first | rfl | (simp; done) | (simp [*]; done)), H', ⟨by have := HK1.out; omega⟩, ⟨by (with_reducible repeat (first | apply Kd.R_alloc | apply Kd.R_drewN | apply Kd.R_drew)); exact HO_3.out⟩, ⟨by repeat (first | (with_reducible first | exact HB.out | apply below_alloc | apply pw_below_drewN | apply below_drew1) | exact HB.out)⟩⟩
              · rw [if_neg c8] at H
                exact absurd H (by simp)
            · rw [if_neg c7] at H
              exact absurd H (by simp)
          · rw [if_neg c6] at H
            have c6b0 : decide (x4_1 < (l0.length : Int)) = false := decide_eq_false c6
            clear c6
            obtain rfl := Option.some.inj H
            go_wp2
            go_ret
            exact ⟨_, by first | rfl | (simp [errW_none, errW_some] <;> rfl) | (simp [*, errW_none, errW_some] <;> rfl), by (with_reducible repeat (first | apply Kd.R_alloc | apply Kd.R_drewN | apply Kd.R_drew)); exact HO_3.out, by repeat (first | (with_reducible first | exact HB.out | apply below_alloc | apply pw_below_drewN | apply below_drew1) | exact HB.out)⟩
    · rw [if_neg c3] at H
      exact absurd H (by simp)
  · rw [if_neg c2] at H
    exact absurd H (by simp)

/-! ### impl_within: function 27 -/
def impl_within.f (a0 : Int) (a1 : Int) (a2 : Int) : Option (Bool) := if a0 ≥ a1 then (some (decide (a0 ≤ a2))) else (some false)
set_option maxHeartbeats 8000000 in
set_option maxRecDepth 100000 in
theorem impl_within.calls (a0 : Int) (a1 : Int) (a2 : Int) (r : Bool) (w : World) (h : impl_within.f a0 a1 a2 = some r) :
    Calls Try.prog 27 #[.int .i64 a0, .int .i64 a1, .int .i64 a2] w fun e w' => e = .returned (.bool r) ∧ Drawn0 w w' := by
  have H : (if a0 ≥ a1 then (some (decide (a0 ≤ a2))) else (some false)) = some r := h
  clear h
  by_cases c4 : a0 ≥ a1
  · rw [if_pos c4] at H
    have c4b0 : decide (a1 ≤ a0) = true := decide_eq_true c4
    clear c4
    obtain rfl := Option.some.inj H
    go_enter Try.func27, Try.ntmps27
    go_wp2
    go_ret
    exact ⟨by first | rfl | (simp; done) | (simp [*]; done), by repeat (first | exact Drawn0.refl _ | apply Drawn0.step)⟩
  · rw [if_neg c4] at H
    have c4b0 : decide (a1 ≤ a0) = false := decide_eq_false c4
    clear c4
    obtain rfl := Option.some.inj H
    go_enter Try.func27, Try.ntmps27
    go_wp2
    go_ret
    exact ⟨by first | rfl | (simp; done) | (simp [*]; done), by repeat (first | exact Drawn0.refl _ | apply Drawn0.step)⟩

end Go.Proofs.Ytcdlflmeimbdaaa.PFnExactHeapsBefore
