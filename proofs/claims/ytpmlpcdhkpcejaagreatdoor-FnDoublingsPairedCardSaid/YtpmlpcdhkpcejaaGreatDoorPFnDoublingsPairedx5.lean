-- Written by hprint.py (a program of this session's) over the kit's print.py. Lean checks it.
import Derived.Test.YtpmlpcdhkpcejaaGreatDoorPFnDoublingsPairedx0
import Derived.Test.YtpmlpcdhkpcejaaGreatDoorPFnDoublingsPairedx2
import Derived.Test.YtpmlpcdhkpcejaaGreatDoorPFnDoublingsPairedx4
namespace Go.Proofs.YtpmlpcdhkpcejaaGreatDoor.PFnDoublingsPaired
open Go.RowKit Go.Proofs.YtpmlpcdhkpcejaaGreatDoorW.PrintWords Go.Proofs.YtpmlpcdhkpcejaaGreatDoorW.PrintLast Go.Proofs.YtpmlpcdhkpcejaaGreatDoorW.PrintMore
attribute [local go_sem] max2_int min2_int max_two min_two max_three min_three max_four min_four   -- for this text's walks alone
set_option linter.unusedVariables false
set_option linter.unusedSimpArgs false

/-! ### spec_dbGood: function 47 -/
def spec_dbGood.f (k : Nat) (l0 : List Int) : Option (Bool) := (spec_l1In.f (l0.length : Int) 2 4).bind fun t165 => (if t165 = true then ((spec_hpGood.f k l0).bind fun t166 => (if t166 = true then ((spec_hpSum.f k l0).bind fun t167 => ((spec_l1In.f t167 1 40).bind fun t168 => (some t168))) else (some false))) else (some false))
theorem spec_dbGood.mono : ∀ a0 k, LeO (spec_dbGood.f k a0) (spec_dbGood.f (k + 1) a0) := by
  intro a0 k
  unfold spec_dbGood.f
  repeat' first
      | (with_reducible exact spec_hpGood.mono _ _)
      | (with_reducible exact spec_hpSum.mono _ _)
      | (with_reducible exact LeO.refl _)
      | (with_reducible exact LeO.none _)
      | (with_reducible refine LeO.ite ?_ ?_)
      | (with_reducible refine LeO.bind ?_ (fun _ => ?_))
      | exact spec_hpGood.mono _ _
      | exact spec_hpSum.mono _ _
      | exact LeO.none _
      | refine LeO.ite ?_ ?_
      | refine LeO.bind ?_ (fun _ => ?_)
set_option maxHeartbeats 8000000 in
set_option maxRecDepth 100000 in
theorem spec_dbGood.calls (k : Nat) (A0 : Option Addr) (c0 : Nat) (l0 : List Int) (r : Bool) (w : World) (hr0 : Kd.C (Kd.int .i64) w A0 l0.length l0) (hc0 : l0.length ≤ c0) (h : spec_dbGood.f k l0 = some r) :
    Calls Tryz.prog 47 #[.slice A0 l0.length c0] w fun e w' => e = .returned (.bool r) ∧ Drawn0 w w' := by
  have HR0 := Aside0.mk hr0
  have HC0 := Aside0.mk hc0
  clear hr0 hc0
  have H : ((spec_l1In.f (l0.length : Int) 2 4).bind fun t165 => (if t165 = true then ((spec_hpGood.f k l0).bind fun t166 => (if t166 = true then ((spec_hpSum.f k l0).bind fun t167 => ((spec_l1In.f t167 1 40).bind fun t168 => (some t168))) else (some false))) else (some false))) = some r := h
  clear h
  replace H := Option.bind_eq_some_iff.mp H
  obtain ⟨t165, A20, H⟩ := H
  replace H : (if t165 = true then ((spec_hpGood.f k l0).bind fun t166 => (if t166 = true then ((spec_hpSum.f k l0).bind fun t167 => ((spec_l1In.f t167 1 40).bind fun t168 => (some t168))) else (some false))) else (some false)) = some r := H
  have A2 := Aside0.mk A20
  clear A20
  by_cases c3 : t165 = true
  · subst c3
    have H1 : ((spec_hpGood.f k l0).bind fun t166 => (if t166 = true then ((spec_hpSum.f k l0).bind fun t167 => ((spec_l1In.f t167 1 40).bind fun t168 => (some t168))) else (some false))) = some r := by rw [if_pos rfl] at H; exact H
    clear H
    have H := H1
    clear H1
    replace H := Option.bind_eq_some_iff.mp H
    obtain ⟨t166, A40, H⟩ := H
    replace H : (if t166 = true then ((spec_hpSum.f k l0).bind fun t167 => ((spec_l1In.f t167 1 40).bind fun t168 => (some t168))) else (some false)) = some r := H
    have A4 := Aside0.mk A40
    clear A40
    by_cases c5 : t166 = true
    · subst c5
      have H1 : ((spec_hpSum.f k l0).bind fun t167 => ((spec_l1In.f t167 1 40).bind fun t168 => (some t168))) = some r := by rw [if_pos rfl] at H; exact H
      clear H
      have H := H1
      clear H1
      replace H := Option.bind_eq_some_iff.mp H
      obtain ⟨t167, A60, H⟩ := H
      replace H : ((spec_l1In.f t167 1 40).bind fun t168 => (some t168)) = some r := H
      have A6 := Aside0.mk A60
      clear A60
      replace H := Option.bind_eq_some_iff.mp H
      obtain ⟨t168, A70, H⟩ := H
      replace H : (some t168) = some r := H
      have A7 := Aside0.mk A70
      clear A70
      obtain rfl := Option.some.inj H
      go_enter Tryz.func47, Tryz.ntmps47
      go_wp2_with (first | ((with_reducible refine gate_callee (f := 36) rfl ?_); refine goesL_ (some 5) rfl rfl Tryz.func36 (by kernel_rfl) rfl #[.int .i64 (l0.length : Int), .int .i64 2, .int .i64 4] rfl (by (try simp only [List.map_toArray, List.map_cons, List.map_nil]); first | done | rfl | (simp only [List.length_drop, List.length_take]; rfl)) ?_; (with_reducible refine (spec_l1In.calls (l0.length : Int) 2 4 true _ A2.out).mono ?_); rintro e w' ⟨rfl, ⟨nd, rfl⟩⟩; refine ⟨_, rfl, ?_⟩) | (go_at_call 65; (with_reducible refine (spec_hpGood.calls k _ _ l0 true _ ?side1 ?side2 A4.out).mono ?_); (case side1 => repeat (first | exact HR0.out | (with_reducible refine Kd.C_alloc ?_ _) | (with_reducible refine Kd.C_drewN ?_ _) | (with_reducible refine Kd.C_drew ?_))); (case side2 => exact HC0.out); rintro e w' ⟨rfl, ⟨nd, rfl⟩⟩) | (go_at_call 66; (with_reducible refine (spec_hpSum.calls k _ _ l0 t167 _ ?side1 ?side2 A6.out).mono ?_); (case side1 => repeat (first | exact HR0.out | (with_reducible refine Kd.C_alloc ?_ _) | (with_reducible refine Kd.C_drewN ?_ _) | (with_reducible refine Kd.C_drew ?_))); (case side2 => exact HC0.out); rintro e w' ⟨rfl, ⟨nd, rfl⟩⟩) | (go_at_call 36; (with_reducible refine (spec_l1In.calls t167 1 40 t168 _ A7.out).mono ?_); rintro e w' ⟨rfl, ⟨nd, rfl⟩⟩))
      go_ret
      exact ⟨by first | rfl | (simp; done) | (simp [*]; done), by repeat (first | exact Drawn0.refl _ | apply Drawn0.step)⟩
    · replace c5 := Bool.eq_false_iff.mpr c5
      subst c5
      have H1 : (some false) = some r := by rw [if_neg (show ¬ (false = true) by decide)] at H; exact H
      clear H
      have H := H1
      clear H1
      obtain rfl := Option.some.inj H
      go_enter Tryz.func47, Tryz.ntmps47
      go_wp2_with (first | ((with_reducible refine gate_callee (f := 36) rfl ?_); refine goesL_ (some 5) rfl rfl Tryz.func36 (by kernel_rfl) rfl #[.int .i64 (l0.length : Int), .int .i64 2, .int .i64 4] rfl (by (try simp only [List.map_toArray, List.map_cons, List.map_nil]); first | done | rfl | (simp only [List.length_drop, List.length_take]; rfl)) ?_; (with_reducible refine (spec_l1In.calls (l0.length : Int) 2 4 true _ A2.out).mono ?_); rintro e w' ⟨rfl, ⟨nd, rfl⟩⟩; refine ⟨_, rfl, ?_⟩) | (go_at_call 65; (with_reducible refine (spec_hpGood.calls k _ _ l0 false _ ?side1 ?side2 A4.out).mono ?_); (case side1 => repeat (first | exact HR0.out | (with_reducible refine Kd.C_alloc ?_ _) | (with_reducible refine Kd.C_drewN ?_ _) | (with_reducible refine Kd.C_drew ?_))); (case side2 => exact HC0.out); rintro e w' ⟨rfl, ⟨nd, rfl⟩⟩))
      go_ret
      exact ⟨by first | rfl | (simp; done) | (simp [*]; done), by repeat (first | exact Drawn0.refl _ | apply Drawn0.step)⟩
  · replace c3 := Bool.eq_false_iff.mpr c3
    subst c3
    have H1 : (some false) = some r := by rw [if_neg (show ¬ (false = true) by decide)] at H; exact H
    clear H
    have H := H1
    clear H1
    obtain rfl := Option.some.inj H
    go_enter Tryz.func47, Tryz.ntmps47
    go_wp2_with (first | ((with_reducible refine gate_callee (f := 36) rfl ?_); refine goesL_ (some 5) rfl rfl Tryz.func36 (by kernel_rfl) rfl #[.int .i64 (l0.length : Int), .int .i64 2, .int .i64 4] rfl (by (try simp only [List.map_toArray, List.map_cons, List.map_nil]); first | done | rfl | (simp only [List.length_drop, List.length_take]; rfl)) ?_; (with_reducible refine (spec_l1In.calls (l0.length : Int) 2 4 false _ A2.out).mono ?_); rintro e w' ⟨rfl, ⟨nd, rfl⟩⟩; refine ⟨_, rfl, ?_⟩))
    go_ret
    exact ⟨by first | rfl | (simp; done) | (simp [*]; done), by repeat (first | exact Drawn0.refl _ | apply Drawn0.step)⟩

/-! ### spec_l1Own: function 48 -/
def spec_l1Own.f (l0 : List Int) : Option (List Int) := (some (([] : List Int) : List Int)).bind fun y169 => (if y169.length + l0.length < 17592186044416 then (some (y169 ++ l0)) else (none))
set_option maxHeartbeats 8000000 in
set_option maxRecDepth 100000 in
theorem spec_l1Own.calls (A0 : Option Addr) (c0 : Nat) (l0 : List Int) (r : List Int) (w : World) (hr0 : Kd.C (Kd.int .i64) w A0 l0.length l0) (hc0 : l0.length ≤ c0) (h : spec_l1Own.f l0 = some r) :
    Calls Tryz.prog 48 #[.slice A0 l0.length c0] w fun e w' => ∃ v0_ : Value, e = .returned (v0_) ∧ Kd.R (Kd.int .i64) 3 w' w.heap.size (fun _ => True) v0_ r ∧ Below w.heap.size w w' := by
  have HR0 := Aside0.mk hr0
  have HC0 := Aside0.mk hc0
  clear hr0 hc0
  have HB := Aside0.mk (Below.refl w.heap.size w)
  have H : ((some (([] : List Int) : List Int)).bind fun y169 => (if y169.length + l0.length < 17592186044416 then (some (y169 ++ l0)) else (none))) = some r := h
  clear h
  obtain ⟨y169, hy169⟩ : ∃ y_ : List Int, y_ = (([] : List Int)) := ⟨_, rfl⟩
  replace H : (if y169.length + l0.length < 17592186044416 then (some (y169 ++ l0)) else (none)) = some r := by first | (rw [hy169]; with_reducible exact H) | (have H2_ := (Option.bind_some _ _).symm.trans H; rw [hy169]; with_reducible exact H2_) | (have H2_ := (Option.bind_some _ _).symm.trans H; with_reducible exact H2_) | with_reducible exact H | (rw [hy169]; exact H) | exact H
  have Ny169 := Aside0.mk hy169
  clear hy169
  by_cases c2 : y169.length + l0.length < 17592186044416
  · rw [if_pos c2] at H
    have LMc2 := Aside0.mk c2
    clear c2
    obtain ⟨y172, hy172⟩ : ∃ y_ : List Int, y_ = (y169 ++ l0) := ⟨_, rfl⟩
    replace H : (some y172) = some r := by first | (rw [hy172]; with_reducible exact H) | (have H2_ := (Option.bind_some _ _).symm.trans H; rw [hy172]; with_reducible exact H2_) | (have H2_ := (Option.bind_some _ _).symm.trans H; with_reducible exact H2_) | with_reducible exact H | (rw [hy172]; exact H) | exact H
    have Ny172 := Aside0.mk hy172
    clear hy172
    obtain rfl := Option.some.inj H
    go_enter Tryz.func48, Tryz.ntmps48
    go_wp2_with (first | ((with_reducible refine gate_dst (N := 3) rfl ?_); refine Kd.R_lit (Kd.int .i64) _ 3 ?hg (N := 3) ?hd (xs := ([] : List Int)) (inner := []) (ok := fun _ => True) (okp := fun _ => True) ?hr ?hp (fun _ hk => hk) trivial (Below.refl _ _) (Nat.le_refl _) (by simp) ?_; (case hd => rfl); (case hg => rfl); (case hr => first | (go_simp; done) | (go_simp; rfl)); (case hp => exact (Reps.none _ _)); intro v170 w3 ho4 hb hg_ hnew_; clear hg_ hnew_; (first | rw [← Ny169.out] at ho4 | (simp only [Int.reduceToNat] at ho4; rw [← Ny169.out] at ho4)); have n0_ := Aside0.mk (Kd.R_lower ho4 (below_size (by repeat (first | (with_reducible first | exact HB.out | apply below_alloc | apply pw_below_drewN | apply below_drew1) | exact HB.out)))); have n1_ := Aside0.mk (below_step (by repeat (first | (with_reducible first | exact HB.out | apply below_alloc | apply pw_below_drewN | apply below_drew1) | exact HB.out)) hb); clear HB; have HO171 := n0_; have HB := n1_; clear n0_ n1_; clear hb ho4) | ((with_reducible refine gate_builtin (b := .append) (xs := #[.tmp 3, .tmp 4]) rfl ?_); at_builtin; refine Kd.R_append_rows (Kd.int .i64) (w0 := w) w.heap.size rfl (.tmp 3) (.tmp 4) 33 3 (.int .i64 0) 8 rfl Tryz.underlying33 info3 rfl (by decide) (by omega) v170 y169 l0 _ _ _ (fun _ => True) (fun _ => False) rfl rfl ?aO ?aR (fun _ _ h => h) (fun _ h => h.elim) ?aF ?aB ?aS ?aL ?_; (case aR => repeat (first | exact (Kd.C_below HR0.out HB.out) | (with_reducible refine Kd.C_alloc ?_ _) | (with_reducible refine Kd.C_drewN ?_ _) | (with_reducible refine Kd.C_drew ?_))); (case aB => exact (by repeat (first | (with_reducible first | exact HB.out | apply below_alloc | apply pw_below_drewN | apply below_drew1) | exact HB.out))); (case aF => exact (fun _ _ => trivial)); (case aO => exact (by (with_reducible repeat (first | apply Kd.R_alloc | apply Kd.R_drewN | apply Kd.R_drew)); exact HO171.out)); (case aS => exact (below_size (by repeat (first | (with_reducible first | exact HB.out | apply below_alloc | apply pw_below_drewN | apply below_drew1) | exact HB.out)))); (case aL => have := LMc2.out; omega); intro v173 w5 ho hb hg hat; rw [← Ny172.out] at ho; have n0_ := Aside0.mk (hb); have n1_ := Aside0.mk (ho); clear HB; clear HO171; have HB := n0_; have HO174 := n1_; clear n0_ n1_; clear ho hb hg hat))
    go_ret
    exact ⟨_, by first | rfl | (simp [errW_none, errW_some] <;> rfl) | (simp [*, errW_none, errW_some] <;> rfl), by (with_reducible repeat (first | apply Kd.R_alloc | apply Kd.R_drewN | apply Kd.R_drew)); exact HO174.out, by repeat (first | (with_reducible first | exact HB.out | apply below_alloc | apply pw_below_drewN | apply below_drew1) | exact HB.out)⟩
  · rw [if_neg c2] at H
    exact absurd H (by simp)

/-! ### spec_dbMake: function 50 -/
def spec_dbMake.f (l0 : List Int) (a1_0 : Int) (a1_1 : Int) : Option (List Int) := (spec_l1Own.f l0).bind fun t176 => (if 0 ≤ a1_0 then (if a1_0 < (t176.length : Int) then (if 0 ≤ a1_1 then (if a1_1 < (l0.length : Int) then (if a1_1 < (t176.length : Int) then (some ((t176.set (a1_0 : Int).toNat (wrap64 ((rd t176 a1_0) - (rd l0 a1_1)))).set (a1_1 : Int).toNat (wrap64 (2 * (rd l0 a1_1))))) else (none)) else (none)) else (none)) else (none)) else (none))
def spec_dbMake.T2 : Bool × List (List Nat × List Nat) := (true, [([], []), ([], []), ([1], [1]), ([0, 2], [0, 2]), ([3], [3]), ([], []), ([], []), ([6], [6]), ([5, 7], [5, 7]), ([8], [8]), ([4, 9], [4, 9]), ([0, 2, 0, 1, 2, 3, 4, 5, 6, 7, 8, 9, 10], [0, 2]), ([11, 10, 0, 1, 2, 3, 4, 5, 6, 7, 8, 9, 10], [10, 11])])
def spec_dbMake.B2 : List Nat := [0, 0, 2, 7, 15, 0, 0, 64, 224, 480, 1023, 2047, 4095]
theorem spec_dbMake.tab2 : rtab .any (opsOf Tryz.f50 2) = spec_dbMake.T2 := by kernel_rfl
theorem spec_dbMake.bits2 : waitsOk spec_dbMake.T2.2 spec_dbMake.B2 = true := by kernel_rfl
def spec_dbMake.T3 : Bool × List (List Nat × List Nat) := (true, [([], []), ([], []), ([1], [1]), ([], []), ([], []), ([4], [4]), ([3, 5], [3, 5]), ([6], [6]), ([7], [7]), ([0, 2, 0, 1, 2, 3, 4, 5, 6, 7, 8], [0, 2]), ([9, 8, 0, 1, 2, 3, 4, 5, 6, 7, 8], [8, 9])])
def spec_dbMake.B3 : List Nat := [0, 0, 2, 0, 0, 16, 56, 120, 248, 511, 1023]
theorem spec_dbMake.tab3 : rtab .any (opsOf Tryz.f50 3) = spec_dbMake.T3 := by kernel_rfl
theorem spec_dbMake.bits3 : waitsOk spec_dbMake.T3.2 spec_dbMake.B3 = true := by kernel_rfl
set_option maxHeartbeats 8000000 in
set_option maxRecDepth 100000 in
theorem spec_dbMake.calls (A0 : Option Addr) (c0 : Nat) (l0 : List Int) (a1_0 : Int) (a1_1 : Int) (r : List Int) (w : World) (hr0 : Kd.C (Kd.int .i64) w A0 l0.length l0) (hc0 : l0.length ≤ c0) (h : spec_dbMake.f l0 a1_0 a1_1 = some r) :
    Calls Tryz.prog 50 #[.slice A0 l0.length c0, .agg #[.int .i64 a1_0, .int .i64 a1_1]] w fun e w' => ∃ v0_ : Value, e = .returned (v0_) ∧ Kd.R (Kd.int .i64) 3 w' w.heap.size (fun _ => True) v0_ r ∧ Below w.heap.size w w' := by
  have hu48 := Tryz.underlying48
  have HR0 := Aside0.mk hr0
  have HC0 := Aside0.mk hc0
  clear hr0 hc0
  have HB := Aside0.mk (Below.refl w.heap.size w)
  have H : ((spec_l1Own.f l0).bind fun t176 => (if 0 ≤ a1_0 then (if a1_0 < (t176.length : Int) then (if 0 ≤ a1_1 then (if a1_1 < (l0.length : Int) then (if a1_1 < (t176.length : Int) then (some ((t176.set (a1_0 : Int).toNat (wrap64 ((rd t176 a1_0) - (rd l0 a1_1)))).set (a1_1 : Int).toNat (wrap64 (2 * (rd l0 a1_1))))) else (none)) else (none)) else (none)) else (none)) else (none))) = some r := h
  clear h
  replace H := Option.bind_eq_some_iff.mp H
  obtain ⟨t176, A30, H⟩ := H
  replace H : (if 0 ≤ a1_0 then (if a1_0 < (t176.length : Int) then (if 0 ≤ a1_1 then (if a1_1 < (l0.length : Int) then (if a1_1 < (t176.length : Int) then (some ((t176.set (a1_0 : Int).toNat (wrap64 ((rd t176 a1_0) - (rd l0 a1_1)))).set (a1_1 : Int).toNat (wrap64 (2 * (rd l0 a1_1))))) else (none)) else (none)) else (none)) else (none)) else (none)) = some r := H
  have A3 := Aside0.mk A30
  clear A30
  by_cases c4 : 0 ≤ a1_0
  · rw [if_pos c4] at H
    have c4b0 : decide (0 ≤ a1_0) = true := decide_eq_true c4
    clear c4
    by_cases c5 : a1_0 < (t176.length : Int)
    · rw [if_pos c5] at H
      have c5b0 : decide (a1_0 < (t176.length : Int)) = true := decide_eq_true c5
      clear c5
      by_cases c6 : 0 ≤ a1_1
      · rw [if_pos c6] at H
        have c6b0 : decide (0 ≤ a1_1) = true := decide_eq_true c6
        clear c6
        by_cases c7 : a1_1 < (l0.length : Int)
        · rw [if_pos c7] at H
          have c7b0 : decide (a1_1 < (l0.length : Int)) = true := decide_eq_true c7
          clear c7
          obtain ⟨y181, hy181⟩ : ∃ y_ : List Int, y_ = (t176.set (a1_0 : Int).toNat (wrap64 ((rd t176 a1_0) - (rd l0 a1_1)))) := ⟨_, rfl⟩
          replace H : (if a1_1 < (t176.length : Int) then (some (y181.set (a1_1 : Int).toNat (wrap64 (2 * (rd l0 a1_1))))) else (none)) = some r := by first | (rw [hy181]; with_reducible exact H) | (have H2_ := (Option.bind_some _ _).symm.trans H; rw [hy181]; with_reducible exact H2_) | (have H2_ := (Option.bind_some _ _).symm.trans H; with_reducible exact H2_) | with_reducible exact H | (rw [hy181]; exact H) | exact H
          have Ny181 := Aside0.mk hy181
          clear hy181
          by_cases c9 : a1_1 < (t176.length : Int)
          · rw [if_pos c9] at H
            have c9b0 : decide (a1_1 < (t176.length : Int)) = true := decide_eq_true c9
            clear c9
            obtain ⟨y183, hy183⟩ : ∃ y_ : List Int, y_ = (y181.set (a1_1 : Int).toNat (wrap64 (2 * (rd l0 a1_1)))) := ⟨_, rfl⟩
            replace H : (some y183) = some r := by first | (rw [hy183]; with_reducible exact H) | (have H2_ := (Option.bind_some _ _).symm.trans H; rw [hy183]; with_reducible exact H2_) | (have H2_ := (Option.bind_some _ _).symm.trans H; with_reducible exact H2_) | with_reducible exact H | (rw [hy183]; exact H) | exact H
            have Ny183 := Aside0.mk hy183
            clear hy183
            obtain rfl := Option.some.inj H
            go_enter Tryz.func50, Tryz.ntmps50
            try go_wp2_with (first | ((with_reducible refine gate_dst (N := 3) rfl ?_); refine box_event ?hg (N := 3) ?hd (cs := #[.int .i64 a1_0, .int .i64 a1_1]) (t := 48) ?hr ?_; (case hd => rfl); (case hg => rfl); (case hr => first | (go_simp; done) | (go_simp; rfl)); intro gb175 hg w11 hbox hb; have n0_ := Aside0.mk (below_step (by repeat (first | (with_reducible first | exact HB.out | apply below_alloc | apply pw_below_drewN | apply below_drew1) | exact HB.out)) hb); have n1_ := Aside0.mk (hbox); have n2_ := Aside0.mk ((by rw [hg]; exact (below_size (by repeat (first | (with_reducible first | exact HB.out | apply below_alloc | apply pw_below_drewN | apply below_drew1) | exact HB.out))) : w.heap.size ≤ gb175)); have n3_ := Aside0.mk ((by rw [hg]; exact (below_size (by repeat (first | (with_reducible first | exact HB.out | apply below_alloc | apply pw_below_drewN | apply below_drew1) | exact HB.out))) : w.heap.size ≤ gb175)); clear HB; have HB := n0_; have BK175 := n1_; have GW175 := n2_; have GE175 := n3_; clear n0_ n1_ n2_ n3_; clear hb hbox hg) | ((with_reducible refine gate_callee (f := 48) rfl ?_); refine goesL_ (some 7) rfl rfl Tryz.func48 (by kernel_rfl) rfl #[.slice A0 l0.length c0] rfl (by (try simp only [List.map_toArray, List.map_cons, List.map_nil]); first | done | rfl | (simp only [List.length_drop, List.length_take]; rfl)) ?_; (with_reducible refine (spec_l1Own.calls _ _ l0 t176 _ ?side1 ?side2 A3.out).mono ?_); (case side1 => repeat (first | exact (Kd.C_below HR0.out HB.out) | (with_reducible refine Kd.C_alloc ?_ _) | (with_reducible refine Kd.C_drewN ?_ _) | (with_reducible refine Kd.C_drew ?_))); (case side2 => exact HC0.out); rintro e w12 ⟨v177, rfl, ho0, hb⟩; refine ⟨_, rfl, ?_⟩; have n0_ := Aside0.mk (Kd.R_lower ho0 (below_size (by repeat (first | (with_reducible first | exact HB.out | apply below_alloc | apply pw_below_drewN | apply below_drew1 | refine below_set ?_ GE175.out) | exact HB.out)))); have n1_ := Aside0.mk (blk_below (g := gb175) (o := .cells #[.int .i64 a1_0, .int .i64 a1_1] 48 (0, 0)) (by (with_reducible repeat (first | refine blk_drewN ?_ _ | refine blk_drew ?_ | refine blk_alloc ?_ _)); exact BK175.out) hb); have n2_ := Aside0.mk (below_step (by repeat (first | (with_reducible first | exact HB.out | apply below_alloc | apply pw_below_drewN | apply below_drew1 | refine below_set ?_ GE175.out) | exact HB.out)) hb); clear BK175; clear HB; have HO178 := n0_; have BK175 := n1_; have HB := n2_; clear n0_ n1_ n2_; (try clear hb); (try clear hb2); (try clear hk); (try clear hi); (try clear ho0)))
            have n0_ := Aside0.mk (Kd.R_drew HO178.out)
            have n1_ := Aside0.mk (blk_drew BK175.out)
            have n2_ := Aside0.mk (below_drew1 HB.out)
            clear HO178
            clear BK175
            clear HB
            have HO178 := n0_
            have BK175 := n1_
            have HB := n2_
            clear n0_ n1_ n2_
            obtain ⟨Ao14, co14, eo14⟩ := Kd.R_slice HO178.out
            (first | subst eo14 | (injection eo14 with f1_ f2_ f3_; have f4_ := f1_.symm; have f5_ := f3_.symm; clear f1_ f2_ f3_; subst f4_; subst f5_))
            have p179 : 0 ≤ (a1_0 : Int) := of_decide_eq_true (by first | (with_reducible assumption) | assumption)
            have q179 : a1_0 < (t176.length : Int) := of_decide_eq_true (by first | (with_reducible assumption) | assumption)
            obtain ⟨ad179, e179, hx179_0⟩ := Kd.at_int (Kd.R_reads' HO178.out).2.2 a1_0 p179 q179
            cases e179
            replace p179 := eq_true p179
            replace q179 := eq_true q179
            have p180 : 0 ≤ (a1_1 : Int) := of_decide_eq_true (by first | (with_reducible assumption) | assumption)
            have q180 : a1_1 < (l0.length : Int) := of_decide_eq_true (by first | (with_reducible assumption) | assumption)
            obtain ⟨ad180, e180, hx180_0⟩ := Kd.at_int HR0.out a1_1 p180 q180
            have hw180_0 := hx180_0
            cases e180
            replace hx180_0 := (HB.out.cell (World.block_lt_of_cell? w _ hx180_0)).trans hx180_0
            replace p180 := eq_true p180
            replace q180 := eq_true q180
            have p8 : 0 ≤ (a1_0 : Int) := of_decide_eq_true (by first | (with_reducible assumption) | assumption)
            have q8 : (a1_0 : Int) < ((t176.length : Int) : Int) := of_decide_eq_true (by first | (with_reducible assumption) | assumption)
            obtain ⟨go8, co8, eo8, gb8, gl8, cl8, HG8⟩ := Kd.R_form HO178.out (by omega)
            (first | cases eo8 | (injection eo8 with ea_ en_ ec_; (first | subst ea_ | (injection ea_ with ea_; subst ea_)); subst ec_; clear en_))
            have GB8 := Aside0.mk gb8
            have GG8 := Aside0.mk HG8
            clear gb8 gl8 HG8
            (first | simp only [add_plain] at hx179_0 | skip)
            obtain ⟨hx8_0, hf8_0⟩ := Kd.R_celln 0 HO178.out (a1_0 : Int) p8 q8
            replace p8 := eq_true p8
            replace q8 := eq_true q8
            have HP15 := Kd.R_putn HO178.out (a1_0 : Int) (wrap64 ((rd t176 a1_0) - (rd l0 a1_1)))
            rw [← Ny181.out] at HP15
            have HQ15 := Aside0.mk HP15
            clear HP15
            refine start_ (n := 13) (S := fun w' => w'.cell? ⟨gb175, 0, none⟩ = some (.int .i64 a1_0) ∧ w'.cell? ⟨gb175, 1, none⟩ = some (.int .i64 a1_1) ∧ w'.cell? ⟨go8, (a1_0).toNat, none⟩ = some (.int .i64 (rd t176 a1_0)) ∧ w'.cell? (ad180.add (a1_1).toNat) = some (.int .i64 (rd l0 a1_1))) (ds := [12]) #[false, false, false, false, false, false, false, false, false, false, false, false, false] (by kernel_rfl) rfl rfl ⟨(blk_cell BK175.out 0).trans rfl, (blk_cell BK175.out 1).trans rfl, hx179_0, ((HB.out.cell (World.block_lt_of_cell? w _ hw180_0)).trans hw180_0)⟩ (fun hHeld => ?_); refine with_tabW spec_dbMake.tab2 spec_dbMake.bits2 (fun HT_ HW_ => ?_)
            generalize w12.drew = w13 at HO178 BK175 HB GG8 HQ15 hf8_0 hx179_0 hx180_0 hx8_0 hHeld ⊢
            refine pure_ (i := 0) (N := some 8) (v := ?_) (a' := ?_) #[true, false, false, false, false, false, false, false, false, false, false, false, false] rfl rfl (any_of HT_.out (by kernel_rfl)) (fun _ _ _ h => h) (Or.inl ⟨by rfl, ?_⟩) ?_ ?_
            rotate_left
            · intro w'
              go_simp
              with_reducible rfl
            rotate_left
            · simp only [Act.put, List.setIfInBounds_toArray, List.set_cons_zero, List.set_cons_succ, i64_w, i32_w]
              rfl
            refine pure_ (i := 1) (N := some 9) (v := ?_) (a' := ?_) #[true, true, false, false, false, false, false, false, false, false, false, false, false] rfl rfl (any_of HT_.out (by kernel_rfl)) (fun _ _ _ h => h) (Or.inl ⟨by rfl, ?_⟩) ?_ ?_
            rotate_left
            · intro w'
              go_simp
              with_reducible rfl
            rotate_left
            · simp only [Act.put, List.setIfInBounds_toArray, List.set_cons_zero, List.set_cons_succ, i64_w, i32_w]
              rfl
            refine pure_ (i := 5) (N := some 13) (v := ?_) (a' := ?_) #[true, true, false, false, false, true, false, false, false, false, false, false, false] rfl rfl (any_of HT_.out (by kernel_rfl)) (fun _ _ _ h => h) (Or.inl ⟨by rfl, ?_⟩) ?_ ?_
            rotate_left
            · intro w'
              go_simp
              with_reducible rfl
            rotate_left
            · simp only [Act.put, List.setIfInBounds_toArray, List.set_cons_zero, List.set_cons_succ, i64_w, i32_w]
              rfl
            refine pure_ (i := 6) (N := some 14) (v := ?_) (a' := ?_) #[true, true, false, false, false, true, true, false, false, false, false, false, false] rfl rfl (any_of HT_.out (by kernel_rfl)) (fun _ _ _ h => h) (Or.inl ⟨by rfl, ?_⟩) ?_ ?_
            rotate_left
            · intro w'
              go_simp
              with_reducible rfl
            rotate_left
            · simp only [Act.put, List.setIfInBounds_toArray, List.set_cons_zero, List.set_cons_succ, i64_w, i32_w]
              rfl
            refine take_ (i := 2) (N := some 10) (v := ?_) (a' := ?_) #[true, true, true, false, false, true, true, false, false, false, false, false, false] rfl rfl (take_ofW HT_.out HW_.out (by kernel_rfl)) (fun _ _ _ h => h) (Or.inl ⟨by rfl, ?_⟩) hHeld ?_ ?_
            rotate_left
            · rintro w' ⟨s0, s1, s2, s3⟩
              go_simp
              with_reducible rfl
            rotate_left
            · simp only [Act.put, List.setIfInBounds_toArray, List.set_cons_zero, List.set_cons_succ, i64_w, i32_w]
              rfl
            refine pure_ (i := 3) (N := some 11) (v := ?_) (a' := ?_) #[true, true, true, true, false, true, true, false, false, false, false, false, false] rfl rfl (any_of HT_.out (by kernel_rfl)) (fun _ _ _ h => h) (Or.inl ⟨by rfl, ?_⟩) ?_ ?_
            rotate_left
            · intro w'
              go_simp
              with_reducible rfl
            rotate_left
            · simp only [Act.put, List.setIfInBounds_toArray, List.set_cons_zero, List.set_cons_succ, i64_w, i32_w]
              rfl
            refine take_ (i := 4) (N := some 12) (v := ?_) (a' := ?_) #[true, true, true, true, true, true, true, false, false, false, false, false, false] rfl rfl (take_ofW HT_.out HW_.out (by kernel_rfl)) (fun _ _ _ h => h) (Or.inl ⟨by rfl, ?_⟩) hHeld ?_ ?_
            rotate_left
            · rintro w' ⟨s0, s1, s2, s3⟩
              go_simp
              with_reducible rfl
            rotate_left
            · simp only [Act.put, List.setIfInBounds_toArray, List.set_cons_zero, List.set_cons_succ, i64_w, i32_w]
              rfl
            refine take_ (i := 7) (N := some 15) (v := ?_) (a' := ?_) #[true, true, true, true, true, true, true, true, false, false, false, false, false] rfl rfl (take_ofW HT_.out HW_.out (by kernel_rfl)) (fun _ _ _ h => h) (Or.inl ⟨by rfl, ?_⟩) hHeld ?_ ?_
            rotate_left
            · rintro w' ⟨s0, s1, s2, s3⟩
              go_simp
              with_reducible rfl
            rotate_left
            · simp only [Act.put, List.setIfInBounds_toArray, List.set_cons_zero, List.set_cons_succ, i64_w, i32_w]
              rfl
            refine pure_ (i := 8) (N := some 16) (v := ?_) (a' := ?_) #[true, true, true, true, true, true, true, true, true, false, false, false, false] rfl rfl (any_of HT_.out (by kernel_rfl)) (fun _ _ _ h => h) (Or.inl ⟨by rfl, ?_⟩) ?_ ?_
            rotate_left
            · intro w'
              go_simp
              with_reducible rfl
            rotate_left
            · simp only [Act.put, List.setIfInBounds_toArray, List.set_cons_zero, List.set_cons_succ, i64_w, i32_w]
              rfl
            refine take_ (i := 9) (N := some 17) (v := ?_) (a' := ?_) #[true, true, true, true, true, true, true, true, true, true, false, false, false] rfl rfl (take_ofW HT_.out HW_.out (by kernel_rfl)) (fun _ _ _ h => h) (Or.inl ⟨by rfl, ?_⟩) hHeld ?_ ?_
            rotate_left
            · rintro w' ⟨s0, s1, s2, s3⟩
              go_simp
              with_reducible rfl
            rotate_left
            · simp only [Act.put, List.setIfInBounds_toArray, List.set_cons_zero, List.set_cons_succ, i64_w, i32_w]
              rfl
            refine pure_ (i := 10) (N := some 18) (v := ?_) (a' := ?_) #[true, true, true, true, true, true, true, true, true, true, true, false, false] rfl rfl (any_of HT_.out (by kernel_rfl)) (fun _ _ _ h => h) (Or.inl ⟨by rfl, ?_⟩) ?_ ?_
            rotate_left
            · intro w'
              go_simp
              with_reducible rfl
            rotate_left
            · simp only [Act.put, List.setIfInBounds_toArray, List.set_cons_zero, List.set_cons_succ, i64_w, i32_w]
              rfl
            refine pure_ (i := 11) (N := some 19) (v := ?_) (a' := ?_) #[true, true, true, true, true, true, true, true, true, true, true, true, false] rfl rfl (any_of HT_.out (by kernel_rfl)) (fun _ _ _ h => h) (Or.inl ⟨by rfl, ?_⟩) ?_ ?_
            rotate_left
            · intro w'
              go_simp
              with_reducible rfl
            rotate_left
            · simp only [Act.put, List.setIfInBounds_toArray, List.set_cons_zero, List.set_cons_succ, i64_w, i32_w]
              rfl
            refine last_ (i := 12) (N := none) #[true, true, true, true, true, true, true, true, true, true, true, true, true] rfl rfl (one_of HT_.out (by kernel_rfl)) (by decide) (fun K hK => ?_)
            refine skip_ (w1 := ?_) (by rfl) rfl ?_ ?_
            rotate_left
            · go_simp
              rfl
            refine hK.out _ _ ?_
            clear hK K
            refine done_ (done_of HT_.out (by kernel_rfl)) ?_
            try go_wp2
            have n0_ : Aside0 (Kd.R (Kd.int .i64) 3 (w13.setCell ⟨go8, (a1_0 : Int).toNat, none⟩ (.int .i64 (wrap64 ((rd t176 a1_0) - (rd l0 a1_1))))) w.heap.size (fun _ => True) (.slice (some ⟨go8, 0, none⟩) t176.length co14) y181) := ⟨by (with_reducible repeat (first | apply Kd.R_alloc | apply Kd.R_drewN | apply Kd.R_drew)); exact HQ15.out⟩
            have n1_ : Aside0 ((w13.setCell ⟨go8, (a1_0 : Int).toNat, none⟩ (.int .i64 (wrap64 ((rd t176 a1_0) - (rd l0 a1_1))))).heap[gb175]? = some (.cells #[.int .i64 a1_0, .int .i64 a1_1] 48 (0, 0))) := ⟨by (with_reducible repeat (first | refine blk_drewN ?_ _ | refine blk_drew ?_ | refine blk_alloc ?_ _)); refine blk_far ?_ (by have h_ := Kd.R_ne HO178.out BK175.out (by decide); intro e_; exact h_ (by rw [e_]; rfl)) _; (with_reducible repeat (first | refine blk_drewN ?_ _ | refine blk_drew ?_ | refine blk_alloc ?_ _)); exact BK175.out⟩
            have n2_ : Aside0 (Below w.heap.size w (w13.setCell ⟨go8, (a1_0 : Int).toNat, none⟩ (.int .i64 (wrap64 ((rd t176 a1_0) - (rd l0 a1_1)))))) := ⟨by repeat (first | (with_reducible first | exact HB.out | apply below_alloc | apply pw_below_drewN | apply below_drew1 | refine below_set ?_ GB8.out | refine below_set ?_ GE175.out) | exact HB.out)⟩
            (try clear HO178)
            (try clear BK175)
            (try clear HB)
            generalize (w13.setCell ⟨go8, (a1_0 : Int).toNat, none⟩ (.int .i64 (wrap64 ((rd t176 a1_0) - (rd l0 a1_1))))) = w16 at n0_ n1_ n2_ ⊢
            have HO178 := n0_
            have BK175 := n1_
            have HB := n2_
            clear n0_ n1_ n2_
            have n0_ := Aside0.mk (Kd.R_drew HO178.out)
            have n1_ := Aside0.mk (blk_drew BK175.out)
            have n2_ := Aside0.mk (below_drew1 HB.out)
            clear HO178
            clear BK175
            clear HB
            have HO178 := n0_
            have BK175 := n1_
            have HB := n2_
            clear n0_ n1_ n2_
            have p182 : 0 ≤ (a1_1 : Int) := of_decide_eq_true (by first | (with_reducible assumption) | assumption)
            have q182 : a1_1 < (l0.length : Int) := of_decide_eq_true (by first | (with_reducible assumption) | assumption)
            obtain ⟨ad182, e182, hx182_0⟩ := Kd.at_int HR0.out a1_1 p182 q182
            have hw182_0 := hx182_0
            obtain rfl : ad180 = ad182 := (by injection e182)
            replace hx182_0 := (HB.out.cell (World.block_lt_of_cell? w _ hx182_0)).trans hx182_0
            replace p182 := eq_true p182
            replace q182 := eq_true q182
            have p10 : 0 ≤ (a1_1 : Int) := of_decide_eq_true (by first | (with_reducible assumption) | assumption)
            have q10 : (a1_1 : Int) < ((t176.length : Int) : Int) := of_decide_eq_true (by first | (with_reducible assumption) | assumption)
            obtain ⟨hx10_0, hf10_0⟩ := Kd.R_celln 0 HO178.out (a1_1 : Int) p10 q10
            replace p10 := eq_true p10
            replace q10 := eq_true q10
            have HP18 := Kd.R_putn HO178.out (a1_1 : Int) (wrap64 (2 * (rd l0 a1_1)))
            rw [← Ny183.out] at HP18
            have HQ18 := Aside0.mk HP18
            clear HP18
            refine start_ (n := 11) (S := fun w' => w'.cell? ⟨gb175, 0, none⟩ = some (.int .i64 a1_0) ∧ w'.cell? ⟨gb175, 1, none⟩ = some (.int .i64 a1_1) ∧ w'.cell? (ad180.add (a1_1).toNat) = some (.int .i64 (rd l0 a1_1))) (ds := [10]) #[false, false, false, false, false, false, false, false, false, false, false] (by kernel_rfl) rfl rfl ⟨(blk_cell BK175.out 0).trans rfl, (blk_cell BK175.out 1).trans rfl, ((HB.out.cell (World.block_lt_of_cell? w _ hw182_0)).trans hw182_0)⟩ (fun hHeld => ?_); refine with_tabW spec_dbMake.tab3 spec_dbMake.bits3 (fun HT_ HW_ => ?_)
            generalize w16.drew = w17 at HO178 BK175 HB HQ15 HQ18 hf10_0 hx10_0 hx182_0 hHeld ⊢
            refine pure_ (i := 0) (N := some 20) (v := ?_) (a' := ?_) #[true, false, false, false, false, false, false, false, false, false, false] rfl rfl (any_of HT_.out (by kernel_rfl)) (fun _ _ _ h => h) (Or.inl ⟨by rfl, ?_⟩) ?_ ?_
            rotate_left
            · intro w'
              go_simp
              with_reducible rfl
            rotate_left
            · simp only [Act.put, List.setIfInBounds_toArray, List.set_cons_zero, List.set_cons_succ, i64_w, i32_w]
              rfl
            refine pure_ (i := 1) (N := some 21) (v := ?_) (a' := ?_) #[true, true, false, false, false, false, false, false, false, false, false] rfl rfl (any_of HT_.out (by kernel_rfl)) (fun _ _ _ h => h) (Or.inl ⟨by rfl, ?_⟩) ?_ ?_
            rotate_left
            · intro w'
              go_simp
              with_reducible rfl
            rotate_left
            · simp only [Act.put, List.setIfInBounds_toArray, List.set_cons_zero, List.set_cons_succ, i64_w, i32_w]
              rfl
            refine pure_ (i := 3) (N := some 23) (v := ?_) (a' := ?_) #[true, true, false, true, false, false, false, false, false, false, false] rfl rfl (any_of HT_.out (by kernel_rfl)) (fun _ _ _ h => h) (Or.inl ⟨by rfl, ?_⟩) ?_ ?_
            rotate_left
            · intro w'
              go_simp
              with_reducible rfl
            rotate_left
            · simp only [Act.put, List.setIfInBounds_toArray, List.set_cons_zero, List.set_cons_succ, i64_w, i32_w]
              rfl
            refine pure_ (i := 4) (N := some 24) (v := ?_) (a' := ?_) #[true, true, false, true, true, false, false, false, false, false, false] rfl rfl (any_of HT_.out (by kernel_rfl)) (fun _ _ _ h => h) (Or.inl ⟨by rfl, ?_⟩) ?_ ?_
            rotate_left
            · intro w'
              go_simp
              with_reducible rfl
            rotate_left
            · simp only [Act.put, List.setIfInBounds_toArray, List.set_cons_zero, List.set_cons_succ, i64_w, i32_w]
              rfl
            refine take_ (i := 2) (N := some 22) (v := ?_) (a' := ?_) #[true, true, true, true, true, false, false, false, false, false, false] rfl rfl (take_ofW HT_.out HW_.out (by kernel_rfl)) (fun _ _ _ h => h) (Or.inl ⟨by rfl, ?_⟩) hHeld ?_ ?_
            rotate_left
            · rintro w' ⟨s0, s1, s2⟩
              go_simp
              with_reducible rfl
            rotate_left
            · simp only [Act.put, List.setIfInBounds_toArray, List.set_cons_zero, List.set_cons_succ, i64_w, i32_w]
              rfl
            refine take_ (i := 5) (N := some 25) (v := ?_) (a' := ?_) #[true, true, true, true, true, true, false, false, false, false, false] rfl rfl (take_ofW HT_.out HW_.out (by kernel_rfl)) (fun _ _ _ h => h) (Or.inl ⟨by rfl, ?_⟩) hHeld ?_ ?_
            rotate_left
            · rintro w' ⟨s0, s1, s2⟩
              go_simp
              with_reducible rfl
            rotate_left
            · simp only [Act.put, List.setIfInBounds_toArray, List.set_cons_zero, List.set_cons_succ, i64_w, i32_w]
              rfl
            refine pure_ (i := 6) (N := some 26) (v := ?_) (a' := ?_) #[true, true, true, true, true, true, true, false, false, false, false] rfl rfl (any_of HT_.out (by kernel_rfl)) (fun _ _ _ h => h) (Or.inl ⟨by rfl, ?_⟩) ?_ ?_
            rotate_left
            · intro w'
              go_simp
              with_reducible rfl
            rotate_left
            · simp only [Act.put, List.setIfInBounds_toArray, List.set_cons_zero, List.set_cons_succ, i64_w, i32_w]
              rfl
            refine take_ (i := 7) (N := some 27) (v := ?_) (a' := ?_) #[true, true, true, true, true, true, true, true, false, false, false] rfl rfl (take_ofW HT_.out HW_.out (by kernel_rfl)) (fun _ _ _ h => h) (Or.inl ⟨by rfl, ?_⟩) hHeld ?_ ?_
            rotate_left
            · rintro w' ⟨s0, s1, s2⟩
              go_simp
              with_reducible rfl
            rotate_left
            · simp only [Act.put, List.setIfInBounds_toArray, List.set_cons_zero, List.set_cons_succ, i64_w, i32_w]
              rfl
            refine pure_ (i := 8) (N := some 28) (v := ?_) (a' := ?_) #[true, true, true, true, true, true, true, true, true, false, false] rfl rfl (any_of HT_.out (by kernel_rfl)) (fun _ _ _ h => h) (Or.inl ⟨by rfl, ?_⟩) ?_ ?_
            rotate_left
            · intro w'
              go_simp
              with_reducible rfl
            rotate_left
            · simp only [Act.put, List.setIfInBounds_toArray, List.set_cons_zero, List.set_cons_succ, i64_w, i32_w]
              rfl
            refine pure_ (i := 9) (N := some 29) (v := ?_) (a' := ?_) #[true, true, true, true, true, true, true, true, true, true, false] rfl rfl (any_of HT_.out (by kernel_rfl)) (fun _ _ _ h => h) (Or.inl ⟨by rfl, ?_⟩) ?_ ?_
            rotate_left
            · intro w'
              go_simp
              with_reducible rfl
            rotate_left
            · simp only [Act.put, List.setIfInBounds_toArray, List.set_cons_zero, List.set_cons_succ, i64_w, i32_w]
              rfl
            refine last_ (i := 10) (N := none) #[true, true, true, true, true, true, true, true, true, true, true] rfl rfl (one_of HT_.out (by kernel_rfl)) (by decide) (fun K hK => ?_)
            refine skip_ (w1 := ?_) (by rfl) rfl ?_ ?_
            rotate_left
            · go_simp
              rfl
            refine hK.out _ _ ?_
            clear hK K
            refine done_ (done_of HT_.out (by kernel_rfl)) ?_
            try go_wp2
            go_ret
            exact ⟨_, by first | rfl | (simp [errW_none, errW_some] <;> rfl) | (simp [*, errW_none, errW_some] <;> rfl), by (with_reducible repeat (first | apply Kd.R_alloc | apply Kd.R_drewN | apply Kd.R_drew)); exact HQ18.out, by repeat (first | (with_reducible first | exact HB.out | apply below_alloc | apply pw_below_drewN | apply below_drew1 | refine below_set ?_ GB8.out | refine below_set ?_ GE175.out) | exact HB.out)⟩
          · rw [if_neg c9] at H
            exact absurd H (by simp)
        · rw [if_neg c7] at H
          exact absurd H (by simp)
      · rw [if_neg c6] at H
        exact absurd H (by simp)
    · rw [if_neg c5] at H
      exact absurd H (by simp)
  · rw [if_neg c4] at H
    exact absurd H (by simp)

/-! ### spec_l1Cur_fewHeaps: function 61, by hand -/
theorem dr.At.grown {w0 w w1 : World} {g : Nat} {A : Option Addr} {c : Nat} {xs : List Int} {m : Int} {row : Option Nat} (h : dr.At w0 g A c xs m w) (hg : w.grownBy w1 row) (hne : some g ≠ row) (hb : Below w0.heap.size w0 w1) : dr.At w0 g A c xs m w1 := by
  obtain ⟨_, h2, p, s, h3, h4, h5⟩ := h
  exact ⟨hb, h2, p, s, blk_grown h3 hg hne, h4, h5⟩
theorem dr.ownOr {W : World} {e base : Nat} {ok : Nat → Prop} {v : Value} {α : Type} {d : Kd α} {l : List α} {n : Nat} (h : Kd.R d e W base ok v l) (hok : ∀ k, ok k → n ≤ k) : v.ownBlock = none ∨ ∃ b, v.ownBlock = some b ∧ n ≤ b := by
  cases e : v.ownBlock with
  | none => exact Or.inl rfl
  | some b => exact Or.inr ⟨b, rfl, hok b (h.1 b e)⟩
theorem dr.ownNe {W : World} {e base g : Nat} {ok : Nat → Prop} {v : Value} {α : Type} {d : Kd α} {l : List α} (h : Kd.R d e W base ok v l) (hok : ∀ k, ok k → g ≠ k) : some g ≠ v.ownBlock := fun e => hok g (h.1 g e.symm) rfl
/-- What is known of a row that is made while the cursor draws. -/
structure dr.Out (w0 : World) (g : Nat) (A : Option Addr) (c : Nat) (xs : List Int) (w : World) (m : Int) (v : Value) (l : List Int) (W : World) : Prop where
  at_ : dr.At w0 g A c xs m W
  row : Kd.R (Kd.int .i64) 3 W w0.heap.size (fun k => w.heap.size ≤ k) v l
  keep : KeepBut w W g none
  lt : g < w.heap.size
theorem dr.Out.drawn {w0 w W W1 : World} {g : Nat} {A : Option Addr} {c : Nat} {xs : List Int} {m m' : Int} {v : Value} {l : List Int} (h : dr.Out w0 g A c xs w m v l W) (ha : dr.At w0 g A c xs m' W1) (hk : KeepBut W W1 g none) : dr.Out w0 g A c xs w m' v l W1 :=
  ⟨ha, Kd.R_keep h.row hk (fun k hk => by have := h.lt; omega), h.keep.trans hk (Or.inl rfl), h.lt⟩
theorem dr.Out.appended {w0 w W W1 : World} {g : Nat} {A : Option Addr} {c : Nat} {xs : List Int} {m : Int} {v v1 : Value} {l l1 : List Int} (h : dr.Out w0 g A c xs w m v l W) (ho : Kd.R (Kd.int .i64) 3 W1 w0.heap.size (fun k => w.heap.size ≤ k) v1 l1) (hb : Below w0.heap.size w0 W1) (hg : W.grownBy W1 v.ownBlock) : dr.Out w0 g A c xs w m v1 l1 W1 :=
  ⟨h.at_.grown hg (dr.ownNe h.row (fun k hk => by have := h.lt; omega)) hb, ho, h.keep.trans (KeepBut.of_grown hg g) (dr.ownOr h.row (fun _ hk => hk)), h.lt⟩
theorem dr.Out.lit {w0 w w2 W6 : World} {g : Nat} {A : Option Addr} {c : Nat} {xs : List Int} {m : Int} {v : Value} {l : List Int} (h : dr.Out w0 g A c xs w m v l w2) (h6 : dr.At w0 g A c xs m W6) (k6 : KeepBut w W6 g none) (W : World) (cs : Array Value) (n : Nat) (l1 : List Int) (hO : cs.toList = l1.map (Value.int .i64)) (hn : l1.length = n) (h0 : 0 < n) (hm : n ≤ 1000) (hW : w2.heap.size ≤ W.heap.size) (hb : Below (W.alloc (.cells cs 3)).heap.size (W.alloc (.cells cs 3)) W6) :
    dr.Out w0 g A c xs w m (.slice (some ⟨W.heap.size, 0, none⟩) n n) l1 W6 := by
  subst hn
  refine ⟨h6, Kd.R_lower (Kd.R_mono (Kd.R_below (dr.lit W cs l1 hO h0 (by unfold maxLen; omega)) hb) (fun k hk => ?_)) ?_, k6, h.lt⟩
  · have := h.keep.1
    omega
  · have := h.at_.below.size
    omega
theorem dr.pick6 {w0 w w2 : World} {g : Nat} {A : Option Addr} {c : Nat} {xs : List Int} {m : Int} {v : Value} {l : List Int} (hr : dr.Row w0 A c xs) (h : dr.Out w0 g A c xs w m v l w2) (hm : m ≤ 1000000) :
    Calls Tryz.prog 60 #[.pointer (some ⟨g, 0, none⟩), .int .i64 6] ((((((w2.alloc (.cells #[.int .i64 3] 3)).alloc (.cells #[.int .i64 0, .int .i64 0] 3)).alloc (.cells #[.int .i64 20, .int .i64 21] 3)).alloc (.cells #[.int .i64 40, .int .i64 0, .int .i64 0] 3)).alloc (.cells #[.int .i64 1, .int .i64 2, .int .i64 3, .int .i64 4, .int .i64 5] 3)).alloc (.cells #[.slice none 0 0, .slice (some ⟨w2.heap.size, 0, none⟩) 1 1, .slice (some ⟨w2.heap.size + 1, 0, none⟩) 2 2, .slice (some ⟨w2.heap.size + 1 + 1, 0, none⟩) 2 2, .slice (some ⟨w2.heap.size + 1 + 1 + 1, 0, none⟩) 3 3, .slice (some ⟨w2.heap.size + 1 + 1 + 1 + 1, 0, none⟩) 5 5] 33)) fun e w' =>
      ∃ b : Int, e = .returned (.int .i64 b) ∧ 0 ≤ b ∧ b < 6 ∧ ∃ (A1 : Option Addr) (c1 : Nat) (l1 : List Int), w'.cell? ⟨w2.heap.size + 1 + 1 + 1 + 1 + 1, b.toNat, none⟩ = some (.slice A1 l1.length c1) ∧ l1.length ≤ 20 ∧ dr.Out w0 g A c xs w (m + 2) (.slice A1 l1.length c1) l1 w' := by
  have ha := (((((h.at_.alloc (.cells #[.int .i64 3] 3)).alloc (.cells #[.int .i64 0, .int .i64 0] 3)).alloc (.cells #[.int .i64 20, .int .i64 21] 3)).alloc (.cells #[.int .i64 40, .int .i64 0, .int .i64 0] 3)).alloc (.cells #[.int .i64 1, .int .i64 2, .int .i64 3, .int .i64 4, .int .i64 5] 3)).alloc (.cells #[.slice none 0 0, .slice (some ⟨w2.heap.size, 0, none⟩) 1 1, .slice (some ⟨w2.heap.size + 1, 0, none⟩) 2 2, .slice (some ⟨w2.heap.size + 1 + 1, 0, none⟩) 2 2, .slice (some ⟨w2.heap.size + 1 + 1 + 1, 0, none⟩) 3 3, .slice (some ⟨w2.heap.size + 1 + 1 + 1 + 1, 0, none⟩) 5 5] 33)
  have hB : ∀ (W : World) (o : Obj), Below W.heap.size W (W.alloc o) := fun W o => below_alloc (Below.refl _ _) o
  have k6 : KeepBut w ((((((w2.alloc (.cells #[.int .i64 3] 3)).alloc (.cells #[.int .i64 0, .int .i64 0] 3)).alloc (.cells #[.int .i64 20, .int .i64 21] 3)).alloc (.cells #[.int .i64 40, .int .i64 0, .int .i64 0] 3)).alloc (.cells #[.int .i64 1, .int .i64 2, .int .i64 3, .int .i64 4, .int .i64 5] 3)).alloc (.cells #[.slice none 0 0, .slice (some ⟨w2.heap.size, 0, none⟩) 1 1, .slice (some ⟨w2.heap.size + 1, 0, none⟩) 2 2, .slice (some ⟨w2.heap.size + 1 + 1, 0, none⟩) 2 2, .slice (some ⟨w2.heap.size + 1 + 1 + 1, 0, none⟩) 3 3, .slice (some ⟨w2.heap.size + 1 + 1 + 1 + 1, 0, none⟩) 5 5] 33)) g none :=
    h.keep.trans (KeepBut.of_below (below_alloc (below_alloc (below_alloc (below_alloc (below_alloc (below_alloc (Below.refl _ _) _) _) _) _) _) _) g none) (Or.inl rfl)
  have s1 := h.lit ha k6 w2 #[.int .i64 3] 1 [3] rfl rfl (by omega) (by omega) (by omega) (below_alloc (below_alloc (below_alloc (below_alloc (below_alloc (Below.refl _ _) _) _) _) _) _)
  have s2 := h.lit ha k6 (w2.alloc (.cells #[.int .i64 3] 3)) #[.int .i64 0, .int .i64 0] 2 [0, 0] rfl rfl (by omega) (by omega) (by simp) (below_alloc (below_alloc (below_alloc (below_alloc (Below.refl _ _) _) _) _) _)
  have s3 := h.lit ha k6 ((w2.alloc (.cells #[.int .i64 3] 3)).alloc (.cells #[.int .i64 0, .int .i64 0] 3)) #[.int .i64 20, .int .i64 21] 2 [20, 21] rfl rfl (by omega) (by omega) (by simp; omega) (below_alloc (below_alloc (below_alloc (Below.refl _ _) _) _) _)
  have s4 := h.lit ha k6 (((w2.alloc (.cells #[.int .i64 3] 3)).alloc (.cells #[.int .i64 0, .int .i64 0] 3)).alloc (.cells #[.int .i64 20, .int .i64 21] 3)) #[.int .i64 40, .int .i64 0, .int .i64 0] 3 [40, 0, 0] rfl rfl (by omega) (by omega) (by simp; omega) (below_alloc (below_alloc (Below.refl _ _) _) _)
  have s5 := h.lit ha k6 ((((w2.alloc (.cells #[.int .i64 3] 3)).alloc (.cells #[.int .i64 0, .int .i64 0] 3)).alloc (.cells #[.int .i64 20, .int .i64 21] 3)).alloc (.cells #[.int .i64 40, .int .i64 0, .int .i64 0] 3)) #[.int .i64 1, .int .i64 2, .int .i64 3, .int .i64 4, .int .i64 5] 5 [1, 2, 3, 4, 5] rfl rfl (by omega) (by omega) (by simp; omega) (below_alloc (Below.refl _ _) _)
  have s0 : dr.Out w0 g A c xs w m (.slice none 0 0) [] ((((((w2.alloc (.cells #[.int .i64 3] 3)).alloc (.cells #[.int .i64 0, .int .i64 0] 3)).alloc (.cells #[.int .i64 20, .int .i64 21] 3)).alloc (.cells #[.int .i64 40, .int .i64 0, .int .i64 0] 3)).alloc (.cells #[.int .i64 1, .int .i64 2, .int .i64 3, .int .i64 4, .int .i64 5] 3)).alloc (.cells #[.slice none 0 0, .slice (some ⟨w2.heap.size, 0, none⟩) 1 1, .slice (some ⟨w2.heap.size + 1, 0, none⟩) 2 2, .slice (some ⟨w2.heap.size + 1 + 1, 0, none⟩) 2 2, .slice (some ⟨w2.heap.size + 1 + 1 + 1, 0, none⟩) 3 3, .slice (some ⟨w2.heap.size + 1 + 1 + 1 + 1, 0, none⟩) 5 5] 33)) := ⟨ha, Kd.R_nil _ _ _ _ _, k6, h.lt⟩
  have hblk := blk_new (((((w2.alloc (.cells #[.int .i64 3] 3)).alloc (.cells #[.int .i64 0, .int .i64 0] 3)).alloc (.cells #[.int .i64 20, .int .i64 21] 3)).alloc (.cells #[.int .i64 40, .int .i64 0, .int .i64 0] 3)).alloc (.cells #[.int .i64 1, .int .i64 2, .int .i64 3, .int .i64 4, .int .i64 5] 3)) (.cells #[.slice none 0 0, .slice (some ⟨w2.heap.size, 0, none⟩) 1 1, .slice (some ⟨w2.heap.size + 1, 0, none⟩) 2 2, .slice (some ⟨w2.heap.size + 1 + 1, 0, none⟩) 2 2, .slice (some ⟨w2.heap.size + 1 + 1 + 1, 0, none⟩) 3 3, .slice (some ⟨w2.heap.size + 1 + 1 + 1 + 1, 0, none⟩) 5 5] 33)
  have esz : (((((w2.alloc (.cells #[.int .i64 3] 3)).alloc (.cells #[.int .i64 0, .int .i64 0] 3)).alloc (.cells #[.int .i64 20, .int .i64 21] 3)).alloc (.cells #[.int .i64 40, .int .i64 0, .int .i64 0] 3)).alloc (.cells #[.int .i64 1, .int .i64 2, .int .i64 3, .int .i64 4, .int .i64 5] 3)).heap.size = w2.heap.size + 1 + 1 + 1 + 1 + 1 := by simp
  rw [esz] at hblk
  simp only [World.alloc, Array.size_push] at s2 s3 s4 s5
  change dr.Out w0 g A c xs w m _ _ ((((((w2.alloc (.cells #[.int .i64 3] 3)).alloc (.cells #[.int .i64 0, .int .i64 0] 3)).alloc (.cells #[.int .i64 20, .int .i64 21] 3)).alloc (.cells #[.int .i64 40, .int .i64 0, .int .i64 0] 3)).alloc (.cells #[.int .i64 1, .int .i64 2, .int .i64 3, .int .i64 4, .int .i64 5] 3)).alloc (.cells #[.slice none 0 0, .slice (some ⟨w2.heap.size, 0, none⟩) 1 1, .slice (some ⟨w2.heap.size + 1, 0, none⟩) 2 2, .slice (some ⟨w2.heap.size + 1 + 1, 0, none⟩) 2 2, .slice (some ⟨w2.heap.size + 1 + 1 + 1, 0, none⟩) 3 3, .slice (some ⟨w2.heap.size + 1 + 1 + 1 + 1, 0, none⟩) 5 5] 33)) at s2 s3 s4 s5
  generalize ((((((w2.alloc (.cells #[.int .i64 3] 3)).alloc (.cells #[.int .i64 0, .int .i64 0] 3)).alloc (.cells #[.int .i64 20, .int .i64 21] 3)).alloc (.cells #[.int .i64 40, .int .i64 0, .int .i64 0] 3)).alloc (.cells #[.int .i64 1, .int .i64 2, .int .i64 3, .int .i64 4, .int .i64 5] 3)).alloc (.cells #[.slice none 0 0, .slice (some ⟨w2.heap.size, 0, none⟩) 1 1, .slice (some ⟨w2.heap.size + 1, 0, none⟩) 2 2, .slice (some ⟨w2.heap.size + 1 + 1, 0, none⟩) 2 2, .slice (some ⟨w2.heap.size + 1 + 1 + 1, 0, none⟩) 3 3, .slice (some ⟨w2.heap.size + 1 + 1 + 1 + 1, 0, none⟩) 5 5] 33)) = W6 at *
  refine (dr.pick 6 hr ha hm).mono ?_
  rintro e w' ⟨⟨b, rfl, b0, b1⟩, ha', hk'⟩
  have hne : w2.heap.size + 1 + 1 + 1 + 1 + 1 ≠ g := by have := h.at_.lt; omega
  have hblk' := hk'.blk hblk hne (by simp)
  have hc := blk_cell hblk' b.toNat
  refine ⟨b, rfl, b0, by omega, ?_⟩
  have hb6 : b = 0 ∨ b = 1 ∨ b = 2 ∨ b = 3 ∨ b = 4 ∨ b = 5 := by omega
  rcases hb6 with rfl | rfl | rfl | rfl | rfl | rfl
  · exact ⟨_, _, [], hc, by simp, s0.drawn ha' hk'⟩
  · exact ⟨_, _, [3], hc, by simp, s1.drawn ha' hk'⟩
  · exact ⟨_, _, [0, 0], hc, by simp, s2.drawn ha' hk'⟩
  · exact ⟨_, _, [20, 21], hc, by simp, s3.drawn ha' hk'⟩
  · exact ⟨_, _, [40, 0, 0], hc, by simp, s4.drawn ha' hk'⟩
  · exact ⟨_, _, [1, 2, 3, 4, 5], hc, by simp, s5.drawn ha' hk'⟩
set_option maxRecDepth 100000 in
set_option maxHeartbeats 8000000 in
theorem dr.few {w0 w : World} {g : Nat} {A : Option Addr} {c : Nat} {xs : List Int} {m : Int} (hr : dr.Row w0 A c xs) (h : dr.At w0 g A c xs m w) (hm : m ≤ 10000) :
    Calls Tryz.prog 61 #[.pointer (some ⟨g, 0, none⟩)] w fun e w' => ∃ (v : Value) (l : List Int), e = .returned v ∧ l.length ≤ 20 ∧ dr.Out w0 g A c xs w (m + 60) v l w' := by
  have HP := Aside0.mk (dr.pick 3 hr h (by omega))
  have HR := Aside0.mk hr
  have hlt := h.lt
  clear h hr
  go_enter Tryz.func61, Tryz.ntmps61
  go_wp2_with (go_at_call 60; (with_reducible refine HP.out.mono ?_); rintro e w1 ⟨⟨b1, rfl, hb0, hb1⟩, ha1, hk1⟩; have HA1 := Aside0.mk (dr.Out.mk (l := []) (v := .slice none 0 0) ha1 (Kd.R_nil _ _ _ _ _) hk1 hlt); have hb2 : b1 < 3 := (by omega); clear ha1 hk1 hb1)
  have e1 : wrap64 (2 + b1) = 2 + b1 := by unfold wrap64; omega
  go_loopg [3, 4] (2 + b1).toNat (fun gg s3 s4 wr => ∃ (l : List Int) (kk : Int), s4 = .int .i64 kk ∧ Aside0 (0 ≤ kk ∧ kk ≤ gg ∧ kk + l.length ≤ 4) ∧ Aside0 (dr.Out w0 g A c xs w (m + 2 + 2 * l.length) s3 l wr))
  case atStart => exact ⟨[], 2 + b1, by first | rfl | rw [e1], ⟨by omega, by omega, by simp; omega⟩, ⟨by simpa using HA1.out⟩⟩
  case round =>
    obtain ⟨l, kk, rfl, HK, HO⟩ := hrel
    by_cases c1 : kk > 0
    · have HL := Aside0.mk (show l.length ≤ 4 by have := HK.out; omega)
      have w2_ : wrap64 (kk - 1) = kk - 1 := by have := HK.out; unfold wrap64; omega
      go_wp2_with (first
        | (go_at_call 60; (with_reducible refine (dr.pick 11 HR.out HO.out.at_ (by have := HL.out; omega)).mono ?_); rintro e w2 ⟨⟨b2, rfl, _, _⟩, ha2, hk2⟩; have HA2 := Aside0.mk (HO.out.drawn ha2 hk2); clear ha2 hk2)
        | ((with_reducible refine gate_builtin (b := .append) (xs := #[.tmp 12, .tmp 15]) rfl ?_); at_builtin; refine Kd.R_append (Kd.int .i64) w0.heap.size rfl (.tmp 12) (.tmp 15) 33 3 (.int .i64 0) 8 rfl Tryz.underlying33 info3 rfl (by decide) (by omega) _ l b2 [.int .i64 b2] (fun k_ => w.heap.size ≤ k_) (fun _ => False) rfl rfl ?aP (fun _ hk => hk.elim) ?aF HA2.out.row HA2.out.at_.below ?aS ?aL ?_; (case aP => exact rfl); (case aF => exact (fun k_ hk => Nat.le_trans HA2.out.keep.1 hk)); (case aS => exact HA2.out.at_.below.size); (case aL => have := HL.out; omega); intro v236 w8 ho hb hg hat; have HA3 := Aside0.mk (HA2.out.appended ho hb hg); clear ho hb hg hat))
      go_roundg (kk - 1).toNat
      case measure => have := HK.out; omega
      case rel => exact ⟨l ++ [b2], kk - 1, by first | rfl | rw [w2_], ⟨by omega, by omega, by have := HK.out; simp; omega⟩, ⟨⟨HA3.out.at_.mono (by simp; omega), HA3.out.row, HA3.out.keep, HA3.out.lt⟩⟩⟩
    · have HL := Aside0.mk (show l.length ≤ 4 by have := HK.out; omega)
      clear HK HA1 HP
      go_wp2_with (first
        | (go_at_call 60; (with_reducible refine (dr.pick 14 HR.out HO.out.at_ (by have := HL.out; omega)).mono ?_); rintro e w2 ⟨⟨b2, rfl, _, _⟩, ha2, hk2⟩; have HA2 := Aside0.mk (HO.out.drawn ha2 hk2); clear ha2 hk2 HO)
        | (go_at_call 31; (with_reducible refine (dr.amongLit (w := w2) _ _ [-1, 0, 1, 41, 4611686018427387904] ?s1 ?s2 ?s3 ?s4 HR.out HA2.out.at_ (by have := HL.out; omega)).mono ?_); (case s1 => rfl); (case s2 => rfl); (case s3 => omega); (case s4 => omega); rintro e w3 ⟨⟨b3, rfl⟩, ha3, hk3⟩; have HA3 := Aside0.mk (HA2.out.drawn ha3 hk3); clear ha3 hk3)
        | ((with_reducible refine gate_builtin (b := .append) (xs := #[.tmp 21, .tmp 25]) rfl ?_); at_builtin; refine Kd.R_append (Kd.int .i64) w0.heap.size rfl (.tmp 21) (.tmp 25) 33 3 (.int .i64 0) 8 rfl Tryz.underlying33 info3 rfl (by decide) (by omega) _ l b3 [.int .i64 b3] (fun k_ => w.heap.size ≤ k_) (fun _ => False) rfl rfl ?aP (fun _ hk => hk.elim) ?aF HA3.out.row HA3.out.at_.below ?aS ?aL ?_; (case aP => exact rfl); (case aF => exact (fun k_ hk => Nat.le_trans HA3.out.keep.1 hk)); (case aS => exact HA3.out.at_.below.size); (case aL => have := HL.out; omega); intro v236 w8 ho hb hg hat; have HA4 := Aside0.mk (HA3.out.appended ho hb hg); clear ho hb hg hat)
        | (go_at_call 60; (with_reducible refine (dr.pick6 HR.out HA2.out (by have := HL.out; omega)).mono ?_); rintro e w5 ⟨b5, rfl, b50, b51, A5, c5, l5, hx5, hl5, ho5⟩; have HA5 := Aside0.mk ho5; clear ho5))
      · go_ret
        exact ⟨_, l ++ [b3], rfl, by have := HL.out; simp; omega, HA4.out.at_.mono (by have := HL.out; omega), HA4.out.row, HA4.out.keep, HA4.out.lt⟩
      · go_ret
        exact ⟨_, l5, rfl, hl5, HA5.out.at_.mono (by have := HL.out; omega), HA5.out.row, HA5.out.keep, HA5.out.lt⟩
      · go_ret
        exact ⟨_, l, rfl, by have := HL.out; omega, HA2.out.at_.mono (by have := HL.out; omega), HA2.out.row, HA2.out.keep, HA2.out.lt⟩

/-! ### spec_dbCan: function 49, by hand -/
def spec_dbCan.f (l0 : List Int) (a1_0 : Int) (a1_1 : Int) : Option (Bool) := (spec_l1In.f a1_0 0 (wrap64 ((l0.length : Int) - 1))).bind fun t225 => (if t225 = true then ((spec_l1In.f a1_1 0 (wrap64 ((l0.length : Int) - 1))).bind fun t226 => (if t226 = true then (if a1_0 = a1_1 then (some false) else (if 0 ≤ a1_1 then (if a1_1 < (l0.length : Int) then (if (rd l0 a1_1) > 0 then (if 0 ≤ a1_0 then (if a1_0 < (l0.length : Int) then (some (decide ((rd l0 a1_0) ≥ (rd l0 a1_1)))) else (none)) else (none)) else (some false)) else (none)) else (none))) else (some false))) else (some false))
theorem spec_dbCan.qw {x a b : Int} {r : Bool} (h : spec_l1In.f x a b = some r) (w : World) (n : Nat) : Calls Tryz.prog 36 #[.int .i64 x, .int .i64 a, .int .i64 b] (w.drewN n) fun e w'' => e = .returned (.bool r) ∧ ∃ m, w'' = w.drewN m :=
  Calls.quiet_of ((spec_l1In.calls x a b r _ h).mono (by rintro e w' ⟨rfl, q, rfl⟩; exact ⟨rfl, q, rfl⟩))
set_option maxHeartbeats 1000000 in
set_option maxRecDepth 100000 in
theorem spec_dbCan.calls (A0 : Option Addr) (c0 : Nat) (l0 : List Int) (a1_0 : Int) (a1_1 : Int) (r : Bool) (w : World) (hr0 : Kd.C (Kd.int .i64) w A0 l0.length l0) (hc0 : l0.length ≤ c0) (h : spec_dbCan.f l0 a1_0 a1_1 = some r) :
    Calls Tryz.prog 49 #[.slice A0 l0.length c0, .agg #[.int .i64 a1_0, .int .i64 a1_1]] w fun e w' => e = .returned (.bool r) ∧ Below w.heap.size w w' := by
  have hB : ∀ q, Below w.heap.size w ((w.alloc (.cells #[.int .i64 a1_0, .int .i64 a1_1] 48)).drewN q) := fun q => pw_below_drewN ((Below.refl _ w).alloc (Nat.le_refl _) _) q
  have HB := Aside0.mk hB
  have hR := Kd.C_below hr0 ((Below.refl _ w).alloc (Nat.le_refl _) (.cells #[.int .i64 a1_0, .int .i64 a1_1] 48))
  clear hB hr0 hc0
  unfold spec_dbCan.f at h
  obtain ⟨t1, e1, h⟩ := Option.bind_eq_some_iff.mp h
  have E1 := Aside0.mk e1
  clear e1
  cases t1 with
  | false =>
    obtain rfl : false = r := by simpa using h
    clear h hR
    go_enter Tryz.func49, Tryz.ntmps49
    go_wp2
    go_quiet ((go_at_call 36; exact spec_dbCan.qw E1.out _ _))
    go_wp2
    go_ret
    exact ⟨rfl, HB.out _⟩
  | true =>
    simp only [if_true] at h
    obtain ⟨t2, e2, h⟩ := Option.bind_eq_some_iff.mp h
    have E2 := Aside0.mk e2
    clear e2
    cases t2 with
    | false =>
      obtain rfl : false = r := by simpa using h
      clear h hR
      go_enter Tryz.func49, Tryz.ntmps49
      go_wp2
      go_quiet ((go_at_call 36; first | with_reducible exact spec_dbCan.qw E1.out _ _ | with_reducible exact spec_dbCan.qw E2.out _ _))
      go_wp2
      go_ret
      exact ⟨rfl, HB.out _⟩
    | true =>
      simp only [if_true] at h
      by_cases c3 : a1_0 = a1_1
      · rw [if_pos c3] at h
        obtain rfl := Option.some.inj h
        have c3' : (a1_0 != a1_1) = false := by simp [c3]
        clear h hR c3
        go_enter Tryz.func49, Tryz.ntmps49
        go_wp2
        go_quiet ((go_at_call 36; first | with_reducible exact spec_dbCan.qw E1.out _ _ | with_reducible exact spec_dbCan.qw E2.out _ _))
        go_wp2
        go_ret
        exact ⟨rfl, HB.out _⟩
      · rw [if_neg c3] at h
        have c3' : (a1_0 != a1_1) = true := by simp [c3]
        clear c3
        by_cases c4 : 0 ≤ a1_1
        case neg => rw [if_neg c4] at h; cases h
        rw [if_pos c4] at h
        by_cases c5 : a1_1 < (l0.length : Int)
        case neg => rw [if_neg c5] at h; cases h
        rw [if_pos c5] at h
        obtain ⟨ad, rfl, hx1⟩ := Kd.at_int hR a1_1 c4 c5
        have c4' : decide (0 ≤ a1_1) = true := decide_eq_true c4
        have c5' : decide (a1_1 < (l0.length : Int)) = true := decide_eq_true c5
        by_cases c6 : rd l0 a1_1 > 0
        · rw [if_pos c6] at h
          have c6' : decide (0 < rd l0 a1_1) = true := decide_eq_true c6
          by_cases c7 : 0 ≤ a1_0
          case neg => rw [if_neg c7] at h; cases h
          rw [if_pos c7] at h
          by_cases c8 : a1_0 < (l0.length : Int)
          case neg => rw [if_neg c8] at h; cases h
          rw [if_pos c8] at h
          obtain rfl := Option.some.inj h
          obtain ⟨ad', e', hx2⟩ := Kd.at_int hR a1_0 c7 c8
          obtain rfl := Option.some.inj e'
          have c7' : decide (0 ≤ a1_0) = true := decide_eq_true c7
          have c8' : decide (a1_0 < (l0.length : Int)) = true := decide_eq_true c8
          generalize rd l0 a1_0 = x0 at *
          generalize rd l0 a1_1 = x1 at *
          clear h hR e'
          go_enter Tryz.func49, Tryz.ntmps49
          go_wp2
          go_quiet ((go_at_call 36; first | with_reducible exact spec_dbCan.qw E1.out _ _ | with_reducible exact spec_dbCan.qw E2.out _ _))
          go_wp2
          go_ret
          exact ⟨rfl, HB.out _⟩
        · rw [if_neg c6] at h
          obtain rfl := Option.some.inj h
          have c6' : decide (0 < rd l0 a1_1) = false := decide_eq_false c6
          generalize rd l0 a1_1 = x1 at *
          clear h hR
          go_enter Tryz.func49, Tryz.ntmps49
          go_wp2
          go_quiet ((go_at_call 36; first | with_reducible exact spec_dbCan.qw E1.out _ _ | with_reducible exact spec_dbCan.qw E2.out _ _))
          go_wp2
          go_ret
          exact ⟨rfl, HB.out _⟩

/-! ### spec_dbAll: function 62 -/
mutual
def spec_dbAll.l0 : Nat → List Int → List (S48) → Int → Int → Option ((List (S48)))
  | 0, _, _, _, _ => none
  | k + 1, x0, x3, x8, x9 => if x9 < x8 then (spec_dbAll.l1 k x0 x3 x9 x8 x9 (x0.length : Int) 0) else (some x3)
def spec_dbAll.l1 : Nat → List Int → List (S48) → Int → Int → Int → Int → Int → Option ((List (S48)))
  | 0, _, _, _, _, _, _, _ => none
  | k + 1, x0, x3, x4, x8, x9, x13, x14 => if x14 < x13 then ((spec_dbCan.f x0 x4 x14).bind fun t185 => (if t185 = true then (if x3.length < 8796093022208 then (spec_dbAll.l1 k x0 (x3 ++ [(⟨x4, x14⟩ : S48)]) x4 x8 x9 x13 (wrap64 (x14 + 1))) else (none)) else (spec_dbAll.l1 k x0 x3 x4 x8 x9 x13 (wrap64 (x14 + 1))))) else (spec_dbAll.l0 k x0 x3 x8 (wrap64 (x9 + 1)))
end
def spec_dbAll.f (k : Nat) (l0 : List Int) : Option ((List (S48))) := spec_dbAll.l0 k l0 ([] : List (S48)) (l0.length : Int) 0
theorem spec_dbAll.mono_l : ∀ k, (∀ y0 y1 y2 y3, LeO (spec_dbAll.l0 k y0 y1 y2 y3) (spec_dbAll.l0 (k + 1) y0 y1 y2 y3)) ∧ (∀ y0 y1 y2 y3 y4 y5 y6, LeO (spec_dbAll.l1 k y0 y1 y2 y3 y4 y5 y6) (spec_dbAll.l1 (k + 1) y0 y1 y2 y3 y4 y5 y6))
  | 0 => ⟨fun _ _ _ _ r h => by simp [spec_dbAll.l0] at h, fun _ _ _ _ _ _ _ r h => by simp [spec_dbAll.l1] at h⟩
  | k + 1 => by
    obtain ⟨ih0, ih1⟩ := spec_dbAll.mono_l k
    refine ⟨?_, ?_⟩
    · intro y0 y1 y2 y3
      unfold spec_dbAll.l0
      repeat' first
      | (with_reducible exact ih0 _ _ _ _)
      | (with_reducible exact ih1 _ _ _ _ _ _ _)
      | (with_reducible exact LeO.refl _)
      | (with_reducible exact LeO.none _)
      | (with_reducible refine LeO.ite ?_ ?_)
      | (with_reducible refine LeO.bind ?_ (fun _ => ?_))
      | exact ih0 _ _ _ _
      | exact ih1 _ _ _ _ _ _ _
      | exact LeO.none _
      | refine LeO.ite ?_ ?_
      | refine LeO.bind ?_ (fun _ => ?_)
    · intro y0 y1 y2 y3 y4 y5 y6
      unfold spec_dbAll.l1
      repeat' first
      | (with_reducible exact ih0 _ _ _ _)
      | (with_reducible exact ih1 _ _ _ _ _ _ _)
      | (with_reducible exact LeO.refl _)
      | (with_reducible exact LeO.none _)
      | (with_reducible refine LeO.ite ?_ ?_)
      | (with_reducible refine LeO.bind ?_ (fun _ => ?_))
      | exact ih0 _ _ _ _
      | exact ih1 _ _ _ _ _ _ _
      | exact LeO.none _
      | refine LeO.ite ?_ ?_
      | refine LeO.bind ?_ (fun _ => ?_)
theorem spec_dbAll.mono : ∀ a0 k, LeO (spec_dbAll.f k a0) (spec_dbAll.f (k + 1) a0) := by
  intro a0 k
  obtain ⟨ih0, ih1⟩ := spec_dbAll.mono_l k
  unfold spec_dbAll.f
  repeat' first
      | (with_reducible exact ih0 _ _ _ _)
      | (with_reducible exact ih1 _ _ _ _ _ _ _)
      | (with_reducible exact LeO.refl _)
      | (with_reducible exact LeO.none _)
      | (with_reducible refine LeO.ite ?_ ?_)
      | (with_reducible refine LeO.bind ?_ (fun _ => ?_))
      | exact ih0 _ _ _ _
      | exact ih1 _ _ _ _ _ _ _
      | exact LeO.none _
      | refine LeO.ite ?_ ?_
      | refine LeO.bind ?_ (fun _ => ?_)
set_option maxHeartbeats 8000000 in
set_option maxRecDepth 100000 in
theorem spec_dbAll.calls (k : Nat) (A0 : Option Addr) (c0 : Nat) (l0 : List Int) (r : List (S48)) (w : World) (hr0 : Kd.C (Kd.int .i64) w A0 l0.length l0) (hc0 : l0.length ≤ c0) (h : spec_dbAll.f k l0 = some r) :
    Calls Tryz.prog 62 #[.slice A0 l0.length c0] w fun e w' => ∃ v0_ : Value, e = .returned (v0_) ∧ Kd.R k48 48 w' w.heap.size (fun _ => True) v0_ r ∧ Below w.heap.size w w' := by
  have hu48 := Tryz.underlying48
  have HR0 := Aside0.mk hr0
  have HC0 := Aside0.mk hc0
  clear hr0 hc0
  have HB := Aside0.mk (Below.refl w.heap.size w)
  have H : (spec_dbAll.l0 k l0 ([] : List (S48)) (l0.length : Int) 0) = some r := h
  clear h
  have H' := Aside0.mk H
  clear H
  go_enter Tryz.func62, Tryz.ntmps62
  go_wp2
  go_loopg [3, 9] k (fun kq v3 v9 w' => ∃ (x3_1 : List (S48)) (x9_1 : Int), v9 = .int .i64 x9_1 ∧ Aside0 (spec_dbAll.l0 kq l0 x3_1 (l0.length : Int) x9_1 = some r) ∧ Aside0 (kq ≤ k) ∧ Aside0 (Kd.R k48 48 w' w.heap.size (fun _ => True) v3 x3_1) ∧ Aside0 (Below w.heap.size w w'))
  case atStart => exact ⟨(([] : List (S48))), (0), (by first | rfl | (simp; done) | (simp [*]; done)), H', ⟨Nat.le_refl _⟩, ⟨by first | exact Kd.R_nil _ _ _ _ _ | exact Kd.N_nil _ _ _ _ _ | exact Kd.V_nil _ _ _ _ _ | exact Kd.Q_nil _ _ _ _ _ | exact Kd.S_nil _ _ _ _ _⟩, ⟨by repeat (first | (with_reducible first | exact HB.out | apply below_alloc | apply pw_below_drewN | apply below_drew1) | exact HB.out)⟩⟩
  case round =>
    clear H'
    obtain ⟨x3_1, x9_1, rfl, HA, HK1, HO_3, HB⟩ := hrel
    cases gk with
    | zero => exact absurd HA.out (by simp [spec_dbAll.l0])
    | succ k1 =>
      have H := HA.out
      clear HA
      simp only [spec_dbAll.l0] at H
      by_cases c2 : x9_1 < (l0.length : Int)
      · rw [if_pos c2] at H
        have c2b0 : decide (x9_1 < (l0.length : Int)) = true := decide_eq_true c2
        clear c2
        have H' := Aside0.mk H
        clear H
        go_wp2
        go_loopg [3, 14] k1 (fun kq v3 v14 w' => ∃ (x3_2 : List (S48)) (x14_2 : Int), v14 = .int .i64 x14_2 ∧ Aside0 (spec_dbAll.l1 kq l0 x3_2 x9_1 (l0.length : Int) x9_1 (l0.length : Int) x14_2 = some r) ∧ Aside0 (kq ≤ k1) ∧ Aside0 (Kd.R k48 48 w' w.heap.size (fun _ => True) v3 x3_2) ∧ Aside0 (Below w.heap.size w w'))
        case atStart => exact ⟨(x3_1), (0), (by first | rfl | (simp; done) | (simp [*]; done)), H', ⟨Nat.le_refl _⟩, ⟨by (with_reducible repeat (first | apply Kd.R_alloc | apply Kd.R_drewN | apply Kd.R_drew)); exact HO_3.out⟩, ⟨by repeat (first | (with_reducible first | exact HB.out | apply below_alloc | apply pw_below_drewN | apply below_drew1) | exact HB.out)⟩⟩
        case round =>
          clear H'
          try clear c2
          try clear c2b0
          try clear p2
          obtain ⟨x3_2, x14_2, rfl, HA, HK2, HO_3, HB⟩ := hrel
          cases gk with
          | zero => exact absurd HA.out (by simp [spec_dbAll.l1])
          | succ k2 =>
            have H := HA.out
            clear HA
            simp only [spec_dbAll.l1] at H
            by_cases c3 : x14_2 < (l0.length : Int)
            · rw [if_pos c3] at H
              have c3b0 : decide (x14_2 < (l0.length : Int)) = true := decide_eq_true c3
              clear c3
              replace H := Option.bind_eq_some_iff.mp H
              obtain ⟨t185, A40, H⟩ := H
              replace H : (if t185 = true then (if x3_2.length < 8796093022208 then (spec_dbAll.l1 k2 l0 (x3_2 ++ [(⟨x9_1, x14_2⟩ : S48)]) x9_1 (l0.length : Int) x9_1 (l0.length : Int) (wrap64 (x14_2 + 1))) else (none)) else (spec_dbAll.l1 k2 l0 x3_2 x9_1 (l0.length : Int) x9_1 (l0.length : Int) (wrap64 (x14_2 + 1)))) = some r := H
              have A4 := Aside0.mk A40
              clear A40
              by_cases c5 : t185 = true
              · subst c5
                have H1 : (if x3_2.length < 8796093022208 then (spec_dbAll.l1 k2 l0 (x3_2 ++ [(⟨x9_1, x14_2⟩ : S48)]) x9_1 (l0.length : Int) x9_1 (l0.length : Int) (wrap64 (x14_2 + 1))) else (none)) = some r := by rw [if_pos rfl] at H; exact H
                clear H
                have H := H1
                clear H1
                by_cases c6 : x3_2.length < 8796093022208
                · rw [if_pos c6] at H
                  have LMc6 := Aside0.mk c6
                  clear c6
                  obtain ⟨y186, hy186⟩ : ∃ y_ : List (S48), y_ = (x3_2 ++ [(⟨x9_1, x14_2⟩ : S48)]) := ⟨_, rfl⟩
                  replace H : (spec_dbAll.l1 k2 l0 y186 x9_1 (l0.length : Int) x9_1 (l0.length : Int) (wrap64 (x14_2 + 1))) = some r := by first | (rw [hy186]; with_reducible exact H) | (have H2_ := (Option.bind_some _ _).symm.trans H; rw [hy186]; with_reducible exact H2_) | (have H2_ := (Option.bind_some _ _).symm.trans H; with_reducible exact H2_) | with_reducible exact H | (rw [hy186]; exact H) | exact H
                  have Ny186 := Aside0.mk hy186
                  clear hy186
                  have H' := Aside0.mk H
                  clear H
                  go_wp2_with (first | ((with_reducible refine gate_dst (N := 6) rfl ?_); refine box_event ?hg (N := 6) ?hd (cs := #[.int .i64 0, .int .i64 0]) (t := 48) ?hr ?_; (case hd => rfl); (case hg => rfl); (case hr => first | (go_simp; done) | (go_simp; rfl)); intro gb184 hg w7 hbox hb; have n0_ := Aside0.mk (Kd.R_below (Kd.R_elderB (by (with_reducible repeat (first | apply Kd.R_alloc | apply Kd.R_drewN | apply Kd.R_drew)); exact HO_3.out) gb184 (Nat.le_of_eq hg.symm)) hb); have n1_ := Aside0.mk (below_step (by repeat (first | (with_reducible first | exact HB.out | apply below_alloc | apply pw_below_drewN | apply below_drew1) | exact HB.out)) hb); have n2_ := Aside0.mk (hbox); have n3_ := Aside0.mk ((by rw [hg]; exact (below_size (by repeat (first | (with_reducible first | exact HB.out | apply below_alloc | apply pw_below_drewN | apply below_drew1) | exact HB.out))) : w.heap.size ≤ gb184)); have n4_ := Aside0.mk ((by rw [hg]; exact (below_size (by repeat (first | (with_reducible first | exact HB.out | apply below_alloc | apply pw_below_drewN | apply below_drew1) | exact HB.out))) : w.heap.size ≤ gb184)); clear HO_3; clear HB; have HO_3 := n0_; have HB := n1_; have BK184 := n2_; have GW184 := n3_; have GE184 := n4_; clear n0_ n1_ n2_ n3_ n4_; clear hb hbox hg; have hcz8_0 : w7.cell? ⟨gb184, 0, none⟩ = some (.int .i64 0) := (blk_cell BK184.out 0).trans rfl; have hcz8_1 : w7.cell? ⟨gb184, 1, none⟩ = some (.int .i64 0) := (blk_cell BK184.out 1).trans rfl; have hfz8_0 := blk_frozen BK184.out 0; have hfz8_1 := blk_frozen BK184.out 1) | ((with_reducible refine gate_callee (f := 49) rfl ?_); refine goesL_ (some 22) rfl rfl Tryz.func49 (by kernel_rfl) rfl #[.slice A0 l0.length c0, .agg #[.int .i64 x9_1, .int .i64 x14_2]] rfl (by (try simp only [List.map_toArray, List.map_cons, List.map_nil]); first | done | rfl | (simp only [List.length_drop, List.length_take]; rfl)) ?_; (with_reducible refine (spec_dbCan.calls _ _ l0 x9_1 x14_2 true _ ?side1 ?side2 A4.out).mono ?_); (case side1 => exact Kd.C_below HR0.out (by repeat (first | (with_reducible first | exact HB.out | apply below_alloc | apply pw_below_drewN | apply below_drew1 | refine below_set ?_ GE184.out) | exact HB.out))); (case side2 => exact HC0.out); rintro e w9 ⟨rfl, hb⟩; refine ⟨_, rfl, ?_⟩; have n0_ := Aside0.mk (Kd.R_below (by (with_reducible repeat (first | apply Kd.R_alloc | apply Kd.R_drewN | apply Kd.R_drew)); exact (Kd.R_mono (Kd.R_far (p := ⟨gb184, 1, none⟩) (Kd.R_far (p := ⟨gb184, 0, none⟩) (Kd.R_mono HO_3.out (fun k_ hk => (⟨hk, hk.2⟩ : _ ∧ k_ ≠ gb184))) (fun _ hk => hk.2) (.int .i64 x9_1)) (fun _ hk => hk.2) (.int .i64 x14_2)) (fun _ h_ => h_.1))) hb); have n1_ := Aside0.mk (blk_below (g := gb184) (o := .cells #[.int .i64 x9_1, .int .i64 x14_2] 48 (0, 0)) (by (with_reducible repeat (first | refine blk_drewN ?_ _ | refine blk_drew ?_ | refine blk_alloc ?_ _)); refine blk_put (cs := #[.int .i64 x9_1, .int .i64 0]) ?_ 1 _ rfl; (with_reducible repeat (first | refine blk_drewN ?_ _ | refine blk_drew ?_ | refine blk_alloc ?_ _)); refine blk_put (cs := #[.int .i64 0, .int .i64 0]) ?_ 0 _ rfl; (with_reducible repeat (first | refine blk_drewN ?_ _ | refine blk_drew ?_ | refine blk_alloc ?_ _)); exact BK184.out) hb); have n2_ := Aside0.mk (below_step (by repeat (first | (with_reducible first | exact HB.out | apply below_alloc | apply pw_below_drewN | apply below_drew1 | refine below_set ?_ GE184.out) | exact HB.out)) hb); clear HO_3; clear BK184; clear HB; have HO_3 := n0_; have BK184 := n1_; have HB := n2_; clear n0_ n1_ n2_; (try clear hb); (try clear hb2); (try clear hk); (try clear hi); have hcz10_0 : w9.cell? ⟨gb184, 0, none⟩ = some (.int .i64 x9_1) := (blk_cell BK184.out 0).trans rfl; have hcz10_1 : w9.cell? ⟨gb184, 1, none⟩ = some (.int .i64 x14_2) := (blk_cell BK184.out 1).trans rfl; have hfz10_0 := blk_frozen BK184.out 0; have hfz10_1 := blk_frozen BK184.out 1) | ((with_reducible refine gate_builtin (b := .append) (xs := #[.tmp 23, .tmp 25]) rfl ?_); at_builtin; refine Kd.R_append k48 (w0 := w) w.heap.size rfl (.tmp 23) (.tmp 25) 34 48 (.agg #[(.int .i64 0), (.int .i64 0)]) 16 rfl Tryz.underlying34 info48 rfl (by decide) (by omega) u3 x3_2 (⟨x9_1, x14_2⟩ : S48) [.int .i64 x9_1, .int .i64 x14_2] (fun k_ => k_ ≠ gb184) (fun _ => False) rfl rfl ?aP (fun _ hk => hk.elim) ?aF ?aO ?aB ?aS ?aL ?_; (case aP => exact k48_mkM _ _ _ (⟨x9_1, x14_2⟩ : S48)); (case aB => exact (by repeat (first | (with_reducible first | exact HB.out | apply below_alloc | apply pw_below_drewN | apply below_drew1 | refine below_set ?_ GE184.out) | exact HB.out))); (case aF => exact (fun k_ hk => Kd.freshB (g := gb184) (o := .cells #[.int .i64 x9_1, .int .i64 x14_2] 48 (0, 0)) (by (with_reducible repeat (first | refine blk_drewN ?_ _ | refine blk_drew ?_ | refine blk_alloc ?_ _)); exact BK184.out) k_ hk)); (case aO => exact (by (with_reducible repeat (first | apply Kd.R_alloc | apply Kd.R_drewN | apply Kd.R_drew)); exact Kd.R_mono HO_3.out (fun _ hk => hk.2))); (case aS => exact (below_size (by repeat (first | (with_reducible first | exact HB.out | apply below_alloc | apply pw_below_drewN | apply below_drew1 | refine below_set ?_ GE184.out) | exact HB.out)))); (case aL => have := LMc6.out; omega); intro v187 w11 ho hb hg hat; rw [← Ny186.out] at ho; have n0_ := Aside0.mk (blk_grown (g := gb184) (o := .cells #[.int .i64 x9_1, .int .i64 x14_2] 48 (0, 0)) (by (with_reducible repeat (first | refine blk_drewN ?_ _ | refine blk_drew ?_ | refine blk_alloc ?_ _)); exact BK184.out) hg (Kd.R_away HO_3.out (fun _ hk => hk.2))); have n1_ := Aside0.mk (hb); have n2_ := Aside0.mk (ho); clear BK184; clear HB; clear HO_3; have BK184 := n0_; have HB := n1_; have HO188 := n2_; clear n0_ n1_ n2_; clear ho hb hg hat))
                  go_roundg k2
                  case measure => have := HK1.out; have := HK2.out; omega
                  case rel => exact ⟨(y186), (wrap64 (x14_2 + 1)), (by first | rfl | (simp; done) | (simp [*]; done)), H', ⟨by have := HK1.out; have := HK2.out; omega⟩, ⟨by (with_reducible repeat (first | apply Kd.R_alloc | apply Kd.R_drewN | apply Kd.R_drew)); exact Kd.R_mono HO188.out (fun _ hk => trivial)⟩, ⟨by repeat (first | (with_reducible first | exact HB.out | apply below_alloc | apply pw_below_drewN | apply below_drew1 | refine below_set ?_ GE184.out) | exact HB.out)⟩⟩
                · rw [if_neg c6] at H
                  exact absurd H (by simp)
              · replace c5 := Bool.eq_false_iff.mpr c5
                subst c5
                have H1 : (spec_dbAll.l1 k2 l0 x3_2 x9_1 (l0.length : Int) x9_1 (l0.length : Int) (wrap64 (x14_2 + 1))) = some r := by rw [if_neg (show ¬ (false = true) by decide)] at H; exact H
                clear H
                have H := H1
                clear H1
                have H' := Aside0.mk H
                clear H
                go_wp2_with (first | ((with_reducible refine gate_dst (N := 6) rfl ?_); refine box_event ?hg (N := 6) ?hd (cs := #[.int .i64 0, .int .i64 0]) (t := 48) ?hr ?_; (case hd => rfl); (case hg => rfl); (case hr => first | (go_simp; done) | (go_simp; rfl)); intro gb184 hg w12 hbox hb; have n0_ := Aside0.mk (Kd.R_below (Kd.R_elderB (by (with_reducible repeat (first | apply Kd.R_alloc | apply Kd.R_drewN | apply Kd.R_drew)); exact HO_3.out) gb184 (Nat.le_of_eq hg.symm)) hb); have n1_ := Aside0.mk (below_step (by repeat (first | (with_reducible first | exact HB.out | apply below_alloc | apply pw_below_drewN | apply below_drew1) | exact HB.out)) hb); have n2_ := Aside0.mk (hbox); have n3_ := Aside0.mk ((by rw [hg]; exact (below_size (by repeat (first | (with_reducible first | exact HB.out | apply below_alloc | apply pw_below_drewN | apply below_drew1) | exact HB.out))) : w.heap.size ≤ gb184)); have n4_ := Aside0.mk ((by rw [hg]; exact (below_size (by repeat (first | (with_reducible first | exact HB.out | apply below_alloc | apply pw_below_drewN | apply below_drew1) | exact HB.out))) : w.heap.size ≤ gb184)); clear HO_3; clear HB; have HO_3 := n0_; have HB := n1_; have BK184 := n2_; have GW184 := n3_; have GE184 := n4_; clear n0_ n1_ n2_ n3_ n4_; clear hb hbox hg; have hcz13_0 : w12.cell? ⟨gb184, 0, none⟩ = some (.int .i64 0) := (blk_cell BK184.out 0).trans rfl; have hcz13_1 : w12.cell? ⟨gb184, 1, none⟩ = some (.int .i64 0) := (blk_cell BK184.out 1).trans rfl; have hfz13_0 := blk_frozen BK184.out 0; have hfz13_1 := blk_frozen BK184.out 1) | ((with_reducible refine gate_callee (f := 49) rfl ?_); refine goesL_ (some 22) rfl rfl Tryz.func49 (by kernel_rfl) rfl #[.slice A0 l0.length c0, .agg #[.int .i64 x9_1, .int .i64 x14_2]] rfl (by (try simp only [List.map_toArray, List.map_cons, List.map_nil]); first | done | rfl | (simp only [List.length_drop, List.length_take]; rfl)) ?_; (with_reducible refine (spec_dbCan.calls _ _ l0 x9_1 x14_2 false _ ?side1 ?side2 A4.out).mono ?_); (case side1 => exact Kd.C_below HR0.out (by repeat (first | (with_reducible first | exact HB.out | apply below_alloc | apply pw_below_drewN | apply below_drew1 | refine below_set ?_ GE184.out) | exact HB.out))); (case side2 => exact HC0.out); rintro e w14 ⟨rfl, hb⟩; refine ⟨_, rfl, ?_⟩; have n0_ := Aside0.mk (Kd.R_below (by (with_reducible repeat (first | apply Kd.R_alloc | apply Kd.R_drewN | apply Kd.R_drew)); exact (Kd.R_mono (Kd.R_far (p := ⟨gb184, 1, none⟩) (Kd.R_far (p := ⟨gb184, 0, none⟩) (Kd.R_mono HO_3.out (fun k_ hk => (⟨hk, hk.2⟩ : _ ∧ k_ ≠ gb184))) (fun _ hk => hk.2) (.int .i64 x9_1)) (fun _ hk => hk.2) (.int .i64 x14_2)) (fun _ h_ => h_.1))) hb); have n1_ := Aside0.mk (blk_below (g := gb184) (o := .cells #[.int .i64 x9_1, .int .i64 x14_2] 48 (0, 0)) (by (with_reducible repeat (first | refine blk_drewN ?_ _ | refine blk_drew ?_ | refine blk_alloc ?_ _)); refine blk_put (cs := #[.int .i64 x9_1, .int .i64 0]) ?_ 1 _ rfl; (with_reducible repeat (first | refine blk_drewN ?_ _ | refine blk_drew ?_ | refine blk_alloc ?_ _)); refine blk_put (cs := #[.int .i64 0, .int .i64 0]) ?_ 0 _ rfl; (with_reducible repeat (first | refine blk_drewN ?_ _ | refine blk_drew ?_ | refine blk_alloc ?_ _)); exact BK184.out) hb); have n2_ := Aside0.mk (below_step (by repeat (first | (with_reducible first | exact HB.out | apply below_alloc | apply pw_below_drewN | apply below_drew1 | refine below_set ?_ GE184.out) | exact HB.out)) hb); clear HO_3; clear BK184; clear HB; have HO_3 := n0_; have BK184 := n1_; have HB := n2_; clear n0_ n1_ n2_; (try clear hb); (try clear hb2); (try clear hk); (try clear hi)))
                go_roundg k2
                case measure => have := HK1.out; have := HK2.out; omega
                case rel => exact ⟨(x3_2), (wrap64 (x14_2 + 1)), (by first | rfl | (simp; done) | (simp [*]; done)), H', ⟨by have := HK1.out; have := HK2.out; omega⟩, ⟨by (with_reducible repeat (first | apply Kd.R_alloc | apply Kd.R_drewN | apply Kd.R_drew)); exact Kd.R_mono HO_3.out (fun _ hk => trivial)⟩, ⟨by repeat (first | (with_reducible first | exact HB.out | apply below_alloc | apply pw_below_drewN | apply below_drew1 | refine below_set ?_ GE184.out) | exact HB.out)⟩⟩
            · rw [if_neg c3] at H
              have c3b0 : decide (x14_2 < (l0.length : Int)) = false := decide_eq_false c3
              clear c3
              have H' := Aside0.mk H
              clear H
              go_wp2
              go_roundg k2
              case measure => have := HK1.out; have := HK2.out; omega
              case rel => exact ⟨(x3_2), (wrap64 (x9_1 + 1)), (by first | rfl | (simp; done) | (simp [*]; done)), H', ⟨by have := HK1.out; have := HK2.out; omega⟩, ⟨by (with_reducible repeat (first | apply Kd.R_alloc | apply Kd.R_drewN | apply Kd.R_drew)); exact HO_3.out⟩, ⟨by repeat (first | (with_reducible first | exact HB.out | apply below_alloc | apply pw_below_drewN | apply below_drew1) | exact HB.out)⟩⟩
      · rw [if_neg c2] at H
        have c2b0 : decide (x9_1 < (l0.length : Int)) = false := decide_eq_false c2
        clear c2
        obtain rfl := Option.some.inj H
        go_wp2
        go_ret
        exact ⟨_, by first | rfl | (simp [errW_none, errW_some] <;> rfl) | (simp [*, errW_none, errW_some] <;> rfl), by (with_reducible repeat (first | apply Kd.R_alloc | apply Kd.R_drewN | apply Kd.R_drew)); exact HO_3.out, by repeat (first | (with_reducible first | exact HB.out | apply below_alloc | apply pw_below_drewN | apply below_drew1) | exact HB.out)⟩

end Go.Proofs.YtpmlpcdhkpcejaaGreatDoor.PFnDoublingsPaired
