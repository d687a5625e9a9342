-- Written by hprint.py (a program of this session's) over the kit's print.py. Lean checks it.
import Derived.Test.YtdhhphngabamoaaPFnExactQuotientDoublingsx0
import Derived.Test.YtdhhphngabamoaaPFnExactQuotientDoublingsx4
namespace Go.Proofs.Ytdhhphngabamoaa.PFnExactQuotientDoublings
open Go.RowKit Go.Proofs.YtdhhphngabamoaaW.PrintWords Go.Proofs.YtdhhphngabamoaaW.PrintLast Go.Proofs.YtdhhphngabamoaaW.PrintMore
attribute [local go_sem] max2_int min2_int max_two min_two max_three min_three max_four min_four   -- for this text's walks alone
set_option linter.unusedVariables false
set_option linter.unusedSimpArgs false

/-! ### impl_doubled: function 91 -/
def impl_doubled.f (l0 : List Int) (a1_0 : Int) (a1_1 : Int) : Option (List Int) := (slices_Clone_int_int.f l0).bind fun t213 => (if 0 ≤ a1_0 then (if a1_0 < (t213.length : Int) then (if 0 ≤ a1_1 then (if a1_1 < (l0.length : Int) then ((some (t213.set (a1_0 : Int).toNat (wrap64 ((rd t213 a1_0) - (rd l0 a1_1))) : List Int)).bind fun y218 => (if a1_1 < (t213.length : Int) then (some (y218.set (a1_1 : Int).toNat (wrap64 ((rd y218 a1_1) + (rd l0 a1_1))))) else (none))) else (none)) else (none)) else (none)) else (none))
def impl_doubled.T2 : Bool × List (List Nat × List Nat) := (true, [([], []), ([], []), ([1], [1]), ([0, 2], [0, 2]), ([3], [3]), ([], []), ([], []), ([6], [6]), ([5, 7], [5, 7]), ([8], [8]), ([4, 9], [4, 9]), ([0, 2, 0, 1, 2, 3, 4, 5, 6, 7, 8, 9, 10], [0, 2]), ([11, 10, 0, 1, 2, 3, 4, 5, 6, 7, 8, 9, 10], [10, 11])])
def impl_doubled.B2 : List Nat := [0, 0, 2, 7, 15, 0, 0, 64, 224, 480, 1023, 2047, 4095]
theorem impl_doubled.tab2 : rtab .any (opsOf Try.f91 2) = impl_doubled.T2 := by kernel_rfl
theorem impl_doubled.bits2 : waitsOk impl_doubled.T2.2 impl_doubled.B2 = true := by kernel_rfl
def impl_doubled.T3 : Bool × List (List Nat × List Nat) := (true, [([], []), ([], []), ([1], [1]), ([0, 2], [0, 2]), ([3], [3]), ([], []), ([], []), ([6], [6]), ([5, 7], [5, 7]), ([8], [8]), ([4, 9], [4, 9]), ([0, 2, 0, 1, 2, 3, 4, 5, 6, 7, 8, 9, 10], [0, 2]), ([11, 10, 0, 1, 2, 3, 4, 5, 6, 7, 8, 9, 10], [10, 11])])
def impl_doubled.B3 : List Nat := [0, 0, 2, 7, 15, 0, 0, 64, 224, 480, 1023, 2047, 4095]
theorem impl_doubled.tab3 : rtab .any (opsOf Try.f91 3) = impl_doubled.T3 := by kernel_rfl
theorem impl_doubled.bits3 : waitsOk impl_doubled.T3.2 impl_doubled.B3 = true := by kernel_rfl
set_option maxHeartbeats 8000000 in
set_option maxRecDepth 100000 in
theorem impl_doubled.calls (A0 : Option Addr) (c0 : Nat) (l0 : List Int) (a1_0 : Int) (a1_1 : Int) (r : List Int) (w : World) (hr0 : Kd.C (Kd.int .i64) w A0 l0.length l0) (hc0 : l0.length ≤ c0) (h : impl_doubled.f l0 a1_0 a1_1 = some r) :
    Calls Try.prog 91 #[.slice A0 l0.length c0, .agg #[.int .i64 a1_0, .int .i64 a1_1]] w fun e w' => ∃ v0_ : Value, e = .returned (v0_) ∧ Kd.R (Kd.int .i64) 3 w' w.heap.size (fun _ => True) v0_ r ∧ Below w.heap.size w w' := by
  have hu70 := Try.underlying70
  have HR0 := Aside0.mk hr0
  have HC0 := Aside0.mk hc0
  clear hr0 hc0
  have HB := Aside0.mk (Below.refl w.heap.size w)
  have H : ((slices_Clone_int_int.f l0).bind fun t213 => (if 0 ≤ a1_0 then (if a1_0 < (t213.length : Int) then (if 0 ≤ a1_1 then (if a1_1 < (l0.length : Int) then ((some (t213.set (a1_0 : Int).toNat (wrap64 ((rd t213 a1_0) - (rd l0 a1_1))) : List Int)).bind fun y218 => (if a1_1 < (t213.length : Int) then (some (y218.set (a1_1 : Int).toNat (wrap64 ((rd y218 a1_1) + (rd l0 a1_1))))) else (none))) else (none)) else (none)) else (none)) else (none))) = some r := h
  clear h
  replace H := Option.bind_eq_some_iff.mp H
  obtain ⟨t213, A30, H⟩ := H
  replace H : (if 0 ≤ a1_0 then (if a1_0 < (t213.length : Int) then (if 0 ≤ a1_1 then (if a1_1 < (l0.length : Int) then ((some (t213.set (a1_0 : Int).toNat (wrap64 ((rd t213 a1_0) - (rd l0 a1_1))) : List Int)).bind fun y218 => (if a1_1 < (t213.length : Int) then (some (y218.set (a1_1 : Int).toNat (wrap64 ((rd y218 a1_1) + (rd l0 a1_1))))) else (none))) else (none)) else (none)) else (none)) else (none)) = some r := H
  have A3 := Aside0.mk A30
  clear A30
  by_cases c4 : 0 ≤ a1_0
  · rw [if_pos c4] at H
    have c4b0 : decide (0 ≤ a1_0) = true := decide_eq_true c4
    clear c4
    by_cases c5 : a1_0 < (t213.length : Int)
    · rw [if_pos c5] at H
      have c5b0 : decide (a1_0 < (t213.length : Int)) = true := decide_eq_true c5
      clear c5
      by_cases c6 : 0 ≤ a1_1
      · rw [if_pos c6] at H
        have c6b0 : decide (0 ≤ a1_1) = true := decide_eq_true c6
        clear c6
        by_cases c7 : a1_1 < (l0.length : Int)
        · rw [if_pos c7] at H
          have c7b0 : decide (a1_1 < (l0.length : Int)) = true := decide_eq_true c7
          clear c7
          obtain ⟨y218, hy218⟩ : ∃ y_ : List Int, y_ = (t213.set (a1_0 : Int).toNat (wrap64 ((rd t213 a1_0) - (rd l0 a1_1)))) := ⟨_, rfl⟩
          replace H : (if a1_1 < (t213.length : Int) then (some (y218.set (a1_1 : Int).toNat (wrap64 ((rd y218 a1_1) + (rd l0 a1_1))))) else (none)) = some r := by first | (rw [hy218]; with_reducible exact H) | (have H2_ := (Option.bind_some _ _).symm.trans H; rw [hy218]; with_reducible exact H2_) | (have H2_ := (Option.bind_some _ _).symm.trans H; with_reducible exact H2_) | with_reducible exact H | (rw [hy218]; exact H) | exact H
          have Ny218 := Aside0.mk hy218
          clear hy218
          by_cases c9 : a1_1 < (t213.length : Int)
          · rw [if_pos c9] at H
            have c9b0 : decide (a1_1 < (t213.length : Int)) = true := decide_eq_true c9
            clear c9
            obtain ⟨y221, hy221⟩ : ∃ y_ : List Int, y_ = (y218.set (a1_1 : Int).toNat (wrap64 ((rd y218 a1_1) + (rd l0 a1_1)))) := ⟨_, rfl⟩
            replace H : (some y221) = some r := by first | (rw [hy221]; with_reducible exact H) | (have H2_ := (Option.bind_some _ _).symm.trans H; rw [hy221]; with_reducible exact H2_) | (have H2_ := (Option.bind_some _ _).symm.trans H; with_reducible exact H2_) | with_reducible exact H | (rw [hy221]; exact H) | exact H
            have Ny221 := Aside0.mk hy221
            clear hy221
            obtain rfl := Option.some.inj H
            go_enter Try.func91, Try.ntmps91
            try go_wp2_with (first | ((with_reducible refine gate_dst (N := 3) rfl ?_); refine box_event ?hg (N := 3) ?hd (cs := #[.int .i64 a1_0, .int .i64 a1_1]) (t := 70) ?hr ?_; (case hd => rfl); (case hg => rfl); (case hr => first | (go_simp; done) | (go_simp; rfl)); intro gb212 hg w11 hbox hb; have n0_ := Aside0.mk (below_step (by repeat (first | (with_reducible first | exact HB.out | apply below_alloc | apply pw_below_drewN | apply below_drew1) | exact HB.out)) hb); have n1_ := Aside0.mk (hbox); have n2_ := Aside0.mk ((by rw [hg]; exact (below_size (by repeat (first | (with_reducible first | exact HB.out | apply below_alloc | apply pw_below_drewN | apply below_drew1) | exact HB.out))) : w.heap.size ≤ gb212)); have n3_ := Aside0.mk ((by rw [hg]; exact (below_size (by repeat (first | (with_reducible first | exact HB.out | apply below_alloc | apply pw_below_drewN | apply below_drew1) | exact HB.out))) : w.heap.size ≤ gb212)); clear HB; have HB := n0_; have BK212 := n1_; have GW212 := n2_; have GE212 := n3_; clear n0_ n1_ n2_ n3_; clear hb hbox hg) | ((with_reducible refine gate_callee (f := 74) rfl ?_); refine goesL_ (some 7) rfl rfl Try.func74 (by kernel_rfl) rfl #[.slice A0 l0.length c0] rfl (by (try simp only [List.map_toArray, List.map_cons, List.map_nil]); first | done | rfl | (simp only [List.length_drop, List.length_take]; rfl)) ?_; (with_reducible refine (slices_Clone_int_int.calls _ _ l0 t213 _ ?side1 ?side2 A3.out).mono ?_); (case side1 => repeat (first | exact (Kd.C_below HR0.out HB.out) | (with_reducible refine Kd.C_alloc ?_ _) | (with_reducible refine Kd.C_drewN ?_ _) | (with_reducible refine Kd.C_drew ?_))); (case side2 => exact HC0.out); rintro e w12 ⟨v214, rfl, ho0, hb⟩; refine ⟨_, rfl, ?_⟩; have n0_ := Aside0.mk (Kd.R_lower ho0 (below_size (by repeat (first | (with_reducible first | exact HB.out | apply below_alloc | apply pw_below_drewN | apply below_drew1 | refine below_set ?_ GE212.out) | exact HB.out)))); have n1_ := Aside0.mk (blk_below (g := gb212) (o := .cells #[.int .i64 a1_0, .int .i64 a1_1] 70 (0, 0)) (by (with_reducible repeat (first | refine blk_drewN ?_ _ | refine blk_drew ?_ | refine blk_alloc ?_ _)); exact BK212.out) hb); have n2_ := Aside0.mk (below_step (by repeat (first | (with_reducible first | exact HB.out | apply below_alloc | apply pw_below_drewN | apply below_drew1 | refine below_set ?_ GE212.out) | exact HB.out)) hb); clear BK212; clear HB; have HO215 := n0_; have BK212 := n1_; have HB := n2_; clear n0_ n1_ n2_; (try clear hb); (try clear hb2); (try clear hk); (try clear hi); (try clear ho0)))
            have n0_ := Aside0.mk (Kd.R_drew HO215.out)
            have n1_ := Aside0.mk (blk_drew BK212.out)
            have n2_ := Aside0.mk (below_drew1 HB.out)
            clear HO215
            clear BK212
            clear HB
            have HO215 := n0_
            have BK212 := n1_
            have HB := n2_
            clear n0_ n1_ n2_
            obtain ⟨Ao14, co14, eo14⟩ := Kd.R_slice HO215.out
            (first | subst eo14 | (injection eo14 with f1_ f2_ f3_; have f4_ := f1_.symm; have f5_ := f3_.symm; clear f1_ f2_ f3_; subst f4_; subst f5_))
            have p216 : 0 ≤ (a1_0 : Int) := of_decide_eq_true (by first | (with_reducible assumption) | assumption)
            have q216 : a1_0 < (t213.length : Int) := of_decide_eq_true (by first | (with_reducible assumption) | assumption)
            obtain ⟨ad216, e216, hx216_0⟩ := Kd.at_int (Kd.R_reads' HO215.out).2.2 a1_0 p216 q216
            cases e216
            replace p216 := eq_true p216
            replace q216 := eq_true q216
            have p217 : 0 ≤ (a1_1 : Int) := of_decide_eq_true (by first | (with_reducible assumption) | assumption)
            have q217 : a1_1 < (l0.length : Int) := of_decide_eq_true (by first | (with_reducible assumption) | assumption)
            obtain ⟨ad217, e217, hx217_0⟩ := Kd.at_int HR0.out a1_1 p217 q217
            have hw217_0 := hx217_0
            cases e217
            replace hx217_0 := (HB.out.cell (World.block_lt_of_cell? w _ hx217_0)).trans hx217_0
            replace p217 := eq_true p217
            replace q217 := eq_true q217
            have p8 : 0 ≤ (a1_0 : Int) := of_decide_eq_true (by first | (with_reducible assumption) | assumption)
            have q8 : (a1_0 : Int) < ((t213.length : Int) : Int) := of_decide_eq_true (by first | (with_reducible assumption) | assumption)
            obtain ⟨go8, co8, eo8, gb8, gl8, cl8, HG8⟩ := Kd.R_form HO215.out (by omega)
            (first | cases eo8 | (injection eo8 with ea_ en_ ec_; (first | subst ea_ | (injection ea_ with ea_; subst ea_)); subst ec_; clear en_))
            have GB8 := Aside0.mk gb8
            have GG8 := Aside0.mk HG8
            clear gb8 gl8 HG8
            (first | simp only [add_plain] at hx216_0 | skip)
            obtain ⟨hx8_0, hf8_0⟩ := Kd.R_celln 0 HO215.out (a1_0 : Int) p8 q8
            replace p8 := eq_true p8
            replace q8 := eq_true q8
            have HP15 := Kd.R_putn HO215.out (a1_0 : Int) (wrap64 ((rd t213 a1_0) - (rd l0 a1_1)))
            rw [← Ny218.out] at HP15
            have HQ15 := Aside0.mk HP15
            clear HP15
            refine start_ (n := 13) (S := fun w' => w'.cell? ⟨gb212, 0, none⟩ = some (.int .i64 a1_0) ∧ w'.cell? ⟨gb212, 1, none⟩ = some (.int .i64 a1_1) ∧ w'.cell? ⟨go8, (a1_0).toNat, none⟩ = some (.int .i64 (rd t213 a1_0)) ∧ w'.cell? (ad217.add (a1_1).toNat) = some (.int .i64 (rd l0 a1_1))) (ds := [12]) #[false, false, false, false, false, false, false, false, false, false, false, false, false] (by kernel_rfl) rfl rfl ⟨(blk_cell BK212.out 0).trans rfl, (blk_cell BK212.out 1).trans rfl, hx216_0, ((HB.out.cell (World.block_lt_of_cell? w _ hw217_0)).trans hw217_0)⟩ (fun hHeld => ?_); refine with_tabW impl_doubled.tab2 impl_doubled.bits2 (fun HT_ HW_ => ?_)
            generalize w12.drew = w13 at HO215 BK212 HB GG8 HQ15 hf8_0 hx216_0 hx217_0 hx8_0 hHeld ⊢
            refine pure_ (i := 0) (N := some 8) (v := ?_) (a' := ?_) #[true, false, false, false, false, false, false, false, false, false, false, false, false] rfl rfl (any_of HT_.out (by kernel_rfl)) (fun _ _ _ h => h) (Or.inl ⟨by rfl, ?_⟩) ?_ ?_
            rotate_left
            · intro w'
              go_simp
              with_reducible rfl
            rotate_left
            · simp only [Act.put, List.setIfInBounds_toArray, List.set_cons_zero, List.set_cons_succ, i64_w, i32_w]
              rfl
            refine pure_ (i := 1) (N := some 9) (v := ?_) (a' := ?_) #[true, true, false, false, false, false, false, false, false, false, false, false, false] rfl rfl (any_of HT_.out (by kernel_rfl)) (fun _ _ _ h => h) (Or.inl ⟨by rfl, ?_⟩) ?_ ?_
            rotate_left
            · intro w'
              go_simp
              with_reducible rfl
            rotate_left
            · simp only [Act.put, List.setIfInBounds_toArray, List.set_cons_zero, List.set_cons_succ, i64_w, i32_w]
              rfl
            refine pure_ (i := 5) (N := some 13) (v := ?_) (a' := ?_) #[true, true, false, false, false, true, false, false, false, false, false, false, false] rfl rfl (any_of HT_.out (by kernel_rfl)) (fun _ _ _ h => h) (Or.inl ⟨by rfl, ?_⟩) ?_ ?_
            rotate_left
            · intro w'
              go_simp
              with_reducible rfl
            rotate_left
            · simp only [Act.put, List.setIfInBounds_toArray, List.set_cons_zero, List.set_cons_succ, i64_w, i32_w]
              rfl
            refine pure_ (i := 6) (N := some 14) (v := ?_) (a' := ?_) #[true, true, false, false, false, true, true, false, false, false, false, false, false] rfl rfl (any_of HT_.out (by kernel_rfl)) (fun _ _ _ h => h) (Or.inl ⟨by rfl, ?_⟩) ?_ ?_
            rotate_left
            · intro w'
              go_simp
              with_reducible rfl
            rotate_left
            · simp only [Act.put, List.setIfInBounds_toArray, List.set_cons_zero, List.set_cons_succ, i64_w, i32_w]
              rfl
            refine take_ (i := 2) (N := some 10) (v := ?_) (a' := ?_) #[true, true, true, false, false, true, true, false, false, false, false, false, false] rfl rfl (take_ofW HT_.out HW_.out (by kernel_rfl)) (fun _ _ _ h => h) (Or.inl ⟨by rfl, ?_⟩) hHeld ?_ ?_
            rotate_left
            · rintro w' ⟨s0, s1, s2, s3⟩
              go_simp
              with_reducible rfl
            rotate_left
            · simp only [Act.put, List.setIfInBounds_toArray, List.set_cons_zero, List.set_cons_succ, i64_w, i32_w]
              rfl
            refine pure_ (i := 3) (N := some 11) (v := ?_) (a' := ?_) #[true, true, true, true, false, true, true, false, false, false, false, false, false] rfl rfl (any_of HT_.out (by kernel_rfl)) (fun _ _ _ h => h) (Or.inl ⟨by rfl, ?_⟩) ?_ ?_
            rotate_left
            · intro w'
              go_simp
              with_reducible rfl
            rotate_left
            · simp only [Act.put, List.setIfInBounds_toArray, List.set_cons_zero, List.set_cons_succ, i64_w, i32_w]
              rfl
            refine take_ (i := 4) (N := some 12) (v := ?_) (a' := ?_) #[true, true, true, true, true, true, true, false, false, false, false, false, false] rfl rfl (take_ofW HT_.out HW_.out (by kernel_rfl)) (fun _ _ _ h => h) (Or.inl ⟨by rfl, ?_⟩) hHeld ?_ ?_
            rotate_left
            · rintro w' ⟨s0, s1, s2, s3⟩
              go_simp
              with_reducible rfl
            rotate_left
            · simp only [Act.put, List.setIfInBounds_toArray, List.set_cons_zero, List.set_cons_succ, i64_w, i32_w]
              rfl
            refine take_ (i := 7) (N := some 15) (v := ?_) (a' := ?_) #[true, true, true, true, true, true, true, true, false, false, false, false, false] rfl rfl (take_ofW HT_.out HW_.out (by kernel_rfl)) (fun _ _ _ h => h) (Or.inl ⟨by rfl, ?_⟩) hHeld ?_ ?_
            rotate_left
            · rintro w' ⟨s0, s1, s2, s3⟩
              go_simp
              with_reducible rfl
            rotate_left
            · simp only [Act.put, List.setIfInBounds_toArray, List.set_cons_zero, List.set_cons_succ, i64_w, i32_w]
              rfl
            refine pure_ (i := 8) (N := some 16) (v := ?_) (a' := ?_) #[true, true, true, true, true, true, true, true, true, false, false, false, false] rfl rfl (any_of HT_.out (by kernel_rfl)) (fun _ _ _ h => h) (Or.inl ⟨by rfl, ?_⟩) ?_ ?_
            rotate_left
            · intro w'
              go_simp
              with_reducible rfl
            rotate_left
            · simp only [Act.put, List.setIfInBounds_toArray, List.set_cons_zero, List.set_cons_succ, i64_w, i32_w]
              rfl
            refine take_ (i := 9) (N := some 17) (v := ?_) (a' := ?_) #[true, true, true, true, true, true, true, true, true, true, false, false, false] rfl rfl (take_ofW HT_.out HW_.out (by kernel_rfl)) (fun _ _ _ h => h) (Or.inl ⟨by rfl, ?_⟩) hHeld ?_ ?_
            rotate_left
            · rintro w' ⟨s0, s1, s2, s3⟩
              go_simp
              with_reducible rfl
            rotate_left
            · simp only [Act.put, List.setIfInBounds_toArray, List.set_cons_zero, List.set_cons_succ, i64_w, i32_w]
              rfl
            refine pure_ (i := 10) (N := some 18) (v := ?_) (a' := ?_) #[true, true, true, true, true, true, true, true, true, true, true, false, false] rfl rfl (any_of HT_.out (by kernel_rfl)) (fun _ _ _ h => h) (Or.inl ⟨by rfl, ?_⟩) ?_ ?_
            rotate_left
            · intro w'
              go_simp
              with_reducible rfl
            rotate_left
            · simp only [Act.put, List.setIfInBounds_toArray, List.set_cons_zero, List.set_cons_succ, i64_w, i32_w]
              rfl
            refine pure_ (i := 11) (N := some 19) (v := ?_) (a' := ?_) #[true, true, true, true, true, true, true, true, true, true, true, true, false] rfl rfl (any_of HT_.out (by kernel_rfl)) (fun _ _ _ h => h) (Or.inl ⟨by rfl, ?_⟩) ?_ ?_
            rotate_left
            · intro w'
              go_simp
              with_reducible rfl
            rotate_left
            · simp only [Act.put, List.setIfInBounds_toArray, List.set_cons_zero, List.set_cons_succ, i64_w, i32_w]
              rfl
            refine last_ (i := 12) (N := none) #[true, true, true, true, true, true, true, true, true, true, true, true, true] rfl rfl (one_of HT_.out (by kernel_rfl)) (by decide) (fun K hK => ?_)
            refine skip_ (w1 := ?_) (by rfl) rfl ?_ ?_
            rotate_left
            · go_simp
              rfl
            refine hK.out _ _ ?_
            clear hK K
            refine done_ (done_of HT_.out (by kernel_rfl)) ?_
            try go_wp2
            have n0_ : Aside0 (Kd.R (Kd.int .i64) 3 (w13.setCell ⟨go8, (a1_0 : Int).toNat, none⟩ (.int .i64 (wrap64 ((rd t213 a1_0) - (rd l0 a1_1))))) w.heap.size (fun _ => True) (.slice (some ⟨go8, 0, none⟩) t213.length co14) y218) := ⟨by (with_reducible repeat (first | apply Kd.R_alloc | apply Kd.R_drewN | apply Kd.R_drew)); exact HQ15.out⟩
            have n1_ : Aside0 ((w13.setCell ⟨go8, (a1_0 : Int).toNat, none⟩ (.int .i64 (wrap64 ((rd t213 a1_0) - (rd l0 a1_1))))).heap[gb212]? = some (.cells #[.int .i64 a1_0, .int .i64 a1_1] 70 (0, 0))) := ⟨by (with_reducible repeat (first | refine blk_drewN ?_ _ | refine blk_drew ?_ | refine blk_alloc ?_ _)); refine blk_far ?_ (by have h_ := Kd.R_ne HO215.out BK212.out (by decide); intro e_; exact h_ (by rw [e_]; rfl)) _; (with_reducible repeat (first | refine blk_drewN ?_ _ | refine blk_drew ?_ | refine blk_alloc ?_ _)); exact BK212.out⟩
            have n2_ : Aside0 (Below w.heap.size w (w13.setCell ⟨go8, (a1_0 : Int).toNat, none⟩ (.int .i64 (wrap64 ((rd t213 a1_0) - (rd l0 a1_1)))))) := ⟨by repeat (first | (with_reducible first | exact HB.out | apply below_alloc | apply pw_below_drewN | apply below_drew1 | refine below_set ?_ GB8.out | refine below_set ?_ GE212.out) | exact HB.out)⟩
            (try clear HO215)
            (try clear BK212)
            (try clear HB)
            generalize (w13.setCell ⟨go8, (a1_0 : Int).toNat, none⟩ (.int .i64 (wrap64 ((rd t213 a1_0) - (rd l0 a1_1))))) = w16 at n0_ n1_ n2_ ⊢
            have HO215 := n0_
            have BK212 := n1_
            have HB := n2_
            clear n0_ n1_ n2_
            have n0_ := Aside0.mk (Kd.R_drew HO215.out)
            have n1_ := Aside0.mk (blk_drew BK212.out)
            have n2_ := Aside0.mk (below_drew1 HB.out)
            clear HO215
            clear BK212
            clear HB
            have HO215 := n0_
            have BK212 := n1_
            have HB := n2_
            clear n0_ n1_ n2_
            have p219 : 0 ≤ (a1_1 : Int) := of_decide_eq_true (by first | (with_reducible assumption) | assumption)
            have q219 : a1_1 < (y218.length : Int) := (by have h_ : (a1_1 : Int) < ((t213.length : Int) : Int) := of_decide_eq_true (by first | (with_reducible assumption) | assumption); first | (have e_ := (Kd.R_reads' HO215.out).1; omega) | simpa only [Ny218.out, List.length_set] using h_)
            have ql219 : ((a1_1 : Int) < ((t213.length : Int) : Int)) = True := eq_true (of_decide_eq_true (by first | (with_reducible assumption) | assumption))
            obtain ⟨ad219, e219, hx219_0⟩ := Kd.at_int (Kd.R_reads' HO215.out).2.2 a1_1 p219 q219
            obtain rfl : (⟨go8, 0, none⟩ : Addr) = ad219 := (by injection e219)
            (first | simp only [add_plain] at hx219_0 | simp only [add_at] at hx219_0 | simp only [Addr.add, Nat.zero_add] at hx219_0 | skip)
            replace p219 := eq_true p219
            replace q219 := eq_true q219
            have p220 : 0 ≤ (a1_1 : Int) := of_decide_eq_true (by first | (with_reducible assumption) | assumption)
            have q220 : a1_1 < (l0.length : Int) := of_decide_eq_true (by first | (with_reducible assumption) | assumption)
            obtain ⟨ad220, e220, hx220_0⟩ := Kd.at_int HR0.out a1_1 p220 q220
            have hw220_0 := hx220_0
            obtain rfl : ad217 = ad220 := (by injection e220)
            replace hx220_0 := (HB.out.cell (World.block_lt_of_cell? w _ hx220_0)).trans hx220_0
            replace p220 := eq_true p220
            replace q220 := eq_true q220
            have p10 : 0 ≤ (a1_1 : Int) := of_decide_eq_true (by first | (with_reducible assumption) | assumption)
            have q10 : (a1_1 : Int) < ((t213.length : Int) : Int) := of_decide_eq_true (by first | (with_reducible assumption) | assumption)
            obtain ⟨hx10_0, hf10_0⟩ := Kd.R_celln 0 HO215.out (a1_1 : Int) p10 q10
            replace p10 := eq_true p10
            replace q10 := eq_true q10
            have HP18 := Kd.R_putn HO215.out (a1_1 : Int) (wrap64 ((rd y218 a1_1) + (rd l0 a1_1)))
            rw [← Ny221.out] at HP18
            have HQ18 := Aside0.mk HP18
            clear HP18
            refine start_ (n := 13) (S := fun w' => w'.cell? ⟨gb212, 0, none⟩ = some (.int .i64 a1_0) ∧ w'.cell? ⟨gb212, 1, none⟩ = some (.int .i64 a1_1) ∧ w'.cell? ⟨go8, (a1_1).toNat, none⟩ = some (.int .i64 (rd y218 a1_1)) ∧ w'.cell? (ad217.add (a1_1).toNat) = some (.int .i64 (rd l0 a1_1))) (ds := [12]) #[false, false, false, false, false, false, false, false, false, false, false, false, false] (by kernel_rfl) rfl rfl ⟨(blk_cell BK212.out 0).trans rfl, (blk_cell BK212.out 1).trans rfl, hx219_0, ((HB.out.cell (World.block_lt_of_cell? w _ hw220_0)).trans hw220_0)⟩ (fun hHeld => ?_); refine with_tabW impl_doubled.tab3 impl_doubled.bits3 (fun HT_ HW_ => ?_)
            generalize w16.drew = w17 at HO215 BK212 HB HQ15 HQ18 hf10_0 hx10_0 hx219_0 hx220_0 hHeld ⊢
            refine pure_ (i := 0) (N := some 20) (v := ?_) (a' := ?_) #[true, false, false, false, false, false, false, false, false, false, false, false, false] rfl rfl (any_of HT_.out (by kernel_rfl)) (fun _ _ _ h => h) (Or.inl ⟨by rfl, ?_⟩) ?_ ?_
            rotate_left
            · intro w'
              go_simp
              with_reducible rfl
            rotate_left
            · simp only [Act.put, List.setIfInBounds_toArray, List.set_cons_zero, List.set_cons_succ, i64_w, i32_w]
              rfl
            refine pure_ (i := 1) (N := some 21) (v := ?_) (a' := ?_) #[true, true, false, false, false, false, false, false, false, false, false, false, false] rfl rfl (any_of HT_.out (by kernel_rfl)) (fun _ _ _ h => h) (Or.inl ⟨by rfl, ?_⟩) ?_ ?_
            rotate_left
            · intro w'
              go_simp
              with_reducible rfl
            rotate_left
            · simp only [Act.put, List.setIfInBounds_toArray, List.set_cons_zero, List.set_cons_succ, i64_w, i32_w]
              rfl
            refine pure_ (i := 5) (N := some 25) (v := ?_) (a' := ?_) #[true, true, false, false, false, true, false, false, false, false, false, false, false] rfl rfl (any_of HT_.out (by kernel_rfl)) (fun _ _ _ h => h) (Or.inl ⟨by rfl, ?_⟩) ?_ ?_
            rotate_left
            · intro w'
              go_simp
              with_reducible rfl
            rotate_left
            · simp only [Act.put, List.setIfInBounds_toArray, List.set_cons_zero, List.set_cons_succ, i64_w, i32_w]
              rfl
            refine pure_ (i := 6) (N := some 26) (v := ?_) (a' := ?_) #[true, true, false, false, false, true, true, false, false, false, false, false, false] rfl rfl (any_of HT_.out (by kernel_rfl)) (fun _ _ _ h => h) (Or.inl ⟨by rfl, ?_⟩) ?_ ?_
            rotate_left
            · intro w'
              go_simp
              with_reducible rfl
            rotate_left
            · simp only [Act.put, List.setIfInBounds_toArray, List.set_cons_zero, List.set_cons_succ, i64_w, i32_w]
              rfl
            refine take_ (i := 2) (N := some 22) (v := ?_) (a' := ?_) #[true, true, true, false, false, true, true, false, false, false, false, false, false] rfl rfl (take_ofW HT_.out HW_.out (by kernel_rfl)) (fun _ _ _ h => h) (Or.inl ⟨by rfl, ?_⟩) hHeld ?_ ?_
            rotate_left
            · rintro w' ⟨s0, s1, s2, s3⟩
              go_simp
              with_reducible rfl
            rotate_left
            · simp only [Act.put, List.setIfInBounds_toArray, List.set_cons_zero, List.set_cons_succ, i64_w, i32_w]
              rfl
            refine pure_ (i := 3) (N := some 23) (v := ?_) (a' := ?_) #[true, true, true, true, false, true, true, false, false, false, false, false, false] rfl rfl (any_of HT_.out (by kernel_rfl)) (fun _ _ _ h => h) (Or.inl ⟨by rfl, ?_⟩) ?_ ?_
            rotate_left
            · intro w'
              go_simp
              with_reducible rfl
            rotate_left
            · simp only [Act.put, List.setIfInBounds_toArray, List.set_cons_zero, List.set_cons_succ, i64_w, i32_w]
              rfl
            refine take_ (i := 4) (N := some 24) (v := ?_) (a' := ?_) #[true, true, true, true, true, true, true, false, false, false, false, false, false] rfl rfl (take_ofW HT_.out HW_.out (by kernel_rfl)) (fun _ _ _ h => h) (Or.inl ⟨by rfl, ?_⟩) hHeld ?_ ?_
            rotate_left
            · rintro w' ⟨s0, s1, s2, s3⟩
              go_simp
              with_reducible rfl
            rotate_left
            · simp only [Act.put, List.setIfInBounds_toArray, List.set_cons_zero, List.set_cons_succ, i64_w, i32_w]
              rfl
            refine take_ (i := 7) (N := some 27) (v := ?_) (a' := ?_) #[true, true, true, true, true, true, true, true, false, false, false, false, false] rfl rfl (take_ofW HT_.out HW_.out (by kernel_rfl)) (fun _ _ _ h => h) (Or.inl ⟨by rfl, ?_⟩) hHeld ?_ ?_
            rotate_left
            · rintro w' ⟨s0, s1, s2, s3⟩
              go_simp
              with_reducible rfl
            rotate_left
            · simp only [Act.put, List.setIfInBounds_toArray, List.set_cons_zero, List.set_cons_succ, i64_w, i32_w]
              rfl
            refine pure_ (i := 8) (N := some 28) (v := ?_) (a' := ?_) #[true, true, true, true, true, true, true, true, true, false, false, false, false] rfl rfl (any_of HT_.out (by kernel_rfl)) (fun _ _ _ h => h) (Or.inl ⟨by rfl, ?_⟩) ?_ ?_
            rotate_left
            · intro w'
              go_simp
              with_reducible rfl
            rotate_left
            · simp only [Act.put, List.setIfInBounds_toArray, List.set_cons_zero, List.set_cons_succ, i64_w, i32_w]
              rfl
            refine take_ (i := 9) (N := some 29) (v := ?_) (a' := ?_) #[true, true, true, true, true, true, true, true, true, true, false, false, false] rfl rfl (take_ofW HT_.out HW_.out (by kernel_rfl)) (fun _ _ _ h => h) (Or.inl ⟨by rfl, ?_⟩) hHeld ?_ ?_
            rotate_left
            · rintro w' ⟨s0, s1, s2, s3⟩
              go_simp
              with_reducible rfl
            rotate_left
            · simp only [Act.put, List.setIfInBounds_toArray, List.set_cons_zero, List.set_cons_succ, i64_w, i32_w]
              rfl
            refine pure_ (i := 10) (N := some 30) (v := ?_) (a' := ?_) #[true, true, true, true, true, true, true, true, true, true, true, false, false] rfl rfl (any_of HT_.out (by kernel_rfl)) (fun _ _ _ h => h) (Or.inl ⟨by rfl, ?_⟩) ?_ ?_
            rotate_left
            · intro w'
              go_simp
              with_reducible rfl
            rotate_left
            · simp only [Act.put, List.setIfInBounds_toArray, List.set_cons_zero, List.set_cons_succ, i64_w, i32_w]
              rfl
            refine pure_ (i := 11) (N := some 31) (v := ?_) (a' := ?_) #[true, true, true, true, true, true, true, true, true, true, true, true, false] rfl rfl (any_of HT_.out (by kernel_rfl)) (fun _ _ _ h => h) (Or.inl ⟨by rfl, ?_⟩) ?_ ?_
            rotate_left
            · intro w'
              go_simp
              with_reducible rfl
            rotate_left
            · simp only [Act.put, List.setIfInBounds_toArray, List.set_cons_zero, List.set_cons_succ, i64_w, i32_w]
              rfl
            refine last_ (i := 12) (N := none) #[true, true, true, true, true, true, true, true, true, true, true, true, true] rfl rfl (one_of HT_.out (by kernel_rfl)) (by decide) (fun K hK => ?_)
            refine skip_ (w1 := ?_) (by rfl) rfl ?_ ?_
            rotate_left
            · go_simp
              rfl
            refine hK.out _ _ ?_
            clear hK K
            refine done_ (done_of HT_.out (by kernel_rfl)) ?_
            try go_wp2
            go_ret
            exact ⟨_, by first | rfl | (simp [errW_none, errW_some] <;> rfl) | (simp [*, errW_none, errW_some] <;> rfl), by (with_reducible repeat (first | apply Kd.R_alloc | apply Kd.R_drewN | apply Kd.R_drew)); exact HQ18.out, by repeat (first | (with_reducible first | exact HB.out | apply below_alloc | apply pw_below_drewN | apply below_drew1 | refine below_set ?_ GB8.out | refine below_set ?_ GE212.out) | exact HB.out)⟩
          · rw [if_neg c9] at H
            exact absurd H (by simp)
        · rw [if_neg c7] at H
          exact absurd H (by simp)
      · rw [if_neg c6] at H
        exact absurd H (by simp)
    · rw [if_neg c5] at H
      exact absurd H (by simp)
  · rw [if_neg c4] at H
    exact absurd H (by simp)

-- NOT PRINTED: function 123 (slices_insertionSortCmpFunc_int)

-- NOT PRINTED: function 148 (slices_swapRangeCmpFunc_int)

-- NOT PRINTED: function 140 (slices_rotateCmpFunc_int)

-- NOT PRINTED: function 124 (slices_symMergeCmpFunc_int)

-- NOT PRINTED: function 113 (slices_stableCmpFunc_int)

-- NOT PRINTED: function 93 (slices_SortStableFunc_int_int)

/-! ### impl_QuotientDoublings: function 50, by hand -/
/-- The stable order of three numbers. -/
def qd.o3 (l : List Int) : Int × Int × Int :=
  if wrap64 (rd l 1 - rd l 0) < 0 then (if wrap64 (rd l 2 - rd l 0) < 0 then (if wrap64 (rd l 2 - rd l 1) < 0 then (2, 1, 0) else (1, 2, 0)) else (1, 0, 2))
  else (if wrap64 (rd l 2 - rd l 1) < 0 then (if wrap64 (rd l 2 - rd l 0) < 0 then (2, 0, 1) else (0, 2, 1)) else (0, 1, 2))
def qd.enc (i : Fin 3) : Value := .int .i64 (i.val : Int)
def qd.cf (l : List Int) (i k : Fin 3) : Int := wrap64 (rd l (i.val : Int) - rd l (k.val : Int))
theorem qd.sorted (l : List Int) : (Go.Sort.insertionSort (ltOf (qd.cf l)) #[(0 : Fin 3), 1, 2] 0 3).map (fun i => (i.val : Int)) = #[(qd.o3 l).1, (qd.o3 l).2.1, (qd.o3 l).2.2] := by
  have key : ∀ b10 b21 b20 : Bool, ∀ lt : Fin 3 → Fin 3 → Bool, lt 1 0 = b10 → lt 2 1 = b21 → lt 2 0 = b20 →
      (Go.Sort.insertionSort lt #[(0 : Fin 3), 1, 2] 0 3).toList = (if b10 then (if b20 then (if b21 then [2, 1, 0] else [1, 2, 0]) else [1, 0, 2]) else (if b21 then (if b20 then [2, 0, 1] else [0, 2, 1]) else [0, 1, 2])) := by
    intro b10 b21 b20 lt h1 h2 h3
    unfold Go.Sort.insertionSort
    rw [Go.Sort.insOuter, Go.Sort.insOuter, Go.Sort.insOuter]
    cases b10 <;> cases b21 <;> cases b20 <;> simp [Go.Sort.insInner, Go.Sort.swp, h1, h2, h3]
  have h := key _ _ _ (ltOf (qd.cf l)) rfl rfl rfl
  apply Array.toList_inj.mp
  rw [Array.toList_map, h]
  have e1 : ltOf (qd.cf l) 1 0 = decide (wrap64 (rd l 1 - rd l 0) < 0) := rfl
  have e2 : ltOf (qd.cf l) 2 1 = decide (wrap64 (rd l 2 - rd l 1) < 0) := rfl
  have e3 : ltOf (qd.cf l) 2 0 = decide (wrap64 (rd l 2 - rd l 0) < 0) := rfl
  rw [e1, e2, e3]
  unfold qd.o3
  by_cases c1 : wrap64 (rd l 1 - rd l 0) < 0 <;> by_cases c2 : wrap64 (rd l 2 - rd l 1) < 0 <;> by_cases c3 : wrap64 (rd l 2 - rd l 0) < 0 <;> simp [c1, c2, c3]
theorem qd.below_put {α : Type} [Inhabited α] {B : Nat} {w W : World} (h : Below B w W) {blk : Nat} (hb : B ≤ blk) (enc : α → Value) (off : Nat) (d : Array α) : Below B w (Go.Sort.putRow enc W blk off d) := by
  refine ⟨h.os, h.tape, h.output, ?_, fun k hk => ?_⟩
  · have := h.size
    simpa [Go.Sort.putRow, Go.Sort.mapBlock] using this
  · rw [← h.block k hk]
    simp only [Go.Sort.putRow, Go.Sort.mapBlock, Array.getElem?_modify]
    rw [if_neg (by omega)]
theorem qd.below_sw {α : Type} [Inhabited α] {B : Nat} {w W : World} (h : Below B w W) {blk : Nat} (hb : B ≤ blk) (hB : B ≤ W.heap.size) (enc : α → Value) (off m : Nat) (d : Array α) (os : Array Obj) : Below B w (sortWorld enc W blk off m d os) := by
  have h1 : Below B w (Go.Sort.ahead W m) := ⟨h.os, h.tape, h.output, h.size, h.block⟩
  have h2 := qd.below_put h1 hb enc off d
  refine ⟨h2.os, h2.tape, h2.output, ?_, fun k hk => ?_⟩
  · have e : (Go.Sort.putRow enc (Go.Sort.ahead W m) blk off d).heap.size = W.heap.size := by simp [Go.Sort.putRow, Go.Sort.mapBlock, Go.Sort.ahead]
    have := h.size
    simp only [sortWorld, Go.Sort.grow, Array.size_append]
    omega
  · rw [← h2.block k hk]
    simp only [sortWorld, Go.Sort.grow]
    rw [Array.getElem?_append_left (by have : (Go.Sort.putRow enc (Go.Sort.ahead W m) blk off d).heap.size = W.heap.size := by simp [Go.Sort.putRow, Go.Sort.mapBlock, Go.Sort.ahead]
                                       omega)]
set_option maxHeartbeats 2000000 in
theorem qd.cmpI (B : Nat) (A : Option Addr) (c : Nat) (l : List Int) (p q : Int) (p0 : 0 ≤ p) (p1 : p < 3) (q0 : 0 ≤ q) (q1 : q < 3) (W : World) (hB : W.cell? ⟨B, 0, none⟩ = some (.slice A 3 c)) (hr : Kd.C (Kd.int .i64) W A 3 l) :
    Calls Try.prog 94 #[.int .i64 p, .int .i64 q, .pointer (some ⟨B, 0, none⟩)] W fun e w' => e = .returned (.int .i64 (wrap64 (rd l p - rd l q))) ∧ ∃ n, w' = W.drewN n := by
  obtain ⟨ad, rfl, hx⟩ := Kd.at_int hr p p0 p1
  obtain ⟨ad', e', hy⟩ := Kd.at_int hr q q0 q1
  obtain rfl := Option.some.inj e'
  have i1 : decide (0 ≤ p) = true := decide_eq_true p0
  have i2 : decide (p < 3) = true := decide_eq_true p1
  have k1 : decide (0 ≤ q) = true := decide_eq_true q0
  have k2 : decide (q < 3) = true := decide_eq_true q1
  replace p0 := eq_true p0
  replace p1 := eq_true p1
  replace q0 := eq_true q0
  replace q1 := eq_true q1
  generalize rd l p = x at *
  generalize rd l q = y at *
  clear hr e'
  go_enter Try.func94, Try.ntmps94
  go_wp2
  go_quiet (fail)
  go_wp2
  go_ret
  exact ⟨rfl, _, rfl⟩
theorem qd.cmp (B : Nat) (A : Option Addr) (c : Nat) (l : List Int) (i k : Fin 3) (W : World) (hB : W.cell? ⟨B, 0, none⟩ = some (.slice A 3 c)) (hr : Kd.C (Kd.int .i64) W A 3 l) :
    Calls Try.prog 94 (#[qd.enc i, qd.enc k] ++ #[.pointer (some ⟨B, 0, none⟩)]) W fun e w' => e = .returned (.int .i64 (qd.cf l i k)) ∧ ∃ q, w' = W.drewN q :=
  qd.cmpI B A c l (i.val : Int) (k.val : Int) (by omega) (by omega) (by omega) (by omega) W hB hr
set_option maxHeartbeats 2000000 in
theorem qd.sort (B : Nat) (A : Option Addr) (c : Nat) (l : List Int) (W : World) (hB : W.cell? ⟨B, 0, none⟩ = some (.slice A 3 c)) (hr : Kd.C (Kd.int .i64) W A 3 l) :
    Calls Try.prog 93 #[.slice (some ⟨W.heap.size, 0, none⟩) 3 3, .func (.func 94) #[] #[.pointer (some ⟨B, 0, none⟩)]] (W.alloc (.cells #[.int .i64 0, .int .i64 1, .int .i64 2] 3)) fun e w' => e = .returned (.tuple #[]) ∧ Below W.heap.size W w' ∧
      w'.cell? ⟨W.heap.size, 0, none⟩ = some (.int .i64 (qd.o3 l).1) ∧ w'.cell? ⟨W.heap.size, 1, none⟩ = some (.int .i64 (qd.o3 l).2.1) ∧ w'.cell? ⟨W.heap.size, 2, none⟩ = some (.int .i64 (qd.o3 l).2.2) := by
  have eg : ∀ args w, (callFunc 94 args).run Try.prog w = .ok (.enter 94 args) w := enters_of Try.func94 (by kernel_rfl) rfl
  have hBlt := World.block_lt_of_cell? W _ hB
  simp only at hBlt
  have hb1 : Below W.heap.size W (W.alloc (.cells #[.int .i64 0, .int .i64 1, .int .i64 2] 3)) := (Below.refl _ W).alloc (Nat.le_refl _) _
  have hH : Go.Sort.Holds qd.enc (W.alloc (.cells #[.int .i64 0, .int .i64 1, .int .i64 2] 3)) W.heap.size 0 #[(0 : Fin 3), 1, 2] := by
    have hc := blk_new W (.cells #[.int .i64 0, .int .i64 1, .int .i64 2] 3)
    intro j hj
    refine ⟨?_, blk_frozen hc _⟩
    rw [blk_cell hc]
    match j, hj with
    | 0, _ => rfl
    | 1, _ => rfl
    | 2, _ => rfl
  have hcmp : CmpReads Try.prog 94 #[.pointer (some ⟨B, 0, none⟩)] qd.enc (qd.cf l) W.heap.size 0 3 (W.alloc (.cells #[.int .i64 0, .int .i64 1, .int .i64 2] 3)) := by
    intro m os dk hs x y
    have hb := qd.below_sw hb1 (Nat.le_refl W.heap.size) (by simp) qd.enc 0 m dk os
    exact qd.cmp B A c l x y _ ((hb.cell (p := ⟨B, 0, none⟩) hBlt).trans hB) (Kd.C_below hr hb)
  have hins : Calls Try.prog 123 #[.slice (some ⟨W.heap.size, 0, none⟩) 3 3, .int .i64 0, .int .i64 3, .func (.func 94) #[] #[.pointer (some ⟨B, 0, none⟩)]] (W.alloc (.cells #[.int .i64 0, .int .i64 1, .int .i64 2] 3)) fun e w' => e = .returned (.tuple #[]) ∧ ∃ n, w' = (Go.Sort.putRow qd.enc (W.alloc (.cells #[.int .i64 0, .int .i64 1, .int .i64 2] 3)) W.heap.size 0 (Go.Sort.insertionSort (ltOf (qd.cf l)) #[(0 : Fin 3), 1, 2] 0 3)).drewN n :=
    Try.insertionSortCmpFunc_one_f123 qd.enc (fun _ => rfl) (qd.cf l) 94 #[.pointer (some ⟨B, 0, none⟩)] W.heap.size 0 3 0 3 #[(0 : Fin 3), 1, 2] _ eg hcmp hH (by decide) (by decide) (by decide)
  have hfin : ∀ w', (∃ n, w' = (Go.Sort.putRow qd.enc (W.alloc (.cells #[.int .i64 0, .int .i64 1, .int .i64 2] 3)) W.heap.size 0 (Go.Sort.insertionSort (ltOf (qd.cf l)) #[(0 : Fin 3), 1, 2] 0 3)).drewN n) → Below W.heap.size W w' ∧
      w'.cell? ⟨W.heap.size, 0, none⟩ = some (.int .i64 (qd.o3 l).1) ∧ w'.cell? ⟨W.heap.size, 1, none⟩ = some (.int .i64 (qd.o3 l).2.1) ∧ w'.cell? ⟨W.heap.size, 2, none⟩ = some (.int .i64 (qd.o3 l).2.2) := by
    rintro w' ⟨n, rfl⟩
    have hso := qd.sorted l
    generalize Go.Sort.insertionSort (ltOf (qd.cf l)) #[(0 : Fin 3), 1, 2] 0 3 = D at hso
    have hD : D.size = 3 := by
      have := congrArg Array.size hso
      simpa using this
    have hcell : ∀ j (hj : j < 3), (Go.Sort.putRow qd.enc (W.alloc (.cells #[.int .i64 0, .int .i64 1, .int .i64 2] 3)) W.heap.size 0 D).cell? ⟨W.heap.size, j, none⟩ = some (.int .i64 ((#[(qd.o3 l).1, (qd.o3 l).2.1, (qd.o3 l).2.2] : Array Int)[j])) := by
      intro j hj
      have h := Go.Sort.cell?_putRow qd.enc _ W.heap.size 0 #[(0 : Fin 3), 1, 2] D hH (by rw [hD]; rfl) j (by omega)
      rw [Nat.zero_add] at h
      rw [h]
      have e : (#[(qd.o3 l).1, (qd.o3 l).2.1, (qd.o3 l).2.2] : Array Int)[j] = ((D[j]!).val : Int) := by
        have : (D.map (fun i => (i.val : Int)))[j]'(by simp; omega) = ((D[j]!).val : Int) := by
          rw [Array.getElem_map, getElem!_pos D j (by omega)]
        rw [← this]
        simp only [hso]
      rw [e]
      rfl
    exact ⟨pw_below_drewN (qd.below_put hb1 (Nat.le_refl _) _ _ _) _, hcell 0 (by omega), hcell 1 (by omega), hcell 2 (by omega)⟩
  have HF := Aside0.mk hfin
  have HI := Aside0.mk hins
  clear hfin hins hcmp hH hb1 hBlt hB hr eg
  have hst : Calls Try.prog 113 #[.slice (some ⟨W.heap.size, 0, none⟩) 3 3, .int .i64 3, .func (.func 94) #[] #[.pointer (some ⟨B, 0, none⟩)]] (W.alloc (.cells #[.int .i64 0, .int .i64 1, .int .i64 2] 3)) fun e w' => e = .returned (.tuple #[]) ∧ ∃ n, w' = (Go.Sort.putRow qd.enc (W.alloc (.cells #[.int .i64 0, .int .i64 1, .int .i64 2] 3)) W.heap.size 0 (Go.Sort.insertionSort (ltOf (qd.cf l)) #[(0 : Fin 3), 1, 2] 0 3)).drewN n := by
    generalize W.alloc (.cells #[.int .i64 0, .int .i64 1, .int .i64 2] 3) = W1 at HI ⊢
    generalize W.heap.size = blk at HI ⊢
    clear HF
    go_enter Try.func113, Try.ntmps113
    go_wp2
    go_loop [7, 8] (fun b c => b = .int .i64 0 ∧ c = .int .i64 20) (fun _ _ => 0)
    case atStart => exact ⟨rfl, rfl⟩
    case round =>
      obtain ⟨rfl, rfl⟩ := hrel
      go_wp2_with (go_at_call 123; (with_reducible refine HI.out.mono ?_); rintro e w' ⟨rfl, hq⟩; have HQ := Aside0.mk hq; clear hq)
      go_loop [6, 7, 8] (fun a b c => a = .int .i64 20 ∧ b = .int .i64 0 ∧ c = .int .i64 20) (fun _ _ _ => 0)
      case atStart => exact ⟨rfl, rfl, rfl⟩
      case round =>
        obtain ⟨rfl, rfl, rfl⟩ := hrel
        go_wp2
        (first | go_end0 | ((try simp only [Exit.inBlock, Exit.then]); refine bodyPost_ret (results_none rfl _ _ _) rfl ?_))
        exact ⟨rfl, HQ.out⟩
  have HST := Aside0.mk hst
  clear hst HI
  go_enter Try.func93, Try.ntmps93
  go_wp2_with (go_at_call 113; (with_reducible refine HST.out.mono ?_); rintro e w' ⟨rfl, hq⟩; have HQ := Aside0.mk (HF.out _ hq); clear hq)
  (first | go_end0 | ((try simp only [Exit.inBlock, Exit.then]); refine bodyPost_ret (results_none rfl _ _ _) rfl ?_))
  exact ⟨rfl, HQ.out⟩
/-- Block B is a box that holds a slice, which reads l, of a row of one's own. -/
def qd.AtB (B base : Nat) (W : World) (l : List Int) : Prop := ∃ A c, W.heap[B]? = some (.cells #[.slice A l.length c] 27 (0, 0)) ∧ base ≤ B ∧ Kd.R (Kd.int .i64) 3 W base (fun _ => True) (.slice A l.length c) l
section
variable {B base g : Nat} {W W1 : World} {l : List Int} {u : Value} {xs : List (S70)}
theorem qd.AtB.below (h : qd.AtB B base W l) (hb : Below W.heap.size W W1) : qd.AtB B base W1 l := by
  obtain ⟨A, c, h1, h2, h3⟩ := h
  exact ⟨A, c, blk_below h1 hb, h2, Kd.R_below h3 hb⟩
theorem qd.AtB.grown {base' : Nat} {ok : Nat → Prop} (h : qd.AtB B base W l) (hu : Kd.R k70 70 W base' ok u xs) (hg : W.grownBy W1 u.ownBlock) : qd.AtB B base W1 l := by
  obtain ⟨A, c, h1, h2, h3⟩ := h
  exact ⟨A, c, blk_grown h1 hg (Kd.R_ne hu h1 (by decide)), h2, Kd.R_over' h3 (Kd.R_typed hu) (by decide) hg⟩
theorem qd.AtB.setD {cs : Array Value} (h : qd.AtB B base W l) (hd : W.heap[g]? = some (.cells cs 70 (0, 0))) (i : Nat) (x : Value) : qd.AtB B base (W.setCell ⟨g, i, none⟩ x) l := by
  obtain ⟨A, c, h1, h2, h3⟩ := h
  refine ⟨A, c, ?_, h2, Kd.R_mono (Kd.R_far (p := ⟨g, i, none⟩) (Kd.R_types h3 hd (by decide)) (fun _ hk => hk.2) x) (fun _ hk => hk.1)⟩
  rw [Below.heap_setCell W ⟨g, i, none⟩ x B (blk_ne h1 hd (by decide))]
  exact h1
theorem qd.AtB.put {A' : Option Addr} {c' : Nat} {l' : List Int} {ok : Nat → Prop} (h : qd.AtB B base W l) (hr : Kd.R (Kd.int .i64) 3 W base ok (.slice A' l'.length c') l') : qd.AtB B base (W.setCell ⟨B, 0, none⟩ (.slice A' l'.length c')) l' := by
  obtain ⟨A, c, h1, h2, h3⟩ := h
  exact ⟨A', c', blk_put h1 0 _ rfl, h2, Kd.R_mono (Kd.R_far (p := ⟨B, 0, none⟩) (Kd.R_types hr h1 (by decide)) (fun _ hk => hk.2) _) (fun _ _ => trivial)⟩
theorem qd.outB {ok : Nat → Prop} (h : Kd.R k70 70 W base ok u xs) (hat : qd.AtB B base W l) (x : Value) : Kd.R k70 70 (W.setCell ⟨B, 0, none⟩ x) base (fun _ => True) u xs := by
  obtain ⟨A, c, h1, h2, h3⟩ := hat
  exact Kd.R_mono (Kd.R_far (p := ⟨B, 0, none⟩) (Kd.R_types h h1 (by decide)) (fun _ hk => hk.2) x) (fun _ _ => trivial)
theorem qd.outD {ok : Nat → Prop} (h : Kd.R k70 70 W base ok u xs) (hne : some g ≠ u.ownBlock) (i : Nat) (x : Value) : Kd.R k70 70 (W.setCell ⟨g, i, none⟩ x) base (fun _ => True) u xs :=
  Kd.R_mono (Kd.R_far (p := ⟨g, i, none⟩) (Kd.R_far1 h rfl hne) (fun _ hk => hk.2) x) (fun _ _ => trivial)
end
theorem qd.o3_in (l : List Int) : 0 ≤ (qd.o3 l).1 ∧ (qd.o3 l).1 < 3 ∧ 0 ≤ (qd.o3 l).2.1 ∧ (qd.o3 l).2.1 < 3 ∧ 0 ≤ (qd.o3 l).2.2 ∧ (qd.o3 l).2.2 < 3 := by
  unfold qd.o3
  split <;> split <;> (try split) <;> simp
mutual
def impl_QuotientDoublings.l0 : Nat → List Int → List (S70) → Option ((List (S70)) × Bool)
  | 0, _, _ => none
  | k + 1, x4, x5 => if x4.length = 3 then (if (rd x4 (qd.o3 x4).1) = 0 then (some (x5, true)) else (impl_QuotientDoublings.l1 k x4 x5 (qd.o3 x4).1 (qd.o3 x4).2.1 (qd.o3 x4).2.2 (wrap64 (Int.tdiv (rd x4 (qd.o3 x4).2.1) (rd x4 (qd.o3 x4).1))))) else none
def impl_QuotientDoublings.l1 : Nat → List Int → List (S70) → Int → Int → Int → Int → Option ((List (S70)) × Bool)
  | 0, _, _, _, _, _, _ => none
  | k + 1, x4, x5, x7, x8, x9, x10 => if x10 > 0 then (if (Int.tmod x10 2) = 1 then (if x5.length < 8796093022208 then ((impl_doubled.f x4 x8 x7).bind fun t242 => (impl_QuotientDoublings.l1 k t242 (x5 ++ [(⟨x8, x7⟩ : S70)]) x7 x8 x9 (wrap64 (Int.tdiv x10 2)))) else (none)) else (if x5.length < 8796093022208 then ((impl_doubled.f x4 x9 x7).bind fun t248 => (impl_QuotientDoublings.l1 k t248 (x5 ++ [(⟨x9, x7⟩ : S70)]) x7 x8 x9 (wrap64 (Int.tdiv x10 2)))) else (none))) else (impl_QuotientDoublings.l0 k x4 x5)
end
def impl_QuotientDoublings.f (k : Nat) (l0 : List Int) : Option ((List (S70)) × Bool) := (impl_AreFewHeaps.f k l0).bind fun t222 => (if t222 = true then (if (l0.length : Int) = 3 then ((slices_Clone_int_int.f l0).bind fun t223 => (impl_QuotientDoublings.l0 k t223 (([] : List (S70))))) else (some (([] : List (S70)), false))) else (some (([] : List (S70)), false)))
theorem impl_QuotientDoublings.mono_l : ∀ k, (∀ y0 y1, LeO (impl_QuotientDoublings.l0 k y0 y1) (impl_QuotientDoublings.l0 (k + 1) y0 y1)) ∧ (∀ y0 y1 y2 y3 y4 y5, LeO (impl_QuotientDoublings.l1 k y0 y1 y2 y3 y4 y5) (impl_QuotientDoublings.l1 (k + 1) y0 y1 y2 y3 y4 y5))
  | 0 => ⟨fun _ _ r h => by simp [impl_QuotientDoublings.l0] at h, fun _ _ _ _ _ _ r h => by simp [impl_QuotientDoublings.l1] at h⟩
  | k + 1 => by
    obtain ⟨ih0, ih1⟩ := impl_QuotientDoublings.mono_l k
    refine ⟨?_, ?_⟩
    · intro y0 y1
      unfold impl_QuotientDoublings.l0
      repeat' first
      | (with_reducible exact ih0 _ _)
      | (with_reducible exact ih1 _ _ _ _ _ _)
      | (with_reducible exact LeO.refl _)
      | (with_reducible exact LeO.none _)
      | (with_reducible refine LeO.ite ?_ ?_)
      | (with_reducible refine LeO.bind ?_ (fun _ => ?_))
    · intro y0 y1 y2 y3 y4 y5
      unfold impl_QuotientDoublings.l1
      repeat' first
      | (with_reducible exact ih0 _ _)
      | (with_reducible exact ih1 _ _ _ _ _ _)
      | (with_reducible exact LeO.refl _)
      | (with_reducible exact LeO.none _)
      | (with_reducible refine LeO.ite ?_ ?_)
      | (with_reducible refine LeO.bind ?_ (fun _ => ?_))
theorem impl_QuotientDoublings.mono : ∀ a0 k, LeO (impl_QuotientDoublings.f k a0) (impl_QuotientDoublings.f (k + 1) a0) := by
  intro a0 k
  obtain ⟨ih0, ih1⟩ := impl_QuotientDoublings.mono_l k
  unfold impl_QuotientDoublings.f
  repeat' first
      | (with_reducible exact ih0 _ _)
      | (with_reducible exact impl_AreFewHeaps.mono _ _)
      | (with_reducible exact LeO.refl _)
      | (with_reducible exact LeO.none _)
      | (with_reducible refine LeO.ite ?_ ?_)
      | (with_reducible refine LeO.bind ?_ (fun _ => ?_))
set_option maxHeartbeats 8000000 in
set_option maxRecDepth 100000 in
theorem impl_QuotientDoublings.calls (k : Nat) (A0 : Option Addr) (c0 : Nat) (l0 : List Int) (r1 : List (S70)) (r2 : Bool) (w : World) (hr0 : Kd.C (Kd.int .i64) w A0 l0.length l0) (hc0 : l0.length ≤ c0) (h : impl_QuotientDoublings.f k l0 = some (r1, r2)) :
    Calls Try.prog 50 #[.slice A0 l0.length c0] w fun e w' => ∃ v0_ : Value, e = .returned (.tuple #[v0_, .bool r2]) ∧ Kd.R k70 70 w' w.heap.size (fun _ => True) v0_ r1 ∧ Below w.heap.size w w' := by
  have hu_ := Try.underlying70
  have HR0 := Aside0.mk hr0
  have HC0 := Aside0.mk hc0
  unfold impl_QuotientDoublings.f at h
  obtain ⟨t1, e1, h⟩ := Option.bind_eq_some_iff.mp h
  have HFEW := Aside0.mk (impl_AreFewHeaps.calls k A0 c0 l0 t1 w hr0 hc0 e1)
  clear hr0 hc0
  cases t1 with
  | false =>
    obtain ⟨rfl, rfl⟩ : [] = r1 ∧ false = r2 := by simpa using h
    clear h
    go_enter Try.func50, Try.ntmps50
    go_wp2_with (go_at_call 66; (with_reducible refine HFEW.out.mono ?_); rintro e w1 ⟨rfl, hb1⟩)
    go_ret2
    exact ⟨_, rfl, Kd.R_nil _ _ _ _ _, hb1⟩
  | true =>
    simp only [if_true] at h
    by_cases c3 : (l0.length : Int) = 3
    case neg =>
      rw [if_neg c3] at h
      obtain ⟨rfl, rfl⟩ : [] = r1 ∧ false = r2 := by simpa using h
      have c3' : ((l0.length : Int) != 3) = true := by simpa using c3
      have c3'' : (l0.length == 3) = false := by simpa using (show ¬ l0.length = 3 from fun e => c3 (by rw [e]; rfl))
      clear h c3
      go_enter Try.func50, Try.ntmps50
      go_wp2_with (go_at_call 66; (with_reducible refine HFEW.out.mono ?_); rintro e w1 ⟨rfl, hb1⟩)
      go_ret2
      exact ⟨_, rfl, Kd.R_nil _ _ _ _ _, hb1⟩
    rw [if_pos c3] at h
    obtain ⟨t2, e2, h⟩ := Option.bind_eq_some_iff.mp h
    have A2 := Aside0.mk e2
    have H' := Aside0.mk h
    have c3' : ((l0.length : Int) != 3) = false := by simpa using c3
    have c3'' : (l0.length == 3) = true := by simpa using (show l0.length = 3 by omega)
    clear e2 h c3
    go_enter Try.func50, Try.ntmps50
    go_wp2_with (first
      | (go_at_call 66; (with_reducible refine HFEW.out.mono ?_); rintro e w1 ⟨rfl, hb1⟩; have HB := Aside0.mk hb1; clear hb1)
      | (go_at_call 74; (with_reducible refine (slices_Clone_int_int.calls _ _ l0 t2 _ ?side1 ?side2 A2.out).mono ?_); (case side1 => exact (Kd.C_below HR0.out HB.out)); (case side2 => exact HC0.out); rintro e w2 ⟨v2, rfl, ho, hb⟩; obtain ⟨Ac, cc, rfl⟩ := Kd.R_slice ho; have HR1 := Aside0.mk (Kd.R_lower ho (below_size HB.out)); have n1_ := Aside0.mk (below_step HB.out hb); clear HB; have HB := n1_; clear n1_ ho hb)
      | ((with_reducible refine gate_dst (N := 4) rfl ?_); refine box_event ?hg (N := 4) ?hd (cs := #[.slice none 0 0]) (t := 27) ?hr ?_; (case hd => rfl); (case hg => rfl); (case hr => first | (go_simp; done) | (go_simp; rfl)); intro gB hg w3 hbox hb; have n0_ := Aside0.mk (Kd.R_below HR1.out hb); have HGE := Aside0.mk ((by rw [hg]; exact below_size HB.out) : w.heap.size ≤ gB); have n1_ := Aside0.mk (below_step HB.out hb); clear HR1 HB; have HR1 := n0_; have HB := n1_; have BK := Aside0.mk hbox; clear n0_ n1_ hb hbox hg; have hcz_0 : w3.cell? ⟨gB, 0, none⟩ = some (.slice none 0 0) := (blk_cell BK.out 0).trans rfl; have hfz_0 := blk_frozen BK.out 0)
      | ((with_reducible refine gate_dst (N := 22) rfl ?_); (try (refine gate_guard (by rfl) ?_; dsimp only)); have hat0 : qd.AtB gB w.heap.size (w3.setCell ⟨gB, 0, none⟩ (.slice Ac t2.length cc)) t2 := ⟨Ac, cc, blk_put BK.out 0 _ rfl, HGE.out, Kd.R_mono (Kd.R_far (p := ⟨gB, 0, none⟩) (Kd.R_types HR1.out BK.out (by decide)) (fun _ hk => hk.2) _) (fun _ _ => trivial)⟩; refine Kd.R_lit k70 _ 70 ?hg (N := 22) ?hd (xs := ([] : List (S70))) (inner := []) (ok := fun _ => True) (okp := fun _ => True) ?hr ?hp (fun _ hk => hk) trivial (Below.refl _ _) (Nat.le_refl _) (by simp) ?_; (case hd => rfl); (case hg => rfl); (case hr => first | (go_simp; done) | (go_simp; rfl)); (case hp => exact (Reps.none _ _)); intro v4 w4 ho hb hg_ hnew_; clear hg_ hnew_; have HAT := Aside0.mk (hat0.below hb); have n1_ := Aside0.mk (below_step (below_set HB.out HGE.out) hb); have HO := Aside0.mk (Kd.R_lower ho (below_size (below_set HB.out HGE.out))); clear HB HR1 BK hat0 ho; have HB := n1_; clear n1_ hb hcz_0 hfz_0))
    go_loopg [5] k (fun kq v5 w' => ∃ (x4 : List Int) (x5 : List (S70)), Aside0 (impl_QuotientDoublings.l0 kq x4 x5 = some (r1, r2)) ∧ Aside0 (kq ≤ k) ∧ Aside0 (qd.AtB gB w.heap.size w' x4) ∧ Aside0 (Kd.R k70 70 w' w.heap.size (fun _ => True) v5 x5) ∧ Aside0 (Below w.heap.size w w'))
    case atStart => exact ⟨t2, [], H', ⟨Nat.le_refl _⟩, HAT, HO, HB⟩
    case round =>
      clear H' HAT HO HB
      obtain ⟨x4, x5, HA, HK2, HAT, HO, HB⟩ := hrel
      cases gk with
      | zero => exact absurd HA.out (by simp [impl_QuotientDoublings.l0])
      | succ k2 =>
        have H := HA.out
        clear HA
        simp only [impl_QuotientDoublings.l0] at H
        by_cases h3 : x4.length = 3
        case neg => rw [if_neg h3] at H; cases H
        rw [if_pos h3] at H
        obtain ⟨A4, c4, hbk4, hge4, hr4⟩ := HAT.out
        rw [h3] at hbk4 hr4
        have hc4 := (Kd.R_reads' hr4).2.2
        rw [h3] at hc4
        have hcell4 : wr.cell? ⟨gB, 0, none⟩ = some (.slice A4 3 c4) := (blk_cell hbk4 0).trans rfl
        have HSO := Aside0.mk (qd.sort gB A4 c4 x4 wr hcell4 hc4)
        obtain ⟨i0, i1, j0, j1, m0, m1⟩ := qd.o3_in x4
        obtain ⟨ad, eA, hxa⟩ := Kd.at_int hc4 (qd.o3 x4).1 i0 i1
        obtain ⟨ad', eA', hxb⟩ := Kd.at_int hc4 (qd.o3 x4).2.1 j0 j1
        subst eA
        obtain rfl := Option.some.inj eA'
        have HX := Aside0.mk (And.intro hcell4 (And.intro hxa hxb))
        clear eA' hbk4 hge4 hr4 hc4 hcell4 hxa hxb
        generalize (qd.o3 x4).1 = oa at *
        generalize (qd.o3 x4).2.1 = ob at *
        generalize (qd.o3 x4).2.2 = oc at *
        have i0' : decide (0 ≤ oa) = true := decide_eq_true i0
        have i1' : decide (oa < 3) = true := decide_eq_true i1
        have j0' : decide (0 ≤ ob) = true := decide_eq_true j0
        have j1' : decide (ob < 3) = true := decide_eq_true j1
        replace i0 := eq_true i0
        replace i1 := eq_true i1
        replace j0 := eq_true j0
        replace j1 := eq_true j1
        by_cases c18 : rd x4 oa = 0
        · rw [if_pos c18] at H
          obtain ⟨rfl, rfl⟩ : x5 = r1 ∧ true = r2 := by simpa using H
          have c18b0 : ((rd x4 oa) == 0) = true := beq_iff_eq.mpr c18
          have c18b1 : ((rd x4 oa) != 0) = false := bne_eq_false_iff_eq.mpr c18
          clear c18 H
          go_wp2_with (go_at_call 93; (with_reducible refine HSO.out.mono ?_); rintro e w5 ⟨rfl, hb5, hq0, hq1, hq2⟩; have hy0 := pw_cell_below hb5 HX.out.1; have hy1 := pw_cell_below hb5 HX.out.2.1; have HO5 := Aside0.mk (Kd.R_below HO.out hb5); have HB5 := Aside0.mk (below_step HB.out hb5); clear hb5)
          go_quiet (fail)
          go_wp2
          go_ret2
          exact ⟨_, rfl, Kd.R_drewN HO5.out _, pw_below_drewN HB5.out _⟩
        · rw [if_neg c18] at H
          have c18b0 : ((rd x4 oa) == 0) = false := beq_eq_false_iff_ne.mpr c18
          have c18b1 : ((rd x4 oa) != 0) = true := bne_iff_ne.mpr c18
          have H' := Aside0.mk H
          clear H
          go_wp2_with (go_at_call 93; (with_reducible refine HSO.out.mono ?_); rintro e w5 ⟨rfl, hb5, hq0, hq1, hq2⟩; have hy0 := pw_cell_below hb5 HX.out.1; have hy1 := pw_cell_below hb5 HX.out.2.1; have hy2 := pw_cell_below hb5 HX.out.2.2; have HO5 := Aside0.mk (Kd.R_below HO.out hb5); have HB5 := Aside0.mk (below_step HB.out hb5); have HAT5 := Aside0.mk (HAT.out.below hb5); clear hb5)
          repeat (go_quiet (fail); try go_wp2)
          go_loopg [5, 10] k2 (fun kq v5 v10 w' => ∃ (y4 : List Int) (x5 : List (S70)) (y10 : Int), v10 = .int .i64 y10 ∧ Aside0 (impl_QuotientDoublings.l1 kq y4 x5 oa ob oc y10 = some (r1, r2)) ∧ Aside0 (kq ≤ k2) ∧ Aside0 (qd.AtB gB w.heap.size w' y4) ∧ Aside0 (Kd.R k70 70 w' w.heap.size (fun _ => True) v5 x5) ∧ Aside0 (Below w.heap.size w w'))
          case atStart => exact ⟨x4, x5, (wrap64 (Int.tdiv (rd x4 ob) (rd x4 oa))), (by first | rfl | (simp; done) | (simp [*]; done)), H', ⟨Nat.le_refl _⟩, ⟨HAT5.out.below (by repeat (first | exact Below.refl _ _ | apply pw_below_drewN))⟩, ⟨by repeat (first | exact HO5.out | apply Kd.R_drewN)⟩, ⟨by repeat (first | exact HB5.out | apply pw_below_drewN)⟩⟩
          case round =>
            clear H' HAT HO HB HAT5 HO5 HB5 hq0 hq1 hq2 hy0 hy1 hy2 HSO HX c18b0 c18b1 c18
            obtain ⟨y4, x5, y10, rfl, HA, HK3, HAT, HO, HB⟩ := hrel
            cases gk with
            | zero => exact absurd HA.out (by simp [impl_QuotientDoublings.l1])
            | succ k3 =>
              have H := HA.out
              clear HA
              simp only [impl_QuotientDoublings.l1] at H
              by_cases c27 : y10 > 0
              · rw [if_pos c27] at H
                have c27b0 : decide (0 < y10) = true := decide_eq_true c27
                clear c27
                by_cases c28 : (Int.tmod y10 2) = 1
                · rw [if_pos c28] at H
                  have c28b0 : ((Int.tmod y10 2) == 1) = true := beq_iff_eq.mpr c28
                  have c28b1 : ((Int.tmod y10 2) != 1) = false := bne_eq_false_iff_eq.mpr c28
                  clear c28
                  by_cases c29 : x5.length < 8796093022208
                  case neg => rw [if_neg c29] at H; cases H
                  rw [if_pos c29] at H
                  obtain ⟨t6, e6, H⟩ := Option.bind_eq_some_iff.mp H
                  have A6 := Aside0.mk e6
                  have LM := Aside0.mk c29
                  have H' := Aside0.mk H
                  clear H e6 c29
                  go_wp2_with (first
                    | ((with_reducible refine gate_dst (N := 11) rfl ?_); refine box_event ?hg (N := 11) ?hd (cs := #[.int .i64 0, .int .i64 0]) (t := 70) ?hr ?_; (case hd => rfl); (case hg => rfl); (case hr => first | (go_simp; done) | (go_simp; rfl)); intro gd hg w6 hbox hb; have HNE := Aside0.mk ((fun he => by have := Kd.R_lt HO.out _ he.symm; omega) : some gd ≠ (u5 : Value).ownBlock); have HGD := Aside0.mk ((by rw [hg]; exact below_size HB.out) : w.heap.size ≤ gd); have n0_ := Aside0.mk (HAT.out.below hb); have n1_ := Aside0.mk (Kd.R_below HO.out hb); have n2_ := Aside0.mk (below_step HB.out hb); clear HAT HO HB; have HAT := n0_; have HO := n1_; have HB := n2_; have HD := Aside0.mk hbox; clear n0_ n1_ n2_ hb hbox hg; have hcz_0 : w6.cell? ⟨gd, 0, none⟩ = some (.int .i64 0) := (blk_cell HD.out 0).trans rfl; have hcz_1 : w6.cell? ⟨gd, 1, none⟩ = some (.int .i64 0) := (blk_cell HD.out 1).trans rfl; have hfz_0 := blk_frozen HD.out 0; have hfz_1 := blk_frozen HD.out 1)
                    | ((with_reducible refine gate_builtin (b := .append) (xs := #[.tmp 63, .tmp 65]) rfl ?_); (try (refine gate_guard (by rfl) ?_; dsimp only)); at_builtin; refine Kd.R_append k70 (w0 := w) w.heap.size rfl (.tmp 63) (.tmp 65) 28 70 (.agg #[(.int .i64 0), (.int .i64 0)]) 16 rfl Try.underlying28 info70 rfl (by decide) (by omega) u5 x5 (⟨ob, oa⟩ : S70) [.int .i64 ob, .int .i64 oa] (fun _ => True) (fun _ => False) rfl (by first | (go_simp; done) | (go_simp; rfl)) ?aP (fun _ hk => hk.elim) ?aF ?aO ?aB ?aS ?aL ?_; (case aP => exact k70_mkM _ _ _ (⟨ob, oa⟩ : S70)); (case aB => exact (below_set (below_set (below_set HB.out HGD.out (j := 0) (v := .int .i64 oc)) HGD.out (j := 1) (v := .int .i64 oa)) HGD.out (j := 0) (v := .int .i64 ob))); (case aF => exact fun _ _ => trivial); (case aO => exact (qd.outD (qd.outD (qd.outD HO.out HNE.out 0 (.int .i64 oc)) HNE.out 1 (.int .i64 oa)) HNE.out 0 (.int .i64 ob))); (case aS => exact below_size (below_set (below_set (below_set HB.out HGD.out (j := 0) (v := .int .i64 oc)) HGD.out (j := 1) (v := .int .i64 oa)) HGD.out (j := 0) (v := .int .i64 ob))); (case aL => have := LM.out; omega); intro v7 w7 ho hb hg hat; have n0_ := Aside0.mk ((((HAT.out.setD HD.out 0 (.int .i64 oc)).setD (blk_put (cs := #[.int .i64 0, .int .i64 0]) HD.out 0 _ rfl) 1 (.int .i64 oa)).setD (blk_put (cs := #[.int .i64 oc, .int .i64 0]) (blk_put (cs := #[.int .i64 0, .int .i64 0]) HD.out 0 _ rfl) 1 _ rfl) 0 (.int .i64 ob)).grown (qd.outD (qd.outD (qd.outD HO.out HNE.out 0 (.int .i64 oc)) HNE.out 1 (.int .i64 oa)) HNE.out 0 (.int .i64 ob)) hg); have n1_ := Aside0.mk (blk_grown (g := gd) (o := .cells #[.int .i64 ob, .int .i64 oa] 70 (0, 0)) (blk_put (cs := #[.int .i64 oc, .int .i64 oa]) (blk_put (cs := #[.int .i64 oc, .int .i64 0]) (blk_put (cs := #[.int .i64 0, .int .i64 0]) HD.out 0 _ rfl) 1 _ rfl) 0 _ rfl) hg HNE.out); clear HAT HO HB HD hcz_0 hcz_1 hfz_0 hfz_1; have HAT := n0_; have HO := Aside0.mk ho; have HB := Aside0.mk hb; have HD := n1_; clear n0_ n1_ ho hb hg hat; have hcz_0 : w7.cell? ⟨gd, 0, none⟩ = some (.int .i64 ob) := (blk_cell HD.out 0).trans rfl; have hcz_1 : w7.cell? ⟨gd, 1, none⟩ = some (.int .i64 oa) := (blk_cell HD.out 1).trans rfl; obtain ⟨A5, c5, hbk5, hge5, hr5⟩ := HAT.out; have hcell5 : w7.cell? ⟨gB, 0, none⟩ = some (.slice A5 y4.length c5) := (blk_cell hbk5 0).trans rfl; have HR5 := Aside0.mk (Kd.R_reads' hr5).2; have HGB := Aside0.mk hge5; clear hbk5 hr5 hge5)
                    | (go_at_call 91; (with_reducible refine (impl_doubled.calls _ _ y4 ob oa t6 _ ?side1 ?side2 A6.out).mono ?_); (case side1 => exact HR5.out.2); (case side2 => exact HR5.out.1); rintro e w8 ⟨v8, rfl, ho0, hb⟩; obtain ⟨A8, c8, rfl⟩ := Kd.R_slice ho0; have HN := Aside0.mk (Kd.R_lower ho0 (below_size HB.out)); have n0_ := Aside0.mk (HAT.out.below hb); have n1_ := Aside0.mk (Kd.R_below HO.out hb); have n2_ := Aside0.mk (below_step HB.out hb); have hcell8 := pw_cell_below hb hcell5; clear HAT HO HB HD hcz_0 hcz_1 hcell5; have HAT := n0_; have HO := n1_; have HB := n2_; clear n0_ n1_ n2_ hb ho0; have hfz8 : w8.frozen? ⟨gB, 0, none⟩ = false := by (obtain ⟨_, _, hbk8, _, _⟩ := HAT.out; exact blk_frozen hbk8 0)))
                  go_roundg k3
                  case measure => have := HK2.out; have := HK3.out; omega
                  case rel => exact ⟨t6, x5 ++ [(⟨ob, oa⟩ : S70)], (wrap64 (Int.tdiv y10 2)), (by first | rfl | (simp; done) | (simp [*]; done)), H', ⟨by have := HK2.out; have := HK3.out; omega⟩, ⟨HAT.out.put HN.out⟩, ⟨qd.outB HO.out HAT.out _⟩, ⟨below_set HB.out HGB.out⟩⟩
                · rw [if_neg c28] at H
                  have c28b0 : ((Int.tmod y10 2) == 1) = false := beq_eq_false_iff_ne.mpr c28
                  have c28b1 : ((Int.tmod y10 2) != 1) = true := bne_iff_ne.mpr c28
                  clear c28
                  by_cases c29 : x5.length < 8796093022208
                  case neg => rw [if_neg c29] at H; cases H
                  rw [if_pos c29] at H
                  obtain ⟨t6, e6, H⟩ := Option.bind_eq_some_iff.mp H
                  have A6 := Aside0.mk e6
                  have LM := Aside0.mk c29
                  have H' := Aside0.mk H
                  clear H e6 c29
                  go_wp2_with (first
                    | ((with_reducible refine gate_dst (N := 11) rfl ?_); refine box_event ?hg (N := 11) ?hd (cs := #[.int .i64 0, .int .i64 0]) (t := 70) ?hr ?_; (case hd => rfl); (case hg => rfl); (case hr => first | (go_simp; done) | (go_simp; rfl)); intro gd hg w6 hbox hb; have HNE := Aside0.mk ((fun he => by have := Kd.R_lt HO.out _ he.symm; omega) : some gd ≠ (u5 : Value).ownBlock); have HGD := Aside0.mk ((by rw [hg]; exact below_size HB.out) : w.heap.size ≤ gd); have n0_ := Aside0.mk (HAT.out.below hb); have n1_ := Aside0.mk (Kd.R_below HO.out hb); have n2_ := Aside0.mk (below_step HB.out hb); clear HAT HO HB; have HAT := n0_; have HO := n1_; have HB := n2_; have HD := Aside0.mk hbox; clear n0_ n1_ n2_ hb hbox hg; have hcz_0 : w6.cell? ⟨gd, 0, none⟩ = some (.int .i64 0) := (blk_cell HD.out 0).trans rfl; have hcz_1 : w6.cell? ⟨gd, 1, none⟩ = some (.int .i64 0) := (blk_cell HD.out 1).trans rfl; have hfz_0 := blk_frozen HD.out 0; have hfz_1 := blk_frozen HD.out 1)
                    | ((with_reducible refine gate_builtin (b := .append) (xs := #[.tmp 63, .tmp 65]) rfl ?_); (try (refine gate_guard (by rfl) ?_; dsimp only)); at_builtin; refine Kd.R_append k70 (w0 := w) w.heap.size rfl (.tmp 63) (.tmp 65) 28 70 (.agg #[(.int .i64 0), (.int .i64 0)]) 16 rfl Try.underlying28 info70 rfl (by decide) (by omega) u5 x5 (⟨oc, oa⟩ : S70) [.int .i64 oc, .int .i64 oa] (fun _ => True) (fun _ => False) rfl (by first | (go_simp; done) | (go_simp; rfl)) ?aP (fun _ hk => hk.elim) ?aF ?aO ?aB ?aS ?aL ?_; (case aP => exact k70_mkM _ _ _ (⟨oc, oa⟩ : S70)); (case aB => exact (below_set (below_set HB.out HGD.out (j := 0) (v := .int .i64 oc)) HGD.out (j := 1) (v := .int .i64 oa))); (case aF => exact fun _ _ => trivial); (case aO => exact (qd.outD (qd.outD HO.out HNE.out 0 (.int .i64 oc)) HNE.out 1 (.int .i64 oa))); (case aS => exact below_size (below_set (below_set HB.out HGD.out (j := 0) (v := .int .i64 oc)) HGD.out (j := 1) (v := .int .i64 oa))); (case aL => have := LM.out; omega); intro v7 w7 ho hb hg hat; have n0_ := Aside0.mk (((HAT.out.setD HD.out 0 (.int .i64 oc)).setD (blk_put (cs := #[.int .i64 0, .int .i64 0]) HD.out 0 _ rfl) 1 (.int .i64 oa)).grown (qd.outD (qd.outD HO.out HNE.out 0 (.int .i64 oc)) HNE.out 1 (.int .i64 oa)) hg); have n1_ := Aside0.mk (blk_grown (g := gd) (o := .cells #[.int .i64 oc, .int .i64 oa] 70 (0, 0)) (blk_put (cs := #[.int .i64 oc, .int .i64 0]) (blk_put (cs := #[.int .i64 0, .int .i64 0]) HD.out 0 _ rfl) 1 _ rfl) hg HNE.out); clear HAT HO HB HD hcz_0 hcz_1 hfz_0 hfz_1; have HAT := n0_; have HO := Aside0.mk ho; have HB := Aside0.mk hb; have HD := n1_; clear n0_ n1_ ho hb hg hat; have hcz_0 : w7.cell? ⟨gd, 0, none⟩ = some (.int .i64 oc) := (blk_cell HD.out 0).trans rfl; have hcz_1 : w7.cell? ⟨gd, 1, none⟩ = some (.int .i64 oa) := (blk_cell HD.out 1).trans rfl; obtain ⟨A5, c5, hbk5, hge5, hr5⟩ := HAT.out; have hcell5 : w7.cell? ⟨gB, 0, none⟩ = some (.slice A5 y4.length c5) := (blk_cell hbk5 0).trans rfl; have HR5 := Aside0.mk (Kd.R_reads' hr5).2; have HGB := Aside0.mk hge5; clear hbk5 hr5 hge5)
                    | (go_at_call 91; (with_reducible refine (impl_doubled.calls _ _ y4 oc oa t6 _ ?side1 ?side2 A6.out).mono ?_); (case side1 => exact HR5.out.2); (case side2 => exact HR5.out.1); rintro e w8 ⟨v8, rfl, ho0, hb⟩; obtain ⟨A8, c8, rfl⟩ := Kd.R_slice ho0; have HN := Aside0.mk (Kd.R_lower ho0 (below_size HB.out)); have n0_ := Aside0.mk (HAT.out.below hb); have n1_ := Aside0.mk (Kd.R_below HO.out hb); have n2_ := Aside0.mk (below_step HB.out hb); have hcell8 := pw_cell_below hb hcell5; clear HAT HO HB HD hcz_0 hcz_1 hcell5; have HAT := n0_; have HO := n1_; have HB := n2_; clear n0_ n1_ n2_ hb ho0; have hfz8 : w8.frozen? ⟨gB, 0, none⟩ = false := by (obtain ⟨_, _, hbk8, _, _⟩ := HAT.out; exact blk_frozen hbk8 0)))
                  go_roundg k3
                  case measure => have := HK2.out; have := HK3.out; omega
                  case rel => exact ⟨t6, x5 ++ [(⟨oc, oa⟩ : S70)], (wrap64 (Int.tdiv y10 2)), (by first | rfl | (simp; done) | (simp [*]; done)), H', ⟨by have := HK2.out; have := HK3.out; omega⟩, ⟨HAT.out.put HN.out⟩, ⟨qd.outB HO.out HAT.out _⟩, ⟨below_set HB.out HGB.out⟩⟩
              · rw [if_neg c27] at H
                have c27b0 : decide (0 < y10) = false := decide_eq_false c27
                clear c27
                have H' := Aside0.mk H
                clear H
                go_wp2
                repeat (go_quiet (fail); try go_wp2)
                go_roundg k3
                case measure => have := HK2.out; have := HK3.out; omega
                case rel => exact ⟨y4, x5, H', ⟨by have := HK2.out; have := HK3.out; omega⟩, HAT, HO, HB⟩

end Go.Proofs.Ytdhhphngabamoaa.PFnExactQuotientDoublings
