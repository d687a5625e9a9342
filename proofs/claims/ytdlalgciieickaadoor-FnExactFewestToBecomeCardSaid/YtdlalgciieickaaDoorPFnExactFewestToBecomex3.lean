-- Written by hprint.py (a program of this session's) over the kit's print.py. Lean checks it.
import Derived.Test.YtdlalgciieickaaDoorPFnExactFewestToBecomex0
import Derived.Test.YtdlalgciieickaaDoorPFnExactFewestToBecomex1
import Derived.Test.YtdlalgciieickaaDoorPFnExactFewestToBecomex2
namespace Go.Proofs.YtdlalgciieickaaDoor.PFnExactFewestToBecome
open Go.RowKit Go.Proofs.YtdlalgciieickaaDoorW.PrintWords Go.Proofs.YtdlalgciieickaaDoorW.PrintLast Go.Proofs.YtdlalgciieickaaDoorW.PrintMore
attribute [local go_sem] max2_int min2_int max_two min_two max_three min_three max_four min_four   -- for this text's walks alone
set_option linter.unusedVariables false
set_option linter.unusedSimpArgs false

/-! ### spec_dbFar: function 52 -/
mutual
def spec_dbFar.l0 : Nat → List Int → Int → Int → Int → Option ((List (List Int)) × List Int)
  | 0, _, _, _, _ => none
  | k + 1, x0, x4, x14, x15 => if x15 < x14 then (spec_dbFar.l0 k x0 (wrap64 (x4 * 41)) x14 (wrap64 (x15 + 1))) else (if 0 ≤ x4 then (if (x4 : Int).toNat ≤ 281474976710656 then ((some (List.replicate (x4 : Int).toNat false : List Bool)).bind fun y140 => ((spec_dbNumber.f k x0).bind fun t143 => (if 0 ≤ t143 then (if t143 < (y140.length : Int) then ((spec_l1Own.f x0).bind fun t145 => (spec_dbFar.l1 k (y140.set (t143 : Int).toNat true) (([t145] : List (List Int))) (([0] : List Int)) 0)) else (none)) else (none)))) else (none)) else (none))
def spec_dbFar.l1 : Nat → List Bool → List (List Int) → List Int → Int → Option ((List (List Int)) × List Int)
  | 0, _, _, _, _ => none
  | k + 1, x5, x6, x7, x8 => if x8 < (x6.length : Int) then (if 0 ≤ x8 then ((spec_dbAll.f k (rd_L2 x6 x8)).bind fun t155 => (spec_dbFar.l2 k x5 x6 x7 x8 t155 (t155.length : Int) 0)) else (none)) else (some (x6, x7))
def spec_dbFar.l2 : Nat → List Bool → List (List Int) → List Int → Int → List (S52) → Int → Int → Option ((List (List Int)) × List Int)
  | 0, _, _, _, _, _, _, _ => none
  | k + 1, x5, x6, x7, x8, x40, x41, x42 => if x42 < x41 then (if 0 ≤ x42 then (if x42 < (x40.length : Int) then (if 0 ≤ x8 then (if x8 < (x6.length : Int) then ((spec_dbMake.f (rd_L2 x6 x8) ((rd_T52 x40 x42).f0) ((rd_T52 x40 x42).f1)).bind fun t161 => ((spec_dbNumber.f k t161).bind fun t164 => (if 0 ≤ t164 then (if t164 < (x5.length : Int) then (if rdOf false x5 t164 = true then (spec_dbFar.l2 k x5 x6 x7 x8 x40 x41 (wrap64 (x42 + 1))) else (if x6.length < 5864062014805 then (if x8 < (x7.length : Int) then (if x7.length < 17592186044416 then (spec_dbFar.l2 k (x5.set (t164 : Int).toNat true) (x6 ++ [t161]) (x7 ++ [wrap64 ((rd x7 x8) + 1)]) x8 x40 x41 (wrap64 (x42 + 1))) else (none)) else (none)) else (none))) else (none)) else (none)))) else (none)) else (none)) else (none)) else (none)) else (spec_dbFar.l1 k x5 x6 x7 (wrap64 (x8 + 1)))
end
def spec_dbFar.f (k : Nat) (l0 : List Int) : Option ((List (List Int)) × List Int) := spec_dbFar.l0 k l0 1 (l0.length : Int) 0
theorem spec_dbFar.mono_l : ∀ k, (∀ y0 y1 y2 y3, LeO (spec_dbFar.l0 k y0 y1 y2 y3) (spec_dbFar.l0 (k + 1) y0 y1 y2 y3)) ∧ (∀ y0 y1 y2 y3, LeO (spec_dbFar.l1 k y0 y1 y2 y3) (spec_dbFar.l1 (k + 1) y0 y1 y2 y3)) ∧ (∀ y0 y1 y2 y3 y4 y5 y6, LeO (spec_dbFar.l2 k y0 y1 y2 y3 y4 y5 y6) (spec_dbFar.l2 (k + 1) y0 y1 y2 y3 y4 y5 y6))
  | 0 => ⟨fun _ _ _ _ r h => by simp [spec_dbFar.l0] at h, fun _ _ _ _ r h => by simp [spec_dbFar.l1] at h, fun _ _ _ _ _ _ _ r h => by simp [spec_dbFar.l2] at h⟩
  | k + 1 => by
    obtain ⟨ih0, ih1, ih2⟩ := spec_dbFar.mono_l k
    refine ⟨?_, ?_, ?_⟩
    · intro y0 y1 y2 y3
      unfold spec_dbFar.l0
      repeat' first
      | (with_reducible exact ih0 _ _ _ _)
      | (with_reducible exact ih1 _ _ _ _)
      | (with_reducible exact ih2 _ _ _ _ _ _ _)
      | (with_reducible exact spec_dbAll.mono _ _)
      | (with_reducible exact spec_dbNumber.mono _ _)
      | (with_reducible exact LeO.refl _)
      | (with_reducible exact LeO.none _)
      | (with_reducible refine LeO.ite ?_ ?_)
      | (with_reducible refine LeO.bind ?_ (fun _ => ?_))
      | exact ih0 _ _ _ _
      | exact ih1 _ _ _ _
      | exact ih2 _ _ _ _ _ _ _
      | exact spec_dbAll.mono _ _
      | exact spec_dbNumber.mono _ _
      | exact LeO.none _
      | refine LeO.ite ?_ ?_
      | refine LeO.bind ?_ (fun _ => ?_)
    · intro y0 y1 y2 y3
      unfold spec_dbFar.l1
      repeat' first
      | (with_reducible exact ih0 _ _ _ _)
      | (with_reducible exact ih1 _ _ _ _)
      | (with_reducible exact ih2 _ _ _ _ _ _ _)
      | (with_reducible exact spec_dbAll.mono _ _)
      | (with_reducible exact spec_dbNumber.mono _ _)
      | (with_reducible exact LeO.refl _)
      | (with_reducible exact LeO.none _)
      | (with_reducible refine LeO.ite ?_ ?_)
      | (with_reducible refine LeO.bind ?_ (fun _ => ?_))
      | exact ih0 _ _ _ _
      | exact ih1 _ _ _ _
      | exact ih2 _ _ _ _ _ _ _
      | exact spec_dbAll.mono _ _
      | exact spec_dbNumber.mono _ _
      | exact LeO.none _
      | refine LeO.ite ?_ ?_
      | refine LeO.bind ?_ (fun _ => ?_)
    · intro y0 y1 y2 y3 y4 y5 y6
      unfold spec_dbFar.l2
      repeat' first
      | (with_reducible exact ih0 _ _ _ _)
      | (with_reducible exact ih1 _ _ _ _)
      | (with_reducible exact ih2 _ _ _ _ _ _ _)
      | (with_reducible exact spec_dbAll.mono _ _)
      | (with_reducible exact spec_dbNumber.mono _ _)
      | (with_reducible exact LeO.refl _)
      | (with_reducible exact LeO.none _)
      | (with_reducible refine LeO.ite ?_ ?_)
      | (with_reducible refine LeO.bind ?_ (fun _ => ?_))
      | exact ih0 _ _ _ _
      | exact ih1 _ _ _ _
      | exact ih2 _ _ _ _ _ _ _
      | exact spec_dbAll.mono _ _
      | exact spec_dbNumber.mono _ _
      | exact LeO.none _
      | refine LeO.ite ?_ ?_
      | refine LeO.bind ?_ (fun _ => ?_)
theorem spec_dbFar.mono : ∀ a0 k, LeO (spec_dbFar.f k a0) (spec_dbFar.f (k + 1) a0) := by
  intro a0 k
  obtain ⟨ih0, ih1, ih2⟩ := spec_dbFar.mono_l k
  unfold spec_dbFar.f
  repeat' first
      | (with_reducible exact ih0 _ _ _ _)
      | (with_reducible exact ih1 _ _ _ _)
      | (with_reducible exact ih2 _ _ _ _ _ _ _)
      | (with_reducible exact spec_dbAll.mono _ _)
      | (with_reducible exact spec_dbNumber.mono _ _)
      | (with_reducible exact LeO.refl _)
      | (with_reducible exact LeO.none _)
      | (with_reducible refine LeO.ite ?_ ?_)
      | (with_reducible refine LeO.bind ?_ (fun _ => ?_))
      | exact ih0 _ _ _ _
      | exact ih1 _ _ _ _
      | exact ih2 _ _ _ _ _ _ _
      | exact spec_dbAll.mono _ _
      | exact spec_dbNumber.mono _ _
      | exact LeO.none _
      | refine LeO.ite ?_ ?_
      | refine LeO.bind ?_ (fun _ => ?_)
set_option maxHeartbeats 8000000 in
set_option maxRecDepth 100000 in
theorem spec_dbFar.calls (k : Nat) (A0 : Option Addr) (c0 : Nat) (l0 : List Int) (r1 : List (List Int)) (r2 : List Int) (w : World) (hr0 : Kd.C (Kd.int .i64) w A0 l0.length l0) (hc0 : l0.length ≤ c0) (h : spec_dbFar.f k l0 = some (r1, r2)) :
    Calls Tryd.prog 52 #[.slice A0 l0.length c0] w fun e w' => ∃ v0_ v1_ : Value, e = .returned (.tuple #[v0_, v1_]) ∧ Kd.N (Kd.slice 3 (Kd.int .i64)) 22 w' w.heap.size (fun k_ => (w.heap.size ≤ k_) ∧ some k_ ≠ (v1_ : Value).ownBlock) v0_ r1 ∧ Kd.R (Kd.int .i64) 3 w' w.heap.size (fun k_ => (w.heap.size ≤ k_)) v1_ r2 ∧ Below w.heap.size w w' := by
  have hu52 := Tryd.underlying52
  have HR0 := Aside0.mk hr0
  have HC0 := Aside0.mk hc0
  clear hr0 hc0
  have HB := Aside0.mk (Below.refl w.heap.size w)
  have H : (spec_dbFar.l0 k l0 1 (l0.length : Int) 0) = some (r1, r2) := h
  clear h
  have H' := Aside0.mk H
  clear H
  go_enter Tryd.func52, Tryd.ntmps52
  go_wp2
  go_loopg [4, 15] k (fun kq v4 v15 w' => ∃ (x4_1 : Int) (x15_1 : Int), v4 = .int .i64 x4_1 ∧ v15 = .int .i64 x15_1 ∧ Aside0 (spec_dbFar.l0 kq l0 x4_1 (l0.length : Int) x15_1 = some (r1, r2)) ∧ Aside0 (kq ≤ k) ∧ Aside0 (Below w.heap.size w w'))
  case atStart => exact ⟨(1), (0), (by first | rfl | (simp; done) | (simp [*]; done)), (by first | rfl | (simp; done) | (simp [*]; done)), H', ⟨Nat.le_refl _⟩, ⟨by repeat (first | (with_reducible first | exact HB.out | apply below_alloc | apply pw_below_drewN | apply below_drew1) | exact HB.out)⟩⟩
  case round =>
    clear H'
    obtain ⟨x4_1, x15_1, rfl, rfl, HA, HK1, HB⟩ := hrel
    cases gk with
    | zero => exact absurd HA.out (by simp [spec_dbFar.l0])
    | succ k1 =>
      have H := HA.out
      clear HA
      simp only [spec_dbFar.l0] at H
      by_cases c2 : x15_1 < (l0.length : Int)
      · rw [if_pos c2] at H
        have c2b0 : decide (x15_1 < (l0.length : Int)) = true := decide_eq_true c2
        clear c2
        have H' := Aside0.mk H
        clear H
        go_wp2
        go_roundg k1
        case measure => have := HK1.out; omega
        case rel => exact ⟨(wrap64 (x4_1 * 41)), (wrap64 (x15_1 + 1)), (by first | rfl | (simp; done) | (simp [*]; done)), (by first | rfl | (simp; done) | (simp [*]; done)), H', ⟨by have := HK1.out; omega⟩, ⟨by repeat (first | (with_reducible first | exact HB.out | apply below_alloc | apply pw_below_drewN | apply below_drew1) | exact HB.out)⟩⟩
      · rw [if_neg c2] at H
        have c2b0 : decide (x15_1 < (l0.length : Int)) = false := decide_eq_false c2
        clear c2
        by_cases c3 : 0 ≤ x4_1
        · rw [if_pos c3] at H
          have c3b0 := eq_true c3
          have c3b1 : decide (0 ≤ x4_1) = true := decide_eq_true c3
          clear c3
          by_cases c4 : (x4_1 : Int).toNat ≤ 281474976710656
          · rw [if_pos c4] at H
            have c4b0 := eq_true c4
            have c4b1 : decide ((x4_1 : Int).toNat ≤ 281474976710656) = true := decide_eq_true c4
            clear c4
            obtain ⟨y140, hy140⟩ : ∃ y_ : List Bool, y_ = (List.replicate (x4_1 : Int).toNat false) := ⟨_, rfl⟩
            replace H : ((spec_dbNumber.f k1 l0).bind fun t143 => (if 0 ≤ t143 then (if t143 < (y140.length : Int) then ((spec_l1Own.f l0).bind fun t145 => (spec_dbFar.l1 k1 (y140.set (t143 : Int).toNat true) (([t145] : List (List Int))) (([0] : List Int)) 0)) else (none)) else (none))) = some (r1, r2) := by first | (rw [hy140]; with_reducible exact H) | (have H2_ := (Option.bind_some _ _).symm.trans H; rw [hy140]; with_reducible exact H2_) | (have H2_ := (Option.bind_some _ _).symm.trans H; with_reducible exact H2_) | with_reducible exact H | (rw [hy140]; exact H) | exact H
            have Ny140 := Aside0.mk hy140
            clear hy140
            replace H := Option.bind_eq_some_iff.mp H
            obtain ⟨t143, A50, H⟩ := H
            replace H : (if 0 ≤ t143 then (if t143 < (y140.length : Int) then ((spec_l1Own.f l0).bind fun t145 => (spec_dbFar.l1 k1 (y140.set (t143 : Int).toNat true) (([t145] : List (List Int))) (([0] : List Int)) 0)) else (none)) else (none)) = some (r1, r2) := H
            have A5 := Aside0.mk A50
            clear A50
            by_cases c6 : 0 ≤ t143
            · rw [if_pos c6] at H
              have c6b0 : decide (0 ≤ t143) = true := decide_eq_true c6
              clear c6
              by_cases c7 : t143 < (y140.length : Int)
              · rw [if_pos c7] at H
                have c7b0 : decide (t143 < (y140.length : Int)) = true := decide_eq_true c7
                clear c7
                obtain ⟨y144, hy144⟩ : ∃ y_ : List Bool, y_ = (y140.set (t143 : Int).toNat true) := ⟨_, rfl⟩
                replace H : ((spec_l1Own.f l0).bind fun t145 => (spec_dbFar.l1 k1 y144 (([t145] : List (List Int))) (([0] : List Int)) 0)) = some (r1, r2) := by first | (rw [hy144]; with_reducible exact H) | (have H2_ := (Option.bind_some _ _).symm.trans H; rw [hy144]; with_reducible exact H2_) | (have H2_ := (Option.bind_some _ _).symm.trans H; with_reducible exact H2_) | with_reducible exact H | (rw [hy144]; exact H) | exact H
                have Ny144 := Aside0.mk hy144
                clear hy144
                replace H := Option.bind_eq_some_iff.mp H
                obtain ⟨t145, A90, H⟩ := H
                replace H : (spec_dbFar.l1 k1 y144 (([t145] : List (List Int))) (([0] : List Int)) 0) = some (r1, r2) := H
                have A9 := Aside0.mk A90
                clear A90
                obtain ⟨y148, hy148⟩ : ∃ y_ : List (List Int), y_ = (([t145] : List (List Int))) := ⟨_, rfl⟩
                replace H : (spec_dbFar.l1 k1 y144 y148 (([0] : List Int)) 0) = some (r1, r2) := by first | (rw [hy148]; with_reducible exact H) | (have H2_ := (Option.bind_some _ _).symm.trans H; rw [hy148]; with_reducible exact H2_) | (have H2_ := (Option.bind_some _ _).symm.trans H; with_reducible exact H2_) | with_reducible exact H | (rw [hy148]; exact H) | exact H
                have Ny148 := Aside0.mk hy148
                clear hy148
                obtain ⟨y151, hy151⟩ : ∃ y_ : List Int, y_ = (([0] : List Int)) := ⟨_, rfl⟩
                replace H : (spec_dbFar.l1 k1 y144 y148 y151 0) = some (r1, r2) := by first | (rw [hy151]; with_reducible exact H) | (have H2_ := (Option.bind_some _ _).symm.trans H; rw [hy151]; with_reducible exact H2_) | (have H2_ := (Option.bind_some _ _).symm.trans H; with_reducible exact H2_) | with_reducible exact H | (rw [hy151]; exact H) | exact H
                have Ny151 := Aside0.mk hy151
                clear hy151
                have H' := Aside0.mk H
                clear H
                go_wp2_with (first | ((with_reducible refine gate_dst (N := 21) rfl ?_); refine Kd.R_make Kd.bool _ 4 rfl (N := 21) rfl 87 _ _ rfl x4_1 rfl rfl Tryd.underlying87 (.bool false) 1 info4 rfl (by decide) (by omega) false (ok := fun _ => True) (okp := fun _ => True) rfl (fun _ hk => hk) trivial (of_decide_eq_true (by first | (with_reducible assumption) | assumption)) (Nat.le_trans (Nat.mul_le_mul_right _ (of_decide_eq_true (by first | (with_reducible assumption) | assumption) : x4_1.toNat ≤ 281474976710656)) (by omega)) (Below.refl _ _) (Nat.le_refl _) ?_; intro v141 w10 ho11 hb hg_ hnew_; clear hg_ hnew_; (first | rw [← Ny140.out] at ho11 | (simp only [Int.reduceToNat] at ho11; rw [← Ny140.out] at ho11)); have n0_ := Aside0.mk (Kd.R_lower (Kd.R_newM (M := fun k_ => (w.heap.size ≤ k_)) ho11 (below_size (by repeat (first | (with_reducible first | exact HB.out | apply below_alloc | apply pw_below_drewN | apply below_drew1) | exact HB.out))) (fun k_ h_ => h_)) (below_size (by repeat (first | (with_reducible first | exact HB.out | apply below_alloc | apply pw_below_drewN | apply below_drew1) | exact HB.out)))); have n1_ := Aside0.mk (below_step (by repeat (first | (with_reducible first | exact HB.out | apply below_alloc | apply pw_below_drewN | apply below_drew1) | exact HB.out)) hb); clear HB; have HO142 := n0_; have HB := n1_; clear n0_ n1_; clear hb ho11) | ((with_reducible refine gate_callee (f := 80) rfl ?_); refine goesL_ (some 24) rfl rfl Tryd.func80 (by kernel_rfl) rfl #[.slice A0 l0.length c0] rfl (by (try simp only [List.map_toArray, List.map_cons, List.map_nil]); first | done | rfl | (simp only [List.length_drop, List.length_take]; rfl)) ?_; (with_reducible refine (spec_dbNumber.calls k1 _ _ l0 t143 _ ?side1 ?side2 A5.out).mono ?_); (case side1 => repeat (first | exact (Kd.C_below HR0.out HB.out) | (with_reducible refine Kd.C_alloc ?_ _) | (with_reducible refine Kd.C_drewN ?_ _) | (with_reducible refine Kd.C_drew ?_))); (case side2 => exact HC0.out); rintro e w' ⟨rfl, ⟨nd, rfl⟩⟩; refine ⟨_, rfl, ?_⟩; (try ((repeat (rw [World.drewN_drewN])); rw [drewN_self w10]; generalize hq_ : World.drewN w10 _ = w10; have n0_ := Aside0.mk (Kd.R_at hq_ HO142.out); have n1_ := Aside0.mk (below_at hq_ HB.out); clear hq_ HO142 HB; have HO142 := n0_; have HB := n1_; clear n0_ n1_)); have p8 : 0 ≤ (t143 : Int) := of_decide_eq_true (by first | (with_reducible assumption) | assumption); have q8 : (t143 : Int) < ((y140.length : Int) : Int) := of_decide_eq_true (by first | (with_reducible assumption) | assumption); obtain ⟨go8, co8, eo8, gb8, gl8, cl8, HG8⟩ := Kd.R_form HO142.out (by omega); (first | cases eo8 | (injection eo8 with ea_ en_ ec_; (first | subst ea_ | (injection ea_ with ea_; subst ea_)); subst ec_; clear en_)); have GB8 := Aside0.mk gb8; have GG8 := Aside0.mk HG8; clear gb8 gl8 HG8; obtain ⟨hx8_0, hf8_0⟩ := Kd.R_celln false HO142.out (t143 : Int) p8 q8; replace p8 := eq_true p8; replace q8 := eq_true q8; have n_ := Aside0.mk (Kd.R_mono (ok' := (fun k_ => (w.heap.size ≤ k_))) HO142.out (by first | exact fun k_ hk => hk.1 | exact fun k_ hk => hk)); clear HO142; have HO142 := n_; clear n_; obtain ⟨hy12_, hz12_⟩ := Kd.R_celln false HO142.out (t143 : Int) (of_decide_eq_true (by first | (with_reducible assumption) | assumption)) (of_decide_eq_true (by first | (with_reducible assumption) | assumption)); have HP12 := Kd.R_putg HO142.out (t143 : Int) true) | ((with_reducible refine gate_store (t := 4) (p := 25) rfl ?_); refine store_event (t := 4) (p := 25) (v := ?vo_w13) (w1 := (w10.setCell ⟨go8, (t143 : Int).toNat, none⟩ (.bool true))) ?hg ?ho ?hn ?hr ?_; (case ho => rfl); (case hg => rfl); (case hn => rfl); (case hr => first | (go_simp; done) | (go_simp; rfl)); intro w13 hw; have hg : w10.grownBy w13 (some go8) := (by rw [hw]; exact HP12.2); have hp_ : Kd.R Kd.bool 4 w13 w.heap.size (fun k_ => (w.heap.size ≤ k_)) (.slice (some ⟨go8, 0, none⟩) y140.length co8) y144 := (by rw [hw, Ny144.out]; exact HP12.1); clear HP12; have n0_ := Aside0.mk (hp_); have n1_ := Aside0.mk ((by rw [hw]; exact below_set (HB.out) GB8.out : Below w.heap.size w w13)); clear HO142; clear HB; have HO142 := n0_; have HB := n1_; clear n0_ n1_; clear hg hw hp_) | ((with_reducible refine gate_callee (f := 61) rfl ?_); refine goesL_ (some 27) rfl rfl Tryd.func61 (by kernel_rfl) rfl #[.slice A0 l0.length c0] rfl (by (try simp only [List.map_toArray, List.map_cons, List.map_nil]); first | done | rfl | (simp only [List.length_drop, List.length_take]; rfl)) ?_; (with_reducible refine (spec_l1Own.calls _ _ l0 t145 _ ?side1 ?side2 A9.out).mono ?_); (case side1 => repeat (first | exact (Kd.C_below HR0.out HB.out) | (with_reducible refine Kd.C_alloc ?_ _) | (with_reducible refine Kd.C_drewN ?_ _) | (with_reducible refine Kd.C_drew ?_))); (case side2 => exact HC0.out); rintro e w14 ⟨v146, rfl, ho0, hb⟩; refine ⟨_, rfl, ?_⟩; have n0_ := Aside0.mk (Kd.R_below (by (with_reducible repeat (first | apply Kd.R_alloc | apply Kd.R_drewN | apply Kd.R_drew)); exact HO142.out) hb); have n1_ := Aside0.mk (Kd.R_lower (Kd.R_newM (M := fun k_ => (w.heap.size ≤ k_)) ho0 (below_size (by repeat (first | (with_reducible first | exact HB.out | apply below_alloc | apply pw_below_drewN | apply below_drew1) | exact HB.out))) (fun k_ h_ => h_)) (below_size (by repeat (first | (with_reducible first | exact HB.out | apply below_alloc | apply pw_below_drewN | apply below_drew1) | exact HB.out)))); have n2_ := Aside0.mk (below_step (by repeat (first | (with_reducible first | exact HB.out | apply below_alloc | apply pw_below_drewN | apply below_drew1) | exact HB.out)) hb); clear HO142; clear HB; have HO142 := n0_; have HO147 := n1_; have HB := n2_; clear n0_ n1_ n2_; (try clear hb); (try clear hb2); (try clear hk); (try clear hi); (try clear ho0); obtain ⟨Ao15, co15, eo15⟩ := Kd.R_slice HO147.out; subst eo15) | ((with_reducible refine gate_dst (N := 28) rfl ?_); refine Kd.N_lit (Kd.slice 3 (Kd.int .i64)) _ 22 ?hg (N' := 28) ?hd (xs := ([t145] : List (List Int))) (inner := [.slice Ao15 t145.length co15]) (ok := (fun k_ => (w.heap.size ≤ k_) ∧ some k_ ≠ (.slice (some ⟨go8, 0, none⟩) y140.length co8 : Value).ownBlock)) (okp := (fun k_ => (w.heap.size ≤ k_) ∧ some k_ ≠ (.slice (some ⟨go8, 0, none⟩) y140.length co8 : Value).ownBlock)) ?hr ?hp (fun _ hk => hk) ((show ∀ k_, w14.heap.size ≤ k_ → (fun k_ => (w.heap.size ≤ k_) ∧ some k_ ≠ (.slice (some ⟨go8, 0, none⟩) y140.length co8 : Value).ownBlock) k_ from fun k_ hk => ⟨(Nat.le_trans (below_size (by repeat (first | (with_reducible first | exact HB.out | apply below_alloc | apply pw_below_drewN | apply below_drew1) | exact HB.out))) hk), Kd.fresh' (Kd.R_lt (by (with_reducible repeat (first | apply Kd.R_alloc | apply Kd.R_drewN | apply Kd.R_drew)); exact HO142.out)) k_ hk⟩) _ (Nat.le_refl _)) (Below.refl _ _) (Nat.le_refl _) (by simp) ?_; (case hd => rfl); (case hg => rfl); (case hr => first | (go_simp; done) | (go_simp; rfl)); (case hp => exact (Reps.one (show Kd.FK (Kd.slice 3 (Kd.int .i64)) _ _ t145 [.slice Ao15 t145.length co15] from (Kd.FK_slice_mk (Kd.R_reads' (Kd.R_mono (ok' := (fun k_ => (w.heap.size ≤ k_) ∧ some k_ ≠ (.slice (some ⟨go8, 0, none⟩) y140.length co8 : Value).ownBlock)) (Kd.R_apart' (HO147.out) (Kd.R_typed HO142.out) (by decide)) (fun k_ hk => ⟨hk.1.1, hk.2⟩))).2.1 (Kd.R_F (Kd.R_mono (ok' := (fun k_ => (w.heap.size ≤ k_) ∧ some k_ ≠ (.slice (some ⟨go8, 0, none⟩) y140.length co8 : Value).ownBlock)) (Kd.R_apart' (HO147.out) (Kd.R_typed HO142.out) (by decide)) (fun k_ hk => ⟨hk.1.1, hk.2⟩))))) (Reps.none _ _))); intro v149 w16 ho17 hb hg_ hnew_; clear hg_ hnew_; (first | rw [← Ny148.out] at ho17 | (simp only [Int.reduceToNat] at ho17; rw [← Ny148.out] at ho17)); have n0_ := Aside0.mk (Kd.R_below (by (with_reducible repeat (first | apply Kd.R_alloc | apply Kd.R_drewN | apply Kd.R_drew)); exact HO142.out) hb); have n1_ := Aside0.mk (Kd.N_lower ho17 (below_size (by repeat (first | (with_reducible first | exact HB.out | apply below_alloc | apply pw_below_drewN | apply below_drew1) | exact HB.out)))); have n2_ := Aside0.mk (below_step (by repeat (first | (with_reducible first | exact HB.out | apply below_alloc | apply pw_below_drewN | apply below_drew1) | exact HB.out)) hb); clear HO142; clear HB; clear HO147; have HO142 := n0_; have HO150 := n1_; have HB := n2_; clear n0_ n1_ n2_; clear hb ho17) | ((with_reducible refine gate_dst (N := 29) rfl ?_); refine Kd.R_lit (Kd.int .i64) _ 3 ?hg (N := 29) ?hd (xs := ([0] : List Int)) (inner := [.int .i64 0]) (ok := fun _ => True) (okp := fun _ => True) ?hr ?hp (fun _ hk => hk) trivial (Below.refl _ _) (Nat.le_refl _) (by simp) ?_; (case hd => rfl); (case hg => rfl); (case hr => first | (go_simp; done) | (go_simp; rfl)); (case hp => exact (Reps.one (show Kd.M (Kd.int .i64) _ _ _ 0 [.int .i64 0] from rfl) (Reps.none _ _))); intro v152 w18 ho19 hb hg_ hnew_; clear hg_ hnew_; (first | rw [← Ny151.out] at ho19 | (simp only [Int.reduceToNat] at ho19; rw [← Ny151.out] at ho19)); have n0_ := Aside0.mk (Kd.R_below (by (with_reducible repeat (first | apply Kd.R_alloc | apply Kd.R_drewN | apply Kd.R_drew)); exact HO142.out) hb); have n1_ := Aside0.mk (Kd.N_elder' (by (with_reducible repeat (first | apply Kd.N_alloc | apply Kd.N_drewN | apply Kd.N_drew)); exact HO150.out) (Kd.R_base ho19) hb); have n2_ := Aside0.mk (Kd.R_lower (Kd.R_newM (M := fun k_ => (w.heap.size ≤ k_)) ho19 (below_size (by repeat (first | (with_reducible first | exact HB.out | apply below_alloc | apply pw_below_drewN | apply below_drew1) | exact HB.out))) (fun k_ h_ => h_)) (below_size (by repeat (first | (with_reducible first | exact HB.out | apply below_alloc | apply pw_below_drewN | apply below_drew1) | exact HB.out)))); have n3_ := Aside0.mk (below_step (by repeat (first | (with_reducible first | exact HB.out | apply below_alloc | apply pw_below_drewN | apply below_drew1) | exact HB.out)) hb); clear HO142; clear HO150; clear HB; have HO142 := n0_; have HO150 := n1_; have HO153 := n2_; have HB := n3_; clear n0_ n1_ n2_ n3_; clear hb ho19))
                go_loopg [6, 7, 8] k1 (fun kq v6 v7 v8 w' => ∃ (x5_2 : List Bool) (x6_2 : List (List Int)) (x7_2 : List Int) (x8_2 : Int), v8 = .int .i64 x8_2 ∧ Aside0 (spec_dbFar.l1 kq x5_2 x6_2 x7_2 x8_2 = some (r1, r2)) ∧ Aside0 (kq ≤ k1) ∧ Aside0 (Kd.R Kd.bool 4 w' w.heap.size (fun k_ => (w.heap.size ≤ k_)) (.slice (some ⟨go8, 0, none⟩) y140.length co8) x5_2) ∧ Aside0 (Kd.N (Kd.slice 3 (Kd.int .i64)) 22 w' w.heap.size (fun k_ => (w.heap.size ≤ k_) ∧ some k_ ≠ ((.slice (some ⟨go8, 0, none⟩) y140.length co8) : Value).ownBlock ∧ some k_ ≠ (v7 : Value).ownBlock) v6 x6_2) ∧ Aside0 (Kd.R (Kd.int .i64) 3 w' w.heap.size (fun k_ => (w.heap.size ≤ k_)) v7 x7_2) ∧ Aside0 (Below w.heap.size w w'))
                case atStart => exact ⟨(y144), (y148), (y151), (0), (by first | rfl | (simp; done) | (simp [*]; done)), H', ⟨Nat.le_refl _⟩, ⟨by (with_reducible repeat (first | apply Kd.R_alloc | apply Kd.R_drewN | apply Kd.R_drew)); exact HO142.out⟩, ⟨by (with_reducible repeat (first | apply Kd.N_alloc | apply Kd.N_drewN | apply Kd.N_drew)); exact Kd.N_mono HO150.out (fun _ hk => ⟨hk.1.1, ⟨hk.1.2, hk.2⟩⟩)⟩, ⟨by (with_reducible repeat (first | apply Kd.R_alloc | apply Kd.R_drewN | apply Kd.R_drew)); exact Kd.R_mono HO153.out (fun _ hk => hk.1)⟩, ⟨by repeat (first | (with_reducible first | exact HB.out | apply below_alloc | apply pw_below_drewN | apply below_drew1) | exact HB.out)⟩⟩
                case round =>
                  clear H'
                  try clear c2
                  try clear c2b0
                  try clear p2
                  try clear c3
                  try clear c3b0
                  try clear c3b1
                  try clear c4
                  try clear c4b0
                  try clear c4b1
                  try clear c5
                  try clear c6
                  try clear c6b0
                  try clear p6
                  try clear c7
                  try clear c7b0
                  try clear c8
                  try clear p8
                  try clear q8
                  try clear hx8
                  try clear hf8
                  try clear hx8_0
                  try clear p8
                  try clear q8
                  obtain ⟨x5_2, x6_2, x7_2, x8_2, rfl, HA, HK2, HO_5, HO_6, HO_7, HB⟩ := hrel
                  have hl5_2 := (Kd.R_reads' HO_5.out).1
                  rw [hl5_2] at HO_5
                  (try simp only [hl5_2])
                  (try simp only [hl5_2] at HO_6)
                  (try simp only [hl5_2] at HO_7)
                  cases gk with
                  | zero => exact absurd HA.out (by simp [spec_dbFar.l1])
                  | succ k2 =>
                    have H := HA.out
                    clear HA
                    simp only [spec_dbFar.l1] at H
                    by_cases c20 : x8_2 < (x6_2.length : Int)
                    · rw [if_pos c20] at H
                      have c20b0 : decide (x8_2 < (x6_2.length : Int)) = true := decide_eq_true c20
                      (try simp only [hl5_2] at c20b0)
                      clear c20
                      by_cases c21 : 0 ≤ x8_2
                      · rw [if_pos c21] at H
                        have c21b0 : decide (0 ≤ x8_2) = true := decide_eq_true c21
                        clear c21
                        replace H := Option.bind_eq_some_iff.mp H
                        obtain ⟨t155, A220, H⟩ := H
                        replace H : (spec_dbFar.l2 k2 x5_2 x6_2 x7_2 x8_2 t155 (t155.length : Int) 0) = some (r1, r2) := H
                        have A22 := Aside0.mk A220
                        clear A220
                        have H' := Aside0.mk H
                        clear H
                        obtain ⟨Ao23, co23, eo23⟩ := Kd.N_slice HO_6.out
                        subst eo23
                        have p154 : 0 ≤ (x8_2 : Int) := of_decide_eq_true (by first | (with_reducible assumption) | assumption)
                        have q154 : x8_2 < (x6_2.length : Int) := of_decide_eq_true (by first | (with_reducible assumption) | assumption)
                        obtain ⟨ad154, A154_0, c154_0, e154, hx154_0, hl154_0, hi154_0⟩ := at_L2 (Kd.N_reads' HO_6.out).2.2 x8_2 p154 q154
                        cases e154
                        obtain ⟨ce154, hce154, hMe154, hcc154⟩ := Kd.N_get HO_6.out [] x8_2 p154 (by first | exact q154 | exact of_decide_eq_true (by first | (with_reducible assumption) | assumption) | (have e_ := (Kd.N_reads' HO_6.out).1; omega))
                        obtain ⟨ua154_0, uc154_0, rfl, ul154_0, ge154_0⟩ := Kd.FK_slice_open hMe154
                        have hv154_0 := hcc154 0 _ rfl
                        rw [Nat.add_zero, show ((Kd.slice 3 (Kd.int .i64))).sz = 1 from rfl, Nat.mul_one] at hv154_0
                        replace hv154_0 := Option.some.inj (hv154_0.symm.trans hx154_0)
                        injection hv154_0 with hva_ hvn_ hvc_
                        rw [hva_] at ge154_0
                        rw [hvc_] at ul154_0
                        have HL154_0 := Aside0.mk (show Kd.V (Kd.int .i64) 3 _ w.heap.size _ _ (rd_L2 x6_2 x8_2) from Kd.V_mk ul154_0 ge154_0)
                        clear hva_ hvn_ hvc_ ge154_0 ul154_0
                        clear hcc154 hce154
                        have HR154_0 := Aside0.mk hi154_0
                        have HC154_0 := Aside0.mk hl154_0
                        clear hi154_0 hl154_0
                        replace p154 := eq_true p154
                        replace q154 := eq_true q154
                        go_wp2_with (first | ((with_reducible refine gate_callee (f := 62) rfl ?_); refine goesL_ (some 40) rfl rfl Tryd.func62 (by kernel_rfl) rfl #[.slice A154_0 (rd_L2 x6_2 x8_2).length c154_0] rfl (by (try simp only [List.map_toArray, List.map_cons, List.map_nil]); first | done | rfl | (simp only [List.length_drop, List.length_take]; rfl)) ?_; (with_reducible refine (spec_dbAll.calls k2 _ _ (rd_L2 x6_2 x8_2) t155 _ ?side1 ?side2 A22.out).mono ?_); (case side1 => repeat (first | exact (by repeat (first | (with_reducible exact HR154_0.out) | (with_reducible refine Kd.C_alloc ?_ _) | (with_reducible refine Kd.C_drewN ?_ _) | (with_reducible refine Kd.C_drew ?_) | exact HR154_0.out)) | (with_reducible refine Kd.C_alloc ?_ _) | (with_reducible refine Kd.C_drewN ?_ _) | (with_reducible refine Kd.C_drew ?_))); (case side2 => exact HC154_0.out); rintro e w24 ⟨v156, rfl, ho0, hb⟩; refine ⟨_, rfl, ?_⟩; have n0_ := Aside0.mk (Kd.R_below (by (with_reducible repeat (first | apply Kd.R_alloc | apply Kd.R_drewN | apply Kd.R_drew)); exact HO_5.out) hb); have n1_ := Aside0.mk (Kd.N_elder' (by (with_reducible repeat (first | apply Kd.N_alloc | apply Kd.N_drewN | apply Kd.N_drew)); exact HO_6.out) (Kd.R_base ho0) hb); have n2_ := Aside0.mk (Kd.R_below (by (with_reducible repeat (first | apply Kd.R_alloc | apply Kd.R_drewN | apply Kd.R_drew)); exact HO_7.out) hb); have n3_ := Aside0.mk (Kd.V_elder' (by (with_reducible repeat (first | apply Kd.V_alloc | apply Kd.V_drewN | apply Kd.V_drew)); exact HL154_0.out) (Kd.R_base ho0) hb); have n4_ := Aside0.mk (Kd.R_lower (Kd.R_newM (M := fun k_ => (w.heap.size ≤ k_)) ho0 (below_size (by repeat (first | (with_reducible first | exact HB.out | apply below_alloc | apply pw_below_drewN | apply below_drew1) | exact HB.out))) (fun k_ h_ => h_)) (below_size (by repeat (first | (with_reducible first | exact HB.out | apply below_alloc | apply pw_below_drewN | apply below_drew1) | exact HB.out)))); have n5_ := Aside0.mk (Kd.C_below (by repeat (first | (with_reducible exact HR154_0.out) | (with_reducible refine Kd.C_alloc ?_ _) | (with_reducible refine Kd.C_drewN ?_ _) | (with_reducible refine Kd.C_drew ?_) | exact HR154_0.out)) hb); have n6_ := Aside0.mk (below_step (by repeat (first | (with_reducible first | exact HB.out | apply below_alloc | apply pw_below_drewN | apply below_drew1) | exact HB.out)) hb); clear HO_5; clear HO_6; clear HO_7; clear HL154_0; clear HR154_0; clear HB; have HO_5 := n0_; have HO_6 := n1_; have HO_7 := n2_; have HL154_0 := n3_; have HO157 := n4_; have HR154_0 := n5_; have HB := n6_; clear n0_ n1_ n2_ n3_ n4_ n5_ n6_; (try clear hb); (try clear hb2); (try clear hk); (try clear hi); (try clear ho0); obtain ⟨Ao25, co25, eo25⟩ := Kd.R_slice HO157.out; subst eo25))
                        go_loopg [6, 7, 42] k2 (fun kq v6 v7 v42 w' => ∃ (x5_3 : List Bool) (x6_3 : List (List Int)) (x7_3 : List Int) (x42_3 : Int), v42 = .int .i64 x42_3 ∧ Aside0 (spec_dbFar.l2 kq x5_3 x6_3 x7_3 x8_2 t155 (t155.length : Int) x42_3 = some (r1, r2)) ∧ Aside0 (kq ≤ k2) ∧ Aside0 (Kd.R Kd.bool 4 w' w.heap.size (fun k_ => (w.heap.size ≤ k_)) (.slice (some ⟨go8, 0, none⟩) x5_2.length co8) x5_3) ∧ Aside0 (Kd.N (Kd.slice 3 (Kd.int .i64)) 22 w' w.heap.size (fun k_ => (w.heap.size ≤ k_) ∧ some k_ ≠ ((.slice (some ⟨go8, 0, none⟩) x5_2.length co8) : Value).ownBlock ∧ some k_ ≠ (v7 : Value).ownBlock ∧ some k_ ≠ ((.slice Ao25 t155.length co25) : Value).ownBlock) v6 x6_3) ∧ Aside0 (Kd.R (Kd.int .i64) 3 w' w.heap.size (fun k_ => (w.heap.size ≤ k_)) v7 x7_3) ∧ Aside0 (Kd.R k52 52 w' w.heap.size (fun k_ => (w.heap.size ≤ k_)) (.slice Ao25 t155.length co25) t155) ∧ Aside0 (Below w.heap.size w w'))
                        case atStart => exact ⟨(x5_2), (x6_2), (x7_2), (0), (by first | rfl | (simp; done) | (simp [*]; done)), H', ⟨Nat.le_refl _⟩, ⟨by (try simp only [hl5_2]); (with_reducible repeat (first | apply Kd.R_alloc | apply Kd.R_drewN | apply Kd.R_drew)); exact HO_5.out⟩, ⟨by (try simp only [hl5_2]); (with_reducible repeat (first | apply Kd.N_alloc | apply Kd.N_drewN | apply Kd.N_drew)); exact Kd.N_mono HO_6.out (fun _ hk => ⟨hk.1.1, ⟨hk.1.2.1, ⟨hk.1.2.2, hk.2⟩⟩⟩)⟩, ⟨by (try simp only [hl5_2]); (with_reducible repeat (first | apply Kd.R_alloc | apply Kd.R_drewN | apply Kd.R_drew)); exact HO_7.out⟩, ⟨by (try simp only [hl5_2]); (with_reducible repeat (first | apply Kd.R_alloc | apply Kd.R_drewN | apply Kd.R_drew)); exact Kd.R_mono HO157.out (fun _ hk => hk.1)⟩, ⟨by repeat (first | (with_reducible first | exact HB.out | apply below_alloc | apply pw_below_drewN | apply below_drew1) | exact HB.out)⟩⟩
                        case round =>
                          clear H'
                          try clear c1
                          try clear p1
                          try clear q1
                          try clear hx1
                          try clear c2
                          try clear c2b0
                          try clear p2
                          try clear c3
                          try clear c3b0
                          try clear c3b1
                          try clear c4
                          try clear c4b0
                          try clear c4b1
                          try clear c5
                          try clear c6
                          try clear c6b0
                          try clear p6
                          try clear c7
                          try clear c7b0
                          try clear c8
                          try clear p8
                          try clear q8
                          try clear hx8
                          try clear hf8
                          try clear c15
                          try clear p15
                          try clear q15
                          try clear hx15
                          try clear c20
                          try clear c20b0
                          try clear c21
                          try clear c21b0
                          try clear hx154_0
                          try clear hx8_0
                          try clear p154
                          try clear p2
                          try clear p6
                          try clear p8
                          try clear q154
                          try clear q8
                          obtain ⟨x5_3, x6_3, x7_3, x42_3, rfl, HA, HK3, HO_5, HO_6, HO_7, HO_40, HB⟩ := hrel
                          have hl5_3 := (Kd.R_reads' HO_5.out).1
                          rw [hl5_3] at HO_5
                          (try simp only [hl5_3])
                          (try simp only [hl5_3] at HO_6)
                          (try simp only [hl5_3] at HO_7)
                          (try simp only [hl5_3] at HO_40)
                          cases gk with
                          | zero => exact absurd HA.out (by simp [spec_dbFar.l2])
                          | succ k3 =>
                            have H := HA.out
                            clear HA
                            simp only [spec_dbFar.l2] at H
                            by_cases c26 : x42_3 < (t155.length : Int)
                            · rw [if_pos c26] at H
                              have c26b0 : decide (x42_3 < (t155.length : Int)) = true := decide_eq_true c26
                              (try simp only [hl5_2] at c26b0)
                              (try simp only [hl5_3] at c26b0)
                              clear c26
                              by_cases c27 : 0 ≤ x42_3
                              · rw [if_pos c27] at H
                                have c27b0 : decide (0 ≤ x42_3) = true := decide_eq_true c27
                                clear c27
                                by_cases c28 : x42_3 < (t155.length : Int)
                                · rw [if_pos c28] at H
                                  have c28b0 : decide (x42_3 < (t155.length : Int)) = true := decide_eq_true c28
                                  (try simp only [hl5_2] at c28b0)
                                  (try simp only [hl5_3] at c28b0)
                                  clear c28
                                  by_cases c29 : 0 ≤ x8_2
                                  · rw [if_pos c29] at H
                                    have c29b0 : decide (0 ≤ x8_2) = true := decide_eq_true c29
                                    clear c29
                                    by_cases c30 : x8_2 < (x6_3.length : Int)
                                    · rw [if_pos c30] at H
                                      have c30b0 : decide (x8_2 < (x6_3.length : Int)) = true := decide_eq_true c30
                                      (try simp only [hl5_2] at c30b0)
                                      (try simp only [hl5_3] at c30b0)
                                      clear c30
                                      replace H := Option.bind_eq_some_iff.mp H
                                      obtain ⟨t161, A310, H⟩ := H
                                      replace H : ((spec_dbNumber.f k3 t161).bind fun t164 => (if 0 ≤ t164 then (if t164 < (x5_3.length : Int) then (if rdOf false x5_3 t164 = true then (spec_dbFar.l2 k3 x5_3 x6_3 x7_3 x8_2 t155 (t155.length : Int) (wrap64 (x42_3 + 1))) else (if x6_3.length < 5864062014805 then (if x8_2 < (x7_3.length : Int) then (if x7_3.length < 17592186044416 then (spec_dbFar.l2 k3 (x5_3.set (t164 : Int).toNat true) (x6_3 ++ [t161]) (x7_3 ++ [wrap64 ((rd x7_3 x8_2) + 1)]) x8_2 t155 (t155.length : Int) (wrap64 (x42_3 + 1))) else (none)) else (none)) else (none))) else (none)) else (none))) = some (r1, r2) := H
                                      have A31 := Aside0.mk A310
                                      clear A310
                                      replace H := Option.bind_eq_some_iff.mp H
                                      obtain ⟨t164, A320, H⟩ := H
                                      replace H : (if 0 ≤ t164 then (if t164 < (x5_3.length : Int) then (if rdOf false x5_3 t164 = true then (spec_dbFar.l2 k3 x5_3 x6_3 x7_3 x8_2 t155 (t155.length : Int) (wrap64 (x42_3 + 1))) else (if x6_3.length < 5864062014805 then (if x8_2 < (x7_3.length : Int) then (if x7_3.length < 17592186044416 then (spec_dbFar.l2 k3 (x5_3.set (t164 : Int).toNat true) (x6_3 ++ [t161]) (x7_3 ++ [wrap64 ((rd x7_3 x8_2) + 1)]) x8_2 t155 (t155.length : Int) (wrap64 (x42_3 + 1))) else (none)) else (none)) else (none))) else (none)) else (none)) = some (r1, r2) := H
                                      have A32 := Aside0.mk A320
                                      clear A320
                                      by_cases c33 : 0 ≤ t164
                                      · rw [if_pos c33] at H
                                        have c33b0 : decide (0 ≤ t164) = true := decide_eq_true c33
                                        clear c33
                                        by_cases c34 : t164 < (x5_3.length : Int)
                                        · rw [if_pos c34] at H
                                          have c34b0 : decide (t164 < (x5_3.length : Int)) = true := decide_eq_true c34
                                          (try simp only [hl5_2] at c34b0)
                                          (try simp only [hl5_3] at c34b0)
                                          clear c34
                                          obtain ⟨bq35, hbq35⟩ : ∃ b_ : Bool, b_ = (rdOf false x5_3 t164) := ⟨_, rfl⟩
                                          replace H : (if bq35 = true then (spec_dbFar.l2 k3 x5_3 x6_3 x7_3 x8_2 t155 (t155.length : Int) (wrap64 (x42_3 + 1))) else (if x6_3.length < 5864062014805 then (if x8_2 < (x7_3.length : Int) then (if x7_3.length < 17592186044416 then (spec_dbFar.l2 k3 (x5_3.set (t164 : Int).toNat true) (x6_3 ++ [t161]) (x7_3 ++ [wrap64 ((rd x7_3 x8_2) + 1)]) x8_2 t155 (t155.length : Int) (wrap64 (x42_3 + 1))) else (none)) else (none)) else (none))) = some (r1, r2) := by rw [← hbq35] at H; exact H
                                          have Nbq35 := Aside0.mk hbq35
                                          clear hbq35
                                          by_cases c36 : bq35 = true
                                          · subst c36
                                            have H1 : (spec_dbFar.l2 k3 x5_3 x6_3 x7_3 x8_2 t155 (t155.length : Int) (wrap64 (x42_3 + 1))) = some (r1, r2) := by rw [if_pos rfl] at H; exact H
                                            clear H
                                            have H := H1
                                            clear H1
                                            have H' := Aside0.mk H
                                            clear H
                                            have p158 : 0 ≤ (x42_3 : Int) := of_decide_eq_true (by first | (with_reducible assumption) | assumption)
                                            have q158 : x42_3 < (t155.length : Int) := of_decide_eq_true (by first | (with_reducible assumption) | assumption)
                                            obtain ⟨ad158, e158, hx158_0, hx158_1⟩ := at_T52 (Kd.R_reads' HO_40.out).2.2 x42_3 p158 q158
                                            cases e158
                                            replace p158 := eq_true p158
                                            replace q158 := eq_true q158
                                            try go_wp2_with (first | ((with_reducible refine gate_dst (N := 10) rfl ?_); refine box_event ?hg (N := 10) ?hd (cs := #[.int .i64 0, .int .i64 0]) (t := 52) ?hr ?_; (case hd => rfl); (case hg => rfl); (case hr => first | (go_simp; done) | (go_simp; rfl)); intro gb159 hg w37 hbox hb; have n0_ := Aside0.mk (Kd.R_below (by (with_reducible repeat (first | apply Kd.R_alloc | apply Kd.R_drewN | apply Kd.R_drew)); exact HO_5.out) hb); have n1_ := Aside0.mk (Kd.N_below (Kd.N_elderB (by (with_reducible repeat (first | apply Kd.N_alloc | apply Kd.N_drewN | apply Kd.N_drew)); exact HO_6.out) gb159 (Nat.le_of_eq hg.symm)) hb); have n2_ := Aside0.mk (Kd.R_below (by (with_reducible repeat (first | apply Kd.R_alloc | apply Kd.R_drewN | apply Kd.R_drew)); exact HO_7.out) hb); have n3_ := Aside0.mk (Kd.R_below (Kd.R_elderB (by (with_reducible repeat (first | apply Kd.R_alloc | apply Kd.R_drewN | apply Kd.R_drew)); exact HO_40.out) gb159 (Nat.le_of_eq hg.symm)) hb); have n4_ := Aside0.mk (below_step (by repeat (first | (with_reducible first | exact HB.out | apply below_alloc | apply pw_below_drewN | apply below_drew1) | exact HB.out)) hb); have n5_ := Aside0.mk (hbox); have n6_ := Aside0.mk ((by rw [hg]; exact (below_size (by repeat (first | (with_reducible first | exact HB.out | apply below_alloc | apply pw_below_drewN | apply below_drew1) | exact HB.out))) : w.heap.size ≤ gb159)); have n7_ := Aside0.mk ((by rw [hg]; exact (below_size (by repeat (first | (with_reducible first | exact HB.out | apply below_alloc | apply pw_below_drewN | apply below_drew1) | exact HB.out))) : w.heap.size ≤ gb159)); clear HO_5; clear HO_6; clear HO_7; clear HO_40; clear HB; have HO_5 := n0_; have HO_6 := n1_; have HO_7 := n2_; have HO_40 := n3_; have HB := n4_; have BK159 := n5_; have GW159 := n6_; have GE159 := n7_; clear n0_ n1_ n2_ n3_ n4_ n5_ n6_ n7_; clear hb hbox hg; have hcz38_0 : w37.cell? ⟨gb159, 0, none⟩ = some (.int .i64 0) := (blk_cell BK159.out 0).trans rfl; have hcz38_1 : w37.cell? ⟨gb159, 1, none⟩ = some (.int .i64 0) := (blk_cell BK159.out 1).trans rfl; have hfz38_0 := blk_frozen BK159.out 0; have hfz38_1 := blk_frozen BK159.out 1))
                                            have n0_ : Aside0 (Kd.R Kd.bool 4 ((w37.setCell ⟨gb159, 0, none⟩ (.int .i64 ((rd_T52 t155 x42_3).f0))).setCell ⟨gb159, 1, none⟩ (.int .i64 ((rd_T52 t155 x42_3).f1))) w.heap.size (fun k_ => (w.heap.size ≤ k_)) (.slice (some ⟨go8, 0, none⟩) x5_3.length co8) x5_3) := ⟨by (with_reducible repeat (first | apply Kd.R_alloc | apply Kd.R_drewN | apply Kd.R_drew)); exact Kd.R_mono (Kd.R_far (p := ⟨gb159, 1, none⟩) (Kd.R_far (p := ⟨gb159, 0, none⟩) (Kd.R_types HO_5.out BK159.out (by decide)) (fun _ hk => hk.2) (.int .i64 ((rd_T52 t155 x42_3).f0))) (fun _ hk => hk.2) (.int .i64 ((rd_T52 t155 x42_3).f1))) (fun _ hk => hk.1)⟩
                                            have n1_ : Aside0 (Kd.N (Kd.slice 3 (Kd.int .i64)) 22 ((w37.setCell ⟨gb159, 0, none⟩ (.int .i64 ((rd_T52 t155 x42_3).f0))).setCell ⟨gb159, 1, none⟩ (.int .i64 ((rd_T52 t155 x42_3).f1))) w.heap.size (fun k_ => (w.heap.size ≤ k_) ∧ some k_ ≠ (.slice (some ⟨go8, 0, none⟩) x5_3.length co8 : Value).ownBlock ∧ some k_ ≠ (u7 : Value).ownBlock ∧ some k_ ≠ (.slice (some ad158) t155.length co25 : Value).ownBlock ∧ k_ ≠ gb159) u6 x6_3) := ⟨by (with_reducible repeat (first | apply Kd.N_alloc | apply Kd.N_drewN | apply Kd.N_drew)); exact Kd.N_mono (Kd.N_far (p := ⟨gb159, 1, none⟩) (Kd.N_far (p := ⟨gb159, 0, none⟩) (Kd.N_mono HO_6.out (fun k_ hk => (⟨hk, hk.2⟩ : _ ∧ k_ ≠ gb159))) (fun _ hk => hk.2) (.int .i64 ((rd_T52 t155 x42_3).f0))) (fun _ hk => hk.2) (.int .i64 ((rd_T52 t155 x42_3).f1))) (fun _ hk => ⟨hk.1.1.1, ⟨hk.1.1.2.1, ⟨hk.1.1.2.2.1, ⟨hk.1.1.2.2.2, hk.1.2⟩⟩⟩⟩)⟩
                                            have n2_ : Aside0 (Kd.R (Kd.int .i64) 3 ((w37.setCell ⟨gb159, 0, none⟩ (.int .i64 ((rd_T52 t155 x42_3).f0))).setCell ⟨gb159, 1, none⟩ (.int .i64 ((rd_T52 t155 x42_3).f1))) w.heap.size (fun k_ => (w.heap.size ≤ k_)) u7 x7_3) := ⟨by (with_reducible repeat (first | apply Kd.R_alloc | apply Kd.R_drewN | apply Kd.R_drew)); exact Kd.R_mono (Kd.R_far (p := ⟨gb159, 1, none⟩) (Kd.R_far (p := ⟨gb159, 0, none⟩) (Kd.R_types HO_7.out BK159.out (by decide)) (fun _ hk => hk.2) (.int .i64 ((rd_T52 t155 x42_3).f0))) (fun _ hk => hk.2) (.int .i64 ((rd_T52 t155 x42_3).f1))) (fun _ hk => hk.1)⟩
                                            have n3_ : Aside0 (Kd.R k52 52 ((w37.setCell ⟨gb159, 0, none⟩ (.int .i64 ((rd_T52 t155 x42_3).f0))).setCell ⟨gb159, 1, none⟩ (.int .i64 ((rd_T52 t155 x42_3).f1))) w.heap.size (fun k_ => (w.heap.size ≤ k_) ∧ k_ ≠ gb159) (.slice (some ad158) t155.length co25) t155) := ⟨by (with_reducible repeat (first | apply Kd.R_alloc | apply Kd.R_drewN | apply Kd.R_drew)); exact Kd.R_mono (Kd.R_far (p := ⟨gb159, 1, none⟩) (Kd.R_far (p := ⟨gb159, 0, none⟩) (Kd.R_mono HO_40.out (fun k_ hk => (⟨hk, hk.2⟩ : _ ∧ k_ ≠ gb159))) (fun _ hk => hk.2) (.int .i64 ((rd_T52 t155 x42_3).f0))) (fun _ hk => hk.2) (.int .i64 ((rd_T52 t155 x42_3).f1))) (fun _ hk => ⟨hk.1.1, hk.1.2⟩)⟩
                                            have n4_ : Aside0 (((w37.setCell ⟨gb159, 0, none⟩ (.int .i64 ((rd_T52 t155 x42_3).f0))).setCell ⟨gb159, 1, none⟩ (.int .i64 ((rd_T52 t155 x42_3).f1))).heap[gb159]? = some (.cells #[.int .i64 ((rd_T52 t155 x42_3).f0), .int .i64 ((rd_T52 t155 x42_3).f1)] 52 (0, 0))) := ⟨by (with_reducible repeat (first | refine blk_drewN ?_ _ | refine blk_drew ?_ | refine blk_alloc ?_ _)); refine blk_put (cs := #[.int .i64 ((rd_T52 t155 x42_3).f0), .int .i64 0]) ?_ 1 _ rfl; (with_reducible repeat (first | refine blk_drewN ?_ _ | refine blk_drew ?_ | refine blk_alloc ?_ _)); refine blk_put (cs := #[.int .i64 0, .int .i64 0]) ?_ 0 _ rfl; (with_reducible repeat (first | refine blk_drewN ?_ _ | refine blk_drew ?_ | refine blk_alloc ?_ _)); exact BK159.out⟩
                                            have n5_ : Aside0 (Below w.heap.size w ((w37.setCell ⟨gb159, 0, none⟩ (.int .i64 ((rd_T52 t155 x42_3).f0))).setCell ⟨gb159, 1, none⟩ (.int .i64 ((rd_T52 t155 x42_3).f1)))) := ⟨by repeat (first | (with_reducible first | exact HB.out | apply below_alloc | apply pw_below_drewN | apply below_drew1 | refine below_set ?_ GE159.out) | exact HB.out)⟩
                                            (try clear HO_5)
                                            (try clear HO_6)
                                            (try clear HO_7)
                                            (try clear HO_40)
                                            (try clear BK159)
                                            (try clear HB)
                                            generalize ((w37.setCell ⟨gb159, 0, none⟩ (.int .i64 ((rd_T52 t155 x42_3).f0))).setCell ⟨gb159, 1, none⟩ (.int .i64 ((rd_T52 t155 x42_3).f1))) = w39 at n0_ n1_ n2_ n3_ n4_ n5_ ⊢
                                            have HO_5 := n0_
                                            have HO_6 := n1_
                                            have HO_7 := n2_
                                            have HO_40 := n3_
                                            have BK159 := n4_
                                            have HB := n5_
                                            clear n0_ n1_ n2_ n3_ n4_ n5_
                                            have n0_ := Aside0.mk (Kd.R_drew HO_5.out)
                                            have n1_ := Aside0.mk (Kd.N_drew HO_6.out)
                                            have n2_ := Aside0.mk (Kd.R_drew HO_7.out)
                                            have n3_ := Aside0.mk (Kd.R_drew HO_40.out)
                                            have n4_ := Aside0.mk (blk_drew BK159.out)
                                            have n5_ := Aside0.mk (below_drew1 HB.out)
                                            clear HO_5
                                            clear HO_6
                                            clear HO_7
                                            clear HO_40
                                            clear BK159
                                            clear HB
                                            have HO_5 := n0_
                                            have HO_6 := n1_
                                            have HO_7 := n2_
                                            have HO_40 := n3_
                                            have BK159 := n4_
                                            have HB := n5_
                                            clear n0_ n1_ n2_ n3_ n4_ n5_
                                            obtain ⟨Ao41, co41, eo41⟩ := Kd.N_slice HO_6.out
                                            (first | subst eo41 | (injection eo41 with f1_ f2_ f3_; have f4_ := f1_.symm; have f5_ := f3_.symm; clear f1_ f2_ f3_; subst f4_; subst f5_))
                                            have p160 : 0 ≤ (x8_2 : Int) := of_decide_eq_true (by first | (with_reducible assumption) | assumption)
                                            have q160 : x8_2 < (x6_3.length : Int) := of_decide_eq_true (by first | (with_reducible assumption) | assumption)
                                            obtain ⟨ad160, A160_0, c160_0, e160, hx160_0, hl160_0, hi160_0⟩ := at_L2 (Kd.N_reads' HO_6.out).2.2 x8_2 p160 q160
                                            cases e160
                                            obtain ⟨ce160, hce160, hMe160, hcc160⟩ := Kd.N_get HO_6.out [] x8_2 p160 (by first | exact q160 | exact of_decide_eq_true (by first | (with_reducible assumption) | assumption) | (have e_ := (Kd.N_reads' HO_6.out).1; omega))
                                            obtain ⟨ua160_0, uc160_0, rfl, ul160_0, ge160_0⟩ := Kd.FK_slice_open hMe160
                                            have hv160_0 := hcc160 0 _ rfl
                                            rw [Nat.add_zero, show ((Kd.slice 3 (Kd.int .i64))).sz = 1 from rfl, Nat.mul_one] at hv160_0
                                            replace hv160_0 := Option.some.inj (hv160_0.symm.trans hx160_0)
                                            injection hv160_0 with hva_ hvn_ hvc_
                                            rw [hva_] at ge160_0
                                            rw [hvc_] at ul160_0
                                            have HL160_0 := Aside0.mk (show Kd.V (Kd.int .i64) 3 _ w.heap.size _ _ (rd_L2 x6_3 x8_2) from Kd.V_mk ul160_0 ge160_0)
                                            clear hva_ hvn_ hvc_ ge160_0 ul160_0
                                            clear hcc160 hce160
                                            have HR160_0 := Aside0.mk hi160_0
                                            have HC160_0 := Aside0.mk hl160_0
                                            clear hi160_0 hl160_0
                                            replace p160 := eq_true p160
                                            replace q160 := eq_true q160
                                            refine start_ (n := 7) (S := fun w' => w'.cell? ⟨gb159, 0, none⟩ = some (.int .i64 ((rd_T52 t155 x42_3).f0)) ∧ w'.cell? ⟨gb159, 1, none⟩ = some (.int .i64 ((rd_T52 t155 x42_3).f1)) ∧ w'.cell? (ad160.add (x8_2).toNat) = some (.slice A160_0 (rd_L2 x6_3 x8_2).length c160_0)) (ds := []) #[false, false, false, false, false, false, false] (by kernel_rfl) rfl rfl ⟨(blk_cell BK159.out 0).trans rfl, (blk_cell BK159.out 1).trans rfl, hx160_0⟩ (fun hHeld => ?_)
                                            generalize w39.drew = w40 at HO_5 HO_6 HO_7 HO_40 BK159 HB HL160_0 HR160_0 hx160_0 hHeld ⊢
                                            refine pure_ (i := 0) (N := some 46) (v := ?_) (a' := ?_) #[true, false, false, false, false, false, false] rfl rfl (by kernel_rfl) (fun _ _ _ h => h) (Or.inl ⟨by rfl, ?_⟩) ?_ ?_
                                            rotate_left
                                            · intro w'
                                              go_simp
                                              with_reducible rfl
                                            rotate_left
                                            · simp only [Act.put, List.setIfInBounds_toArray, List.set_cons_zero, List.set_cons_succ, i64_w, i32_w]
                                              rfl
                                            refine pure_ (i := 1) (N := some 47) (v := ?_) (a' := ?_) #[true, true, false, false, false, false, false] rfl rfl (by kernel_rfl) (fun _ _ _ h => h) (Or.inl ⟨by rfl, ?_⟩) ?_ ?_
                                            rotate_left
                                            · intro w'
                                              go_simp
                                              with_reducible rfl
                                            rotate_left
                                            · simp only [Act.put, List.setIfInBounds_toArray, List.set_cons_zero, List.set_cons_succ, i64_w, i32_w]
                                              rfl
                                            refine pure_ (i := 2) (N := some 48) (v := ?_) (a' := ?_) #[true, true, true, false, false, false, false] rfl rfl (by kernel_rfl) (fun _ _ _ h => h) (Or.inl ⟨by rfl, ?_⟩) ?_ ?_
                                            rotate_left
                                            · intro w'
                                              go_simp
                                              with_reducible rfl
                                            rotate_left
                                            · simp only [Act.put, List.setIfInBounds_toArray, List.set_cons_zero, List.set_cons_succ, i64_w, i32_w]
                                              rfl
                                            refine take_ (i := 3) (N := some 49) (v := ?_) (a' := ?_) #[true, true, true, true, false, false, false] rfl rfl (by kernel_rfl) (fun _ _ _ h => h) (Or.inl ⟨by rfl, ?_⟩) hHeld ?_ ?_
                                            rotate_left
                                            · rintro w' ⟨s0, s1, s2⟩
                                              go_simp
                                              with_reducible rfl
                                            rotate_left
                                            · simp only [Act.put, List.setIfInBounds_toArray, List.set_cons_zero, List.set_cons_succ, i64_w, i32_w]
                                              rfl
                                            refine take_ (i := 4) (N := some 50) (v := ?_) (a' := ?_) #[true, true, true, true, true, false, false] rfl rfl (by kernel_rfl) (fun _ _ _ h => h) (Or.inl ⟨by rfl, ?_⟩) hHeld ?_ ?_
                                            rotate_left
                                            · rintro w' ⟨s0, s1, s2⟩
                                              go_simp
                                              with_reducible rfl
                                            rotate_left
                                            · simp only [Act.put, List.setIfInBounds_toArray, List.set_cons_zero, List.set_cons_succ, i64_w, i32_w]
                                              rfl
                                            refine one_ (i := 5) (N := some 51) #[true, true, true, true, true, true, false] rfl rfl (by kernel_rfl) (by decide) (fun K hK => ?_)
                                            refine goes_ Tryd.func63 (by kernel_rfl) rfl #[.slice A160_0 (rd_L2 x6_3 x8_2).length c160_0, .agg #[.int .i64 ((rd_T52 t155 x42_3).f0), .int .i64 ((rd_T52 t155 x42_3).f1)]] (by rfl) rfl rfl (by (try simp only [List.map_toArray, List.map_cons, List.map_nil]); first | done | rfl | (simp only [List.length_drop, List.length_take]; rfl)) ?_
                                            with_reducible refine (spec_dbMake.calls _ _ (rd_L2 x6_3 x8_2) ((rd_T52 t155 x42_3).f0) ((rd_T52 t155 x42_3).f1) t161 _ ?side1 ?side2 A31.out).mono ?_
                                            (case side1 => repeat (first | exact (by repeat (first | (with_reducible exact HR160_0.out) | (with_reducible refine Kd.C_alloc ?_ _) | (with_reducible refine Kd.C_drewN ?_ _) | (with_reducible refine Kd.C_drew ?_) | exact HR160_0.out)) | (with_reducible refine Kd.C_alloc ?_ _) | (with_reducible refine Kd.C_drewN ?_ _) | (with_reducible refine Kd.C_drew ?_)))
                                            (case side2 => exact HC160_0.out)
                                            rintro e w42 ⟨v162, rfl, ho0, hb⟩
                                            have HS2_ := (hb.cell (World.block_lt_of_cell? _ _ (hHeld.2.2))).trans (hHeld.2.2)
                                            refine ⟨_, rfl, ?_⟩
                                            have n0_ := Aside0.mk (Kd.R_below (by (with_reducible repeat (first | apply Kd.R_alloc | apply Kd.R_drewN | apply Kd.R_drew)); exact HO_5.out) hb)
                                            have n1_ := Aside0.mk (Kd.N_elder' (by (with_reducible repeat (first | apply Kd.N_alloc | apply Kd.N_drewN | apply Kd.N_drew)); exact HO_6.out) (Kd.R_base ho0) hb)
                                            have n2_ := Aside0.mk (Kd.R_elder' (by (with_reducible repeat (first | apply Kd.R_alloc | apply Kd.R_drewN | apply Kd.R_drew)); exact HO_7.out) (Kd.R_base ho0) hb)
                                            have n3_ := Aside0.mk (Kd.R_below (by (with_reducible repeat (first | apply Kd.R_alloc | apply Kd.R_drewN | apply Kd.R_drew)); exact HO_40.out) hb)
                                            have n4_ := Aside0.mk (Kd.V_elder' (by (with_reducible repeat (first | apply Kd.V_alloc | apply Kd.V_drewN | apply Kd.V_drew)); exact HL160_0.out) (Kd.R_base ho0) hb)
                                            have n5_ := Aside0.mk (Kd.R_lower (Kd.R_new' (Kd.R_newM (M := fun k_ => (w.heap.size ≤ k_)) ho0 (below_size (by repeat (first | (with_reducible first | exact HB.out | apply below_alloc | apply pw_below_drewN | apply below_drew1 | refine below_set ?_ GE159.out) | exact HB.out))) (fun k_ h_ => h_)) (Kd.R_lt (by (with_reducible repeat (first | apply Kd.R_alloc | apply Kd.R_drewN | apply Kd.R_drew)); exact HO_7.out))) (below_size (by repeat (first | (with_reducible first | exact HB.out | apply below_alloc | apply pw_below_drewN | apply below_drew1 | refine below_set ?_ GE159.out) | exact HB.out))))
                                            have n6_ := Aside0.mk (blk_below (g := gb159) (o := .cells #[.int .i64 ((rd_T52 t155 x42_3).f0), .int .i64 ((rd_T52 t155 x42_3).f1)] 52 (0, 0)) (by (with_reducible repeat (first | refine blk_drewN ?_ _ | refine blk_drew ?_ | refine blk_alloc ?_ _)); exact BK159.out) hb)
                                            have n7_ := Aside0.mk (Kd.C_below (by repeat (first | (with_reducible exact HR160_0.out) | (with_reducible refine Kd.C_alloc ?_ _) | (with_reducible refine Kd.C_drewN ?_ _) | (with_reducible refine Kd.C_drew ?_) | exact HR160_0.out)) hb)
                                            have n8_ := Aside0.mk (below_step (by repeat (first | (with_reducible first | exact HB.out | apply below_alloc | apply pw_below_drewN | apply below_drew1 | refine below_set ?_ GE159.out) | exact HB.out)) hb)
                                            clear HO_5
                                            clear HO_6
                                            clear HO_7
                                            clear HO_40
                                            clear HL160_0
                                            clear BK159
                                            clear HR160_0
                                            clear HB
                                            have HO_5 := n0_
                                            have HO_6 := n1_
                                            have HO_7 := n2_
                                            have HO_40 := n3_
                                            have HL160_0 := n4_
                                            have HO163 := n5_
                                            have BK159 := n6_
                                            have HR160_0 := n7_
                                            have HB := n8_
                                            clear n0_ n1_ n2_ n3_ n4_ n5_ n6_ n7_ n8_
                                            (try clear hb)
                                            (try clear hb2)
                                            (try clear hk)
                                            (try clear hi)
                                            (try clear ho0)
                                            refine hK.out _ _ ⟨(blk_cell BK159.out 0).trans rfl, (blk_cell BK159.out 1).trans rfl, HS2_⟩ (fun hHeld => ?_)
                                            clear hK K
                                            refine norm_ (a' := ?_) ?_ ?_
                                            rotate_left
                                            · show Act.put _ (some 51) _ = _
                                              simp only [Act.put, List.setIfInBounds_toArray, List.set_cons_zero, List.set_cons_succ, i64_w, i32_w]
                                              rfl
                                            refine pure_ (i := 6) (N := some 11) (v := ?_) (a' := ?_) #[true, true, true, true, true, true, true] rfl rfl (by kernel_rfl) (fun _ _ _ h => h) (Or.inl ⟨by rfl, ?_⟩) ?_ ?_
                                            rotate_left
                                            · intro w'
                                              go_simp
                                              with_reducible rfl
                                            rotate_left
                                            · simp only [Act.put, List.setIfInBounds_toArray, List.set_cons_zero, List.set_cons_succ, i64_w, i32_w]
                                              rfl
                                            refine done_ (by kernel_rfl) ?_
                                            obtain ⟨Ao43, co43, eo43⟩ := Kd.R_slice HO163.out
                                            subst eo43
                                            try go_wp2_with (first | ((with_reducible refine gate_callee (f := 80) rfl ?_); refine goesL_ (some 53) rfl rfl Tryd.func80 (by kernel_rfl) rfl #[.slice Ao43 t161.length co43] rfl (by (try simp only [List.map_toArray, List.map_cons, List.map_nil]); first | done | rfl | (simp only [List.length_drop, List.length_take]; rfl)) ?_; (with_reducible refine (spec_dbNumber.calls k3 _ _ t161 t164 _ ?side1 ?side2 A32.out).mono ?_); (case side1 => repeat (first | exact (Kd.R_reads' HO163.out).2.2 | (with_reducible refine Kd.C_alloc ?_ _) | (with_reducible refine Kd.C_drewN ?_ _) | (with_reducible refine Kd.C_drew ?_))); (case side2 => exact (Kd.R_reads' HO163.out).2.1); rintro e w' ⟨rfl, ⟨nd, rfl⟩⟩; refine ⟨_, rfl, ?_⟩; have p165 : 0 ≤ (t164 : Int) := of_decide_eq_true (by first | (with_reducible assumption) | assumption); have q165 : t164 < (x5_3.length : Int) := of_decide_eq_true (by first | (with_reducible assumption) | assumption); obtain ⟨ad165, e165, hx165_0⟩ := Kd.at_bool (Kd.R_reads' HO_5.out).2.2 t164 p165 q165; (try rw [← Nbq35.out] at hx165_0); obtain rfl : (⟨go8, 0, none⟩ : Addr) = ad165 := (by injection e165); (first | simp only [add_plain] at hx165_0 | simp only [add_at] at hx165_0 | simp only [Addr.add, Nat.zero_add] at hx165_0 | skip); replace p165 := eq_true p165; replace q165 := eq_true q165))
                                            (try simp only [← hl5_3])
                                            go_roundg k3
                                            case measure => have := HK1.out; have := HK2.out; have := HK3.out; omega
                                            case rel => exact ⟨(x5_3), (x6_3), (x7_3), (wrap64 (x42_3 + 1)), (by first | rfl | (simp; done) | (simp [*]; done)), H', ⟨by have := HK1.out; have := HK2.out; have := HK3.out; omega⟩, ⟨by (try simp only [hl5_2]); (try simp only [hl5_3]); (with_reducible repeat (first | apply Kd.R_alloc | apply Kd.R_drewN | apply Kd.R_drew)); exact HO_5.out⟩, ⟨by (try simp only [hl5_2]); (try simp only [hl5_3]); (with_reducible repeat (first | apply Kd.N_alloc | apply Kd.N_drewN | apply Kd.N_drew)); exact Kd.N_mono HO_6.out (fun _ hk => ⟨hk.1.1, ⟨hk.1.2.1, ⟨hk.1.2.2.1, hk.1.2.2.2.1⟩⟩⟩)⟩, ⟨by (try simp only [hl5_2]); (try simp only [hl5_3]); (with_reducible repeat (first | apply Kd.R_alloc | apply Kd.R_drewN | apply Kd.R_drew)); exact Kd.R_mono HO_7.out (fun _ hk => hk.1)⟩, ⟨by (try simp only [hl5_2]); (try simp only [hl5_3]); (with_reducible repeat (first | apply Kd.R_alloc | apply Kd.R_drewN | apply Kd.R_drew)); exact Kd.R_mono HO_40.out (fun _ hk => hk.1)⟩, ⟨by repeat (first | (with_reducible first | exact HB.out | apply below_alloc | apply pw_below_drewN | apply below_drew1 | refine below_set ?_ GE159.out) | exact HB.out)⟩⟩
                                          · replace c36 := Bool.eq_false_iff.mpr c36
                                            subst c36
                                            have H1 : (if x6_3.length < 5864062014805 then (if x8_2 < (x7_3.length : Int) then (if x7_3.length < 17592186044416 then (spec_dbFar.l2 k3 (x5_3.set (t164 : Int).toNat true) (x6_3 ++ [t161]) (x7_3 ++ [wrap64 ((rd x7_3 x8_2) + 1)]) x8_2 t155 (t155.length : Int) (wrap64 (x42_3 + 1))) else (none)) else (none)) else (none)) = some (r1, r2) := by rw [if_neg (show ¬ (false = true) by decide)] at H; exact H
                                            clear H
                                            have H := H1
                                            clear H1
                                            obtain ⟨y166, hy166⟩ : ∃ y_ : List Bool, y_ = (x5_3.set (t164 : Int).toNat true) := ⟨_, rfl⟩
                                            replace H : (if x6_3.length < 5864062014805 then (if x8_2 < (x7_3.length : Int) then (if x7_3.length < 17592186044416 then (spec_dbFar.l2 k3 y166 (x6_3 ++ [t161]) (x7_3 ++ [wrap64 ((rd x7_3 x8_2) + 1)]) x8_2 t155 (t155.length : Int) (wrap64 (x42_3 + 1))) else (none)) else (none)) else (none)) = some (r1, r2) := by first | (rw [hy166]; with_reducible exact H) | (have H2_ := (Option.bind_some _ _).symm.trans H; rw [hy166]; with_reducible exact H2_) | (have H2_ := (Option.bind_some _ _).symm.trans H; with_reducible exact H2_) | with_reducible exact H | (rw [hy166]; exact H) | exact H
                                            have Ny166 := Aside0.mk hy166
                                            clear hy166
                                            by_cases c45 : x6_3.length < 5864062014805
                                            · rw [if_pos c45] at H
                                              have LMc45 := Aside0.mk c45
                                              clear c45
                                              obtain ⟨y167, hy167⟩ : ∃ y_ : List (List Int), y_ = (x6_3 ++ [t161]) := ⟨_, rfl⟩
                                              replace H : (if x8_2 < (x7_3.length : Int) then (if x7_3.length < 17592186044416 then (spec_dbFar.l2 k3 y166 y167 (x7_3 ++ [wrap64 ((rd x7_3 x8_2) + 1)]) x8_2 t155 (t155.length : Int) (wrap64 (x42_3 + 1))) else (none)) else (none)) = some (r1, r2) := by first | (rw [hy167]; with_reducible exact H) | (have H2_ := (Option.bind_some _ _).symm.trans H; rw [hy167]; with_reducible exact H2_) | (have H2_ := (Option.bind_some _ _).symm.trans H; with_reducible exact H2_) | with_reducible exact H | (rw [hy167]; exact H) | exact H
                                              have Ny167 := Aside0.mk hy167
                                              clear hy167
                                              by_cases c46 : x8_2 < (x7_3.length : Int)
                                              · rw [if_pos c46] at H
                                                have c46b0 : decide (x8_2 < (x7_3.length : Int)) = true := decide_eq_true c46
                                                (try simp only [hl5_2] at c46b0)
                                                (try simp only [hl5_3] at c46b0)
                                                clear c46
                                                by_cases c47 : x7_3.length < 17592186044416
                                                · rw [if_pos c47] at H
                                                  have LMc47 := Aside0.mk c47
                                                  clear c47
                                                  obtain ⟨y171, hy171⟩ : ∃ y_ : List Int, y_ = (x7_3 ++ [wrap64 ((rd x7_3 x8_2) + 1)]) := ⟨_, rfl⟩
                                                  replace H : (spec_dbFar.l2 k3 y166 y167 y171 x8_2 t155 (t155.length : Int) (wrap64 (x42_3 + 1))) = some (r1, r2) := by first | (rw [hy171]; with_reducible exact H) | (have H2_ := (Option.bind_some _ _).symm.trans H; rw [hy171]; with_reducible exact H2_) | (have H2_ := (Option.bind_some _ _).symm.trans H; with_reducible exact H2_) | with_reducible exact H | (rw [hy171]; exact H) | exact H
                                                  have Ny171 := Aside0.mk hy171
                                                  clear hy171
                                                  have H' := Aside0.mk H
                                                  clear H
                                                  have p158 : 0 ≤ (x42_3 : Int) := of_decide_eq_true (by first | (with_reducible assumption) | assumption)
                                                  have q158 : x42_3 < (t155.length : Int) := of_decide_eq_true (by first | (with_reducible assumption) | assumption)
                                                  obtain ⟨ad158, e158, hx158_0, hx158_1⟩ := at_T52 (Kd.R_reads' HO_40.out).2.2 x42_3 p158 q158
                                                  cases e158
                                                  replace p158 := eq_true p158
                                                  replace q158 := eq_true q158
                                                  try go_wp2_with (first | ((with_reducible refine gate_dst (N := 10) rfl ?_); refine box_event ?hg (N := 10) ?hd (cs := #[.int .i64 0, .int .i64 0]) (t := 52) ?hr ?_; (case hd => rfl); (case hg => rfl); (case hr => first | (go_simp; done) | (go_simp; rfl)); intro gb159 hg w48 hbox hb; have n0_ := Aside0.mk (Kd.R_below (by (with_reducible repeat (first | apply Kd.R_alloc | apply Kd.R_drewN | apply Kd.R_drew)); exact HO_5.out) hb); have n1_ := Aside0.mk (Kd.N_below (Kd.N_elderB (by (with_reducible repeat (first | apply Kd.N_alloc | apply Kd.N_drewN | apply Kd.N_drew)); exact HO_6.out) gb159 (Nat.le_of_eq hg.symm)) hb); have n2_ := Aside0.mk (Kd.R_below (by (with_reducible repeat (first | apply Kd.R_alloc | apply Kd.R_drewN | apply Kd.R_drew)); exact HO_7.out) hb); have n3_ := Aside0.mk (Kd.R_below (Kd.R_elderB (by (with_reducible repeat (first | apply Kd.R_alloc | apply Kd.R_drewN | apply Kd.R_drew)); exact HO_40.out) gb159 (Nat.le_of_eq hg.symm)) hb); have n4_ := Aside0.mk (below_step (by repeat (first | (with_reducible first | exact HB.out | apply below_alloc | apply pw_below_drewN | apply below_drew1) | exact HB.out)) hb); have n5_ := Aside0.mk (hbox); have n6_ := Aside0.mk ((by rw [hg]; exact (below_size (by repeat (first | (with_reducible first | exact HB.out | apply below_alloc | apply pw_below_drewN | apply below_drew1) | exact HB.out))) : w.heap.size ≤ gb159)); have n7_ := Aside0.mk ((by rw [hg]; exact (below_size (by repeat (first | (with_reducible first | exact HB.out | apply below_alloc | apply pw_below_drewN | apply below_drew1) | exact HB.out))) : w.heap.size ≤ gb159)); clear HO_5; clear HO_6; clear HO_7; clear HO_40; clear HB; have HO_5 := n0_; have HO_6 := n1_; have HO_7 := n2_; have HO_40 := n3_; have HB := n4_; have BK159 := n5_; have GW159 := n6_; have GE159 := n7_; clear n0_ n1_ n2_ n3_ n4_ n5_ n6_ n7_; clear hb hbox hg; have hcz49_0 : w48.cell? ⟨gb159, 0, none⟩ = some (.int .i64 0) := (blk_cell BK159.out 0).trans rfl; have hcz49_1 : w48.cell? ⟨gb159, 1, none⟩ = some (.int .i64 0) := (blk_cell BK159.out 1).trans rfl; have hfz49_0 := blk_frozen BK159.out 0; have hfz49_1 := blk_frozen BK159.out 1))
                                                  have n0_ : Aside0 (Kd.R Kd.bool 4 ((w48.setCell ⟨gb159, 0, none⟩ (.int .i64 ((rd_T52 t155 x42_3).f0))).setCell ⟨gb159, 1, none⟩ (.int .i64 ((rd_T52 t155 x42_3).f1))) w.heap.size (fun k_ => (w.heap.size ≤ k_)) (.slice (some ⟨go8, 0, none⟩) x5_3.length co8) x5_3) := ⟨by (with_reducible repeat (first | apply Kd.R_alloc | apply Kd.R_drewN | apply Kd.R_drew)); exact Kd.R_mono (Kd.R_far (p := ⟨gb159, 1, none⟩) (Kd.R_far (p := ⟨gb159, 0, none⟩) (Kd.R_types HO_5.out BK159.out (by decide)) (fun _ hk => hk.2) (.int .i64 ((rd_T52 t155 x42_3).f0))) (fun _ hk => hk.2) (.int .i64 ((rd_T52 t155 x42_3).f1))) (fun _ hk => hk.1)⟩
                                                  have n1_ : Aside0 (Kd.N (Kd.slice 3 (Kd.int .i64)) 22 ((w48.setCell ⟨gb159, 0, none⟩ (.int .i64 ((rd_T52 t155 x42_3).f0))).setCell ⟨gb159, 1, none⟩ (.int .i64 ((rd_T52 t155 x42_3).f1))) w.heap.size (fun k_ => (w.heap.size ≤ k_) ∧ some k_ ≠ (.slice (some ⟨go8, 0, none⟩) x5_3.length co8 : Value).ownBlock ∧ some k_ ≠ (u7 : Value).ownBlock ∧ some k_ ≠ (.slice (some ad158) t155.length co25 : Value).ownBlock ∧ k_ ≠ gb159) u6 x6_3) := ⟨by (with_reducible repeat (first | apply Kd.N_alloc | apply Kd.N_drewN | apply Kd.N_drew)); exact Kd.N_mono (Kd.N_far (p := ⟨gb159, 1, none⟩) (Kd.N_far (p := ⟨gb159, 0, none⟩) (Kd.N_mono HO_6.out (fun k_ hk => (⟨hk, hk.2⟩ : _ ∧ k_ ≠ gb159))) (fun _ hk => hk.2) (.int .i64 ((rd_T52 t155 x42_3).f0))) (fun _ hk => hk.2) (.int .i64 ((rd_T52 t155 x42_3).f1))) (fun _ hk => ⟨hk.1.1.1, ⟨hk.1.1.2.1, ⟨hk.1.1.2.2.1, ⟨hk.1.1.2.2.2, hk.1.2⟩⟩⟩⟩)⟩
                                                  have n2_ : Aside0 (Kd.R (Kd.int .i64) 3 ((w48.setCell ⟨gb159, 0, none⟩ (.int .i64 ((rd_T52 t155 x42_3).f0))).setCell ⟨gb159, 1, none⟩ (.int .i64 ((rd_T52 t155 x42_3).f1))) w.heap.size (fun k_ => (w.heap.size ≤ k_)) u7 x7_3) := ⟨by (with_reducible repeat (first | apply Kd.R_alloc | apply Kd.R_drewN | apply Kd.R_drew)); exact Kd.R_mono (Kd.R_far (p := ⟨gb159, 1, none⟩) (Kd.R_far (p := ⟨gb159, 0, none⟩) (Kd.R_types HO_7.out BK159.out (by decide)) (fun _ hk => hk.2) (.int .i64 ((rd_T52 t155 x42_3).f0))) (fun _ hk => hk.2) (.int .i64 ((rd_T52 t155 x42_3).f1))) (fun _ hk => hk.1)⟩
                                                  have n3_ : Aside0 (Kd.R k52 52 ((w48.setCell ⟨gb159, 0, none⟩ (.int .i64 ((rd_T52 t155 x42_3).f0))).setCell ⟨gb159, 1, none⟩ (.int .i64 ((rd_T52 t155 x42_3).f1))) w.heap.size (fun k_ => (w.heap.size ≤ k_) ∧ k_ ≠ gb159) (.slice (some ad158) t155.length co25) t155) := ⟨by (with_reducible repeat (first | apply Kd.R_alloc | apply Kd.R_drewN | apply Kd.R_drew)); exact Kd.R_mono (Kd.R_far (p := ⟨gb159, 1, none⟩) (Kd.R_far (p := ⟨gb159, 0, none⟩) (Kd.R_mono HO_40.out (fun k_ hk => (⟨hk, hk.2⟩ : _ ∧ k_ ≠ gb159))) (fun _ hk => hk.2) (.int .i64 ((rd_T52 t155 x42_3).f0))) (fun _ hk => hk.2) (.int .i64 ((rd_T52 t155 x42_3).f1))) (fun _ hk => ⟨hk.1.1, hk.1.2⟩)⟩
                                                  have n4_ : Aside0 (((w48.setCell ⟨gb159, 0, none⟩ (.int .i64 ((rd_T52 t155 x42_3).f0))).setCell ⟨gb159, 1, none⟩ (.int .i64 ((rd_T52 t155 x42_3).f1))).heap[gb159]? = some (.cells #[.int .i64 ((rd_T52 t155 x42_3).f0), .int .i64 ((rd_T52 t155 x42_3).f1)] 52 (0, 0))) := ⟨by (with_reducible repeat (first | refine blk_drewN ?_ _ | refine blk_drew ?_ | refine blk_alloc ?_ _)); refine blk_put (cs := #[.int .i64 ((rd_T52 t155 x42_3).f0), .int .i64 0]) ?_ 1 _ rfl; (with_reducible repeat (first | refine blk_drewN ?_ _ | refine blk_drew ?_ | refine blk_alloc ?_ _)); refine blk_put (cs := #[.int .i64 0, .int .i64 0]) ?_ 0 _ rfl; (with_reducible repeat (first | refine blk_drewN ?_ _ | refine blk_drew ?_ | refine blk_alloc ?_ _)); exact BK159.out⟩
                                                  have n5_ : Aside0 (Below w.heap.size w ((w48.setCell ⟨gb159, 0, none⟩ (.int .i64 ((rd_T52 t155 x42_3).f0))).setCell ⟨gb159, 1, none⟩ (.int .i64 ((rd_T52 t155 x42_3).f1)))) := ⟨by repeat (first | (with_reducible first | exact HB.out | apply below_alloc | apply pw_below_drewN | apply below_drew1 | refine below_set ?_ GE159.out) | exact HB.out)⟩
                                                  (try clear HO_5)
                                                  (try clear HO_6)
                                                  (try clear HO_7)
                                                  (try clear HO_40)
                                                  (try clear BK159)
                                                  (try clear HB)
                                                  generalize ((w48.setCell ⟨gb159, 0, none⟩ (.int .i64 ((rd_T52 t155 x42_3).f0))).setCell ⟨gb159, 1, none⟩ (.int .i64 ((rd_T52 t155 x42_3).f1))) = w50 at n0_ n1_ n2_ n3_ n4_ n5_ ⊢
                                                  have HO_5 := n0_
                                                  have HO_6 := n1_
                                                  have HO_7 := n2_
                                                  have HO_40 := n3_
                                                  have BK159 := n4_
                                                  have HB := n5_
                                                  clear n0_ n1_ n2_ n3_ n4_ n5_
                                                  have n0_ := Aside0.mk (Kd.R_drew HO_5.out)
                                                  have n1_ := Aside0.mk (Kd.N_drew HO_6.out)
                                                  have n2_ := Aside0.mk (Kd.R_drew HO_7.out)
                                                  have n3_ := Aside0.mk (Kd.R_drew HO_40.out)
                                                  have n4_ := Aside0.mk (blk_drew BK159.out)
                                                  have n5_ := Aside0.mk (below_drew1 HB.out)
                                                  clear HO_5
                                                  clear HO_6
                                                  clear HO_7
                                                  clear HO_40
                                                  clear BK159
                                                  clear HB
                                                  have HO_5 := n0_
                                                  have HO_6 := n1_
                                                  have HO_7 := n2_
                                                  have HO_40 := n3_
                                                  have BK159 := n4_
                                                  have HB := n5_
                                                  clear n0_ n1_ n2_ n3_ n4_ n5_
                                                  obtain ⟨Ao52, co52, eo52⟩ := Kd.N_slice HO_6.out
                                                  (first | subst eo52 | (injection eo52 with f1_ f2_ f3_; have f4_ := f1_.symm; have f5_ := f3_.symm; clear f1_ f2_ f3_; subst f4_; subst f5_))
                                                  have p160 : 0 ≤ (x8_2 : Int) := of_decide_eq_true (by first | (with_reducible assumption) | assumption)
                                                  have q160 : x8_2 < (x6_3.length : Int) := of_decide_eq_true (by first | (with_reducible assumption) | assumption)
                                                  obtain ⟨ad160, A160_0, c160_0, e160, hx160_0, hl160_0, hi160_0⟩ := at_L2 (Kd.N_reads' HO_6.out).2.2 x8_2 p160 q160
                                                  cases e160
                                                  obtain ⟨ce160, hce160, hMe160, hcc160⟩ := Kd.N_get HO_6.out [] x8_2 p160 (by first | exact q160 | exact of_decide_eq_true (by first | (with_reducible assumption) | assumption) | (have e_ := (Kd.N_reads' HO_6.out).1; omega))
                                                  obtain ⟨ua160_0, uc160_0, rfl, ul160_0, ge160_0⟩ := Kd.FK_slice_open hMe160
                                                  have hv160_0 := hcc160 0 _ rfl
                                                  rw [Nat.add_zero, show ((Kd.slice 3 (Kd.int .i64))).sz = 1 from rfl, Nat.mul_one] at hv160_0
                                                  replace hv160_0 := Option.some.inj (hv160_0.symm.trans hx160_0)
                                                  injection hv160_0 with hva_ hvn_ hvc_
                                                  rw [hva_] at ge160_0
                                                  rw [hvc_] at ul160_0
                                                  have HL160_0 := Aside0.mk (show Kd.V (Kd.int .i64) 3 _ w.heap.size _ _ (rd_L2 x6_3 x8_2) from Kd.V_mk ul160_0 ge160_0)
                                                  clear hva_ hvn_ hvc_ ge160_0 ul160_0
                                                  clear hcc160 hce160
                                                  have HR160_0 := Aside0.mk hi160_0
                                                  have HC160_0 := Aside0.mk hl160_0
                                                  clear hi160_0 hl160_0
                                                  replace p160 := eq_true p160
                                                  replace q160 := eq_true q160
                                                  refine start_ (n := 7) (S := fun w' => w'.cell? ⟨gb159, 0, none⟩ = some (.int .i64 ((rd_T52 t155 x42_3).f0)) ∧ w'.cell? ⟨gb159, 1, none⟩ = some (.int .i64 ((rd_T52 t155 x42_3).f1)) ∧ w'.cell? (ad160.add (x8_2).toNat) = some (.slice A160_0 (rd_L2 x6_3 x8_2).length c160_0)) (ds := []) #[false, false, false, false, false, false, false] (by kernel_rfl) rfl rfl ⟨(blk_cell BK159.out 0).trans rfl, (blk_cell BK159.out 1).trans rfl, hx160_0⟩ (fun hHeld => ?_)
                                                  generalize w50.drew = w51 at HO_5 HO_6 HO_7 HO_40 BK159 HB HL160_0 HR160_0 hx160_0 hHeld ⊢
                                                  refine pure_ (i := 0) (N := some 46) (v := ?_) (a' := ?_) #[true, false, false, false, false, false, false] rfl rfl (by kernel_rfl) (fun _ _ _ h => h) (Or.inl ⟨by rfl, ?_⟩) ?_ ?_
                                                  rotate_left
                                                  · intro w'
                                                    go_simp
                                                    with_reducible rfl
                                                  rotate_left
                                                  · simp only [Act.put, List.setIfInBounds_toArray, List.set_cons_zero, List.set_cons_succ, i64_w, i32_w]
                                                    rfl
                                                  refine pure_ (i := 1) (N := some 47) (v := ?_) (a' := ?_) #[true, true, false, false, false, false, false] rfl rfl (by kernel_rfl) (fun _ _ _ h => h) (Or.inl ⟨by rfl, ?_⟩) ?_ ?_
                                                  rotate_left
                                                  · intro w'
                                                    go_simp
                                                    with_reducible rfl
                                                  rotate_left
                                                  · simp only [Act.put, List.setIfInBounds_toArray, List.set_cons_zero, List.set_cons_succ, i64_w, i32_w]
                                                    rfl
                                                  refine pure_ (i := 2) (N := some 48) (v := ?_) (a' := ?_) #[true, true, true, false, false, false, false] rfl rfl (by kernel_rfl) (fun _ _ _ h => h) (Or.inl ⟨by rfl, ?_⟩) ?_ ?_
                                                  rotate_left
                                                  · intro w'
                                                    go_simp
                                                    with_reducible rfl
                                                  rotate_left
                                                  · simp only [Act.put, List.setIfInBounds_toArray, List.set_cons_zero, List.set_cons_succ, i64_w, i32_w]
                                                    rfl
                                                  refine take_ (i := 3) (N := some 49) (v := ?_) (a' := ?_) #[true, true, true, true, false, false, false] rfl rfl (by kernel_rfl) (fun _ _ _ h => h) (Or.inl ⟨by rfl, ?_⟩) hHeld ?_ ?_
                                                  rotate_left
                                                  · rintro w' ⟨s0, s1, s2⟩
                                                    go_simp
                                                    with_reducible rfl
                                                  rotate_left
                                                  · simp only [Act.put, List.setIfInBounds_toArray, List.set_cons_zero, List.set_cons_succ, i64_w, i32_w]
                                                    rfl
                                                  refine take_ (i := 4) (N := some 50) (v := ?_) (a' := ?_) #[true, true, true, true, true, false, false] rfl rfl (by kernel_rfl) (fun _ _ _ h => h) (Or.inl ⟨by rfl, ?_⟩) hHeld ?_ ?_
                                                  rotate_left
                                                  · rintro w' ⟨s0, s1, s2⟩
                                                    go_simp
                                                    with_reducible rfl
                                                  rotate_left
                                                  · simp only [Act.put, List.setIfInBounds_toArray, List.set_cons_zero, List.set_cons_succ, i64_w, i32_w]
                                                    rfl
                                                  refine one_ (i := 5) (N := some 51) #[true, true, true, true, true, true, false] rfl rfl (by kernel_rfl) (by decide) (fun K hK => ?_)
                                                  refine goes_ Tryd.func63 (by kernel_rfl) rfl #[.slice A160_0 (rd_L2 x6_3 x8_2).length c160_0, .agg #[.int .i64 ((rd_T52 t155 x42_3).f0), .int .i64 ((rd_T52 t155 x42_3).f1)]] (by rfl) rfl rfl (by (try simp only [List.map_toArray, List.map_cons, List.map_nil]); first | done | rfl | (simp only [List.length_drop, List.length_take]; rfl)) ?_
                                                  with_reducible refine (spec_dbMake.calls _ _ (rd_L2 x6_3 x8_2) ((rd_T52 t155 x42_3).f0) ((rd_T52 t155 x42_3).f1) t161 _ ?side1 ?side2 A31.out).mono ?_
                                                  (case side1 => repeat (first | exact (by repeat (first | (with_reducible exact HR160_0.out) | (with_reducible refine Kd.C_alloc ?_ _) | (with_reducible refine Kd.C_drewN ?_ _) | (with_reducible refine Kd.C_drew ?_) | exact HR160_0.out)) | (with_reducible refine Kd.C_alloc ?_ _) | (with_reducible refine Kd.C_drewN ?_ _) | (with_reducible refine Kd.C_drew ?_)))
                                                  (case side2 => exact HC160_0.out)
                                                  rintro e w53 ⟨v162, rfl, ho0, hb⟩
                                                  have HS2_ := (hb.cell (World.block_lt_of_cell? _ _ (hHeld.2.2))).trans (hHeld.2.2)
                                                  refine ⟨_, rfl, ?_⟩
                                                  have n0_ := Aside0.mk (Kd.R_below (by (with_reducible repeat (first | apply Kd.R_alloc | apply Kd.R_drewN | apply Kd.R_drew)); exact HO_5.out) hb)
                                                  have n1_ := Aside0.mk (Kd.N_elder' (by (with_reducible repeat (first | apply Kd.N_alloc | apply Kd.N_drewN | apply Kd.N_drew)); exact HO_6.out) (Kd.R_base ho0) hb)
                                                  have n2_ := Aside0.mk (Kd.R_elder' (by (with_reducible repeat (first | apply Kd.R_alloc | apply Kd.R_drewN | apply Kd.R_drew)); exact HO_7.out) (Kd.R_base ho0) hb)
                                                  have n3_ := Aside0.mk (Kd.R_below (by (with_reducible repeat (first | apply Kd.R_alloc | apply Kd.R_drewN | apply Kd.R_drew)); exact HO_40.out) hb)
                                                  have n4_ := Aside0.mk (Kd.V_elder' (by (with_reducible repeat (first | apply Kd.V_alloc | apply Kd.V_drewN | apply Kd.V_drew)); exact HL160_0.out) (Kd.R_base ho0) hb)
                                                  have n5_ := Aside0.mk (Kd.R_lower (Kd.R_new' (Kd.R_newM (M := fun k_ => (w.heap.size ≤ k_)) ho0 (below_size (by repeat (first | (with_reducible first | exact HB.out | apply below_alloc | apply pw_below_drewN | apply below_drew1 | refine below_set ?_ GE159.out) | exact HB.out))) (fun k_ h_ => h_)) (Kd.R_lt (by (with_reducible repeat (first | apply Kd.R_alloc | apply Kd.R_drewN | apply Kd.R_drew)); exact HO_7.out))) (below_size (by repeat (first | (with_reducible first | exact HB.out | apply below_alloc | apply pw_below_drewN | apply below_drew1 | refine below_set ?_ GE159.out) | exact HB.out))))
                                                  have n6_ := Aside0.mk (blk_below (g := gb159) (o := .cells #[.int .i64 ((rd_T52 t155 x42_3).f0), .int .i64 ((rd_T52 t155 x42_3).f1)] 52 (0, 0)) (by (with_reducible repeat (first | refine blk_drewN ?_ _ | refine blk_drew ?_ | refine blk_alloc ?_ _)); exact BK159.out) hb)
                                                  have n7_ := Aside0.mk (Kd.C_below (by repeat (first | (with_reducible exact HR160_0.out) | (with_reducible refine Kd.C_alloc ?_ _) | (with_reducible refine Kd.C_drewN ?_ _) | (with_reducible refine Kd.C_drew ?_) | exact HR160_0.out)) hb)
                                                  have n8_ := Aside0.mk (below_step (by repeat (first | (with_reducible first | exact HB.out | apply below_alloc | apply pw_below_drewN | apply below_drew1 | refine below_set ?_ GE159.out) | exact HB.out)) hb)
                                                  clear HO_5
                                                  clear HO_6
                                                  clear HO_7
                                                  clear HO_40
                                                  clear HL160_0
                                                  clear BK159
                                                  clear HR160_0
                                                  clear HB
                                                  have HO_5 := n0_
                                                  have HO_6 := n1_
                                                  have HO_7 := n2_
                                                  have HO_40 := n3_
                                                  have HL160_0 := n4_
                                                  have HO163 := n5_
                                                  have BK159 := n6_
                                                  have HR160_0 := n7_
                                                  have HB := n8_
                                                  clear n0_ n1_ n2_ n3_ n4_ n5_ n6_ n7_ n8_
                                                  (try clear hb)
                                                  (try clear hb2)
                                                  (try clear hk)
                                                  (try clear hi)
                                                  (try clear ho0)
                                                  refine hK.out _ _ ⟨(blk_cell BK159.out 0).trans rfl, (blk_cell BK159.out 1).trans rfl, HS2_⟩ (fun hHeld => ?_)
                                                  clear hK K
                                                  refine norm_ (a' := ?_) ?_ ?_
                                                  rotate_left
                                                  · show Act.put _ (some 51) _ = _
                                                    simp only [Act.put, List.setIfInBounds_toArray, List.set_cons_zero, List.set_cons_succ, i64_w, i32_w]
                                                    rfl
                                                  refine pure_ (i := 6) (N := some 11) (v := ?_) (a' := ?_) #[true, true, true, true, true, true, true] rfl rfl (by kernel_rfl) (fun _ _ _ h => h) (Or.inl ⟨by rfl, ?_⟩) ?_ ?_
                                                  rotate_left
                                                  · intro w'
                                                    go_simp
                                                    with_reducible rfl
                                                  rotate_left
                                                  · simp only [Act.put, List.setIfInBounds_toArray, List.set_cons_zero, List.set_cons_succ, i64_w, i32_w]
                                                    rfl
                                                  refine done_ (by kernel_rfl) ?_
                                                  obtain ⟨Ao54, co54, eo54⟩ := Kd.R_slice HO163.out
                                                  subst eo54
                                                  try go_wp2_with (first | ((with_reducible refine gate_callee (f := 80) rfl ?_); refine goesL_ (some 53) rfl rfl Tryd.func80 (by kernel_rfl) rfl #[.slice Ao54 t161.length co54] rfl (by (try simp only [List.map_toArray, List.map_cons, List.map_nil]); first | done | rfl | (simp only [List.length_drop, List.length_take]; rfl)) ?_; (with_reducible refine (spec_dbNumber.calls k3 _ _ t161 t164 _ ?side1 ?side2 A32.out).mono ?_); (case side1 => repeat (first | exact (Kd.R_reads' HO163.out).2.2 | (with_reducible refine Kd.C_alloc ?_ _) | (with_reducible refine Kd.C_drewN ?_ _) | (with_reducible refine Kd.C_drew ?_))); (case side2 => exact (Kd.R_reads' HO163.out).2.1); rintro e w' ⟨rfl, ⟨nd, rfl⟩⟩; refine ⟨_, rfl, ?_⟩; (try ((repeat (rw [World.drewN_drewN])); rw [drewN_self w53]; generalize hq_ : World.drewN w53 _ = w53; have n0_ := Aside0.mk (Kd.R_at hq_ HO_5.out); have n1_ := Aside0.mk (Kd.N_at hq_ HO_6.out); have n2_ := Aside0.mk (Kd.R_at hq_ HO_7.out); have n3_ := Aside0.mk (Kd.R_at hq_ HO_40.out); have n4_ := Aside0.mk (V_at_ hq_ HL160_0.out); have n5_ := Aside0.mk (Kd.R_at hq_ HO163.out); have n6_ := Aside0.mk (blk_at hq_ BK159.out); have n7_ := Aside0.mk (Kd.C_at hq_ HR160_0.out); have n8_ := Aside0.mk (below_at hq_ HB.out); clear hq_ HO_5 HO_6 HO_7 HO_40 HL160_0 HO163 BK159 HR160_0 HB; have HO_5 := n0_; have HO_6 := n1_; have HO_7 := n2_; have HO_40 := n3_; have HL160_0 := n4_; have HO163 := n5_; have BK159 := n6_; have HR160_0 := n7_; have HB := n8_; clear n0_ n1_ n2_ n3_ n4_ n5_ n6_ n7_ n8_)); have p165 : 0 ≤ (t164 : Int) := of_decide_eq_true (by first | (with_reducible assumption) | assumption); have q165 : t164 < (x5_3.length : Int) := of_decide_eq_true (by first | (with_reducible assumption) | assumption); obtain ⟨ad165, e165, hx165_0⟩ := Kd.at_bool (Kd.R_reads' HO_5.out).2.2 t164 p165 q165; (try rw [← Nbq35.out] at hx165_0); obtain rfl : (⟨go8, 0, none⟩ : Addr) = ad165 := (by injection e165); (first | simp only [add_plain] at hx165_0 | simp only [add_at] at hx165_0 | simp only [Addr.add, Nat.zero_add] at hx165_0 | skip); replace p165 := eq_true p165; replace q165 := eq_true q165; have p44 : 0 ≤ (t164 : Int) := of_decide_eq_true (by first | (with_reducible assumption) | assumption); have q44 : (t164 : Int) < ((x5_3.length : Int) : Int) := of_decide_eq_true (by first | (with_reducible assumption) | assumption); obtain ⟨hx44_0, hf44_0⟩ := Kd.R_celln false HO_5.out (t164 : Int) p44 q44; replace p44 := eq_true p44; replace q44 := eq_true q44; obtain ⟨hy55_, hz55_⟩ := Kd.R_celln false HO_5.out (t164 : Int) (of_decide_eq_true (by first | (with_reducible assumption) | assumption)) (of_decide_eq_true (by first | (with_reducible assumption) | assumption)); have HP55 := Kd.R_putg HO_5.out (t164 : Int) true) | ((with_reducible refine gate_store (t := 4) (p := 61) rfl ?_); refine store_event (t := 4) (p := 61) (v := ?vo_w56) (w1 := (w53.setCell ⟨go8, (t164 : Int).toNat, none⟩ (.bool true))) ?hg ?ho ?hn ?hr ?_; (case ho => rfl); (case hg => rfl); (case hn => rfl); (case hr => first | (go_simp; done) | (go_simp; rfl)); intro w56 hw; have hg : w53.grownBy w56 (some go8) := (by rw [hw]; exact HP55.2); have hp_ : Kd.R Kd.bool 4 w56 w.heap.size (fun k_ => (w.heap.size ≤ k_)) (.slice (some ⟨go8, 0, none⟩) x5_3.length co8) y166 := (by rw [hw, Ny166.out]; exact HP55.1); clear HP55; have n0_ := Aside0.mk (hp_); have n1_ := Aside0.mk (Kd.N_afterv (v := (.slice (some ⟨go8, 0, none⟩) x5_3.length co8)) (v1 := (.slice (some ⟨go8, 0, none⟩) x5_3.length co8)) (ok := (fun k_ => (w.heap.size ≤ k_) ∧ some k_ ≠ (u7 : Value).ownBlock ∧ some k_ ≠ (.slice (some ad158) t155.length co25 : Value).ownBlock ∧ some k_ ≠ (.slice Ao54 t161.length co54 : Value).ownBlock ∧ k_ ≠ gb159)) (by (with_reducible repeat (first | apply Kd.N_alloc | apply Kd.N_drewN | apply Kd.N_drew)); exact Kd.N_mono HO_6.out (fun _ hk => ⟨⟨hk.1.1, ⟨hk.1.2.2.1, ⟨hk.1.2.2.2.1, ⟨hk.2, hk.1.2.2.2.2⟩⟩⟩⟩, hk.1.2.1⟩)) hg (.inl rfl)); have n2_ := Aside0.mk (Kd.R_over' (v := (.slice (some ⟨go8, 0, none⟩) x5_3.length co8)) (by (with_reducible repeat (first | apply Kd.R_alloc | apply Kd.R_drewN | apply Kd.R_drew)); exact HO_7.out) (Kd.R_typed HO_5.out) (by decide) hg); have n3_ := Aside0.mk (Kd.R_over' (v := (.slice (some ⟨go8, 0, none⟩) x5_3.length co8)) (by (with_reducible repeat (first | apply Kd.R_alloc | apply Kd.R_drewN | apply Kd.R_drew)); exact HO_40.out) (Kd.R_typed HO_5.out) (by decide) hg); have n4_ := Aside0.mk (blk_grown (g := gb159) (o := .cells #[.int .i64 ((rd_T52 t155 x42_3).f0), .int .i64 ((rd_T52 t155 x42_3).f1)] 52 (0, 0)) (by (with_reducible repeat (first | refine blk_drewN ?_ _ | refine blk_drew ?_ | refine blk_alloc ?_ _)); exact BK159.out) hg (Kd.R_ne HO_5.out BK159.out (by decide))); have n5_ := Aside0.mk (Kd.V_afterv (v := (.slice (some ⟨go8, 0, none⟩) x5_3.length co8)) (v1 := (.slice (some ⟨go8, 0, none⟩) x5_3.length co8)) (ok := (fun k_ => (w.heap.size ≤ k_) ∧ some k_ ≠ (.slice (some ad160) x6_3.length co52 : Value).ownBlock ∧ some k_ ≠ (u7 : Value).ownBlock ∧ some k_ ≠ (.slice (some ad158) t155.length co25 : Value).ownBlock ∧ some k_ ≠ (.slice Ao54 t161.length co54 : Value).ownBlock ∧ k_ ≠ gb159)) (by (with_reducible repeat (first | apply Kd.V_alloc | apply Kd.V_drewN | apply Kd.V_drew)); exact Kd.V_mono HL160_0.out (fun _ hk => ⟨⟨hk.1.1.1, ⟨hk.1.2, ⟨hk.1.1.2.2.1, ⟨hk.1.1.2.2.2.1, ⟨hk.2, hk.1.1.2.2.2.2⟩⟩⟩⟩⟩, hk.1.1.2.1⟩)) hg (.inl rfl)); have n6_ := Aside0.mk (Kd.R_over' (v := (.slice (some ⟨go8, 0, none⟩) x5_3.length co8)) (by (with_reducible repeat (first | apply Kd.R_alloc | apply Kd.R_drewN | apply Kd.R_drew)); exact HO163.out) (Kd.R_typed HO_5.out) (by decide) hg); have n7_ := Aside0.mk ((by rw [hw]; exact below_set (HB.out) GB8.out : Below w.heap.size w w56)); clear HO_5; clear HO_6; clear HO_7; clear HO_40; clear BK159; clear HL160_0; clear HO163; clear HB; have HO_5 := n0_; have HO_6 := n1_; have HO_7 := n2_; have HO_40 := n3_; have BK159 := n4_; have HL160_0 := n5_; have HO163 := n6_; have HB := n7_; clear n0_ n1_ n2_ n3_ n4_ n5_ n6_ n7_; clear hg hw hp_) | ((with_reducible refine gate_builtin (b := .append) (xs := #[.tmp 62, .tmp 64]) rfl ?_); at_builtin; refine Kd.N_append (Kd.slice 3 (Kd.int .i64)) (w0 := w) w.heap.size rfl (.tmp 62) (.tmp 64) 61 22 (.slice none 0 0) 24 rfl Tryd.underlying61 info22 rfl (by decide) (by omega) (.slice (some ad160) x6_3.length co52) x6_3 t161 [.slice Ao54 t161.length co54] (fun k_ => (w.heap.size ≤ k_) ∧ some k_ ≠ (.slice (some ⟨go8, 0, none⟩) x5_3.length co8 : Value).ownBlock ∧ some k_ ≠ (u7 : Value).ownBlock ∧ some k_ ≠ (.slice (some ad158) t155.length co25 : Value).ownBlock ∧ k_ ≠ gb159) (fun k_ => ((fun k_ => (w.heap.size ≤ k_) ∧ some k_ ≠ (.slice (some ⟨go8, 0, none⟩) x5_3.length co8 : Value).ownBlock ∧ some k_ ≠ (u7 : Value).ownBlock ∧ some k_ ≠ (.slice (some ad158) t155.length co25 : Value).ownBlock ∧ k_ ≠ gb159)) k_ ∧ some k_ ≠ (.slice (some ad160) x6_3.length co52 : Value).ownBlock) rfl rfl ?aP (fun _ hk => hk) ?aF ?aO ?aB ?aS ?aL ?_; (case aP => exact (Kd.FK_slice_mk (Kd.R_reads' (Kd.R_mono (ok' := (fun k_ => ((fun k_ => (w.heap.size ≤ k_) ∧ some k_ ≠ (.slice (some ⟨go8, 0, none⟩) x5_3.length co8 : Value).ownBlock ∧ some k_ ≠ (u7 : Value).ownBlock ∧ some k_ ≠ (.slice (some ad158) t155.length co25 : Value).ownBlock ∧ k_ ≠ gb159)) k_ ∧ some k_ ≠ (.slice (some ad160) x6_3.length co52 : Value).ownBlock)) (Kd.R_types (Kd.R_apart' (Kd.R_apart' (Kd.R_apart' (HO163.out) (Kd.R_typed HO_5.out) (by decide)) (Kd.R_typed HO_40.out) (by decide)) (Kd.N_typed HO_6.out) (by decide)) BK159.out (by decide)) (fun k_ hk => ⟨⟨hk.1.1.1.1.1.1, ⟨hk.1.1.1.2, ⟨hk.1.1.1.1.2, ⟨hk.1.1.2, hk.2⟩⟩⟩⟩, hk.1.2⟩))).2.1 (Kd.R_F (Kd.R_mono (ok' := (fun k_ => ((fun k_ => (w.heap.size ≤ k_) ∧ some k_ ≠ (.slice (some ⟨go8, 0, none⟩) x5_3.length co8 : Value).ownBlock ∧ some k_ ≠ (u7 : Value).ownBlock ∧ some k_ ≠ (.slice (some ad158) t155.length co25 : Value).ownBlock ∧ k_ ≠ gb159)) k_ ∧ some k_ ≠ (.slice (some ad160) x6_3.length co52 : Value).ownBlock)) (Kd.R_types (Kd.R_apart' (Kd.R_apart' (Kd.R_apart' (HO163.out) (Kd.R_typed HO_5.out) (by decide)) (Kd.R_typed HO_40.out) (by decide)) (Kd.N_typed HO_6.out) (by decide)) BK159.out (by decide)) (fun k_ hk => ⟨⟨hk.1.1.1.1.1.1, ⟨hk.1.1.1.2, ⟨hk.1.1.1.1.2, ⟨hk.1.1.2, hk.2⟩⟩⟩⟩, hk.1.2⟩))))); (case aB => exact (by repeat (first | (with_reducible first | exact HB.out | apply below_alloc | apply pw_below_drewN | apply below_drew1 | refine below_set ?_ GE159.out) | exact HB.out))); (case aF => exact (fun k_ hk => ⟨(Nat.le_trans (below_size (by repeat (first | (with_reducible first | exact HB.out | apply below_alloc | apply pw_below_drewN | apply below_drew1 | refine below_set ?_ GE159.out) | exact HB.out))) hk), Kd.fresh' (Kd.R_lt (by (with_reducible repeat (first | apply Kd.R_alloc | apply Kd.R_drewN | apply Kd.R_drew)); exact HO_5.out)) k_ hk, Kd.fresh' (Kd.R_lt (by (with_reducible repeat (first | apply Kd.R_alloc | apply Kd.R_drewN | apply Kd.R_drew)); exact HO_7.out)) k_ hk, Kd.fresh' (Kd.R_lt (by (with_reducible repeat (first | apply Kd.R_alloc | apply Kd.R_drewN | apply Kd.R_drew)); exact HO_40.out)) k_ hk, Kd.freshB (g := gb159) (o := .cells #[.int .i64 ((rd_T52 t155 x42_3).f0), .int .i64 ((rd_T52 t155 x42_3).f1)] 52 (0, 0)) (by (with_reducible repeat (first | refine blk_drewN ?_ _ | refine blk_drew ?_ | refine blk_alloc ?_ _)); exact BK159.out) k_ hk⟩)); (case aO => exact (by (with_reducible repeat (first | apply Kd.N_alloc | apply Kd.N_drewN | apply Kd.N_drew)); exact Kd.N_mono HO_6.out (fun _ hk => ⟨hk.1.1, ⟨hk.2, ⟨hk.1.2.1, ⟨hk.1.2.2.1, hk.1.2.2.2.2⟩⟩⟩⟩))); (case aS => exact (below_size (by repeat (first | (with_reducible first | exact HB.out | apply below_alloc | apply pw_below_drewN | apply below_drew1 | refine below_set ?_ GE159.out) | exact HB.out)))); (case aL => have := LMc45.out; omega); intro v168 w57 ho hb hg hat; rw [← Ny167.out] at ho; have n0_ := Aside0.mk (Kd.R_over' (by (with_reducible repeat (first | apply Kd.R_alloc | apply Kd.R_drewN | apply Kd.R_drew)); exact HO_5.out) (Kd.N_typed (by (with_reducible repeat (first | apply Kd.N_alloc | apply Kd.N_drewN | apply Kd.N_drew)); exact HO_6.out)) (by decide) hg); have n1_ := Aside0.mk (Kd.R_over' (by (with_reducible repeat (first | apply Kd.R_alloc | apply Kd.R_drewN | apply Kd.R_drew)); exact HO_7.out) (Kd.N_typed (by (with_reducible repeat (first | apply Kd.N_alloc | apply Kd.N_drewN | apply Kd.N_drew)); exact HO_6.out)) (by decide) hg); have n2_ := Aside0.mk (Kd.R_over' (by (with_reducible repeat (first | apply Kd.R_alloc | apply Kd.R_drewN | apply Kd.R_drew)); exact HO_40.out) (Kd.N_typed (by (with_reducible repeat (first | apply Kd.N_alloc | apply Kd.N_drewN | apply Kd.N_drew)); exact HO_6.out)) (by decide) hg); have n3_ := Aside0.mk (blk_grown (g := gb159) (o := .cells #[.int .i64 ((rd_T52 t155 x42_3).f0), .int .i64 ((rd_T52 t155 x42_3).f1)] 52 (0, 0)) (by (with_reducible repeat (first | refine blk_drewN ?_ _ | refine blk_drew ?_ | refine blk_alloc ?_ _)); exact BK159.out) hg (Kd.N_ne HO_6.out BK159.out (by decide))); have n4_ := Aside0.mk (Kd.V_afterv (ok := (fun k_ => (w.heap.size ≤ k_) ∧ some k_ ≠ (.slice (some ⟨go8, 0, none⟩) x5_3.length co8 : Value).ownBlock ∧ some k_ ≠ (u7 : Value).ownBlock ∧ some k_ ≠ (.slice (some ad158) t155.length co25 : Value).ownBlock ∧ some k_ ≠ (.slice Ao54 t161.length co54 : Value).ownBlock ∧ k_ ≠ gb159)) (by (with_reducible repeat (first | apply Kd.V_alloc | apply Kd.V_drewN | apply Kd.V_drew)); exact Kd.V_mono HL160_0.out (fun _ hk => ⟨⟨hk.1.1, ⟨hk.2, ⟨hk.1.2.2.1, ⟨hk.1.2.2.2.1, ⟨hk.1.2.2.2.2.1, hk.1.2.2.2.2.2⟩⟩⟩⟩⟩, hk.1.2.1⟩)) hg hat); have n5_ := Aside0.mk (hb); have n6_ := Aside0.mk (ho); clear HO_5; clear HO_7; clear HO_40; clear BK159; clear HL160_0; clear HB; clear HO_6; clear HO163; have HO_5 := n0_; have HO_7 := n1_; have HO_40 := n2_; have BK159 := n3_; have HL160_0 := n4_; have HB := n5_; have HO169 := n6_; clear n0_ n1_ n2_ n3_ n4_ n5_ n6_; clear ho hb hg hat; obtain ⟨Ao58, co58, eo58⟩ := Kd.R_slice HO_7.out; subst eo58; have p170 : 0 ≤ (x8_2 : Int) := of_decide_eq_true (by first | (with_reducible assumption) | assumption); have q170 : x8_2 < (x7_3.length : Int) := of_decide_eq_true (by first | (with_reducible assumption) | assumption); obtain ⟨ad170, e170, hx170_0⟩ := Kd.at_int (Kd.R_reads' HO_7.out).2.2 x8_2 p170 q170; cases e170; replace p170 := eq_true p170; replace q170 := eq_true q170) | ((with_reducible refine gate_builtin (b := .append) (xs := #[.tmp 66, .tmp 72]) rfl ?_); at_builtin; refine Kd.R_append (Kd.int .i64) (w0 := w) w.heap.size rfl (.tmp 66) (.tmp 72) 22 3 (.int .i64 0) 8 rfl Tryd.underlying22 info3 rfl (by decide) (by omega) (.slice (some ad170) x7_3.length co58) x7_3 (wrap64 ((rd x7_3 x8_2) + 1)) [.int .i64 (wrap64 ((rd x7_3 x8_2) + 1))] (fun k_ => (w.heap.size ≤ k_)) (fun _ => False) rfl rfl ?aP (fun _ hk => hk.elim) ?aF ?aO ?aB ?aS ?aL ?_; (case aP => exact rfl); (case aB => exact (by repeat (first | (with_reducible first | exact HB.out | apply below_alloc | apply pw_below_drewN | apply below_drew1 | refine below_set ?_ GE159.out) | exact HB.out))); (case aF => exact (fun k_ hk => (Nat.le_trans (below_size (by repeat (first | (with_reducible first | exact HB.out | apply below_alloc | apply pw_below_drewN | apply below_drew1 | refine below_set ?_ GE159.out) | exact HB.out))) hk))); (case aO => exact (by (with_reducible repeat (first | apply Kd.R_alloc | apply Kd.R_drewN | apply Kd.R_drew)); exact Kd.R_mono HO_7.out (fun _ hk => hk.1))); (case aS => exact (below_size (by repeat (first | (with_reducible first | exact HB.out | apply below_alloc | apply pw_below_drewN | apply below_drew1 | refine below_set ?_ GE159.out) | exact HB.out)))); (case aL => have := LMc47.out; omega); intro v172 w59 ho hb hg hat; rw [← Ny171.out] at ho; have n0_ := Aside0.mk (Kd.R_over' (by (with_reducible repeat (first | apply Kd.R_alloc | apply Kd.R_drewN | apply Kd.R_drew)); exact HO_5.out) (Kd.R_typed (by (with_reducible repeat (first | apply Kd.R_alloc | apply Kd.R_drewN | apply Kd.R_drew)); exact HO_7.out)) (by decide) hg); have n1_ := Aside0.mk (Kd.R_over' (by (with_reducible repeat (first | apply Kd.R_alloc | apply Kd.R_drewN | apply Kd.R_drew)); exact HO_40.out) (Kd.R_typed (by (with_reducible repeat (first | apply Kd.R_alloc | apply Kd.R_drewN | apply Kd.R_drew)); exact HO_7.out)) (by decide) hg); have n2_ := Aside0.mk (blk_grown (g := gb159) (o := .cells #[.int .i64 ((rd_T52 t155 x42_3).f0), .int .i64 ((rd_T52 t155 x42_3).f1)] 52 (0, 0)) (by (with_reducible repeat (first | refine blk_drewN ?_ _ | refine blk_drew ?_ | refine blk_alloc ?_ _)); exact BK159.out) hg (Kd.R_ne HO_7.out BK159.out (by decide))); have n3_ := Aside0.mk (Kd.V_afterv (ok := (fun k_ => (w.heap.size ≤ k_) ∧ some k_ ≠ (.slice (some ⟨go8, 0, none⟩) x5_3.length co8 : Value).ownBlock ∧ some k_ ≠ (.slice (some ad158) t155.length co25 : Value).ownBlock ∧ some k_ ≠ (v168 : Value).ownBlock ∧ k_ ≠ gb159)) (by (with_reducible repeat (first | apply Kd.V_alloc | apply Kd.V_drewN | apply Kd.V_drew)); exact Kd.V_mono HL160_0.out (fun _ hk => ⟨⟨hk.1.1, ⟨hk.1.2.1, ⟨hk.1.2.2.2.1, ⟨hk.2, hk.1.2.2.2.2.2⟩⟩⟩⟩, hk.1.2.2.1⟩)) hg hat); have n4_ := Aside0.mk (Kd.N_afterv (ok := (fun k_ => (w.heap.size ≤ k_) ∧ some k_ ≠ (.slice (some ⟨go8, 0, none⟩) x5_3.length co8 : Value).ownBlock ∧ some k_ ≠ (.slice (some ad158) t155.length co25 : Value).ownBlock ∧ k_ ≠ gb159)) (by (with_reducible repeat (first | apply Kd.N_alloc | apply Kd.N_drewN | apply Kd.N_drew)); exact Kd.N_mono HO169.out (fun _ hk => ⟨⟨hk.1, ⟨hk.2.1, ⟨hk.2.2.2.1, hk.2.2.2.2⟩⟩⟩, hk.2.2.1⟩)) hg hat); have n5_ := Aside0.mk (hb); have n6_ := Aside0.mk (ho); clear HO_5; clear HO_40; clear BK159; clear HL160_0; clear HO169; clear HB; clear HO_7; have HO_5 := n0_; have HO_40 := n1_; have BK159 := n2_; have HL160_0 := n3_; have HO169 := n4_; have HB := n5_; have HO173 := n6_; clear n0_ n1_ n2_ n3_ n4_ n5_ n6_; clear ho hb hg hat))
                                                  (try simp only [← hl5_3])
                                                  go_roundg k3
                                                  case measure => have := HK1.out; have := HK2.out; have := HK3.out; omega
                                                  case rel => exact ⟨(y166), (y167), (y171), (wrap64 (x42_3 + 1)), (by first | rfl | (simp; done) | (simp [*]; done)), H', ⟨by have := HK1.out; have := HK2.out; have := HK3.out; omega⟩, ⟨by (try simp only [hl5_2]); (try simp only [hl5_3]); (with_reducible repeat (first | apply Kd.R_alloc | apply Kd.R_drewN | apply Kd.R_drew)); exact HO_5.out⟩, ⟨by (try simp only [hl5_2]); (try simp only [hl5_3]); (with_reducible repeat (first | apply Kd.N_alloc | apply Kd.N_drewN | apply Kd.N_drew)); exact Kd.N_mono HO169.out (fun _ hk => ⟨hk.1.1, ⟨hk.1.2.1, ⟨hk.2, hk.1.2.2.1⟩⟩⟩)⟩, ⟨by (try simp only [hl5_2]); (try simp only [hl5_3]); (with_reducible repeat (first | apply Kd.R_alloc | apply Kd.R_drewN | apply Kd.R_drew)); exact HO173.out⟩, ⟨by (try simp only [hl5_2]); (try simp only [hl5_3]); (with_reducible repeat (first | apply Kd.R_alloc | apply Kd.R_drewN | apply Kd.R_drew)); exact Kd.R_mono HO_40.out (fun _ hk => hk.1)⟩, ⟨by repeat (first | (with_reducible first | exact HB.out | apply below_alloc | apply pw_below_drewN | apply below_drew1 | refine below_set ?_ GE159.out) | exact HB.out)⟩⟩
                                                · rw [if_neg c47] at H
                                                  exact absurd H (by simp)
                                              · rw [if_neg c46] at H
                                                exact absurd H (by simp)
                                            · rw [if_neg c45] at H
                                              exact absurd H (by simp)
                                        · rw [if_neg c34] at H
                                          exact absurd H (by simp)
                                      · rw [if_neg c33] at H
                                        exact absurd H (by simp)
                                    · rw [if_neg c30] at H
                                      exact absurd H (by simp)
                                  · rw [if_neg c29] at H
                                    exact absurd H (by simp)
                                · rw [if_neg c28] at H
                                  exact absurd H (by simp)
                              · rw [if_neg c27] at H
                                exact absurd H (by simp)
                            · rw [if_neg c26] at H
                              have c26b0 : decide (x42_3 < (t155.length : Int)) = false := decide_eq_false c26
                              (try simp only [hl5_2] at c26b0)
                              (try simp only [hl5_3] at c26b0)
                              clear c26
                              have H' := Aside0.mk H
                              clear H
                              go_wp2
                              (try simp only [← hl5_2, ← hl5_3])
                              go_roundg k3
                              case measure => have := HK1.out; have := HK2.out; have := HK3.out; omega
                              case rel => exact ⟨(x5_3), (x6_3), (x7_3), (wrap64 (x8_2 + 1)), (by first | rfl | (simp; done) | (simp [*]; done)), H', ⟨by have := HK1.out; have := HK2.out; have := HK3.out; omega⟩, ⟨by (try simp only [hl5_2]); (try simp only [hl5_3]); (with_reducible repeat (first | apply Kd.R_alloc | apply Kd.R_drewN | apply Kd.R_drew)); exact HO_5.out⟩, ⟨by (try simp only [hl5_2]); (try simp only [hl5_3]); (with_reducible repeat (first | apply Kd.N_alloc | apply Kd.N_drewN | apply Kd.N_drew)); exact Kd.N_mono HO_6.out (fun _ hk => ⟨hk.1, ⟨hk.2.1, hk.2.2.1⟩⟩)⟩, ⟨by (try simp only [hl5_2]); (try simp only [hl5_3]); (with_reducible repeat (first | apply Kd.R_alloc | apply Kd.R_drewN | apply Kd.R_drew)); exact HO_7.out⟩, ⟨by repeat (first | (with_reducible first | exact HB.out | apply below_alloc | apply pw_below_drewN | apply below_drew1) | exact HB.out)⟩⟩
                      · rw [if_neg c21] at H
                        exact absurd H (by simp)
                    · rw [if_neg c20] at H
                      have c20b0 : decide (x8_2 < (x6_2.length : Int)) = false := decide_eq_false c20
                      (try simp only [hl5_2] at c20b0)
                      (try simp only [hl5_3] at c20b0)
                      clear c20
                      simp only [Option.some.injEq, Prod.mk.injEq] at H
                      obtain ⟨rfl, rfl⟩ := H
                      obtain ⟨Ao60, co60, eo60⟩ := Kd.N_slice HO_6.out
                      subst eo60
                      go_wp2
                      go_ret2
                      exact ⟨_, _, by first | rfl | (simp [errW_none, errW_some] <;> rfl) | (simp [*, errW_none, errW_some] <;> rfl), by (with_reducible repeat (first | apply Kd.N_alloc | apply Kd.N_drewN | apply Kd.N_drew)); exact Kd.N_mono HO_6.out (fun _ hk => ⟨hk.1, hk.2.2⟩), by (with_reducible repeat (first | apply Kd.R_alloc | apply Kd.R_drewN | apply Kd.R_drew)); exact HO_7.out, by repeat (first | (with_reducible first | exact HB.out | apply below_alloc | apply pw_below_drewN | apply below_drew1) | exact HB.out)⟩
              · rw [if_neg c7] at H
                exact absurd H (by simp)
            · rw [if_neg c6] at H
              exact absurd H (by simp)
          · rw [if_neg c4] at H
            exact absurd H (by simp)
        · rw [if_neg c3] at H
          exact absurd H (by simp)

end Go.Proofs.YtdlalgciieickaaDoor.PFnExactFewestToBecome
