-- Written by hprint.py (a program of this session's) over the kit's print.py. Lean checks it.
import Derived.Test.YtpmlpcdhkpcejaaGreatDoorPFnDoublingsPairedx0
import Derived.Test.YtpmlpcdhkpcejaaGreatDoorPFnDoublingsPairedx2
import Derived.Test.YtpmlpcdhkpcejaaGreatDoorPFnDoublingsPairedx5
namespace Go.Proofs.YtpmlpcdhkpcejaaGreatDoor.PFnDoublingsPaired
open Go.RowKit Go.Proofs.YtpmlpcdhkpcejaaGreatDoorW.PrintWords Go.Proofs.YtpmlpcdhkpcejaaGreatDoorW.PrintLast Go.Proofs.YtpmlpcdhkpcejaaGreatDoorW.PrintMore
attribute [local go_sem] max2_int min2_int max_two min_two max_three min_three max_four min_four   -- for this text's walks alone
set_option linter.unusedVariables false
set_option linter.unusedSimpArgs false

/-! ### spec_l1Cur_doubled: function 42, by hand -/
theorem dr.drew {w w' : World} (h : Drawn0 w w') : Below w.heap.size w w' := by
  obtain ⟨n, rfl⟩ := h
  exact pw_below_drewN (Below.refl _ _) n
/-- What the walks of the draws ask of the pure functions that they call: that they answer. -/
structure dr.Tot : Prop where
  good : ∀ l : List Int, l.length ≤ 20 → ∃ k r, spec_dbGood.f k l = some r ∧ (r = true → l.length ≤ 4)
  all : ∀ l : List Int, l.length ≤ 4 → ∃ k r, spec_dbAll.f k l = some r ∧ r.length ≤ 16 ∧ ∀ j : Int, 0 ≤ j → j < r.length → ∃ l', spec_dbMake.f l (rd_T48 r j).f0 (rd_T48 r j).f1 = some l' ∧ l'.length ≤ 4
/-- The heaps and the list that are drawn. -/
structure dr.Dbl (w0 : World) (g : Nat) (A : Option Addr) (c : Nat) (xs : List Int) (w : World) (m : Int) (v : Value) (l : List Int) (v2 : Value) (ds : List S48) (W : World) : Prop where
  at_ : dr.At w0 g A c xs m W
  r1 : Kd.R (Kd.int .i64) 3 W w0.heap.size (fun k => w.heap.size ≤ k) v l
  r2 : Kd.R k48 48 W w0.heap.size (fun k => w.heap.size ≤ k) v2 ds
  keep : KeepBut w W g none
  lt : g < w.heap.size
theorem dr.Dbl.drawn {w0 w W W1 : World} {g : Nat} {A : Option Addr} {c : Nat} {xs : List Int} {m m' : Int} {v v2 : Value} {l : List Int} {ds : List S48} (h : dr.Dbl w0 g A c xs w m v l v2 ds W) (ha : dr.At w0 g A c xs m' W1) (hk : KeepBut W W1 g none) : dr.Dbl w0 g A c xs w m' v l v2 ds W1 :=
  ⟨ha, Kd.R_keep h.r1 hk (fun k hk => by have := h.lt; omega), Kd.R_keep h.r2 hk (fun k hk => by have := h.lt; omega), h.keep.trans hk (Or.inl rfl), h.lt⟩
theorem dr.Dbl.next {w0 w W W1 : World} {g : Nat} {A : Option Addr} {c : Nat} {xs : List Int} {m : Int} {v v2 : Value} {l : List Int} {ds : List S48} (h : dr.Dbl w0 g A c xs w m v l v2 ds W) (hb : Below W.heap.size W W1) : dr.Dbl w0 g A c xs w m v l v2 ds W1 :=
  ⟨h.at_.next hb, Kd.R_below h.r1 hb, Kd.R_below h.r2 hb, h.keep.trans (KeepBut.of_below hb g none) (Or.inl rfl), h.lt⟩
theorem dr.Dbl.appended {w0 w W W1 : World} {g : Nat} {A : Option Addr} {c : Nat} {xs : List Int} {m : Int} {v v2 v3 : Value} {l : List Int} {ds ds1 : List S48} (h : dr.Dbl w0 g A c xs w m v l v2 ds W) (ho : Kd.R k48 48 W1 w0.heap.size (fun k => w.heap.size ≤ k) v3 ds1) (hb : Below w0.heap.size w0 W1) (hg : W.grownBy W1 v2.ownBlock) : dr.Dbl w0 g A c xs w m v l v3 ds1 W1 :=
  ⟨h.at_.grown hg (dr.ownNe h.r2 (fun k hk => by have := h.lt; omega)) hb, Kd.R_over' h.r1 (Kd.R_typed h.r2) (by decide) hg, ho, h.keep.trans (KeepBut.of_grown hg g) (dr.ownOr h.r2 (fun _ hk => hk)), h.lt⟩
theorem dr.Dbl.of {w0 w W : World} {g : Nat} {A : Option Addr} {c : Nat} {xs : List Int} {m : Int} {v : Value} {l : List Int} (h : dr.Out w0 g A c xs w m v l W) : dr.Dbl w0 g A c xs w m v l (.slice none 0 0) [] W :=
  ⟨h.at_, h.row, Kd.R_nil _ _ _ _ _, h.keep, h.lt⟩
set_option maxRecDepth 100000 in
set_option maxHeartbeats 8000000 in
theorem dr.dbl (T : dr.Tot) {w0 w : World} {g : Nat} {A : Option Addr} {c : Nat} {xs : List Int} {m : Int} (hr : dr.Row w0 A c xs) (h : dr.At w0 g A c xs m w) (hm : m ≤ 1000) :
    Calls Tryz.prog 42 #[.pointer (some ⟨g, 0, none⟩)] w fun e w' => ∃ (v : Value) (l : List Int) (v2 : Value) (ds : List S48), e = .returned (.tuple #[v, v2]) ∧ l.length ≤ 20 ∧ ds.length ≤ 20 ∧ dr.Dbl w0 g A c xs w (m + 200) v l v2 ds w' := by
  have HP := Aside0.mk (dr.few hr h (by omega))
  have HR := Aside0.mk hr
  have hlt := h.lt
  clear h hr
  go_enter Tryz.func42, Tryz.ntmps42
  go_wp2_with (go_at_call 61; (with_reducible refine HP.out.mono ?_); rintro e w1 ⟨v1, l1, rfl, hl1, ho1⟩; have HO1 := Aside0.mk ho1; obtain ⟨A1, c1, e1⟩ := Kd.R_slice ho1.row; subst e1; clear ho1)
  obtain ⟨k2, r2, e2, hr2⟩ := T.good l1 hl1
  have HG := Aside0.mk (spec_dbGood.calls k2 A1 c1 l1 r2 w1 (Kd.R_reads' HO1.out.row).2.2 (Kd.R_reads' HO1.out.row).2.1 e2)
  clear e2
  cases r2 with
  | false =>
    go_wp2_with (go_at_call 47; (with_reducible refine HG.out.mono ?_); rintro e w2 ⟨rfl, hd⟩; have HO2 := Aside0.mk (dr.Dbl.next (dr.Dbl.of HO1.out) (dr.drew hd)); clear hd)
    go_ret2
    exact ⟨_, l1, _, [], rfl, hl1, by simp, HO2.out.at_.mono (by omega), HO2.out.r1, HO2.out.r2, HO2.out.keep, HO2.out.lt⟩
  | true =>
    have hl4 := hr2 rfl
    go_wp2_with (first
      | (go_at_call 47; (with_reducible refine HG.out.mono ?_); rintro e w2 ⟨rfl, hd⟩; have HO2 := Aside0.mk (dr.Dbl.next (dr.Dbl.of HO1.out) (dr.drew hd)); clear hd HG)
      | (go_at_call 60; (with_reducible refine (dr.pick 8 HR.out HO2.out.at_ (by omega)).mono ?_); rintro e w3 ⟨⟨b3, rfl, hb0, hb1⟩, ha3, hk3⟩; have HO3 := Aside0.mk (HO2.out.drawn ha3 hk3); have hb2 : b3 < 8 := (by omega); clear ha3 hk3 hb1 HO2))
    go_loopg [5, 6, 7] b3.toNat (fun gg s5 s6 s7 wr => ∃ (ds : List S48) (ln : List Int) (kk : Int), s7 = .int .i64 kk ∧ Aside0 (0 ≤ kk ∧ kk ≤ gg ∧ kk + ds.length ≤ 8 ∧ ln.length ≤ 4) ∧ Aside0 (dr.Dbl w0 g A c xs w (m + 62 + 2 * ds.length) (.slice A1 l1.length c1) l1 s5 ds wr) ∧ Aside0 (Kd.R (Kd.int .i64) 3 wr w0.heap.size (fun k => w.heap.size ≤ k) s6 ln))
    case atStart => exact ⟨[], l1, b3, rfl, ⟨by omega, by omega, by simp; omega, hl4⟩, ⟨by have := HO3.out; exact ⟨this.at_.mono (by simp; omega), this.r1, this.r2, this.keep, this.lt⟩⟩, ⟨HO3.out.r1⟩⟩
    case round =>
      clear HO3 HP
      obtain ⟨ds, ln, kk, rfl, HK, HO, HN⟩ := hrel
      obtain ⟨An, cn, en⟩ := Kd.R_slice HN.out
      subst en
      by_cases c1_ : kk > 0
      · obtain ⟨k4, r4, e4, hr4, hr4'⟩ := T.all ln HK.out.2.2.2
        have HD := Aside0.mk (spec_dbAll.calls k4 An cn ln r4 wr (Kd.R_reads' HN.out).2.2 (Kd.R_reads' HN.out).2.1 e4)
        have w2_ : wrap64 (kk - 1) = kk - 1 := by have := HK.out; unfold wrap64; omega
        clear e4
        by_cases c2_ : r4.length = 0
        · have q1 : ((r4.length : Int) = 0) := by omega
          go_wp2_with (first
            | (go_at_call 62; (with_reducible refine HD.out.mono ?_); rintro e w2 ⟨v8, rfl, hR8, hb8⟩; have HO2 := Aside0.mk (HO.out.next hb8); obtain ⟨A8, c8, e8⟩ := Kd.R_slice hR8; subst e8; clear hR8 hb8)
            | (go_at_call 56; (with_reducible refine (dr.one 10 HR.out HO2.out.at_ (by have := HK.out; omega)).mono ?_); rintro e wa ⟨⟨ba, rfl⟩, ha, hk⟩; have HA := Aside0.mk (HO2.out.drawn ha hk); clear ha hk)
            | (go_at_call 31; (with_reducible refine (dr.amongLit (w := wa) _ _ [-1, 0, 1, 3, 4611686018427387904] ?s1 ?s2 ?s3 ?s4 HR.out HA.out.at_ (by have := HK.out; omega)).mono ?_); (case s1 => rfl); (case s2 => rfl); (case s3 => omega); (case s4 => omega); rintro e wb ⟨⟨bb, rfl⟩, ha, hk⟩; have HB := Aside0.mk (HA.out.drawn ha hk); clear ha hk)
            | (go_at_call 31; (with_reducible refine (dr.amongLit (w := wb) _ _ [-1, 0, 1, 4] ?s1 ?s2 ?s3 ?s4 HR.out HB.out.at_ (by have := HK.out; omega)).mono ?_); (case s1 => rfl); (case s2 => rfl); (case s3 => omega); (case s4 => omega); rintro e wc ⟨⟨bc, rfl⟩, ha, hk⟩; have HC := Aside0.mk (HB.out.drawn ha hk); clear ha hk)
            | ((with_reducible refine gate_builtin (b := .append) (xs := #[.tmp 44, .tmp 52]) rfl ?_); at_builtin; refine Kd.R_append k48 w0.heap.size rfl (.tmp 44) (.tmp 52) 34 48 (.agg #[.int .i64 0, .int .i64 0]) 16 rfl Tryz.underlying34 info48 rfl (by decide) (by omega) _ ds (⟨bb, bc⟩ : S48) [.int .i64 bb, .int .i64 bc] (fun k_ => w.heap.size ≤ k_) (fun _ => False) rfl rfl ?aP (fun _ hk => hk.elim) ?aF HC.out.r2 HC.out.at_.below ?aS ?aL ?_; (case aP => exact k48_mkM _ _ _ _); (case aF => exact (fun k_ hk => Nat.le_trans HC.out.keep.1 hk)); (case aS => exact HC.out.at_.below.size); (case aL => have := HK.out; omega); intro v236 w8 ho hb hg hat; have HD2 := Aside0.mk (HC.out.appended ho hb hg); clear ho hb hg hat))
          · go_ret2
            exact ⟨_, l1, v236, ds ++ [(⟨bb, bc⟩ : S48)], rfl, hl1, by have := HK.out; simp; omega, HD2.out.at_.mono (by have := HK.out; omega), HD2.out.r1, HD2.out.r2, HD2.out.keep, HD2.out.lt⟩
          · go_ret2
            exact ⟨_, l1, _, ds, rfl, hl1, by have := HK.out; omega, HA.out.at_.mono (by have := HK.out; omega), HA.out.r1, HA.out.r2, HA.out.keep, HA.out.lt⟩
        · have q1 : ¬ ((r4.length : Int) = 0) := by omega
          go_wp2_with (first
            | (go_at_call 62; (with_reducible refine HD.out.mono ?_); rintro e w2 ⟨v8, rfl, hR8, hb8⟩; have HO2 := Aside0.mk (HO.out.next hb8); have HN2 := Aside0.mk (Kd.R_below HN.out hb8); have HA2 := Aside0.mk (Kd.R_mono (Kd.R_bound hR8) (fun k hk => (show w.heap.size ≤ k from Nat.le_trans HO.out.keep.1 hk.2.1))); obtain ⟨A8, c8, e8⟩ := Kd.R_slice hR8; subst e8; clear hR8 hb8)
            | (go_at_call 60; (with_reducible refine (dr.pick (r4.length : Int) HR.out HO2.out.at_ (by have := HK.out; omega)).mono ?_); rintro e w3 ⟨⟨b4, rfl, hb40, hb41⟩, ha3, hk3⟩; have HO3 := Aside0.mk (HO2.out.drawn ha3 hk3); have HN3 := Aside0.mk (Kd.R_keep HN2.out hk3 (fun k hk => by have := HO2.out.lt; omega)); have HA3 := Kd.R_keep HA2.out hk3 (fun k hk => by have := HO2.out.lt; omega); have hlt4 : b4 < (r4.length : Int) := (by omega); obtain ⟨l5, e5, hl5⟩ := hr4' b4 hb40 hlt4; have HE5 := Aside0.mk e5; have HL5 := Aside0.mk hl5; clear e5 hl5; obtain ⟨ad, e1, hx0, hx1⟩ := at_T48 (Kd.R_reads' HA3).2.2 b4 hb40 hlt4; cases e1; clear ha3 hk3 hb41 HA3; have HO4 := Aside0.mk (HO3.out.next (below_alloc (Below.refl _ _) (.cells #[.int .i64 (rd_T48 r4 b4).f0, .int .i64 (rd_T48 r4 b4).f1] 48))); have HN4 := Aside0.mk (Kd.R_below HN3.out (below_alloc (Below.refl _ _) (.cells #[.int .i64 (rd_T48 r4 b4).f0, .int .i64 (rd_T48 r4 b4).f1] 48))); have HX4 := Aside0.mk (And.intro (blk_new w3 (.cells #[.int .i64 (rd_T48 r4 b4).f0, .int .i64 (rd_T48 r4 b4).f1] 48)) (show some w3.heap.size ≠ _ from fun e => Nat.lt_irrefl _ (Kd.R_lt HO3.out.r2 _ e.symm))))
            | ((with_reducible refine gate_builtin (b := .append) (xs := #[.tmp 35, .tmp 37]) rfl ?_); at_builtin; refine Kd.R_append k48 w0.heap.size rfl (.tmp 35) (.tmp 37) 34 48 (.agg #[.int .i64 0, .int .i64 0]) 16 rfl Tryz.underlying34 info48 rfl (by decide) (by omega) _ ds (rd_T48 r4 b4) [.int .i64 (rd_T48 r4 b4).f0, .int .i64 (rd_T48 r4 b4).f1] (fun k_ => w.heap.size ≤ k_) (fun _ => False) rfl ?aX ?aP (fun _ hk => hk.elim) ?aF HO4.out.r2 HO4.out.at_.below ?aS ?aL ?_; (case aX => first | rfl | (show Value.slice (some ⟨w3.heap.size + 1, 0, none⟩) 1 1 = _; rw [show (w3.alloc (.cells #[.int .i64 (rd_T48 r4 b4).f0, .int .i64 (rd_T48 r4 b4).f1] 48)).heap.size = w3.heap.size + 1 from by simp])); (case aP => exact k48_mkM _ _ _ _); (case aF => exact (fun k_ hk => Nat.le_trans HO4.out.keep.1 hk)); (case aS => exact HO4.out.at_.below.size); (case aL => have := HK.out; omega); intro v236 w8 ho hb hg hat; have HO5 := Aside0.mk (HO4.out.appended ho hb hg); have HN5 := Aside0.mk (Kd.R_over' HN4.out (Kd.R_typed HO4.out.r2) (by decide) hg); have hx5 := blk_grown HX4.out.1 hg HX4.out.2; have hy0 := blk_cell hx5 0; have hy1 := blk_cell hx5 1; clear ho hb hg hat hx5)
            | (go_at_call 50; (with_reducible refine (spec_dbMake.calls An cn ln _ _ l5 w8 (Kd.R_reads' HN5.out).2.2 (Kd.R_reads' HN5.out).2.1 HE5.out).mono ?_); rintro e w9 ⟨v9, rfl, hR9, hb9⟩; have HO6 := Aside0.mk (HO5.out.next hb9); have HN6 := Aside0.mk (Kd.R_lower (Kd.R_mono (Kd.R_bound hR9) (fun k hk => (show w.heap.size ≤ k from Nat.le_trans HO5.out.keep.1 hk.2.1))) HO5.out.at_.below.size); clear hR9 hb9))
          go_roundg (kk - 1).toNat
          case measure => have := HK.out; omega
          case rel => exact ⟨ds ++ [rd_T48 r4 b4], l5, kk - 1, by first | rfl | rw [w2_], ⟨by omega, by omega, by have := HK.out; simp; omega, HL5.out⟩, ⟨⟨HO6.out.at_.mono (by simp; omega), HO6.out.r1, HO6.out.r2, HO6.out.keep, HO6.out.lt⟩⟩, HN6⟩
      · skip
        go_wp2_with (first
          | (go_at_call 56; (with_reducible refine (dr.one 10 HR.out HO.out.at_ (by have := HK.out; omega)).mono ?_); rintro e wa ⟨⟨ba, rfl⟩, ha, hk⟩; have HA := Aside0.mk (HO.out.drawn ha hk); clear ha hk)
          | (go_at_call 31; (with_reducible refine (dr.amongLit (w := wa) _ _ [-1, 0, 1, 3, 4611686018427387904] ?s1 ?s2 ?s3 ?s4 HR.out HA.out.at_ (by have := HK.out; omega)).mono ?_); (case s1 => rfl); (case s2 => rfl); (case s3 => omega); (case s4 => omega); rintro e wb ⟨⟨bb, rfl⟩, ha, hk⟩; have HB := Aside0.mk (HA.out.drawn ha hk); clear ha hk)
          | (go_at_call 31; (with_reducible refine (dr.amongLit (w := wb) _ _ [-1, 0, 1, 4] ?s1 ?s2 ?s3 ?s4 HR.out HB.out.at_ (by have := HK.out; omega)).mono ?_); (case s1 => rfl); (case s2 => rfl); (case s3 => omega); (case s4 => omega); rintro e wc ⟨⟨bc, rfl⟩, ha, hk⟩; have HC := Aside0.mk (HB.out.drawn ha hk); clear ha hk)
          | ((with_reducible refine gate_builtin (b := .append) (xs := #[.tmp 44, .tmp 52]) rfl ?_); at_builtin; refine Kd.R_append k48 w0.heap.size rfl (.tmp 44) (.tmp 52) 34 48 (.agg #[.int .i64 0, .int .i64 0]) 16 rfl Tryz.underlying34 info48 rfl (by decide) (by omega) _ ds (⟨bb, bc⟩ : S48) [.int .i64 bb, .int .i64 bc] (fun k_ => w.heap.size ≤ k_) (fun _ => False) rfl rfl ?aP (fun _ hk => hk.elim) ?aF HC.out.r2 HC.out.at_.below ?aS ?aL ?_; (case aP => exact k48_mkM _ _ _ _); (case aF => exact (fun k_ hk => Nat.le_trans HC.out.keep.1 hk)); (case aS => exact HC.out.at_.below.size); (case aL => have := HK.out; omega); intro v236 w8 ho hb hg hat; have HD2 := Aside0.mk (HC.out.appended ho hb hg); clear ho hb hg hat))
        · go_ret2
          exact ⟨_, l1, v236, ds ++ [(⟨bb, bc⟩ : S48)], rfl, hl1, by have := HK.out; simp; omega, HD2.out.at_.mono (by have := HK.out; omega), HD2.out.r1, HD2.out.r2, HD2.out.keep, HD2.out.lt⟩
        · go_ret2
          exact ⟨_, l1, _, ds, rfl, hl1, by have := HK.out; omega, HA.out.at_.mono (by have := HK.out; omega), HA.out.r1, HA.out.r2, HA.out.keep, HA.out.lt⟩

/-! ### spec_DrawPlayDoublings: function 18, by hand -/
set_option maxRecDepth 100000 in
set_option maxHeartbeats 4000000 in
theorem dr.DrawPlayDoublings (T : dr.Tot) {w : World} {A : Option Addr} {c : Nat} {xs : List Int} (hr : dr.Row w A c xs) :
    Calls Tryz.prog 18 #[.slice A xs.length c] w fun e w' => ∃ (v : Value) (l : List Int) (v2 : Value) (ds : List S48), e = .returned (.tuple #[v, v2]) ∧ l.length ≤ 20 ∧ ds.length ≤ 20 ∧ Kd.R (Kd.int .i64) 3 w' w.heap.size (fun _ => True) v l ∧ Kd.R k48 48 w' w.heap.size (fun _ => True) v2 ds ∧ Below w.heap.size w w' := by
  have HP := Aside0.mk (dr.dbl T hr (dr.start w A c xs) (by omega))
  clear hr
  go_enter Tryz.func18, Tryz.ntmps18
  go_wp2_with (go_at_call 42; (with_reducible refine HP.out.mono ?_); rintro e w1 ⟨v, l, v2, ds, rfl, hl, hd, ho⟩; have HO := Aside0.mk ho; clear ho)
  go_ret2
  exact ⟨v, l, v2, ds, rfl, hl, hd, Kd.R_mono HO.out.r1 (fun _ _ => trivial), Kd.R_mono HO.out.r2 (fun _ _ => trivial), HO.out.at_.below⟩

/-! ### slices_IndexFunc_int_int: function 97, by hand -/
/-- The first place, from i on, at which p holds; or -1. -/
def idxP (p : Int → Bool) : List Int → Int → Int
  | [], _ => -1
  | x :: xs, i => if p x = true then i else idxP p xs (i + 1)
theorem drop_rd (l : List Int) (i : Int) (h0 : 0 ≤ i) (h : i < (l.length : Int)) : l.drop i.toNat = rd l i :: l.drop (i + 1).toNat := by
  have e : (i + 1).toNat = i.toNat + 1 := by omega
  have hl : i.toNat < l.length := by omega
  rw [e, List.drop_eq_getElem_cons hl]
  simp [rd, List.getD_eq_getElem?_getD, List.getElem?_eq_getElem hl]
theorem idxP_nonneg (p : Int → Bool) : ∀ (l : List Int) (i : Int), 0 ≤ i → decide (0 ≤ idxP p l i) = l.any p
  | [], i, h => by simp [idxP]
  | x :: xs, i, h => by
    by_cases e : p x = true
    · simp [idxP, e, h]
    · have := idxP_nonneg p xs (i + 1) (by omega)
      simp [idxP, e] at this ⊢
      exact this
set_option maxHeartbeats 2000000 in
theorem slices_IndexFunc_int_int.calls_p (p : Int → Bool) (g : Nat) (lb : Array Value) (eg : ∀ args w, (callFunc g args).run Tryz.prog w = .ok (.enter g args) w) (A0 : Option Addr) (c0 : Nat) (l0 : List Int) (w : World)
    (hp : ∀ (x : Int) (q : Nat), Calls Tryz.prog g (#[.int .i64 x] ++ lb) (w.drewN q) fun e w' => e = .returned (.bool (p x)) ∧ ∃ q', w' = (w.drewN q).drewN q')
    (hr0 : Kd.C (Kd.int .i64) w A0 l0.length l0) :
    Calls Tryz.prog 97 #[.slice A0 l0.length c0, .func (.func g) #[] lb] w fun e w' => e = .returned (.int .i64 (idxP p l0 0)) ∧ Drawn0 w w' := by
  have HR0 := Aside0.mk hr0
  clear hr0
  go_enter Tryz.func97, Tryz.ntmps97
  go_wp2
  go_loopg [5, 8] l0.length (fun gg _ s8 wr => ∃ (kk : Int) (q : Nat), s8 = .int .i64 kk ∧ wr = w.drewN q ∧ Aside0 (0 ≤ kk ∧ kk ≤ (l0.length : Int) ∧ (l0.length : Int) - kk ≤ (gg : Int) ∧ idxP p (l0.drop kk.toNat) kk = idxP p l0 0))
  case atStart => exact ⟨0, 0, rfl, rfl, ⟨by omega, by omega, by omega, by simp⟩⟩
  case round =>
    obtain ⟨kk, q, rfl, rfl, HK⟩ := hrel
    by_cases hlt : kk < (l0.length : Int)
    · have p1 : 0 ≤ kk := HK.out.1
      obtain ⟨ad, e, hx⟩ := Kd.at_int HR0.out kk p1 hlt
      cases e
      have hp0 := hp (rd l0 kk)
      have HD := Aside0.mk (drop_rd l0 kk p1 hlt)
      have w1 : Aside0 (wrap64 (kk + 1) = kk + 1) := ⟨by
        have hm := Kd.C_max HR0.out
        unfold wrap64
        omega⟩
      clear hp
      cases hq : p (rd l0 kk) with
      | true =>
        rw [hq] at hp0
        have HQ := Aside0.mk hq
        clear hq
        go_wp2_with (go_at_fn g; refine (hp0 _).mono ?_; rintro e w' ⟨rfl, q', rfl⟩)
        go_ret
        refine ⟨?_, ⟨_, rfl⟩⟩
        rw [← HK.out.2.2.2, HD.out]
        simp only [idxP]
        rw [if_pos HQ.out]
        rfl
      | false =>
        rw [hq] at hp0
        have HQ := Aside0.mk hq
        clear hq
        go_wp2_with (go_at_fn g; refine (hp0 _).mono ?_; rintro e w' ⟨rfl, q', rfl⟩)
        go_roundg ((l0.length : Int) - (kk + 1)).toNat
        case measure => have := HK.out; omega
        case rel =>
          refine ⟨kk + 1, _, by rw [w1.out], rfl, ⟨by omega, by omega, by omega, ?_⟩⟩
          rw [← HK.out.2.2.2, HD.out]
          simp only [idxP]
          rw [if_neg (by rw [HQ.out]; simp)]
    · have e : idxP p l0 0 = -1 := by
        have := HK.out
        rw [← this.2.2.2, List.drop_eq_nil_of_le (by omega)]
        rfl
      have HE := Aside0.mk e
      clear e
      go_wp2
      go_ret
      exact ⟨by rw [HE.out]; rfl, ⟨_, rfl⟩⟩

/-! ### slices_ContainsFunc_int_int: function 85, by hand -/
set_option maxHeartbeats 2000000 in
theorem slices_ContainsFunc_int_int.calls_p (p : Int → Bool) (g : Nat) (lb : Array Value) (eg : ∀ args w, (callFunc g args).run Tryz.prog w = .ok (.enter g args) w) (A0 : Option Addr) (c0 : Nat) (l0 : List Int) (w : World)
    (hp : ∀ (x : Int) (q : Nat), Calls Tryz.prog g (#[.int .i64 x] ++ lb) (w.drewN q) fun e w' => e = .returned (.bool (p x)) ∧ ∃ q', w' = (w.drewN q).drewN q')
    (hr0 : Kd.C (Kd.int .i64) w A0 l0.length l0) :
    Calls Tryz.prog 85 #[.slice A0 l0.length c0, .func (.func g) #[] lb] w fun e w' => e = .returned (.bool (l0.any p)) ∧ Drawn0 w w' := by
  rw [show l0.any p = decide (0 ≤ idxP p l0 0) from (idxP_nonneg p l0 0 (Int.le_refl 0)).symm]
  have HR0 := Aside0.mk hr0
  have HP := Aside0.mk hp
  clear hr0 hp
  go_enter Tryz.func85, Tryz.ntmps85
  go_wp2_with (go_at_call 97; refine (slices_IndexFunc_int_int.calls_p p g lb eg _ _ l0 _ HP.out HR0.out).mono ?_; rintro e w' ⟨rfl, ⟨q, rfl⟩⟩)
  go_ret
  exact ⟨rfl, ⟨_, rfl⟩⟩

/-! ### impl_areIn: function 76, by hand -/
def impl_areIn.f (l0 : List Int) (a1 : Int) (a2 : Int) : Option (Bool) := some (l0.all fun x => decide (a1 ≤ x) && decide (x ≤ a2))
theorem impl_areIn.win (x a b : Int) : impl_within.f x a b = some (decide (a ≤ x) && decide (x ≤ b)) := by
  unfold impl_within.f
  by_cases h : x ≥ a
  · simp [h, show a ≤ x from h]
  · simp [h, show ¬ a ≤ x from h]
set_option maxHeartbeats 2000000 in
theorem impl_areIn.lit (lo hi : Int) (B C : Nat) (x : Int) (W : World) (hB : W.cell? ⟨B, 0, none⟩ = some (.int .i64 lo)) (hC : W.cell? ⟨C, 0, none⟩ = some (.int .i64 hi)) :
    Calls Tryz.prog 86 #[.int .i64 x, .pointer (some ⟨B, 0, none⟩), .pointer (some ⟨C, 0, none⟩)] W fun e w' => e = .returned (.bool (!(decide (lo ≤ x) && decide (x ≤ hi)))) ∧ ∃ q, w' = W.drewN q := by
  have hf : impl_within.f x lo hi = some (decide (lo ≤ x) && decide (x ≤ hi)) := impl_areIn.win x lo hi
  have HF := Aside0.mk hf
  clear hf
  generalize (decide (lo ≤ x) && decide (x ≤ hi)) = r at HF ⊢
  go_enter Tryz.func86, Tryz.ntmps86
  go_wp2_with (go_at_call 33; refine (impl_within.calls _ _ _ r _ HF.out).mono ?_; rintro e w' ⟨rfl, ⟨q, rfl⟩⟩)
  go_ret
  exact ⟨rfl, _, rfl⟩
set_option maxHeartbeats 2000000 in
theorem impl_areIn.calls (A0 : Option Addr) (c0 : Nat) (l0 : List Int) (a1 : Int) (a2 : Int) (r : Bool) (w : World) (hr0 : Kd.C (Kd.int .i64) w A0 l0.length l0) (hc0 : l0.length ≤ c0) (h : impl_areIn.f l0 a1 a2 = some r) :
    Calls Tryz.prog 76 #[.slice A0 l0.length c0, .int .i64 a1, .int .i64 a2] w fun e w' => e = .returned (.bool r) ∧ Below w.heap.size w w' := by
  have eg : ∀ args w, (callFunc 86 args).run Tryz.prog w = .ok (.enter 86 args) w := enters_of Tryz.func86 (by kernel_rfl) rfl
  have hb1 : Below w.heap.size w ((w.alloc (.cells #[.int .i64 a1] 3)).alloc (.cells #[.int .i64 a2] 3)) := ((Below.refl _ w).alloc (Nat.le_refl _) _).alloc (by simp) _
  have hcon := slices_ContainsFunc_int_int.calls_p (fun x => !(decide (a1 ≤ x) && decide (x ≤ a2))) 86 #[.pointer (some ⟨w.heap.size, 0, none⟩), .pointer (some ⟨w.heap.size + 1, 0, none⟩)] eg A0 c0 l0 ((w.alloc (.cells #[.int .i64 a1] 3)).alloc (.cells #[.int .i64 a2] 3))
    (fun x q => impl_areIn.lit a1 a2 _ _ x _ (by simp) (by simp)) (Kd.C_below hr0 hb1)
  have hr : (!(l0.any fun x => !(decide (a1 ≤ x) && decide (x ≤ a2)))) = r := by
    have h1 := Option.some.inj h
    rw [← h1, ← List.not_all_eq_any_not, Bool.not_not]
  have HE := Aside0.mk hr
  have HB1 := Aside0.mk hb1
  have HCON := Aside0.mk hcon
  clear hr0 hc0 h hb1 hr hcon
  generalize (l0.any fun x => !(decide (a1 ≤ x) && decide (x ≤ a2))) = b at HE HCON
  go_enter Tryz.func76, Tryz.ntmps76
  go_wp2_with (go_at_call 85; refine HCON.out.mono ?_; rintro e w' ⟨rfl, ⟨q, rfl⟩⟩)
  go_ret
  exact ⟨by rw [← HE.out]; rfl, pw_below_drewN HB1.out _⟩

/-! ### impl_AreHeaps: function 63 -/
def impl_AreHeaps.f (l0 : List Int) : Option (Bool) := (impl_within.f (l0.length : Int) 1 12).bind fun t189 => (if t189 = true then ((impl_areIn.f l0 0 1000).bind fun t190 => (some t190)) else (some false))
set_option maxHeartbeats 8000000 in
set_option maxRecDepth 100000 in
theorem impl_AreHeaps.calls (A0 : Option Addr) (c0 : Nat) (l0 : List Int) (r : Bool) (w : World) (hr0 : Kd.C (Kd.int .i64) w A0 l0.length l0) (hc0 : l0.length ≤ c0) (h : impl_AreHeaps.f l0 = some r) :
    Calls Tryz.prog 63 #[.slice A0 l0.length c0] w fun e w' => e = .returned (.bool r) ∧ Below w.heap.size w w' := by
  have HR0 := Aside0.mk hr0
  have HC0 := Aside0.mk hc0
  clear hr0 hc0
  have HB := Aside0.mk (Below.refl w.heap.size w)
  have H : ((impl_within.f (l0.length : Int) 1 12).bind fun t189 => (if t189 = true then ((impl_areIn.f l0 0 1000).bind fun t190 => (some t190)) else (some false))) = some r := h
  clear h
  replace H := Option.bind_eq_some_iff.mp H
  obtain ⟨t189, A20, H⟩ := H
  replace H : (if t189 = true then ((impl_areIn.f l0 0 1000).bind fun t190 => (some t190)) else (some false)) = some r := H
  have A2 := Aside0.mk A20
  clear A20
  by_cases c3 : t189 = true
  · subst c3
    have H1 : ((impl_areIn.f l0 0 1000).bind fun t190 => (some t190)) = some r := by rw [if_pos rfl] at H; exact H
    clear H
    have H := H1
    clear H1
    replace H := Option.bind_eq_some_iff.mp H
    obtain ⟨t190, A40, H⟩ := H
    replace H : (some t190) = some r := H
    have A4 := Aside0.mk A40
    clear A40
    obtain rfl := Option.some.inj H
    go_enter Tryz.func63, Tryz.ntmps63
    go_wp2_with (first | ((with_reducible refine gate_callee (f := 33) rfl ?_); refine goesL_ (some 5) rfl rfl Tryz.func33 (by kernel_rfl) rfl #[.int .i64 (l0.length : Int), .int .i64 1, .int .i64 12] rfl (by (try simp only [List.map_toArray, List.map_cons, List.map_nil]); first | done | rfl | (simp only [List.length_drop, List.length_take]; rfl)) ?_; (with_reducible refine (impl_within.calls (l0.length : Int) 1 12 true _ A2.out).mono ?_); rintro e w' ⟨rfl, ⟨nd, rfl⟩⟩; refine ⟨_, rfl, ?_⟩) | (go_at_call 76; (with_reducible refine (impl_areIn.calls _ _ l0 0 1000 t190 _ ?side1 ?side2 A4.out).mono ?_); (case side1 => repeat (first | exact HR0.out | (with_reducible refine Kd.C_alloc ?_ _) | (with_reducible refine Kd.C_drewN ?_ _) | (with_reducible refine Kd.C_drew ?_))); (case side2 => exact HC0.out); rintro e w5 ⟨rfl, hb⟩; have n0_ := Aside0.mk (below_step (by repeat (first | (with_reducible first | exact HB.out | apply below_alloc | apply pw_below_drewN | apply below_drew1) | exact HB.out)) hb); clear HB; have HB := n0_; clear n0_; (try clear hb); (try clear hb2); (try clear hk); (try clear hi)))
    go_ret
    exact ⟨by first | rfl | (simp [errW_none, errW_some] <;> rfl) | (simp [*, errW_none, errW_some] <;> rfl), by repeat (first | (with_reducible first | exact HB.out | apply below_alloc | apply pw_below_drewN | apply below_drew1) | exact HB.out)⟩
  · replace c3 := Bool.eq_false_iff.mpr c3
    subst c3
    have H1 : (some false) = some r := by rw [if_neg (show ¬ (false = true) by decide)] at H; exact H
    clear H
    have H := H1
    clear H1
    obtain rfl := Option.some.inj H
    go_enter Tryz.func63, Tryz.ntmps63
    go_wp2_with (first | ((with_reducible refine gate_callee (f := 33) rfl ?_); refine goesL_ (some 5) rfl rfl Tryz.func33 (by kernel_rfl) rfl #[.int .i64 (l0.length : Int), .int .i64 1, .int .i64 12] rfl (by (try simp only [List.map_toArray, List.map_cons, List.map_nil]); first | done | rfl | (simp only [List.length_drop, List.length_take]; rfl)) ?_; (with_reducible refine (impl_within.calls (l0.length : Int) 1 12 false _ A2.out).mono ?_); rintro e w' ⟨rfl, ⟨nd, rfl⟩⟩; refine ⟨_, rfl, ?_⟩))
    go_ret
    exact ⟨by first | rfl | (simp [errW_none, errW_some] <;> rfl) | (simp [*, errW_none, errW_some] <;> rfl), by repeat (first | (with_reducible first | exact HB.out | apply below_alloc | apply pw_below_drewN | apply below_drew1) | exact HB.out)⟩

/-! ### impl_sum: function 64 -/
def impl_sum.l0 : Nat → Int → List Int → Int → Int → Option (Int)
  | 0, _, _, _, _ => none
  | k + 1, x3, x6, x7, x8 => if x8 < x7 then (if 0 ≤ x8 then (if x8 < (x6.length : Int) then (impl_sum.l0 k (wrap64 (x3 + (rd x6 x8))) x6 x7 (wrap64 (x8 + 1))) else (none)) else (none)) else (some x3)
def impl_sum.f (k : Nat) (l0 : List Int) : Option (Int) := impl_sum.l0 k 0 l0 (l0.length : Int) 0
theorem impl_sum.mono_l : ∀ k, (∀ y0 y1 y2 y3, LeO (impl_sum.l0 k y0 y1 y2 y3) (impl_sum.l0 (k + 1) y0 y1 y2 y3))
  | 0 => fun _ _ _ _ r h => by simp [impl_sum.l0] at h
  | k + 1 => by
    have ih0 := impl_sum.mono_l k
    · intro y0 y1 y2 y3
      unfold impl_sum.l0
      repeat' first
      | (with_reducible exact ih0 _ _ _ _)
      | (with_reducible exact LeO.refl _)
      | (with_reducible exact LeO.none _)
      | (with_reducible refine LeO.ite ?_ ?_)
      | (with_reducible refine LeO.bind ?_ (fun _ => ?_))
      | exact ih0 _ _ _ _
      | exact LeO.none _
      | refine LeO.ite ?_ ?_
      | refine LeO.bind ?_ (fun _ => ?_)
theorem impl_sum.mono : ∀ a0 k, LeO (impl_sum.f k a0) (impl_sum.f (k + 1) a0) := by
  intro a0 k
  have ih0 := impl_sum.mono_l k
  unfold impl_sum.f
  repeat' first
      | (with_reducible exact ih0 _ _ _ _)
      | (with_reducible exact LeO.refl _)
      | (with_reducible exact LeO.none _)
      | (with_reducible refine LeO.ite ?_ ?_)
      | (with_reducible refine LeO.bind ?_ (fun _ => ?_))
      | exact ih0 _ _ _ _
      | exact LeO.none _
      | refine LeO.ite ?_ ?_
      | refine LeO.bind ?_ (fun _ => ?_)
set_option maxHeartbeats 8000000 in
set_option maxRecDepth 100000 in
theorem impl_sum.calls (k : Nat) (A0 : Option Addr) (c0 : Nat) (l0 : List Int) (r : Int) (w : World) (hr0 : Kd.C (Kd.int .i64) w A0 l0.length l0) (hc0 : l0.length ≤ c0) (h : impl_sum.f k l0 = some r) :
    Calls Tryz.prog 64 #[.slice A0 l0.length c0] w fun e w' => e = .returned (.int .i64 r) ∧ Drawn0 w w' := by
  have HR0 := Aside0.mk hr0
  have HC0 := Aside0.mk hc0
  clear hr0 hc0
  have H : (impl_sum.l0 k 0 l0 (l0.length : Int) 0) = some r := h
  clear h
  have H' := Aside0.mk H
  clear H
  go_enter Tryz.func64, Tryz.ntmps64
  go_wp2
  go_loopg [3, 8] k (fun kq v3 v8 w' => ∃ (x3_1 : Int) (x8_1 : Int), v3 = .int .i64 x3_1 ∧ v8 = .int .i64 x8_1 ∧ Aside0 (impl_sum.l0 kq x3_1 l0 (l0.length : Int) x8_1 = some r) ∧ Aside0 (kq ≤ k) ∧ Drawn0 w w')
  case atStart => exact ⟨(0), (0), (by first | rfl | (simp; done) | (simp [*]; done)), (by first | rfl | (simp; done) | (simp [*]; done)), H', ⟨Nat.le_refl _⟩, by repeat (first | exact Drawn0.refl _ | apply Drawn0.step)⟩
  case round =>
    clear H'
    obtain ⟨x3_1, x8_1, rfl, rfl, HA, HK1, ⟨m1, rfl⟩⟩ := hrel
    cases gk with
    | zero => exact absurd HA.out (by simp [impl_sum.l0])
    | succ k1 =>
      have H := HA.out
      clear HA
      simp only [impl_sum.l0] at H
      by_cases c2 : x8_1 < (l0.length : Int)
      · rw [if_pos c2] at H
        have c2b0 : decide (x8_1 < (l0.length : Int)) = true := decide_eq_true c2
        clear c2
        by_cases c3 : 0 ≤ x8_1
        · rw [if_pos c3] at H
          have c3b0 : decide (0 ≤ x8_1) = true := decide_eq_true c3
          clear c3
          by_cases c4 : x8_1 < (l0.length : Int)
          · rw [if_pos c4] at H
            have c4b0 : decide (x8_1 < (l0.length : Int)) = true := decide_eq_true c4
            clear c4
            have H' := Aside0.mk H
            clear H
            have p191 : 0 ≤ (x8_1 : Int) := of_decide_eq_true (by first | (with_reducible assumption) | assumption)
            have q191 : x8_1 < (l0.length : Int) := of_decide_eq_true (by first | (with_reducible assumption) | assumption)
            obtain ⟨ad191, e191, hx191_0⟩ := Kd.at_int HR0.out x8_1 p191 q191
            cases e191
            replace p191 := eq_true p191
            replace q191 := eq_true q191
            go_wp2
            go_roundg k1
            case measure => have := HK1.out; omega
            case rel => exact ⟨(wrap64 (x3_1 + (rd l0 x8_1))), (wrap64 (x8_1 + 1)), (by first | rfl | (simp; done) | (simp [*]; done)), (by first | rfl | (simp; done) | (simp [*]; done)), H', ⟨by have := HK1.out; omega⟩, by repeat (first | exact Drawn0.refl _ | apply Drawn0.step)⟩
          · rw [if_neg c4] at H
            exact absurd H (by simp)
        · rw [if_neg c3] at H
          exact absurd H (by simp)
      · rw [if_neg c2] at H
        have c2b0 : decide (x8_1 < (l0.length : Int)) = false := decide_eq_false c2
        clear c2
        obtain rfl := Option.some.inj H
        go_wp2
        go_ret
        exact ⟨by first | rfl | (simp; done) | (simp [*]; done), by repeat (first | exact Drawn0.refl _ | apply Drawn0.step)⟩

/-! ### impl_AreFewHeaps: function 43 -/
def impl_AreFewHeaps.f (k : Nat) (l0 : List Int) : Option (Bool) := (impl_AreHeaps.f l0).bind fun t192 => (if t192 = true then ((impl_within.f (l0.length : Int) 2 4).bind fun t193 => (if t193 = true then ((impl_sum.f k l0).bind fun t194 => ((impl_within.f t194 1 40).bind fun t195 => (some t195))) else (some false))) else (some false))
theorem impl_AreFewHeaps.mono : ∀ a0 k, LeO (impl_AreFewHeaps.f k a0) (impl_AreFewHeaps.f (k + 1) a0) := by
  intro a0 k
  unfold impl_AreFewHeaps.f
  repeat' first
      | (with_reducible exact impl_sum.mono _ _)
      | (with_reducible exact LeO.refl _)
      | (with_reducible exact LeO.none _)
      | (with_reducible refine LeO.ite ?_ ?_)
      | (with_reducible refine LeO.bind ?_ (fun _ => ?_))
      | exact impl_sum.mono _ _
      | exact LeO.none _
      | refine LeO.ite ?_ ?_
      | refine LeO.bind ?_ (fun _ => ?_)
set_option maxHeartbeats 8000000 in
set_option maxRecDepth 100000 in
theorem impl_AreFewHeaps.calls (k : Nat) (A0 : Option Addr) (c0 : Nat) (l0 : List Int) (r : Bool) (w : World) (hr0 : Kd.C (Kd.int .i64) w A0 l0.length l0) (hc0 : l0.length ≤ c0) (h : impl_AreFewHeaps.f k l0 = some r) :
    Calls Tryz.prog 43 #[.slice A0 l0.length c0] w fun e w' => e = .returned (.bool r) ∧ Below w.heap.size w w' := by
  have HR0 := Aside0.mk hr0
  have HC0 := Aside0.mk hc0
  clear hr0 hc0
  have HB := Aside0.mk (Below.refl w.heap.size w)
  have H : ((impl_AreHeaps.f l0).bind fun t192 => (if t192 = true then ((impl_within.f (l0.length : Int) 2 4).bind fun t193 => (if t193 = true then ((impl_sum.f k l0).bind fun t194 => ((impl_within.f t194 1 40).bind fun t195 => (some t195))) else (some false))) else (some false))) = some r := h
  clear h
  replace H := Option.bind_eq_some_iff.mp H
  obtain ⟨t192, A20, H⟩ := H
  replace H : (if t192 = true then ((impl_within.f (l0.length : Int) 2 4).bind fun t193 => (if t193 = true then ((impl_sum.f k l0).bind fun t194 => ((impl_within.f t194 1 40).bind fun t195 => (some t195))) else (some false))) else (some false)) = some r := H
  have A2 := Aside0.mk A20
  clear A20
  by_cases c3 : t192 = true
  · subst c3
    have H1 : ((impl_within.f (l0.length : Int) 2 4).bind fun t193 => (if t193 = true then ((impl_sum.f k l0).bind fun t194 => ((impl_within.f t194 1 40).bind fun t195 => (some t195))) else (some false))) = some r := by rw [if_pos rfl] at H; exact H
    clear H
    have H := H1
    clear H1
    replace H := Option.bind_eq_some_iff.mp H
    obtain ⟨t193, A40, H⟩ := H
    replace H : (if t193 = true then ((impl_sum.f k l0).bind fun t194 => ((impl_within.f t194 1 40).bind fun t195 => (some t195))) else (some false)) = some r := H
    have A4 := Aside0.mk A40
    clear A40
    by_cases c5 : t193 = true
    · subst c5
      have H1 : ((impl_sum.f k l0).bind fun t194 => ((impl_within.f t194 1 40).bind fun t195 => (some t195))) = some r := by rw [if_pos rfl] at H; exact H
      clear H
      have H := H1
      clear H1
      replace H := Option.bind_eq_some_iff.mp H
      obtain ⟨t194, A60, H⟩ := H
      replace H : ((impl_within.f t194 1 40).bind fun t195 => (some t195)) = some r := H
      have A6 := Aside0.mk A60
      clear A60
      replace H := Option.bind_eq_some_iff.mp H
      obtain ⟨t195, A70, H⟩ := H
      replace H : (some t195) = some r := H
      have A7 := Aside0.mk A70
      clear A70
      obtain rfl := Option.some.inj H
      go_enter Tryz.func43, Tryz.ntmps43
      go_wp2_with (first | ((with_reducible refine gate_callee (f := 63) rfl ?_); refine goesL_ (some 4) rfl rfl Tryz.func63 (by kernel_rfl) rfl #[.slice A0 l0.length c0] rfl (by (try simp only [List.map_toArray, List.map_cons, List.map_nil]); first | done | rfl | (simp only [List.length_drop, List.length_take]; rfl)) ?_; (with_reducible refine (impl_AreHeaps.calls _ _ l0 true _ ?side1 ?side2 A2.out).mono ?_); (case side1 => repeat (first | exact HR0.out | (with_reducible refine Kd.C_alloc ?_ _) | (with_reducible refine Kd.C_drewN ?_ _) | (with_reducible refine Kd.C_drew ?_))); (case side2 => exact HC0.out); rintro e w8 ⟨rfl, hb⟩; refine ⟨_, rfl, ?_⟩; have n0_ := Aside0.mk (below_step (by repeat (first | (with_reducible first | exact HB.out | apply below_alloc | apply pw_below_drewN | apply below_drew1) | exact HB.out)) hb); clear HB; have HB := n0_; clear n0_; (try clear hb); (try clear hb2); (try clear hk); (try clear hi)) | (go_at_call 33; (with_reducible refine (impl_within.calls (l0.length : Int) 2 4 true _ A4.out).mono ?_); rintro e w' ⟨rfl, ⟨nd, rfl⟩⟩) | (go_at_call 64; (with_reducible refine (impl_sum.calls k _ _ l0 t194 _ ?side1 ?side2 A6.out).mono ?_); (case side1 => repeat (first | exact (Kd.C_below HR0.out (by repeat (first | (with_reducible first | exact HB.out | apply below_alloc | apply pw_below_drewN | apply below_drew1) | exact HB.out))) | (with_reducible refine Kd.C_alloc ?_ _) | (with_reducible refine Kd.C_drewN ?_ _) | (with_reducible refine Kd.C_drew ?_))); (case side2 => exact HC0.out); rintro e w' ⟨rfl, ⟨nd, rfl⟩⟩) | (go_at_call 33; (with_reducible refine (impl_within.calls t194 1 40 t195 _ A7.out).mono ?_); rintro e w' ⟨rfl, ⟨nd, rfl⟩⟩))
      go_ret
      exact ⟨by first | rfl | (simp [errW_none, errW_some] <;> rfl) | (simp [*, errW_none, errW_some] <;> rfl), by repeat (first | (with_reducible first | exact HB.out | apply below_alloc | apply pw_below_drewN | apply below_drew1) | exact HB.out)⟩
    · replace c5 := Bool.eq_false_iff.mpr c5
      subst c5
      have H1 : (some false) = some r := by rw [if_neg (show ¬ (false = true) by decide)] at H; exact H
      clear H
      have H := H1
      clear H1
      obtain rfl := Option.some.inj H
      go_enter Tryz.func43, Tryz.ntmps43
      go_wp2_with (first | ((with_reducible refine gate_callee (f := 63) rfl ?_); refine goesL_ (some 4) rfl rfl Tryz.func63 (by kernel_rfl) rfl #[.slice A0 l0.length c0] rfl (by (try simp only [List.map_toArray, List.map_cons, List.map_nil]); first | done | rfl | (simp only [List.length_drop, List.length_take]; rfl)) ?_; (with_reducible refine (impl_AreHeaps.calls _ _ l0 true _ ?side1 ?side2 A2.out).mono ?_); (case side1 => repeat (first | exact HR0.out | (with_reducible refine Kd.C_alloc ?_ _) | (with_reducible refine Kd.C_drewN ?_ _) | (with_reducible refine Kd.C_drew ?_))); (case side2 => exact HC0.out); rintro e w9 ⟨rfl, hb⟩; refine ⟨_, rfl, ?_⟩; have n0_ := Aside0.mk (below_step (by repeat (first | (with_reducible first | exact HB.out | apply below_alloc | apply pw_below_drewN | apply below_drew1) | exact HB.out)) hb); clear HB; have HB := n0_; clear n0_; (try clear hb); (try clear hb2); (try clear hk); (try clear hi)) | (go_at_call 33; (with_reducible refine (impl_within.calls (l0.length : Int) 2 4 false _ A4.out).mono ?_); rintro e w' ⟨rfl, ⟨nd, rfl⟩⟩))
      go_ret
      exact ⟨by first | rfl | (simp [errW_none, errW_some] <;> rfl) | (simp [*, errW_none, errW_some] <;> rfl), by repeat (first | (with_reducible first | exact HB.out | apply below_alloc | apply pw_below_drewN | apply below_drew1) | exact HB.out)⟩
  · replace c3 := Bool.eq_false_iff.mpr c3
    subst c3
    have H1 : (some false) = some r := by rw [if_neg (show ¬ (false = true) by decide)] at H; exact H
    clear H
    have H := H1
    clear H1
    obtain rfl := Option.some.inj H
    go_enter Tryz.func43, Tryz.ntmps43
    go_wp2_with (first | ((with_reducible refine gate_callee (f := 63) rfl ?_); refine goesL_ (some 4) rfl rfl Tryz.func63 (by kernel_rfl) rfl #[.slice A0 l0.length c0] rfl (by (try simp only [List.map_toArray, List.map_cons, List.map_nil]); first | done | rfl | (simp only [List.length_drop, List.length_take]; rfl)) ?_; (with_reducible refine (impl_AreHeaps.calls _ _ l0 false _ ?side1 ?side2 A2.out).mono ?_); (case side1 => repeat (first | exact HR0.out | (with_reducible refine Kd.C_alloc ?_ _) | (with_reducible refine Kd.C_drewN ?_ _) | (with_reducible refine Kd.C_drew ?_))); (case side2 => exact HC0.out); rintro e w10 ⟨rfl, hb⟩; refine ⟨_, rfl, ?_⟩; have n0_ := Aside0.mk (below_step (by repeat (first | (with_reducible first | exact HB.out | apply below_alloc | apply pw_below_drewN | apply below_drew1) | exact HB.out)) hb); clear HB; have HB := n0_; clear n0_; (try clear hb); (try clear hb2); (try clear hk); (try clear hi)))
    go_ret
    exact ⟨by first | rfl | (simp [errW_none, errW_some] <;> rfl) | (simp [*, errW_none, errW_some] <;> rfl), by repeat (first | (with_reducible first | exact HB.out | apply below_alloc | apply pw_below_drewN | apply below_drew1) | exact HB.out)⟩

/-! ### slices_Clone_int_int: function 44, by hand -/
def slices_Clone_int_int.f (l0 : List Int) : Option (List Int) := if l0.length < 17592186044416 then some l0 else none
set_option maxHeartbeats 8000000 in
set_option maxRecDepth 100000 in
theorem slices_Clone_int_int.calls (A0 : Option Addr) (c0 : Nat) (l0 : List Int) (r : List Int) (w : World) (hr0 : Kd.C (Kd.int .i64) w A0 l0.length l0) (hc0 : l0.length ≤ c0) (h : slices_Clone_int_int.f l0 = some r) :
    Calls Tryz.prog 44 #[.slice A0 l0.length c0] w fun e w' => ∃ v0_ : Value, e = .returned (v0_) ∧ Kd.R (Kd.int .i64) 3 w' w.heap.size (fun _ => True) v0_ r ∧ Below w.heap.size w w' := by
  have c2 : l0.length < 17592186044416 := by
    by_cases c : l0.length < 17592186044416
    · exact c
    · simp [slices_Clone_int_int.f, c] at h
  obtain rfl : l0 = r := by simpa [slices_Clone_int_int.f, c2] using h
  clear h
  cases A0 with
  | none =>
    have e0 : l0 = [] := by
      rcases Nat.eq_zero_or_pos l0.length with h0 | h0
      · exact List.eq_nil_of_length_eq_zero h0
      · obtain ⟨ad, e, _⟩ := Kd.at_int hr0 0 (by omega) (by omega)
        cases e
    subst e0
    have hq := fun W => Go.Lib.run_eql_slice_nil (P := Tryz.prog) W 33 3 none 0 c0 0 0 Tryz.underlying33
    clear hr0 hc0 c2
    go_enter Tryz.func44, Tryz.ntmps44
    go_wp2
    go_ret
    exact ⟨_, rfl, Kd.R_nil _ _ _ _ _, Below.refl _ _⟩
  | some ad =>
    have hq := fun W => Go.Lib.run_eql_slice_nil (P := Tryz.prog) W 33 3 (some ad) l0.length c0 0 0 Tryz.underlying33
    have HR0 := Aside0.mk hr0
    have HC0 := Aside0.mk hc0
    have LMc2 := Aside0.mk c2
    clear hr0 hc0 c2
    have HB := Aside0.mk (Below.refl w.heap.size w)
    go_enter Tryz.func44, Tryz.ntmps44
    go_wp2_with (first | ((with_reducible refine gate_dst (N := 5) rfl ?_); refine Kd.R_lit (Kd.int .i64) _ 3 ?hg (N := 5) ?hd (xs := ([] : List Int)) (inner := []) (ok := fun _ => True) (okp := fun _ => True) ?hr ?hp (fun _ hk => hk) trivial (Below.refl _ _) (Nat.le_refl _) (by simp) ?_; (case hd => rfl); (case hg => rfl); (case hr => first | (go_simp; done) | (go_simp; rfl)); (case hp => exact (Reps.none _ _)); intro v113 w3 ho4 hb hg_ hnew_; clear hg_ hnew_; have n0_ := Aside0.mk (Kd.R_lower ho4 (below_size HB.out)); have n1_ := Aside0.mk (below_step HB.out hb); clear HB; have HO114 := n0_; have HB := n1_; clear n0_ n1_; clear hb ho4) | ((with_reducible refine gate_builtin (b := .append) (xs := #[.tmp 5, .tmp 6]) rfl ?_); at_builtin; refine Kd.R_append_rows (Kd.int .i64) (w0 := w) w.heap.size rfl (.tmp 5) (.tmp 6) 33 3 (.int .i64 0) 8 rfl Tryz.underlying33 info3 rfl (by decide) (by omega) v113 ([] : List Int) l0 _ _ _ (fun _ => True) (fun _ => False) rfl rfl ?aO ?aR (fun _ _ h => h) (fun _ h => h.elim) ?aF ?aB ?aS ?aL ?_; (case aR => exact (Kd.C_below HR0.out HB.out)); (case aB => exact HB.out); (case aF => exact (fun _ _ => trivial)); (case aO => exact HO114.out); (case aS => exact (below_size HB.out)); (case aL => have := LMc2.out; simp only [List.length_nil]; omega); intro v116 w5 ho hb hg hat; rw [List.nil_append] at ho; have n0_ := Aside0.mk (hb); have n1_ := Aside0.mk (ho); clear HB; clear HO114; have HB := n0_; have HO117 := n1_; clear n0_ n1_; clear ho hb hg hat))
    go_ret
    exact ⟨_, rfl, HO117.out, HB.out⟩

/-! ### impl_canDouble: function 45, by hand -/
def impl_canDouble.f (l0 : List Int) (a1_0 : Int) (a1_1 : Int) : Option (Bool) := (impl_within.f a1_0 0 (wrap64 ((l0.length : Int) - 1))).bind fun t225 => (if t225 = true then ((impl_within.f a1_1 0 (wrap64 ((l0.length : Int) - 1))).bind fun t226 => (if t226 = true then (if a1_0 = a1_1 then (some false) else (if 0 ≤ a1_1 then (if a1_1 < (l0.length : Int) then (if (rd l0 a1_1) > 0 then (if 0 ≤ a1_0 then (if a1_0 < (l0.length : Int) then (some (decide ((rd l0 a1_0) ≥ (rd l0 a1_1)))) else (none)) else (none)) else (some false)) else (none)) else (none))) else (some false))) else (some false))
theorem impl_canDouble.qw {x a b : Int} {r : Bool} (h : impl_within.f x a b = some r) (w : World) (n : Nat) : Calls Tryz.prog 33 #[.int .i64 x, .int .i64 a, .int .i64 b] (w.drewN n) fun e w'' => e = .returned (.bool r) ∧ ∃ m, w'' = w.drewN m :=
  Calls.quiet_of ((impl_within.calls x a b r _ h).mono (by rintro e w' ⟨rfl, q, rfl⟩; exact ⟨rfl, q, rfl⟩))
set_option maxHeartbeats 1000000 in
set_option maxRecDepth 100000 in
theorem impl_canDouble.calls (A0 : Option Addr) (c0 : Nat) (l0 : List Int) (a1_0 : Int) (a1_1 : Int) (r : Bool) (w : World) (hr0 : Kd.C (Kd.int .i64) w A0 l0.length l0) (hc0 : l0.length ≤ c0) (h : impl_canDouble.f l0 a1_0 a1_1 = some r) :
    Calls Tryz.prog 45 #[.slice A0 l0.length c0, .agg #[.int .i64 a1_0, .int .i64 a1_1]] w fun e w' => e = .returned (.bool r) ∧ Below w.heap.size w w' := by
  have hB : ∀ q, Below w.heap.size w ((w.alloc (.cells #[.int .i64 a1_0, .int .i64 a1_1] 48)).drewN q) := fun q => pw_below_drewN ((Below.refl _ w).alloc (Nat.le_refl _) _) q
  have HB := Aside0.mk hB
  have hR := Kd.C_below hr0 ((Below.refl _ w).alloc (Nat.le_refl _) (.cells #[.int .i64 a1_0, .int .i64 a1_1] 48))
  clear hB hr0 hc0
  unfold impl_canDouble.f at h
  obtain ⟨t1, e1, h⟩ := Option.bind_eq_some_iff.mp h
  have E1 := Aside0.mk e1
  clear e1
  cases t1 with
  | false =>
    obtain rfl : false = r := by simpa using h
    clear h hR
    go_enter Tryz.func45, Tryz.ntmps45
    go_wp2
    go_quiet ((go_at_call 33; exact impl_canDouble.qw E1.out _ _))
    go_wp2
    go_ret
    exact ⟨rfl, HB.out _⟩
  | true =>
    simp only [if_true] at h
    obtain ⟨t2, e2, h⟩ := Option.bind_eq_some_iff.mp h
    have E2 := Aside0.mk e2
    clear e2
    cases t2 with
    | false =>
      obtain rfl : false = r := by simpa using h
      clear h hR
      go_enter Tryz.func45, Tryz.ntmps45
      go_wp2
      go_quiet ((go_at_call 33; first | with_reducible exact impl_canDouble.qw E1.out _ _ | with_reducible exact impl_canDouble.qw E2.out _ _))
      go_wp2
      go_ret
      exact ⟨rfl, HB.out _⟩
    | true =>
      simp only [if_true] at h
      by_cases c3 : a1_0 = a1_1
      · rw [if_pos c3] at h
        obtain rfl := Option.some.inj h
        have c3' : (a1_0 != a1_1) = false := by simp [c3]
        clear h hR c3
        go_enter Tryz.func45, Tryz.ntmps45
        go_wp2
        go_quiet ((go_at_call 33; first | with_reducible exact impl_canDouble.qw E1.out _ _ | with_reducible exact impl_canDouble.qw E2.out _ _))
        go_wp2
        go_ret
        exact ⟨rfl, HB.out _⟩
      · rw [if_neg c3] at h
        have c3' : (a1_0 != a1_1) = true := by simp [c3]
        clear c3
        by_cases c4 : 0 ≤ a1_1
        case neg => rw [if_neg c4] at h; cases h
        rw [if_pos c4] at h
        by_cases c5 : a1_1 < (l0.length : Int)
        case neg => rw [if_neg c5] at h; cases h
        rw [if_pos c5] at h
        obtain ⟨ad, rfl, hx1⟩ := Kd.at_int hR a1_1 c4 c5
        have c4' : decide (0 ≤ a1_1) = true := decide_eq_true c4
        have c5' : decide (a1_1 < (l0.length : Int)) = true := decide_eq_true c5
        by_cases c6 : rd l0 a1_1 > 0
        · rw [if_pos c6] at h
          have c6' : decide (0 < rd l0 a1_1) = true := decide_eq_true c6
          by_cases c7 : 0 ≤ a1_0
          case neg => rw [if_neg c7] at h; cases h
          rw [if_pos c7] at h
          by_cases c8 : a1_0 < (l0.length : Int)
          case neg => rw [if_neg c8] at h; cases h
          rw [if_pos c8] at h
          obtain rfl := Option.some.inj h
          obtain ⟨ad', e', hx2⟩ := Kd.at_int hR a1_0 c7 c8
          obtain rfl := Option.some.inj e'
          have c7' : decide (0 ≤ a1_0) = true := decide_eq_true c7
          have c8' : decide (a1_0 < (l0.length : Int)) = true := decide_eq_true c8
          generalize rd l0 a1_0 = x0 at *
          generalize rd l0 a1_1 = x1 at *
          clear h hR e'
          go_enter Tryz.func45, Tryz.ntmps45
          go_wp2
          go_quiet ((go_at_call 33; first | with_reducible exact impl_canDouble.qw E1.out _ _ | with_reducible exact impl_canDouble.qw E2.out _ _))
          go_wp2
          go_ret
          exact ⟨rfl, HB.out _⟩
        · rw [if_neg c6] at h
          obtain rfl := Option.some.inj h
          have c6' : decide (0 < rd l0 a1_1) = false := decide_eq_false c6
          generalize rd l0 a1_1 = x1 at *
          clear h hR
          go_enter Tryz.func45, Tryz.ntmps45
          go_wp2
          go_quiet ((go_at_call 33; first | with_reducible exact impl_canDouble.qw E1.out _ _ | with_reducible exact impl_canDouble.qw E2.out _ _))
          go_wp2
          go_ret
          exact ⟨rfl, HB.out _⟩

end Go.Proofs.YtpmlpcdhkpcejaaGreatDoor.PFnDoublingsPaired
