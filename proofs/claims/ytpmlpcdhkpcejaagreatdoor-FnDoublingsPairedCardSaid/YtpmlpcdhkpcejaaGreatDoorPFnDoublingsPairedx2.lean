-- Written by hprint.py (a program of this session's) over the kit's print.py. Lean checks it.
import Derived.Test.YtpmlpcdhkpcejaaGreatDoorPFnDoublingsPairedx0
namespace Go.Proofs.YtpmlpcdhkpcejaaGreatDoor.PFnDoublingsPaired
open Go.RowKit Go.Proofs.YtpmlpcdhkpcejaaGreatDoorW.PrintWords Go.Proofs.YtpmlpcdhkpcejaaGreatDoorW.PrintLast Go.Proofs.YtpmlpcdhkpcejaaGreatDoorW.PrintMore
attribute [local go_sem] max2_int min2_int max_two min_two max_three min_three max_four min_four   -- for this text's walks alone
set_option linter.unusedVariables false
set_option linter.unusedSimpArgs false

/-! ### laws_big: function 4 -/
def laws_big.f (l0 : List Int) (l1 : List Int) : Option (Bool) := if (l0.length : Int) > 1048576 then (some true) else (some (decide ((l1.length : Int) > (wrap64 (1048576 - (l0.length : Int))))))
set_option maxHeartbeats 8000000 in
set_option maxRecDepth 100000 in
theorem laws_big.calls (A0 : Option Addr) (c0 : Nat) (l0 : List Int) (A1 : Option Addr) (c1 : Nat) (l1 : List Int) (r : Bool) (w : World) (hr0 : Kd.C (Kd.int .u8) w A0 l0.length l0) (hc0 : l0.length ≤ c0) (hr1 : Kd.C (Kd.int .u8) w A1 l1.length l1) (hc1 : l1.length ≤ c1) (h : laws_big.f l0 l1 = some r) :
    Calls Tryz.prog 4 #[.slice A0 l0.length c0, .slice A1 l1.length c1] w fun e w' => e = .returned (.bool r) ∧ Drawn0 w w' := by
  have HR0 := Aside0.mk hr0
  have HC0 := Aside0.mk hc0
  clear hr0 hc0
  have HR1 := Aside0.mk hr1
  have HC1 := Aside0.mk hc1
  clear hr1 hc1
  have H : (if (l0.length : Int) > 1048576 then (some true) else (some (decide ((l1.length : Int) > (wrap64 (1048576 - (l0.length : Int))))))) = some r := h
  clear h
  by_cases c3 : (l0.length : Int) > 1048576
  · rw [if_pos c3] at H
    have c3b0 : decide (1048576 < (l0.length : Int)) = true := decide_eq_true c3
    have c3b1 : decide (1048576 < l0.length) = true := decide_eq_true (by omega)
    clear c3
    obtain rfl := Option.some.inj H
    go_enter Tryz.func4, Tryz.ntmps4
    go_wp2
    go_ret
    exact ⟨by first | rfl | (simp; done) | (simp [*]; done), by repeat (first | exact Drawn0.refl _ | apply Drawn0.step)⟩
  · rw [if_neg c3] at H
    have c3b0 : decide (1048576 < (l0.length : Int)) = false := decide_eq_false c3
    have c3b1 : decide (1048576 < l0.length) = false := decide_eq_false (by omega)
    clear c3
    obtain rfl := Option.some.inj H
    go_enter Tryz.func4, Tryz.ntmps4
    go_wp2
    go_ret
    exact ⟨by first | rfl | (simp; done) | (simp [*]; done), by repeat (first | exact Drawn0.refl _ | apply Drawn0.step)⟩

/-! ### spec_l1Cur_next: function 75, by hand -/
/-- The cursor's block at world w: it reads the bytes xs, and stands at most at m. -/
structure dr.At (w0 : World) (g : Nat) (A : Option Addr) (c : Nat) (xs : List Int) (m : Int) (w : World) : Prop where
  below : Below w0.heap.size w0 w
  ge : w0.heap.size ≤ g
  box : ∃ p s : Int, w.heap[g]? = some (.cells #[.slice A xs.length c, .int .i64 p, .int .u64 s] 53 (0, 0)) ∧ 0 ≤ p ∧ p ≤ m
/-- What is known of the bytes. -/
structure dr.Row (w0 : World) (A : Option Addr) (c : Nat) (xs : List Int) : Prop where
  row : Kd.C (Kd.int .u8) w0 A xs.length xs
  cap : xs.length ≤ c
  byte : ∀ x ∈ xs, 0 ≤ x ∧ x ≤ 255
theorem dr.At.mono {w0 w : World} {g : Nat} {A : Option Addr} {c : Nat} {xs : List Int} {m m' : Int} (h : dr.At w0 g A c xs m w) (hm : m ≤ m') : dr.At w0 g A c xs m' w := by
  obtain ⟨h1, h2, p, s, h3, h4, h5⟩ := h
  exact ⟨h1, h2, p, s, h3, h4, by omega⟩
theorem dr.At.next {w0 w w' : World} {g : Nat} {A : Option Addr} {c : Nat} {xs : List Int} {m : Int} (h : dr.At w0 g A c xs m w) (hb : Below w.heap.size w w') : dr.At w0 g A c xs m w' := by
  obtain ⟨h1, h2, p, s, h3, h4, h5⟩ := h
  exact ⟨below_step h1 hb, h2, p, s, blk_below h3 hb, h4, h5⟩
theorem dr.byte_in {xs : List Int} (h : ∀ x ∈ xs, 0 ≤ x ∧ x ≤ 255) (i : Int) : 0 ≤ rd xs i ∧ rd xs i ≤ 255 := by
  unfold rd
  rw [List.getD_eq_getElem?_getD]
  cases e : xs[i.toNat]? with
  | none => simp
  | some x => simpa using h x (List.mem_of_getElem? e)
theorem dr.and255 (x : Int) : 0 ≤ wrap64 (bits .and .u64 (IntKind.u64.wrap x / 1099511627776) 255) ∧ wrap64 (bits .and .u64 (IntKind.u64.wrap x / 1099511627776) 255) ≤ 255 := by
  have h : IntKind.u64.wrap x = x % 18446744073709551616 := by rw [IntKind.wrap_u64]
  generalize IntKind.u64.wrap x = y at h
  obtain ⟨a, ha⟩ : ∃ a : Nat, y / 1099511627776 = a := ⟨(y / 1099511627776).toNat, by omega⟩
  rw [ha, show (255 : Int) = ((255 : Nat) : Int) from rfl, Go.u64_and_nat a 255 (by omega) (by omega)]
  have : a &&& 255 = a % 256 := Nat.and_two_pow_sub_one_eq_mod a 8
  rw [this]
  unfold wrap64
  omega
set_option maxHeartbeats 4000000 in
theorem dr.next {w0 w : World} {g : Nat} {A : Option Addr} {c : Nat} {xs : List Int} {m : Int} (hr : dr.Row w0 A c xs) (h : dr.At w0 g A c xs m w) (hm : m ≤ 9000000) :
    Calls Tryz.prog 75 #[.pointer (some ⟨g, 0, none⟩)] w fun e w' => (∃ b : Int, e = .returned (.int .i64 b) ∧ 0 ≤ b ∧ b ≤ 255) ∧ dr.At w0 g A c xs (m + 1) w' ∧ KeepBut w w' g none := by
  obtain ⟨h1, h2, p, s, h3, h4, h5⟩ := h
  have HB := Aside0.mk h1
  have HG := Aside0.mk h2
  have HX := Aside0.mk h3
  have hx0 : w.cell? ⟨g, 0, none⟩ = some (.slice A xs.length c) := blk_cell h3 0
  have hx1 : w.cell? ⟨g, 1, none⟩ = some (.int .i64 p) := blk_cell h3 1
  have hx2 : w.cell? ⟨g, 2, none⟩ = some (.int .u64 s) := blk_cell h3 2
  have hf1 : w.frozen? ⟨g, 1, none⟩ = false := blk_frozen h3 1
  have hf2 : w.frozen? ⟨g, 2, none⟩ = false := blk_frozen h3 2
  have w1 : wrap64 (p + 1) = p + 1 := by unfold wrap64; omega
  have hfin : ∀ (n q : Nat) (u : Int), dr.At w0 g A c xs (m + 1) ((((w.drewN n).setCell ⟨g, 1, none⟩ (.int .i64 (p + 1))).setCell ⟨g, 2, none⟩ (.int .u64 u)).drewN q) ∧ KeepBut w ((((w.drewN n).setCell ⟨g, 1, none⟩ (.int .i64 (p + 1))).setCell ⟨g, 2, none⟩ (.int .u64 u)).drewN q) g none := fun n q u => by
    have h1' := pw_below_drewN h1 n
    have h3' := blk_drewN h3 n
    have hk := KeepBut.of_below (pw_below_drewN (Below.refl w.heap.size w) n) g none
    refine ⟨⟨?_, h2, p + 1, u, ?_, by omega, by omega⟩, ?_⟩
    · refine pw_below_drewN (W := ((w.drewN n).setCell ⟨g, 1, none⟩ (.int .i64 (p + 1))).setCell ⟨g, 2, none⟩ (.int .u64 u)) ⟨h1'.os, h1'.tape, h1'.output, ?_, fun k hk => ?_⟩ q
      · have := h1'.size
        simpa using this
      · rw [Below.heap_setCell _ ⟨g, 2, none⟩ _ k (by show k ≠ g; omega), Below.heap_setCell _ ⟨g, 1, none⟩ _ k (by show k ≠ g; omega)]
        exact h1'.block k hk
    · exact blk_drewN (blk_set (blk_set h3' 1 _) 2 _) q
    · have h5 := (hk.set_ 1 (.int .i64 (p + 1))).set_ 2 (.int .u64 u)
      exact h5.trans (KeepBut.of_below (pw_below_drewN (Below.refl _ _) q) g none) (Or.inl rfl)
  have HF := Aside0.mk hfin
  clear hfin h1 h2 h3
  have p0 : 0 ≤ p := h4
  by_cases hlt : p < (xs.length : Int)
  · obtain ⟨ad, rfl, hy⟩ := Kd.at_int hr.row p h4 hlt
    have hb := dr.byte_in hr.byte p
    replace hy := (HB.out.cell (World.block_lt_of_cell? w0 _ hy)).trans hy
    generalize rd xs p = b at hy hb
    have q1 : p + 1 ≤ (xs.length : Int) := by omega
    go_enter Tryz.func75, Tryz.ntmps75
    go_wp2
    go_quiet (fail)
    go_wp2
    go_quiet (fail)
    go_wp2
    go_quiet (fail)
    go_wp2
    go_ret
    exact ⟨⟨b, rfl, hb.1, hb.2⟩, HF.out _ _ _⟩
  · have q1 : ¬ (p + 1 ≤ (xs.length : Int)) := by omega
    go_enter Tryz.func75, Tryz.ntmps75
    go_wp2
    go_quiet (fail)
    go_wp2
    go_quiet (fail)
    go_wp2
    go_ret
    exact ⟨⟨_, rfl, dr.and255 _⟩, HF.out _ _ _⟩

/-! ### spec_l1Cur_pick: function 60, by hand -/
theorem dr.tmod_in {x n : Int} (h0 : 0 ≤ x) (hn : 1 < n) : 0 ≤ Int.tmod x n ∧ (Int.tmod x n < n ∨ Int.tmod x n = 0 ∧ n ≤ 1) := by
  rw [Int.tmod_eq_emod_of_nonneg h0]
  exact ⟨Int.emod_nonneg _ (by omega), Or.inl (Int.emod_lt_of_pos _ (by omega))⟩
set_option maxHeartbeats 4000000 in
theorem dr.pick {w0 w : World} {g : Nat} {A : Option Addr} {c : Nat} {xs : List Int} {m : Int} (n : Int) (hr : dr.Row w0 A c xs) (h : dr.At w0 g A c xs m w) (hm : m ≤ 1000000) :
    Calls Tryz.prog 60 #[.pointer (some ⟨g, 0, none⟩), .int .i64 n] w fun e w' => (∃ b : Int, e = .returned (.int .i64 b) ∧ 0 ≤ b ∧ (b < n ∨ b = 0 ∧ n ≤ 1)) ∧ dr.At w0 g A c xs (m + 2) w' ∧ KeepBut w w' g none := by
  by_cases h1 : n ≤ 1
  · have hfin := h.mono (show m ≤ m + 2 by omega)
    clear h
    go_enter Tryz.func60, Tryz.ntmps60
    go_wp2
    go_ret
    exact ⟨⟨0, rfl, by omega, Or.inr ⟨rfl, h1⟩⟩, hfin, KeepBut.refl _ _ _⟩
  · have hn := dr.next hr h (by omega)
    have HN := Aside0.mk hn
    have HR := Aside0.mk hr
    clear hn h hr
    have n0 : ¬ (n = 0) := by omega
    by_cases h2 : n > 200
    · go_enter Tryz.func60, Tryz.ntmps60
      go_wp2_with (first
        | (go_at_call 75; (with_reducible refine HN.out.mono ?_); rintro e w1 ⟨⟨b1, rfl, hb1, hb2⟩, ha1, hk1⟩; have HA1 := Aside0.mk ha1; have HK1 := Aside0.mk hk1; have HB1 := Aside0.mk (And.intro hb1 hb2); clear ha1 hk1 hb1 hb2)
        | (go_at_call 75; (with_reducible refine (dr.next (w := w1) HR.out HA1.out (by omega)).mono ?_); rintro e w2 ⟨⟨b2, rfl, hb3, hb4⟩, ha2, hk2⟩; have HA2 := Aside0.mk ha2; have HK2 := Aside0.mk (HK1.out.trans hk2 (Or.inl rfl)); have HB2 := Aside0.mk (And.intro hb3 hb4); clear ha2 hk2 hb3 hb4))
      all_goals go_ret
      have e1 : wrap64 (wrap64 (b1 * 256) + b2) = b1 * 256 + b2 := by have := HB1.out; have := HB2.out; unfold wrap64; omega
      refine ⟨⟨_, rfl, ?_⟩, HA2.out.mono (by omega), HK2.out⟩
      have h1 := HB1.out
      have h2 := HB2.out
      first
        | exact dr.tmod_in (by omega) (by omega)
        | (rw [e1]; exact dr.tmod_in (by omega) (by omega))
    · go_enter Tryz.func60, Tryz.ntmps60
      go_wp2_with (first
        | (go_at_call 75; (with_reducible refine HN.out.mono ?_); rintro e w1 ⟨⟨b1, rfl, hb1, hb2⟩, ha1, hk1⟩; have HA1 := Aside0.mk ha1; have HK1 := Aside0.mk hk1; have HB1 := Aside0.mk (And.intro hb1 hb2); clear ha1 hk1 hb1 hb2))
      all_goals go_ret
      exact ⟨⟨_, rfl, dr.tmod_in HB1.out.1 (by omega)⟩, HA1.out.mono (by omega), HK1.out⟩

/-! ### spec_l1Cur_among: function 31, by hand -/
set_option maxHeartbeats 4000000 in
theorem dr.one {w0 w : World} {g : Nat} {A : Option Addr} {c : Nat} {xs : List Int} {m : Int} (n : Int) (hr : dr.Row w0 A c xs) (h : dr.At w0 g A c xs m w) (hm : m ≤ 1000000) :
    Calls Tryz.prog 56 #[.pointer (some ⟨g, 0, none⟩), .int .i64 n] w fun e w' => (∃ b : Bool, e = .returned (.bool b)) ∧ dr.At w0 g A c xs (m + 2) w' ∧ KeepBut w w' g none := by
  have HP := Aside0.mk (dr.pick n hr h hm)
  clear h hr
  go_enter Tryz.func56, Tryz.ntmps56
  go_wp2_with (go_at_call 60; (with_reducible refine HP.out.mono ?_); rintro e w1 ⟨⟨b1, rfl, hb⟩, ha1, hk1⟩; have HA1 := Aside0.mk ha1; have HK1 := Aside0.mk hk1; clear ha1 hk1 hb)
  all_goals go_ret
  all_goals exact ⟨⟨_, rfl⟩, HA1.out, HK1.out⟩
set_option maxHeartbeats 4000000 in
theorem dr.among {w0 w : World} {g : Nat} {A : Option Addr} {c : Nat} {xs : List Int} {m : Int} {base : Nat} {ok : Nat → Prop} {Al : Option Addr} {cl : Nat} {l : List Int} (hr : dr.Row w0 A c xs) (h : dr.At w0 g A c xs m w) (hm : m ≤ 1000000) (hl : Kd.R (Kd.int .i64) 3 w base ok (.slice Al l.length cl) l) (hok : ∀ k, ok k → k ≠ g) (h1 : 1 ≤ l.length) :
    Calls Tryz.prog 31 #[.pointer (some ⟨g, 0, none⟩), .slice Al l.length cl] w fun e w' => (∃ b : Int, e = .returned (.int .i64 b)) ∧ dr.At w0 g A c xs (m + 2) w' ∧ KeepBut w w' g none := by
  have HP := Aside0.mk (dr.pick (l.length : Int) hr h hm)
  have HL := Aside0.mk (fun w' (hk : KeepBut w w' g none) => (Kd.R_reads' (Kd.R_keep hl hk hok)).2.2)
  clear h hr hl
  go_enter Tryz.func31, Tryz.ntmps31
  go_wp2_with (go_at_call 60; (with_reducible refine HP.out.mono ?_); rintro e w1 ⟨⟨b1, rfl, hb0, hb1⟩, ha1, hk1⟩; have HA1 := Aside0.mk ha1; have HK1 := Aside0.mk hk1; have hlt : b1 < (l.length : Int) := (by omega); obtain ⟨ad, e1, hx⟩ := Kd.at_int (HL.out w1 hk1) b1 hb0 hlt; cases e1; clear ha1 hk1 hb1)
  all_goals go_ret
  all_goals exact ⟨⟨_, rfl⟩, HA1.out, HK1.out⟩

/-! ### spec_l1Cur_one: function 56, by hand -/
theorem dr.stub_one : True := trivial

/-! ### spec_l1Cur_twoHeaps: function 30, by hand -/
theorem dr.lit (w : World) (cs : Array Value) (l : List Int) (hO : cs.toList = l.map (Value.int .i64)) (h0 : 0 < l.length) (hm : l.length ≤ maxLen) : Kd.R (Kd.int .i64) 3 (w.alloc (.cells cs 3)) w.heap.size (fun k => k = w.heap.size) (.slice (some ⟨w.heap.size, 0, none⟩) l.length l.length) l := by
  have hsz : cs.size = l.length := by rw [← Array.length_toList, hO, List.length_map]
  refine ⟨fun k hk => ?_, l.map (Value.int .i64), ⟨?_, .inr ⟨w.heap.size, l.length, cs, rfl, Nat.le_refl _, blk_new w _, Nat.le_refl _, hm, ?_, ?_⟩⟩, ?_, ?_⟩
  · have : w.heap.size = k := by simpa [Value.ownBlock] using hk
    exact this.symm
  · show (l.map (Value.int .i64)).length = l.length * 1
    simp
  · show cs.size = l.length * 1
    omega
  · show cs.toList.take (l.length * 1) = _
    rw [hO, List.take_of_length_le (by simp)]
  · show (l.map (Value.int .i64)).length = l.length * 1
    simp
  · intro j p hj
    show ((l.map (Value.int .i64)).drop (j * 1)).take 1 = [.int .i64 p]
    obtain ⟨h1, h2⟩ := List.getElem?_eq_some_iff.1 hj
    rw [Nat.mul_one, List.drop_eq_getElem_cons (by simpa using h1)]
    simp [h2]
theorem dr.At.lt {w0 w : World} {g : Nat} {A : Option Addr} {c : Nat} {xs : List Int} {m : Int} (h : dr.At w0 g A c xs m w) : g < w.heap.size := by
  obtain ⟨_, _, p, s, h3, _, _⟩ := h
  exact blk_lt h3
theorem dr.At.alloc {w0 w : World} {g : Nat} {A : Option Addr} {c : Nat} {xs : List Int} {m : Int} (h : dr.At w0 g A c xs m w) (o : Obj) : dr.At w0 g A c xs m (w.alloc o) := h.next (below_alloc (Below.refl _ _) o)
theorem dr.amongLit {w0 w : World} {g : Nat} {A : Option Addr} {c : Nat} {xs : List Int} {m : Int} (cs : Array Value) (n : Nat) (l : List Int) (hO : cs.toList = l.map (Value.int .i64)) (hn : l.length = n) (h0 : 0 < n) (hml : n ≤ 1000) (hr : dr.Row w0 A c xs) (h : dr.At w0 g A c xs m w) (hm : m ≤ 1000000) :
    Calls Tryz.prog 31 #[.pointer (some ⟨g, 0, none⟩), .slice (some ⟨w.heap.size, 0, none⟩) n n] (w.alloc (.cells cs 3)) fun e w' => (∃ b : Int, e = .returned (.int .i64 b)) ∧ dr.At w0 g A c xs (m + 2) w' ∧ KeepBut w w' g none := by
  subst hn
  exact (dr.among hr (h.alloc _) hm (dr.lit w cs l hO h0 (by unfold maxLen; omega)) (fun k hk => by have := h.lt; omega) h0).mono (by
    rintro e w' ⟨h1, h2, h3⟩
    exact ⟨h1, h2, (KeepBut.of_below (below_alloc (Below.refl _ _) _) g none).trans h3 (Or.inl rfl)⟩)
set_option maxRecDepth 100000 in
set_option maxHeartbeats 4000000 in
theorem dr.two {w0 w : World} {g : Nat} {A : Option Addr} {c : Nat} {xs : List Int} {m : Int} (hr : dr.Row w0 A c xs) (h : dr.At w0 g A c xs m w) (hm : m ≤ 100000) :
    Calls Tryz.prog 30 #[.pointer (some ⟨g, 0, none⟩)] w fun e w' => (∃ a b : Int, e = .returned (.tuple #[.int .i64 a, .int .i64 b])) ∧ dr.At w0 g A c xs (m + 6) w' ∧ KeepBut w w' g none := by
  have HP := Aside0.mk (dr.one 12 hr h (by omega))
  have HR := Aside0.mk hr
  clear h hr
  go_enter Tryz.func30, Tryz.ntmps30
  go_wp2_with (first
    | (go_at_call 56; (with_reducible refine HP.out.mono ?_); rintro e w1 ⟨⟨b1, rfl⟩, ha1, hk1⟩; have HA1 := Aside0.mk ha1; have HK1 := Aside0.mk hk1; clear ha1 hk1)
    | (go_at_call 31; (with_reducible refine (dr.amongLit (w := w1) _ _ [-1, 0, 1, 50000, 100000, 100001, 4611686018427387904] ?s1 ?s2 ?s3 ?s4 HR.out HA1.out (by omega)).mono ?_); (case s1 => rfl); (case s2 => rfl); (case s3 => omega); (case s4 => omega); rintro e w2 ⟨⟨b2, rfl⟩, ha2, hk2⟩; have HA2 := Aside0.mk ha2; have HK2 := Aside0.mk (HK1.out.trans hk2 (Or.inl rfl)); clear ha2 hk2)
    | (go_at_call 31; (with_reducible refine (dr.amongLit (w := w2) _ _ [-1, 0, 1, 50000, 4611686018427387904] ?s1 ?s2 ?s3 ?s4 HR.out HA2.out (by omega)).mono ?_); (case s1 => rfl); (case s2 => rfl); (case s3 => omega); (case s4 => omega); rintro e w3 ⟨⟨b3, rfl⟩, ha3, hk3⟩; have HA3 := Aside0.mk ha3; have HK3 := Aside0.mk (HK2.out.trans hk3 (Or.inl rfl)); clear ha3 hk3)
    | (go_at_call 60; (with_reducible refine (dr.pick (w := w1) 60 HR.out HA1.out (by omega)).mono ?_); rintro e w4 ⟨⟨b4, rfl, _, _⟩, ha4, hk4⟩; have HA4 := Aside0.mk ha4; have HK4 := Aside0.mk (HK1.out.trans hk4 (Or.inl rfl)); clear ha4 hk4)
    | (go_at_call 60; (with_reducible refine (dr.pick (w := w4) 60 HR.out HA4.out (by omega)).mono ?_); rintro e w5 ⟨⟨b5, rfl, _, _⟩, ha5, hk5⟩; have HA5 := Aside0.mk ha5; have HK5 := Aside0.mk (HK4.out.trans hk5 (Or.inl rfl)); clear ha5 hk5))
  all_goals go_ret2
  · exact ⟨⟨_, _, rfl⟩, HA3.out.mono (by omega), HK3.out⟩
  · exact ⟨⟨_, _, rfl⟩, HA5.out.mono (by omega), HK5.out⟩

/-! ### spec_DrawPairAfter: function 5, by hand -/
theorem dr.start (w : World) (A : Option Addr) (c : Nat) (xs : List Int) : dr.At w w.heap.size A c xs 0 (w.alloc (.cells #[.slice A xs.length c, .int .i64 0, .int .u64 0] 53)) :=
  ⟨below_alloc (Below.refl _ _) _, Nat.le_refl _, 0, 0, blk_new w _, by omega, by omega⟩
set_option maxRecDepth 100000 in
set_option maxHeartbeats 4000000 in
theorem dr.DrawPairAfter {w : World} {A : Option Addr} {c : Nat} {xs : List Int} (hr : dr.Row w A c xs) :
    Calls Tryz.prog 5 #[.slice A xs.length c] w fun e w' => (∃ a b s : Int, e = .returned (.tuple #[.int .i64 a, .int .i64 b, .int .i64 s])) ∧ Below w.heap.size w w' := by
  have HP := Aside0.mk (dr.two hr (dr.start w A c xs) (by omega))
  have HR := Aside0.mk hr
  clear hr
  go_enter Tryz.func5, Tryz.ntmps5
  go_wp2_with (first
    | (go_at_call 30; (with_reducible refine HP.out.mono ?_); rintro e w1 ⟨⟨a1, b1, rfl⟩, ha1, _⟩; have HA1 := Aside0.mk ha1; clear ha1)
    | (go_at_call 31; (with_reducible refine (dr.amongLit (w := w1) _ _ [0, 1, 2, 3, 7, 100, 1000000, 1000001, -1] ?s1 ?s2 ?s3 ?s4 HR.out HA1.out (by omega)).mono ?_); (case s1 => rfl); (case s2 => rfl); (case s3 => omega); (case s4 => omega); rintro e w2 ⟨⟨b2, rfl⟩, ha2, _⟩; have HA2 := Aside0.mk ha2; clear ha2))
  go_ret3
  exact ⟨⟨_, _, _, rfl⟩, HA2.out.below⟩

/-! ### impl_within: function 33 -/
def impl_within.f (a0 : Int) (a1 : Int) (a2 : Int) : Option (Bool) := if a0 ≥ a1 then (some (decide (a0 ≤ a2))) else (some false)
set_option maxHeartbeats 8000000 in
set_option maxRecDepth 100000 in
theorem impl_within.calls (a0 : Int) (a1 : Int) (a2 : Int) (r : Bool) (w : World) (h : impl_within.f a0 a1 a2 = some r) :
    Calls Tryz.prog 33 #[.int .i64 a0, .int .i64 a1, .int .i64 a2] w fun e w' => e = .returned (.bool r) ∧ Drawn0 w w' := by
  have H : (if a0 ≥ a1 then (some (decide (a0 ≤ a2))) else (some false)) = some r := h
  clear h
  by_cases c4 : a0 ≥ a1
  · rw [if_pos c4] at H
    have c4b0 : decide (a1 ≤ a0) = true := decide_eq_true c4
    clear c4
    obtain rfl := Option.some.inj H
    go_enter Tryz.func33, Tryz.ntmps33
    go_wp2
    go_ret
    exact ⟨by first | rfl | (simp; done) | (simp [*]; done), by repeat (first | exact Drawn0.refl _ | apply Drawn0.step)⟩
  · rw [if_neg c4] at H
    have c4b0 : decide (a1 ≤ a0) = false := decide_eq_false c4
    clear c4
    obtain rfl := Option.some.inj H
    go_enter Tryz.func33, Tryz.ntmps33
    go_wp2
    go_ret
    exact ⟨by first | rfl | (simp; done) | (simp [*]; done), by repeat (first | exact Drawn0.refl _ | apply Drawn0.step)⟩

/-! ### impl_isPair: function 32 -/
def impl_isPair.f (a0 : Int) (a1 : Int) : Option (Bool) := (impl_within.f a0 0 100000).bind fun t101 => (if t101 = true then ((impl_within.f a1 0 100000).bind fun t102 => (if t102 = true then ((impl_within.f (wrap64 (a0 + a1)) 1 100000).bind fun t103 => (some t103)) else (some false))) else (some false))
set_option maxHeartbeats 8000000 in
set_option maxRecDepth 100000 in
theorem impl_isPair.calls (a0 : Int) (a1 : Int) (r : Bool) (w : World) (h : impl_isPair.f a0 a1 = some r) :
    Calls Tryz.prog 32 #[.int .i64 a0, .int .i64 a1] w fun e w' => e = .returned (.bool r) ∧ Drawn0 w w' := by
  have H : ((impl_within.f a0 0 100000).bind fun t101 => (if t101 = true then ((impl_within.f a1 0 100000).bind fun t102 => (if t102 = true then ((impl_within.f (wrap64 (a0 + a1)) 1 100000).bind fun t103 => (some t103)) else (some false))) else (some false))) = some r := h
  clear h
  replace H := Option.bind_eq_some_iff.mp H
  obtain ⟨t101, A30, H⟩ := H
  replace H : (if t101 = true then ((impl_within.f a1 0 100000).bind fun t102 => (if t102 = true then ((impl_within.f (wrap64 (a0 + a1)) 1 100000).bind fun t103 => (some t103)) else (some false))) else (some false)) = some r := H
  have A3 := Aside0.mk A30
  clear A30
  by_cases c4 : t101 = true
  · subst c4
    have H1 : ((impl_within.f a1 0 100000).bind fun t102 => (if t102 = true then ((impl_within.f (wrap64 (a0 + a1)) 1 100000).bind fun t103 => (some t103)) else (some false))) = some r := by rw [if_pos rfl] at H; exact H
    clear H
    have H := H1
    clear H1
    replace H := Option.bind_eq_some_iff.mp H
    obtain ⟨t102, A50, H⟩ := H
    replace H : (if t102 = true then ((impl_within.f (wrap64 (a0 + a1)) 1 100000).bind fun t103 => (some t103)) else (some false)) = some r := H
    have A5 := Aside0.mk A50
    clear A50
    by_cases c6 : t102 = true
    · subst c6
      have H1 : ((impl_within.f (wrap64 (a0 + a1)) 1 100000).bind fun t103 => (some t103)) = some r := by rw [if_pos rfl] at H; exact H
      clear H
      have H := H1
      clear H1
      replace H := Option.bind_eq_some_iff.mp H
      obtain ⟨t103, A70, H⟩ := H
      replace H : (some t103) = some r := H
      have A7 := Aside0.mk A70
      clear A70
      obtain rfl := Option.some.inj H
      go_enter Tryz.func32, Tryz.ntmps32
      go_wp2_with (first | ((with_reducible refine gate_callee (f := 33) rfl ?_); refine goesL_ (some 6) rfl rfl Tryz.func33 (by kernel_rfl) rfl #[.int .i64 a0, .int .i64 0, .int .i64 100000] rfl (by (try simp only [List.map_toArray, List.map_cons, List.map_nil]); first | done | rfl | (simp only [List.length_drop, List.length_take]; rfl)) ?_; (with_reducible refine (impl_within.calls a0 0 100000 true _ A3.out).mono ?_); rintro e w' ⟨rfl, ⟨nd, rfl⟩⟩; refine ⟨_, rfl, ?_⟩) | (go_at_call 33; (with_reducible refine (impl_within.calls a1 0 100000 true _ A5.out).mono ?_); rintro e w' ⟨rfl, ⟨nd, rfl⟩⟩) | (go_at_call 33; (with_reducible refine (impl_within.calls (wrap64 (a0 + a1)) 1 100000 t103 _ A7.out).mono ?_); rintro e w' ⟨rfl, ⟨nd, rfl⟩⟩))
      go_ret
      exact ⟨by first | rfl | (simp; done) | (simp [*]; done), by repeat (first | exact Drawn0.refl _ | apply Drawn0.step)⟩
    · replace c6 := Bool.eq_false_iff.mpr c6
      subst c6
      have H1 : (some false) = some r := by rw [if_neg (show ¬ (false = true) by decide)] at H; exact H
      clear H
      have H := H1
      clear H1
      obtain rfl := Option.some.inj H
      go_enter Tryz.func32, Tryz.ntmps32
      go_wp2_with (first | ((with_reducible refine gate_callee (f := 33) rfl ?_); refine goesL_ (some 6) rfl rfl Tryz.func33 (by kernel_rfl) rfl #[.int .i64 a0, .int .i64 0, .int .i64 100000] rfl (by (try simp only [List.map_toArray, List.map_cons, List.map_nil]); first | done | rfl | (simp only [List.length_drop, List.length_take]; rfl)) ?_; (with_reducible refine (impl_within.calls a0 0 100000 true _ A3.out).mono ?_); rintro e w' ⟨rfl, ⟨nd, rfl⟩⟩; refine ⟨_, rfl, ?_⟩) | (go_at_call 33; (with_reducible refine (impl_within.calls a1 0 100000 false _ A5.out).mono ?_); rintro e w' ⟨rfl, ⟨nd, rfl⟩⟩))
      go_ret
      exact ⟨by first | rfl | (simp; done) | (simp [*]; done), by repeat (first | exact Drawn0.refl _ | apply Drawn0.step)⟩
  · replace c4 := Bool.eq_false_iff.mpr c4
    subst c4
    have H1 : (some false) = some r := by rw [if_neg (show ¬ (false = true) by decide)] at H; exact H
    clear H
    have H := H1
    clear H1
    obtain rfl := Option.some.inj H
    go_enter Tryz.func32, Tryz.ntmps32
    go_wp2_with (first | ((with_reducible refine gate_callee (f := 33) rfl ?_); refine goesL_ (some 6) rfl rfl Tryz.func33 (by kernel_rfl) rfl #[.int .i64 a0, .int .i64 0, .int .i64 100000] rfl (by (try simp only [List.map_toArray, List.map_cons, List.map_nil]); first | done | rfl | (simp only [List.length_drop, List.length_take]; rfl)) ?_; (with_reducible refine (impl_within.calls a0 0 100000 false _ A3.out).mono ?_); rintro e w' ⟨rfl, ⟨nd, rfl⟩⟩; refine ⟨_, rfl, ?_⟩))
    go_ret
    exact ⟨by first | rfl | (simp; done) | (simp [*]; done), by repeat (first | exact Drawn0.refl _ | apply Drawn0.step)⟩

/-! ### impl_pairStep: function 34 -/
def impl_pairStep.j0 : Nat → Int → Int → Bool → Option (Int × Int)
  | 0, _, _, _ => none
  | k + 1, x0, x1, x6 => if x6 = true then (some (x0, x1)) else (if x0 < x1 then (some (wrap64 (2 * x0), wrap64 (x1 - x0))) else (some (wrap64 (x0 - x1), wrap64 (2 * x1))))
def impl_pairStep.f (k : Nat) (a0 : Int) (a1 : Int) : Option (Int × Int) := if a0 = 0 then (impl_pairStep.j0 k a0 a1 true) else (impl_pairStep.j0 k a0 a1 (a1 == 0))
theorem impl_pairStep.mono_l : ∀ k, (∀ y0 y1 y2, LeO (impl_pairStep.j0 k y0 y1 y2) (impl_pairStep.j0 (k + 1) y0 y1 y2))
  | 0 => fun _ _ _ r h => by simp [impl_pairStep.j0] at h
  | k + 1 => by
    have ih0 := impl_pairStep.mono_l k
    · intro y0 y1 y2
      unfold impl_pairStep.j0
      repeat' first
      | (with_reducible exact ih0 _ _ _)
      | (with_reducible exact LeO.refl _)
      | (with_reducible exact LeO.none _)
      | (with_reducible refine LeO.ite ?_ ?_)
      | (with_reducible refine LeO.bind ?_ (fun _ => ?_))
      | exact ih0 _ _ _
      | exact LeO.none _
      | refine LeO.ite ?_ ?_
      | refine LeO.bind ?_ (fun _ => ?_)
theorem impl_pairStep.mono : ∀ a0 a1 k, LeO (impl_pairStep.f k a0 a1) (impl_pairStep.f (k + 1) a0 a1) := by
  intro a0 a1 k
  have ih0 := impl_pairStep.mono_l k
  unfold impl_pairStep.f
  repeat' first
      | (with_reducible exact ih0 _ _ _)
      | (with_reducible exact LeO.refl _)
      | (with_reducible exact LeO.none _)
      | (with_reducible refine LeO.ite ?_ ?_)
      | (with_reducible refine LeO.bind ?_ (fun _ => ?_))
      | exact ih0 _ _ _
      | exact LeO.none _
      | refine LeO.ite ?_ ?_
      | refine LeO.bind ?_ (fun _ => ?_)
set_option maxHeartbeats 8000000 in
set_option maxRecDepth 100000 in
theorem impl_pairStep.calls (k : Nat) (a0 : Int) (a1 : Int) (r1 : Int) (r2 : Int) (w : World) (h : impl_pairStep.f k a0 a1 = some (r1, r2)) :
    Calls Tryz.prog 34 #[.int .i64 a0, .int .i64 a1] w fun e w' => e = .returned (.tuple #[.int .i64 r1, .int .i64 r2]) ∧ Drawn0 w w' := by
  have H : (if a0 = 0 then (impl_pairStep.j0 k a0 a1 true) else (impl_pairStep.j0 k a0 a1 (a1 == 0))) = some (r1, r2) := h
  clear h
  have HC3 := Aside0.mk H
  clear H
  go_enter Tryz.func34, Tryz.ntmps34
  go_upto_region 1 with (fail)
  go_cut [6] (fun v6 wc => ∃ (kq : Nat) (x6_2 : Bool), v6 = .bool x6_2 ∧ Aside0 (impl_pairStep.j0 kq a0 a1 x6_2 = some (r1, r2)) ∧ Aside0 (kq ≤ k) ∧ Drawn0 w wc)
  case first =>
    have H := HC3.out
    clear HC3
    by_cases c4 : a0 = 0
    · rw [if_pos c4] at H
      have c4b0 : (a0 == 0) = true := beq_iff_eq.mpr c4
      have c4b1 : (a0 != 0) = false := bne_eq_false_iff_eq.mpr c4
      clear c4
      (first | rw [c4b0] | (simp only [i64_w, i32_w]; rw [c4b0]) | rw [c4b1] | skip)
      have H' := Aside0.mk H
      clear H
      go_wp2
      go_meet
      case rel => exact ⟨_, (true), (by first | rfl | (simp; done) | (simp [*]; done)), H', ⟨by first | omega | exact Nat.le_refl _⟩, by repeat (first | exact Drawn0.refl _ | apply Drawn0.step)⟩
    · rw [if_neg c4] at H
      have c4b0 : (a0 == 0) = false := beq_eq_false_iff_ne.mpr c4
      have c4b1 : (a0 != 0) = true := bne_iff_ne.mpr c4
      (first | rw [c4b0] | (simp only [i64_w, i32_w]; rw [c4b0]) | rw [c4b1] | skip)
      have H' := Aside0.mk H
      clear H
      go_wp2
      go_meet
      case rel => exact ⟨_, ((a1 == 0)), (by first | rfl | (simp; done) | (simp [*]; done)), H', ⟨by first | omega | exact Nat.le_refl _⟩, by repeat (first | exact Drawn0.refl _ | apply Drawn0.step)⟩
  case rest =>
    clear HC3
    try clear p2
    try clear c3
    try clear c4
    try clear c4b0
    try clear c4b1
    obtain ⟨kq, x6_2, rfl, HA, HJ2, ⟨mc2, rfl⟩⟩ := hcut
    cases kq with
    | zero => exact absurd HA.out (by simp [impl_pairStep.j0])
    | succ kj2 =>
      have H := HA.out
      clear HA
      simp only [impl_pairStep.j0] at H
      by_cases c5 : x6_2 = true
      · subst c5
        have H1 : (some (a0, a1)) = some (r1, r2) := by rw [if_pos rfl] at H; exact H
        clear H
        have H := H1
        clear H1
        simp only [Option.some.injEq, Prod.mk.injEq] at H
        obtain ⟨rfl, rfl⟩ := H
        go_wp2
        go_ret2
        exact ⟨by first | rfl | (simp; done) | (simp [*]; done), by repeat (first | exact Drawn0.refl _ | apply Drawn0.step)⟩
      · replace c5 := Bool.eq_false_iff.mpr c5
        subst c5
        have H1 : (if a0 < a1 then (some (wrap64 (2 * a0), wrap64 (a1 - a0))) else (some (wrap64 (a0 - a1), wrap64 (2 * a1)))) = some (r1, r2) := by rw [if_neg (show ¬ (false = true) by decide)] at H; exact H
        clear H
        have H := H1
        clear H1
        by_cases c6 : a0 < a1
        · rw [if_pos c6] at H
          have c6b0 : decide (a0 < a1) = true := decide_eq_true c6
          clear c6
          simp only [Option.some.injEq, Prod.mk.injEq] at H
          obtain ⟨rfl, rfl⟩ := H
          go_wp2
          go_ret2
          exact ⟨by first | rfl | (simp; done) | (simp [*]; done), by repeat (first | exact Drawn0.refl _ | apply Drawn0.step)⟩
        · rw [if_neg c6] at H
          have c6b0 : decide (a0 < a1) = false := decide_eq_false c6
          clear c6
          simp only [Option.some.injEq, Prod.mk.injEq] at H
          obtain ⟨rfl, rfl⟩ := H
          go_wp2
          go_ret2
          exact ⟨by first | rfl | (simp; done) | (simp [*]; done), by repeat (first | exact Drawn0.refl _ | apply Drawn0.step)⟩

/-! ### impl_PairAfter: function 6 -/
mutual
def impl_PairAfter.j0 : Nat → Int → Int → Int → Bool → Option (Int × Int × Bool)
  | 0, _, _, _, _ => none
  | k + 1, x0, x1, x2, x17 => if x17 = true then (some (0, 0, false)) else (impl_PairAfter.l0 k x0 x1 x2 0)
def impl_PairAfter.l0 : Nat → Int → Int → Int → Int → Option (Int × Int × Bool)
  | 0, _, _, _, _ => none
  | k + 1, x0, x1, x18, x19 => if x19 < x18 then ((impl_pairStep.f k x0 x1).bind fun bt106 => (impl_PairAfter.l0 k bt106.1 bt106.2 x18 (wrap64 (x19 + 1)))) else (some (x0, x1, true))
end
def impl_PairAfter.f (k : Nat) (a0 : Int) (a1 : Int) (a2 : Int) : Option (Int × Int × Bool) := (impl_isPair.f a0 a1).bind fun t104 => (if t104 = true then ((impl_within.f a2 0 1000000).bind fun t105 => (impl_PairAfter.j0 k a0 a1 a2 (!t105))) else (impl_PairAfter.j0 k a0 a1 a2 true))
theorem impl_PairAfter.mono_l : ∀ k, (∀ y0 y1 y2 y3, LeO (impl_PairAfter.j0 k y0 y1 y2 y3) (impl_PairAfter.j0 (k + 1) y0 y1 y2 y3)) ∧ (∀ y0 y1 y2 y3, LeO (impl_PairAfter.l0 k y0 y1 y2 y3) (impl_PairAfter.l0 (k + 1) y0 y1 y2 y3))
  | 0 => ⟨fun _ _ _ _ r h => by simp [impl_PairAfter.j0] at h, fun _ _ _ _ r h => by simp [impl_PairAfter.l0] at h⟩
  | k + 1 => by
    obtain ⟨ih0, ih1⟩ := impl_PairAfter.mono_l k
    refine ⟨?_, ?_⟩
    · intro y0 y1 y2 y3
      unfold impl_PairAfter.j0
      repeat' first
      | (with_reducible exact ih0 _ _ _ _)
      | (with_reducible exact ih1 _ _ _ _)
      | (with_reducible exact impl_pairStep.mono _ _ _)
      | (with_reducible exact LeO.refl _)
      | (with_reducible exact LeO.none _)
      | (with_reducible refine LeO.ite ?_ ?_)
      | (with_reducible refine LeO.bind ?_ (fun _ => ?_))
      | exact ih0 _ _ _ _
      | exact ih1 _ _ _ _
      | exact impl_pairStep.mono _ _ _
      | exact LeO.none _
      | refine LeO.ite ?_ ?_
      | refine LeO.bind ?_ (fun _ => ?_)
    · intro y0 y1 y2 y3
      unfold impl_PairAfter.l0
      repeat' first
      | (with_reducible exact ih0 _ _ _ _)
      | (with_reducible exact ih1 _ _ _ _)
      | (with_reducible exact impl_pairStep.mono _ _ _)
      | (with_reducible exact LeO.refl _)
      | (with_reducible exact LeO.none _)
      | (with_reducible refine LeO.ite ?_ ?_)
      | (with_reducible refine LeO.bind ?_ (fun _ => ?_))
      | exact ih0 _ _ _ _
      | exact ih1 _ _ _ _
      | exact impl_pairStep.mono _ _ _
      | exact LeO.none _
      | refine LeO.ite ?_ ?_
      | refine LeO.bind ?_ (fun _ => ?_)
theorem impl_PairAfter.mono : ∀ a0 a1 a2 k, LeO (impl_PairAfter.f k a0 a1 a2) (impl_PairAfter.f (k + 1) a0 a1 a2) := by
  intro a0 a1 a2 k
  obtain ⟨ih0, ih1⟩ := impl_PairAfter.mono_l k
  unfold impl_PairAfter.f
  repeat' first
      | (with_reducible exact ih0 _ _ _ _)
      | (with_reducible exact ih1 _ _ _ _)
      | (with_reducible exact impl_pairStep.mono _ _ _)
      | (with_reducible exact LeO.refl _)
      | (with_reducible exact LeO.none _)
      | (with_reducible refine LeO.ite ?_ ?_)
      | (with_reducible refine LeO.bind ?_ (fun _ => ?_))
      | exact ih0 _ _ _ _
      | exact ih1 _ _ _ _
      | exact impl_pairStep.mono _ _ _
      | exact LeO.none _
      | refine LeO.ite ?_ ?_
      | refine LeO.bind ?_ (fun _ => ?_)
set_option maxHeartbeats 8000000 in
set_option maxRecDepth 100000 in
theorem impl_PairAfter.calls (k : Nat) (a0 : Int) (a1 : Int) (a2 : Int) (r1 : Int) (r2 : Int) (r3 : Bool) (w : World) (h : impl_PairAfter.f k a0 a1 a2 = some (r1, r2, r3)) :
    Calls Tryz.prog 6 #[.int .i64 a0, .int .i64 a1, .int .i64 a2] w fun e w' => e = .returned (.tuple #[.int .i64 r1, .int .i64 r2, .bool r3]) ∧ Drawn0 w w' := by
  have H : ((impl_isPair.f a0 a1).bind fun t104 => (if t104 = true then ((impl_within.f a2 0 1000000).bind fun t105 => (impl_PairAfter.j0 k a0 a1 a2 (!t105))) else (impl_PairAfter.j0 k a0 a1 a2 true))) = some (r1, r2, r3) := h
  clear h
  have HC4 := Aside0.mk H
  clear H
  go_enter Tryz.func6, Tryz.ntmps6
  go_upto_region 1 with (fail)
  go_cut [17] (fun v17 wc => ∃ (kq : Nat) (x17_3 : Bool), v17 = .bool x17_3 ∧ Aside0 (impl_PairAfter.j0 kq a0 a1 a2 x17_3 = some (r1, r2, r3)) ∧ Aside0 (kq ≤ k) ∧ Drawn0 w wc)
  case first =>
    have H := HC4.out
    clear HC4
    replace H := Option.bind_eq_some_iff.mp H
    obtain ⟨t104, A50, H⟩ := H
    replace H : (if t104 = true then ((impl_within.f a2 0 1000000).bind fun t105 => (impl_PairAfter.j0 k a0 a1 a2 (!t105))) else (impl_PairAfter.j0 k a0 a1 a2 true)) = some (r1, r2, r3) := H
    have A5 := Aside0.mk A50
    clear A50
    by_cases c6 : t104 = true
    · subst c6
      have H1 : ((impl_within.f a2 0 1000000).bind fun t105 => (impl_PairAfter.j0 k a0 a1 a2 (!t105))) = some (r1, r2, r3) := by rw [if_pos rfl] at H; exact H
      clear H
      have H := H1
      clear H1
      replace H := Option.bind_eq_some_iff.mp H
      obtain ⟨t105, A70, H⟩ := H
      replace H : (impl_PairAfter.j0 k a0 a1 a2 (!t105)) = some (r1, r2, r3) := H
      have A7 := Aside0.mk A70
      clear A70
      have H' := Aside0.mk H
      clear H
      go_wp2_with (first | ((with_reducible refine gate_callee (f := 32) rfl ?_); refine goesL_ (some 11) rfl rfl Tryz.func32 (by kernel_rfl) rfl #[.int .i64 a0, .int .i64 a1] rfl (by (try simp only [List.map_toArray, List.map_cons, List.map_nil]); first | done | rfl | (simp only [List.length_drop, List.length_take]; rfl)) ?_; (with_reducible refine (impl_isPair.calls a0 a1 true _ A5.out).mono ?_); rintro e w' ⟨rfl, ⟨nd, rfl⟩⟩; refine ⟨_, rfl, ?_⟩) | (go_at_call 33; (with_reducible refine (impl_within.calls a2 0 1000000 t105 _ A7.out).mono ?_); rintro e w' ⟨rfl, ⟨nd, rfl⟩⟩))
      go_meet
      case rel => exact ⟨_, (!t105), (by first | rfl | (simp; done) | (simp [*]; done)), H', ⟨by first | omega | exact Nat.le_refl _⟩, by repeat (first | exact Drawn0.refl _ | apply Drawn0.step)⟩
    · replace c6 := Bool.eq_false_iff.mpr c6
      subst c6
      have H1 : (impl_PairAfter.j0 k a0 a1 a2 true) = some (r1, r2, r3) := by rw [if_neg (show ¬ (false = true) by decide)] at H; exact H
      clear H
      have H := H1
      clear H1
      have H' := Aside0.mk H
      clear H
      go_wp2_with (first | ((with_reducible refine gate_callee (f := 32) rfl ?_); refine goesL_ (some 11) rfl rfl Tryz.func32 (by kernel_rfl) rfl #[.int .i64 a0, .int .i64 a1] rfl (by (try simp only [List.map_toArray, List.map_cons, List.map_nil]); first | done | rfl | (simp only [List.length_drop, List.length_take]; rfl)) ?_; (with_reducible refine (impl_isPair.calls a0 a1 false _ A5.out).mono ?_); rintro e w' ⟨rfl, ⟨nd, rfl⟩⟩; refine ⟨_, rfl, ?_⟩))
      go_meet
      case rel => exact ⟨_, (true), (by first | rfl | (simp; done) | (simp [*]; done)), H', ⟨by first | omega | exact Nat.le_refl _⟩, by repeat (first | exact Drawn0.refl _ | apply Drawn0.step)⟩
  case rest =>
    clear HC4
    try clear p2
    try clear c3
    try clear c6
    obtain ⟨kq, x17_3, rfl, HA, HJ3, ⟨mc3, rfl⟩⟩ := hcut
    cases kq with
    | zero => exact absurd HA.out (by simp [impl_PairAfter.j0])
    | succ kj3 =>
      have H := HA.out
      clear HA
      simp only [impl_PairAfter.j0] at H
      by_cases c8 : x17_3 = true
      · subst c8
        have H1 : (some (0, 0, false)) = some (r1, r2, r3) := by rw [if_pos rfl] at H; exact H
        clear H
        have H := H1
        clear H1
        simp only [Option.some.injEq, Prod.mk.injEq] at H
        obtain ⟨rfl, rfl, rfl⟩ := H
        go_wp2
        go_ret3
        exact ⟨by first | rfl | (simp; done) | (simp [*]; done), by repeat (first | exact Drawn0.refl _ | apply Drawn0.step)⟩
      · replace c8 := Bool.eq_false_iff.mpr c8
        subst c8
        have H1 : (impl_PairAfter.l0 kj3 a0 a1 a2 0) = some (r1, r2, r3) := by rw [if_neg (show ¬ (false = true) by decide)] at H; exact H
        clear H
        have H := H1
        clear H1
        have H' := Aside0.mk H
        clear H
        go_wp2
        go_loopg [0, 1, 19] kj3 (fun kq v0 v1 v19 w' => ∃ (x0_2 : Int) (x1_2 : Int) (x19_2 : Int), v0 = .int .i64 x0_2 ∧ v1 = .int .i64 x1_2 ∧ v19 = .int .i64 x19_2 ∧ Aside0 (impl_PairAfter.l0 kq x0_2 x1_2 a2 x19_2 = some (r1, r2, r3)) ∧ Aside0 (kq ≤ kj3) ∧ Drawn0 w w')
        case atStart => exact ⟨(a0), (a1), (0), (by first | rfl | (simp; done) | (simp [*]; done)), (by first | rfl | (simp; done) | (simp [*]; done)), (by first | rfl | (simp; done) | (simp [*]; done)), H', ⟨Nat.le_refl _⟩, by repeat (first | exact Drawn0.refl _ | apply Drawn0.step)⟩
        case round =>
          clear H'
          try clear p2
          try clear c3
          try clear c6
          try clear c8
          try clear p2
          obtain ⟨x0_2, x1_2, x19_2, rfl, rfl, rfl, HA, HK2, ⟨m2, rfl⟩⟩ := hrel
          cases gk with
          | zero => exact absurd HA.out (by simp [impl_PairAfter.l0])
          | succ k2 =>
            have H := HA.out
            clear HA
            simp only [impl_PairAfter.l0] at H
            by_cases c9 : x19_2 < a2
            · rw [if_pos c9] at H
              have c9b0 : decide (x19_2 < a2) = true := decide_eq_true c9
              clear c9
              replace H := Option.bind_eq_some_iff.mp H
              obtain ⟨⟨t106, t107⟩, A100, H⟩ := H
              replace H : (impl_PairAfter.l0 k2 t106 t107 a2 (wrap64 (x19_2 + 1))) = some (r1, r2, r3) := H
              have A10 := Aside0.mk A100
              clear A100
              have H' := Aside0.mk H
              clear H
              go_wp2_with (first | ((with_reducible refine gate_callee (f := 34) rfl ?_); refine goesL_ (some 24) rfl rfl Tryz.func34 (by kernel_rfl) rfl #[.int .i64 x0_2, .int .i64 x1_2] rfl (by (try simp only [List.map_toArray, List.map_cons, List.map_nil]); first | done | rfl | (simp only [List.length_drop, List.length_take]; rfl)) ?_; (with_reducible refine (impl_pairStep.calls k2 x0_2 x1_2 t106 t107 _ A10.out).mono ?_); rintro e w' ⟨rfl, ⟨nd, rfl⟩⟩; refine ⟨_, rfl, ?_⟩))
              go_roundg k2
              case measure => have := HJ3.out; have := HK2.out; omega
              case rel => exact ⟨(t106), (t107), (wrap64 (x19_2 + 1)), (by first | rfl | (simp; done) | (simp [*]; done)), (by first | rfl | (simp; done) | (simp [*]; done)), (by first | rfl | (simp; done) | (simp [*]; done)), H', ⟨by have := HJ3.out; have := HK2.out; omega⟩, by repeat (first | exact Drawn0.refl _ | apply Drawn0.step)⟩
            · rw [if_neg c9] at H
              have c9b0 : decide (x19_2 < a2) = false := decide_eq_false c9
              clear c9
              simp only [Option.some.injEq, Prod.mk.injEq] at H
              obtain ⟨rfl, rfl, rfl⟩ := H
              go_wp2
              go_ret3
              exact ⟨by first | rfl | (simp; done) | (simp [*]; done), by repeat (first | exact Drawn0.refl _ | apply Drawn0.step)⟩

/-! ### spec_l1In: function 36 -/
def spec_l1In.f (a0 : Int) (a1 : Int) (a2 : Int) : Option (Bool) := if a0 ≥ a1 then (some (decide (a0 ≤ a2))) else (some false)
set_option maxHeartbeats 8000000 in
set_option maxRecDepth 100000 in
theorem spec_l1In.calls (a0 : Int) (a1 : Int) (a2 : Int) (r : Bool) (w : World) (h : spec_l1In.f a0 a1 a2 = some r) :
    Calls Tryz.prog 36 #[.int .i64 a0, .int .i64 a1, .int .i64 a2] w fun e w' => e = .returned (.bool r) ∧ Drawn0 w w' := by
  have H : (if a0 ≥ a1 then (some (decide (a0 ≤ a2))) else (some false)) = some r := h
  clear h
  by_cases c4 : a0 ≥ a1
  · rw [if_pos c4] at H
    have c4b0 : decide (a1 ≤ a0) = true := decide_eq_true c4
    clear c4
    obtain rfl := Option.some.inj H
    go_enter Tryz.func36, Tryz.ntmps36
    go_wp2
    go_ret
    exact ⟨by first | rfl | (simp; done) | (simp [*]; done), by repeat (first | exact Drawn0.refl _ | apply Drawn0.step)⟩
  · rw [if_neg c4] at H
    have c4b0 : decide (a1 ≤ a0) = false := decide_eq_false c4
    clear c4
    obtain rfl := Option.some.inj H
    go_enter Tryz.func36, Tryz.ntmps36
    go_wp2
    go_ret
    exact ⟨by first | rfl | (simp; done) | (simp [*]; done), by repeat (first | exact Drawn0.refl _ | apply Drawn0.step)⟩

/-! ### spec_dbPair: function 35 -/
def spec_dbPair.f (a0 : Int) (a1 : Int) : Option (Bool) := (spec_l1In.f a0 0 100000).bind fun t108 => (if t108 = true then ((spec_l1In.f a1 0 100000).bind fun t109 => (if t109 = true then ((spec_l1In.f (wrap64 (a0 + a1)) 1 100000).bind fun t110 => (some t110)) else (some false))) else (some false))
set_option maxHeartbeats 8000000 in
set_option maxRecDepth 100000 in
theorem spec_dbPair.calls (a0 : Int) (a1 : Int) (r : Bool) (w : World) (h : spec_dbPair.f a0 a1 = some r) :
    Calls Tryz.prog 35 #[.int .i64 a0, .int .i64 a1] w fun e w' => e = .returned (.bool r) ∧ Drawn0 w w' := by
  have H : ((spec_l1In.f a0 0 100000).bind fun t108 => (if t108 = true then ((spec_l1In.f a1 0 100000).bind fun t109 => (if t109 = true then ((spec_l1In.f (wrap64 (a0 + a1)) 1 100000).bind fun t110 => (some t110)) else (some false))) else (some false))) = some r := h
  clear h
  replace H := Option.bind_eq_some_iff.mp H
  obtain ⟨t108, A30, H⟩ := H
  replace H : (if t108 = true then ((spec_l1In.f a1 0 100000).bind fun t109 => (if t109 = true then ((spec_l1In.f (wrap64 (a0 + a1)) 1 100000).bind fun t110 => (some t110)) else (some false))) else (some false)) = some r := H
  have A3 := Aside0.mk A30
  clear A30
  by_cases c4 : t108 = true
  · subst c4
    have H1 : ((spec_l1In.f a1 0 100000).bind fun t109 => (if t109 = true then ((spec_l1In.f (wrap64 (a0 + a1)) 1 100000).bind fun t110 => (some t110)) else (some false))) = some r := by rw [if_pos rfl] at H; exact H
    clear H
    have H := H1
    clear H1
    replace H := Option.bind_eq_some_iff.mp H
    obtain ⟨t109, A50, H⟩ := H
    replace H : (if t109 = true then ((spec_l1In.f (wrap64 (a0 + a1)) 1 100000).bind fun t110 => (some t110)) else (some false)) = some r := H
    have A5 := Aside0.mk A50
    clear A50
    by_cases c6 : t109 = true
    · subst c6
      have H1 : ((spec_l1In.f (wrap64 (a0 + a1)) 1 100000).bind fun t110 => (some t110)) = some r := by rw [if_pos rfl] at H; exact H
      clear H
      have H := H1
      clear H1
      replace H := Option.bind_eq_some_iff.mp H
      obtain ⟨t110, A70, H⟩ := H
      replace H : (some t110) = some r := H
      have A7 := Aside0.mk A70
      clear A70
      obtain rfl := Option.some.inj H
      go_enter Tryz.func35, Tryz.ntmps35
      go_wp2_with (first | ((with_reducible refine gate_callee (f := 36) rfl ?_); refine goesL_ (some 6) rfl rfl Tryz.func36 (by kernel_rfl) rfl #[.int .i64 a0, .int .i64 0, .int .i64 100000] rfl (by (try simp only [List.map_toArray, List.map_cons, List.map_nil]); first | done | rfl | (simp only [List.length_drop, List.length_take]; rfl)) ?_; (with_reducible refine (spec_l1In.calls a0 0 100000 true _ A3.out).mono ?_); rintro e w' ⟨rfl, ⟨nd, rfl⟩⟩; refine ⟨_, rfl, ?_⟩) | (go_at_call 36; (with_reducible refine (spec_l1In.calls a1 0 100000 true _ A5.out).mono ?_); rintro e w' ⟨rfl, ⟨nd, rfl⟩⟩) | (go_at_call 36; (with_reducible refine (spec_l1In.calls (wrap64 (a0 + a1)) 1 100000 t110 _ A7.out).mono ?_); rintro e w' ⟨rfl, ⟨nd, rfl⟩⟩))
      go_ret
      exact ⟨by first | rfl | (simp; done) | (simp [*]; done), by repeat (first | exact Drawn0.refl _ | apply Drawn0.step)⟩
    · replace c6 := Bool.eq_false_iff.mpr c6
      subst c6
      have H1 : (some false) = some r := by rw [if_neg (show ¬ (false = true) by decide)] at H; exact H
      clear H
      have H := H1
      clear H1
      obtain rfl := Option.some.inj H
      go_enter Tryz.func35, Tryz.ntmps35
      go_wp2_with (first | ((with_reducible refine gate_callee (f := 36) rfl ?_); refine goesL_ (some 6) rfl rfl Tryz.func36 (by kernel_rfl) rfl #[.int .i64 a0, .int .i64 0, .int .i64 100000] rfl (by (try simp only [List.map_toArray, List.map_cons, List.map_nil]); first | done | rfl | (simp only [List.length_drop, List.length_take]; rfl)) ?_; (with_reducible refine (spec_l1In.calls a0 0 100000 true _ A3.out).mono ?_); rintro e w' ⟨rfl, ⟨nd, rfl⟩⟩; refine ⟨_, rfl, ?_⟩) | (go_at_call 36; (with_reducible refine (spec_l1In.calls a1 0 100000 false _ A5.out).mono ?_); rintro e w' ⟨rfl, ⟨nd, rfl⟩⟩))
      go_ret
      exact ⟨by first | rfl | (simp; done) | (simp [*]; done), by repeat (first | exact Drawn0.refl _ | apply Drawn0.step)⟩
  · replace c4 := Bool.eq_false_iff.mpr c4
    subst c4
    have H1 : (some false) = some r := by rw [if_neg (show ¬ (false = true) by decide)] at H; exact H
    clear H
    have H := H1
    clear H1
    obtain rfl := Option.some.inj H
    go_enter Tryz.func35, Tryz.ntmps35
    go_wp2_with (first | ((with_reducible refine gate_callee (f := 36) rfl ?_); refine goesL_ (some 6) rfl rfl Tryz.func36 (by kernel_rfl) rfl #[.int .i64 a0, .int .i64 0, .int .i64 100000] rfl (by (try simp only [List.map_toArray, List.map_cons, List.map_nil]); first | done | rfl | (simp only [List.length_drop, List.length_take]; rfl)) ?_; (with_reducible refine (spec_l1In.calls a0 0 100000 false _ A3.out).mono ?_); rintro e w' ⟨rfl, ⟨nd, rfl⟩⟩; refine ⟨_, rfl, ?_⟩))
    go_ret
    exact ⟨by first | rfl | (simp; done) | (simp [*]; done), by repeat (first | exact Drawn0.refl _ | apply Drawn0.step)⟩

/-! ### spec_dbStep: function 37 -/
def spec_dbStep.j0 : Nat → Int → Int → Bool → Option (Int × Int)
  | 0, _, _, _ => none
  | k + 1, x0, x1, x6 => if x6 = true then (some (x0, x1)) else (if x0 ≥ x1 then (some (wrap64 (x0 - x1), wrap64 (2 * x1))) else (some (wrap64 (2 * x0), wrap64 (x1 - x0))))
def spec_dbStep.f (k : Nat) (a0 : Int) (a1 : Int) : Option (Int × Int) := if a0 = 0 then (spec_dbStep.j0 k a0 a1 true) else (spec_dbStep.j0 k a0 a1 (a1 == 0))
theorem spec_dbStep.mono_l : ∀ k, (∀ y0 y1 y2, LeO (spec_dbStep.j0 k y0 y1 y2) (spec_dbStep.j0 (k + 1) y0 y1 y2))
  | 0 => fun _ _ _ r h => by simp [spec_dbStep.j0] at h
  | k + 1 => by
    have ih0 := spec_dbStep.mono_l k
    · intro y0 y1 y2
      unfold spec_dbStep.j0
      repeat' first
      | (with_reducible exact ih0 _ _ _)
      | (with_reducible exact LeO.refl _)
      | (with_reducible exact LeO.none _)
      | (with_reducible refine LeO.ite ?_ ?_)
      | (with_reducible refine LeO.bind ?_ (fun _ => ?_))
      | exact ih0 _ _ _
      | exact LeO.none _
      | refine LeO.ite ?_ ?_
      | refine LeO.bind ?_ (fun _ => ?_)
theorem spec_dbStep.mono : ∀ a0 a1 k, LeO (spec_dbStep.f k a0 a1) (spec_dbStep.f (k + 1) a0 a1) := by
  intro a0 a1 k
  have ih0 := spec_dbStep.mono_l k
  unfold spec_dbStep.f
  repeat' first
      | (with_reducible exact ih0 _ _ _)
      | (with_reducible exact LeO.refl _)
      | (with_reducible exact LeO.none _)
      | (with_reducible refine LeO.ite ?_ ?_)
      | (with_reducible refine LeO.bind ?_ (fun _ => ?_))
      | exact ih0 _ _ _
      | exact LeO.none _
      | refine LeO.ite ?_ ?_
      | refine LeO.bind ?_ (fun _ => ?_)
set_option maxHeartbeats 8000000 in
set_option maxRecDepth 100000 in
theorem spec_dbStep.calls (k : Nat) (a0 : Int) (a1 : Int) (r1 : Int) (r2 : Int) (w : World) (h : spec_dbStep.f k a0 a1 = some (r1, r2)) :
    Calls Tryz.prog 37 #[.int .i64 a0, .int .i64 a1] w fun e w' => e = .returned (.tuple #[.int .i64 r1, .int .i64 r2]) ∧ Drawn0 w w' := by
  have H : (if a0 = 0 then (spec_dbStep.j0 k a0 a1 true) else (spec_dbStep.j0 k a0 a1 (a1 == 0))) = some (r1, r2) := h
  clear h
  have HC3 := Aside0.mk H
  clear H
  go_enter Tryz.func37, Tryz.ntmps37
  go_upto_region 1 with (fail)
  go_cut [6] (fun v6 wc => ∃ (kq : Nat) (x6_2 : Bool), v6 = .bool x6_2 ∧ Aside0 (spec_dbStep.j0 kq a0 a1 x6_2 = some (r1, r2)) ∧ Aside0 (kq ≤ k) ∧ Drawn0 w wc)
  case first =>
    have H := HC3.out
    clear HC3
    by_cases c4 : a0 = 0
    · rw [if_pos c4] at H
      have c4b0 : (a0 == 0) = true := beq_iff_eq.mpr c4
      have c4b1 : (a0 != 0) = false := bne_eq_false_iff_eq.mpr c4
      clear c4
      (first | rw [c4b0] | (simp only [i64_w, i32_w]; rw [c4b0]) | rw [c4b1] | skip)
      have H' := Aside0.mk H
      clear H
      go_wp2
      go_meet
      case rel => exact ⟨_, (true), (by first | rfl | (simp; done) | (simp [*]; done)), H', ⟨by first | omega | exact Nat.le_refl _⟩, by repeat (first | exact Drawn0.refl _ | apply Drawn0.step)⟩
    · rw [if_neg c4] at H
      have c4b0 : (a0 == 0) = false := beq_eq_false_iff_ne.mpr c4
      have c4b1 : (a0 != 0) = true := bne_iff_ne.mpr c4
      (first | rw [c4b0] | (simp only [i64_w, i32_w]; rw [c4b0]) | rw [c4b1] | skip)
      have H' := Aside0.mk H
      clear H
      go_wp2
      go_meet
      case rel => exact ⟨_, ((a1 == 0)), (by first | rfl | (simp; done) | (simp [*]; done)), H', ⟨by first | omega | exact Nat.le_refl _⟩, by repeat (first | exact Drawn0.refl _ | apply Drawn0.step)⟩
  case rest =>
    clear HC3
    try clear p2
    try clear c3
    try clear c4
    try clear c4b0
    try clear c4b1
    obtain ⟨kq, x6_2, rfl, HA, HJ2, ⟨mc2, rfl⟩⟩ := hcut
    cases kq with
    | zero => exact absurd HA.out (by simp [spec_dbStep.j0])
    | succ kj2 =>
      have H := HA.out
      clear HA
      simp only [spec_dbStep.j0] at H
      by_cases c5 : x6_2 = true
      · subst c5
        have H1 : (some (a0, a1)) = some (r1, r2) := by rw [if_pos rfl] at H; exact H
        clear H
        have H := H1
        clear H1
        simp only [Option.some.injEq, Prod.mk.injEq] at H
        obtain ⟨rfl, rfl⟩ := H
        go_wp2
        go_ret2
        exact ⟨by first | rfl | (simp; done) | (simp [*]; done), by repeat (first | exact Drawn0.refl _ | apply Drawn0.step)⟩
      · replace c5 := Bool.eq_false_iff.mpr c5
        subst c5
        have H1 : (if a0 ≥ a1 then (some (wrap64 (a0 - a1), wrap64 (2 * a1))) else (some (wrap64 (2 * a0), wrap64 (a1 - a0)))) = some (r1, r2) := by rw [if_neg (show ¬ (false = true) by decide)] at H; exact H
        clear H
        have H := H1
        clear H1
        by_cases c6 : a0 ≥ a1
        · rw [if_pos c6] at H
          have c6b0 : decide (a1 ≤ a0) = true := decide_eq_true c6
          clear c6
          simp only [Option.some.injEq, Prod.mk.injEq] at H
          obtain ⟨rfl, rfl⟩ := H
          go_wp2
          go_ret2
          exact ⟨by first | rfl | (simp; done) | (simp [*]; done), by repeat (first | exact Drawn0.refl _ | apply Drawn0.step)⟩
        · rw [if_neg c6] at H
          have c6b0 : decide (a1 ≤ a0) = false := decide_eq_false c6
          clear c6
          simp only [Option.some.injEq, Prod.mk.injEq] at H
          obtain ⟨rfl, rfl⟩ := H
          go_wp2
          go_ret2
          exact ⟨by first | rfl | (simp; done) | (simp [*]; done), by repeat (first | exact Drawn0.refl _ | apply Drawn0.step)⟩

end Go.Proofs.YtpmlpcdhkpcejaaGreatDoor.PFnDoublingsPaired
