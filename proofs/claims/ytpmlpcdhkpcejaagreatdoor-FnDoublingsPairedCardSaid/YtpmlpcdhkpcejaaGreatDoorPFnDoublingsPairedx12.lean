-- Written by hprint.py (a program of this session's) over the kit's print.py. Lean checks it.
import Derived.Test.YtpmlpcdhkpcejaaGreatDoorPFnDoublingsPairedx0
import Derived.Test.YtpmlpcdhkpcejaaGreatDoorPFnDoublingsPairedx2
import Derived.Test.YtpmlpcdhkpcejaaGreatDoorPFnDoublingsPairedx3
import Derived.Test.YtpmlpcdhkpcejaaGreatDoorPFnDoublingsPairedx4
import Derived.Test.YtpmlpcdhkpcejaaGreatDoorPFnDoublingsPairedx6
import Derived.Test.YtpmlpcdhkpcejaaGreatDoorPFnDoublingsPairedx7
import Derived.Test.YtpmlpcdhkpcejaaGreatDoorPFnDoublingsPairedx8
import Derived.Test.YtpmlpcdhkpcejaaGreatDoorPFnDoublingsPairedx9
import Derived.Test.YtpmlpcdhkpcejaaGreatDoorPFnDoublingsPairedx10
import Derived.Test.YtpmlpcdhkpcejaaGreatDoorPFnDoublingsPairedx11
namespace Go.Proofs.YtpmlpcdhkpcejaaGreatDoor.PFnDoublingsPaired
open Go.RowKit Go.Proofs.YtpmlpcdhkpcejaaGreatDoorW.PrintWords Go.Proofs.YtpmlpcdhkpcejaaGreatDoorW.PrintLast Go.Proofs.YtpmlpcdhkpcejaaGreatDoorW.PrintMore
attribute [local go_sem] max2_int min2_int max_two min_two max_three min_three max_four min_four   -- for this text's walks alone
set_option linter.unusedVariables false
set_option linter.unusedSimpArgs false

/-! ### laws_FnDoublingsPaired: function 3, by hand -/
/-! the law: what is asked of the pure functions, and the walk -/
structure dp.Pair (a b s x y : Int) (ok : Bool) (lead per : Int) (g emp : Bool) (need c d : Int) : Prop where
  f1 : ∃ k, impl_PairAfter.f k a b s = some (x, y, ok)
  f2 : ∃ k, spec_PairAfter.f k a b s = some (x, y, ok)
  f3 : ∃ k, impl_PairLead.f k a b = some (lead, g)
  f4 : ∃ k, spec_PairLead.f k a b = some (lead, g)
  f5 : ∃ k, impl_PairPeriod.f k a b = some (per, g)
  f6 : ∃ k, spec_PairPeriod.f k a b = some (per, g)
  f7 : ∃ k, impl_DoesPairEmpty.f k a b = some (emp, g)
  f8 : ∃ k, spec_DoesPairEmpty.f k a b = some (emp, g)
  f9 : ∃ k, impl_PairStepsToEmpty.f k a b = some (need, emp)
  f10 : ∃ k, spec_PairStepsToEmpty.f k a b = some (need, emp)
  f11 : ∃ k, impl_PairStep.f k a b = some (c, d, g)
  f12 : ∃ k, spec_PairStep.f k a b = some (c, d, g)
  okg : ok = true → g = true
  empg : emp = true → g = true
  sum : ok = true → wrap64 (x + y) = wrap64 (a + b) ∧ 0 ≤ x ∧ 0 ≤ y
  stepsum : g = true → wrap64 (c + d) = wrap64 (a + b)
  pos : g = true → 0 ≤ lead ∧ lead ≤ 1000000 ∧ 1 ≤ per ∧ 0 ≤ need ∧ need ≤ 1000000
  again : g = true → ∃ p q : Int, (∃ k, impl_PairAfter.f k a b lead = some (p, q, true)) ∧ ∃ k, impl_PairAfter.f k p q per = some (p, q, true)
  first : g = true → 0 < lead → ∃ p q i j : Int, (∃ k, impl_PairAfter.f k a b (lead - 1) = some (p, q, true)) ∧ (∃ k, impl_PairAfter.f k p q per = some (i, j, true)) ∧ ¬ (i = p ∧ j = q)
  dom : g = true → 0 ≤ a ∧ 0 ≤ b ∧ 1 ≤ a + b ∧ a + b ≤ 100000
  odd : g = true → ∀ (t : Nat) (o : Int), a + b = 2 ^ t * o → o % 2 = 1 → (Int.tmod a o = 0 ↔ emp = true)
  emp1 : emp = true → ∃ p q : Int, (∃ k, impl_PairAfter.f k a b need = some (p, q, true)) ∧ (p = 0 ∨ q = 0)
  emp2 : emp = true → per = 1 ∧ need = lead
  emp3 : emp = true → 0 < need → ∃ r : Int, ∃ k, impl_PairAfter.f k a b (need - 1) = some (r, r, true)
structure dp.Play (l : List Int) (ds : List S48) (e : List Int) (ok : Bool) : Prop where
  f1 : ∃ k, impl_PlayDoublings.f k l ds = some (e, ok)
  f2 : ∃ k, spec_PlayDoublings.f k l ds = some (e, ok)
  same : ∃ k, laws_rSame.f k e e = some true
  chain : ok = true → ∃ st : Nat → List Int, st 0 = l ∧ st ds.length = e ∧ ∀ i : Nat, i < ds.length → ∃ k, impl_DoubleHeap.f k (st i) (rd_T48 ds i).f0 (rd_T48 ds i).f1 = some (st (i + 1), true)
structure dp.Text (ds : List S48) (t : ByteArray) (ok : Bool) : Prop where
  f1 : ∃ k, impl_DoublingsText.f k ds = some (t, ok)
  f2 : ∃ k, spec_DoublingsText.f k ds = some (t, ok)
  back : ok = true → ∃ k, impl_ParseDoublings.f k t = some (ds, true)
  same : ∃ k, laws_rDoublings.f k ds ds = some true
structure dp.Read (s : ByteArray) (ds : List S48) (ok : Bool) : Prop where
  f1 : ∃ k, impl_ParseDoublings.f k s = some (ds, ok)
  f2 : ∃ k, spec_ParseDoublings.f k s = some (ds, ok)
  same : ∃ k, laws_rDoublings.f k ds ds = some true
  back : ok = true → ∃ k, impl_DoublingsText.f k ds = some (s, true)
/-- THE ONE PURE STATEMENT. -/
structure laws_FnDoublingsPaired.Pure : Prop where
  big : ∀ xs ys : List Int, ∃ b, laws_big.f xs ys = some b
  tot : dr.Tot
  totl : dr.TotL
  pair : ∀ a b s : Int, ∃ x y ok lead per g emp need c d, dp.Pair a b s x y ok lead per g emp need c d
  play : ∀ (l : List Int) (ds : List S48), l.length ≤ 20 → ds.length ≤ 20 → ∃ e ok, dp.Play l ds e ok
  text : ∀ ds : List S48, ds.length ≤ 20 → ∃ t ok, dp.Text ds t ok
  read : ∀ s : ByteArray, s.size ≤ 1010 → ∃ ds ok, dp.Read s ds ok
theorem dp.pa {a b s x y : Int} {ok : Bool} (h : ∃ k, impl_PairAfter.f k a b s = some (x, y, ok)) (w : World) : Calls Tryz.prog 6 #[.int .i64 a, .int .i64 b, .int .i64 s] w fun e w' => e = .returned (.tuple #[.int .i64 x, .int .i64 y, .bool ok]) ∧ Below w.heap.size w w' := by
  obtain ⟨k, h⟩ := h
  exact (impl_PairAfter.calls k a b s x y ok w h).mono (by rintro e w' ⟨rfl, hd⟩; exact ⟨rfl, dr.drew hd⟩)
theorem dp.two {fn : Nat} {args : Array Value} {w : World} {v : Value} (h : Calls Tryz.prog fn args w fun e w' => e = .returned v ∧ Drawn0 w w') : Calls Tryz.prog fn args w fun e w' => e = .returned v ∧ Below w.heap.size w w' :=
  h.mono (by rintro e w' ⟨rfl, hd⟩; exact ⟨rfl, dr.drew hd⟩)
/-- The pairs' calls, at any world. -/
structure dp.C (a b s x y : Int) (ok : Bool) (lead per : Int) (g emp : Bool) (need c d : Int) : Prop where
  c6 : ∀ w, Calls Tryz.prog 6 #[.int .i64 a, .int .i64 b, .int .i64 s] w fun e w' => e = .returned (.tuple #[.int .i64 x, .int .i64 y, .bool ok]) ∧ Below w.heap.size w w'
  c7 : ∀ w, Calls Tryz.prog 7 #[.int .i64 a, .int .i64 b, .int .i64 s] w fun e w' => e = .returned (.tuple #[.int .i64 x, .int .i64 y, .bool ok]) ∧ Below w.heap.size w w'
  c8 : ∀ w, Calls Tryz.prog 8 #[.int .i64 a, .int .i64 b] w fun e w' => e = .returned (.tuple #[.int .i64 lead, .bool g]) ∧ Below w.heap.size w w'
  c9 : ∀ w, Calls Tryz.prog 9 #[.int .i64 a, .int .i64 b] w fun e w' => e = .returned (.tuple #[.int .i64 lead, .bool g]) ∧ Below w.heap.size w w'
  c10 : ∀ w, Calls Tryz.prog 10 #[.int .i64 a, .int .i64 b] w fun e w' => e = .returned (.tuple #[.int .i64 per, .bool g]) ∧ Below w.heap.size w w'
  c11 : ∀ w, Calls Tryz.prog 11 #[.int .i64 a, .int .i64 b] w fun e w' => e = .returned (.tuple #[.int .i64 per, .bool g]) ∧ Below w.heap.size w w'
  c12 : ∀ w, Calls Tryz.prog 12 #[.int .i64 a, .int .i64 b] w fun e w' => e = .returned (.tuple #[.bool emp, .bool g]) ∧ Below w.heap.size w w'
  c13 : ∀ w, Calls Tryz.prog 13 #[.int .i64 a, .int .i64 b] w fun e w' => e = .returned (.tuple #[.bool emp, .bool g]) ∧ Below w.heap.size w w'
  c14 : ∀ w, Calls Tryz.prog 14 #[.int .i64 a, .int .i64 b] w fun e w' => e = .returned (.tuple #[.int .i64 need, .bool emp]) ∧ Below w.heap.size w w'
  c15 : ∀ w, Calls Tryz.prog 15 #[.int .i64 a, .int .i64 b] w fun e w' => e = .returned (.tuple #[.int .i64 need, .bool emp]) ∧ Below w.heap.size w w'
  c16 : ∀ w, Calls Tryz.prog 16 #[.int .i64 a, .int .i64 b] w fun e w' => e = .returned (.tuple #[.int .i64 c, .int .i64 d, .bool g]) ∧ Below w.heap.size w w'
  c17 : ∀ w, Calls Tryz.prog 17 #[.int .i64 a, .int .i64 b] w fun e w' => e = .returned (.tuple #[.int .i64 c, .int .i64 d, .bool g]) ∧ Below w.heap.size w w'
theorem dp.Pair.calls {a b s x y : Int} {ok : Bool} {lead per : Int} {g emp : Bool} {need c d : Int} (h : dp.Pair a b s x y ok lead per g emp need c d) : dp.C a b s x y ok lead per g emp need c d where
  c6 := fun w => dp.pa h.f1 w
  c7 := fun w => by obtain ⟨k, h⟩ := h.f2; exact dp.two (spec_PairAfter.calls k a b s x y ok w h)
  c8 := fun w => by obtain ⟨k, h⟩ := h.f3; exact impl_PairLead.calls k a b lead g w h
  c9 := fun w => by obtain ⟨k, h⟩ := h.f4; exact spec_PairLead.calls k a b lead g w h
  c10 := fun w => by obtain ⟨k, h⟩ := h.f5; exact impl_PairPeriod.calls k a b per g w h
  c11 := fun w => by obtain ⟨k, h⟩ := h.f6; exact spec_PairPeriod.calls k a b per g w h
  c12 := fun w => by obtain ⟨k, h⟩ := h.f7; exact impl_DoesPairEmpty.calls k a b emp g w h
  c13 := fun w => by obtain ⟨k, h⟩ := h.f8; exact spec_DoesPairEmpty.calls k a b emp g w h
  c14 := fun w => by obtain ⟨k, h⟩ := h.f9; exact impl_PairStepsToEmpty.calls k a b need emp w h
  c15 := fun w => by obtain ⟨k, h⟩ := h.f10; exact spec_PairStepsToEmpty.calls k a b need emp w h
  c16 := fun w => by obtain ⟨k, h⟩ := h.f11; exact dp.two (impl_PairStep.calls k a b c d g w h)
  c17 := fun w => by obtain ⟨k, h⟩ := h.f12; exact dp.two (spec_PairStep.calls k a b c d g w h)
/-! the other calls -/
structure dp.H {α : Type} (K : Kd α) (W : World) (A : Option Addr) (c : Nat) (l : List α) : Prop where
  row : K.C W A l.length l
  cap : l.length ≤ c
theorem dp.H.next {α : Type} {K : Kd α} {W W1 : World} {A : Option Addr} {c : Nat} {l : List α} (h : dp.H K W A c l) (hb : Below W.heap.size W W1) : dp.H K W1 A c l := ⟨Kd.C_below h.row hb, h.cap⟩
theorem dp.got {α : Type} {K : Kd α} {e : Nat} {W : World} {base : Nat} {ok : Nat → Prop} {v : Value} {l : List α} (h : K.R e W base ok v l) : ∃ A c, v = .slice A l.length c ∧ dp.H K W A c l := by
  obtain ⟨A, c, rfl⟩ := Kd.R_slice h
  exact ⟨A, c, rfl, (Kd.R_reads' h).2.2, (Kd.R_reads' h).2.1⟩
theorem dp.c18 (T : dr.Tot) {w : World} {A : Option Addr} {c : Nat} {xs : List Int} (hr : dr.Row w A c xs) (W : World) (hb : Below w.heap.size w W) :
    Calls Tryz.prog 18 #[.slice A xs.length c] W fun e w' => ∃ (A3 : Option Addr) (c3 : Nat) (l : List Int) (A4 : Option Addr) (c4 : Nat) (ds : List S48), e = .returned (.tuple #[.slice A3 l.length c3, .slice A4 ds.length c4]) ∧ l.length ≤ 20 ∧ ds.length ≤ 20 ∧ dp.H (Kd.int .i64) w' A3 c3 l ∧ dp.H k48 w' A4 c4 ds ∧ Below W.heap.size W w' :=
  (dr.DrawPlayDoublings T ⟨Kd.C_below hr.row hb, hr.cap, hr.byte⟩).mono (by
    rintro e w' ⟨v, l, v2, ds, rfl, h1, h2, h3, h4, h5⟩
    obtain ⟨A3, c3, rfl, h6⟩ := dp.got h3
    obtain ⟨A4, c4, rfl, h7⟩ := dp.got h4
    exact ⟨A3, c3, l, A4, c4, ds, rfl, h1, h2, h6, h7, h5⟩)
theorem dp.c21 (T : dr.Tot) {w : World} {A : Option Addr} {c : Nat} {xs : List Int} (hr : dr.Row w A c xs) (W : World) (hb : Below w.heap.size w W) :
    Calls Tryz.prog 21 #[.slice A xs.length c] W fun e w' => ∃ (A4 : Option Addr) (c4 : Nat) (ds : List S48), e = .returned (.slice A4 ds.length c4) ∧ ds.length ≤ 20 ∧ dp.H k48 w' A4 c4 ds ∧ Below W.heap.size W w' :=
  (dr.DrawDoublingsText T ⟨Kd.C_below hr.row hb, hr.cap, hr.byte⟩).mono (by
    rintro e w' ⟨v2, ds, rfl, h2, h4, h5⟩
    obtain ⟨A4, c4, rfl, h7⟩ := dp.got h4
    exact ⟨A4, c4, ds, rfl, h2, h7, h5⟩)
theorem dp.c24 (T : dr.Tot) (T2 : dr.TotL) {w : World} {A : Option Addr} {c : Nat} {xs : List Int} (hr : dr.Row w A c xs) (W : World) (hb : Below w.heap.size w W) :
    Calls Tryz.prog 24 #[.slice A xs.length c] W fun e w' => ∃ s : ByteArray, e = .returned (.string s) ∧ s.size ≤ 1010 ∧ Below W.heap.size W w' :=
  (dr.DrawParseDoublings T T2 ⟨Kd.C_below hr.row hb, hr.cap, hr.byte⟩).mono (by rintro e w' ⟨⟨s, rfl, h⟩, h2⟩; exact ⟨s, rfl, h, h2⟩)
theorem dp.Play.c19 {l : List Int} {ds : List S48} {en : List Int} {ok : Bool} (h : dp.Play l ds en ok) {W : World} {A B : Option Addr} {c d : Nat} (hl : dp.H (Kd.int .i64) W A c l) (hd : dp.H k48 W B d ds) :
    Calls Tryz.prog 19 #[.slice A l.length c, .slice B ds.length d] W fun e w' => ∃ (A' : Option Addr) (c' : Nat), e = .returned (.tuple #[.slice A' en.length c', .bool ok]) ∧ dp.H (Kd.int .i64) w' A' c' en ∧ Below W.heap.size W w' := by
  obtain ⟨k, f⟩ := h.f1
  refine (impl_PlayDoublings.calls k A c l B d ds en ok W hl.row hl.cap hd.row hd.cap f).mono ?_
  rintro e w' ⟨v, rfl, h1, h2⟩
  obtain ⟨A', c', rfl, h3⟩ := dp.got h1
  exact ⟨A', c', rfl, h3, h2⟩
theorem dp.Play.c20 {l : List Int} {ds : List S48} {en : List Int} {ok : Bool} (h : dp.Play l ds en ok) {W : World} {A B : Option Addr} {c d : Nat} (hl : dp.H (Kd.int .i64) W A c l) (hd : dp.H k48 W B d ds) :
    Calls Tryz.prog 20 #[.slice A l.length c, .slice B ds.length d] W fun e w' => ∃ (A' : Option Addr) (c' : Nat), e = .returned (.tuple #[.slice A' en.length c', .bool ok]) ∧ dp.H (Kd.int .i64) w' A' c' en ∧ Below W.heap.size W w' := by
  obtain ⟨k, f⟩ := h.f2
  refine (spec_PlayDoublings.calls k A c l B d ds en ok W hl.row hl.cap hd.row hd.cap f).mono ?_
  rintro e w' ⟨v, rfl, h1, h2⟩
  obtain ⟨A', c', rfl, h3⟩ := dp.got h1
  exact ⟨A', c', rfl, h3, h2⟩
theorem dp.c27 {en : List Int} (h : ∃ k, laws_rSame.f k en en = some true) {W : World} {A B : Option Addr} {c d : Nat} (hl : dp.H (Kd.int .i64) W A c en) (hd : dp.H (Kd.int .i64) W B d en) :
    Calls Tryz.prog 27 #[.slice A en.length c, .slice B en.length d] W fun e w' => e = .returned (.bool true) ∧ Below W.heap.size W w' := by
  obtain ⟨k, f⟩ := h
  exact dp.two (laws_rSame.calls k A c en B d en true W hl.row hl.cap hd.row hd.cap f)
theorem dp.c28 {en : List S48} (h : ∃ k, laws_rDoublings.f k en en = some true) {W : World} {A B : Option Addr} {c d : Nat} (hl : dp.H k48 W A c en) (hd : dp.H k48 W B d en) :
    Calls Tryz.prog 28 #[.slice A en.length c, .slice B en.length d] W fun e w' => e = .returned (.bool true) ∧ Below W.heap.size W w' := by
  obtain ⟨k, f⟩ := h
  exact dp.two (laws_rDoublings.calls k A c en B d en true W hl.row hl.cap hd.row hd.cap f)
theorem dp.c22 {ds : List S48} {t : ByteArray} {ok : Bool} (h : ∃ k, impl_DoublingsText.f k ds = some (t, ok)) {W : World} {A : Option Addr} {c : Nat} (hd : dp.H k48 W A c ds) :
    Calls Tryz.prog 22 #[.slice A ds.length c] W fun e w' => e = .returned (.tuple #[.string t, .bool ok]) ∧ Below W.heap.size W w' := by
  obtain ⟨k, f⟩ := h
  exact impl_DoublingsText.calls k A c ds t ok W hd.row hd.cap f
theorem dp.c23 {ds : List S48} {t : ByteArray} {ok : Bool} (h : ∃ k, spec_DoublingsText.f k ds = some (t, ok)) {W : World} {A : Option Addr} {c : Nat} (hd : dp.H k48 W A c ds) :
    Calls Tryz.prog 23 #[.slice A ds.length c] W fun e w' => e = .returned (.tuple #[.string t, .bool ok]) ∧ Below W.heap.size W w' := by
  obtain ⟨k, f⟩ := h
  exact spec_DoublingsText.calls k A c ds t ok W hd.row hd.cap f
theorem dp.c25 {s : ByteArray} {ds : List S48} {ok : Bool} (h : ∃ k, impl_ParseDoublings.f k s = some (ds, ok)) {W : World} (hW : WD W) :
    Calls Tryz.prog 25 #[.string s] W fun e w' => ∃ (A : Option Addr) (c : Nat), e = .returned (.tuple #[.slice A ds.length c, .bool ok]) ∧ dp.H k48 w' A c ds ∧ Below W.heap.size W w' := by
  obtain ⟨k, f⟩ := h
  refine (impl_ParseDoublings.calls k s ds ok W hW f).mono ?_
  rintro e w' ⟨v, rfl, h1, h2⟩
  obtain ⟨A', c', rfl, h3⟩ := dp.got h1
  exact ⟨A', c', rfl, h3, h2⟩
theorem dp.c26 {s : ByteArray} {ds : List S48} {ok : Bool} (h : ∃ k, spec_ParseDoublings.f k s = some (ds, ok)) (W : World) :
    Calls Tryz.prog 26 #[.string s] W fun e w' => ∃ (A : Option Addr) (c : Nat), e = .returned (.tuple #[.slice A ds.length c, .bool ok]) ∧ dp.H k48 w' A c ds ∧ Below W.heap.size W w' := by
  obtain ⟨k, f⟩ := h
  refine (spec_ParseDoublings.calls k s ds ok W f).mono ?_
  rintro e w' ⟨v, rfl, h1, h2⟩
  obtain ⟨A', c', rfl, h3⟩ := dp.got h1
  exact ⟨A', c', rfl, h3, h2⟩
theorem dp.c29 {l l' : List Int} {f t : Int} (h : ∃ k, impl_DoubleHeap.f k l f t = some (l', true)) {W : World} {A : Option Addr} {c : Nat} (hl : dp.H (Kd.int .i64) W A c l) :
    Calls Tryz.prog 29 #[.slice A l.length c, .agg #[.int .i64 f, .int .i64 t]] W fun e w' => ∃ (A' : Option Addr) (c' : Nat), e = .returned (.tuple #[.slice A' l'.length c', .bool true]) ∧ dp.H (Kd.int .i64) w' A' c' l' ∧ Below W.heap.size W w' := by
  obtain ⟨k, f⟩ := h
  refine (impl_DoubleHeap.calls k A c l _ _ l' true W hl.row hl.cap f).mono ?_
  rintro e w' ⟨v, rfl, h1, h2⟩
  obtain ⟨A', c', rfl, h3⟩ := dp.got h1
  exact ⟨A', c', rfl, h3, h2⟩
set_option maxRecDepth 100000 in
set_option maxHeartbeats 40000000 in
theorem laws_FnDoublingsPaired.small (P : laws_FnDoublingsPaired.Pure) (A0 : Option Addr) (c0 : Nat) (l0 : List Int) (A1 : Option Addr) (c1 : Nat) (l1 : List Int) (w : World) (hWd : WD w) (h0 : dr.Row w A0 c0 l0) (h1 : dr.Row w A1 c1 l1) :
    Calls Tryz.prog 3 #[.slice A0 l0.length c0, .slice A1 l1.length c1] w fun e w' => e = .returned (.bool true) ∧ Below w.heap.size w w' := by
  obtain ⟨bg, hbg⟩ := P.big l0 l1
  have HBG := Aside0.mk (dp.two (laws_big.calls A0 c0 l0 A1 c1 l1 bg w h0.row h0.cap h1.row h1.cap hbg))
  have HPA := Aside0.mk (fun w' (hb : Below w.heap.size w w') => dr.DrawPairAfter (w := w') (A := A0) (c := c0) (xs := l0) ⟨Kd.C_below h0.row hb, h0.cap, h0.byte⟩)
  have HP := Aside0.mk P
  have HW := Aside0.mk hWd
  have H1 := Aside0.mk h1
  clear hbg h0 h1 hWd P
  cases bg with
  | true =>
    go_enter Tryz.func3, Tryz.ntmps3
    go_wp2_with (go_at_call 4; (with_reducible refine HBG.out.mono ?_); rintro e w1 ⟨rfl, hb1⟩; have HB1 := Aside0.mk hb1; clear hb1)
    go_ret
    exact ⟨rfl, HB1.out⟩
  | false =>
    go_enter Tryz.func3, Tryz.ntmps3
    go_upto_region 4 with (first
      | (go_at_call 4; (with_reducible refine HBG.out.mono ?_); rintro e w1 ⟨rfl, hb1⟩; have HB1 := Aside0.mk hb1; clear hb1)
      | (go_at_call 5; (with_reducible refine (HPA.out w1 HB1.out).mono ?_); rintro e w2 ⟨⟨a, b, s, rfl⟩, hb2⟩; have HB2 := Aside0.mk (below_step HB1.out hb2); clear hb2))
    obtain ⟨x, y, ok, lead, per, g, emp, need, c, d, hp⟩ := HP.out.pair a b s
    have HPP := Aside0.mk hp
    have HC := Aside0.mk hp.calls
    clear hp HBG HPA HB1
    go_upto_region 16 with (first
      | (go_at_call 6; (with_reducible refine (HC.out.c6 w2).mono ?_); rintro e wp6 ⟨rfl, hb6⟩; have HBp6 := Aside0.mk (below_step HB2.out hb6); clear hb6)
      | (go_at_call 7; (with_reducible refine (HC.out.c7 wp6).mono ?_); rintro e wp7 ⟨rfl, hb7⟩; have HBp7 := Aside0.mk (below_step HBp6.out hb7); clear hb7)
      | (go_at_call 8; (with_reducible refine (HC.out.c8 wp7).mono ?_); rintro e wp8 ⟨rfl, hb8⟩; have HBp8 := Aside0.mk (below_step HBp7.out hb8); clear hb8)
      | (go_at_call 9; (with_reducible refine (HC.out.c9 wp8).mono ?_); rintro e wp9 ⟨rfl, hb9⟩; have HBp9 := Aside0.mk (below_step HBp8.out hb9); clear hb9)
      | (go_at_call 10; (with_reducible refine (HC.out.c10 wp9).mono ?_); rintro e wp10 ⟨rfl, hb10⟩; have HBp10 := Aside0.mk (below_step HBp9.out hb10); clear hb10)
      | (go_at_call 11; (with_reducible refine (HC.out.c11 wp10).mono ?_); rintro e wp11 ⟨rfl, hb11⟩; have HBp11 := Aside0.mk (below_step HBp10.out hb11); clear hb11)
      | (go_at_call 12; (with_reducible refine (HC.out.c12 wp11).mono ?_); rintro e wp12 ⟨rfl, hb12⟩; have HBp12 := Aside0.mk (below_step HBp11.out hb12); clear hb12)
      | (go_at_call 13; (with_reducible refine (HC.out.c13 wp12).mono ?_); rintro e wp13 ⟨rfl, hb13⟩; have HBp13 := Aside0.mk (below_step HBp12.out hb13); clear hb13)
      | (go_at_call 14; (with_reducible refine (HC.out.c14 wp13).mono ?_); rintro e wp14 ⟨rfl, hb14⟩; have HBp14 := Aside0.mk (below_step HBp13.out hb14); clear hb14)
      | (go_at_call 15; (with_reducible refine (HC.out.c15 wp14).mono ?_); rintro e wp15 ⟨rfl, hb15⟩; have HBp15 := Aside0.mk (below_step HBp14.out hb15); clear hb15)
      | (go_at_call 16; (with_reducible refine (HC.out.c16 wp15).mono ?_); rintro e wp16 ⟨rfl, hb16⟩; have HBp16 := Aside0.mk (below_step HBp15.out hb16); clear hb16)
      | (go_at_call 17; (with_reducible refine (HC.out.c17 wp16).mono ?_); rintro e wp17 ⟨rfl, hb17⟩; have HBp17 := Aside0.mk (below_step HBp16.out hb17); clear hb17))
    clear HC
    go_cut [10, 13, 15, 17, 19, 21, 22, 23, 24, 25, 27, 29, 32, 35, 264] from 80 to 166 (fun v10 v13 v15 v17 v19 v21 v22 v23 v24 v25 v27 v29 v32 v35 v264 wc => v10 = .bool ok ∧ v13 = .bool ok ∧ v15 = .bool g ∧ v17 = .bool g ∧ v19 = .bool g ∧ v21 = .bool g ∧ v22 = .bool emp ∧ v23 = .bool g ∧ v24 = .bool emp ∧ v25 = .bool g ∧ v27 = .bool emp ∧ v29 = .bool emp ∧ v32 = .bool g ∧ v35 = .bool g ∧ v264 = .bool false ∧ Aside0 (Below w.heap.size w wc))
    case first =>
      as_aux_lemma =>
        go_wp2
        all_goals go_meet
        all_goals (case rel =>
          have okg := HPP.out.okg
          have empg := HPP.out.empg
          refine ⟨?_, ?_, ?_, ?_, ?_, ?_, ?_, ?_, ?_, ?_, ?_, ?_, ?_, ?_, ?_, HBp17⟩
          all_goals first | rfl | simp_all)
    case rest =>
      obtain ⟨rfl, rfl, rfl, rfl, rfl, rfl, rfl, rfl, rfl, rfl, rfl, rfl, rfl, rfl, rfl, HB3⟩ := hcut
      clear HB2 HBp6 HBp7 HBp8 HBp9 HBp10 HBp11 HBp12 HBp13 HBp14 HBp15 HBp16 HBp17
      go_upto_region 18 with fail
      go_cut [282] from 600 (fun v282 wc => v282 = .bool false ∧ Aside0 (Below w.heap.size w wc))
      case first =>
        as_aux_lemma =>
          have hsum := HPP.out.sum
          cases ok with
          | false =>
            clear hsum
            go_wp2
            go_meet
            case rel => exact ⟨rfl, HB3⟩
          | true =>
            obtain ⟨s1, s2, s3⟩ := hsum rfl
            have s4 : ¬ (x < 0) := by omega
            have s5 : ¬ (y < 0) := by omega
            clear hsum
            go_wp2
            go_meet
            case rel => exact ⟨rfl, HB3⟩
      case rest =>
        obtain ⟨rfl, HB4⟩ := hcut
        clear HB3
        go_upto_if 283 with fail
        go_cut [] from 600 (fun wc => Aside0 (Below w.heap.size w wc))
        case first =>
          as_aux_lemma =>
            cases g with
            | false =>
              go_wp2
              go_meet
              case rel => exact HB4
            | true =>
              obtain ⟨p, q, hA1, hA2⟩ := HPP.out.again rfl
              have HA1 := Aside0.mk hA1
              have HA2 := Aside0.mk hA2
              obtain ⟨n1, n2, n3, n4, n5⟩ := HPP.out.pos rfl
              have s1 := HPP.out.stepsum rfl
              have s2 : ¬ (lead < 0) := by omega
              have s3 : ¬ (per < 1) := by omega
              have w1 : wrap64 (lead - 1) = lead - 1 := by unfold wrap64; omega
              clear hA1 hA2
              go_upto_if 334 with (first
                | (go_at_call 6; (with_reducible refine (dp.pa HA1.out wc).mono ?_); rintro e wa ⟨rfl, hba⟩; have HBa := Aside0.mk (below_step HB4.out hba); clear hba)
                | (go_at_call 6; (with_reducible refine (dp.pa HA2.out wa).mono ?_); rintro e wb ⟨rfl, hbb⟩; have HBb := Aside0.mk (below_step HBa.out hbb); clear hbb))
              clear s1 s2 s3 HA1 HA2
              go_cut [334] from 600 (fun _ wc => Aside0 (Below w.heap.size w wc))
              case first =>
                as_aux_lemma =>
                  by_cases c1 : lead > 0
                  · obtain ⟨p1, q1, i1, j1, hF1, hF2, hF3⟩ := HPP.out.first rfl (by omega)
                    have HF1 := Aside0.mk hF1
                    have HF2 := Aside0.mk hF2
                    clear hF1 hF2
                    have hij : i1 ≠ p1 ∨ j1 ≠ q1 := by
                      by_cases e : i1 = p1
                      · exact Or.inr (fun e2 => hF3 ⟨e, e2⟩)
                      · exact Or.inl e
                    clear hF3
                    rcases hij with hij | hij
                    all_goals go_wp2_with (first
                      | (go_at_call 6; (with_reducible refine (dp.pa HF1.out _).mono ?_); rintro e wa2 ⟨rfl, hba⟩; have HBa2 := Aside0.mk (below_step HBb.out hba); clear hba)
                      | (go_at_call 6; (with_reducible refine (dp.pa HF2.out _).mono ?_); rintro e wb2 ⟨rfl, hbb⟩; have HBb2 := Aside0.mk (below_step HBa2.out hbb); clear hbb))
                    all_goals go_meet
                    all_goals (case rel => exact HBb2)
                  · go_wp2
                    go_meet
                    case rel => exact HBb
              case rest =>
                have HB6 := hcut
                have HM := Aside0.mk (HPP.out.dom rfl)
                have w2 : wrap64 (a + b) = a + b := by have := HM.out; unfold wrap64; omega
                go_wp2
                go_loopg [48] (a + b).toNat (fun gg s48 wr => ∃ o : Int, s48 = .int .i64 o ∧ Aside0 (1 ≤ o ∧ o ≤ gg ∧ o ≤ 100000 ∧ ∃ t : Nat, a + b = 2 ^ t * o) ∧ Aside0 (Below w.heap.size w wr))
                case atStart => have := HM.out; exact ⟨a + b, by first | rfl | rw [w2], ⟨by omega, by omega, by omega, 0, by simp⟩, HB6⟩
                case round =>
                  obtain ⟨o, rfl, HO, HBr⟩ := hrel
                  have o1 : ¬ (o = 0) := by have := HO.out.1; omega
                  by_cases c2 : Int.tmod o 2 = 0
                  · have w3 : wrap64 (Int.tdiv o 2) = Int.tdiv o 2 := by
                      have := HO.out
                      rw [Int.tdiv_eq_ediv_of_nonneg (by omega)]
                      unfold wrap64; omega
                    go_wp2
                    go_roundg (Int.tdiv o 2).toNat
                    case measure => have := HO.out; rw [Int.tdiv_eq_ediv_of_nonneg (by omega)]; omega
                    case rel =>
                      obtain ⟨h1, h2, h3, t, h4⟩ := HO.out
                      have e1 : Int.tdiv o 2 = o / 2 := Int.tdiv_eq_ediv_of_nonneg (by omega)
                      have e2 : o % 2 = 0 := by rw [← Int.tmod_eq_emod_of_nonneg (by omega)]; exact c2
                      refine ⟨Int.tdiv o 2, by first | rfl | rw [w3], ⟨by omega, by omega, by omega, t + 1, ?_⟩, HBr⟩
                      rw [h4, e1, Int.pow_succ, Int.mul_assoc]
                      congr 1
                      omega
                  · have HOD : Aside0 (Int.tmod a o = 0 ↔ emp = true) := by
                      obtain ⟨h1, h2, h3, t, h4⟩ := HO.out
                      refine ⟨HPP.out.odd rfl t o h4 ?_⟩
                      rw [Int.tmod_eq_emod_of_nonneg (by omega)] at c2
                      omega
                    have hodd := HOD.out
                    have c2f := eq_false c2
                    cases emp with
                    | true =>
                      have h5 : Int.tmod a o = 0 := hodd.2 rfl
                      clear hodd
                      go_wp2
                      go_meet
                      case rel => exact HBr
                    | false =>
                      have h5 : ¬ (Int.tmod a o = 0) := fun h => by have := hodd.1 h; cases this
                      have h5f := eq_false h5
                      clear hodd
                      go_wp2
                      go_meet
                      case rel => exact HBr
        case rest =>
          have HB5 := hcut
          clear HB4
          go_upto_if 382 with fail
          go_cut [] from 600 (fun wc => Aside0 (Below w.heap.size w wc))
          case first =>
            as_aux_lemma =>
              cases emp with
              | false =>
                go_wp2
                go_meet
                case rel => exact HB5
              | true =>
                obtain rfl : g = true := HPP.out.empg rfl
                obtain ⟨p, q, hA, hz⟩ := HPP.out.emp1 rfl
                have HA := Aside0.mk hA
                clear hA
                obtain ⟨rfl, e2⟩ := HPP.out.emp2 rfl
                subst e2
                obtain ⟨n1, n2, n3, n4, n5⟩ := HPP.out.pos rfl
                have w1 : wrap64 (need - 1) = need - 1 := by unfold wrap64; omega
                have hz' : p = 0 ∨ (¬ p = 0 ∧ q = 0) := by omega
                clear hz n1 n2 n3 n4 n5
                by_cases c1 : need > 0
                · obtain ⟨r, hF⟩ := HPP.out.emp3 rfl (by omega)
                  have HF := Aside0.mk hF
                  clear hF
                  rcases hz' with rfl | ⟨hp, rfl⟩
                  all_goals go_wp2_with (first
                    | (go_at_call 6; (with_reducible refine (dp.pa HA.out _).mono ?_); rintro e wa ⟨rfl, hba⟩; have HBa := Aside0.mk (below_step HB5.out hba); clear hba)
                    | (go_at_call 6; (with_reducible refine (dp.pa HF.out _).mono ?_); rintro e wb ⟨rfl, hbb⟩; have HBb := Aside0.mk (below_step HBa.out hbb); clear hbb))
                  all_goals go_meet
                  all_goals (case rel => exact HBb)
                · rcases hz' with rfl | ⟨hp, rfl⟩
                  all_goals go_wp2_with (go_at_call 6; (with_reducible refine (dp.pa HA.out _).mono ?_); rintro e wa ⟨rfl, hba⟩; have HBa := Aside0.mk (below_step HB5.out hba); clear hba)
                  all_goals go_meet
                  all_goals (case rel => exact HBa)
          case rest =>
            as_aux_lemma =>
              have HB7 := hcut
              clear HB5 HPP
              go_upto_region 46 with (first
                | (go_at_call 18; (with_reducible refine (dp.c18 HP.out.tot H1.out _ HB7.out).mono ?_); rintro e wd1 ⟨A3, c3, l, A4, c4, ds, rfl, hl, hd, h3, h4, hb⟩; obtain ⟨en, okp, hpl⟩ := HP.out.play l ds hl hd; have HPL := Aside0.mk hpl; have HN := Aside0.mk (And.intro hl hd); have HL := Aside0.mk h3; have HD := Aside0.mk h4; have HB8 := Aside0.mk (below_step HB7.out hb); clear hb h3 h4 hl hd hpl)
                | (go_at_call 19; (with_reducible refine (HPL.out.c19 HL.out HD.out).mono ?_); rintro e wd2 ⟨A5, c5, rfl, h5, hb⟩; have HL2 := Aside0.mk (HL.out.next hb); have HD2 := Aside0.mk (HD.out.next hb); have HE2 := Aside0.mk h5; have HB9 := Aside0.mk (below_step HB8.out hb); clear hb h5)
                | (go_at_call 20; (with_reducible refine (HPL.out.c20 HL2.out HD2.out).mono ?_); rintro e wd3 ⟨A6, c6, rfl, h6, hb⟩; have HL3 := Aside0.mk (HL2.out.next hb); have HD3 := Aside0.mk (HD2.out.next hb); have HE3 := Aside0.mk (HE2.out.next hb); have HF3 := Aside0.mk h6; have HB10 := Aside0.mk (below_step HB9.out hb); clear hb h6))
              clear HB7 HB8 HB9 HL HL2 HD HD2 HE2
              go_upto_region 49 with (first
                | (go_at_call 21; (with_reducible refine (dp.c21 HP.out.tot H1.out _ HB10.out).mono ?_); rintro e wd4 ⟨A7, c7, fs, rfl, hfs, h7, hb⟩; obtain ⟨tx, okt, htx⟩ := HP.out.text fs hfs; have HTX := Aside0.mk htx; have HG4 := Aside0.mk h7; have HV4 := Aside0.mk hb; have HB11 := Aside0.mk (below_step HB10.out hb); clear hb h7 hfs htx)
                | (go_at_call 22; (with_reducible refine (dp.c22 HTX.out.f1 HG4.out).mono ?_); rintro e wd5 ⟨rfl, hb⟩; have HG5 := Aside0.mk (HG4.out.next hb); have HV5 := Aside0.mk (below_step HV4.out hb); have HB12 := Aside0.mk (below_step HB11.out hb); clear hb)
                | (go_at_call 23; (with_reducible refine (dp.c23 HTX.out.f2 HG5.out).mono ?_); rintro e wd6 ⟨rfl, hb⟩; have HG6 := Aside0.mk (HG5.out.next hb); have HV6 := Aside0.mk (below_step HV5.out hb); have HB13 := Aside0.mk (below_step HB12.out hb); clear hb))
              clear HB10 HB11 HB12 HG4 HG5 HV4 HV5
              go_upto_region 52 with (first
                | (go_at_call 24; (with_reducible refine (dp.c24 HP.out.tot HP.out.totl H1.out _ HB13.out).mono ?_); rintro e wd7 ⟨s_, rfl, hs_, hb⟩; obtain ⟨rs, okr, hrd⟩ := HP.out.read s_ hs_; have HRD := Aside0.mk hrd; have HG7 := Aside0.mk (HG6.out.next hb); have HV7 := Aside0.mk (below_step HV6.out hb); have HB14 := Aside0.mk (below_step HB13.out hb); clear hb hs_ hrd)
                | (go_at_call 25; (with_reducible refine (dp.c25 HRD.out.f1 (WD.below HW.out HB14.out)).mono ?_); rintro e wd8 ⟨A8, c8, rfl, h8, hb⟩; have HR8 := Aside0.mk h8; have HG8 := Aside0.mk (HG7.out.next hb); have HV8 := Aside0.mk (below_step HV7.out hb); have HB15 := Aside0.mk (below_step HB14.out hb); clear hb h8)
                | (go_at_call 26; (with_reducible refine (dp.c26 HRD.out.f2 _).mono ?_); rintro e wd9 ⟨A9, c9, rfl, h9, hb⟩; have HS9 := Aside0.mk h9; have HR9 := Aside0.mk (HR8.out.next hb); have HG9 := Aside0.mk (HG8.out.next hb); have HV9 := Aside0.mk (below_step HV8.out hb); have HB16 := Aside0.mk (below_step HB15.out hb); clear hb h9))
              have HL9 := Aside0.mk (HL3.out.next HV9.out)
              have HD9 := Aside0.mk (HD3.out.next HV9.out)
              have HE9 := Aside0.mk (HE3.out.next HV9.out)
              have HF9 := Aside0.mk (HF3.out.next HV9.out)
              clear HB13 HB14 HB15 HG6 HG7 HG8 HV6 HV7 HV8 HV9 HR8 HL3 HD3 HE3 HF3
              go_cut [498] from 600 (fun v498 wc => v498 = .bool false ∧ Aside0 (Below wd9.heap.size wd9 wc))
              case first =>
                as_aux_lemma =>
                  go_wp2_with (first
                    | (go_at_call 27; (with_reducible refine (dp.c27 HPL.out.same HE9.out HF9.out).mono ?_); rintro e wa ⟨rfl, hba⟩; have HBa := Aside0.mk hba; clear hba)
                    | (go_at_call 28; (with_reducible refine (dp.c28 HRD.out.same (HR9.out.next HBa.out) (HS9.out.next HBa.out)).mono ?_); rintro e wb ⟨rfl, hbb⟩; have HBb := Aside0.mk (below_step HBa.out hbb); clear hbb))
                  go_meet
                  case rel => exact ⟨rfl, HBb⟩
              case rest =>
                obtain ⟨rfl, hbx⟩ := hcut
                have HLx := Aside0.mk (HL9.out.next hbx.out)
                have HDx := Aside0.mk (HD9.out.next hbx.out)
                have HEx := Aside0.mk (HE9.out.next hbx.out)
                have HGx := Aside0.mk (HG9.out.next hbx.out)
                have HRx := Aside0.mk (HR9.out.next hbx.out)
                have HBx := Aside0.mk (below_step HB16.out hbx.out)
                clear HL9 HD9 HE9 HF9 HG9 HR9 HS9 HB16 hbx
                go_upto_if 499 with fail
                go_cut [] from 600 (fun wy => Aside0 (Below wc.heap.size wc wy))
                case first =>
                  as_aux_lemma =>
                    cases okp with
                    | false =>
                      go_wp2
                      go_meet
                      case rel => exact ⟨Below.refl _ _⟩
                    | true =>
                      obtain ⟨st, s0, s1, s2⟩ := HPL.out.chain rfl
                      have HC := Aside0.mk s2
                      have HS := Aside0.mk (And.intro s0 s1)
                      clear s0 s1 s2
                      go_upto_region 56 with (first
                        | ((with_reducible refine gate_dst (N := 500) rfl ?_); refine Kd.R_lit (Kd.int .i64) _ 3 ?hg (N := 500) ?hd (xs := ([] : List Int)) (inner := []) (ok := fun _ => True) (okp := fun _ => True) ?hr ?hp (fun _ hk => hk) trivial (Below.refl _ _) (Nat.le_refl _) (by simp) ?_; (case hd => rfl); (case hg => rfl); (case hr => first | (go_simp; done) | (go_simp; rfl)); (case hp => exact (Reps.none _ _)); intro v170 w3 ho4 hb hg_ hnew_; clear hg_ hnew_; have HO4 := Aside0.mk ho4; have HB4 := Aside0.mk hb; clear ho4 hb)
                        | ((with_reducible refine gate_builtin (b := .append) (xs := #[.tmp 500, .tmp 501]) rfl ?_); at_builtin; refine Kd.R_append_rows (Kd.int .i64) (w0 := wc) wc.heap.size rfl (.tmp 500) (.tmp 501) 33 3 (.int .i64 0) 8 rfl Tryz.underlying33 info3 rfl (by decide) (by omega) v170 [] l _ _ _ (fun _ => True) (fun _ => False) rfl rfl ?aO ?aR (fun _ _ h => h) (fun _ h => h.elim) ?aF ?aB ?aS ?aL ?_; (case aR => exact (Kd.C_below HLx.out.row HB4.out)); (case aB => exact HB4.out); (case aF => exact (fun _ _ => trivial)); (case aO => exact HO4.out); (case aS => exact (below_size HB4.out)); (case aL => have := HN.out; simp only [List.length_nil]; omega); intro v173 w5 ho hb hg hat; rw [List.nil_append] at ho; obtain ⟨Ao, co, rfl, ho2⟩ := dp.got ho; have HO5 := Aside0.mk ho2; have HB5 := Aside0.mk hb; clear ho ho2 hb hg hat HO4 HB4))
                      go_wp2
                      go_loopg [71, 505] ds.length (fun gg s71 s505 wr => ∃ (x : Int) (A : Option Addr) (c : Nat) (L : List Int), s71 = .slice A L.length c ∧ s505 = .int .i64 x ∧ Aside0 (0 ≤ x ∧ x ≤ ds.length ∧ (ds.length : Int) - x ≤ gg) ∧ Aside0 (L = st x.toNat) ∧ Aside0 (dp.H (Kd.int .i64) wr A c L) ∧ Aside0 (Below wc.heap.size wc wr))
                      case atStart => exact ⟨0, Ao, co, l, rfl, rfl, ⟨by omega, by omega, by omega⟩, ⟨HS.out.1.symm⟩, HO5, HB5⟩
                      case round =>
                        obtain ⟨x, A, c, L, rfl, rfl, HK, HSt, HO, HBr⟩ := hrel
                        by_cases c11 : x < (ds.length : Int)
                        · have p0 : 0 ≤ x := HK.out.1
                          obtain ⟨ad, ead, hx0, hx1⟩ := at_T48 (HDx.out.next HBr.out).row x p0 c11
                          cases ead
                          have hC := HC.out x.toNat (by omega)
                          rw [Int.toNat_of_nonneg p0, ← HSt.out] at hC
                          have HCC := Aside0.mk hC
                          have ew : wrap64 (x + 1) = x + 1 := by have := HN.out; unfold wrap64; omega
                          have HKK := Aside0.mk (And.intro HK.out c11)
                          have c11b0 : decide (x < (ds.length : Int)) = true := decide_eq_true c11
                          have c12b0 : decide (0 ≤ x) = true := decide_eq_true p0
                          replace p0 := eq_true p0
                          replace c11 := eq_true c11
                          clear hC
                          go_wp2_with (first
                            | ((with_reducible refine gate_dst (N := 73) rfl ?_); (try (refine gate_guard (by rfl) ?_; dsimp only)); refine box_event ?hg (N := 73) ?hd (cs := #[.int .i64 0, .int .i64 0]) (t := 48) ?hr ?_; (case hd => rfl); (case hg => rfl); (case hr => first | (go_simp; done) | (go_simp; rfl)); intro gb hg w17 hbox hb; have HBw := Aside0.mk hb; have BK := Aside0.mk hbox; have GE := Aside0.mk (show wr.heap.size ≤ gb by rw [hg]; exact Nat.le_refl _); clear hb hbox hg; have hcz0 : w17.cell? ⟨gb, 0, none⟩ = some (.int .i64 0) := (blk_cell BK.out 0).trans rfl; have hcz1 : w17.cell? ⟨gb, 1, none⟩ = some (.int .i64 0) := (blk_cell BK.out 1).trans rfl; have hfz0 := blk_frozen BK.out 0; have hfz1 := blk_frozen BK.out 1)
                            | (go_at_call 29; (with_reducible refine (dp.c29 HCC.out (HO.out.next (below_set (below_set HBw.out GE.out) GE.out))).mono ?_); rintro e w20 ⟨A2, c2, rfl, h2, hb⟩; have HO2 := Aside0.mk h2; have HBs := Aside0.mk (below_step (below_set (below_set HBw.out GE.out) GE.out) hb); clear hb h2))
                          go_roundg ((ds.length : Int) - x - 1).toNat
                          case measure => have := HKK.out; omega
                          case rel =>
                            have hk := HKK.out
                            exact ⟨x + 1, A2, c2, st (x.toNat + 1), rfl, by first | rfl | rw [ew], ⟨by omega, by omega, by omega⟩, ⟨by rw [show (x + 1).toNat = x.toNat + 1 by omega]⟩, HO2, ⟨below_step HBr.out HBs.out⟩⟩
                        · have e1 : x = ds.length := by have := HK.out; omega
                          obtain rfl : L = en := by rw [HSt.out, e1]; simpa using HS.out.2
                          have c11b0 : decide (x < (ds.length : Int)) = false := decide_eq_false c11
                          clear e1
                          go_wp2_with (go_at_call 27; (with_reducible refine (dp.c27 HPL.out.same HO.out (HEx.out.next HBr.out)).mono ?_); rintro e wz ⟨rfl, hbz⟩; have HBz := Aside0.mk (below_step HBr.out hbz); clear hbz)
                          go_meet
                          case rel => exact HBz
                case rest =>
                  have HGy := Aside0.mk (HGx.out.next hcut.out)
                  have HRy := Aside0.mk (HRx.out.next hcut.out)
                  have HBy := Aside0.mk (below_step HBx.out hcut.out)
                  clear HGx HRx HBx HLx HDx HEx HPL hcut
                  go_upto_if 523 with fail
                  go_cut [] from 600 (fun wy => Aside0 (Below wc.heap.size wc wy))
                  case first =>
                    as_aux_lemma =>
                      cases okt with
                      | false =>
                        go_wp2
                        go_meet
                        case rel => exact ⟨Below.refl _ _⟩
                      | true =>
                        go_wp2_with (first
                          | (go_at_call 25; (with_reducible refine (dp.c25 (HTX.out.back rfl) (WD.below HW.out HBy.out)).mono ?_); rintro e wa ⟨Aa, ca, rfl, ha, hb⟩; have HA := Aside0.mk ha; have HBa := Aside0.mk hb; clear ha hb)
                          | (go_at_call 28; (with_reducible refine (dp.c28 HTX.out.same HA.out (HGy.out.next HBa.out)).mono ?_); rintro e wb ⟨rfl, hb⟩; have HBb := Aside0.mk (below_step HBa.out hb); clear hb))
                        go_meet
                        case rel => exact HBb
                  case rest =>
                    have HRz := Aside0.mk (HRy.out.next hcut.out)
                    have HBz := Aside0.mk (below_step HBy.out hcut.out)
                    clear HRy HBy HGy HTX hcut
                    cases okr with
                    | false =>
                      go_wp2
                      go_ret
                      exact ⟨rfl, HBz.out⟩
                    | true =>
                      go_wp2_with (go_at_call 22; (with_reducible refine (dp.c22 (HRD.out.back rfl) HRz.out).mono ?_); rintro e wa ⟨rfl, hb⟩; have HBa := Aside0.mk (below_step HBz.out hb); clear hb)
                      go_ret
                      exact ⟨by first | rfl | simp, HBa.out⟩
theorem dr.Row.of {w : World} {A : Option Addr} {c : Nat} {l : List Int} (hr : ReadsInt w .u8 A l.length l) (hw : ∀ x ∈ l, (Lit.int .u8 x).wf = true) (hc : l.length ≤ c) : dr.Row w A c l where
  row := Kd.C_of_reads (d := (0 : Int)) (h1 := fun _ => rfl) hr
  cap := hc
  byte := fun x hx => by
    have h := hw x hx
    simp [Lit.wf, IntKind.min, IntKind.max, IntKind.bits, IntKind.signed] at h
    omega
theorem laws_FnDoublingsPaired.walk (P : laws_FnDoublingsPaired.Pure) (a0 : Option Addr) (len0 cap0 : Nat) (z0 : List Int) (a1 : Option Addr) (len1 cap1 : Nat) (z1 : List Int) (w : World) (hWd_ : WD w) (w0 : (a0 = none ∧ len0 = 0 ∧ cap0 = 0 ∧ z0 = []) ∨ ∃ x, a0 = some x ∧ len0 ≤ cap0 ∧ cap0 ≤ maxLen ∧ z0.length = cap0 ∧ (∀ i, i < z0.length → w.cell? (x.add i) = some (.int .u8 (z0.getD i 0))) ∧ ∀ n ∈ z0, (Lit.int .u8 n).wf = true) (y0 : len0 * 1 ≤ 140737488351232) (w1 : (a1 = none ∧ len1 = 0 ∧ cap1 = 0 ∧ z1 = []) ∨ ∃ x, a1 = some x ∧ len1 ≤ cap1 ∧ cap1 ≤ maxLen ∧ z1.length = cap1 ∧ (∀ i, i < z1.length → w.cell? (x.add i) = some (.int .u8 (z1.getD i 0))) ∧ ∀ n ∈ z1, (Lit.int .u8 n).wf = true) (y1 : len1 * 1 ≤ 140737488351232) :
    Calls Tryz.prog 3 #[.slice a0 len0 cap0, .slice a1 len1 cap1] w fun e w' => e = .returned (.bool true) ∧ Below w.heap.size w w' := by
  obtain ⟨l0, rfl, hr0, hm0, hw0, hc0⟩ := ReadsInt.ofRowC w0
  obtain ⟨l1, rfl, hr1, hm1, hw1, hc1⟩ := ReadsInt.ofRowC w1
  exact laws_FnDoublingsPaired.small P a0 cap0 l0 a1 cap1 l1 w hWd_ (dr.Row.of hr0 hw0 hc0) (dr.Row.of hr1 hw1 hc1)

end Go.Proofs.YtpmlpcdhkpcejaaGreatDoor.PFnDoublingsPaired
