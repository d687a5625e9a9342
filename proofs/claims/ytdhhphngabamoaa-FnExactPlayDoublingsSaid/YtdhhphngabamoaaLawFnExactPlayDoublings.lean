-- Written by hprint.py (a program of this session's) over the kit's print.py. Lean checks it.
import Derived.Test.YtdhhphngabamoaaRows
import Derived.Test.YtdhhphngabamoaaPFnExactPlayDoublingsx8
import Derived.Test.YtdhhphngabamoaaPureFnExactPlayDoublings
import Derived.WalkKit
import Derived.ProofKit
import Derived.OpenShut
import Derived.ShutString
import Derived.ChangeOld
import Derived.Below
import Derived.SizedLaws
import Derived.Lib.SmallJoins
import Derived.Deep.Slices
import Derived.Deep.Strs
import Derived.Test.YtdhhphngabamoaaWSized
namespace Go.Proofs.Ytdhhphngabamoaa.fnExactPlayDoublings
open Go.ChangeShapes Go.WideShapes Go.ChangeAt Go.RowKit Go.Joins Go.Deep Go.Proofs.Ytdhhphngabamoaa.PFnExactPlayDoublings Go.Proofs.YtdhhphngabamoaaW.PrintWords
open Go.ChangeMaps (open_string shut_string)
set_option linter.unusedVariables false
theorem own : ownKnob Try.prog.godebug = none := by kernel_rfl
theorem laidOut : laidOutB Try.prog = true := by kernel_rfl
def IsRow (k : IntKind) (w : World) (a : Option Addr) (len cap : Nat) (zs : List Int) : Prop :=
  (a = none ∧ len = 0 ∧ cap = 0 ∧ zs = []) ∨
  ∃ x, a = some x ∧ len ≤ cap ∧ cap ≤ maxLen ∧ zs.length = cap ∧ (∀ i, i < zs.length → w.cell? (x.add i) = some (.int k (zs.getD i 0))) ∧ ∀ n ∈ zs, (Lit.int k n).wf = true
instance : Inhabited S82 := ⟨z82⟩
set_option maxRecDepth 100000 in
set_option maxHeartbeats 4000000 in
theorem openS54 {H : Type} {enc : TypeId × Value → H} {W : World} {base : Nat} {spare : Nat → Bool} {held : Bool} {a : Option Addr} {len cap : Nat} {d : DataW H} {ps : List MemPlace} (h : DataW.Trod enc Try.prog W base spare held 54 (.slice a len cap) d ps) :
    ∃ l : List S82, len = l.length ∧ Kd.C k82 W a l.length l ∧ l.length ≤ cap ∧ l.length ≤ maxLen ∧ ∀ x ∈ l, (Lit.int .i64 x.f0).wf = true ∧ (Lit.int .i64 x.f1).wf = true := by
  obtain ⟨fuel, hf⟩ := h
  have hce : Try.prog.cellsOf 82 = 2 := by kernel_rfl
  have hc3 : Try.prog.cellsOf 3 = 1 := by kernel_rfl
  rcases Go.Deep.open_slice Try.underlying54 hf with ⟨hcs, _⟩ | ⟨ad, l, c, m, n, D, Pl, hcs, _, hl, hm, hmm, _, hx⟩
  · simp [Value.cells] at hcs
    obtain ⟨rfl, rfl, rfl⟩ := hcs
    exact ⟨[], rfl, ⟨rfl, by simp, fun h => absurd h (by simp)⟩, by simp, by simp, by simp⟩
  · simp [Value.cells] at hcs
    obtain ⟨rfl, rfl, rfl⟩ := hcs
    have each : ∀ i, i < len → ∃ q : S82, (∀ j u, ([.int .i64 q.f0, .int .i64 q.f1] : List Value)[j]? = some u → W.cell? (ad.add (i * 2 + j)) = some u) ∧ ((Lit.int .i64 q.f0).wf = true ∧ (Lit.int .i64 q.f1).wf = true) := by
      intro i hi
      obtain ⟨cs', h1, h2⟩ := hx i (by rw [hmm]; split <;> omega)
      rw [hce] at h1
      obtain ⟨_, hlen, hcell⟩ := World.cells?_some h1
      obtain ⟨y0, y1, n', _, _, g0, g1⟩ := trod_struct2 Try.underlying82 h2
      obtain ⟨b0, b1, rfl⟩ : ∃ b0 b1, cs' = [b0, b1] := by
        match cs', hlen with
        | [b0, b1], _ => exact ⟨b0, b1, rfl⟩
      rw [hc3] at g0
      obtain ⟨x0, e0, _, v0⟩ := DataW.trod_int Try.underlying3 g0
      rw [hc3] at g1
      obtain ⟨x1, e1, _, v1⟩ := DataW.trod_int Try.underlying3 g1
      simp only [List.drop_zero, List.drop_succ_cons, List.take_succ_cons, List.take_zero, List.cons.injEq, and_true] at e0 e1
      subst e0 e1
      refine ⟨⟨x0, x1⟩, ?_, v0, v1⟩
      intro j u hj
      have hj2 : j < 2 := by
        have := (List.getElem?_eq_some_iff.mp hj).1
        simpa using this
      have z := hcell j hj2
      rw [Go.Deep.add_add] at z
      rw [z]
      exact hj
    obtain ⟨F, hF⟩ := Go.Deep.choose_lt (α := S82) (p := fun i q => (∀ j u, ([.int .i64 q.f0, .int .i64 q.f1] : List Value)[j]? = some u → W.cell? (ad.add (i * 2 + j)) = some u) ∧ ((Lit.int .i64 q.f0).wf = true ∧ (Lit.int .i64 q.f1).wf = true)) each
    refine ⟨(List.range len).map F, by simp, ⟨rfl, by simp only [List.length_map, List.length_range]; unfold maxLen at hm; omega, fun _ => ⟨ad, rfl, fun j p hp => ?_⟩⟩, by simpa using hl, by simp only [List.length_map, List.length_range]; omega, ?_⟩
    · obtain ⟨hj, rfl⟩ : j < len ∧ F j = p := by
        simp only [List.getElem?_map] at hp
        by_cases c : j < len
        · rw [List.getElem?_range c] at hp
          exact ⟨c, by simpa using hp⟩
        · rw [List.getElem?_eq_none (by simp; omega)] at hp
          simp at hp
      exact ⟨_, by rfl, k82_mk W (F j), (hF j hj).1⟩
    · intro x hx'
      obtain ⟨j, hj, rfl⟩ := List.mem_map.mp hx'
      exact (hF j (List.mem_range.mp hj)).2
set_option maxRecDepth 100000 in
theorem lifted (os : Os) (started : os.Started) (H : Type) (enc : TypeId × Value → H) :
    ReturnsInHanded {} Try.checked os 11 .any (Rows.fnExactPlayDoublingsSpec.pre6 enc Try.prog Try.f11 Rows.fnExactPlayDoublingsRow.domain false) (Rows.fnExactPlayDoublingsSpec.post enc Try.prog Try.f11 false true false false) := by
  refine returnsInHanded_of_change_sized (C := Try.checked) own started (by kernel_rfl) Try.func11
    (ChangeSpec.witness6 (enc := enc) (C := Try.checked) false ⟨#[], #[.slice none 0 0, .slice none 0 0], []⟩ 8 (by kernel_rfl) (by kernel_rfl) (by kernel_rfl) (by kernel_rfl)) ?_
  intro W base args ds gs before hval0 hW hcnd hsz0 _
  have hsz : (DataW.weightsEach Try.prog (Try.f11.params.toList ++ Rows.fnExactPlayDoublingsSpec.plain.varTypes Try.prog) (ds ++ gs)).all (· ≤ reachBytes) = true := hsz0
  have hval : ∀ (j : Nat) t v, Try.f11.params[j]? = some t → args[j]? = some v → Value.okWide Try.prog W .any base t v := hval0
  have hW' := hW
  obtain ⟨p, q, hA0, hV, rfl, hfz, hnd⟩ := hW
  have hA : DataW.TrodAll enc Try.prog W 0 (fun _ => true) true Try.f11.params.toList args.toList ds p := hA0
  rw [Try.params11] at hA hval hsz
  obtain ⟨v0, vs0, d0, ds0, p0, q0, hargs, rfl, rfl, h0, r0⟩ := trodAll_cons hA
  obtain ⟨v1, vs1, d1, ds1, p1, q1, rfl, rfl, rfl, h1, r1⟩ := trodAll_cons r0
  obtain ⟨rfl, rfl, rfl⟩ := trodAll_nil r1
  obtain rfl : args = #[v0, v1] := by cases args; simp_all
  obtain ⟨rfl, rfl⟩ := trodVars_none hV
  obtain ⟨a0, len0, cap0, rfl⟩ := okWide_slice Try.underlying27 (hval 0 27 v0 rfl rfl)
  have k0 := h0
  have lt0 : ∀ x ∈ p0, x.block < W.heap.size := by obtain ⟨m, hm⟩ := k0; exact DataW.trod_lt m _ _ _ hm
  obtain ⟨z0, w0⟩ : ∃ zs, IsRow .i64 W a0 len0 cap0 zs := by
    obtain ⟨fuel, hf⟩ := h0
    rcases open_ints Try.underlying27 Try.underlying3 (by kernel_rfl) hf with ⟨hcs, _⟩ | ⟨x, l, c, zs, hcs, _, hl, hm, hz, _, hcell, hwz⟩
    · simp [Value.cells] at hcs
      obtain ⟨rfl, rfl, rfl⟩ := hcs
      exact ⟨[], .inl ⟨rfl, rfl, rfl, rfl⟩⟩
    · simp [Value.cells] at hcs
      obtain ⟨rfl, rfl, rfl⟩ := hcs
      exact ⟨zs, .inr ⟨_, rfl, hl, hm, by simpa using hz, hcell, hwz⟩⟩
  have y0 : len0 * 8 ≤ 140737488351232 := Go.Proofs.YtdhhphngabamoaaW.PrintWords.sized_ints hsz (j := 0) (t := 27) rfl rfl Try.underlying27 Try.underlying3 (by kernel_rfl) (by kernel_rfl) h0
  obtain ⟨l0, rfl, hr0, hm0, hw0, hc0⟩ := ReadsInt.ofRowC w0
  obtain ⟨a1, len1, cap1, rfl⟩ := okWide_slice Try.underlying54 (hval 1 54 v1 rfl rfl)
  have k1 := h1
  have lt1 : ∀ x ∈ p1, x.block < W.heap.size := by obtain ⟨m, hm⟩ := k1; exact DataW.trod_lt m _ _ _ hm
  obtain ⟨l1, rfl, hr1, hc1, hm1, hw1⟩ := openS54 h1
  clear hA0 hval0 hsz0 hsz
  refine (PFnExactPlayDoublings.laws_FnExactPlayDoublings.walk Pure.FnExactPlayDoublings W a0 cap0 l0 (Kd.C_of_reads (d := (0 : Int)) (h1 := fun _ => rfl) hr0) hc0 hm0 y0 hw0 a1 cap1 l1 hr1 hc1 hm1 hw1).mono fun e W' ⟨he, bel⟩ => ?_
  subst he
  exact ⟨_, rfl, _, _, _, [], _, [], hW', trodAll_mk1 (shut_bool Try.underlying4 _), (trodAll_cons_mk (Below.trod laidOut (by kernel_rfl) (of_decide_eq_true (by kernel_rfl)) k0 bel lt0) (trodAll_cons_mk (Below.trod laidOut (by kernel_rfl) (of_decide_eq_true (by kernel_rfl)) k1 bel lt1) trodAll_mk0)), rfl, bel.frame _, fun h => by cases h⟩
theorem over : Rows.fnExactPlayDoublingsRow.holds Try.pinned (OpenSpec.ofChange Rows.fnExactPlayDoublingsSpec) :=
  OpenClaim.holds_of_wide 11 Try.f11 rfl rfl rfl rfl rfl rfl rfl ⟨rfl, rfl, rfl, rfl, rfl⟩ rfl rfl rfl rfl rfl (by kernel_rfl) Try.func11 (by kernel_rfl)
    (of_decide_eq_true (by kernel_rfl)) (by unfold Func.isWrapper; first | (rw [if_pos (by decide +kernel)]; kernel_rfl) | (rw [if_neg (by decide +kernel)]; exact ⟨rfl, rfl⟩))
    (fun os started H enc _ => lifted os started H enc)
theorem proved : Rows.FnExactPlayDoublingsSaid := over
#print axioms proved
end Go.Proofs.Ytdhhphngabamoaa.fnExactPlayDoublings
namespace Go.Proofs.Ytdhhphngabamoaa
/-- The row, under a short name, for the claim. -/
theorem fnExactPlayDoublings_holds : Rows.FnExactPlayDoublingsSaid := fnExactPlayDoublings.proved
end Go.Proofs.Ytdhhphngabamoaa
