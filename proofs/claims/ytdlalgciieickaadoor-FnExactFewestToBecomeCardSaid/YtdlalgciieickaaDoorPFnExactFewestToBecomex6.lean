-- Written by hprint.py (a program of this session's) over the kit's print.py. Lean checks it.
import Derived.Test.YtdlalgciieickaaDoorPFnExactFewestToBecomex0
import Derived.Test.YtdlalgciieickaaDoorPFnExactFewestToBecomex4
import Derived.Test.YtdlalgciieickaaDoorPFnExactFewestToBecomex5
namespace Go.Proofs.YtdlalgciieickaaDoor.PFnExactFewestToBecome
open Go.RowKit Go.Proofs.YtdlalgciieickaaDoorW.PrintWords Go.Proofs.YtdlalgciieickaaDoorW.PrintLast Go.Proofs.YtdlalgciieickaaDoorW.PrintMore
attribute [local go_sem] max2_int min2_int max_two min_two max_three min_three max_four min_four   -- for this text's walks alone
set_option linter.unusedVariables false
set_option linter.unusedSimpArgs false

/-! ### impl_search: function 54, by hand -/
/-! the map of texts that have been seen -/
def ssKeys (xs : List ByteArray) : List Lit := xs.map fun s => Lit.string s.data.toList
def ssD (xs : List ByteArray) : DataW Unit := Go.Maps.setOf (.lit (.bool true)) (ssKeys xs)
theorem ss_law : Go.Maps.Keyed Tryd.prog 9 := Go.Maps.string_keyed Tryd.underlying9
theorem ss_zero (w : World) : (zeroValue 4).run Tryd.prog w = .ok (.bool false) w := by kernel_rfl
theorem ss_key {s : ByteArray} (h : s.size ≤ 1000) : keyOf Tryd.prog 9 (.string s) = some (.string s.data.toList) := Go.WideMaps.keyOf_string_mk Tryd.underlying9 (by unfold maxLen; omega)
instance instDecBytes : DecidableEq ByteArray := fun a b => decidable_of_iff (a.data = b.data) ⟨fun h => by cases a; cases b; simp only [ByteArray.mk.injEq] at h ⊢; exact h, fun h => h ▸ rfl⟩
theorem ss_fold (u : DataW Unit) (k : Lit) (hk : WideAt.IsKeyLit k) (z : DataW Unit) : ∀ (acc : List Lit) (m : DataW Unit), Go.Maps.IsMap m → (acc.foldl (fun m x => m.put x u) m).atKey k z = if acc.any (fun x => x.sameKey k) = true then u else m.atKey k z
  | [], m, _ => by simp
  | x :: xs, m, hm => by
    rw [List.foldl_cons, ss_fold u k hk z xs _ (hm.put _ _)]
    by_cases h1 : xs.any (fun x => x.sameKey k) = true
    · rw [if_pos h1, if_pos (by rw [List.any_cons, h1, Bool.or_true])]
    · rw [if_neg h1]
      by_cases h2 : x = k
      · subst h2
        rw [if_pos (by rw [List.any_cons, WideAt.sameKey_self hk, Bool.true_or]), Go.Maps.atKey_put_same hm hk]
      · have h3 : x.sameKey k = false := Go.Maps.sameKey_ne h2
        rw [if_neg (by rw [List.any_cons, h3, Bool.false_or]; exact h1), Go.Maps.atKey_put_other (fun e => h2 e.symm)]
theorem ss_any (xs : List ByteArray) (t : ByteArray) : (ssKeys xs).any (fun x => x.sameKey (.string t.data.toList)) = true ↔ t ∈ xs := by
  rw [List.any_eq_true]
  constructor
  · rintro ⟨x, hx, e⟩
    have e := WideAt.sameKey_eq e
    subst e
    obtain ⟨s, hs, e⟩ := List.mem_map.mp hx
    injection e with e
    have : s = t := by
      cases s; cases t
      simp only [ByteArray.mk.injEq]
      exact Array.toList_inj.mp e
    rw [← this]; exact hs
  · exact fun h => ⟨_, List.mem_map.mpr ⟨t, h, rfl⟩, WideAt.sameKey_self (by simp [WideAt.IsKeyLit])⟩
instance instDecMemBytes (t : ByteArray) (xs : List ByteArray) : Decidable (t ∈ xs) := decidable_of_iff (xs.any (fun s => decide (s = t)) = true) (by simp [List.any_eq_true])
theorem ss_at (xs : List ByteArray) (t : ByteArray) : (ssD xs).atKey (.string t.data.toList) (.lit (.bool false)) = .lit (.bool (decide (t ∈ xs))) := by
  unfold ssD Go.Maps.setOf
  rw [ss_fold _ _ (by simp [WideAt.IsKeyLit]) _ _ _ Go.Maps.isMap_empty]
  by_cases h : t ∈ xs
  · rw [if_pos ((ss_any xs t).mpr h), decide_eq_true h]
  · rw [if_neg (fun z => h ((ss_any xs t).mp z)), decide_eq_false h]
    rfl
theorem ss_snoc (xs : List ByteArray) (t : ByteArray) : ssD (xs ++ [t]) = (ssD xs).put (.string t.data.toList) (.lit (.bool true)) := by
  unfold ssD ssKeys
  rw [List.map_append, List.map_cons, List.map_nil, Go.Maps.setOf_snoc]
/-- Has a text been seen? (Short texts, not too many.) -/
def seenHas.f (x : List ByteArray) (t : ByteArray) : Option Bool := if t.size ≤ 1000 ∧ x.length < 1048576 then some (decide (t ∈ x)) else none
theorem seenHas.size {x : List ByteArray} {t : ByteArray} {r : Bool} (h : seenHas.f x t = some r) : t.size ≤ 1000 := by
  unfold seenHas.f at h
  split at h
  · rename_i c; exact c.1
  · cases h
theorem seenHas.room {x : List ByteArray} {t : ByteArray} {r : Bool} (h : seenHas.f x t = some r) : x.length < maxLen := by
  unfold seenHas.f at h
  split at h
  · rename_i c; unfold maxLen; omega
  · cases h
theorem seenHas.at_ {x : List ByteArray} {t : ByteArray} {r cb : Bool} (h : seenHas.f x t = some r) (hat : (ssD x).atKey (.string t.data.toList) (.lit (.bool false)) = .lit (.bool cb)) : cb = r := by
  unfold seenHas.f at h
  split at h
  · rw [ss_at] at hat
    injection hat with hat
    injection hat with hat
    rw [← hat]
    exact Option.some.inj h
  · cases h
/-- A value that owns just the block gm. -/
def sv (gm : Nat) : Value := .slice (some ⟨gm, 0, none⟩) 0 0
theorem sv_inj {k gm : Nat} (h : some k = (sv gm).ownBlock) : k = gm := by simpa [sv, Value.ownBlock] using h
/-- Block gm is a map whose keys are the texts xs. -/
def MR (gm : Nat) (W : World) (base : Nat) (xs : List ByteArray) : Prop := base ≤ gm ∧ W.ownsMap Tryd.prog 9 (plainElem (H := Unit) Tryd.prog 4) gm xs.length (ssD xs)
section
variable {gm base : Nat} {W W1 : World} {xs : List ByteArray}
theorem MR.block (h : MR gm W base xs) : gm < W.heap.size ∧ ∃ es ck, W.heap[gm]? = some (.map es ck) := by
  refine ⟨h.2.lt, ?_⟩
  obtain ⟨es, clock, hb, _⟩ := h.2
  exact ⟨es, clock, hb⟩
theorem MR.move (h : MR gm W base xs) (hm : W1.heap[gm]? = W.heap[gm]?) : MR gm W1 base xs := by
  obtain ⟨h0, es, clock, hb, F, hs, hD⟩ := h
  exact ⟨h0, es, clock, hm.trans hb, F, hs, hD⟩
theorem MR.like {W0 : World} {r : Option Nat} (h : MR gm W base xs) (_ : W0.grownBy W1 r) (e : W0.heap = W.heap) : MR gm W0 base xs := h.move (by rw [e])
theorem MR.below (h : MR gm W base xs) (hb : Below W.heap.size W W1) : MR gm W1 base xs := h.move (hb.block gm h.block.1)
theorem MR.alloc (h : MR gm W base xs) (o : Obj) : MR gm (W.alloc o) base xs := h.below (below_alloc (Below.refl _ _) o)
theorem MR.drewN (h : MR gm W base xs) (m : Nat) : MR gm (W.drewN m) base xs := h.below (pw_below_drewN (Below.refl _ _) m)
theorem MR.drew (h : MR gm W base xs) : MR gm W.drew base xs := h.below (below_drew (Below.refl _ _))
theorem MR.ne2 (h : MR gm W base xs) {g t : Nat} {cells : Array Value} (hb : W.heap[g]? = some (.cells cells t (0, 0))) : gm ≠ g := by
  rintro rfl
  obtain ⟨_, es, ck, hm⟩ := h.block
  rw [hm] at hb
  cases hb
theorem MR.ne (h : MR gm W base xs) {g t : Nat} {cells : Array Value} (hb : W.heap[g]? = some (.cells cells t (0, 0))) : some g ≠ (sv gm).ownBlock := fun e => h.ne2 hb (sv_inj e).symm
theorem MR.far (h : MR gm W base xs) {g : Nat} (hg : gm ≠ g) (i : Nat) (u : Value) : MR gm (W.setCell ⟨g, i, none⟩ u) base xs := h.move (Below.heap_setCell W ⟨g, i, none⟩ u gm hg)
theorem MR.lt (h : MR gm W base xs) : ∀ k, (sv gm).ownBlock = some k → k < W.heap.size := fun k hk => by rw [sv_inj hk.symm]; exact h.block.1
theorem MR.hat {B : Nat} (gm : Nat) : (sv gm).ownBlock = (sv gm).ownBlock ∨ ∃ b, (sv gm).ownBlock = some b ∧ B ≤ b := Or.inl rfl
theorem MR.overR {α : Type} {d : Kd α} {e b : Nat} {ok : Nat → Prop} {v : Value} {ys : List α} (hR : d.R e W b ok v ys) (hE : d.E = []) (h : MR gm W base xs) (hg : W.grownBy W1 (sv gm).ownBlock) : d.R e W1 b ok v ys := by
  refine Kd.R_grown1 hR hE hg (fun he => ?_)
  obtain ⟨cells, hc⟩ := Kd.R_typed hR gm (he.symm.trans rfl)
  exact h.ne2 hc rfl
theorem MR.apart {α : Type} {d : Kd α} {e b : Nat} {ok : Nat → Prop} {v : Value} {ys : List α} (hR : d.R e W b ok v ys) (hE : d.E = []) (h : MR gm W base xs) : d.R e W b (fun k => ok k ∧ some k ≠ (sv gm).ownBlock) v ys := by
  refine Kd.R_reok hE hR (fun k hk => ⟨hR.1 k hk, fun he => ?_⟩)
  obtain ⟨cells, hc⟩ := Kd.R_typed hR k hk
  exact h.ne2 hc (sv_inj he).symm
theorem MR.overN {α : Type} {d : Kd α} {e b : Nat} {ok : Nat → Prop} {v : Value} {ys : List α} (h : MR gm W base xs) (hN : Kd.N d e W b ok v ys) (hg : W.grownBy W1 v.ownBlock) : MR gm W1 base xs := by
  refine h.move (hg.block gm h.block.1 (fun he => ?_))
  obtain ⟨cells, hc⟩ := Kd.N_typed hN gm he.symm
  exact h.ne2 hc rfl
theorem MR.next {t : ByteArray} (h : MR gm W base xs) (hown : W1.ownsMap Tryd.prog 9 (plainElem (H := Unit) Tryd.prog 4) gm (xs.length + 1) ((ssD xs).put (.string t.data.toList) (.lit (.bool true)))) : MR gm W1 base (xs ++ [t]) := by
  refine ⟨h.1, ?_⟩
  rw [ss_snoc, List.length_append]
  exact hown
theorem MR.first {t : ByteArray} (hown : W1.ownsMap Tryd.prog 9 (plainElem (H := Unit) Tryd.prog 4) gm (0 + 1) ((DataW.map []).put (.string t.data.toList) (.lit (.bool true)))) (h : base ≤ gm) : MR gm W1 base [t] := by
  refine ⟨h, ?_⟩
  have := ss_snoc [] t
  rw [List.nil_append] at this
  rw [this]
  exact hown
end
theorem below_grown {w W W1 : World} {gm : Nat} (h : Below w.heap.size w W) (hg : W.grownBy W1 (some gm)) (hb : w.heap.size ≤ gm) : Below w.heap.size w W1 := h.grown hg h.size (fun k e => by cases e; exact hb)
/-! the operations on such a map -/
theorem plainElem_bool_inv' {P : Program} {e : TypeId} (he : P.underlying e = some .bool) {v : Value} {z : DataW Unit × List MemPlace} (h : plainElem P e v = some z) : ∃ b, v = .bool b ∧ z = (.lit (.bool b), []) := by
  unfold plainElem at h
  rw [he] at h
  cases v <;> simp at h
  exact ⟨_, rfl, h.symm⟩
theorem wpList_lookup_own_bool {P : Program} (w : World) {ops : Array Oper} {rest : List Oper} {o : Oper} {a : Act} {Q : Exit → Act → World → Prop}
    (hg : o.guard = none) (m x : Operand) (t : TypeId) (hop : o.op = Op.lookup t m x false)
    (k e : TypeId) (K : Go.Maps.Keyed P k) (ht : P.underlying t = some (.map k e)) (he : P.underlying e = some .bool) (hz : (zeroValue e).run P w = .ok (.bool false) w) (b n : Nat) (D : DataW Unit)
    (hm : a.eval m = .map (some b)) (hown : w.ownsMap P k (plainElem P e) b n D) (key : Value) (kl : Lit) (hx : a.eval x = key) (hkey : keyOf P k key = some kl)
    (hK : ∀ c : Bool, D.atKey kl (.lit (.bool false)) = .lit (.bool c) → wpList P ops Q rest (a.put o.dst (.bool c)) w) :
    wpList P ops Q (o :: rest) a w := by
  refine wpList_plain hg fun K' hK' => ?_
  obtain ⟨v, ps, hrun, hv⟩ := hown.lookup K ht hz (plainElem_bool he false) hkey
  obtain ⟨c, rfl, hc⟩ := plainElem_bool_inv' he hv
  unfold Oper.wp
  simp [execOp, hop, hm, hx, hrun, Result.andThen]
  exact hK' _ _ (hK c (congrArg Prod.fst hc))
theorem wpList_insert_own {P : Program} (w : World) {ops : Array Oper} {rest : List Oper} {o : Oper} {a : Act} {Q : Exit → Act → World → Prop}
    (hg : o.guard = none) (m x v : Operand) (t : TypeId) (hop : o.op = Op.insert t m x v)
    (k e : TypeId) (K : Go.Maps.Keyed P k) (ht : P.underlying t = some (.map k e)) (R : Value → Option (DataW Unit × List MemPlace)) (b n : Nat) (D : DataW Unit)
    (hm : a.eval m = .map (some b)) (hown : w.ownsMap P k R b n D) (hn : n < maxLen) (key val : Value) (kl : Lit) (hx : a.eval x = key) (hv : a.eval v = val) (hkey : keyOf P k key = some kl)
    (d : DataW Unit) (ps : List MemPlace) (hval : R val = some (d, ps))
    (hK : ∀ w', w'.ownsMap P k R b (n + 1) (D.put kl d) → w.grownBy w' (some b) → wpList P ops Q rest (a.put o.dst undef) w') :
    wpList P ops Q (o :: rest) a w := by
  refine wpList_plain hg fun K' hK' => ?_
  obtain ⟨w', hrun, r1, r2⟩ := hown.update K ht hn hkey hval
  unfold Oper.wp
  simp [execOp, hop, hm, hx, hv, hrun, Result.andThen]
  exact hK' _ _ (hK w' r1 r2)
theorem gate_insert {P : Program} {ops : Array Oper} {Q : Exit → Act → World → Prop} {rest : List Oper} {o : Oper} {a : Act} {w : World} {t : TypeId} {m x v : Operand} (_ : o.op = Op.insert t m x v) (h : wpList P ops Q (o :: rest) a w) : wpList P ops Q (o :: rest) a w := h
mutual
def impl_search.l0 (is : Nat → List Int → Option Bool) : Nat → List (S89) → List ByteArray → Int → Option ((List (S89)) × Int)
  | 0, _, _, _ => none
  | k + 1, x6, x7, x8 => if x8 < (x6.length : Int) then (if 0 ≤ x8 then ((is k ((rd_T89 x6 x8).f0)).bind fun t232 => (if t232 = true then (some (x6, x8)) else ((impl_doublingsOf.f k ((rd_T89 x6 x8).f0)).bind fun t234 => (impl_search.l1 is k x6 x7 x8 t234 (t234.length : Int) 0)))) else (none)) else (some (x6, (-1)))
def impl_search.l1 (is : Nat → List Int → Option Bool) : Nat → List (S89) → List ByteArray → Int → List (S52) → Int → Int → Option ((List (S89)) × Int)
  | 0, _, _, _, _, _, _ => none
  | k + 1, x6, x7, x8, x41, x42, x43 => if x43 < x42 then (if 0 ≤ x43 then (if x43 < (x41.length : Int) then (if 0 ≤ x8 then (if x8 < (x6.length : Int) then ((impl_doubled.f ((rd_T89 x6 x8).f0) ((rd_T52 x41 x43).f0) ((rd_T52 x41 x43).f1)).bind fun t240 => ((impl_heapsKey.f k t240).bind fun t243 => ((seenHas.f x7 t243).bind fun t244 => (if t244 = true then (impl_search.l1 is k x6 x7 x8 x41 x42 (wrap64 (x43 + 1))) else (if x7.length < 8796093022208 then (if x6.length < 2932031007402 then (impl_search.l1 is k (x6 ++ [(⟨t240, x8, (⟨(rd_T52 x41 x43).f0, (rd_T52 x41 x43).f1⟩ : S52)⟩ : S89)]) (x7 ++ [t243]) x8 x41 x42 (wrap64 (x43 + 1))) else (none)) else (none)))))) else (none)) else (none)) else (none)) else (none)) else (impl_search.l0 is k x6 x7 (wrap64 (x8 + 1)))
end
def impl_search.f (is : Nat → List Int → Option Bool) (k : Nat) (l0 : List Int) : Option ((List (S89)) × Int) := (slices_Clone_int_int.f l0).bind fun t218 => ((impl_heapsKey.f k l0).bind fun t227 => ((seenHas.f [] t227).bind fun _ => (impl_search.l0 is k (([(⟨t218, (-1), (⟨0, 0⟩ : S52)⟩ : S89)] : List (S89))) [t227] 0)))
theorem impl_search.mono_l (is : Nat → List Int → Option Bool) (hism : ∀ l k, LeO (is k l) (is (k + 1) l)) : ∀ k, (∀ y0 y1 y2, LeO (impl_search.l0 is k y0 y1 y2) (impl_search.l0 is (k + 1) y0 y1 y2)) ∧ (∀ y0 y1 y2 y3 y4 y5, LeO (impl_search.l1 is k y0 y1 y2 y3 y4 y5) (impl_search.l1 is (k + 1) y0 y1 y2 y3 y4 y5))
  | 0 => ⟨fun _ _ _ r h => by simp [impl_search.l0] at h, fun _ _ _ _ _ _ r h => by simp [impl_search.l1] at h⟩
  | k + 1 => by
    obtain ⟨ih0, ih1⟩ := impl_search.mono_l is hism k
    refine ⟨?_, ?_⟩
    · intro y0 y1 y2
      unfold impl_search.l0
      repeat' first
      | (with_reducible exact ih0 _ _ _)
      | (with_reducible exact ih1 _ _ _ _ _ _)
      | (with_reducible exact hism _ _)
      | (with_reducible exact impl_doublingsOf.mono _ _)
      | (with_reducible exact impl_heapsKey.mono _ _)
      | (with_reducible exact LeO.refl _)
      | (with_reducible exact LeO.none _)
      | (with_reducible refine LeO.ite ?_ ?_)
      | (with_reducible refine LeO.bind ?_ (fun _ => ?_))
    · intro y0 y1 y2 y3 y4 y5
      unfold impl_search.l1
      repeat' first
      | (with_reducible exact ih0 _ _ _)
      | (with_reducible exact ih1 _ _ _ _ _ _)
      | (with_reducible exact impl_doublingsOf.mono _ _)
      | (with_reducible exact impl_heapsKey.mono _ _)
      | (with_reducible exact LeO.refl _)
      | (with_reducible exact LeO.none _)
      | (with_reducible refine LeO.ite ?_ ?_)
      | (with_reducible refine LeO.bind ?_ (fun _ => ?_))
theorem impl_search.mono (is : Nat → List Int → Option Bool) (hism : ∀ l k, LeO (is k l) (is (k + 1) l)) : ∀ a0 k, LeO (impl_search.f is k a0) (impl_search.f is (k + 1) a0) := by
  intro a0 k
  obtain ⟨ih0, ih1⟩ := impl_search.mono_l is hism k
  unfold impl_search.f
  repeat' first
      | (with_reducible exact ih0 _ _ _)
      | (with_reducible exact impl_heapsKey.mono _ _)
      | (with_reducible exact LeO.refl _)
      | (with_reducible exact LeO.none _)
      | (with_reducible refine LeO.bind ?_ (fun _ => ?_))
def impl_search.T11 : Bool × List (List Nat × List Nat) := (true, [([], []), ([], []), ([0, 1], [0, 1]), ([2], [2]), ([3], [3]), ([], []), ([4, 5], [4, 5]), ([6, 6, 0, 1, 2, 3, 4, 5, 6], [6])])
def impl_search.B11 : List Nat := [0, 0, 3, 7, 15, 0, 63, 127]
theorem impl_search.tab11 : rtab .any (opsOf Tryd.f54 11) = impl_search.T11 := by kernel_rfl
theorem impl_search.bits11 : waitsOk impl_search.T11.2 impl_search.B11 = true := by kernel_rfl
set_option maxHeartbeats 8000000 in
set_option maxRecDepth 100000 in
theorem impl_search.calls_p (is : Nat → List Int → Option Bool) (g : Nat) (lb : Array Value) (eg : ∀ args w, (callFunc g args).run Tryd.prog w = .ok (.enter g args) w) (w : World)
    (his : ∀ (k : Nat) (A : Option Addr) (c : Nat) (l : List Int) (r : Bool) (W : World), Below w.heap.size w W → Kd.C (Kd.int .i64) W A l.length l → l.length ≤ c → is k l = some r → Calls Tryd.prog g (#[.slice A l.length c] ++ lb) W fun e w' => e = .returned (.bool r) ∧ Below W.heap.size W w')
    (k : Nat) (A0 : Option Addr) (c0 : Nat) (l0 : List Int) (r1 : List (S89)) (r2 : Int) (hr0 : Kd.C (Kd.int .i64) w A0 l0.length l0) (hc0 : l0.length ≤ c0) (h : impl_search.f is k l0 = some (r1, r2)) :
    Calls Tryd.prog 54 #[.slice A0 l0.length c0, .func (.func g) #[] lb] w fun e w' => ∃ v0_ : Value, e = .returned (.tuple #[v0_, .int .i64 r2]) ∧ Kd.N k89 89 w' w.heap.size (fun k_ => (w.heap.size ≤ k_)) v0_ r1 ∧ Below w.heap.size w w' := by
  have hmm := @run_makeMap Tryd.prog
  have HIS := Aside0.mk his
  clear his
  have hu89 := Tryd.underlying89
  have hu52 := Tryd.underlying52
  have HR0 := Aside0.mk hr0
  have HC0 := Aside0.mk hc0
  clear hr0 hc0
  have HB := Aside0.mk (Below.refl w.heap.size w)
  unfold impl_search.f at h
  obtain ⟨t218, A30, h⟩ := Option.bind_eq_some_iff.mp h
  obtain ⟨t227, A40, h⟩ := Option.bind_eq_some_iff.mp h
  obtain ⟨tb, A50, H⟩ := Option.bind_eq_some_iff.mp h
  clear h
  have A3 := Aside0.mk A30
  have A4 := Aside0.mk A40
  have A5 := Aside0.mk (seenHas.size A50)
  clear A30 A40 A50
  obtain ⟨y221, hy221⟩ : ∃ y_ : List (S89), y_ = (([(⟨t218, (-1), (⟨0, 0⟩ : S52)⟩ : S89)] : List (S89))) := ⟨_, rfl⟩
  have Ny221 := Aside0.mk hy221
  replace H : (impl_search.l0 is k y221 [t227] 0) = some (r1, r2) := by rw [hy221]; exact H
  clear hy221
  have H' := Aside0.mk H
  clear H
  go_enter Tryd.func54, Tryd.ntmps54
  go_wp2_with (first | ((with_reducible refine gate_callee (f := 82) rfl ?_); refine goesL_ (some 14) rfl rfl Tryd.func82 (by kernel_rfl) rfl #[.slice A0 l0.length c0] rfl (by (try simp only [List.map_toArray, List.map_cons, List.map_nil]); first | done | rfl | (simp only [List.length_drop, List.length_take]; rfl)) ?_; (with_reducible refine (slices_Clone_int_int.calls _ _ l0 t218 _ ?side1 ?side2 A3.out).mono ?_); (case side1 => repeat (first | exact HR0.out | (with_reducible refine Kd.C_alloc ?_ _) | (with_reducible refine Kd.C_drewN ?_ _) | (with_reducible refine Kd.C_drew ?_))); (case side2 => exact HC0.out); rintro e w5 ⟨v219, rfl, ho0, hb⟩; refine ⟨_, rfl, ?_⟩; have n0_ := Aside0.mk (Kd.R_lower (Kd.R_newM (M := fun k_ => (w.heap.size ≤ k_)) ho0 (below_size (by repeat (first | (with_reducible first | exact HB.out | apply below_alloc | apply pw_below_drewN | apply below_drew1) | exact HB.out))) (fun k_ h_ => h_)) (below_size (by repeat (first | (with_reducible first | exact HB.out | apply below_alloc | apply pw_below_drewN | apply below_drew1) | exact HB.out)))); have n1_ := Aside0.mk (below_step (by repeat (first | (with_reducible first | exact HB.out | apply below_alloc | apply pw_below_drewN | apply below_drew1) | exact HB.out)) hb); clear HB; have HO220 := n0_; have HB := n1_; clear n0_ n1_; (try clear hb); (try clear hb2); (try clear hk); (try clear hi); (try clear ho0); obtain ⟨Ao6, co6, eo6⟩ := Kd.R_slice HO220.out; subst eo6) | ((with_reducible refine gate_dst (N := 16) rfl ?_); refine Kd.N_lit k89 _ 89 ?hg (N' := 16) ?hd (xs := ([(⟨t218, (-1), (⟨0, 0⟩ : S52)⟩ : S89)] : List (S89))) (inner := [.slice Ao6 t218.length co6, .int .i64 (-1), .int .i64 0, .int .i64 0]) (ok := (fun k_ => (w.heap.size ≤ k_))) (okp := (fun k_ => (w.heap.size ≤ k_))) ?hr ?hp (fun _ hk => hk) ((show ∀ k_, w5.heap.size ≤ k_ → (fun k_ => (w.heap.size ≤ k_)) k_ from fun k_ hk => (Nat.le_trans (below_size (by repeat (first | (with_reducible first | exact HB.out | apply below_alloc | apply pw_below_drewN | apply below_drew1) | exact HB.out))) hk)) _ (Nat.le_refl _)) (Below.refl _ _) (Nat.le_refl _) (by simp) ?_; (case hd => rfl); (case hg => rfl); (case hr => first | (go_simp; done) | (go_simp; rfl)); (case hp => exact (Reps.c4 (show Kd.FK k89 _ _ (⟨t218, (-1), (⟨0, 0⟩ : S52)⟩ : S89) [.slice Ao6 t218.length co6, .int .i64 (-1), .int .i64 0, .int .i64 0] from (k89_mkF _ _ (⟨t218, (-1), (⟨0, 0⟩ : S52)⟩ : S89) (Kd.R_reads' (Kd.R_mono (ok' := (fun k_ => (w.heap.size ≤ k_))) (HO220.out) (fun k_ hk => hk.1))).2.1 (Kd.R_F (Kd.R_mono (ok' := (fun k_ => (w.heap.size ≤ k_))) (HO220.out) (fun k_ hk => hk.1))))) (Reps.none _ _))); intro v222 w7 ho8 hb hg_ hnew_; clear hg_ hnew_; (first | rw [← Ny221.out] at ho8 | (simp only [Int.reduceToNat] at ho8; rw [← Ny221.out] at ho8)); have n0_ := Aside0.mk (Kd.N_lower ho8 (below_size (by repeat (first | (with_reducible first | exact HB.out | apply below_alloc | apply pw_below_drewN | apply below_drew1) | exact HB.out)))); have n1_ := Aside0.mk (below_step (by repeat (first | (with_reducible first | exact HB.out | apply below_alloc | apply pw_below_drewN | apply below_drew1) | exact HB.out)) hb); clear HB; clear HO220; have HO223 := n0_; have HB := n1_; clear n0_ n1_; clear hb ho8) | ((with_reducible refine gate_callee (f := 83) rfl ?_); refine goesL_ (some 19) rfl rfl Tryd.func83 (by kernel_rfl) rfl #[.slice A0 l0.length c0] rfl (by (try simp only [List.map_toArray, List.map_cons, List.map_nil]); first | done | rfl | (simp only [List.length_drop, List.length_take]; rfl)) ?_; (with_reducible refine (impl_heapsKey.calls k _ _ l0 t227 _ ?side1 ?side2 A4.out).mono ?_); (case side1 => repeat (first | exact (Kd.C_below HR0.out HB.out) | (with_reducible refine Kd.C_alloc ?_ _) | (with_reducible refine Kd.C_drewN ?_ _) | (with_reducible refine Kd.C_drew ?_))); (case side2 => exact HC0.out); rintro e w' ⟨rfl, ⟨nd, rfl⟩⟩; refine ⟨_, rfl, ?_⟩) | ((with_reducible refine gate_insert rfl ?_); refine wpList_insert_own _ rfl _ _ _ 90 rfl 9 4 ss_law Tryd.underlying90 _ w7.heap.size 0 (.map []) rfl (World.ownsMap_made w7 Tryd.prog 9 (plainElem (H := Unit) Tryd.prog 4)) (by unfold maxLen; omega) _ _ _ rfl rfl (ss_key A5.out) _ [] (plainElem_bool Tryd.underlying4 true) ?_; intro w11 hown hgr; have n0_ := Aside0.mk (Kd.N_grown (row := some w7.heap.size) (Kd.N_drewN (Kd.N_alloc (Kd.N_elderB HO223.out w7.heap.size (Nat.le_refl _)) _) _) hgr (fun _ hk he => hk.2 (Option.some.inj he))); have n1_ := Aside0.mk (MR.first hown (below_size HB.out)); have n2_ := Aside0.mk (below_grown (by repeat (first | (with_reducible first | exact HB.out | apply below_alloc | apply pw_below_drewN | apply below_drew1) | exact HB.out)) hgr (below_size HB.out)); clear HO223; clear HB; have HO223 := n0_; have HO230 := n1_; have HB := n2_; clear n0_ n1_ n2_; clear hown hgr))
  obtain ⟨gm, hgm⟩ : ∃ gm, gm = w7.heap.size := ⟨_, rfl⟩
  rw [← hgm] at HO223 HO230 ⊢
  clear hgm
  go_loopg [6, 8] k (fun kq v6 v8 w' => ∃ (x6_1 : List (S89)) (x7_1 : List ByteArray) (x8_1 : Int), v8 = .int .i64 x8_1 ∧ Aside0 (impl_search.l0 is kq x6_1 x7_1 x8_1 = some (r1, r2)) ∧ Aside0 (kq ≤ k) ∧ Aside0 (Kd.N k89 89 w' w.heap.size (fun k_ => (w.heap.size ≤ k_) ∧ some k_ ≠ (sv gm).ownBlock) v6 x6_1) ∧ Aside0 (MR gm w' w.heap.size x7_1) ∧ Aside0 (Below w.heap.size w w'))
  case atStart => exact ⟨(y221), ([t227]), (0), (by first | rfl | (simp; done) | (simp [*]; done)), H', ⟨Nat.le_refl _⟩, ⟨by (with_reducible repeat (first | apply Kd.N_alloc | apply Kd.N_drewN | apply Kd.N_drew)); exact Kd.N_mono HO223.out (fun _ hk => ⟨hk.1, fun e => hk.2 (sv_inj e)⟩)⟩, ⟨by (with_reducible repeat (first | apply MR.alloc | apply MR.drewN | apply MR.drew)); exact HO230.out⟩, ⟨by repeat (first | (with_reducible first | exact HB.out | apply below_alloc | apply pw_below_drewN | apply below_drew1) | exact HB.out)⟩⟩
  case round =>
    clear H'
    try clear p2
    try clear c4
    try clear c5
    try clear c8
    obtain ⟨x6_1, x7_1, x8_1, rfl, HA, HK1, HO_6, HO_7, HB⟩ := hrel
    cases gk with
    | zero => exact absurd HA.out (by simp [impl_search.l0])
    | succ k1 =>
      have H := HA.out
      clear HA
      simp only [impl_search.l0] at H
      by_cases c13 : x8_1 < (x6_1.length : Int)
      · rw [if_pos c13] at H
        have c13b0 : decide (x8_1 < (x6_1.length : Int)) = true := decide_eq_true c13
        clear c13
        by_cases c14 : 0 ≤ x8_1
        · rw [if_pos c14] at H
          have c14b0 : decide (0 ≤ x8_1) = true := decide_eq_true c14
          clear c14
          replace H := Option.bind_eq_some_iff.mp H
          obtain ⟨t232, A150, H⟩ := H
          replace H : (if t232 = true then (some (x6_1, x8_1)) else ((impl_doublingsOf.f k1 ((rd_T89 x6_1 x8_1).f0)).bind fun t234 => (impl_search.l1 is k1 x6_1 x7_1 x8_1 t234 (t234.length : Int) 0))) = some (r1, r2) := H
          have A15 := Aside0.mk A150
          clear A150
          by_cases c16 : t232 = true
          · subst c16
            have H1 : (some (x6_1, x8_1)) = some (r1, r2) := by rw [if_pos rfl] at H; exact H
            clear H
            have H := H1
            clear H1
            simp only [Option.some.injEq, Prod.mk.injEq] at H
            obtain ⟨rfl, rfl⟩ := H
            obtain ⟨Ao17, co17, eo17⟩ := Kd.N_slice HO_6.out
            subst eo17
            have p231 : 0 ≤ (x8_1 : Int) := of_decide_eq_true (by first | (with_reducible assumption) | assumption)
            have q231 : x8_1 < (x6_1.length : Int) := of_decide_eq_true (by first | (with_reducible assumption) | assumption)
            obtain ⟨ad231, A231_0, c231_0, e231, hx231_0, hx231_1, hx231_2, hx231_3, hl231_0, hi231_0⟩ := at_T89 (Kd.N_reads' HO_6.out).2.2 x8_1 p231 q231
            cases e231
            obtain ⟨ce231, hce231, hMe231, hcc231⟩ := Kd.N_get HO_6.out z89 x8_1 p231 (by first | exact q231 | exact of_decide_eq_true (by first | (with_reducible assumption) | assumption) | (have e_ := (Kd.N_reads' HO_6.out).1; omega))
            obtain ⟨ua231_0, uc231_0, rfl, ul231_0, ge231_0⟩ := k89_openF hMe231
            have hv231_0 := hcc231 0 _ rfl
            rw [Nat.add_zero] at hv231_0
            replace hv231_0 := Option.some.inj (hv231_0.symm.trans hx231_0)
            injection hv231_0 with hva_ hvn_ hvc_
            rw [hva_] at ge231_0
            rw [hvc_] at ul231_0
            have HL231_0 := Aside0.mk (show Kd.V (Kd.int .i64) 3 _ w.heap.size _ _ ((rd_T89 x6_1 x8_1).f0) from Kd.V_mk ul231_0 ge231_0)
            clear hva_ hvn_ hvc_ ge231_0 ul231_0
            clear hcc231 hce231
            have HR231_0 := Aside0.mk hi231_0
            have HC231_0 := Aside0.mk hl231_0
            clear hi231_0 hl231_0
            replace p231 := eq_true p231
            replace q231 := eq_true q231
            go_wp2_with (first | (go_at_fn g; (refine (HIS.out k1 _ _ ((rd_T89 x6_1 x8_1).f0) true _ (by repeat (first | (with_reducible first | exact HB.out | apply below_alloc | apply pw_below_drewN | apply below_drew1) | exact HB.out)) ?side1 ?side2 A15.out).mono ?_); (case side1 => repeat (first | exact (by repeat (first | (with_reducible exact HR231_0.out) | (with_reducible refine Kd.C_alloc ?_ _) | (with_reducible refine Kd.C_drewN ?_ _) | (with_reducible refine Kd.C_drew ?_) | exact HR231_0.out)) | (with_reducible refine Kd.C_alloc ?_ _) | (with_reducible refine Kd.C_drewN ?_ _) | (with_reducible refine Kd.C_drew ?_))); (case side2 => exact HC231_0.out); rintro e w18 ⟨rfl, hb⟩; have n0_ := Aside0.mk (Kd.N_below (by (with_reducible repeat (first | apply Kd.N_alloc | apply Kd.N_drewN | apply Kd.N_drew)); exact HO_6.out) hb); have n1_ := Aside0.mk (MR.below (by (with_reducible repeat (first | apply MR.alloc | apply MR.drewN | apply MR.drew)); exact HO_7.out) hb); have n2_ := Aside0.mk (Kd.V_below (by (with_reducible repeat (first | apply Kd.V_alloc | apply Kd.V_drewN | apply Kd.V_drew)); exact HL231_0.out) hb); have n3_ := Aside0.mk (Kd.C_below (by repeat (first | (with_reducible exact HR231_0.out) | (with_reducible refine Kd.C_alloc ?_ _) | (with_reducible refine Kd.C_drewN ?_ _) | (with_reducible refine Kd.C_drew ?_) | exact HR231_0.out)) hb); have n4_ := Aside0.mk (below_step (by repeat (first | (with_reducible first | exact HB.out | apply below_alloc | apply pw_below_drewN | apply below_drew1) | exact HB.out)) hb); clear HO_6; clear HO_7; clear HL231_0; clear HR231_0; clear HB; have HO_6 := n0_; have HO_7 := n1_; have HL231_0 := n2_; have HR231_0 := n3_; have HB := n4_; clear n0_ n1_ n2_ n3_ n4_; (try clear hb); (try clear hb2); (try clear hk); (try clear hi)))
            go_ret2
            exact ⟨_, by first | rfl | (simp [errW_none, errW_some] <;> rfl) | (simp [*, errW_none, errW_some] <;> rfl), by (with_reducible repeat (first | apply Kd.N_alloc | apply Kd.N_drewN | apply Kd.N_drew)); exact Kd.N_mono HO_6.out (fun _ hk => hk.1), by repeat (first | (with_reducible first | exact HB.out | apply below_alloc | apply pw_below_drewN | apply below_drew1) | exact HB.out)⟩
          · replace c16 := Bool.eq_false_iff.mpr c16
            subst c16
            have H1 : ((impl_doublingsOf.f k1 ((rd_T89 x6_1 x8_1).f0)).bind fun t234 => (impl_search.l1 is k1 x6_1 x7_1 x8_1 t234 (t234.length : Int) 0)) = some (r1, r2) := by rw [if_neg (show ¬ (false = true) by decide)] at H; exact H
            clear H
            have H := H1
            clear H1
            replace H := Option.bind_eq_some_iff.mp H
            obtain ⟨t234, A190, H⟩ := H
            replace H : (impl_search.l1 is k1 x6_1 x7_1 x8_1 t234 (t234.length : Int) 0) = some (r1, r2) := H
            have A19 := Aside0.mk A190
            clear A190
            have H' := Aside0.mk H
            clear H
            obtain ⟨Ao20, co20, eo20⟩ := Kd.N_slice HO_6.out
            subst eo20
            have p231 : 0 ≤ (x8_1 : Int) := of_decide_eq_true (by first | (with_reducible assumption) | assumption)
            have q231 : x8_1 < (x6_1.length : Int) := of_decide_eq_true (by first | (with_reducible assumption) | assumption)
            obtain ⟨ad231, A231_0, c231_0, e231, hx231_0, hx231_1, hx231_2, hx231_3, hl231_0, hi231_0⟩ := at_T89 (Kd.N_reads' HO_6.out).2.2 x8_1 p231 q231
            cases e231
            obtain ⟨ce231, hce231, hMe231, hcc231⟩ := Kd.N_get HO_6.out z89 x8_1 p231 (by first | exact q231 | exact of_decide_eq_true (by first | (with_reducible assumption) | assumption) | (have e_ := (Kd.N_reads' HO_6.out).1; omega))
            obtain ⟨ua231_0, uc231_0, rfl, ul231_0, ge231_0⟩ := k89_openF hMe231
            have hv231_0 := hcc231 0 _ rfl
            rw [Nat.add_zero] at hv231_0
            replace hv231_0 := Option.some.inj (hv231_0.symm.trans hx231_0)
            injection hv231_0 with hva_ hvn_ hvc_
            rw [hva_] at ge231_0
            rw [hvc_] at ul231_0
            have HL231_0 := Aside0.mk (show Kd.V (Kd.int .i64) 3 _ w.heap.size _ _ ((rd_T89 x6_1 x8_1).f0) from Kd.V_mk ul231_0 ge231_0)
            clear hva_ hvn_ hvc_ ge231_0 ul231_0
            clear hcc231 hce231
            have HR231_0 := Aside0.mk hi231_0
            have HC231_0 := Aside0.mk hl231_0
            clear hi231_0 hl231_0
            replace p231 := eq_true p231
            replace q231 := eq_true q231
            go_wp2_with (first | (go_at_fn g; (refine (HIS.out k1 _ _ ((rd_T89 x6_1 x8_1).f0) false _ (by repeat (first | (with_reducible first | exact HB.out | apply below_alloc | apply pw_below_drewN | apply below_drew1) | exact HB.out)) ?side1 ?side2 A15.out).mono ?_); (case side1 => repeat (first | exact (by repeat (first | (with_reducible exact HR231_0.out) | (with_reducible refine Kd.C_alloc ?_ _) | (with_reducible refine Kd.C_drewN ?_ _) | (with_reducible refine Kd.C_drew ?_) | exact HR231_0.out)) | (with_reducible refine Kd.C_alloc ?_ _) | (with_reducible refine Kd.C_drewN ?_ _) | (with_reducible refine Kd.C_drew ?_))); (case side2 => exact HC231_0.out); rintro e w21 ⟨rfl, hb⟩; have n0_ := Aside0.mk (Kd.N_below (by (with_reducible repeat (first | apply Kd.N_alloc | apply Kd.N_drewN | apply Kd.N_drew)); exact HO_6.out) hb); have n1_ := Aside0.mk (MR.below (by (with_reducible repeat (first | apply MR.alloc | apply MR.drewN | apply MR.drew)); exact HO_7.out) hb); have n2_ := Aside0.mk (Kd.V_below (by (with_reducible repeat (first | apply Kd.V_alloc | apply Kd.V_drewN | apply Kd.V_drew)); exact HL231_0.out) hb); have n3_ := Aside0.mk (Kd.C_below (by repeat (first | (with_reducible exact HR231_0.out) | (with_reducible refine Kd.C_alloc ?_ _) | (with_reducible refine Kd.C_drewN ?_ _) | (with_reducible refine Kd.C_drew ?_) | exact HR231_0.out)) hb); have n4_ := Aside0.mk (below_step (by repeat (first | (with_reducible first | exact HB.out | apply below_alloc | apply pw_below_drewN | apply below_drew1) | exact HB.out)) hb); clear HO_6; clear HO_7; clear HL231_0; clear HR231_0; clear HB; have HO_6 := n0_; have HO_7 := n1_; have HL231_0 := n2_; have HR231_0 := n3_; have HB := n4_; clear n0_ n1_ n2_ n3_ n4_; (try clear hb); (try clear hb2); (try clear hk); (try clear hi); have p233 : 0 ≤ (x8_1 : Int) := of_decide_eq_true (by first | (with_reducible assumption) | assumption); have q233 : x8_1 < (x6_1.length : Int) := of_decide_eq_true (by first | (with_reducible assumption) | assumption); obtain ⟨ad233, A233_0, c233_0, e233, hx233_0, hx233_1, hx233_2, hx233_3, hl233_0, hi233_0⟩ := at_T89 (Kd.N_reads' HO_6.out).2.2 x8_1 p233 q233; obtain rfl : ad231 = ad233 := (by injection e233); obtain ⟨ce233, hce233, hMe233, hcc233⟩ := Kd.N_get HO_6.out z89 x8_1 p233 (by first | exact q233 | exact of_decide_eq_true (by first | (with_reducible assumption) | assumption) | (have e_ := (Kd.N_reads' HO_6.out).1; omega)); obtain ⟨ua233_0, uc233_0, rfl, ul233_0, ge233_0⟩ := k89_openF hMe233; have hv233_0 := hcc233 0 _ rfl; rw [Nat.add_zero] at hv233_0; replace hv233_0 := Option.some.inj (hv233_0.symm.trans hx233_0); injection hv233_0 with hva_ hvn_ hvc_; rw [hva_] at ge233_0; rw [hvc_] at ul233_0; have HL233_0 := Aside0.mk (show Kd.V (Kd.int .i64) 3 _ w.heap.size _ _ ((rd_T89 x6_1 x8_1).f0) from Kd.V_mk ul233_0 ge233_0); clear hva_ hvn_ hvc_ ge233_0 ul233_0; clear hcc233 hce233; have HR233_0 := Aside0.mk hi233_0; have HC233_0 := Aside0.mk hl233_0; clear hi233_0 hl233_0; replace p233 := eq_true p233; replace q233 := eq_true q233) | ((with_reducible refine gate_callee (f := 84) rfl ?_); refine goesL_ (some 41) rfl rfl Tryd.func84 (by kernel_rfl) rfl #[.slice A233_0 ((rd_T89 x6_1 x8_1).f0).length c233_0] rfl (by (try simp only [List.map_toArray, List.map_cons, List.map_nil]); first | done | rfl | (simp only [List.length_drop, List.length_take]; rfl)) ?_; (with_reducible refine (impl_doublingsOf.calls k1 _ _ ((rd_T89 x6_1 x8_1).f0) t234 _ ?side1 ?side2 A19.out).mono ?_); (case side1 => repeat (first | exact (by repeat (first | (with_reducible exact HR233_0.out) | (with_reducible refine Kd.C_alloc ?_ _) | (with_reducible refine Kd.C_drewN ?_ _) | (with_reducible refine Kd.C_drew ?_) | exact HR233_0.out)) | (with_reducible refine Kd.C_alloc ?_ _) | (with_reducible refine Kd.C_drewN ?_ _) | (with_reducible refine Kd.C_drew ?_))); (case side2 => exact HC233_0.out); rintro e w22 ⟨v235, rfl, ho0, hb⟩; refine ⟨_, rfl, ?_⟩; have n0_ := Aside0.mk (Kd.N_elder' (by (with_reducible repeat (first | apply Kd.N_alloc | apply Kd.N_drewN | apply Kd.N_drew)); exact HO_6.out) (Kd.R_base ho0) hb); have n1_ := Aside0.mk (MR.below (by (with_reducible repeat (first | apply MR.alloc | apply MR.drewN | apply MR.drew)); exact HO_7.out) hb); have n2_ := Aside0.mk (Kd.V_elder' (by (with_reducible repeat (first | apply Kd.V_alloc | apply Kd.V_drewN | apply Kd.V_drew)); exact HL231_0.out) (Kd.R_base ho0) hb); have n3_ := Aside0.mk (Kd.V_elder' (by (with_reducible repeat (first | apply Kd.V_alloc | apply Kd.V_drewN | apply Kd.V_drew)); exact HL233_0.out) (Kd.R_base ho0) hb); have n4_ := Aside0.mk (Kd.R_lower (Kd.R_newM (M := fun k_ => (w.heap.size ≤ k_)) ho0 (below_size (by repeat (first | (with_reducible first | exact HB.out | apply below_alloc | apply pw_below_drewN | apply below_drew1) | exact HB.out))) (fun k_ h_ => h_)) (below_size (by repeat (first | (with_reducible first | exact HB.out | apply below_alloc | apply pw_below_drewN | apply below_drew1) | exact HB.out)))); have n5_ := Aside0.mk (Kd.C_below (by repeat (first | (with_reducible exact HR231_0.out) | (with_reducible refine Kd.C_alloc ?_ _) | (with_reducible refine Kd.C_drewN ?_ _) | (with_reducible refine Kd.C_drew ?_) | exact HR231_0.out)) hb); have n6_ := Aside0.mk (Kd.C_below (by repeat (first | (with_reducible exact HR233_0.out) | (with_reducible refine Kd.C_alloc ?_ _) | (with_reducible refine Kd.C_drewN ?_ _) | (with_reducible refine Kd.C_drew ?_) | exact HR233_0.out)) hb); have n7_ := Aside0.mk (below_step (by repeat (first | (with_reducible first | exact HB.out | apply below_alloc | apply pw_below_drewN | apply below_drew1) | exact HB.out)) hb); clear HO_6; clear HO_7; clear HL231_0; clear HL233_0; clear HR231_0; clear HR233_0; clear HB; have HO_6 := n0_; have HO_7 := n1_; have HL231_0 := n2_; have HL233_0 := n3_; have HO236 := n4_; have HR231_0 := n5_; have HR233_0 := n6_; have HB := n7_; clear n0_ n1_ n2_ n3_ n4_ n5_ n6_ n7_; (try clear hb); (try clear hb2); (try clear hk); (try clear hi); (try clear ho0); obtain ⟨Ao23, co23, eo23⟩ := Kd.R_slice HO236.out; subst eo23))
            go_loopg [6, 43] k1 (fun kq v6 v43 w' => ∃ (x6_2 : List (S89)) (x7_2 : List ByteArray) (x43_2 : Int), v43 = .int .i64 x43_2 ∧ Aside0 (impl_search.l1 is kq x6_2 x7_2 x8_1 t234 (t234.length : Int) x43_2 = some (r1, r2)) ∧ Aside0 (kq ≤ k1) ∧ Aside0 (Kd.N k89 89 w' w.heap.size (fun k_ => (w.heap.size ≤ k_) ∧ some k_ ≠ (sv gm).ownBlock ∧ some k_ ≠ ((.slice Ao23 t234.length co23) : Value).ownBlock) v6 x6_2) ∧ Aside0 (MR gm w' w.heap.size x7_2) ∧ Aside0 (Kd.R k52 52 w' w.heap.size (fun k_ => (w.heap.size ≤ k_)) (.slice Ao23 t234.length co23) t234) ∧ Aside0 (Below w.heap.size w w'))
            case atStart => exact ⟨(x6_1), (x7_1), (0), (by first | rfl | (simp; done) | (simp [*]; done)), H', ⟨Nat.le_refl _⟩, ⟨by (with_reducible repeat (first | apply Kd.N_alloc | apply Kd.N_drewN | apply Kd.N_drew)); exact Kd.N_mono HO_6.out (fun _ hk => ⟨hk.1.1, ⟨hk.1.2, hk.2⟩⟩)⟩, ⟨by (with_reducible repeat (first | apply MR.alloc | apply MR.drewN | apply MR.drew)); exact HO_7.out⟩, ⟨by (with_reducible repeat (first | apply Kd.R_alloc | apply Kd.R_drewN | apply Kd.R_drew)); exact Kd.R_mono HO236.out (fun _ hk => hk.1)⟩, ⟨by repeat (first | (with_reducible first | exact HB.out | apply below_alloc | apply pw_below_drewN | apply below_drew1) | exact HB.out)⟩⟩
            case round =>
              clear H'
              try clear c1
              try clear c2
              try clear p2
              try clear q2
              try clear hx2
              try clear c4
              try clear c5
              try clear c8
              try clear c13
              try clear c13b0
              try clear c14
              try clear c14b0
              try clear c16
              try clear c23
              try clear p23
              try clear q23
              try clear hx23
              try clear hx231_0
              try clear hx231_1
              try clear hx231_2
              try clear hx231_3
              try clear hx233_0
              try clear hx233_1
              try clear hx233_2
              try clear hx233_3
              try clear p2
              try clear p231
              try clear p233
              try clear q231
              try clear q233
              obtain ⟨x6_2, x7_2, x43_2, rfl, HA, HK2, HO_6, HO_7, HO_41, HB⟩ := hrel
              cases gk with
              | zero => exact absurd HA.out (by simp [impl_search.l1])
              | succ k2 =>
                have H := HA.out
                clear HA
                simp only [impl_search.l1] at H
                by_cases c24 : x43_2 < (t234.length : Int)
                · rw [if_pos c24] at H
                  have c24b0 : decide (x43_2 < (t234.length : Int)) = true := decide_eq_true c24
                  clear c24
                  by_cases c25 : 0 ≤ x43_2
                  · rw [if_pos c25] at H
                    have c25b0 : decide (0 ≤ x43_2) = true := decide_eq_true c25
                    clear c25
                    by_cases c26 : x43_2 < (t234.length : Int)
                    · rw [if_pos c26] at H
                      have c26b0 : decide (x43_2 < (t234.length : Int)) = true := decide_eq_true c26
                      clear c26
                      by_cases c27 : 0 ≤ x8_1
                      · rw [if_pos c27] at H
                        have c27b0 : decide (0 ≤ x8_1) = true := decide_eq_true c27
                        clear c27
                        by_cases c28 : x8_1 < (x6_2.length : Int)
                        · rw [if_pos c28] at H
                          have c28b0 : decide (x8_1 < (x6_2.length : Int)) = true := decide_eq_true c28
                          clear c28
                          replace H := Option.bind_eq_some_iff.mp H
                          obtain ⟨t240, A290, H⟩ := H
                          replace H : ((impl_heapsKey.f k2 t240).bind fun t243 => ((seenHas.f x7_2 t243).bind fun t244 => (if t244 = true then (impl_search.l1 is k2 x6_2 x7_2 x8_1 t234 (t234.length : Int) (wrap64 (x43_2 + 1))) else (if x7_2.length < 8796093022208 then (if x6_2.length < 2932031007402 then (impl_search.l1 is k2 (x6_2 ++ [(⟨t240, x8_1, (⟨(rd_T52 t234 x43_2).f0, (rd_T52 t234 x43_2).f1⟩ : S52)⟩ : S89)]) (x7_2 ++ [t243]) x8_1 t234 (t234.length : Int) (wrap64 (x43_2 + 1))) else (none)) else (none))))) = some (r1, r2) := H
                          have A29 := Aside0.mk A290
                          clear A290
                          replace H := Option.bind_eq_some_iff.mp H
                          obtain ⟨t243, A300, H⟩ := H
                          replace H : ((seenHas.f x7_2 t243).bind fun t244 => (if t244 = true then (impl_search.l1 is k2 x6_2 x7_2 x8_1 t234 (t234.length : Int) (wrap64 (x43_2 + 1))) else (if x7_2.length < 8796093022208 then (if x6_2.length < 2932031007402 then (impl_search.l1 is k2 (x6_2 ++ [(⟨t240, x8_1, (⟨(rd_T52 t234 x43_2).f0, (rd_T52 t234 x43_2).f1⟩ : S52)⟩ : S89)]) (x7_2 ++ [t243]) x8_1 t234 (t234.length : Int) (wrap64 (x43_2 + 1))) else (none)) else (none)))) = some (r1, r2) := H
                          have A30 := Aside0.mk A300
                          clear A300
                          replace H := Option.bind_eq_some_iff.mp H
                          obtain ⟨t244, A310, H⟩ := H
                          replace H : (if t244 = true then (impl_search.l1 is k2 x6_2 x7_2 x8_1 t234 (t234.length : Int) (wrap64 (x43_2 + 1))) else (if x7_2.length < 8796093022208 then (if x6_2.length < 2932031007402 then (impl_search.l1 is k2 (x6_2 ++ [(⟨t240, x8_1, (⟨(rd_T52 t234 x43_2).f0, (rd_T52 t234 x43_2).f1⟩ : S52)⟩ : S89)]) (x7_2 ++ [t243]) x8_1 t234 (t234.length : Int) (wrap64 (x43_2 + 1))) else (none)) else (none))) = some (r1, r2) := H
                          have A31 := Aside0.mk A310
                          clear A310
                          by_cases c32 : t244 = true
                          · subst c32
                            have H1 : (impl_search.l1 is k2 x6_2 x7_2 x8_1 t234 (t234.length : Int) (wrap64 (x43_2 + 1))) = some (r1, r2) := by rw [if_pos rfl] at H; exact H
                            clear H
                            have H := H1
                            clear H1
                            have H' := Aside0.mk H
                            clear H
                            have p237 : 0 ≤ (x43_2 : Int) := of_decide_eq_true (by first | (with_reducible assumption) | assumption)
                            have q237 : x43_2 < (t234.length : Int) := of_decide_eq_true (by first | (with_reducible assumption) | assumption)
                            obtain ⟨ad237, e237, hx237_0, hx237_1⟩ := at_T52 (Kd.R_reads' HO_41.out).2.2 x43_2 p237 q237
                            cases e237
                            replace p237 := eq_true p237
                            replace q237 := eq_true q237
                            try go_wp2_with (first | ((with_reducible refine gate_dst (N := 10) rfl ?_); refine box_event ?hg (N := 10) ?hd (cs := #[.int .i64 0, .int .i64 0]) (t := 52) ?hr ?_; (case hd => rfl); (case hg => rfl); (case hr => first | (go_simp; done) | (go_simp; rfl)); intro gb238 hg w33 hbox hb; have n0_ := Aside0.mk (Kd.N_below (Kd.N_elderB (by (with_reducible repeat (first | apply Kd.N_alloc | apply Kd.N_drewN | apply Kd.N_drew)); exact HO_6.out) gb238 (Nat.le_of_eq hg.symm)) hb); have n1_ := Aside0.mk (MR.below (by (with_reducible repeat (first | apply MR.alloc | apply MR.drewN | apply MR.drew)); exact HO_7.out) hb); have n2_ := Aside0.mk (Kd.R_below (Kd.R_elderB (by (with_reducible repeat (first | apply Kd.R_alloc | apply Kd.R_drewN | apply Kd.R_drew)); exact HO_41.out) gb238 (Nat.le_of_eq hg.symm)) hb); have n3_ := Aside0.mk (below_step (by repeat (first | (with_reducible first | exact HB.out | apply below_alloc | apply pw_below_drewN | apply below_drew1) | exact HB.out)) hb); have n4_ := Aside0.mk (hbox); have n5_ := Aside0.mk ((by rw [hg]; exact (below_size (by repeat (first | (with_reducible first | exact HB.out | apply below_alloc | apply pw_below_drewN | apply below_drew1) | exact HB.out))) : w.heap.size ≤ gb238)); have n6_ := Aside0.mk ((by rw [hg]; exact (below_size (by repeat (first | (with_reducible first | exact HB.out | apply below_alloc | apply pw_below_drewN | apply below_drew1) | exact HB.out))) : w.heap.size ≤ gb238)); clear HO_6; clear HO_7; clear HO_41; clear HB; have HO_6 := n0_; have HO_7 := n1_; have HO_41 := n2_; have HB := n3_; have BK238 := n4_; have GW238 := n5_; have GE238 := n6_; clear n0_ n1_ n2_ n3_ n4_ n5_ n6_; clear hb hbox hg; have hcz34_0 : w33.cell? ⟨gb238, 0, none⟩ = some (.int .i64 0) := (blk_cell BK238.out 0).trans rfl; have hcz34_1 : w33.cell? ⟨gb238, 1, none⟩ = some (.int .i64 0) := (blk_cell BK238.out 1).trans rfl; have hfz34_0 := blk_frozen BK238.out 0; have hfz34_1 := blk_frozen BK238.out 1))
                            have n0_ : Aside0 (Kd.N k89 89 ((w33.setCell ⟨gb238, 0, none⟩ (.int .i64 ((rd_T52 t234 x43_2).f0))).setCell ⟨gb238, 1, none⟩ (.int .i64 ((rd_T52 t234 x43_2).f1))) w.heap.size (fun k_ => (w.heap.size ≤ k_) ∧ some k_ ≠ (sv gm).ownBlock ∧ some k_ ≠ (.slice (some ad237) t234.length co23 : Value).ownBlock ∧ k_ ≠ gb238) u6 x6_2) := ⟨by (with_reducible repeat (first | apply Kd.N_alloc | apply Kd.N_drewN | apply Kd.N_drew)); exact Kd.N_mono (Kd.N_far (p := ⟨gb238, 1, none⟩) (Kd.N_far (p := ⟨gb238, 0, none⟩) (Kd.N_mono HO_6.out (fun k_ hk => (⟨hk, hk.2⟩ : _ ∧ k_ ≠ gb238))) (fun _ hk => hk.2) (.int .i64 ((rd_T52 t234 x43_2).f0))) (fun _ hk => hk.2) (.int .i64 ((rd_T52 t234 x43_2).f1))) (fun _ hk => ⟨hk.1.1.1, ⟨hk.1.1.2.1, ⟨hk.1.1.2.2, hk.1.2⟩⟩⟩)⟩
                            have n1_ : Aside0 (MR gm ((w33.setCell ⟨gb238, 0, none⟩ (.int .i64 ((rd_T52 t234 x43_2).f0))).setCell ⟨gb238, 1, none⟩ (.int .i64 ((rd_T52 t234 x43_2).f1))) w.heap.size x7_2) := ⟨by (with_reducible repeat (first | apply MR.alloc | apply MR.drewN | apply MR.drew)); exact MR.far (MR.far HO_7.out (MR.ne2 HO_7.out BK238.out) 0 (.int .i64 ((rd_T52 t234 x43_2).f0))) (MR.ne2 HO_7.out BK238.out) 1 (.int .i64 ((rd_T52 t234 x43_2).f1))⟩
                            have n2_ : Aside0 (Kd.R k52 52 ((w33.setCell ⟨gb238, 0, none⟩ (.int .i64 ((rd_T52 t234 x43_2).f0))).setCell ⟨gb238, 1, none⟩ (.int .i64 ((rd_T52 t234 x43_2).f1))) w.heap.size (fun k_ => (w.heap.size ≤ k_) ∧ k_ ≠ gb238) (.slice (some ad237) t234.length co23) t234) := ⟨by (with_reducible repeat (first | apply Kd.R_alloc | apply Kd.R_drewN | apply Kd.R_drew)); exact Kd.R_mono (Kd.R_far (p := ⟨gb238, 1, none⟩) (Kd.R_far (p := ⟨gb238, 0, none⟩) (Kd.R_mono HO_41.out (fun k_ hk => (⟨hk, hk.2⟩ : _ ∧ k_ ≠ gb238))) (fun _ hk => hk.2) (.int .i64 ((rd_T52 t234 x43_2).f0))) (fun _ hk => hk.2) (.int .i64 ((rd_T52 t234 x43_2).f1))) (fun _ hk => ⟨hk.1.1, hk.1.2⟩)⟩
                            have n3_ : Aside0 (((w33.setCell ⟨gb238, 0, none⟩ (.int .i64 ((rd_T52 t234 x43_2).f0))).setCell ⟨gb238, 1, none⟩ (.int .i64 ((rd_T52 t234 x43_2).f1))).heap[gb238]? = some (.cells #[.int .i64 ((rd_T52 t234 x43_2).f0), .int .i64 ((rd_T52 t234 x43_2).f1)] 52 (0, 0))) := ⟨by (with_reducible repeat (first | refine blk_drewN ?_ _ | refine blk_drew ?_ | refine blk_alloc ?_ _)); refine blk_put (cs := #[.int .i64 ((rd_T52 t234 x43_2).f0), .int .i64 0]) ?_ 1 _ rfl; (with_reducible repeat (first | refine blk_drewN ?_ _ | refine blk_drew ?_ | refine blk_alloc ?_ _)); refine blk_put (cs := #[.int .i64 0, .int .i64 0]) ?_ 0 _ rfl; (with_reducible repeat (first | refine blk_drewN ?_ _ | refine blk_drew ?_ | refine blk_alloc ?_ _)); exact BK238.out⟩
                            have n4_ : Aside0 (Below w.heap.size w ((w33.setCell ⟨gb238, 0, none⟩ (.int .i64 ((rd_T52 t234 x43_2).f0))).setCell ⟨gb238, 1, none⟩ (.int .i64 ((rd_T52 t234 x43_2).f1)))) := ⟨by repeat (first | (with_reducible first | exact HB.out | apply below_alloc | apply pw_below_drewN | apply below_drew1 | refine below_set ?_ GE238.out) | exact HB.out)⟩
                            (try clear HO_6)
                            (try clear HO_7)
                            (try clear HO_41)
                            (try clear BK238)
                            (try clear HB)
                            generalize ((w33.setCell ⟨gb238, 0, none⟩ (.int .i64 ((rd_T52 t234 x43_2).f0))).setCell ⟨gb238, 1, none⟩ (.int .i64 ((rd_T52 t234 x43_2).f1))) = w35 at n0_ n1_ n2_ n3_ n4_ ⊢
                            have HO_6 := n0_
                            have HO_7 := n1_
                            have HO_41 := n2_
                            have BK238 := n3_
                            have HB := n4_
                            clear n0_ n1_ n2_ n3_ n4_
                            have n0_ := Aside0.mk (Kd.N_drew HO_6.out)
                            have n1_ := Aside0.mk (MR.drew HO_7.out)
                            have n2_ := Aside0.mk (Kd.R_drew HO_41.out)
                            have n3_ := Aside0.mk (blk_drew BK238.out)
                            have n4_ := Aside0.mk (below_drew1 HB.out)
                            clear HO_6
                            clear HO_7
                            clear HO_41
                            clear BK238
                            clear HB
                            have HO_6 := n0_
                            have HO_7 := n1_
                            have HO_41 := n2_
                            have BK238 := n3_
                            have HB := n4_
                            clear n0_ n1_ n2_ n3_ n4_
                            obtain ⟨Ao37, co37, eo37⟩ := Kd.N_slice HO_6.out
                            (first | subst eo37 | (injection eo37 with f1_ f2_ f3_; have f4_ := f1_.symm; have f5_ := f3_.symm; clear f1_ f2_ f3_; subst f4_; subst f5_))
                            have p239 : 0 ≤ (x8_1 : Int) := of_decide_eq_true (by first | (with_reducible assumption) | assumption)
                            have q239 : x8_1 < (x6_2.length : Int) := of_decide_eq_true (by first | (with_reducible assumption) | assumption)
                            obtain ⟨ad239, A239_0, c239_0, e239, hx239_0, hx239_1, hx239_2, hx239_3, hl239_0, hi239_0⟩ := at_T89 (Kd.N_reads' HO_6.out).2.2 x8_1 p239 q239
                            cases e239
                            obtain ⟨ce239, hce239, hMe239, hcc239⟩ := Kd.N_get HO_6.out z89 x8_1 p239 (by first | exact q239 | exact of_decide_eq_true (by first | (with_reducible assumption) | assumption) | (have e_ := (Kd.N_reads' HO_6.out).1; omega))
                            obtain ⟨ua239_0, uc239_0, rfl, ul239_0, ge239_0⟩ := k89_openF hMe239
                            have hv239_0 := hcc239 0 _ rfl
                            rw [Nat.add_zero] at hv239_0
                            replace hv239_0 := Option.some.inj (hv239_0.symm.trans hx239_0)
                            injection hv239_0 with hva_ hvn_ hvc_
                            rw [hva_] at ge239_0
                            rw [hvc_] at ul239_0
                            have HL239_0 := Aside0.mk (show Kd.V (Kd.int .i64) 3 _ w.heap.size _ _ ((rd_T89 x6_2 x8_1).f0) from Kd.V_mk ul239_0 ge239_0)
                            clear hva_ hvn_ hvc_ ge239_0 ul239_0
                            clear hcc239 hce239
                            have HR239_0 := Aside0.mk hi239_0
                            have HC239_0 := Aside0.mk hl239_0
                            clear hi239_0 hl239_0
                            replace p239 := eq_true p239
                            replace q239 := eq_true q239
                            refine start_ (n := 8) (S := fun w' => w'.cell? ⟨gb238, 0, none⟩ = some (.int .i64 ((rd_T52 t234 x43_2).f0)) ∧ w'.cell? ⟨gb238, 1, none⟩ = some (.int .i64 ((rd_T52 t234 x43_2).f1)) ∧ w'.cell? (ad239.add ((x8_1).toNat * 4)) = some (.slice A239_0 ((rd_T89 x6_2 x8_1).f0).length c239_0) ∧ w'.cell? ⟨(ad239.add ((x8_1).toNat * 4)).block, (ad239.add ((x8_1).toNat * 4)).off + 1, none⟩ = some (.int .i64 ((rd_T89 x6_2 x8_1).f1)) ∧ w'.cell? ⟨(ad239.add ((x8_1).toNat * 4)).block, (ad239.add ((x8_1).toNat * 4)).off + 2, none⟩ = some (.int .i64 ((rd_T89 x6_2 x8_1).f2.f0)) ∧ w'.cell? ⟨(ad239.add ((x8_1).toNat * 4)).block, (ad239.add ((x8_1).toNat * 4)).off + 3, none⟩ = some (.int .i64 ((rd_T89 x6_2 x8_1).f2.f1))) (ds := []) #[false, false, false, false, false, false, false, false] (by kernel_rfl) rfl rfl ⟨(blk_cell BK238.out 0).trans rfl, (blk_cell BK238.out 1).trans rfl, hx239_0, hx239_1, hx239_2, hx239_3⟩ (fun hHeld => ?_); refine with_tabW impl_search.tab11 impl_search.bits11 (fun HT_ HW_ => ?_)
                            generalize w35.drew = w36 at HO_6 HO_7 HO_41 BK238 HB HL239_0 HR239_0 hx239_0 hx239_1 hx239_2 hx239_3 hHeld ⊢
                            refine pure_ (i := 0) (N := some 47) (v := ?_) (a' := ?_) #[true, false, false, false, false, false, false, false] rfl rfl (any_of HT_.out (by kernel_rfl)) (fun _ _ _ h => h) (Or.inl ⟨by rfl, ?_⟩) ?_ ?_
                            rotate_left
                            · intro w'
                              go_simp
                              with_reducible rfl
                            rotate_left
                            · simp only [Act.put, List.setIfInBounds_toArray, List.set_cons_zero, List.set_cons_succ, i64_w, i32_w]
                              rfl
                            refine pure_ (i := 1) (N := some 48) (v := ?_) (a' := ?_) #[true, true, false, false, false, false, false, false] rfl rfl (any_of HT_.out (by kernel_rfl)) (fun _ _ _ h => h) (Or.inl ⟨by rfl, ?_⟩) ?_ ?_
                            rotate_left
                            · intro w'
                              go_simp
                              with_reducible rfl
                            rotate_left
                            · simp only [Act.put, List.setIfInBounds_toArray, List.set_cons_zero, List.set_cons_succ, i64_w, i32_w]
                              rfl
                            refine pure_ (i := 2) (N := some 49) (v := ?_) (a' := ?_) #[true, true, true, false, false, false, false, false] rfl rfl (any_of HT_.out (by kernel_rfl)) (fun _ _ _ h => h) (Or.inl ⟨by rfl, ?_⟩) ?_ ?_
                            rotate_left
                            · intro w'
                              go_simp
                              with_reducible rfl
                            rotate_left
                            · simp only [Act.put, List.setIfInBounds_toArray, List.set_cons_zero, List.set_cons_succ, i64_w, i32_w]
                              rfl
                            refine pure_ (i := 3) (N := some 50) (v := ?_) (a' := ?_) #[true, true, true, true, false, false, false, false] rfl rfl (any_of HT_.out (by kernel_rfl)) (fun _ _ _ h => h) (Or.inl ⟨by rfl, ?_⟩) ?_ ?_
                            rotate_left
                            · intro w'
                              go_simp
                              with_reducible rfl
                            rotate_left
                            · simp only [Act.put, List.setIfInBounds_toArray, List.set_cons_zero, List.set_cons_succ, i64_w, i32_w]
                              rfl
                            refine take_ (i := 4) (N := some 51) (v := ?_) (a' := ?_) #[true, true, true, true, true, false, false, false] rfl rfl (take_ofW HT_.out HW_.out (by kernel_rfl)) (fun _ _ _ h => h) (Or.inl ⟨by rfl, ?_⟩) hHeld ?_ ?_
                            rotate_left
                            · rintro w' ⟨s0, s1, s2, s3, s4, s5⟩
                              go_simp
                              with_reducible rfl
                            rotate_left
                            · simp only [Act.put, List.setIfInBounds_toArray, List.set_cons_zero, List.set_cons_succ, i64_w, i32_w]
                              rfl
                            refine take_ (i := 5) (N := some 52) (v := ?_) (a' := ?_) #[true, true, true, true, true, true, false, false] rfl rfl (take_ofW HT_.out HW_.out (by kernel_rfl)) (fun _ _ _ h => h) (Or.inl ⟨by rfl, ?_⟩) hHeld ?_ ?_
                            rotate_left
                            · rintro w' ⟨s0, s1, s2, s3, s4, s5⟩
                              go_simp
                              with_reducible rfl
                            rotate_left
                            · simp only [Act.put, List.setIfInBounds_toArray, List.set_cons_zero, List.set_cons_succ, i64_w, i32_w]
                              rfl
                            refine one_ (i := 6) (N := some 53) #[true, true, true, true, true, true, true, false] rfl rfl (one_of HT_.out (by kernel_rfl)) (by decide) (fun K hK => ?_)
                            refine goes_ Tryd.func85 (by kernel_rfl) rfl #[.slice A239_0 ((rd_T89 x6_2 x8_1).f0).length c239_0, .agg #[.int .i64 ((rd_T52 t234 x43_2).f0), .int .i64 ((rd_T52 t234 x43_2).f1)]] (by rfl) rfl rfl (by (try simp only [List.map_toArray, List.map_cons, List.map_nil]); first | done | rfl | (simp only [List.length_drop, List.length_take]; rfl)) ?_
                            with_reducible refine (impl_doubled.calls _ _ ((rd_T89 x6_2 x8_1).f0) ((rd_T52 t234 x43_2).f0) ((rd_T52 t234 x43_2).f1) t240 _ ?side1 ?side2 A29.out).mono ?_
                            (case side1 => repeat (first | exact (by repeat (first | (with_reducible exact HR239_0.out) | (with_reducible refine Kd.C_alloc ?_ _) | (with_reducible refine Kd.C_drewN ?_ _) | (with_reducible refine Kd.C_drew ?_) | exact HR239_0.out)) | (with_reducible refine Kd.C_alloc ?_ _) | (with_reducible refine Kd.C_drewN ?_ _) | (with_reducible refine Kd.C_drew ?_)))
                            (case side2 => exact HC239_0.out)
                            rintro e w38 ⟨v241, rfl, ho0, hb⟩
                            have HS2_ := (hb.cell (World.block_lt_of_cell? _ _ (hHeld.2.2.1))).trans (hHeld.2.2.1)
                            have HS3_ := (hb.cell (World.block_lt_of_cell? _ _ (hHeld.2.2.2.1))).trans (hHeld.2.2.2.1)
                            have HS4_ := (hb.cell (World.block_lt_of_cell? _ _ (hHeld.2.2.2.2.1))).trans (hHeld.2.2.2.2.1)
                            have HS5_ := (hb.cell (World.block_lt_of_cell? _ _ (hHeld.2.2.2.2.2))).trans (hHeld.2.2.2.2.2)
                            refine ⟨_, rfl, ?_⟩
                            have n0_ := Aside0.mk (Kd.N_elder' (by (with_reducible repeat (first | apply Kd.N_alloc | apply Kd.N_drewN | apply Kd.N_drew)); exact HO_6.out) (Kd.R_base ho0) hb)
                            have n1_ := Aside0.mk (MR.below (by (with_reducible repeat (first | apply MR.alloc | apply MR.drewN | apply MR.drew)); exact HO_7.out) hb)
                            have n2_ := Aside0.mk (Kd.R_below (by (with_reducible repeat (first | apply Kd.R_alloc | apply Kd.R_drewN | apply Kd.R_drew)); exact HO_41.out) hb)
                            have n3_ := Aside0.mk (Kd.V_elder' (by (with_reducible repeat (first | apply Kd.V_alloc | apply Kd.V_drewN | apply Kd.V_drew)); exact HL239_0.out) (Kd.R_base ho0) hb)
                            have n4_ := Aside0.mk (Kd.R_lower (Kd.R_newM (M := fun k_ => (w.heap.size ≤ k_)) ho0 (below_size (by repeat (first | (with_reducible first | exact HB.out | apply below_alloc | apply pw_below_drewN | apply below_drew1 | refine below_set ?_ GE238.out) | exact HB.out))) (fun k_ h_ => h_)) (below_size (by repeat (first | (with_reducible first | exact HB.out | apply below_alloc | apply pw_below_drewN | apply below_drew1 | refine below_set ?_ GE238.out) | exact HB.out))))
                            have n5_ := Aside0.mk (blk_below (g := gb238) (o := .cells #[.int .i64 ((rd_T52 t234 x43_2).f0), .int .i64 ((rd_T52 t234 x43_2).f1)] 52 (0, 0)) (by (with_reducible repeat (first | refine blk_drewN ?_ _ | refine blk_drew ?_ | refine blk_alloc ?_ _)); exact BK238.out) hb)
                            have n6_ := Aside0.mk (Kd.C_below (by repeat (first | (with_reducible exact HR239_0.out) | (with_reducible refine Kd.C_alloc ?_ _) | (with_reducible refine Kd.C_drewN ?_ _) | (with_reducible refine Kd.C_drew ?_) | exact HR239_0.out)) hb)
                            have n7_ := Aside0.mk (below_step (by repeat (first | (with_reducible first | exact HB.out | apply below_alloc | apply pw_below_drewN | apply below_drew1 | refine below_set ?_ GE238.out) | exact HB.out)) hb)
                            clear HO_6
                            clear HO_7
                            clear HO_41
                            clear HL239_0
                            clear BK238
                            clear HR239_0
                            clear HB
                            have HO_6 := n0_
                            have HO_7 := n1_
                            have HO_41 := n2_
                            have HL239_0 := n3_
                            have HO242 := n4_
                            have BK238 := n5_
                            have HR239_0 := n6_
                            have HB := n7_
                            clear n0_ n1_ n2_ n3_ n4_ n5_ n6_ n7_
                            (try clear hb)
                            (try clear hb2)
                            (try clear hk)
                            (try clear hi)
                            (try clear ho0)
                            refine hK.out _ _ ⟨(blk_cell BK238.out 0).trans rfl, (blk_cell BK238.out 1).trans rfl, HS2_, HS3_, HS4_, HS5_⟩ (fun hHeld => ?_)
                            clear hK K
                            refine norm_ (a' := ?_) ?_ ?_
                            rotate_left
                            · show Act.put _ (some 53) _ = _
                              simp only [Act.put, List.setIfInBounds_toArray, List.set_cons_zero, List.set_cons_succ, i64_w, i32_w]
                              rfl
                            refine pure_ (i := 7) (N := some 11) (v := ?_) (a' := ?_) #[true, true, true, true, true, true, true, true] rfl rfl (any_of HT_.out (by kernel_rfl)) (fun _ _ _ h => h) (Or.inl ⟨by rfl, ?_⟩) ?_ ?_
                            rotate_left
                            · intro w'
                              go_simp
                              with_reducible rfl
                            rotate_left
                            · simp only [Act.put, List.setIfInBounds_toArray, List.set_cons_zero, List.set_cons_succ, i64_w, i32_w]
                              rfl
                            refine done_ (done_of HT_.out (by kernel_rfl)) ?_
                            obtain ⟨Ao39, co39, eo39⟩ := Kd.R_slice HO242.out
                            subst eo39
                            try go_wp2_with (first | ((with_reducible refine gate_callee (f := 83) rfl ?_); refine goesL_ (some 55) rfl rfl Tryd.func83 (by kernel_rfl) rfl #[.slice Ao39 t240.length co39] rfl (by (try simp only [List.map_toArray, List.map_cons, List.map_nil]); first | done | rfl | (simp only [List.length_drop, List.length_take]; rfl)) ?_; (with_reducible refine (impl_heapsKey.calls k2 _ _ t240 t243 _ ?side1 ?side2 A30.out).mono ?_); (case side1 => repeat (first | exact (Kd.R_reads' HO242.out).2.2 | (with_reducible refine Kd.C_alloc ?_ _) | (with_reducible refine Kd.C_drewN ?_ _) | (with_reducible refine Kd.C_drew ?_))); (case side2 => exact (Kd.R_reads' HO242.out).2.1); rintro e w' ⟨rfl, ⟨nd, rfl⟩⟩; refine ⟨_, rfl, ?_⟩) | (at_lookup; refine wpList_lookup_own_bool _ rfl _ _ 90 rfl 9 4 ss_law Tryd.underlying90 Tryd.underlying4 (ss_zero _) gm x7_2.length (ssD x7_2) rfl HO_7.out.2 _ _ rfl (ss_key (seenHas.size A31.out)) ?_; intro cb hat; obtain rfl : cb = true := seenHas.at_ A31.out hat; clear hat))
                            go_roundg k2
                            case measure => have := HK1.out; have := HK2.out; omega
                            case rel => exact ⟨(x6_2), (x7_2), (wrap64 (x43_2 + 1)), (by first | rfl | (simp; done) | (simp [*]; done)), H', ⟨by have := HK1.out; have := HK2.out; omega⟩, ⟨by (with_reducible repeat (first | apply Kd.N_alloc | apply Kd.N_drewN | apply Kd.N_drew)); exact Kd.N_mono HO_6.out (fun _ hk => ⟨hk.1.1, ⟨hk.1.2.1, hk.1.2.2.1⟩⟩)⟩, ⟨by (with_reducible repeat (first | apply MR.alloc | apply MR.drewN | apply MR.drew)); exact HO_7.out⟩, ⟨by (with_reducible repeat (first | apply Kd.R_alloc | apply Kd.R_drewN | apply Kd.R_drew)); exact Kd.R_mono HO_41.out (fun _ hk => hk.1)⟩, ⟨by repeat (first | (with_reducible first | exact HB.out | apply below_alloc | apply pw_below_drewN | apply below_drew1 | refine below_set ?_ GE238.out) | exact HB.out)⟩⟩
                          · replace c32 := Bool.eq_false_iff.mpr c32
                            subst c32
                            have H1 : (if x7_2.length < 8796093022208 then (if x6_2.length < 2932031007402 then (impl_search.l1 is k2 (x6_2 ++ [(⟨t240, x8_1, (⟨(rd_T52 t234 x43_2).f0, (rd_T52 t234 x43_2).f1⟩ : S52)⟩ : S89)]) (x7_2 ++ [t243]) x8_1 t234 (t234.length : Int) (wrap64 (x43_2 + 1))) else (none)) else (none)) = some (r1, r2) := by rw [if_neg (show ¬ (false = true) by decide)] at H; exact H
                            clear H
                            have H := H1
                            clear H1
                            by_cases c41 : x7_2.length < 8796093022208
                            · rw [if_pos c41] at H
                              have LMc41 := Aside0.mk c41
                              clear c41
                              obtain ⟨y245, hy245⟩ : ∃ y_ : List ByteArray, y_ = (x7_2 ++ [t243]) := ⟨_, rfl⟩
                              replace H : (if x6_2.length < 2932031007402 then (impl_search.l1 is k2 (x6_2 ++ [(⟨t240, x8_1, (⟨(rd_T52 t234 x43_2).f0, (rd_T52 t234 x43_2).f1⟩ : S52)⟩ : S89)]) y245 x8_1 t234 (t234.length : Int) (wrap64 (x43_2 + 1))) else (none)) = some (r1, r2) := by first | (rw [hy245]; with_reducible exact H) | (have H2_ := (Option.bind_some _ _).symm.trans H; rw [hy245]; with_reducible exact H2_) | (have H2_ := (Option.bind_some _ _).symm.trans H; with_reducible exact H2_) | with_reducible exact H | (rw [hy245]; exact H) | exact H
                              have Ny245 := Aside0.mk hy245
                              clear hy245
                              by_cases c42 : x6_2.length < 2932031007402
                              · rw [if_pos c42] at H
                                have LMc42 := Aside0.mk c42
                                clear c42
                                obtain ⟨y248, hy248⟩ : ∃ y_ : List (S89), y_ = (x6_2 ++ [(⟨t240, x8_1, (⟨(rd_T52 t234 x43_2).f0, (rd_T52 t234 x43_2).f1⟩ : S52)⟩ : S89)]) := ⟨_, rfl⟩
                                replace H : (impl_search.l1 is k2 y248 y245 x8_1 t234 (t234.length : Int) (wrap64 (x43_2 + 1))) = some (r1, r2) := by first | (rw [hy248]; with_reducible exact H) | (have H2_ := (Option.bind_some _ _).symm.trans H; rw [hy248]; with_reducible exact H2_) | (have H2_ := (Option.bind_some _ _).symm.trans H; with_reducible exact H2_) | with_reducible exact H | (rw [hy248]; exact H) | exact H
                                have Ny248 := Aside0.mk hy248
                                clear hy248
                                have H' := Aside0.mk H
                                clear H
                                have p237 : 0 ≤ (x43_2 : Int) := of_decide_eq_true (by first | (with_reducible assumption) | assumption)
                                have q237 : x43_2 < (t234.length : Int) := of_decide_eq_true (by first | (with_reducible assumption) | assumption)
                                obtain ⟨ad237, e237, hx237_0, hx237_1⟩ := at_T52 (Kd.R_reads' HO_41.out).2.2 x43_2 p237 q237
                                cases e237
                                replace p237 := eq_true p237
                                replace q237 := eq_true q237
                                try go_wp2_with (first | ((with_reducible refine gate_dst (N := 10) rfl ?_); refine box_event ?hg (N := 10) ?hd (cs := #[.int .i64 0, .int .i64 0]) (t := 52) ?hr ?_; (case hd => rfl); (case hg => rfl); (case hr => first | (go_simp; done) | (go_simp; rfl)); intro gb238 hg w43 hbox hb; have n0_ := Aside0.mk (Kd.N_below (Kd.N_elderB (by (with_reducible repeat (first | apply Kd.N_alloc | apply Kd.N_drewN | apply Kd.N_drew)); exact HO_6.out) gb238 (Nat.le_of_eq hg.symm)) hb); have n1_ := Aside0.mk (MR.below (by (with_reducible repeat (first | apply MR.alloc | apply MR.drewN | apply MR.drew)); exact HO_7.out) hb); have n2_ := Aside0.mk (Kd.R_below (Kd.R_elderB (by (with_reducible repeat (first | apply Kd.R_alloc | apply Kd.R_drewN | apply Kd.R_drew)); exact HO_41.out) gb238 (Nat.le_of_eq hg.symm)) hb); have n3_ := Aside0.mk (below_step (by repeat (first | (with_reducible first | exact HB.out | apply below_alloc | apply pw_below_drewN | apply below_drew1) | exact HB.out)) hb); have n4_ := Aside0.mk (hbox); have n5_ := Aside0.mk ((by rw [hg]; exact (below_size (by repeat (first | (with_reducible first | exact HB.out | apply below_alloc | apply pw_below_drewN | apply below_drew1) | exact HB.out))) : w.heap.size ≤ gb238)); have n6_ := Aside0.mk ((by rw [hg]; exact (below_size (by repeat (first | (with_reducible first | exact HB.out | apply below_alloc | apply pw_below_drewN | apply below_drew1) | exact HB.out))) : w.heap.size ≤ gb238)); clear HO_6; clear HO_7; clear HO_41; clear HB; have HO_6 := n0_; have HO_7 := n1_; have HO_41 := n2_; have HB := n3_; have BK238 := n4_; have GW238 := n5_; have GE238 := n6_; clear n0_ n1_ n2_ n3_ n4_ n5_ n6_; clear hb hbox hg; have hcz44_0 : w43.cell? ⟨gb238, 0, none⟩ = some (.int .i64 0) := (blk_cell BK238.out 0).trans rfl; have hcz44_1 : w43.cell? ⟨gb238, 1, none⟩ = some (.int .i64 0) := (blk_cell BK238.out 1).trans rfl; have hfz44_0 := blk_frozen BK238.out 0; have hfz44_1 := blk_frozen BK238.out 1))
                                have n0_ : Aside0 (Kd.N k89 89 ((w43.setCell ⟨gb238, 0, none⟩ (.int .i64 ((rd_T52 t234 x43_2).f0))).setCell ⟨gb238, 1, none⟩ (.int .i64 ((rd_T52 t234 x43_2).f1))) w.heap.size (fun k_ => (w.heap.size ≤ k_) ∧ some k_ ≠ (sv gm).ownBlock ∧ some k_ ≠ (.slice (some ad237) t234.length co23 : Value).ownBlock ∧ k_ ≠ gb238) u6 x6_2) := ⟨by (with_reducible repeat (first | apply Kd.N_alloc | apply Kd.N_drewN | apply Kd.N_drew)); exact Kd.N_mono (Kd.N_far (p := ⟨gb238, 1, none⟩) (Kd.N_far (p := ⟨gb238, 0, none⟩) (Kd.N_mono HO_6.out (fun k_ hk => (⟨hk, hk.2⟩ : _ ∧ k_ ≠ gb238))) (fun _ hk => hk.2) (.int .i64 ((rd_T52 t234 x43_2).f0))) (fun _ hk => hk.2) (.int .i64 ((rd_T52 t234 x43_2).f1))) (fun _ hk => ⟨hk.1.1.1, ⟨hk.1.1.2.1, ⟨hk.1.1.2.2, hk.1.2⟩⟩⟩)⟩
                                have n1_ : Aside0 (MR gm ((w43.setCell ⟨gb238, 0, none⟩ (.int .i64 ((rd_T52 t234 x43_2).f0))).setCell ⟨gb238, 1, none⟩ (.int .i64 ((rd_T52 t234 x43_2).f1))) w.heap.size x7_2) := ⟨by (with_reducible repeat (first | apply MR.alloc | apply MR.drewN | apply MR.drew)); exact MR.far (MR.far HO_7.out (MR.ne2 HO_7.out BK238.out) 0 (.int .i64 ((rd_T52 t234 x43_2).f0))) (MR.ne2 HO_7.out BK238.out) 1 (.int .i64 ((rd_T52 t234 x43_2).f1))⟩
                                have n2_ : Aside0 (Kd.R k52 52 ((w43.setCell ⟨gb238, 0, none⟩ (.int .i64 ((rd_T52 t234 x43_2).f0))).setCell ⟨gb238, 1, none⟩ (.int .i64 ((rd_T52 t234 x43_2).f1))) w.heap.size (fun k_ => (w.heap.size ≤ k_) ∧ k_ ≠ gb238) (.slice (some ad237) t234.length co23) t234) := ⟨by (with_reducible repeat (first | apply Kd.R_alloc | apply Kd.R_drewN | apply Kd.R_drew)); exact Kd.R_mono (Kd.R_far (p := ⟨gb238, 1, none⟩) (Kd.R_far (p := ⟨gb238, 0, none⟩) (Kd.R_mono HO_41.out (fun k_ hk => (⟨hk, hk.2⟩ : _ ∧ k_ ≠ gb238))) (fun _ hk => hk.2) (.int .i64 ((rd_T52 t234 x43_2).f0))) (fun _ hk => hk.2) (.int .i64 ((rd_T52 t234 x43_2).f1))) (fun _ hk => ⟨hk.1.1, hk.1.2⟩)⟩
                                have n3_ : Aside0 (((w43.setCell ⟨gb238, 0, none⟩ (.int .i64 ((rd_T52 t234 x43_2).f0))).setCell ⟨gb238, 1, none⟩ (.int .i64 ((rd_T52 t234 x43_2).f1))).heap[gb238]? = some (.cells #[.int .i64 ((rd_T52 t234 x43_2).f0), .int .i64 ((rd_T52 t234 x43_2).f1)] 52 (0, 0))) := ⟨by (with_reducible repeat (first | refine blk_drewN ?_ _ | refine blk_drew ?_ | refine blk_alloc ?_ _)); refine blk_put (cs := #[.int .i64 ((rd_T52 t234 x43_2).f0), .int .i64 0]) ?_ 1 _ rfl; (with_reducible repeat (first | refine blk_drewN ?_ _ | refine blk_drew ?_ | refine blk_alloc ?_ _)); refine blk_put (cs := #[.int .i64 0, .int .i64 0]) ?_ 0 _ rfl; (with_reducible repeat (first | refine blk_drewN ?_ _ | refine blk_drew ?_ | refine blk_alloc ?_ _)); exact BK238.out⟩
                                have n4_ : Aside0 (Below w.heap.size w ((w43.setCell ⟨gb238, 0, none⟩ (.int .i64 ((rd_T52 t234 x43_2).f0))).setCell ⟨gb238, 1, none⟩ (.int .i64 ((rd_T52 t234 x43_2).f1)))) := ⟨by repeat (first | (with_reducible first | exact HB.out | apply below_alloc | apply pw_below_drewN | apply below_drew1 | refine below_set ?_ GE238.out) | exact HB.out)⟩
                                (try clear HO_6)
                                (try clear HO_7)
                                (try clear HO_41)
                                (try clear BK238)
                                (try clear HB)
                                generalize ((w43.setCell ⟨gb238, 0, none⟩ (.int .i64 ((rd_T52 t234 x43_2).f0))).setCell ⟨gb238, 1, none⟩ (.int .i64 ((rd_T52 t234 x43_2).f1))) = w45 at n0_ n1_ n2_ n3_ n4_ ⊢
                                have HO_6 := n0_
                                have HO_7 := n1_
                                have HO_41 := n2_
                                have BK238 := n3_
                                have HB := n4_
                                clear n0_ n1_ n2_ n3_ n4_
                                have n0_ := Aside0.mk (Kd.N_drew HO_6.out)
                                have n1_ := Aside0.mk (MR.drew HO_7.out)
                                have n2_ := Aside0.mk (Kd.R_drew HO_41.out)
                                have n3_ := Aside0.mk (blk_drew BK238.out)
                                have n4_ := Aside0.mk (below_drew1 HB.out)
                                clear HO_6
                                clear HO_7
                                clear HO_41
                                clear BK238
                                clear HB
                                have HO_6 := n0_
                                have HO_7 := n1_
                                have HO_41 := n2_
                                have BK238 := n3_
                                have HB := n4_
                                clear n0_ n1_ n2_ n3_ n4_
                                obtain ⟨Ao47, co47, eo47⟩ := Kd.N_slice HO_6.out
                                (first | subst eo47 | (injection eo47 with f1_ f2_ f3_; have f4_ := f1_.symm; have f5_ := f3_.symm; clear f1_ f2_ f3_; subst f4_; subst f5_))
                                have p239 : 0 ≤ (x8_1 : Int) := of_decide_eq_true (by first | (with_reducible assumption) | assumption)
                                have q239 : x8_1 < (x6_2.length : Int) := of_decide_eq_true (by first | (with_reducible assumption) | assumption)
                                obtain ⟨ad239, A239_0, c239_0, e239, hx239_0, hx239_1, hx239_2, hx239_3, hl239_0, hi239_0⟩ := at_T89 (Kd.N_reads' HO_6.out).2.2 x8_1 p239 q239
                                cases e239
                                obtain ⟨ce239, hce239, hMe239, hcc239⟩ := Kd.N_get HO_6.out z89 x8_1 p239 (by first | exact q239 | exact of_decide_eq_true (by first | (with_reducible assumption) | assumption) | (have e_ := (Kd.N_reads' HO_6.out).1; omega))
                                obtain ⟨ua239_0, uc239_0, rfl, ul239_0, ge239_0⟩ := k89_openF hMe239
                                have hv239_0 := hcc239 0 _ rfl
                                rw [Nat.add_zero] at hv239_0
                                replace hv239_0 := Option.some.inj (hv239_0.symm.trans hx239_0)
                                injection hv239_0 with hva_ hvn_ hvc_
                                rw [hva_] at ge239_0
                                rw [hvc_] at ul239_0
                                have HL239_0 := Aside0.mk (show Kd.V (Kd.int .i64) 3 _ w.heap.size _ _ ((rd_T89 x6_2 x8_1).f0) from Kd.V_mk ul239_0 ge239_0)
                                clear hva_ hvn_ hvc_ ge239_0 ul239_0
                                clear hcc239 hce239
                                have HR239_0 := Aside0.mk hi239_0
                                have HC239_0 := Aside0.mk hl239_0
                                clear hi239_0 hl239_0
                                replace p239 := eq_true p239
                                replace q239 := eq_true q239
                                refine start_ (n := 8) (S := fun w' => w'.cell? ⟨gb238, 0, none⟩ = some (.int .i64 ((rd_T52 t234 x43_2).f0)) ∧ w'.cell? ⟨gb238, 1, none⟩ = some (.int .i64 ((rd_T52 t234 x43_2).f1)) ∧ w'.cell? (ad239.add ((x8_1).toNat * 4)) = some (.slice A239_0 ((rd_T89 x6_2 x8_1).f0).length c239_0) ∧ w'.cell? ⟨(ad239.add ((x8_1).toNat * 4)).block, (ad239.add ((x8_1).toNat * 4)).off + 1, none⟩ = some (.int .i64 ((rd_T89 x6_2 x8_1).f1)) ∧ w'.cell? ⟨(ad239.add ((x8_1).toNat * 4)).block, (ad239.add ((x8_1).toNat * 4)).off + 2, none⟩ = some (.int .i64 ((rd_T89 x6_2 x8_1).f2.f0)) ∧ w'.cell? ⟨(ad239.add ((x8_1).toNat * 4)).block, (ad239.add ((x8_1).toNat * 4)).off + 3, none⟩ = some (.int .i64 ((rd_T89 x6_2 x8_1).f2.f1))) (ds := []) #[false, false, false, false, false, false, false, false] (by kernel_rfl) rfl rfl ⟨(blk_cell BK238.out 0).trans rfl, (blk_cell BK238.out 1).trans rfl, hx239_0, hx239_1, hx239_2, hx239_3⟩ (fun hHeld => ?_); refine with_tabW impl_search.tab11 impl_search.bits11 (fun HT_ HW_ => ?_)
                                generalize w45.drew = w46 at HO_6 HO_7 HO_41 BK238 HB HL239_0 HR239_0 hx239_0 hx239_1 hx239_2 hx239_3 hHeld ⊢
                                refine pure_ (i := 0) (N := some 47) (v := ?_) (a' := ?_) #[true, false, false, false, false, false, false, false] rfl rfl (any_of HT_.out (by kernel_rfl)) (fun _ _ _ h => h) (Or.inl ⟨by rfl, ?_⟩) ?_ ?_
                                rotate_left
                                · intro w'
                                  go_simp
                                  with_reducible rfl
                                rotate_left
                                · simp only [Act.put, List.setIfInBounds_toArray, List.set_cons_zero, List.set_cons_succ, i64_w, i32_w]
                                  rfl
                                refine pure_ (i := 1) (N := some 48) (v := ?_) (a' := ?_) #[true, true, false, false, false, false, false, false] rfl rfl (any_of HT_.out (by kernel_rfl)) (fun _ _ _ h => h) (Or.inl ⟨by rfl, ?_⟩) ?_ ?_
                                rotate_left
                                · intro w'
                                  go_simp
                                  with_reducible rfl
                                rotate_left
                                · simp only [Act.put, List.setIfInBounds_toArray, List.set_cons_zero, List.set_cons_succ, i64_w, i32_w]
                                  rfl
                                refine pure_ (i := 2) (N := some 49) (v := ?_) (a' := ?_) #[true, true, true, false, false, false, false, false] rfl rfl (any_of HT_.out (by kernel_rfl)) (fun _ _ _ h => h) (Or.inl ⟨by rfl, ?_⟩) ?_ ?_
                                rotate_left
                                · intro w'
                                  go_simp
                                  with_reducible rfl
                                rotate_left
                                · simp only [Act.put, List.setIfInBounds_toArray, List.set_cons_zero, List.set_cons_succ, i64_w, i32_w]
                                  rfl
                                refine pure_ (i := 3) (N := some 50) (v := ?_) (a' := ?_) #[true, true, true, true, false, false, false, false] rfl rfl (any_of HT_.out (by kernel_rfl)) (fun _ _ _ h => h) (Or.inl ⟨by rfl, ?_⟩) ?_ ?_
                                rotate_left
                                · intro w'
                                  go_simp
                                  with_reducible rfl
                                rotate_left
                                · simp only [Act.put, List.setIfInBounds_toArray, List.set_cons_zero, List.set_cons_succ, i64_w, i32_w]
                                  rfl
                                refine take_ (i := 4) (N := some 51) (v := ?_) (a' := ?_) #[true, true, true, true, true, false, false, false] rfl rfl (take_ofW HT_.out HW_.out (by kernel_rfl)) (fun _ _ _ h => h) (Or.inl ⟨by rfl, ?_⟩) hHeld ?_ ?_
                                rotate_left
                                · rintro w' ⟨s0, s1, s2, s3, s4, s5⟩
                                  go_simp
                                  with_reducible rfl
                                rotate_left
                                · simp only [Act.put, List.setIfInBounds_toArray, List.set_cons_zero, List.set_cons_succ, i64_w, i32_w]
                                  rfl
                                refine take_ (i := 5) (N := some 52) (v := ?_) (a' := ?_) #[true, true, true, true, true, true, false, false] rfl rfl (take_ofW HT_.out HW_.out (by kernel_rfl)) (fun _ _ _ h => h) (Or.inl ⟨by rfl, ?_⟩) hHeld ?_ ?_
                                rotate_left
                                · rintro w' ⟨s0, s1, s2, s3, s4, s5⟩
                                  go_simp
                                  with_reducible rfl
                                rotate_left
                                · simp only [Act.put, List.setIfInBounds_toArray, List.set_cons_zero, List.set_cons_succ, i64_w, i32_w]
                                  rfl
                                refine one_ (i := 6) (N := some 53) #[true, true, true, true, true, true, true, false] rfl rfl (one_of HT_.out (by kernel_rfl)) (by decide) (fun K hK => ?_)
                                refine goes_ Tryd.func85 (by kernel_rfl) rfl #[.slice A239_0 ((rd_T89 x6_2 x8_1).f0).length c239_0, .agg #[.int .i64 ((rd_T52 t234 x43_2).f0), .int .i64 ((rd_T52 t234 x43_2).f1)]] (by rfl) rfl rfl (by (try simp only [List.map_toArray, List.map_cons, List.map_nil]); first | done | rfl | (simp only [List.length_drop, List.length_take]; rfl)) ?_
                                with_reducible refine (impl_doubled.calls _ _ ((rd_T89 x6_2 x8_1).f0) ((rd_T52 t234 x43_2).f0) ((rd_T52 t234 x43_2).f1) t240 _ ?side1 ?side2 A29.out).mono ?_
                                (case side1 => repeat (first | exact (by repeat (first | (with_reducible exact HR239_0.out) | (with_reducible refine Kd.C_alloc ?_ _) | (with_reducible refine Kd.C_drewN ?_ _) | (with_reducible refine Kd.C_drew ?_) | exact HR239_0.out)) | (with_reducible refine Kd.C_alloc ?_ _) | (with_reducible refine Kd.C_drewN ?_ _) | (with_reducible refine Kd.C_drew ?_)))
                                (case side2 => exact HC239_0.out)
                                rintro e w48 ⟨v241, rfl, ho0, hb⟩
                                have HS2_ := (hb.cell (World.block_lt_of_cell? _ _ (hHeld.2.2.1))).trans (hHeld.2.2.1)
                                have HS3_ := (hb.cell (World.block_lt_of_cell? _ _ (hHeld.2.2.2.1))).trans (hHeld.2.2.2.1)
                                have HS4_ := (hb.cell (World.block_lt_of_cell? _ _ (hHeld.2.2.2.2.1))).trans (hHeld.2.2.2.2.1)
                                have HS5_ := (hb.cell (World.block_lt_of_cell? _ _ (hHeld.2.2.2.2.2))).trans (hHeld.2.2.2.2.2)
                                refine ⟨_, rfl, ?_⟩
                                have n0_ := Aside0.mk (Kd.N_elder' (by (with_reducible repeat (first | apply Kd.N_alloc | apply Kd.N_drewN | apply Kd.N_drew)); exact HO_6.out) (Kd.R_base ho0) hb)
                                have n1_ := Aside0.mk (MR.below (by (with_reducible repeat (first | apply MR.alloc | apply MR.drewN | apply MR.drew)); exact HO_7.out) hb)
                                have n2_ := Aside0.mk (Kd.R_below (by (with_reducible repeat (first | apply Kd.R_alloc | apply Kd.R_drewN | apply Kd.R_drew)); exact HO_41.out) hb)
                                have n3_ := Aside0.mk (Kd.V_elder' (by (with_reducible repeat (first | apply Kd.V_alloc | apply Kd.V_drewN | apply Kd.V_drew)); exact HL239_0.out) (Kd.R_base ho0) hb)
                                have n4_ := Aside0.mk (Kd.R_lower (Kd.R_newM (M := fun k_ => (w.heap.size ≤ k_)) ho0 (below_size (by repeat (first | (with_reducible first | exact HB.out | apply below_alloc | apply pw_below_drewN | apply below_drew1 | refine below_set ?_ GE238.out) | exact HB.out))) (fun k_ h_ => h_)) (below_size (by repeat (first | (with_reducible first | exact HB.out | apply below_alloc | apply pw_below_drewN | apply below_drew1 | refine below_set ?_ GE238.out) | exact HB.out))))
                                have n5_ := Aside0.mk (blk_below (g := gb238) (o := .cells #[.int .i64 ((rd_T52 t234 x43_2).f0), .int .i64 ((rd_T52 t234 x43_2).f1)] 52 (0, 0)) (by (with_reducible repeat (first | refine blk_drewN ?_ _ | refine blk_drew ?_ | refine blk_alloc ?_ _)); exact BK238.out) hb)
                                have n6_ := Aside0.mk (Kd.C_below (by repeat (first | (with_reducible exact HR239_0.out) | (with_reducible refine Kd.C_alloc ?_ _) | (with_reducible refine Kd.C_drewN ?_ _) | (with_reducible refine Kd.C_drew ?_) | exact HR239_0.out)) hb)
                                have n7_ := Aside0.mk (below_step (by repeat (first | (with_reducible first | exact HB.out | apply below_alloc | apply pw_below_drewN | apply below_drew1 | refine below_set ?_ GE238.out) | exact HB.out)) hb)
                                clear HO_6
                                clear HO_7
                                clear HO_41
                                clear HL239_0
                                clear BK238
                                clear HR239_0
                                clear HB
                                have HO_6 := n0_
                                have HO_7 := n1_
                                have HO_41 := n2_
                                have HL239_0 := n3_
                                have HO242 := n4_
                                have BK238 := n5_
                                have HR239_0 := n6_
                                have HB := n7_
                                clear n0_ n1_ n2_ n3_ n4_ n5_ n6_ n7_
                                (try clear hb)
                                (try clear hb2)
                                (try clear hk)
                                (try clear hi)
                                (try clear ho0)
                                refine hK.out _ _ ⟨(blk_cell BK238.out 0).trans rfl, (blk_cell BK238.out 1).trans rfl, HS2_, HS3_, HS4_, HS5_⟩ (fun hHeld => ?_)
                                clear hK K
                                refine norm_ (a' := ?_) ?_ ?_
                                rotate_left
                                · show Act.put _ (some 53) _ = _
                                  simp only [Act.put, List.setIfInBounds_toArray, List.set_cons_zero, List.set_cons_succ, i64_w, i32_w]
                                  rfl
                                refine pure_ (i := 7) (N := some 11) (v := ?_) (a' := ?_) #[true, true, true, true, true, true, true, true] rfl rfl (any_of HT_.out (by kernel_rfl)) (fun _ _ _ h => h) (Or.inl ⟨by rfl, ?_⟩) ?_ ?_
                                rotate_left
                                · intro w'
                                  go_simp
                                  with_reducible rfl
                                rotate_left
                                · simp only [Act.put, List.setIfInBounds_toArray, List.set_cons_zero, List.set_cons_succ, i64_w, i32_w]
                                  rfl
                                refine done_ (done_of HT_.out (by kernel_rfl)) ?_
                                obtain ⟨Ao49, co49, eo49⟩ := Kd.R_slice HO242.out
                                subst eo49
                                try go_wp2_with (first | ((with_reducible refine gate_callee (f := 83) rfl ?_); refine goesL_ (some 55) rfl rfl Tryd.func83 (by kernel_rfl) rfl #[.slice Ao49 t240.length co49] rfl (by (try simp only [List.map_toArray, List.map_cons, List.map_nil]); first | done | rfl | (simp only [List.length_drop, List.length_take]; rfl)) ?_; (with_reducible refine (impl_heapsKey.calls k2 _ _ t240 t243 _ ?side1 ?side2 A30.out).mono ?_); (case side1 => repeat (first | exact (Kd.R_reads' HO242.out).2.2 | (with_reducible refine Kd.C_alloc ?_ _) | (with_reducible refine Kd.C_drewN ?_ _) | (with_reducible refine Kd.C_drew ?_))); (case side2 => exact (Kd.R_reads' HO242.out).2.1); rintro e w' ⟨rfl, ⟨nd, rfl⟩⟩; refine ⟨_, rfl, ?_⟩) | (at_lookup; refine wpList_lookup_own_bool _ rfl _ _ 90 rfl 9 4 ss_law Tryd.underlying90 Tryd.underlying4 (ss_zero _) gm x7_2.length (ssD x7_2) rfl HO_7.out.2 _ _ rfl (ss_key (seenHas.size A31.out)) ?_; intro cb hat; obtain rfl : cb = false := seenHas.at_ A31.out hat; clear hat) | (at_mapUpdate; refine wpList_mapUpdate_own _ rfl _ _ _ 90 rfl 9 4 ss_law Tryd.underlying90 _ gm x7_2.length (ssD x7_2) rfl HO_7.out.2 (seenHas.room A31.out) _ _ _ rfl rfl (ss_key (seenHas.size A31.out)) _ [] (plainElem_bool Tryd.underlying4 true) ?_; intro w51 hown hg; replace hg : World.grownBy _ w51 (sv gm).ownBlock := hg; have hmr := MR.like HO_7.out hg rfl; have ho := MR.next HO_7.out hown; rw [← Ny245.out] at ho; have hb := below_grown (by repeat (first | (with_reducible first | exact HB.out | apply below_alloc | apply pw_below_drewN | apply below_drew1 | refine below_set ?_ GE238.out) | exact HB.out)) hg HO_7.out.1; clear hown; have n0_ := Aside0.mk (Kd.N_afterv (ok := (fun k_ => (w.heap.size ≤ k_) ∧ some k_ ≠ (.slice (some ad237) t234.length co23 : Value).ownBlock ∧ some k_ ≠ (.slice Ao49 t240.length co49 : Value).ownBlock ∧ k_ ≠ gb238)) (by (with_reducible repeat (first | apply Kd.N_alloc | apply Kd.N_drewN | apply Kd.N_drew)); exact Kd.N_mono HO_6.out (fun _ hk => ⟨⟨hk.1.1, ⟨hk.1.2.2.1, ⟨hk.2, hk.1.2.2.2⟩⟩⟩, hk.1.2.1⟩)) hg (MR.hat _)); have n1_ := Aside0.mk (MR.overR (by (with_reducible repeat (first | apply Kd.R_alloc | apply Kd.R_drewN | apply Kd.R_drew)); exact HO_41.out) rfl hmr hg); have n2_ := Aside0.mk (blk_grown (g := gb238) (o := .cells #[.int .i64 ((rd_T52 t234 x43_2).f0), .int .i64 ((rd_T52 t234 x43_2).f1)] 52 (0, 0)) (by (with_reducible repeat (first | refine blk_drewN ?_ _ | refine blk_drew ?_ | refine blk_alloc ?_ _)); exact BK238.out) hg (MR.ne HO_7.out BK238.out)); have n3_ := Aside0.mk (Kd.V_afterv (ok := (fun k_ => (w.heap.size ≤ k_) ∧ some k_ ≠ (.slice (some ad239) x6_2.length co47 : Value).ownBlock ∧ some k_ ≠ (.slice (some ad237) t234.length co23 : Value).ownBlock ∧ some k_ ≠ (.slice Ao49 t240.length co49 : Value).ownBlock ∧ k_ ≠ gb238)) (by (with_reducible repeat (first | apply Kd.V_alloc | apply Kd.V_drewN | apply Kd.V_drew)); exact Kd.V_mono HL239_0.out (fun _ hk => ⟨⟨hk.1.1.1, ⟨hk.1.2, ⟨hk.1.1.2.2.1, ⟨hk.2, hk.1.1.2.2.2⟩⟩⟩⟩, hk.1.1.2.1⟩)) hg (MR.hat _)); have n4_ := Aside0.mk (MR.overR (by (with_reducible repeat (first | apply Kd.R_alloc | apply Kd.R_drewN | apply Kd.R_drew)); exact HO242.out) rfl hmr hg); have n5_ := Aside0.mk (hb); have n6_ := Aside0.mk (ho); clear HO_6; clear HO_41; clear BK238; clear HL239_0; clear HO242; clear HB; clear HO_7; have HO_6 := n0_; have HO_41 := n1_; have BK238 := n2_; have HL239_0 := n3_; have HO242 := n4_; have HB := n5_; have HO247 := n6_; clear n0_ n1_ n2_ n3_ n4_ n5_ n6_; clear ho hb hg hmr; have hcz52_0 : w51.cell? ⟨gb238, 0, none⟩ = some (.int .i64 ((rd_T52 t234 x43_2).f0)) := (blk_cell BK238.out 0).trans rfl; have hcz52_1 : w51.cell? ⟨gb238, 1, none⟩ = some (.int .i64 ((rd_T52 t234 x43_2).f1)) := (blk_cell BK238.out 1).trans rfl; have hfz52_0 := blk_frozen BK238.out 0; have hfz52_1 := blk_frozen BK238.out 1) | ((with_reducible refine gate_builtin (b := .append) (xs := #[.tmp 62, .tmp 67]) rfl ?_); at_builtin; refine Kd.N_append k89 (w0 := w) w.heap.size rfl (.tmp 62) (.tmp 67) 64 89 (.agg #[(.slice none 0 0), (.int .i64 0), (.int .i64 0), (.int .i64 0)]) 48 rfl Tryd.underlying64 info89 rfl (by decide) (by omega) (.slice (some ad239) x6_2.length co47) x6_2 (⟨t240, x8_1, (⟨(rd_T52 t234 x43_2).f0, (rd_T52 t234 x43_2).f1⟩ : S52)⟩ : S89) [.slice Ao49 t240.length co49, .int .i64 x8_1, .int .i64 ((rd_T52 t234 x43_2).f0), .int .i64 ((rd_T52 t234 x43_2).f1)] (fun k_ => (w.heap.size ≤ k_) ∧ some k_ ≠ (.slice (some ad237) t234.length co23 : Value).ownBlock ∧ some k_ ≠ (sv gm).ownBlock ∧ k_ ≠ gb238) (fun k_ => ((fun k_ => (w.heap.size ≤ k_) ∧ some k_ ≠ (.slice (some ad237) t234.length co23 : Value).ownBlock ∧ some k_ ≠ (sv gm).ownBlock ∧ k_ ≠ gb238)) k_ ∧ some k_ ≠ (.slice (some ad239) x6_2.length co47 : Value).ownBlock) rfl rfl ?aP (fun _ hk => hk) ?aF ?aO ?aB ?aS ?aL ?_; (case aP => exact (k89_mkF _ _ (⟨t240, x8_1, (⟨(rd_T52 t234 x43_2).f0, (rd_T52 t234 x43_2).f1⟩ : S52)⟩ : S89) (Kd.R_reads' (Kd.R_mono (ok' := (fun k_ => ((fun k_ => (w.heap.size ≤ k_) ∧ some k_ ≠ (.slice (some ad237) t234.length co23 : Value).ownBlock ∧ some k_ ≠ (sv gm).ownBlock ∧ k_ ≠ gb238)) k_ ∧ some k_ ≠ (.slice (some ad239) x6_2.length co47 : Value).ownBlock)) (Kd.R_types (Kd.R_apart' (MR.apart (Kd.R_apart' (HO242.out) (Kd.R_typed HO_41.out) (by decide)) rfl HO247.out) (Kd.N_typed HO_6.out) (by decide)) BK238.out (by decide)) (fun k_ hk => ⟨⟨hk.1.1.1.1.1, ⟨hk.1.1.1.2, ⟨hk.1.1.2, hk.2⟩⟩⟩, hk.1.2⟩))).2.1 (Kd.R_F (Kd.R_mono (ok' := (fun k_ => ((fun k_ => (w.heap.size ≤ k_) ∧ some k_ ≠ (.slice (some ad237) t234.length co23 : Value).ownBlock ∧ some k_ ≠ (sv gm).ownBlock ∧ k_ ≠ gb238)) k_ ∧ some k_ ≠ (.slice (some ad239) x6_2.length co47 : Value).ownBlock)) (Kd.R_types (Kd.R_apart' (MR.apart (Kd.R_apart' (HO242.out) (Kd.R_typed HO_41.out) (by decide)) rfl HO247.out) (Kd.N_typed HO_6.out) (by decide)) BK238.out (by decide)) (fun k_ hk => ⟨⟨hk.1.1.1.1.1, ⟨hk.1.1.1.2, ⟨hk.1.1.2, hk.2⟩⟩⟩, hk.1.2⟩))))); (case aB => exact (by repeat (first | (with_reducible first | exact HB.out | apply below_alloc | apply pw_below_drewN | apply below_drew1 | refine below_set ?_ GE238.out) | exact HB.out))); (case aF => exact (fun k_ hk => ⟨(Nat.le_trans (below_size (by repeat (first | (with_reducible first | exact HB.out | apply below_alloc | apply pw_below_drewN | apply below_drew1 | refine below_set ?_ GE238.out) | exact HB.out))) hk), Kd.fresh' (Kd.R_lt (by (with_reducible repeat (first | apply Kd.R_alloc | apply Kd.R_drewN | apply Kd.R_drew)); exact HO_41.out)) k_ hk, Kd.fresh' (MR.lt (by (with_reducible repeat (first | apply MR.alloc | apply MR.drewN | apply MR.drew)); exact HO247.out)) k_ hk, Kd.freshB (g := gb238) (o := .cells #[.int .i64 ((rd_T52 t234 x43_2).f0), .int .i64 ((rd_T52 t234 x43_2).f1)] 52 (0, 0)) (by (with_reducible repeat (first | refine blk_drewN ?_ _ | refine blk_drew ?_ | refine blk_alloc ?_ _)); exact BK238.out) k_ hk⟩)); (case aO => exact (by (with_reducible repeat (first | apply Kd.N_alloc | apply Kd.N_drewN | apply Kd.N_drew)); exact Kd.N_mono HO_6.out (fun _ hk => ⟨hk.1.1, ⟨hk.1.2.1, ⟨hk.2, hk.1.2.2.2⟩⟩⟩))); (case aS => exact (below_size (by repeat (first | (with_reducible first | exact HB.out | apply below_alloc | apply pw_below_drewN | apply below_drew1 | refine below_set ?_ GE238.out) | exact HB.out)))); (case aL => have := LMc42.out; omega); intro v249 w53 ho hb hg hat; rw [← Ny248.out] at ho; have n0_ := Aside0.mk (Kd.R_over' (by (with_reducible repeat (first | apply Kd.R_alloc | apply Kd.R_drewN | apply Kd.R_drew)); exact HO_41.out) (Kd.N_typed (by (with_reducible repeat (first | apply Kd.N_alloc | apply Kd.N_drewN | apply Kd.N_drew)); exact HO_6.out)) (by decide) hg); have n1_ := Aside0.mk (blk_grown (g := gb238) (o := .cells #[.int .i64 ((rd_T52 t234 x43_2).f0), .int .i64 ((rd_T52 t234 x43_2).f1)] 52 (0, 0)) (by (with_reducible repeat (first | refine blk_drewN ?_ _ | refine blk_drew ?_ | refine blk_alloc ?_ _)); exact BK238.out) hg (Kd.N_ne HO_6.out BK238.out (by decide))); have n2_ := Aside0.mk (Kd.V_afterv (ok := (fun k_ => (w.heap.size ≤ k_) ∧ some k_ ≠ (.slice (some ad237) t234.length co23 : Value).ownBlock ∧ some k_ ≠ (.slice Ao49 t240.length co49 : Value).ownBlock ∧ some k_ ≠ (sv gm).ownBlock ∧ k_ ≠ gb238)) (by (with_reducible repeat (first | apply Kd.V_alloc | apply Kd.V_drewN | apply Kd.V_drew)); exact Kd.V_mono HL239_0.out (fun _ hk => ⟨⟨hk.1.1, ⟨hk.1.2.2.1, ⟨hk.1.2.2.2.1, ⟨hk.2, hk.1.2.2.2.2⟩⟩⟩⟩, hk.1.2.1⟩)) hg hat); have n3_ := Aside0.mk (MR.overN (by (with_reducible repeat (first | apply MR.alloc | apply MR.drewN | apply MR.drew)); exact HO247.out) (by (with_reducible repeat (first | apply Kd.N_alloc | apply Kd.N_drewN | apply Kd.N_drew)); exact HO_6.out) hg); have n4_ := Aside0.mk (hb); have n5_ := Aside0.mk (ho); clear HO_41; clear BK238; clear HL239_0; clear HO247; clear HB; clear HO_6; clear HO242; have HO_41 := n0_; have BK238 := n1_; have HL239_0 := n2_; have HO247 := n3_; have HB := n4_; have HO250 := n5_; clear n0_ n1_ n2_ n3_ n4_ n5_; clear ho hb hg hat))
                                go_roundg k2
                                case measure => have := HK1.out; have := HK2.out; omega
                                case rel => exact ⟨(y248), (y245), (wrap64 (x43_2 + 1)), (by first | rfl | (simp; done) | (simp [*]; done)), H', ⟨by have := HK1.out; have := HK2.out; omega⟩, ⟨by (with_reducible repeat (first | apply Kd.N_alloc | apply Kd.N_drewN | apply Kd.N_drew)); exact Kd.N_mono HO250.out (fun _ hk => ⟨hk.1, ⟨hk.2.2.1, hk.2.1⟩⟩)⟩, ⟨by (with_reducible repeat (first | apply MR.alloc | apply MR.drewN | apply MR.drew)); exact HO247.out⟩, ⟨by (with_reducible repeat (first | apply Kd.R_alloc | apply Kd.R_drewN | apply Kd.R_drew)); exact Kd.R_mono HO_41.out (fun _ hk => hk.1)⟩, ⟨by repeat (first | (with_reducible first | exact HB.out | apply below_alloc | apply pw_below_drewN | apply below_drew1 | refine below_set ?_ GE238.out) | exact HB.out)⟩⟩
                              · rw [if_neg c42] at H
                                exact absurd H (by simp)
                            · rw [if_neg c41] at H
                              exact absurd H (by simp)
                        · rw [if_neg c28] at H
                          exact absurd H (by simp)
                      · rw [if_neg c27] at H
                        exact absurd H (by simp)
                    · rw [if_neg c26] at H
                      exact absurd H (by simp)
                  · rw [if_neg c25] at H
                    exact absurd H (by simp)
                · rw [if_neg c24] at H
                  have c24b0 : decide (x43_2 < (t234.length : Int)) = false := decide_eq_false c24
                  clear c24
                  have H' := Aside0.mk H
                  clear H
                  go_wp2
                  go_roundg k2
                  case measure => have := HK1.out; have := HK2.out; omega
                  case rel => exact ⟨(x6_2), (x7_2), (wrap64 (x8_1 + 1)), (by first | rfl | (simp; done) | (simp [*]; done)), H', ⟨by have := HK1.out; have := HK2.out; omega⟩, ⟨by (with_reducible repeat (first | apply Kd.N_alloc | apply Kd.N_drewN | apply Kd.N_drew)); exact Kd.N_mono HO_6.out (fun _ hk => ⟨hk.1, hk.2.1⟩)⟩, ⟨by (with_reducible repeat (first | apply MR.alloc | apply MR.drewN | apply MR.drew)); exact HO_7.out⟩, ⟨by repeat (first | (with_reducible first | exact HB.out | apply below_alloc | apply pw_below_drewN | apply below_drew1) | exact HB.out)⟩⟩
        · rw [if_neg c14] at H
          exact absurd H (by simp)
      · rw [if_neg c13] at H
        have c13b0 : decide (x8_1 < (x6_1.length : Int)) = false := decide_eq_false c13
        clear c13
        simp only [Option.some.injEq, Prod.mk.injEq] at H
        obtain ⟨rfl, rfl⟩ := H
        obtain ⟨Ao54, co54, eo54⟩ := Kd.N_slice HO_6.out
        subst eo54
        go_wp2
        go_ret2
        exact ⟨_, by first | rfl | (simp [errW_none, errW_some] <;> rfl) | (simp [*, errW_none, errW_some] <;> rfl), by (with_reducible repeat (first | apply Kd.N_alloc | apply Kd.N_drewN | apply Kd.N_drew)); exact Kd.N_mono HO_6.out (fun _ hk => hk.1), by repeat (first | (with_reducible first | exact HB.out | apply below_alloc | apply pw_below_drewN | apply below_drew1) | exact HB.out)⟩

/-! ### impl_search_impl_CountReached_1: function 54, by hand -/
def impl_search_impl_CountReached_1.f (k : Nat) (l0 : List Int) (_ : Unit) : Option ((List (S89)) × Int) := impl_search.f (fun _ _ => some false) k l0
theorem impl_search_impl_CountReached_1.mono : ∀ l0 u k, LeO (impl_search_impl_CountReached_1.f k l0 u) (impl_search_impl_CountReached_1.f (k + 1) l0 u) := fun l0 _ k => impl_search.mono _ (fun _ _ => LeO.refl _) l0 k
set_option maxHeartbeats 1000000 in
theorem impl_search_impl_CountReached_1.lit (A : Option Addr) (n c : Nat) (W : World) : Calls Tryd.prog 55 #[.slice A n c] W fun e w' => e = .returned (.bool false) ∧ Below W.heap.size W w' := by
  go_enter Tryd.func55, Tryd.ntmps55
  go_wp2
  go_ret
  exact ⟨rfl, Below.refl _ _⟩
theorem impl_search_impl_CountReached_1.calls (k : Nat) (A0 : Option Addr) (c0 : Nat) (l0 : List Int) (a1 : Unit) (r1 : List (S89)) (r2 : Int) (w : World) (hr0 : Kd.C (Kd.int .i64) w A0 l0.length l0) (hc0 : l0.length ≤ c0) (h : impl_search_impl_CountReached_1.f k l0 a1 = some (r1, r2)) :
    Calls Tryd.prog 54 #[.slice A0 l0.length c0, .func (.func 55) #[] #[]] w fun e w' => ∃ v0_ : Value, e = .returned (.tuple #[v0_, .int .i64 r2]) ∧ Kd.N k89 89 w' w.heap.size (fun k_ => (w.heap.size ≤ k_)) v0_ r1 ∧ Below w.heap.size w w' :=
  impl_search.calls_p (fun _ _ => some false) 55 #[] (enters_of Tryd.func55 (by kernel_rfl) rfl) w (fun k A c l r W hB hC hc hr => by obtain rfl := Option.some.inj hr; exact impl_search_impl_CountReached_1.lit A l.length c W) k A0 c0 l0 r1 r2 hr0 hc0 h

end Go.Proofs.YtdlalgciieickaaDoor.PFnExactFewestToBecome
