-- Written by hprint.py (a program of this session's) over the kit's print.py. Lean checks it.
import Derived.Test.YtcdlflmeimbdaaaPFnExactHeapsBeforex0
import Derived.Test.YtcdlflmeimbdaaaPFnExactHeapsBeforex1
import Derived.Test.YtcdlflmeimbdaaaPFnExactHeapsBeforex4
namespace Go.Proofs.Ytcdlflmeimbdaaa.PFnExactHeapsBefore
open Go.RowKit Go.Proofs.YtcdlflmeimbdaaaW.PrintWords Go.Proofs.YtcdlflmeimbdaaaW.PrintLast Go.Proofs.YtcdlflmeimbdaaaW.PrintMore
attribute [local go_sem] max2_int min2_int max_two min_two max_three min_three max_four min_four   -- for this text's walks alone
set_option linter.unusedVariables false
set_option linter.unusedSimpArgs false

/-! ### impl_HeapsBefore: function 6, by hand -/
/-- Lexicographic comparison. -/
def hb.cmp : List Int → List Int → Int
  | [], [] => 0
  | [], _ :: _ => -1
  | _ :: _, [] => 1
  | x :: xs, y :: ys => if x < y then -1 else if x > y then 1 else hb.cmp xs ys
theorem hb.Compare_now (a b : Int) : cmp_Compare_int.f a b = some (if a < b then -1 else if a > b then 1 else 0) := by
  simp only [cmp_Compare_int.f, cmp_isNaN_int.f, Option.bind_some, bne_self_eq_false, Bool.false_eq_true, if_false]
  by_cases h1 : a < b
  · simp [h1]
  · by_cases h2 : a > b <;> simp [h1, h2]
theorem hb.rd_at (done : List Int) (x : Int) (xs : List Int) : rd (done ++ x :: xs) (done.length : Int) = x := by simp [rd]
theorem hb.cmp_l0 : ∀ (tl db da tb : List Int), da.length = db.length → ((da ++ tl).length : Int) ≤ 9223372036854775807 →
    ∃ k, slices_Compare_int_int.l0 k (da ++ tl) (db ++ tb) (da ++ tl) ((da ++ tl).length : Int) (da.length : Int) = some (hb.cmp tl tb) := by
  intro tl
  induction tl with
  | nil =>
    intro db da tb hl hB_
    refine ⟨1, ?_⟩
    simp only [slices_Compare_int_int.l0]
    rw [if_neg (by simp)]
    cases tb with
    | nil => rw [if_neg (by simp; omega)]; rfl
    | cons y ys => rw [if_pos (by simp; omega)]; rfl
  | cons x xs ih =>
    intro db da tb hl hB_
    cases tb with
    | nil =>
      refine ⟨1, ?_⟩
      simp only [slices_Compare_int_int.l0]
      rw [if_pos (by simp; omega), if_pos (by omega), if_pos (by simp; omega), if_pos (by simp; omega)]
      rfl
    | cons y ys =>
      have hB' : (da.length : Int) + (xs.length + 1) ≤ 9223372036854775807 := by simpa using hB_
      obtain ⟨k, hk⟩ := ih (db ++ [y]) (da ++ [x]) ys (by simp; omega) (by simp; omega)
      refine ⟨k + 1, ?_⟩
      simp only [slices_Compare_int_int.l0]
      rw [if_pos (by simp; omega), if_pos (by omega), if_pos (by simp; omega), if_neg (by simp; omega), if_pos (by simp; omega), hb.rd_at, hl, hb.rd_at, hb.Compare_now]
      simp only [Option.bind_some]
      have hw : wrap64 ((db.length : Int) + 1) = ((da ++ [x]).length : Int) := by simp; unfold wrap64; omega
      by_cases h1 : x < y
      · rw [if_pos h1, if_neg (by omega)]; simp [hb.cmp, h1]
      · rw [if_neg h1]
        by_cases h2 : x > y
        · rw [if_pos h2, if_neg (by omega)]; simp [hb.cmp, h1, h2]
        · rw [if_neg h2, if_pos rfl, hw]
          simp only [hb.cmp, if_neg h1, if_neg h2]
          simpa using hk
theorem hb.cmp_ev (a b : List Int) (ha : a.length ≤ 9223372036854775807) : ∃ k, slices_Compare_int_int.f k a b = some (hb.cmp a b) := by
  have := hb.cmp_l0 a [] [] b rfl (by simp; omega)
  simpa [slices_Compare_int_int.f] using this
theorem hb.cmp_self : ∀ a, hb.cmp a a = 0
  | [] => rfl
  | x :: xs => by simp [hb.cmp, hb.cmp_self xs]
theorem hb.cmp_trans : ∀ a b c, hb.cmp a b < 0 → hb.cmp b c < 0 → hb.cmp a c < 0
  | [], [], _, h, _ => by simp [hb.cmp] at h
  | [], _ :: _, [], _, h => by simp [hb.cmp] at h
  | [], _ :: _, _ :: _, _, _ => by simp [hb.cmp]
  | _ :: _, [], _, h, _ => by simp [hb.cmp] at h
  | _ :: _, _ :: _, [], _, h => by simp [hb.cmp] at h
  | x :: xs, y :: ys, z :: zs, h1, h2 => by
    have ih := hb.cmp_trans xs ys zs
    simp only [hb.cmp] at h1 h2 ⊢
    repeat' split at h1
    all_goals repeat' split at h2
    all_goals repeat' split
    all_goals first | omega | exact ih h1 h2
theorem hb.cmp_ntrans : ∀ a b c, ¬ hb.cmp a b < 0 → ¬ hb.cmp b c < 0 → ¬ hb.cmp a c < 0
  | [], [], _, _, h => h
  | [], _ :: _, _, h, _ => by simp [hb.cmp] at h
  | _ :: _, _, [], _, _ => by simp [hb.cmp]
  | _ :: _, [], _ :: _, _, h => by simp [hb.cmp] at h
  | x :: xs, y :: ys, z :: zs, h1, h2 => by
    have ih := hb.cmp_ntrans xs ys zs
    simp only [hb.cmp] at h1 h2 ⊢
    repeat' split at h1
    all_goals repeat' split at h2
    all_goals repeat' split
    all_goals first | omega | exact ih h1 h2
/-- The element at a place of the row (or an empty slice). -/
def hb.enc (inner : List Value) (i : Nat) : Value := inner.getD i (.slice none 0 0)
def hb.cf (l : List (List Int)) (i k : Nat) : Int := hb.cmp (l.getD i []) (l.getD k [])
theorem hb.swo (l : List (List Int)) : Go.Sort.SWO (ltOf (hb.cf l)) where
  irrefl x := by simp [ltOf, hb.cf, hb.cmp_self]
  trans x y z h1 h2 := by
    simp only [ltOf, hb.cf] at *
    exact decide_eq_true (hb.cmp_trans _ _ _ (of_decide_eq_true h1) (of_decide_eq_true h2))
  ntrans x y z h1 h2 := by
    simp only [ltOf, hb.cf] at *
    exact decide_eq_false (hb.cmp_ntrans _ _ _ (of_decide_eq_false h1) (of_decide_eq_false h2))
/-- The order that the sort finds. -/
def hb.ord (l : List (List Int)) : List Nat := (Go.Sort.insertionSort (ltOf (hb.cf l)) (List.range l.length).toArray 0 (List.range l.length).toArray.size).toList
/-- The sorted rows. -/
def hb.sorted (l : List (List Int)) : List (List Int) := (hb.ord l).map (fun i => l.getD i [])
theorem hb.ord_perm (l : List (List Int)) : (hb.ord l).Perm (List.range l.length) := by
  have h := (Go.Sort.insertionSort_holds (hb.swo l) (List.range l.length).toArray 0 (List.range l.length).toArray.size (Nat.zero_le _) (Nat.le_refl _)).1
  have h2 := h.2.2
  have h3 := h.1
  unfold hb.ord
  generalize Go.Sort.insertionSort (ltOf (hb.cf l)) (List.range l.length).toArray 0 (List.range l.length).toArray.size = D at *
  have h4 : D.size = l.length := by simpa using h3
  have h5 : D.toList.take l.length = D.toList := List.take_of_length_le (by simp [h4])
  simpa [h4, h5] using h2
theorem hb.ord_sorted (l : List (List Int)) : (hb.ord l).Pairwise (fun i k => ¬ hb.cmp (l.getD k []) (l.getD i []) < 0) := by
  have h := (Go.Sort.insertionSort_holds (hb.swo l) (List.range l.length).toArray 0 (List.range l.length).toArray.size (Nat.zero_le _) (Nat.le_refl _))
  have h1 := h.1.1
  have h2 := h.2
  unfold hb.ord
  generalize Go.Sort.insertionSort (ltOf (hb.cf l)) (List.range l.length).toArray 0 (List.range l.length).toArray.size = D at *
  rw [List.pairwise_iff_getElem]
  intro i j hi hj hij
  have := h2 i j (Nat.zero_le _) hij (by simp at hj; omega)
  simp only [ltOf, hb.cf, decide_eq_false_iff_not] at this
  simp at hi hj
  rw [getElem!_pos D i hi, getElem!_pos D j hj] at this
  simpa using this
set_option maxHeartbeats 2000000 in
theorem hb.ins0 (W : World) : Calls Try.prog 34 #[.slice none 0 0, .int .i64 0, .int .i64 0, .func (.func 19) #[] #[]] W fun e w' => e = .returned (.tuple #[]) ∧ w' = W := by
  go_enter Try.func34, Try.ntmps34
  go_wp2
  refine wp_loop_rounds 1 ?_
  rw [rounds_succ]
  go_wp2
  (first | go_end0 | ((try simp only [Exit.inBlock, Exit.then]); refine bodyPost_ret (results_none rfl _ _ _) rfl ?_))
  exact ⟨rfl, rfl⟩
set_option maxHeartbeats 2000000 in
theorem hb.pdq0 (lim : Int) (W : World) : Calls Try.prog 29 #[.slice none 0 0, .int .i64 0, .int .i64 0, .int .i64 lim, .func (.func 19) #[] #[]] W fun e w' => e = .returned (.tuple #[]) ∧ w' = W := by
  have hS := hb.ins0 W
  go_enter Try.func29, Try.ntmps29
  go_wp2
  refine wp_loop_rounds 1 ?_
  rw [rounds_succ]
  go_wp2_with (go_at_call 34; refine hS.mono ?_; rintro e w' ⟨rfl, rfl⟩)
  refine bodyPost_ret (results_none rfl _ _ _) rfl ?_
  exact ⟨rfl, rfl⟩
set_option maxHeartbeats 2000000 in
theorem hb.sort0 (W : World) (hL : Calls Try.prog 30 #[.int .u64 0] W fun e w' => (∃ l : Int, e = .returned (.int .i64 l)) ∧ w' = W) : Calls Try.prog 18 #[.slice none 0 0, .func (.func 19) #[] #[]] W fun e w' => e = .returned (.tuple #[]) ∧ w' = W := by
  have hS := fun lim => hb.pdq0 lim W
  go_enter Try.func18, Try.ntmps18
  go_wp2_with (first
    | (go_at_call 30; refine hL.mono ?_; rintro e w' ⟨⟨r, rfl⟩, rfl⟩)
    | (go_at_call 29; refine (hS _).mono ?_; rintro e w' ⟨rfl, rfl⟩))
  go_end0
  exact ⟨rfl, rfl⟩
theorem hb.below_put {α : Type} [Inhabited α] {B : Nat} {w W : World} (h : Below B w W) {blk : Nat} (hb : B ≤ blk) (enc : α → Value) (off : Nat) (d : Array α) : Below B w (Go.Sort.putRow enc W blk off d) := by
  refine ⟨h.os, h.tape, h.output, ?_, fun k hk => ?_⟩
  · have := h.size
    simpa [Go.Sort.putRow, Go.Sort.mapBlock] using this
  · rw [← h.block k hk]
    simp only [Go.Sort.putRow, Go.Sort.mapBlock, Array.getElem?_modify]
    rw [if_neg (by omega)]
theorem hb.sw_block {α : Type} [Inhabited α] (W : World) (blk off m : Nat) (enc : α → Value) (d : Array α) (os : Array Obj) (k : Nat) (hk : k ≠ blk) (hlt : k < W.heap.size) : (sortWorld enc W blk off m d os).heap[k]? = W.heap[k]? := by
  have e : (Go.Sort.putRow enc (Go.Sort.ahead W m) blk off d).heap.size = W.heap.size := by simp [Go.Sort.putRow, Go.Sort.mapBlock, Go.Sort.ahead]
  simp only [sortWorld, Go.Sort.grow]
  rw [Array.getElem?_append_left (by omega)]
  simp only [Go.Sort.putRow, Go.Sort.mapBlock, Array.getElem?_modify]
  rw [if_neg (by omega)]
  rfl
/-- What an element's cell leads to, in any world that leaves its blocks as they are. -/
theorem hb.elem {f : Nat → Nat} {W W1 : World} {base n : Nat} {okm : Nat → Prop} {l : List (List Int)} {inner : List Value}
    (hr : Reps ((Kd.tag f (Kd.slice 3 (Kd.int .i64))).M W base okm) 1 l.zipIdx inner) (hW : ∀ k, okm k → k < W.heap.size → W1.heap[k]? = W.heap[k]?) (i : Nat) :
    ∃ A c, hb.enc inner i = .slice A (l.getD i []).length c ∧ (l.getD i []).length ≤ c ∧ Kd.C (Kd.int .i64) W1 A (l.getD i []).length (l.getD i []) := by
  by_cases hi : i < l.length
  · have h1 := hr.2 i (l[i], i) (by rw [List.getElem?_zipIdx, List.getElem?_eq_getElem hi]; simp)
    obtain ⟨u, hu, hR⟩ := h1
    have hlen : inner.length = l.length := by have := hr.1; simpa using this
    have e1 : hb.enc inner i = u := by
      unfold hb.enc
      have h2 : (inner.drop (i * 1)).take 1 = [inner[i]] := by
        rw [Nat.mul_one, List.drop_eq_getElem_cons (by omega)]
        rfl
      change (inner.drop (i * 1)).take 1 = [u] at hu
      rw [h2] at hu
      injection hu with hu _
      simp [List.getD_eq_getElem?_getD, List.getElem?_eq_getElem (show i < inner.length by omega), hu]
    have e2 : l.getD i [] = l[i] := by simp [List.getD_eq_getElem?_getD, List.getElem?_eq_getElem hi]
    rw [e1, e2]
    have hR1 : Kd.R (Kd.int .i64) 3 W1 base (fun k => okm k ∧ f k = i) u l[i] := Kd.R_step hR (fun k hk hlt => hW k hk.1 hlt)
    obtain ⟨A, c, rfl, h3, h4⟩ := Kd.R_reads hR1
    exact ⟨A, c, rfl, h3, h4⟩
  · have hlen : inner.length = l.length := by have := hr.1; simpa using this
    have e1 : hb.enc inner i = .slice none 0 0 := by
      unfold hb.enc
      rw [List.getD_eq_getElem?_getD, List.getElem?_eq_none (by omega)]
      rfl
    have e2 : l.getD i [] = [] := by rw [List.getD_eq_getElem?_getD, List.getElem?_eq_none (by omega)]; rfl
    rw [e1, e2]
    exact ⟨none, 0, rfl, Nat.le_refl _, Kd.C_nil _ _⟩
theorem hb.cmpreads {f : Nat → Nat} {W : World} {base n g : Nat} {ok : Nat → Prop} {l : List (List Int)} {inner : List Value}
    (hr : Reps ((Kd.tag f (Kd.slice 3 (Kd.int .i64))).M W base (fun k => ok k ∧ k ≠ g)) 1 l.zipIdx inner) :
    CmpReads Try.prog 19 #[] (hb.enc inner) (hb.cf l) g 0 n W := by
  intro m os dk hs x y
  have hW := hb.sw_block W g 0 m (hb.enc inner) dk os
  obtain ⟨A, c, e1, hc, h1⟩ := hb.elem (W1 := sortWorld (hb.enc inner) W g 0 m dk os) (n := n) hr (fun k hk hlt => hW k hk.2 hlt) x
  obtain ⟨A', c', e1', hc', h1'⟩ := hb.elem (W1 := sortWorld (hb.enc inner) W g 0 m dk os) (n := n) hr (fun k hk hlt => hW k hk.2 hlt) y
  obtain ⟨K, hK⟩ := hb.cmp_ev (l.getD x []) (l.getD y []) h1.2.1
  rw [e1, e1']
  refine (slices_Compare_int_int.calls K A c _ A' c' _ _ _ h1 hc h1' hc' hK).mono ?_
  rintro e w' ⟨rfl, ⟨q, hq⟩⟩
  exact ⟨rfl, q, hq⟩
theorem hb.cells_put (inner : List Value) (D : List Nat) (cur : Array Value) (n : Nat) (hD : D.length = n) (hc : n ≤ cur.size) :
    (Go.Sort.putCells (hb.enc inner) 0 D.toArray cur).toList.take n = D.map (hb.enc inner) := by
  apply List.ext_getElem
  · simp [Go.Sort.putCells]; omega
  · intro i h1 h2
    simp at h2
    simp only [List.getElem_take, Array.getElem_toList, Go.Sort.putCells, Array.getElem_mapIdx, List.getElem_map]
    rw [if_pos ⟨Nat.zero_le _, by simp; omega⟩, Nat.sub_zero, getElem!_pos D.toArray i (by simpa using h2)]
    simp
set_option maxHeartbeats 2000000 in
/-- The rows, put into another order, are rows of one's own that lie apart. -/
theorem hb.S_perm {f : Nat → Nat} {W W1 : World} {base g cap : Nat} {ok : Nat → Prop} {l : List (List Int)} {inner : List Value} {cur : Array Value} (D : List Nat) (hD : D.Perm (List.range l.length))
    (hok : ok g) (hbg : base ≤ g) (hg : W1.heap[g]? = some (.cells (Go.Sort.putCells (hb.enc inner) 0 D.toArray cur) 22 (0, 0))) (hcap : l.length ≤ cap) (hmax : cap ≤ maxLen) (hcur : cur.size = cap * 1)
    (hr : Reps ((Kd.tag f (Kd.slice 3 (Kd.int .i64))).M W base (fun k => ok k ∧ k ≠ g)) 1 l.zipIdx inner) (hW : ∀ k, k ≠ g → k < W.heap.size → W1.heap[k]? = W.heap[k]?) :
    Kd.S (Kd.slice 3 (Kd.int .i64)) 22 W1 base ok (.slice (some ⟨g, 0, none⟩) l.length cap) (D.map (fun i => l.getD i [])) := by
  have hDl : D.length = l.length := by have := hD.length_eq; simpa using this
  have hDn : D.Nodup := hD.nodup_iff.2 List.nodup_range
  have hinl : inner.length = l.length := by have := hr.1; simpa using this
  refine ⟨fun k => D.idxOf (f k), fun k hk => ?_, D.map (hb.enc inner), ⟨?_, .inr ⟨g, cap, _, ?_, hbg, hg, ?_, hmax, ?_, ?_⟩⟩, ?_, ?_⟩
  · have : g = k := by simpa [Value.ownBlock] using hk
    exact this ▸ hok
  · show (D.map (hb.enc inner)).length = (List.zipIdx _).length * 1
    simp
  · simp [hDl]
  · simp [hDl, hcap]
  · show _ = cap * 1
    simpa [Go.Sort.putCells] using hcur
  · have := hb.cells_put inner D cur l.length hDl (by omega)
    show (Go.Sort.putCells (hb.enc inner) 0 D.toArray cur).toList.take ((List.zipIdx _).length * 1) = _
    simpa [hDl] using this
  · show (D.map (hb.enc inner)).length = (List.zipIdx _).length * 1
    simp
  · intro j p hj
    rw [List.getElem?_zipIdx] at hj
    have hj2 : j < D.length := by
      by_cases h : j < D.length
      · exact h
      · rw [List.getElem?_eq_none (by simpa using h)] at hj; cases hj
    rw [List.getElem?_eq_getElem (by simpa using hj2)] at hj
    simp at hj
    subst hj
    have hi : D[j] < l.length := by
      have := hD.subset (List.getElem_mem hj2)
      simpa using this
    obtain ⟨u, hu, hR⟩ := hr.2 D[j] (l[D[j]], D[j]) (by rw [List.getElem?_zipIdx, List.getElem?_eq_getElem hi]; simp)
    change (inner.drop (D[j] * 1)).take 1 = [u] at hu
    have h2 : (inner.drop (D[j] * 1)).take 1 = [inner[D[j]]] := by
      rw [Nat.mul_one, List.drop_eq_getElem_cons (by omega)]
      rfl
    rw [h2] at hu
    injection hu with hu _
    refine ⟨u, ?_, ?_⟩
    · show ((D.map (hb.enc inner)).drop (j * 1)).take 1 = [u]
      rw [Nat.mul_one, List.drop_eq_getElem_cons (by simpa using hj2)]
      simp [hb.enc, List.getD_eq_getElem?_getD, List.getElem?_eq_getElem (show D[j] < inner.length by omega), hu]
    · have e2 : l[D[j]]?.getD [] = l[D[j]] := by simp [List.getElem?_eq_getElem hi]
      have hR1 : Kd.R (Kd.int .i64) 3 W1 base (fun k => (ok k ∧ k ≠ g) ∧ f k = D[j]) u l[D[j]] := Kd.R_step (w1 := W1) hR (fun k hk hlt => hW k hk.1.2 hlt)
      rw [← e2] at hR1
      refine Kd.R_mono hR1 (fun k hk => ⟨⟨hk.1.1, ?_⟩, ?_⟩)
      · simp only [Value.ownBlock]; intro e; exact hk.1.2 (by injection e)
      · have := hk.2
        simp only at this ⊢
        rw [this]
        exact List.Nodup.idxOf_getElem hDn j hj2
set_option maxHeartbeats 4000000 in
/-- slices.SortFunc over rows that lie apart, 12 at most. -/
theorem hb.sort {W : World} {base : Nat} {ok : Nat → Prop} {v : Value} {l : List (List Int)} (h : Kd.S (Kd.slice 3 (Kd.int .i64)) 22 W base ok v l) (h12 : l.length ≤ 12) :
    Calls Try.prog 18 #[v, .func (.func 19) #[] #[]] W fun e w' => e = .returned (.tuple #[]) ∧ Kd.S (Kd.slice 3 (Kd.int .i64)) 22 w' base ok v (hb.sorted l) ∧ ∀ B w0, B ≤ base → Below B w0 W → Below B w0 w' := by
  have hlen : ∀ (n : Nat) (W : World), n ≤ 12 → Calls Try.prog 30 #[.int .u64 n] W fun e w' => (∃ l : Int, e = .returned (.int .i64 l)) ∧ w' = W := fun n W hn => (Try.bits_Len (n : Int) W (by omega) (by omega)).mono (by rintro e w' ⟨rfl, rfl⟩; exact ⟨⟨_, rfl⟩, rfl⟩)
  obtain ⟨f, h0, inner, ho, hr⟩ := h
  rcases ho.2 with ⟨rfl, hn⟩ | ⟨g, cap, cur, rfl, hbg, hg, hcap, hmax, hcur, htake⟩
  · have hl : l = [] := by simpa using hn
    subst hl
    have hS : ∀ w' : World, Kd.S (Kd.slice 3 (Kd.int .i64)) 22 w' base ok (.slice none 0 0) (hb.sorted []) := fun w' => by
      have e : hb.sorted [] = [] := by
        have := (hb.ord_perm []).length_eq
        simp at this
        simp [hb.sorted, this]
      rw [e]
      exact Kd.S_nil _ _ _ _ _
    refine (hb.sort0 W (hlen 0 W (by omega))).mono ?_
    rintro e w' ⟨rfl, rfl⟩
    exact ⟨rfl, hS _, fun _ _ _ h => h⟩
  · simp only [List.length_zipIdx] at *
    have hn : inner.length = l.length := by have : inner.length = l.zipIdx.length * 1 := hr.1; simpa using this
    have eg : ∀ args w, (callFunc 19 args).run Try.prog w = .ok (.enter 19 args) w := enters_of Try.func19 (by kernel_rfl) rfl
    have hr' : Reps ((Kd.tag f (Kd.slice 3 (Kd.int .i64))).M W base (fun k => ok k ∧ k ≠ g)) 1 l.zipIdx inner :=
      hr.imp_ (fun p c hp => (Kd.tag f (Kd.slice 3 (Kd.int .i64))).M_mono (fun k hk => ⟨hk.1, fun e => hk.2 (by subst e; rfl)⟩) hp)
    have hH : Go.Sort.Holds (hb.enc inner) W g 0 (List.range l.length).toArray := by
      intro j hj
      have hj : j < l.length := by simpa using hj
      have e : hb.enc inner (List.range l.length).toArray[j]! = inner[j] := by
        rw [getElem!_pos _ j (by simpa using hj)]
        simp [hb.enc, List.getD_eq_getElem?_getD, List.getElem?_eq_getElem (show j < inner.length by omega)]
      rw [e]
      have h1 : (cur.toList.take (l.length * 1))[j]? = inner[j]? := congrArg (fun z => z[j]?) htake
      rw [List.getElem?_take_of_lt (by omega), List.getElem?_eq_getElem (show j < inner.length by omega)] at h1
      refine ⟨?_, ?_⟩
      · simp only [World.cell?, hg]
        simpa using h1
      · simp only [World.frozen?, hg]
        simp
    have hs := Try.slices_SortFunc_small (hb.enc inner) (fun i => ?_) (hb.cf l) 19 #[] g 0 cap (List.range l.length).toArray W eg (hb.cmpreads hr') hH (by simpa using h12) hlen
    · simp only [List.size_toArray, List.length_range] at hs
      refine hs.mono ?_
      rintro e w' ⟨rfl, q, rfl⟩
      have hD := hb.ord_perm l
      have eD : (Go.Sort.insertionSort (ltOf (hb.cf l)) (List.range l.length).toArray 0 l.length) = (hb.ord l).toArray := by simp [hb.ord]
      rw [eD]
      refine ⟨rfl, hb.S_perm (f := f) (W := W) (cur := cur) (inner := inner) (hb.ord l) hD (h0 g rfl) hbg ?_ hcap hmax hcur hr' ?_, fun B w0 hB hbb => pw_below_drewN (hb.below_put hbb (by omega) _ _ _) _⟩
      · show (Go.Sort.putRow (hb.enc inner) W g 0 (hb.ord l).toArray).heap[g]? = _
        simp only [Go.Sort.putRow, Go.Sort.mapBlock, Array.getElem?_modify, if_true, hg]
        rfl
      · intro k hk hlt
        show (Go.Sort.putRow (hb.enc inner) W g 0 (hb.ord l).toArray).heap[k]? = _
        simp only [Go.Sort.putRow, Go.Sort.mapBlock, Array.getElem?_modify]
        rw [if_neg (by omega)]
    · obtain ⟨A, c, e, _, _⟩ := hb.elem (W1 := W) (n := 0) hr (fun _ _ _ => rfl) i
      rw [e]
      rfl
theorem hb.w64s (i : Nat) (h : i < 9223372036854775807) : wrap64 ((i : Int) + 1) = ((i + 1 : Nat) : Int) := by unfold wrap64; omega
theorem hb.eq_l0 (n : Int) (hn : n ≤ 1048576) : ∀ (ta tb da db : List Int), da.length = db.length → ta.length = tb.length → ((da ++ ta).length : Int) = n → Ev (fun k => slices_Equal_int_int.l0 k (da ++ ta) (db ++ tb) n da.length) (decide (ta = tb)) := by
  intro ta
  induction ta with
  | nil =>
    intro tb da db hd ht hl
    have htb : tb = [] := List.eq_nil_of_length_eq_zero (by simpa using ht.symm)
    subst htb
    refine Ev.step (f := fun _ => some true) (fun k => ?_) (by simpa using Ev.now true)
    simp only [slices_Equal_int_int.l0]
    simp at hl
    rw [if_neg (by omega)]
  | cons x xs ih =>
    intro tb da db hd ht hl
    cases tb with
    | nil => simp at ht
    | cons y ys =>
      have hl' : (da.length : Int) + (xs.length + 1) = n := by simpa using hl
      have e1 : rd (da ++ x :: xs) (da.length : Int) = x := by simp [rd]
      have e2 : rd (db ++ y :: ys) (da.length : Int) = y := by rw [hd]; simp [rd]
      by_cases c : x = y
      · have h := ih ys (da ++ [x]) (db ++ [y]) (by simp [hd]) (by simpa using ht) (by simp; omega)
        have e3 : decide (x :: xs = y :: ys) = decide (xs = ys) := by simp [c]
        refine Ev.step (f := fun k => slices_Equal_int_int.l0 k (da ++ [x] ++ xs) (db ++ [y] ++ ys) n ((da ++ [x]).length : Int)) (fun k => ?_) (by rw [e3]; exact h)
        simp only [slices_Equal_int_int.l0]
        rw [if_pos (by omega), if_pos (by omega), if_pos (by simp; omega), if_pos (by simp; omega), e1, e2, if_pos c, hb.w64s da.length (by omega)]
        simp
      · have e3 : decide (x :: xs = y :: ys) = false := by simp [c]
        refine Ev.step (f := fun _ => some false) (fun k => ?_) (by rw [e3]; exact Ev.now _)
        simp only [slices_Equal_int_int.l0]
        rw [if_pos (by omega), if_pos (by omega), if_pos (by simp; omega), if_pos (by simp; omega), e1, e2, if_neg c]
theorem hb.eq_ev (a b : List Int) (ha : a.length ≤ 1048576) (hne : a ≠ b) : ∃ k, slices_Equal_int_int.f k a b = some false := by
  unfold slices_Equal_int_int.f
  by_cases c : (a.length : Int) = (b.length : Int)
  · obtain ⟨K, hK⟩ := hb.eq_l0 a.length (by omega) a b [] [] rfl (by omega) (by simp)
    refine ⟨K, ?_⟩
    rw [if_pos c]
    have := hK K (Nat.le_refl _)
    simpa [hne] using this
  · exact ⟨0, by rw [if_neg c]⟩
set_option maxHeartbeats 4000000 in
/-- slices.CompactFunc over rows no two neighbours of which are equal: it hands the row back. -/
theorem hb.compact {W : World} {base : Nat} {ok : Nat → Prop} {v : Value} {l : List (List Int)} (h : Kd.S (Kd.slice 3 (Kd.int .i64)) 22 W base ok v l) (h12 : l.length ≤ 12) (hs : ∀ i, (l.getD i []).length ≤ 1048576)
    (hadj : ∀ i, i + 1 < l.length → l.getD (i + 1) [] ≠ l.getD i []) :
    Calls Try.prog 20 #[v, .func (.func 21) #[] #[]] W fun e w' => e = .returned v ∧ ∃ q, w' = W.drewN q := by
  have eg : ∀ args w, (callFunc 21 args).run Try.prog w = .ok (.enter 21 args) w := enters_of Try.func21 (by kernel_rfl) rfl
  have hform : 0 < l.length → ∃ g cap, v = .slice (some ⟨g, 0, none⟩) l.length cap := fun hp => by
    obtain ⟨g, cap, hv, _⟩ := Kd.S_form h hp
    exact ⟨g, cap, hv⟩
  obtain ⟨A, c, rfl, hc, hC⟩ := Kd.S_reads h
  clear h
  have HR := Aside0.mk hC
  have HC := Aside0.mk hc
  have HA := Aside0.mk hadj
  have HS := Aside0.mk hs
  clear hC hc hadj hs
  by_cases h2 : l.length < 2
  · clear hform
    have c2 : decide ((l.length : Int) < 2) = true := decide_eq_true (by omega)
    go_enter Try.func20, Try.ntmps20
    go_wp2
    go_ret
    exact ⟨rfl, 0, rfl⟩
  · have c2 : decide ((l.length : Int) < 2) = false := decide_eq_false (by omega)
    obtain ⟨g, cap, hv⟩ := hform (by omega)
    injection hv with hv
    subst hv
    go_enter Try.func20, Try.ntmps20
    go_wp2
    go_loopg [5] l.length (fun gg s5 wr => ∃ (jp q : Nat), s5 = .int .i64 ((jp : Int) + 1) ∧ wr = W.drewN q ∧ Aside0 (jp + 1 ≤ l.length ∧ l.length - jp ≤ gg))
    case atStart => exact ⟨0, 0, rfl, rfl, ⟨by omega, by omega⟩⟩
    case round =>
      obtain ⟨jp, q, rfl, rfl, HK⟩ := hrel
      by_cases hlt : (jp : Int) + 1 < (l.length : Int)
      · obtain ⟨ad, A1, c1, e, hx, hcx, hCx⟩ := at_L1 HR.out ((jp : Int) + 1) (by omega) hlt
        obtain ⟨ad', A2, c3, e', hy, hcy, hCy⟩ := at_L1 HR.out (jp : Int) (by omega) (by omega)
        cases e
        cases e'
        obtain ⟨K, hK⟩ := hb.eq_ev (rd_L1 l ((jp : Int) + 1)) (rd_L1 l (jp : Int)) (HS.out _) (by
          have := HA.out jp (by omega)
          simpa [rd_L1, show ((jp : Int) + 1).toNat = jp + 1 by omega] using this)
        have hp : ∀ n, Calls Try.prog 21 #[.slice A1 (rd_L1 l ((jp : Int) + 1)).length c1, .slice A2 (rd_L1 l (jp : Int)).length c3] ((W.drewN q).drewN n) fun e w' => e = .returned (.bool false) ∧ ∃ m, w' = ((W.drewN q).drewN n).drewN m := fun n =>
          (slices_Equal_int_int.calls K A1 c1 _ A2 c3 _ _ ((W.drewN q).drewN n) (Kd.C_drewN (Kd.C_drewN hCx q) n) hcx (Kd.C_drewN (Kd.C_drewN hCy q) n) hcy hK).mono (by rintro e w' ⟨rfl, ⟨q', hq'⟩⟩; exact ⟨rfl, q', hq'⟩)
        have w1 : wrap64 ((jp : Int) + 1 + 1) = ((jp + 1 : Nat) : Int) + 1 := by unfold wrap64; omega
        have hwp : IntKind.i64.wrap (jp : Int) = (jp : Int) := by rw [IntKind.wrap_i64]; omega
        have p0 : (0 : Int) ≤ (jp : Int) + 1 := by omega
        have jz1 : (jp : Int) < (l.length : Int) := by omega
        have e0 : ((jp : Int) + 1).toNat = jp + 1 := by omega
        have hx' : (W.drewN q).cell? ⟨g, jp + 1, none⟩ = some (.slice A1 (rd_L1 l ((jp : Int) + 1)).length c1) := by simpa [Addr.add] using hx
        have hy' : (W.drewN q).cell? ⟨g, jp, none⟩ = some (.slice A2 (rd_L1 l (jp : Int)).length c3) := by
          have ea : (⟨g, 0, none⟩ : Addr).add jp = ⟨g, jp, none⟩ := by
            unfold Addr.add
            split
            · rename_i h; rw [h]
            · simp
          rw [← ea]
          exact hy
        clear hx hy hCx hCy hcx hcy hK
        have HW : Aside0 (∀ n, ∃ m, (W.drewN q).drewN n = W.drewN m) := ⟨fun n => ⟨_, World.drewN_drewN _ _ _⟩⟩
        generalize W.drewN q = wq at hx' hy' hp HW ⊢
        have HP := Aside0.mk hp
        clear hp
        go_wp2_with fail
        go_quiet (first | (go_at_fn 21; exact Calls.quiet_of (HP.out _)) | (go_at_call 21; exact Calls.quiet_of (HP.out _)))
        go_wp2
        go_roundg (l.length - (jp + 1))
        case measure => have := HK.out; omega
        case rel =>
          obtain ⟨m, hm⟩ := HW.out nq
          exact ⟨jp + 1, m, by first | rfl | (rw [w1]) | (congr 1; omega), hm, ⟨by omega, by omega⟩⟩
      · go_wp2
        go_ret
        exact ⟨rfl, q, rfl⟩
/-- What impl.HeapsBefore makes of all that it has found: sorted (no two are equal). -/
def hb.fin (l : List (List Int)) : Option (List (List Int) × Bool) := if l.length ≤ 12 ∧ (∀ x ∈ l, x.length ≤ 1048576) ∧ (hb.sorted l).Nodup then some (hb.sorted l, true) else none
theorem hb.sorted_length (l : List (List Int)) : (hb.sorted l).length = l.length := by
  have := (hb.ord_perm l).length_eq
  simpa [hb.sorted] using this
theorem hb.fin_eq {l r1 : List (List Int)} {r2 : Bool} (h : hb.fin l = some (r1, r2)) : l.length ≤ 12 ∧ (∀ i, ((hb.sorted l).getD i []).length ≤ 1048576) ∧ (∀ i, i + 1 < (hb.sorted l).length → (hb.sorted l).getD (i + 1) [] ≠ (hb.sorted l).getD i []) ∧ hb.sorted l = r1 ∧ true = r2 := by
  unfold hb.fin at h
  split at h
  · rename_i c
    obtain ⟨c1, c2, c3⟩ := c
    simp only [Option.some.injEq, Prod.mk.injEq] at h
    refine ⟨c1, fun i => ?_, fun i hi => ?_, h⟩
    · by_cases hi : i < (hb.ord l).length
      · have : (hb.sorted l).getD i [] = l.getD (hb.ord l)[i] [] := by
          simp [hb.sorted, List.getD_eq_getElem?_getD, List.getElem?_eq_getElem hi]
        rw [this]
        by_cases hj : (hb.ord l)[i] < l.length
        · rw [List.getD_eq_getElem?_getD, List.getElem?_eq_getElem hj]
          exact c2 _ (List.getElem_mem hj)
        · rw [List.getD_eq_getElem?_getD, List.getElem?_eq_none (by omega)]
          simp
      · rw [List.getD_eq_getElem?_getD, List.getElem?_eq_none (by simp [hb.sorted]; omega)]
        simp
    · rw [List.getD_eq_getElem?_getD, List.getD_eq_getElem?_getD, List.getElem?_eq_getElem hi, List.getElem?_eq_getElem (by omega)]
      simp only [Option.getD_some]
      intro e
      exact List.pairwise_iff_getElem.1 c3 i (i + 1) (by omega) hi (by omega) e.symm
  · cases h
mutual
def impl_HeapsBefore.l0 : Nat → List Int → List (List Int) → Int → Int → Option ((List (List Int)) × Bool)
  | 0, _, _, _, _ => none
  | k + 1, x0, x4, x14, x15 => if x15 < x14 then (impl_HeapsBefore.l1 k x0 x4 x15 x14 x15 x0 (x0.length : Int) 0) else (hb.fin x4)
def impl_HeapsBefore.l1 : Nat → List Int → List (List Int) → Int → Int → Int → List Int → Int → Int → Option ((List (List Int)) × Bool)
  | 0, _, _, _, _, _, _, _, _ => none
  | k + 1, x0, x4, x5, x14, x15, x18, x19, x20 => if x20 < x19 then (if 0 ≤ x20 then (if x20 < (x18.length : Int) then (if x5 = x20 then (impl_HeapsBefore.l1 k x0 x4 x5 x14 x15 x18 x19 (wrap64 (x20 + 1))) else (if (rd x18 x20) = 0 then (impl_HeapsBefore.l1 k x0 x4 x5 x14 x15 x18 x19 (wrap64 (x20 + 1))) else (if (Int.tmod (rd x18 x20) 2) = 1 then (impl_HeapsBefore.l1 k x0 x4 x5 x14 x15 x18 x19 (wrap64 (x20 + 1))) else ((slices_Clone_int_int.f x0).bind fun t203 => (if x20 < (t203.length : Int) then ((some (t203.set (x20 : Int).toNat (wrap64 ((rd t203 x20) - (wrap64 (Int.tdiv (rd x18 x20) 2)))) : List Int)).bind fun y207 => (if 0 ≤ x5 then (if x5 < (t203.length : Int) then (if x4.length < 5864062014805 then (impl_HeapsBefore.l1 k x0 (x4 ++ [(y207.set (x5 : Int).toNat (wrap64 ((rd y207 x5) + (wrap64 (Int.tdiv (rd x18 x20) 2)))))]) x5 x14 x15 x18 x19 (wrap64 (x20 + 1))) else (none)) else (none)) else (none))) else (none)))))) else (none)) else (none)) else (impl_HeapsBefore.l0 k x0 x4 x14 (wrap64 (x15 + 1)))
end
def impl_HeapsBefore.f (k : Nat) (l0 : List Int) : Option ((List (List Int)) × Bool) := (impl_AreFewHeaps.f k l0).bind fun t198 => (if t198 = true then (impl_HeapsBefore.l0 k l0 (([] : List (List Int))) (l0.length : Int) 0) else (some (([] : List (List Int)), false)))
theorem impl_HeapsBefore.mono_l : ∀ k, (∀ y0 y1 y2 y3, LeO (impl_HeapsBefore.l0 k y0 y1 y2 y3) (impl_HeapsBefore.l0 (k + 1) y0 y1 y2 y3)) ∧ (∀ y0 y1 y2 y3 y4 y5 y6 y7, LeO (impl_HeapsBefore.l1 k y0 y1 y2 y3 y4 y5 y6 y7) (impl_HeapsBefore.l1 (k + 1) y0 y1 y2 y3 y4 y5 y6 y7))
  | 0 => ⟨fun _ _ _ _ r h => by simp [impl_HeapsBefore.l0] at h, fun _ _ _ _ _ _ _ _ r h => by simp [impl_HeapsBefore.l1] at h⟩
  | k + 1 => by
    obtain ⟨ih0, ih1⟩ := impl_HeapsBefore.mono_l k
    refine ⟨?_, ?_⟩
    · intro y0 y1 y2 y3
      unfold impl_HeapsBefore.l0
      repeat' first
      | (with_reducible exact ih0 _ _ _ _)
      | (with_reducible exact ih1 _ _ _ _ _ _ _ _)
      | (with_reducible exact impl_AreFewHeaps.mono _ _)
      | (with_reducible exact LeO.refl _)
      | (with_reducible exact LeO.none _)
      | (with_reducible refine LeO.ite ?_ ?_)
      | (with_reducible refine LeO.bind ?_ (fun _ => ?_))
      | exact ih0 _ _ _ _
      | exact ih1 _ _ _ _ _ _ _ _
      | exact impl_AreFewHeaps.mono _ _
      | exact LeO.none _
      | refine LeO.ite ?_ ?_
      | refine LeO.bind ?_ (fun _ => ?_)
    · intro y0 y1 y2 y3 y4 y5 y6 y7
      unfold impl_HeapsBefore.l1
      repeat' first
      | (with_reducible exact ih0 _ _ _ _)
      | (with_reducible exact ih1 _ _ _ _ _ _ _ _)
      | (with_reducible exact impl_AreFewHeaps.mono _ _)
      | (with_reducible exact LeO.refl _)
      | (with_reducible exact LeO.none _)
      | (with_reducible refine LeO.ite ?_ ?_)
      | (with_reducible refine LeO.bind ?_ (fun _ => ?_))
      | exact ih0 _ _ _ _
      | exact ih1 _ _ _ _ _ _ _ _
      | exact impl_AreFewHeaps.mono _ _
      | exact LeO.none _
      | refine LeO.ite ?_ ?_
      | refine LeO.bind ?_ (fun _ => ?_)
theorem impl_HeapsBefore.mono : ∀ a0 k, LeO (impl_HeapsBefore.f k a0) (impl_HeapsBefore.f (k + 1) a0) := by
  intro a0 k
  obtain ⟨ih0, ih1⟩ := impl_HeapsBefore.mono_l k
  unfold impl_HeapsBefore.f
  repeat' first
      | (with_reducible exact ih0 _ _ _ _)
      | (with_reducible exact ih1 _ _ _ _ _ _ _ _)
      | (with_reducible exact impl_AreFewHeaps.mono _ _)
      | (with_reducible exact LeO.refl _)
      | (with_reducible exact LeO.none _)
      | (with_reducible refine LeO.ite ?_ ?_)
      | (with_reducible refine LeO.bind ?_ (fun _ => ?_))
      | exact ih0 _ _ _ _
      | exact ih1 _ _ _ _ _ _ _ _
      | exact impl_AreFewHeaps.mono _ _
      | exact LeO.none _
      | refine LeO.ite ?_ ?_
      | refine LeO.bind ?_ (fun _ => ?_)
set_option maxHeartbeats 8000000 in
set_option maxRecDepth 100000 in
theorem impl_HeapsBefore.calls (k : Nat) (A0 : Option Addr) (c0 : Nat) (l0 : List Int) (r1 : List (List Int)) (r2 : Bool) (w : World) (hr0 : Kd.C (Kd.int .i64) w A0 l0.length l0) (hc0 : l0.length ≤ c0) (h : impl_HeapsBefore.f k l0 = some (r1, r2)) :
    Calls Try.prog 6 #[.slice A0 l0.length c0] w fun e w' => ∃ v0_ : Value, e = .returned (.tuple #[v0_, .bool r2]) ∧ Kd.S (Kd.slice 3 (Kd.int .i64)) 22 w' w.heap.size (fun _ => True) v0_ r1 ∧ Below w.heap.size w w' := by
  have HR0 := Aside0.mk hr0
  have HC0 := Aside0.mk hc0
  clear hr0 hc0
  have HB := Aside0.mk (Below.refl w.heap.size w)
  have H : ((impl_AreFewHeaps.f k l0).bind fun t198 => (if t198 = true then (impl_HeapsBefore.l0 k l0 (([] : List (List Int))) (l0.length : Int) 0) else (some (([] : List (List Int)), false)))) = some (r1, r2) := h
  clear h
  replace H := Option.bind_eq_some_iff.mp H
  obtain ⟨t198, A20, H⟩ := H
  replace H : (if t198 = true then (impl_HeapsBefore.l0 k l0 (([] : List (List Int))) (l0.length : Int) 0) else (some (([] : List (List Int)), false))) = some (r1, r2) := H
  have A2 := Aside0.mk A20
  clear A20
  by_cases c3 : t198 = true
  · subst c3
    have H1 : (impl_HeapsBefore.l0 k l0 (([] : List (List Int))) (l0.length : Int) 0) = some (r1, r2) := by rw [if_pos rfl] at H; exact H
    clear H
    have H := H1
    clear H1
    obtain ⟨y199, hy199⟩ : ∃ y_ : List (List Int), y_ = (([] : List (List Int))) := ⟨_, rfl⟩
    replace H : (impl_HeapsBefore.l0 k l0 y199 (l0.length : Int) 0) = some (r1, r2) := by first | (rw [hy199]; with_reducible exact H) | (have H2_ := (Option.bind_some _ _).symm.trans H; rw [hy199]; with_reducible exact H2_) | (have H2_ := (Option.bind_some _ _).symm.trans H; with_reducible exact H2_) | with_reducible exact H | (rw [hy199]; exact H) | exact H
    have Ny199 := Aside0.mk hy199
    clear hy199
    have H' := Aside0.mk H
    clear H
    go_enter Try.func6, Try.ntmps6
    go_wp2_with (first | ((with_reducible refine gate_callee (f := 16) rfl ?_); refine goesL_ (some 10) rfl rfl Try.func16 (by kernel_rfl) rfl #[.slice A0 l0.length c0] rfl (by (try simp only [List.map_toArray, List.map_cons, List.map_nil]); first | done | rfl | (simp only [List.length_drop, List.length_take]; rfl)) ?_; (with_reducible refine (impl_AreFewHeaps.calls k _ _ l0 true _ ?side1 ?side2 A2.out).mono ?_); (case side1 => repeat (first | exact HR0.out | (with_reducible refine Kd.C_alloc ?_ _) | (with_reducible refine Kd.C_drewN ?_ _) | (with_reducible refine Kd.C_drew ?_))); (case side2 => exact HC0.out); rintro e w4 ⟨rfl, hb⟩; refine ⟨_, rfl, ?_⟩; have n0_ := Aside0.mk (below_step (by repeat (first | (with_reducible first | exact HB.out | apply below_alloc | apply pw_below_drewN | apply below_drew1) | exact HB.out)) hb); clear HB; have HB := n0_; clear n0_; (try clear hb); (try clear hb2); (try clear hk); (try clear hi)) | ((with_reducible refine gate_dst (N := 12) rfl ?_); refine Kd.S_lit (Kd.slice 3 (Kd.int .i64)) _ 22 ?hg (N := 12) ?hd (xs := ([] : List (List Int))) (inner := []) (ok := fun _ => True) (okp := fun _ => True) ?hr ?hp (fun _ hk => hk) trivial (Below.refl _ _) (Nat.le_refl _) (by simp) ?_; (case hd => rfl); (case hg => rfl); (case hr => first | (go_simp; done) | (go_simp; rfl)); (case hp => exact (Reps.none _ _)); intro v200 w5 ho6 hb hg_ hnew_; clear hg_ hnew_; (first | rw [← Ny199.out] at ho6 | (simp only [Int.reduceToNat] at ho6; rw [← Ny199.out] at ho6)); have n0_ := Aside0.mk (Kd.S_lower ho6 (below_size (by repeat (first | (with_reducible first | exact HB.out | apply below_alloc | apply pw_below_drewN | apply below_drew1) | exact HB.out)))); have n1_ := Aside0.mk (below_step (by repeat (first | (with_reducible first | exact HB.out | apply below_alloc | apply pw_below_drewN | apply below_drew1) | exact HB.out)) hb); clear HB; have HO201 := n0_; have HB := n1_; clear n0_ n1_; clear hb ho6))
    go_loopg [4, 15] k (fun kq v4 v15 w' => ∃ (x4_1 : List (List Int)) (x15_1 : Int), v15 = .int .i64 x15_1 ∧ Aside0 (impl_HeapsBefore.l0 kq l0 x4_1 (l0.length : Int) x15_1 = some (r1, r2)) ∧ Aside0 (kq ≤ k) ∧ Aside0 (Kd.S (Kd.slice 3 (Kd.int .i64)) 22 w' w.heap.size (fun _ => True) v4 x4_1) ∧ Aside0 (Below w.heap.size w w'))
    case atStart => exact ⟨(y199), (0), (by first | rfl | (simp; done) | (simp [*]; done)), H', ⟨Nat.le_refl _⟩, ⟨by (with_reducible repeat (first | apply Kd.S_alloc | apply Kd.S_drewN | apply Kd.S_drew)); exact HO201.out⟩, ⟨by repeat (first | (with_reducible first | exact HB.out | apply below_alloc | apply pw_below_drewN | apply below_drew1) | exact HB.out)⟩⟩
    case round =>
      clear H'
      try clear c1
      try clear p2
      try clear c3
      try clear c6
      obtain ⟨x4_1, x15_1, rfl, HA, HK1, HO_4, HB⟩ := hrel
      cases gk with
      | zero => exact absurd HA.out (by simp [impl_HeapsBefore.l0])
      | succ k1 =>
        have H := HA.out
        clear HA
        simp only [impl_HeapsBefore.l0] at H
        by_cases c7 : x15_1 < (l0.length : Int)
        · rw [if_pos c7] at H
          have c7b0 : decide (x15_1 < (l0.length : Int)) = true := decide_eq_true c7
          clear c7
          have H' := Aside0.mk H
          clear H
          go_wp2
          go_loopg [4, 20] k1 (fun kq v4 v20 w' => ∃ (x4_2 : List (List Int)) (x20_2 : Int), v20 = .int .i64 x20_2 ∧ Aside0 (impl_HeapsBefore.l1 kq l0 x4_2 x15_1 (l0.length : Int) x15_1 l0 (l0.length : Int) x20_2 = some (r1, r2)) ∧ Aside0 (kq ≤ k1) ∧ Aside0 (Kd.S (Kd.slice 3 (Kd.int .i64)) 22 w' w.heap.size (fun _ => True) v4 x4_2) ∧ Aside0 (Below w.heap.size w w'))
          case atStart => exact ⟨(x4_1), (0), (by first | rfl | (simp; done) | (simp [*]; done)), H', ⟨Nat.le_refl _⟩, ⟨by (with_reducible repeat (first | apply Kd.S_alloc | apply Kd.S_drewN | apply Kd.S_drew)); exact HO_4.out⟩, ⟨by repeat (first | (with_reducible first | exact HB.out | apply below_alloc | apply pw_below_drewN | apply below_drew1) | exact HB.out)⟩⟩
          case round =>
            clear H'
            try clear c1
            try clear p2
            try clear c3
            try clear c6
            try clear c7
            try clear c7b0
            try clear p2
            obtain ⟨x4_2, x20_2, rfl, HA, HK2, HO_4, HB⟩ := hrel
            cases gk with
            | zero => exact absurd HA.out (by simp [impl_HeapsBefore.l1])
            | succ k2 =>
              have H := HA.out
              clear HA
              simp only [impl_HeapsBefore.l1] at H
              by_cases c8 : x20_2 < (l0.length : Int)
              · rw [if_pos c8] at H
                have c8b0 : decide (x20_2 < (l0.length : Int)) = true := decide_eq_true c8
                clear c8
                by_cases c9 : 0 ≤ x20_2
                · rw [if_pos c9] at H
                  have c9b0 : decide (0 ≤ x20_2) = true := decide_eq_true c9
                  clear c9
                  by_cases c10 : x20_2 < (l0.length : Int)
                  · rw [if_pos c10] at H
                    have c10b0 : decide (x20_2 < (l0.length : Int)) = true := decide_eq_true c10
                    clear c10
                    by_cases c11 : x15_1 = x20_2
                    · rw [if_pos c11] at H
                      have c11b0 : (x15_1 == x20_2) = true := beq_iff_eq.mpr c11
                      have c11b1 : (x15_1 != x20_2) = false := bne_eq_false_iff_eq.mpr c11
                      clear c11
                      have H' := Aside0.mk H
                      clear H
                      have p202 : 0 ≤ (x20_2 : Int) := of_decide_eq_true (by first | (with_reducible assumption) | assumption)
                      have q202 : x20_2 < (l0.length : Int) := of_decide_eq_true (by first | (with_reducible assumption) | assumption)
                      obtain ⟨ad202, e202, hx202_0⟩ := Kd.at_int HR0.out x20_2 p202 q202
                      cases e202
                      replace hx202_0 := (HB.out.cell (World.block_lt_of_cell? w _ hx202_0)).trans hx202_0
                      replace p202 := eq_true p202
                      replace q202 := eq_true q202
                      go_wp2
                      go_roundg k2
                      case measure => have := HK1.out; have := HK2.out; omega
                      case rel => exact ⟨(x4_2), (wrap64 (x20_2 + 1)), (by first | rfl | (simp; done) | (simp [*]; done)), H', ⟨by have := HK1.out; have := HK2.out; omega⟩, ⟨by (with_reducible repeat (first | apply Kd.S_alloc | apply Kd.S_drewN | apply Kd.S_drew)); exact HO_4.out⟩, ⟨by repeat (first | (with_reducible first | exact HB.out | apply below_alloc | apply pw_below_drewN | apply below_drew1) | exact HB.out)⟩⟩
                    · rw [if_neg c11] at H
                      have c11b0 : (x15_1 == x20_2) = false := beq_eq_false_iff_ne.mpr c11
                      have c11b1 : (x15_1 != x20_2) = true := bne_iff_ne.mpr c11
                      by_cases c12 : (rd l0 x20_2) = 0
                      · rw [if_pos c12] at H
                        have c12b0 : ((rd l0 x20_2) == 0) = true := beq_iff_eq.mpr c12
                        have c12b1 : ((rd l0 x20_2) != 0) = false := bne_eq_false_iff_eq.mpr c12
                        clear c12
                        have H' := Aside0.mk H
                        clear H
                        have p202 : 0 ≤ (x20_2 : Int) := of_decide_eq_true (by first | (with_reducible assumption) | assumption)
                        have q202 : x20_2 < (l0.length : Int) := of_decide_eq_true (by first | (with_reducible assumption) | assumption)
                        obtain ⟨ad202, e202, hx202_0⟩ := Kd.at_int HR0.out x20_2 p202 q202
                        cases e202
                        replace hx202_0 := (HB.out.cell (World.block_lt_of_cell? w _ hx202_0)).trans hx202_0
                        replace p202 := eq_true p202
                        replace q202 := eq_true q202
                        go_wp2
                        go_roundg k2
                        case measure => have := HK1.out; have := HK2.out; omega
                        case rel => exact ⟨(x4_2), (wrap64 (x20_2 + 1)), (by first | rfl | (simp; done) | (simp [*]; done)), H', ⟨by have := HK1.out; have := HK2.out; omega⟩, ⟨by (with_reducible repeat (first | apply Kd.S_alloc | apply Kd.S_drewN | apply Kd.S_drew)); exact HO_4.out⟩, ⟨by repeat (first | (with_reducible first | exact HB.out | apply below_alloc | apply pw_below_drewN | apply below_drew1) | exact HB.out)⟩⟩
                      · rw [if_neg c12] at H
                        have c12b0 : ((rd l0 x20_2) == 0) = false := beq_eq_false_iff_ne.mpr c12
                        have c12b1 : ((rd l0 x20_2) != 0) = true := bne_iff_ne.mpr c12
                        by_cases c13 : (Int.tmod (rd l0 x20_2) 2) = 1
                        · rw [if_pos c13] at H
                          have c13b0 : ((Int.tmod (rd l0 x20_2) 2) == 1) = true := beq_iff_eq.mpr c13
                          have c13b1 : ((Int.tmod (rd l0 x20_2) 2) != 1) = false := bne_eq_false_iff_eq.mpr c13
                          clear c13
                          have H' := Aside0.mk H
                          clear H
                          have p202 : 0 ≤ (x20_2 : Int) := of_decide_eq_true (by first | (with_reducible assumption) | assumption)
                          have q202 : x20_2 < (l0.length : Int) := of_decide_eq_true (by first | (with_reducible assumption) | assumption)
                          obtain ⟨ad202, e202, hx202_0⟩ := Kd.at_int HR0.out x20_2 p202 q202
                          cases e202
                          replace hx202_0 := (HB.out.cell (World.block_lt_of_cell? w _ hx202_0)).trans hx202_0
                          replace p202 := eq_true p202
                          replace q202 := eq_true q202
                          go_wp2
                          go_roundg k2
                          case measure => have := HK1.out; have := HK2.out; omega
                          case rel => exact ⟨(x4_2), (wrap64 (x20_2 + 1)), (by first | rfl | (simp; done) | (simp [*]; done)), H', ⟨by have := HK1.out; have := HK2.out; omega⟩, ⟨by (with_reducible repeat (first | apply Kd.S_alloc | apply Kd.S_drewN | apply Kd.S_drew)); exact HO_4.out⟩, ⟨by repeat (first | (with_reducible first | exact HB.out | apply below_alloc | apply pw_below_drewN | apply below_drew1) | exact HB.out)⟩⟩
                        · rw [if_neg c13] at H
                          have c13b0 : ((Int.tmod (rd l0 x20_2) 2) == 1) = false := beq_eq_false_iff_ne.mpr c13
                          have c13b1 : ((Int.tmod (rd l0 x20_2) 2) != 1) = true := bne_iff_ne.mpr c13
                          replace H := Option.bind_eq_some_iff.mp H
                          obtain ⟨t203, A140, H⟩ := H
                          replace H : (if x20_2 < (t203.length : Int) then ((some (t203.set (x20_2 : Int).toNat (wrap64 ((rd t203 x20_2) - (wrap64 (Int.tdiv (rd l0 x20_2) 2)))) : List Int)).bind fun y207 => (if 0 ≤ x15_1 then (if x15_1 < (t203.length : Int) then (if x4_2.length < 5864062014805 then (impl_HeapsBefore.l1 k2 l0 (x4_2 ++ [(y207.set (x15_1 : Int).toNat (wrap64 ((rd y207 x15_1) + (wrap64 (Int.tdiv (rd l0 x20_2) 2)))))]) x15_1 (l0.length : Int) x15_1 l0 (l0.length : Int) (wrap64 (x20_2 + 1))) else (none)) else (none)) else (none))) else (none)) = some (r1, r2) := H
                          have A14 := Aside0.mk A140
                          clear A140
                          by_cases c15 : x20_2 < (t203.length : Int)
                          · rw [if_pos c15] at H
                            have c15b0 : decide (x20_2 < (t203.length : Int)) = true := decide_eq_true c15
                            clear c15
                            obtain ⟨y207, hy207⟩ : ∃ y_ : List Int, y_ = (t203.set (x20_2 : Int).toNat (wrap64 ((rd t203 x20_2) - (wrap64 (Int.tdiv (rd l0 x20_2) 2))))) := ⟨_, rfl⟩
                            replace H : (if 0 ≤ x15_1 then (if x15_1 < (t203.length : Int) then (if x4_2.length < 5864062014805 then (impl_HeapsBefore.l1 k2 l0 (x4_2 ++ [(y207.set (x15_1 : Int).toNat (wrap64 ((rd y207 x15_1) + (wrap64 (Int.tdiv (rd l0 x20_2) 2)))))]) x15_1 (l0.length : Int) x15_1 l0 (l0.length : Int) (wrap64 (x20_2 + 1))) else (none)) else (none)) else (none)) = some (r1, r2) := by first | (rw [hy207]; with_reducible exact H) | (have H2_ := (Option.bind_some _ _).symm.trans H; rw [hy207]; with_reducible exact H2_) | (have H2_ := (Option.bind_some _ _).symm.trans H; with_reducible exact H2_) | with_reducible exact H | (rw [hy207]; exact H) | exact H
                            have Ny207 := Aside0.mk hy207
                            clear hy207
                            by_cases c17 : 0 ≤ x15_1
                            · rw [if_pos c17] at H
                              have c17b0 : decide (0 ≤ x15_1) = true := decide_eq_true c17
                              clear c17
                              by_cases c18 : x15_1 < (t203.length : Int)
                              · rw [if_pos c18] at H
                                have c18b0 : decide (x15_1 < (t203.length : Int)) = true := decide_eq_true c18
                                clear c18
                                obtain ⟨y209, hy209⟩ : ∃ y_ : List Int, y_ = (y207.set (x15_1 : Int).toNat (wrap64 ((rd y207 x15_1) + (wrap64 (Int.tdiv (rd l0 x20_2) 2))))) := ⟨_, rfl⟩
                                replace H : (if x4_2.length < 5864062014805 then (impl_HeapsBefore.l1 k2 l0 (x4_2 ++ [y209]) x15_1 (l0.length : Int) x15_1 l0 (l0.length : Int) (wrap64 (x20_2 + 1))) else (none)) = some (r1, r2) := by first | (rw [hy209]; with_reducible exact H) | (have H2_ := (Option.bind_some _ _).symm.trans H; rw [hy209]; with_reducible exact H2_) | (have H2_ := (Option.bind_some _ _).symm.trans H; with_reducible exact H2_) | with_reducible exact H | (rw [hy209]; exact H) | exact H
                                have Ny209 := Aside0.mk hy209
                                clear hy209
                                by_cases c20 : x4_2.length < 5864062014805
                                · rw [if_pos c20] at H
                                  have LMc20 := Aside0.mk c20
                                  clear c20
                                  obtain ⟨y210, hy210⟩ : ∃ y_ : List (List Int), y_ = (x4_2 ++ [y209]) := ⟨_, rfl⟩
                                  replace H : (impl_HeapsBefore.l1 k2 l0 y210 x15_1 (l0.length : Int) x15_1 l0 (l0.length : Int) (wrap64 (x20_2 + 1))) = some (r1, r2) := by first | (rw [hy210]; with_reducible exact H) | (have H2_ := (Option.bind_some _ _).symm.trans H; rw [hy210]; with_reducible exact H2_) | (have H2_ := (Option.bind_some _ _).symm.trans H; with_reducible exact H2_) | with_reducible exact H | (rw [hy210]; exact H) | exact H
                                  have Ny210 := Aside0.mk hy210
                                  clear hy210
                                  have H' := Aside0.mk H
                                  clear H
                                  have p202 : 0 ≤ (x20_2 : Int) := of_decide_eq_true (by first | (with_reducible assumption) | assumption)
                                  have q202 : x20_2 < (l0.length : Int) := of_decide_eq_true (by first | (with_reducible assumption) | assumption)
                                  obtain ⟨ad202, e202, hx202_0⟩ := Kd.at_int HR0.out x20_2 p202 q202
                                  cases e202
                                  replace hx202_0 := (HB.out.cell (World.block_lt_of_cell? w _ hx202_0)).trans hx202_0
                                  replace p202 := eq_true p202
                                  replace q202 := eq_true q202
                                  go_wp2_with (first | ((with_reducible refine gate_callee (f := 17) rfl ?_); refine goesL_ (some 38) rfl rfl Try.func17 (by kernel_rfl) rfl #[.slice (some ad202) l0.length c0] rfl (by (try simp only [List.map_toArray, List.map_cons, List.map_nil]); first | done | rfl | (simp only [List.length_drop, List.length_take]; rfl)) ?_; (with_reducible refine (slices_Clone_int_int.calls _ _ l0 t203 _ ?side1 ?side2 A14.out).mono ?_); (case side1 => repeat (first | exact (Kd.C_below HR0.out HB.out) | (with_reducible refine Kd.C_alloc ?_ _) | (with_reducible refine Kd.C_drewN ?_ _) | (with_reducible refine Kd.C_drew ?_))); (case side2 => exact HC0.out); rintro e w21 ⟨v204, rfl, ho0, hb⟩; refine ⟨_, rfl, ?_⟩; have n0_ := Aside0.mk (Kd.S_elder' (by (with_reducible repeat (first | apply Kd.S_alloc | apply Kd.S_drewN | apply Kd.S_drew)); exact HO_4.out) (Kd.R_base ho0) hb); have n1_ := Aside0.mk (Kd.R_lower ho0 (below_size (by repeat (first | (with_reducible first | exact HB.out | apply below_alloc | apply pw_below_drewN | apply below_drew1) | exact HB.out)))); have n2_ := Aside0.mk (below_step (by repeat (first | (with_reducible first | exact HB.out | apply below_alloc | apply pw_below_drewN | apply below_drew1) | exact HB.out)) hb); clear HO_4; clear HB; have HO_4 := n0_; have HO205 := n1_; have HB := n2_; clear n0_ n1_ n2_; (try clear hb); (try clear hb2); (try clear hk); (try clear hi); (try clear ho0); obtain ⟨Ao22, co22, eo22⟩ := Kd.R_slice HO205.out; subst eo22; have p206 : 0 ≤ (x20_2 : Int) := of_decide_eq_true (by first | (with_reducible assumption) | assumption); have q206 : x20_2 < (t203.length : Int) := of_decide_eq_true (by first | (with_reducible assumption) | assumption); obtain ⟨ad206, e206, hx206_0⟩ := Kd.at_int (Kd.R_reads' HO205.out).2.2 x20_2 p206 q206; cases e206; replace p206 := eq_true p206; replace q206 := eq_true q206; have p16 : 0 ≤ (x20_2 : Int) := of_decide_eq_true (by first | (with_reducible assumption) | assumption); have q16 : (x20_2 : Int) < ((t203.length : Int) : Int) := of_decide_eq_true (by first | (with_reducible assumption) | assumption); obtain ⟨go16, co16, eo16, gb16, gl16, cl16, HG16⟩ := Kd.R_form HO205.out (by omega); (first | cases eo16 | (injection eo16 with ea_ en_ ec_; (first | subst ea_ | (injection ea_ with ea_; subst ea_)); subst ec_; clear en_)); have GB16 := Aside0.mk gb16; have GG16 := Aside0.mk HG16; clear gb16 gl16 HG16; (first | simp only [add_plain] at hx206_0 | skip); obtain ⟨hx16_0, hf16_0⟩ := Kd.R_celln 0 HO205.out (x20_2 : Int) p16 q16; replace p16 := eq_true p16; replace q16 := eq_true q16; obtain ⟨hy23_, hz23_⟩ := Kd.R_celln 0 HO205.out (x20_2 : Int) (of_decide_eq_true (by first | (with_reducible assumption) | assumption)) (of_decide_eq_true (by first | (with_reducible assumption) | assumption)); have HP23 := Kd.R_putg HO205.out (x20_2 : Int) (wrap64 ((rd t203 x20_2) - (wrap64 (Int.tdiv (rd l0 x20_2) 2))))) | ((with_reducible refine gate_store (t := 3) (p := 46) rfl ?_); refine store_event (t := 3) (p := 46) (v := ?vo_w24) (w1 := (w21.setCell ⟨go16, (x20_2 : Int).toNat, none⟩ (.int .i64 (wrap64 ((rd t203 x20_2) - (wrap64 (Int.tdiv (rd l0 x20_2) 2))))))) ?hg ?ho ?hn ?hr ?_; (case ho => rfl); (case hg => rfl); (case hn => rfl); (case hr => first | (go_simp; done) | (go_simp; rfl)); intro w24 hw; have hg : w21.grownBy w24 (some go16) := (by rw [hw]; exact HP23.2); have hp_ : Kd.R (Kd.int .i64) 3 w24 w.heap.size (fun _ => True) (.slice (some ⟨go16, 0, none⟩) t203.length co22) y207 := (by rw [hw, Ny207.out]; exact HP23.1); clear HP23; have n0_ := Aside0.mk (Kd.S_after (v := (.slice (some ⟨go16, 0, none⟩) t203.length co22)) (v1 := (.slice (some ⟨go16, 0, none⟩) t203.length co22)) (ok := (fun _ => True)) (by (with_reducible repeat (first | apply Kd.S_alloc | apply Kd.S_drewN | apply Kd.S_drew)); exact HO_4.out) hg (.inl rfl)); have n1_ := Aside0.mk (hp_); have n2_ := Aside0.mk ((by rw [hw]; exact below_set (HB.out) GB16.out : Below w.heap.size w w24)); clear HO_4; clear HO205; clear HB; have HO_4 := n0_; have HO205 := n1_; have HB := n2_; clear n0_ n1_ n2_; clear hg hw hp_; have p208 : 0 ≤ (x15_1 : Int) := of_decide_eq_true (by first | (with_reducible assumption) | assumption); have q208 : x15_1 < (y207.length : Int) := (by have h_ : (x15_1 : Int) < ((t203.length : Int) : Int) := of_decide_eq_true (by first | (with_reducible assumption) | assumption); first | (have e_ := (Kd.R_reads' HO205.out).1; omega) | simpa only [Ny207.out, List.length_set] using h_); have ql208 : ((x15_1 : Int) < ((t203.length : Int) : Int)) = True := eq_true (of_decide_eq_true (by first | (with_reducible assumption) | assumption)); obtain ⟨ad208, e208, hx208_0⟩ := Kd.at_int (Kd.R_reads' HO205.out).2.2 x15_1 p208 q208; obtain rfl : (⟨go16, 0, none⟩ : Addr) = ad208 := (by injection e208); (first | simp only [add_plain] at hx208_0 | simp only [add_at] at hx208_0 | simp only [Addr.add, Nat.zero_add] at hx208_0 | skip); replace p208 := eq_true p208; replace q208 := eq_true q208; have p19 : 0 ≤ (x15_1 : Int) := of_decide_eq_true (by first | (with_reducible assumption) | assumption); have q19 : (x15_1 : Int) < ((t203.length : Int) : Int) := of_decide_eq_true (by first | (with_reducible assumption) | assumption); obtain ⟨hx19_0, hf19_0⟩ := Kd.R_celln 0 HO205.out (x15_1 : Int) p19 q19; replace p19 := eq_true p19; replace q19 := eq_true q19; obtain ⟨hy25_, hz25_⟩ := Kd.R_celln 0 HO205.out (x15_1 : Int) (of_decide_eq_true (by first | (with_reducible assumption) | assumption)) (of_decide_eq_true (by first | (with_reducible assumption) | assumption)); have HP25 := Kd.R_putg HO205.out (x15_1 : Int) (wrap64 ((rd y207 x15_1) + (wrap64 (Int.tdiv (rd l0 x20_2) 2))))) | ((with_reducible refine gate_store (t := 3) (p := 54) rfl ?_); refine store_event (t := 3) (p := 54) (v := ?vo_w26) (w1 := (w24.setCell ⟨go16, (x15_1 : Int).toNat, none⟩ (.int .i64 (wrap64 ((rd y207 x15_1) + (wrap64 (Int.tdiv (rd l0 x20_2) 2))))))) ?hg ?ho ?hn ?hr ?_; (case ho => rfl); (case hg => rfl); (case hn => rfl); (case hr => first | (go_simp; done) | (go_simp; rfl)); intro w26 hw; have hg : w24.grownBy w26 (some go16) := (by rw [hw]; exact HP25.2); have hp_ : Kd.R (Kd.int .i64) 3 w26 w.heap.size (fun _ => True) (.slice (some ⟨go16, 0, none⟩) t203.length co22) y209 := (by rw [hw, Ny209.out]; exact HP25.1); clear HP25; have n0_ := Aside0.mk (Kd.S_after (v := (.slice (some ⟨go16, 0, none⟩) t203.length co22)) (v1 := (.slice (some ⟨go16, 0, none⟩) t203.length co22)) (ok := (fun _ => True)) (by (with_reducible repeat (first | apply Kd.S_alloc | apply Kd.S_drewN | apply Kd.S_drew)); exact HO_4.out) hg (.inl rfl)); have n1_ := Aside0.mk (hp_); have n2_ := Aside0.mk ((by rw [hw]; exact below_set (HB.out) GB16.out : Below w.heap.size w w26)); clear HO_4; clear HO205; clear HB; have HO_4 := n0_; have HO205 := n1_; have HB := n2_; clear n0_ n1_ n2_; clear hg hw hp_) | ((with_reducible refine gate_builtin (b := .append) (xs := #[.tmp 55, .tmp 57]) rfl ?_); at_builtin; refine Kd.S_append (Kd.slice 3 (Kd.int .i64)) (w0 := w) w.heap.size rfl (.tmp 55) (.tmp 57) 23 22 (.slice none 0 0) 24 rfl Try.underlying23 info22 rfl (by decide) (by omega) u4 x4_2 y209 [.slice (some ⟨go16, 0, none⟩) t203.length co22] (fun _ => True) (fun k_ => some k_ = (.slice (some ⟨go16, 0, none⟩) t203.length co22 : Value).ownBlock) rfl rfl ?aP (fun k_ hk_ => ((Kd.R_mono (ok' := fun k_ => ((fun _ => True)) k_ ∧ some k_ ≠ (u4 : Value).ownBlock) (Kd.R_apart' (HO205.out) (Kd.S_typed HO_4.out) (by decide)) (fun k_ hk => ⟨trivial, hk.2⟩))).1 k_ hk_.symm) ?aF ?aO ?aB ?aS ?aL ?_; (case aP => exact Kd.M_row (Kd.R_mono (Kd.R_tight rfl (Kd.R_mono (ok' := fun k_ => ((fun _ => True)) k_ ∧ some k_ ≠ (u4 : Value).ownBlock) (Kd.R_apart' (HO205.out) (Kd.S_typed HO_4.out) (by decide)) (fun k_ hk => ⟨trivial, hk.2⟩))) (fun _ h_ => h_))); (case aB => exact (by repeat (first | (with_reducible first | exact HB.out | apply below_alloc | apply pw_below_drewN | apply below_drew1) | exact HB.out))); (case aF => exact (fun _ _ => trivial)); (case aO => exact (by (with_reducible repeat (first | apply Kd.S_alloc | apply Kd.S_drewN | apply Kd.S_drew)); exact Kd.S_mono HO_4.out (fun k_ hk => ⟨trivial, fun e_ => hk.2 e_⟩))); (case aS => exact (below_size (by repeat (first | (with_reducible first | exact HB.out | apply below_alloc | apply pw_below_drewN | apply below_drew1) | exact HB.out)))); (case aL => have := LMc20.out; omega); intro v211 w27 ho hb hg hat; rw [← Ny210.out] at ho; have n0_ := Aside0.mk (hb); have n1_ := Aside0.mk (ho); clear HB; clear HO_4; clear HO205; have HB := n0_; have HO212 := n1_; clear n0_ n1_; clear ho hb hg hat))
                                  go_roundg k2
                                  case measure => have := HK1.out; have := HK2.out; omega
                                  case rel => exact ⟨(y210), (wrap64 (x20_2 + 1)), (by first | rfl | (simp; done) | (simp [*]; done)), H', ⟨by have := HK1.out; have := HK2.out; omega⟩, ⟨by (with_reducible repeat (first | apply Kd.S_alloc | apply Kd.S_drewN | apply Kd.S_drew)); exact HO212.out⟩, ⟨by repeat (first | (with_reducible first | exact HB.out | apply below_alloc | apply pw_below_drewN | apply below_drew1) | exact HB.out)⟩⟩
                                · rw [if_neg c20] at H
                                  exact absurd H (by simp)
                              · rw [if_neg c18] at H
                                exact absurd H (by simp)
                            · rw [if_neg c17] at H
                              exact absurd H (by simp)
                          · rw [if_neg c15] at H
                            exact absurd H (by simp)
                  · rw [if_neg c10] at H
                    exact absurd H (by simp)
                · rw [if_neg c9] at H
                  exact absurd H (by simp)
              · rw [if_neg c8] at H
                have c8b0 : decide (x20_2 < (l0.length : Int)) = false := decide_eq_false c8
                clear c8
                have H' := Aside0.mk H
                clear H
                go_wp2
                go_roundg k2
                case measure => have := HK1.out; have := HK2.out; omega
                case rel => exact ⟨(x4_2), (wrap64 (x15_1 + 1)), (by first | rfl | (simp; done) | (simp [*]; done)), H', ⟨by have := HK1.out; have := HK2.out; omega⟩, ⟨by (with_reducible repeat (first | apply Kd.S_alloc | apply Kd.S_drewN | apply Kd.S_drew)); exact HO_4.out⟩, ⟨by repeat (first | (with_reducible first | exact HB.out | apply below_alloc | apply pw_below_drewN | apply below_drew1) | exact HB.out)⟩⟩
        · rw [if_neg c7] at H
          have c7b0 : decide (x15_1 < (l0.length : Int)) = false := decide_eq_false c7
          clear c7
          obtain ⟨h12_, hs_, hn_, rfl, rfl⟩ := hb.fin_eq H
          clear H
          have HSO := Aside0.mk (hb.sort HO_4.out h12_)
          have HL_ := Aside0.mk h12_
          have HS_ := Aside0.mk hs_
          have HN_ := Aside0.mk hn_
          clear h12_ hs_ hn_
          go_wp2_with (first
            | (go_at_call 18; (with_reducible refine HSO.out.mono ?_); rintro e w' ⟨rfl, hS, hB⟩; have HS2 := Aside0.mk hS; have HB2 := Aside0.mk (hB _ _ (Nat.le_refl _) HB.out); clear hS hB)
            | (go_at_call 20; (with_reducible refine (hb.compact HS2.out (by rw [hb.sorted_length]; exact HL_.out) HS_.out HN_.out).mono ?_); rintro e w' ⟨rfl, q, rfl⟩))
          go_ret2
          exact ⟨_, rfl, Kd.S_drewN HS2.out _, pw_below_drewN HB2.out _⟩
  · replace c3 := Bool.eq_false_iff.mpr c3
    subst c3
    have H1 : (some (([] : List (List Int)), false)) = some (r1, r2) := by rw [if_neg (show ¬ (false = true) by decide)] at H; exact H
    clear H
    have H := H1
    clear H1
    simp only [Option.some.injEq, Prod.mk.injEq] at H
    obtain ⟨rfl, rfl⟩ := H
    go_enter Try.func6, Try.ntmps6
    go_wp2_with (first | ((with_reducible refine gate_callee (f := 16) rfl ?_); refine goesL_ (some 10) rfl rfl Try.func16 (by kernel_rfl) rfl #[.slice A0 l0.length c0] rfl (by (try simp only [List.map_toArray, List.map_cons, List.map_nil]); first | done | rfl | (simp only [List.length_drop, List.length_take]; rfl)) ?_; (with_reducible refine (impl_AreFewHeaps.calls k _ _ l0 false _ ?side1 ?side2 A2.out).mono ?_); (case side1 => repeat (first | exact HR0.out | (with_reducible refine Kd.C_alloc ?_ _) | (with_reducible refine Kd.C_drewN ?_ _) | (with_reducible refine Kd.C_drew ?_))); (case side2 => exact HC0.out); rintro e w28 ⟨rfl, hb⟩; refine ⟨_, rfl, ?_⟩; have n0_ := Aside0.mk (below_step (by repeat (first | (with_reducible first | exact HB.out | apply below_alloc | apply pw_below_drewN | apply below_drew1) | exact HB.out)) hb); clear HB; have HB := n0_; clear n0_; (try clear hb); (try clear hb2); (try clear hk); (try clear hi)))
    go_ret2
    exact ⟨_, by first | rfl | (simp [errW_none, errW_some] <;> rfl) | (simp [*, errW_none, errW_some] <;> rfl), by first | exact Kd.S_nil _ _ _ _ _ | exact Kd.N_nil _ _ _ _ _ | exact Kd.V_nil _ _ _ _ _ | exact Kd.Q_nil _ _ _ _ _ | exact Kd.R_nil _ _ _ _ _, by repeat (first | (with_reducible first | exact HB.out | apply below_alloc | apply pw_below_drewN | apply below_drew1) | exact HB.out)⟩


end Go.Proofs.Ytcdlflmeimbdaaa.PFnExactHeapsBefore
