/- For all heaps that can be equal, the moves that are told make them equal with as many stones as told, and so do the flows between neighbours, whose stones are carried as far as told. (P1) It has no conditions. -/
import Derived.Test.YtdhhphngabamoaaPFnEverySharingx6
namespace Go.Proofs.Ytdhhphngabamoaa.Pure
open Go.RowKit Go.Proofs.Ytdhhphngabamoaa.PFnEverySharing Go.Proofs.YtdhhphngabamoaaW.PrintWords Go.Proofs.YtdhhphngabamoaaW.PrintLast
set_option linter.unusedVariables false
set_option linter.unusedSimpArgs false

/-! ### small words -/
theorem w64 (n : Int) (h1 : -9223372036854775808 ≤ n) (h2 : n ≤ 9223372036854775807) : wrap64 n = n := by unfold wrap64; omega
theorem w64s (i : Nat) (h : i < 9223372036854775807) : wrap64 ((i : Int) + 1) = ((i + 1 : Nat) : Int) := by unfold wrap64; omega
theorem rd_at (l : List Int) (i : Nat) (h : i < l.length) : rd l (i : Int) = l[i] := by simp [rd, List.getD_eq_getElem?_getD, List.getElem?_eq_getElem h]
theorem wf64 {x : Int} (h : (Lit.int .i64 x).wf = true) : -9223372036854775808 ≤ x ∧ x ≤ 9223372036854775807 := by
  simp [Lit.wf, IntKind.min, IntKind.max, IntKind.bits, IntKind.signed] at h
  omega
/-- The sum of a list's values under f. -/
def tot (f : Int → Int) : List Int → Int
  | [] => 0
  | x :: xs => f x + tot f xs
theorem rd_set_eq (v : List Int) (i : Nat) (x : Int) (h : i < v.length) : rd (v.set i x) (i : Int) = x := by
  simp [rd, List.getD_eq_getElem?_getD, h]
theorem rd_set_neN (v : List Int) (i j : Nat) (x : Int) (h : i ≠ j) : rd (v.set i x) (j : Int) = rd v (j : Int) := by
  simp [rd, List.getD_eq_getElem?_getD, List.getElem?_set_ne h]
theorem rd_cons_succ (y : Int) (ys : List Int) (i : Nat) : rd (y :: ys) ((i + 1 : Nat) : Int) = rd ys (i : Int) := by
  unfold rd
  rw [show (((i + 1 : Nat) : Int)).toNat = i + 1 by omega, show ((i : Int)).toNat = i by omega]
  simp
theorem tot_set (f : Int → Int) : ∀ (v : List Int) (i : Nat) (x : Int), i < v.length → tot f (v.set i x) = tot f v - f (rd v (i : Int)) + f x
  | [], i, x, h => by simp at h
  | y :: ys, 0, x, h => by simp [tot, rd]; omega
  | y :: ys, i + 1, x, h => by
    have := tot_set f ys i x (by simpa using h)
    rw [List.set_cons_succ, tot, tot, this, rd_cons_succ]
    omega
theorem mem_rd {v : List Int} {x : Int} (h : x ∈ v) : ∃ a : Nat, a < v.length ∧ rd v (a : Int) = x := by
  obtain ⟨a, ha, e⟩ := List.mem_iff_getElem.mp h
  exact ⟨a, ha, by rw [rd_at v a ha, e]⟩
theorem rd_mem {v : List Int} {a : Nat} (h : a < v.length) : rd v (a : Int) ∈ v := by
  rw [rd_at v a h]; exact List.getElem_mem h
theorem tot_nonpos : ∀ (v : List Int), (∀ x ∈ v, x ≤ 0) → tot id v ≤ 0 ∧ (tot id v = 0 → ∀ x ∈ v, x = 0)
  | [], _ => ⟨by simp [tot], by simp⟩
  | y :: ys, h => by
    have h1 := tot_nonpos ys (fun x hx => h x (by simp [hx]))
    have h2 := h y (by simp)
    constructor
    · simp only [tot, id]; omega
    · intro e
      simp only [tot, id] at e
      intro x hx
      rcases List.mem_cons.mp hx with rfl | hx
      · omega
      · exact h1.2 (by omega) x hx
theorem tot_nonneg : ∀ (v : List Int), (∀ x ∈ v, 0 ≤ x) → 0 ≤ tot id v ∧ (tot id v = 0 → ∀ x ∈ v, x = 0)
  | [], _ => ⟨by simp [tot], by simp⟩
  | y :: ys, h => by
    have h1 := tot_nonneg ys (fun x hx => h x (by simp [hx]))
    have h2 := h y (by simp)
    constructor
    · simp only [tot, id]; omega
    · intro e
      simp only [tot, id] at e
      intro x hx
      rcases List.mem_cons.mp hx with rfl | hx
      · omega
      · exact h1.2 (by omega) x hx
theorem tot_bound (f : Int → Int) (B : Int) : ∀ (v : List Int), (∀ x ∈ v, -B ≤ f x ∧ f x ≤ B) → -(B * v.length) ≤ tot f v ∧ tot f v ≤ B * v.length
  | [], _ => by simp [tot]
  | y :: ys, h => by
    have h1 := tot_bound f B ys (fun x hx => h x (by simp [hx]))
    have h2 := h y (by simp)
    simp only [tot, List.length_cons]
    have e : B * ((ys.length + 1 : Nat) : Int) = B * ys.length + B := by rw [Int.natCast_add, Int.mul_add]; simp
    omega
theorem idxP_none (p : Int → Bool) : ∀ (l : List Int) (k : Int), (∀ x ∈ l, p x = false) → idxP p l k = -1
  | [], _, _ => rfl
  | x :: xs, k, h => by
    simp only [idxP, h x (by simp), Bool.false_eq_true, if_false]
    exact idxP_none p xs (k + 1) (fun y hy => h y (by simp [hy]))
theorem idxP_some (p : Int → Bool) : ∀ (l : List Int) (k : Int) (i : Nat), i < l.length → (∀ a : Nat, a < i → p (rd l (a : Int)) = false) → p (rd l (i : Int)) = true → idxP p l k = k + i
  | [], _, i, h, _, _ => by simp at h
  | x :: xs, k, 0, _, _, h => by
    have : p x = true := by simpa [rd] using h
    simp [idxP, this]
  | x :: xs, k, i + 1, hi, h, hp => by
    have h0 : p x = false := by simpa [rd] using h 0 (by omega)
    simp only [idxP, h0, Bool.false_eq_true, if_false]
    rw [idxP_some p xs (k + 1) i (by simpa using hi) (fun a ha => by rw [← rd_cons_succ x]; exact h (a + 1) (by omega)) (by rw [← rd_cons_succ x]; exact hp)]
    omega
/-- Whether a move can be made. -/
def canM (l : List Int) (f t c : Int) : Bool := decide (0 ≤ f) && decide (f ≤ (l.length : Int) - 1) && decide (0 ≤ t) && decide (t ≤ (l.length : Int) - 1) && decide (f ≠ t) && decide (1 ≤ c) && decide (c ≤ rd l f)
theorem canM_in {l : List Int} {f t c : Int} (h : canM l f t c = true) : 0 ≤ f ∧ f < (l.length : Int) ∧ 0 ≤ t ∧ t < (l.length : Int) ∧ f ≠ t ∧ 1 ≤ c ∧ c ≤ rd l f := by
  simp [canM] at h
  omega
/-- The heaps behind a move. -/
def mMade (l : List Int) (f t c : Int) : List Int := (l.set f.toNat (wrap64 (rd l f - c))).set t.toNat (wrap64 (rd (l.set f.toNat (wrap64 (rd l f - c))) t + c))
theorem mMade_length (l : List Int) (f t c : Int) : (mMade l f t c).length = l.length := by simp [mMade]
def playM : List S52 → List Int → List Int × Bool
  | [], out => (out, true)
  | m :: ms, out => if canM out m.f0 m.f1 m.f2 = true then playM ms (mMade out m.f0 m.f1 m.f2) else ([], false)
theorem playM_len : ∀ (ms : List S52) (out : List Int), out.length ≤ 1048576 → (playM ms out).1.length ≤ 1048576
  | [], out, h => h
  | m :: ms, out, h => by
    unfold playM
    split
    · exact playM_len ms _ (by rw [mMade_length]; exact h)
    · simp
theorem rdM_app' (done : List S52) (x : S52) (xs : List S52) : rd_T52 (done ++ x :: xs) (done.length : Int) = x := by simp [rd_T52]
theorem mMade_rd (v : List Int) (i j a : Nat) (c : Int) (hi : i < v.length) (hj : j < v.length) (hne : i ≠ j) : rd (mMade v i j c) (a : Int) = if a = i then wrap64 (rd v i - c) else if a = j then wrap64 (rd v j + c) else rd v a := by
  unfold mMade
  simp only [Int.toNat_natCast]
  by_cases h1 : a = j
  · subst h1
    rw [rd_set_eq _ _ _ (by simpa using hj), if_neg (Ne.symm hne), if_pos rfl, rd_set_neN _ _ _ _ hne]
  · rw [rd_set_neN _ _ _ _ (Ne.symm h1)]
    by_cases h2 : a = i
    · subst h2
      rw [rd_set_eq _ _ _ hi, if_pos rfl]
    · rw [rd_set_neN _ _ _ _ (Ne.symm h2), if_neg h2, if_neg h1]
theorem rd_map_add (v : List Int) (s : Int) (i : Nat) (h : i < v.length) : rd (v.map (· + s)) (i : Int) = rd v (i : Int) + s := by
  rw [rd_at _ i (by simpa using h), rd_at v i h]; simp
theorem mMade_map (v : List Int) (i j : Nat) (c s : Int) (hi : i < v.length) (hj : j < v.length) (hne : i ≠ j) (h0 : 0 ≤ s ∧ s ≤ 1000000) (hc : 0 ≤ c ∧ c ≤ 1000000)
    (bi : -1000000 ≤ rd v i ∧ rd v i ≤ 1000000) (bj : -1000000 ≤ rd v j ∧ rd v j ≤ 1000000) : mMade (v.map (· + s)) i j c = (mMade v i j c).map (· + s) := by
  unfold mMade
  simp only [Int.toNat_natCast]
  rw [rd_map_add v s i hi, rd_set_neN _ _ _ _ hne, rd_set_neN _ _ _ _ hne, rd_map_add v s j hj, w64 (rd v i + s - c) (by omega) (by omega), w64 (rd v i - c) (by omega) (by omega), w64 (rd v j + s + c) (by omega) (by omega), w64 (rd v j + c) (by omega) (by omega), List.map_set, List.map_set]
  congr 1
  · congr 1; omega
  · omega
def cnt : List S52 → Int
  | [] => 0
  | m :: ms => m.f2 + cnt ms
structure GoodV (n : Nat) (v : List Int) : Prop where
  len : v.length = n
  bnd : ∀ x ∈ v, -1000000 ≤ x ∧ x ≤ 1000000
  sum : tot id v = 0
theorem GoodV.made {n : Nat} {v : List Int} (h : GoodV n v) (i j : Nat) (c : Int) (hi : i < n) (hj : j < n) (hne : i ≠ j) (h1 : 1 ≤ c) (h2 : c ≤ rd v i) (h3 : c ≤ -(rd v j)) : GoodV n (mMade v i j c) ∧ tot (max 0) (mMade v i j c) = tot (max 0) v - c := by
  have li := h.len
  have bi := h.bnd _ (rd_mem (show i < v.length by omega))
  have bj := h.bnd _ (rd_mem (show j < v.length by omega))
  have eT : ∀ f, tot f (mMade v i j c) = tot f v - f (rd v i) + f (rd v i - c) - f (rd v j) + f (rd v j + c) := by
    intro f
    unfold mMade
    simp only [Int.toNat_natCast]
    rw [tot_set f _ j _ (by simpa using (by omega : j < v.length)), tot_set f v i _ (by omega), rd_set_neN _ _ _ _ hne, w64 (rd v i - c) (by omega) (by omega), w64 (rd v j + c) (by omega) (by omega)]
  refine ⟨⟨by rw [mMade_length]; exact h.len, ?_, ?_⟩, ?_⟩
  · intro x hx
    obtain ⟨a, ha, e⟩ := mem_rd hx
    rw [mMade_length] at ha
    rw [mMade_rd v i j a c (by omega) (by omega) hne, w64 (rd v i - c) (by omega) (by omega), w64 (rd v j + c) (by omega) (by omega)] at e
    have ba := h.bnd _ (rd_mem ha)
    split at e
    · omega
    · split at e <;> omega
  · rw [eT, h.sum]; simp only [id]; omega
  · rw [eT]; omega
def nz (x : Int) : Int := if x = 0 then 0 else 1
theorem nz_nonneg : ∀ v : List Int, 0 ≤ tot nz v ∧ tot nz v ≤ v.length
  | [] => by simp [tot]
  | x :: xs => by
    have := nz_nonneg xs
    simp only [tot, nz, List.length_cons]
    split <;> omega
theorem GoodV.made_nz {n : Nat} {v : List Int} (h : GoodV n v) (i j : Nat) (c : Int) (hi : i < n) (hj : j < n) (hne : i ≠ j) (h1 : 1 ≤ c) (h2 : c ≤ rd v i) (h3 : c ≤ -(rd v j)) (h4 : c = rd v i ∨ c = -(rd v j)) : tot nz (mMade v i j c) ≤ tot nz v - 1 := by
  have li := h.len
  have bi := h.bnd _ (rd_mem (show i < v.length by omega))
  have bj := h.bnd _ (rd_mem (show j < v.length by omega))
  unfold mMade
  simp only [Int.toNat_natCast]
  rw [tot_set nz _ j _ (by simpa using (by omega : j < v.length)), tot_set nz v i _ (by omega), rd_set_neN _ _ _ _ hne, w64 (rd v i - c) (by omega) (by omega), w64 (rd v j + c) (by omega) (by omega)]
  have a1 : nz (rd v i) = 1 := by unfold nz; rw [if_neg (by omega)]
  have a2 : nz (rd v j) = 1 := by unfold nz; rw [if_neg (by omega)]
  have a3 : nz (rd v i - c) ≤ 1 := by unfold nz; split <;> omega
  have a4 : nz (rd v j + c) ≤ 1 := by unfold nz; split <;> omega
  rcases h4 with e | e
  · have : nz (rd v i - c) = 0 := by unfold nz; rw [if_pos (by omega)]
    omega
  · have : nz (rd v j + c) = 0 := by unfold nz; rw [if_pos (by omega)]
    omega
theorem share_end {n : Nat} {v : List Int} (s : Int) (h : GoodV n v) (hi : ∀ a : Nat, a < n → rd v a ≤ 0) : v.map (· + s) = List.replicate n s ∧ tot (max 0) v = 0 := by
  have h0 : ∀ x ∈ v, x = 0 := (tot_nonpos v (fun x hx => by obtain ⟨a, ha, e⟩ := mem_rd hx; rw [← e]; exact hi a (by rw [← h.len]; exact ha))).2 h.sum
  have e : v = List.replicate n 0 := List.eq_replicate_iff.mpr ⟨h.len, h0⟩
  constructor
  · rw [e]; simp
  · rw [e]
    clear e h0 hi h
    induction n with
    | zero => rfl
    | succ n ih => rw [List.replicate_succ, tot, ih]; rfl
theorem spec_l1Least.is (x y : Int) : spec_l1Least.f x y = some (mn x y) := by
  unfold spec_l1Least.f mn
  by_cases h : x < y
  · rw [if_pos h]; congr 1; omega
  · rw [if_neg h]; congr 1; omega
theorem impl_greedy_move (n : Nat) (v : List Int) (out : List S52) (i j : Nat) (c : Int) (g : GoodV n v) (hi : i < n) (hj : j < n) (pi : rd v i > 0) (pj : rd v j < 0) (bi : ∀ a : Nat, a < i → rd v a ≤ 0) (bj : ∀ b : Nat, b < j → 0 ≤ rd v b) (hc : c = mn (rd v i) (wrap64 (-(rd v j)))) (ho : out.length ≤ 1048576) (k : Nat) :
    impl_SharingMoves.l0 (k + 1) v out = impl_SharingMoves.l0 k (mMade v i j c) (out ++ [⟨i, j, c⟩]) := by
  have li := g.len
  have e1 : slices_IndexFunc_int_int_impl_SharingMoves_1.f v () = some (i : Int) := by
    unfold slices_IndexFunc_int_int_impl_SharingMoves_1.f
    rw [idxP_some _ v 0 i (by omega) (fun a ha => by have := bi a ha; simp; omega) (by simp; omega)]
    simp
  have e2 : slices_IndexFunc_int_int_impl_SharingMoves_2.f v () = some (j : Int) := by
    unfold slices_IndexFunc_int_int_impl_SharingMoves_2.f
    rw [idxP_some _ v 0 j (by omega) (fun a ha => by have := bj a ha; simp; omega) (by simp; omega)]
    simp
  simp only [impl_SharingMoves.l0, e1, e2, Option.bind_some]
  rw [if_neg (by omega), if_pos (by omega), if_pos (by omega), if_pos (by omega), if_pos (by omega), if_pos (by omega), ← hc]
  rfl
theorem impl_greedy_end (n : Nat) (v : List Int) (out : List S52) (g : GoodV n v) (bi : ∀ a : Nat, a < n → rd v a ≤ 0) : Ev (fun k => impl_SharingMoves.l0 k v out) (out, true) := by
  have e1 : slices_IndexFunc_int_int_impl_SharingMoves_1.f v () = some (-1) := by
    unfold slices_IndexFunc_int_int_impl_SharingMoves_1.f
    rw [idxP_none _ v 0 (fun x hx => by obtain ⟨a, ha, e⟩ := mem_rd hx; have := bi a (by rw [← g.len]; exact ha); simp; omega)]
  refine Ev.step (f := fun _ => some (out, true)) (fun k => ?_) (Ev.now _)
  simp only [impl_SharingMoves.l0, e1, Option.bind_some]
  rfl
theorem sharing (n : Nat) (hn : n ≤ 12) (s : Int) (hs : 0 ≤ s ∧ s ≤ 1000000) : ∀ (e i : Nat) (v : List Int) (out : List S52), i + e = n → GoodV n v → (∀ a : Nat, a < i → rd v a ≤ 0) → out.length + e * 12 ≤ 144 →
    ∃ ms : List S52, ms.length ≤ e * 12 ∧ Ev (fun k => spec_SharingMoves.l0 k v out (n : Int) i) (out ++ ms, true) ∧ Ev (fun k => impl_SharingMoves.l0 k v out) (out ++ ms, true) ∧ playM ms (v.map (· + s)) = (List.replicate n s, true) ∧ cnt ms = tot (max 0) v ∧ (ms.length : Int) ≤ tot nz v ∧ (∀ m ∈ ms, 1 ≤ m.f2 ∧ m.f2 ≤ 1000000) := by
  intro e
  induction e with
  | zero =>
    intro i v out hi g bi ho
    obtain ⟨e1, e2⟩ := share_end s g (by rw [← hi]; exact bi)
    refine ⟨[], by simp, ?_, by simpa using impl_greedy_end n v out g (by rw [← hi]; exact bi), by simp [playM, e1], by simp [cnt, e2], by simpa using (nz_nonneg v).1, by simp⟩
    refine Ev.step (f := fun _ => some (out, true)) (fun k => ?_) (by simpa using Ev.now _)
    simp only [spec_SharingMoves.l0]
    rw [if_neg (by omega)]
  | succ e ih =>
    intro i v out hi g bi ho
    have inner : ∀ (d j : Nat) (v : List Int) (out : List S52), j + d = n → GoodV n v → (∀ a : Nat, a < i → rd v a ≤ 0) → (0 < rd v i → ∀ b : Nat, b < j → 0 ≤ rd v b) → out.length + d + e * 12 ≤ 144 →
        ∃ ms : List S52, ms.length ≤ d + e * 12 ∧ Ev (fun k => spec_SharingMoves.l1 k v out i (n : Int) i (n : Int) j) (out ++ ms, true) ∧ Ev (fun k => impl_SharingMoves.l0 k v out) (out ++ ms, true) ∧ playM ms (v.map (· + s)) = (List.replicate n s, true) ∧ cnt ms = tot (max 0) v ∧ (ms.length : Int) ≤ tot nz v ∧ (∀ m ∈ ms, 1 ≤ m.f2 ∧ m.f2 ≤ 1000000) := by
      intro d
      induction d with
      | zero =>
        intro j v out hj g bi bj ho
        have hi' : rd v i ≤ 0 := by
          by_cases c : 0 < rd v i
          · have := (tot_nonneg v (fun x hx => by obtain ⟨a, ha, e⟩ := mem_rd hx; rw [← e]; exact bj c a (by rw [g.len] at ha; omega))).2 g.sum (rd v i) (rd_mem (by rw [g.len]; omega))
            omega
          · omega
        obtain ⟨ms, h0, h1, h2, h3, h4, h5, h6⟩ := ih (i + 1) v out (by omega) g (fun a ha => by
          by_cases h : a < i
          · exact bi a h
          · have : a = i := by omega
            subst this; exact hi') (by omega)
        refine ⟨ms, by omega, Ev.step (f := fun k => spec_SharingMoves.l0 k v out (n : Int) ((i + 1 : Nat) : Int)) (fun k => ?_) h1, h2, h3, h4, h5, h6⟩
        simp only [spec_SharingMoves.l1]
        rw [if_neg (by omega), w64s i (by omega)]
      | succ d ihd =>
        intro j v out hj g bi bj ho
        have li := g.len
        by_cases ci : rd v i > 0
        · by_cases cj : rd v j < 0
          · have bI := g.bnd _ (rd_mem (show i < v.length by omega))
            have bJ := g.bnd _ (rd_mem (show j < v.length by omega))
            have hne : i ≠ j := by intro h; subst h; omega
            have hm : mn (rd v i) (wrap64 (-(rd v j))) = min (rd v i) (-(rd v j)) := by rw [w64 (-(rd v j)) (by omega) (by omega)]; unfold mn; omega
            generalize hc : mn (rd v i) (wrap64 (-(rd v j))) = c at hm
            have h1 : 1 ≤ c := by omega
            have h2 : c ≤ rd v i := by omega
            have h3 : c ≤ -(rd v j) := by omega
            obtain ⟨g', t'⟩ := g.made i j c (by omega) (by omega) hne h1 h2 h3
            have r' : ∀ a : Nat, rd (mMade v i j c) (a : Int) = if a = i then rd v i - c else if a = j then rd v j + c else rd v a := by
              intro a
              rw [mMade_rd v i j a c (by omega) (by omega) hne, w64 (rd v i - c) (by omega) (by omega), w64 (rd v j + c) (by omega) (by omega)]
            obtain ⟨ms, h0, e1, e2, e3, e4, e5, e6⟩ := ihd (j + 1) (mMade v i j c) (out ++ [⟨i, j, c⟩]) (by omega) g' (fun a ha => by
                rw [r', if_neg (by omega)]
                have := bi a ha
                split <;> omega) (fun hp b hb => by
                rw [r', if_pos rfl] at hp
                rw [r']
                have hcj : c = -(rd v j) := by omega
                split
                · omega
                · split
                  · omega
                  · exact bj ci b (by omega)) (by simp; omega)
            refine ⟨⟨i, j, c⟩ :: ms, by simp; omega, Ev.step (f := fun k => spec_SharingMoves.l1 k (mMade v i j c) (out ++ [⟨i, j, c⟩]) i (n : Int) i (n : Int) ((j + 1 : Nat) : Int)) (fun k => ?_) (by simpa using e1), Ev.step (f := fun k => impl_SharingMoves.l0 k (mMade v i j c) (out ++ [⟨i, j, c⟩])) (fun k => ?_) (by simpa using e2), ?_, ?_, ?_, ?_⟩
            · simp only [spec_SharingMoves.l1, spec_l1Least.is, Option.bind_some, hc]
              rw [if_pos (by omega), if_pos (by omega), if_pos (by omega), if_pos ci, if_pos (by omega), if_pos (by omega), if_pos cj, if_pos (by omega), w64s j (by omega)]
              rfl
            · exact impl_greedy_move n v out i j c g (by omega) (by omega) ci cj bi (bj ci) hc.symm (by omega) k
            · have hcan : canM (v.map (· + s)) i j c = true := by
                have hi' := rd_map_add v s i (by omega)
                simp [canM, hi']
                omega
              rw [playM, if_pos hcan, mMade_map v i j c s (by omega) (by omega) hne hs (by omega) bI bJ]
              exact e3
            · show c + cnt ms = _
              rw [e4, t']; omega
            · have := g.made_nz i j c (by omega) (by omega) hne h1 h2 h3 (by omega)
              simp only [List.length_cons]
              omega
            · intro m hm
              rcases List.mem_cons.mp hm with rfl | hm
              · exact ⟨h1, by show c ≤ _; omega⟩
              · exact e6 m hm
          · obtain ⟨ms, h0, e1, e2, e3, e4, e5, e6⟩ := ihd (j + 1) v out (by omega) g bi (fun hp b hb => by
                rcases Nat.lt_or_ge b j with h | h
                · exact bj hp b h
                · have : b = j := by omega
                  subst this; omega) (by omega)
            refine ⟨ms, by omega, Ev.step (f := fun k => spec_SharingMoves.l1 k v out i (n : Int) i (n : Int) ((j + 1 : Nat) : Int)) (fun k => ?_) e1, e2, e3, e4, e5, e6⟩
            simp only [spec_SharingMoves.l1]
            rw [if_pos (by omega), if_pos (by omega), if_pos (by omega), if_pos ci, if_pos (by omega), if_pos (by omega), if_neg cj, w64s j (by omega)]
        · obtain ⟨ms, h0, e1, e2, e3, e4, e5, e6⟩ := ihd (j + 1) v out (by omega) g bi (fun hp b hb => by omega) (by omega)
          refine ⟨ms, by omega, Ev.step (f := fun k => spec_SharingMoves.l1 k v out i (n : Int) i (n : Int) ((j + 1 : Nat) : Int)) (fun k => ?_) e1, e2, e3, e4, e5, e6⟩
          simp only [spec_SharingMoves.l1]
          rw [if_pos (by omega), if_pos (by omega), if_pos (by omega), if_neg ci, w64s j (by omega)]
    obtain ⟨ms, h0, e1, e2, e3, e4, e5, e6⟩ := inner n 0 v out (by omega) g bi (fun _ b hb => by omega) (by omega)
    refine ⟨ms, by omega, Ev.step (f := fun k => spec_SharingMoves.l1 k v out i (n : Int) i (n : Int) 0) (fun k => ?_) e1, e2, e3, e4, e5, e6⟩
    simp only [spec_SharingMoves.l0]
    rw [if_pos (by omega), g.len]
theorem spec_l1In.is (x a b : Int) : spec_l1In.f x a b = some (decide (a ≤ x) && decide (x ≤ b)) := by
  unfold spec_l1In.f
  by_cases h : x ≥ a
  · simp [h, show a ≤ x from h]
  · simp [h, show ¬ a ≤ x from h]
def allIn (l : List Int) (a b : Int) : Bool := l.all fun x => decide (a ≤ x) && decide (x ≤ b)
theorem spec_l1All.l0ev (a b : Int) (n : Int) (hn : n ≤ 1048576) : ∀ (tl done : List Int), ((done ++ tl).length : Int) = n → Ev (fun k => spec_l1All.l0 k a b (done ++ tl) n done.length) (allIn tl a b) := by
  intro tl
  induction tl with
  | nil =>
    intro done hd
    refine Ev.step (f := fun _ => some true) (fun k => ?_) (Ev.now _)
    simp only [spec_l1All.l0]
    simp at hd
    rw [if_neg (by omega)]
  | cons x xs ih =>
    intro done hd
    have hd' : (done.length : Int) + (xs.length + 1) = n := by simpa using hd
    have hx : rd (done ++ x :: xs) (done.length : Int) = x := by simp [rd]
    by_cases hp : (decide (a ≤ x) && decide (x ≤ b)) = true
    · have h := ih (done ++ [x]) (by simp; omega)
      refine Ev.step (f := fun k => spec_l1All.l0 k a b (done ++ [x] ++ xs) n ((done ++ [x]).length : Int)) (fun k => ?_) ?_
      · simp only [spec_l1All.l0]
        rw [if_pos (by omega), if_pos (by omega), if_pos (by simp; omega), hx, spec_l1In.is, hp]
        simp only [Option.bind_some, if_true]
        rw [w64s done.length (by omega)]
        simp
      · rw [show allIn (x :: xs) a b = allIn xs a b by simp [allIn] at hp ⊢; simp [hp]]
        exact h
    · refine Ev.step (f := fun _ => some false) (fun k => ?_) (by rw [show allIn (x :: xs) a b = false by simp [allIn] at hp ⊢; intro h1 h2; exact absurd (hp h1) (by omega)]; exact Ev.now _)
      simp only [spec_l1All.l0]
      rw [if_pos (by omega), if_pos (by omega), if_pos (by simp; omega), hx, spec_l1In.is]
      simp only [Option.bind_some]
      rw [if_neg hp]
theorem spec_l1All.ev (l : List Int) (a b : Int) (hl : l.length ≤ 1048576) : Ev (fun k => spec_l1All.f k l a b) (allIn l a b) := by
  have h := spec_l1All.l0ev a b l.length (by omega) l [] (by simp)
  simpa [spec_l1All.f] using h
theorem impl_within.is (x a b : Int) : impl_within.f x a b = some (decide (a ≤ x) && decide (x ≤ b)) := by
  unfold impl_within.f
  by_cases h : x ≥ a
  · simp [h, show a ≤ x from h]
  · simp [h, show ¬ a ≤ x from h]
def isHeaps (l : List Int) : Bool := (decide (1 ≤ (l.length : Int)) && decide ((l.length : Int) ≤ 12)) && allIn l 0 1000
theorem spec_hpGood.ev (l : List Int) (hl : l.length ≤ 1048576) : Ev (fun k => spec_hpGood.f k l) (isHeaps l) := by
  unfold spec_hpGood.f isHeaps
  simp only [spec_l1In.is, Option.bind_some]
  by_cases h : (decide (1 ≤ (l.length : Int)) && decide ((l.length : Int) ≤ 12)) = true
  · simp only [h, if_true, Bool.true_and]
    exact Ev.bind (spec_l1All.ev l 0 1000 hl) (Ev.now _)
  · simp only [h]
    simpa using Ev.now false
theorem impl_AreHeaps.is (l : List Int) : impl_AreHeaps.f l = some (isHeaps l) := by
  unfold impl_AreHeaps.f isHeaps impl_areIn.f allIn
  simp only [impl_within.is, Option.bind_some]
  by_cases h : (decide (1 ≤ (l.length : Int)) && decide ((l.length : Int) ≤ 12)) = true
  · simp only [h, if_true, Bool.true_and]
  · simp only [h]
    simp
theorem isHeaps_ne {l : List Int} (h : isHeaps l = true) : ¬ ((l.length : Int) = 0) := by
  simp [isHeaps] at h
  omega
/-- The sum as the machine makes it. -/
def wsum : List Int → Int → Int
  | [], a => a
  | x :: xs, a => wsum xs (wrap64 (a + x))
theorem spec_hpSum.l0ev (n : Int) (hn : n ≤ 1048576) : ∀ (tl done : List Int) (a : Int), ((done ++ tl).length : Int) = n → Ev (fun k => spec_hpSum.l0 k a (done ++ tl) n done.length) (wsum tl a) := by
  intro tl
  induction tl with
  | nil =>
    intro done a hd
    refine Ev.step (f := fun _ => some a) (fun k => ?_) (Ev.now a)
    simp only [spec_hpSum.l0]
    simp at hd
    rw [if_neg (by omega)]
  | cons x xs ih =>
    intro done a hd
    have hd' : (done.length : Int) + (xs.length + 1) = n := by simpa using hd
    have hx : rd (done ++ x :: xs) (done.length : Int) = x := by simp [rd]
    have h := ih (done ++ [x]) (wrap64 (a + x)) (by simp; omega)
    refine Ev.step (f := fun k => spec_hpSum.l0 k (wrap64 (a + x)) (done ++ [x] ++ xs) n ((done ++ [x]).length : Int)) (fun k => ?_) (by simpa [wsum] using h)
    simp only [spec_hpSum.l0]
    rw [if_pos (by omega), if_pos (by omega), if_pos (by simp; omega), hx, w64s done.length (by omega)]
    simp
theorem spec_hpSum.ev (l : List Int) (hl : l.length ≤ 1048576) : Ev (fun k => spec_hpSum.f k l) (wsum l 0) := by
  have h := spec_hpSum.l0ev l.length (by omega) l [] 0 (by simp)
  simpa [spec_hpSum.f] using h
/-- The stones can be shared. -/
def isEqual (l : List Int) : Bool := isHeaps l && (Int.tmod (wsum l 0) (l.length : Int) == 0)
theorem spec_hpEqual.ev (l : List Int) (hl : l.length ≤ 1048576) : Ev (fun k => spec_hpEqual.f k l) (isEqual l) := by
  refine Ev.bind (spec_hpGood.ev l hl) ?_
  unfold isEqual
  by_cases h : isHeaps l = true
  · simp only [h, if_true, Bool.true_and]
    refine Ev.bind (spec_hpSum.ev l hl) ?_
    simp only [if_neg (isHeaps_ne h)]
    exact Ev.now _
  · simp only [h, Bool.not_eq_true] at h ⊢
    simp only [h, Bool.false_and]
    exact Ev.now _
/-- What each heap has too many. -/
def overOf (l : List Int) : List Int := l.map fun x => wrap64 (x - wrap64 (Int.tdiv (wsum l 0) (l.length : Int)))
theorem overOf_length (l : List Int) : (overOf l).length = l.length := by simp [overOf]
def moreR (l : List Int) : List Int × Bool := if isEqual l = true then (overOf l, true) else ([], false)
theorem isEqual_heaps {l : List Int} (h : isEqual l = true) : isHeaps l = true := by
  unfold isEqual at h
  simp at h
  exact h.1
theorem isHeaps_len {l : List Int} (h : isHeaps l = true) : 1 ≤ l.length ∧ l.length ≤ 12 := by
  simp [isHeaps] at h
  omega
theorem heaps_in {l : List Int} (h : isHeaps l = true) : ∀ x ∈ l, 0 ≤ x ∧ x ≤ 1000 := by
  simp [isHeaps, allIn] at h
  intro x hx
  exact h.2 x hx
theorem wsum_tot : ∀ (l : List Int) (a : Int), (∀ x ∈ l, 0 ≤ x ∧ x ≤ 1000) → 0 ≤ a → a + 1000 * l.length ≤ 1000000 → wsum l a = a + tot id l
  | [], a, _, _, _ => by simp [wsum, tot]
  | x :: xs, a, h, h0, hb => by
    have hx := h x (by simp)
    simp only [List.length_cons] at hb
    have e : (1000 : Int) * ((xs.length + 1 : Nat) : Int) = 1000 * xs.length + 1000 := by omega
    rw [wsum, w64 (a + x) (by omega) (by omega), wsum_tot xs (a + x) (fun y hy => h y (by simp [hy])) (by omega) (by omega), tot]
    simp only [id]; omega
theorem tot_sub (s : Int) : ∀ l : List Int, tot id (l.map fun x => x - s) = tot id l - l.length * s
  | [] => by simp [tot]
  | x :: xs => by
    rw [List.map_cons, tot, tot, tot_sub s xs]
    simp only [id, List.length_cons]
    rw [Int.natCast_add, Int.add_mul]; simp; omega
/-- What each heap is to hold. -/
def shareOf (l : List Int) : Int := wrap64 (Int.tdiv (wsum l 0) (l.length : Int))
theorem equal_facts {l : List Int} (h : isEqual l = true) : 0 ≤ shareOf l ∧ shareOf l ≤ 12000 ∧ GoodV l.length (overOf l) ∧ (overOf l).map (· + shareOf l) = l ∧ overOf l = l.map (fun x => x - shareOf l) := by
  have hh := isEqual_heaps h
  have hl := isHeaps_len hh
  have hin := heaps_in hh
  have hm : Int.tmod (wsum l 0) (l.length : Int) = 0 := by
    unfold isEqual at h
    simp at h
    exact h.2
  have hw := wsum_tot l 0 hin (by omega) (by omega)
  have hS := tot_nonneg l (fun x hx => (hin x hx).1)
  have hB := tot_bound id 1000 l (fun x hx => by have := hin x hx; simp only [id]; omega)
  have hq : (l.length : Int) * Int.tdiv (wsum l 0) (l.length : Int) = wsum l 0 := by
    have := Int.mul_tdiv_add_tmod (wsum l 0) (l.length : Int)
    omega
  have hS0 : 0 ≤ wsum l 0 := by omega
  have hS1 : wsum l 0 ≤ 12000 := by omega
  have h0 : 0 ≤ Int.tdiv (wsum l 0) (l.length : Int) := Int.tdiv_nonneg hS0 (by omega)
  have h1 : Int.tdiv (wsum l 0) (l.length : Int) ≤ 12000 := by
    have := Int.tdiv_le_self (l.length : Int) hS0
    omega
  have hs : shareOf l = Int.tdiv (wsum l 0) (l.length : Int) := w64 _ (by omega) (by omega)
  have eo : overOf l = l.map fun x => x - shareOf l := by
    unfold overOf
    refine List.map_congr_left (fun x hx => ?_)
    have := hin x hx
    show wrap64 (x - shareOf l) = _
    exact w64 _ (by omega) (by omega)
  refine ⟨by omega, by omega, ⟨overOf_length l, ?_, ?_⟩, ?_, eo⟩
  · intro x hx
    rw [eo] at hx
    obtain ⟨y, hy, rfl⟩ := List.mem_map.mp hx
    have := hin y hy
    omega
  · rw [eo, tot_sub, hs, hq]; omega
  · rw [eo, List.map_map]
    conv => rhs; rw [← List.map_id l]
    refine List.map_congr_left (fun x _ => ?_)
    simp
theorem impl_sum.l0ev (n : Int) (hn : n ≤ 1048576) : ∀ (tl done : List Int) (a : Int), ((done ++ tl).length : Int) = n → Ev (fun k => impl_sum.l0 k a (done ++ tl) n done.length) (wsum tl a) := by
  intro tl
  induction tl with
  | nil =>
    intro done a hd
    refine Ev.step (f := fun _ => some a) (fun k => ?_) (Ev.now a)
    simp only [impl_sum.l0]
    simp at hd
    rw [if_neg (by omega)]
  | cons x xs ih =>
    intro done a hd
    have hd' : (done.length : Int) + (xs.length + 1) = n := by simpa using hd
    have hx : rd (done ++ x :: xs) (done.length : Int) = x := by simp [rd]
    have h := ih (done ++ [x]) (wrap64 (a + x)) (by simp; omega)
    refine Ev.step (f := fun k => impl_sum.l0 k (wrap64 (a + x)) (done ++ [x] ++ xs) n ((done ++ [x]).length : Int)) (fun k => ?_) (by simpa [wsum] using h)
    simp only [impl_sum.l0]
    rw [if_pos (by omega), if_pos (by omega), if_pos (by simp; omega), hx, w64s done.length (by omega)]
    simp
theorem impl_sum.ev (l : List Int) (hl : l.length ≤ 1048576) : Ev (fun k => impl_sum.f k l) (wsum l 0) := by
  have h := impl_sum.l0ev l.length (by omega) l [] 0 (by simp)
  simpa [impl_sum.f] using h
def canR (l : List Int) : Bool × Bool := (isEqual l, isHeaps l)
theorem impl_CanBeEqual.ev (l : List Int) (hl : l.length ≤ 1048576) : Ev (fun k => impl_CanBeEqual.f k l) (canR l) := by
  unfold impl_CanBeEqual.f canR isEqual
  simp only [impl_AreHeaps.is, Option.bind_some]
  by_cases h : isHeaps l = true
  · simp only [h, if_true, Bool.true_and]
    refine Ev.bind (impl_sum.ev l hl) ?_
    simp only [if_neg (isHeaps_ne h)]
    exact Ev.now _
  · simp only [Bool.not_eq_true] at h
    simp only [h, Bool.false_and]
    exact Ev.now _
theorem impl_surplus.l0ev (sh : Int) (n : Int) (hn : n ≤ 1048576) : ∀ (tl done : List Int) (acc : List Int), ((done ++ tl).length : Int) = n → (acc.length : Int) + tl.length ≤ 1048576 → Ev (fun k => impl_surplus.l0 k sh acc (done ++ tl) n done.length) ((acc ++ tl.map fun x => wrap64 (x - sh), true)) := by
  intro tl
  induction tl with
  | nil =>
    intro done acc hd hs0 
    refine Ev.step (f := fun _ => some ((acc ++ [].map fun x => wrap64 (x - sh), true))) (fun k => ?_) (Ev.now _)
    simp only [impl_surplus.l0]
    simp at hd
    rw [if_neg (by omega)]
    all_goals simp
  | cons x xs ih =>
    intro done acc hd hs0 
    have hd' : (done.length : Int) + (xs.length + 1) = n := by simpa using hd
    simp only [List.length_cons] at hs0
    have hx : rd (done ++ x :: xs) (done.length : Int) = x := by simp [rd]
    skip
    have h := ih (done ++ [x]) (acc ++ [wrap64 (x - sh)]) (by simp; omega) (by simp; omega)
    have e_ : (acc ++ (x :: xs).map fun x => wrap64 (x - sh), true) = ((acc ++ [wrap64 (x - sh)]) ++ xs.map fun x => wrap64 (x - sh), true) := by simp
    rw [e_]
    refine Ev.step (f := fun k => impl_surplus.l0 k sh (acc ++ [wrap64 (x - sh)]) (done ++ [x] ++ xs) n ((done ++ [x]).length : Int)) (fun k => ?_) (by simpa using h)
    simp only [impl_surplus.l0, hx, Option.bind_some]
    rw [if_pos (by omega), if_pos (by omega), if_pos (by simp; omega), if_pos (show acc.length < 17592186044416 by omega), w64s done.length (by omega)]
    simp
theorem impl_surplus.ev (l : List Int) (hl : l.length ≤ 1048576) : Ev (fun k => impl_surplus.f k l) (moreR l) := by
  refine Ev.bind (impl_CanBeEqual.ev l hl) ?_
  unfold canR moreR
  by_cases h : isEqual l = true
  · have hh := isEqual_heaps h
    simp only [h, hh, if_true]
    refine Ev.step (f := fun k => (impl_sum.f k l).bind fun t => impl_surplus.l0 k (wrap64 (Int.tdiv t (l.length : Int))) ([] : List Int) l (l.length : Int) 0) (fun k => ?_) ?_
    · simp only [impl_surplus.j0, Bool.not_true, Bool.false_eq_true, if_false, if_neg (isHeaps_ne hh)]
    · refine Ev.bind (impl_sum.ev l hl) ?_
      have := impl_surplus.l0ev (wrap64 (Int.tdiv (wsum l 0) (l.length : Int))) l.length (by omega) l [] [] (by simp) (by simp; omega)
      simpa [overOf] using this
  · simp only [Bool.not_eq_true] at h
    simp only [h, Bool.not_false]
    refine Ev.congr (f := fun k => impl_surplus.j0 k l true) (fun k => by split <;> rfl) ?_
    refine Ev.step (f := fun _ => some ([], false)) (fun k => ?_) (by simpa using Ev.now _)
    simp [impl_surplus.j0]
theorem spec_hpOver.l0ev (sh : Int) (n : Int) (hn : n ≤ 1048576) : ∀ (tl done : List Int) (acc : List Int), ((done ++ tl).length : Int) = n → (acc.length : Int) + tl.length ≤ 1048576 → Ev (fun k => spec_hpOver.l0 k sh acc (done ++ tl) n done.length) ((acc ++ tl.map fun x => wrap64 (x - sh))) := by
  intro tl
  induction tl with
  | nil =>
    intro done acc hd hs0 
    refine Ev.step (f := fun _ => some ((acc ++ [].map fun x => wrap64 (x - sh)))) (fun k => ?_) (Ev.now _)
    simp only [spec_hpOver.l0]
    simp at hd
    rw [if_neg (by omega)]
    all_goals simp
  | cons x xs ih =>
    intro done acc hd hs0 
    have hd' : (done.length : Int) + (xs.length + 1) = n := by simpa using hd
    simp only [List.length_cons] at hs0
    have hx : rd (done ++ x :: xs) (done.length : Int) = x := by simp [rd]
    skip
    have h := ih (done ++ [x]) (acc ++ [wrap64 (x - sh)]) (by simp; omega) (by simp; omega)
    have e_ : (acc ++ (x :: xs).map fun x => wrap64 (x - sh)) = ((acc ++ [wrap64 (x - sh)]) ++ xs.map fun x => wrap64 (x - sh)) := by simp
    rw [e_]
    refine Ev.step (f := fun k => spec_hpOver.l0 k sh (acc ++ [wrap64 (x - sh)]) (done ++ [x] ++ xs) n ((done ++ [x]).length : Int)) (fun k => ?_) (by simpa using h)
    simp only [spec_hpOver.l0, hx, Option.bind_some]
    rw [if_pos (by omega), if_pos (by omega), if_pos (by simp; omega), if_pos (show acc.length < 17592186044416 by omega), w64s done.length (by omega)]
    simp
theorem spec_hpOver.ev (l : List Int) (h : isHeaps l = true) : Ev (fun k => spec_hpOver.f k l) (overOf l) := by
  have hl := isHeaps_len h
  refine Ev.bind (spec_hpSum.ev l (by omega)) ?_
  simp only [if_neg (isHeaps_ne h)]
  have := spec_hpOver.l0ev (wrap64 (Int.tdiv (wsum l 0) (l.length : Int))) l.length (by omega) l [] [] (by simp) (by simp; omega)
  simpa [overOf] using this
/-- The moves that share stones. -/
theorem both_SharingMoves (l : List Int) (hl : l.length ≤ 1048576) : ∃ v : List S52 × Bool, v.1.length ≤ 144 ∧ Ev (fun k => spec_SharingMoves.f k l) v ∧ Ev (fun k => impl_SharingMoves.f k l) v ∧ v.2 = isEqual l ∧ (isEqual l = true → playM v.1 l = (List.replicate l.length (shareOf l), true) ∧ cnt v.1 = tot (max 0) (overOf l) ∧ v.1.length ≤ 12 ∧ (∀ m ∈ v.1, 1 ≤ m.f2 ∧ m.f2 ≤ 1000000)) := by
  by_cases h : isEqual l = true
  · obtain ⟨s0, s1, g, e, _⟩ := equal_facts h
    have hh := isHeaps_len (isEqual_heaps h)
    obtain ⟨ms, h0, e1, e2, e3, e4, e5, e6⟩ := sharing l.length hh.2 (shareOf l) (by omega) l.length 0 (overOf l) [] (by omega) g (fun a ha => by omega) (by simp; omega)
    rw [e] at e3
    refine ⟨(ms, true), by simp; omega, Ev.bind (spec_hpEqual.ev l hl) ?_, Ev.bind (impl_surplus.ev l hl) ?_, h.symm, fun _ => ⟨e3, e4, by have := (nz_nonneg (overOf l)).2; rw [overOf_length] at this; simp only; omega, e6⟩⟩
    · simp only [h, if_true]
      refine Ev.bind (spec_hpOver.ev l (isEqual_heaps h)) ?_
      rw [overOf_length]
      simpa using e1
    · unfold moreR
      simp only [h, if_true]
      simpa using e2
  · refine ⟨([], false), by simp, Ev.bind (spec_hpEqual.ev l hl) ?_, Ev.bind (impl_surplus.ev l hl) ?_, by simp [h], fun h' => absurd h' h⟩
    · simp only [h]
      exact Ev.now _
    · unfold moreR
      simp only [h]
      exact Ev.now _
/-- A number without its sign, as both make it. -/
def absw (x : Int) : Int := mx x (wrap64 (-x))
/-- The sums of the first numbers, from a on. -/
def psums : List Int → Int → List Int
  | [], _ => []
  | x :: xs, a => wrap64 (a + x) :: psums xs (wrap64 (a + x))
theorem psums_length : ∀ (l : List Int) (a : Int), (psums l a).length = l.length
  | [], _ => rfl
  | x :: xs, a => by simp [psums, psums_length xs]
theorem psums_take : ∀ (m : Nat) (l : List Int) (a : Int), (psums l a).take m = psums (l.take m) a
  | 0, _, _ => by simp [psums]
  | m + 1, [], _ => by simp [psums]
  | m + 1, x :: xs, a => by simp [psums, psums_take m xs]
/-- How many stones go from each heap to the next one. -/
def flowsOf (l : List Int) : List Int := psums ((overOf l).take (l.length - 1)) 0
theorem flowsOf_length (l : List Int) : (flowsOf l).length = l.length - 1 := by
  unfold flowsOf
  rw [psums_length, List.length_take, overOf_length]
  omega
def flowsR (l : List Int) : List Int × Bool := if isEqual l = true then (flowsOf l, true) else ([], false)
def absSum : List Int → Int → Int
  | [], a => a
  | x :: xs, a => absSum xs (wrap64 (a + absw x))
def lineR (l : List Int) : Int × Bool := if isEqual l = true then (absSum (flowsOf l) 0, true) else (0, false)
/-- The sum of what is too many. -/
def posSum : List Int → Int → Int
  | [], a => a
  | x :: xs, a => posSum xs (wrap64 (a + mx 0 x))
def toMoveR (l : List Int) : Int × Bool := if isEqual l = true then (posSum (overOf l) 0, true) else (0, false)
theorem posSum_tot : ∀ (v : List Int) (a : Int), (∀ x ∈ v, -1000000 ≤ x ∧ x ≤ 1000000) → 0 ≤ a → a + 1000000 * v.length ≤ 1000000000 → posSum v a = a + tot (max 0) v
  | [], a, _, _, _ => by simp [posSum, tot]
  | x :: xs, a, h, h0, hb => by
    have hx := h x (by simp)
    simp only [List.length_cons] at hb
    have em : mx 0 x = max 0 x := by unfold mx; omega
    rw [posSum, em, w64 (a + max 0 x) (by omega) (by omega), posSum_tot xs _ (fun y hy => h y (by simp [hy])) (by omega) (by omega), tot]
    omega
theorem absw_is {x : Int} (h1 : -1000000000 ≤ x) (h2 : x ≤ 1000000000) : absw x = max x (-x) := by
  unfold absw mx
  rw [w64 (-x) (by omega) (by omega)]
  omega
def ab (x : Int) : Int := max x (-x)
theorem absSum_tot : ∀ (v : List Int) (a : Int), (∀ x ∈ v, -100000000 ≤ x ∧ x ≤ 100000000) → 0 ≤ a → a + 100000000 * v.length ≤ 10000000000 → absSum v a = a + tot ab v
  | [], a, _, _, _ => by simp [absSum, tot]
  | x :: xs, a, h, h0, hb => by
    have hx := h x (by simp)
    simp only [List.length_cons] at hb
    rw [absSum, absw_is (by omega) (by omega), w64 (a + max x (-x)) (by omega) (by omega), absSum_tot xs _ (fun y hy => h y (by simp [hy])) (by omega) (by omega), tot]
    unfold ab; omega
theorem tot_take_succ (f : Int → Int) : ∀ (v : List Int) (i : Nat), i < v.length → tot f (v.take (i + 1)) = tot f (v.take i) + f (rd v (i : Int))
  | [], i, h => by simp at h
  | x :: xs, 0, h => by simp [tot, rd]
  | x :: xs, i + 1, h => by
    have := tot_take_succ f xs i (by simpa using h)
    rw [List.take_succ_cons, List.take_succ_cons, tot, tot, this, rd_cons_succ]
    omega
theorem psums_rd : ∀ (v : List Int) (a : Int) (i : Nat), i < v.length → (∀ j : Nat, j ≤ v.length → -100000000 ≤ a + tot id (v.take j) ∧ a + tot id (v.take j) ≤ 100000000) → rd (psums v a) (i : Int) = a + tot id (v.take (i + 1))
  | [], a, i, h, _ => by simp at h
  | x :: xs, a, 0, h, hb => by
    have := hb 1 (by simp)
    simp [tot] at this
    simp [psums, rd, tot]
    exact w64 _ (by omega) (by omega)
  | x :: xs, a, i + 1, h, hb => by
    have h1 := hb 1 (by simp)
    simp [tot] at h1
    rw [psums, rd_cons_succ, w64 (a + x) (by omega) (by omega), psums_rd xs (a + x) i (by simpa using h) (fun j hj => by
      have := hb (j + 1) (by simpa using hj)
      rw [List.take_succ_cons, tot] at this
      simp only [id] at this
      omega)]
    rw [List.take_succ_cons (i := i + 1), tot]
    simp only [id]; omega
theorem tot_drop (f : Int → Int) : ∀ (v : List Int) (i : Nat), i < v.length → tot f (v.drop i) = f (rd v (i : Int)) + tot f (v.drop (i + 1))
  | [], i, h => by simp at h
  | x :: xs, 0, h => by simp [tot, rd]
  | x :: xs, i + 1, h => by
    have := tot_drop f xs i (by simpa using h)
    rw [List.drop_succ_cons, List.drop_succ_cons, this, rd_cons_succ]
theorem tot_ab_nonneg : ∀ v : List Int, 0 ≤ tot ab v
  | [] => by simp [tot]
  | x :: xs => by
    have := tot_ab_nonneg xs
    simp only [tot, ab]; omega
/-- What there is too many of in the first i heaps. -/
def pre (l : List Int) (i : Nat) : Int := tot id ((overOf l).take i)
theorem pre_bound {l : List Int} (h : isEqual l = true) (i : Nat) : -12000000 ≤ pre l i ∧ pre l i ≤ 12000000 := by
  obtain ⟨s0, s1, g, e, _⟩ := equal_facts h
  have hh := isHeaps_len (isEqual_heaps h)
  have hB := tot_bound id 1000000 ((overOf l).take i) (fun x hx => by have := g.bnd x (List.mem_of_mem_take hx); simp only [id]; omega)
  have hL : ((overOf l).take i).length ≤ 12 := by rw [List.length_take, g.len]; omega
  unfold pre
  omega
theorem flows_rd {l : List Int} (h : isEqual l = true) (i : Nat) (hi : i < l.length - 1) : rd (flowsOf l) (i : Int) = pre l (i + 1) := by
  unfold flowsOf
  rw [psums_rd _ 0 i (by rw [List.length_take, overOf_length]; omega) (fun j hj => by
    rw [List.length_take] at hj
    rw [List.take_take]
    have := pre_bound h (min j (l.length - 1))
    unfold pre at this
    omega), List.take_take, show min (i + 1) (l.length - 1) = i + 1 by omega]
  unfold pre
  omega
theorem pre_all {l : List Int} (h : isEqual l = true) : pre l l.length = 0 := by
  obtain ⟨s0, s1, g, e, _⟩ := equal_facts h
  unfold pre
  rw [List.take_of_length_le (by rw [g.len]; omega)]
  exact g.sum
theorem pre_succ (l : List Int) (i : Nat) (hi : i < l.length) : pre l (i + 1) = pre l i + rd (overOf l) (i : Int) := by
  unfold pre
  rw [tot_take_succ id _ i (by rw [overOf_length]; exact hi)]
  rfl
theorem heap_over {l : List Int} (h : isEqual l = true) (i : Nat) (hi : i < l.length) : rd l (i : Int) = rd (overOf l) (i : Int) + shareOf l := by
  obtain ⟨s0, s1, g, e, _⟩ := equal_facts h
  have := rd_map_add (overOf l) (shareOf l) i (by rw [g.len]; exact hi)
  rw [e] at this
  exact this
theorem flows_bound {l : List Int} (h : isEqual l = true) : ∀ x ∈ flowsOf l, -100000000 ≤ x ∧ x ≤ 100000000 := by
  intro x hx
  obtain ⟨i, hi, e⟩ := mem_rd hx
  rw [flowsOf_length] at hi
  rw [flows_rd h i hi] at e
  have := pre_bound h (i + 1)
  omega
def shareR (l : List Int) : Int × Int × Bool := if isHeaps l = true then (wrap64 (Int.tdiv (wsum l 0) (l.length : Int)), Int.tmod (wsum l 0) (l.length : Int), true) else (0, 0, false)
theorem impl_EqualShare.ev (l : List Int) (hl : l.length ≤ 1048576) : Ev (fun k => impl_EqualShare.f k l) (shareR l) := by
  unfold impl_EqualShare.f shareR
  simp only [impl_AreHeaps.is, Option.bind_some]
  by_cases h : isHeaps l = true
  · simp only [h, if_true]
    refine Ev.bind (impl_sum.ev l hl) ?_
    simp only [if_neg (isHeaps_ne h)]
    exact Ev.now _
  · simp only [h]; exact Ev.now _
theorem impl_StonesToMove.l0ev (n : Int) (hn : n ≤ 1048576) : ∀ (tl done : List Int) (a : Int), ((done ++ tl).length : Int) = n → Ev (fun k => impl_StonesToMove.l0 k a (done ++ tl) n done.length) ((posSum tl a, true)) := by
  intro tl
  induction tl with
  | nil =>
    intro done a hd  
    refine Ev.step (f := fun _ => some ((posSum [] a, true))) (fun k => ?_) (Ev.now _)
    simp only [impl_StonesToMove.l0]
    simp at hd
    rw [if_neg (by omega)]
    all_goals simp [posSum]
  | cons x xs ih =>
    intro done a hd  
    have hd' : (done.length : Int) + (xs.length + 1) = n := by simpa using hd
    skip
    have hx : rd (done ++ x :: xs) (done.length : Int) = x := by simp [rd]
    skip
    have h := ih (done ++ [x]) (wrap64 (a + mx 0 x)) (by simp; omega) 
    have e_ : (posSum (x :: xs) a, true) = (posSum xs (wrap64 (a + mx 0 x)), true) := by simp [posSum]
    rw [e_]
    refine Ev.step (f := fun k => impl_StonesToMove.l0 k (wrap64 (a + mx 0 x)) (done ++ [x] ++ xs) n ((done ++ [x]).length : Int)) (fun k => ?_) (by simpa using h)
    simp only [impl_StonesToMove.l0, hx, Option.bind_some]
    rw [if_pos (by omega), if_pos (by omega), if_pos (by simp; omega), w64s done.length (by omega)]
    simp
theorem impl_StonesToMove.ev (l : List Int) (hl : l.length ≤ 1048576) : Ev (fun k => impl_StonesToMove.f k l) (toMoveR l) := by
  refine Ev.bind (impl_surplus.ev l hl) ?_
  unfold toMoveR moreR
  by_cases h : isEqual l = true
  · have hh := isHeaps_len (isEqual_heaps h)
    simp only [h, if_true]
    have := impl_StonesToMove.l0ev (overOf l).length (by rw [overOf_length]; omega) (overOf l) [] 0 (by simp)
    simpa using this
  · simp only [Bool.not_eq_true] at h
    simp only [h]
    simpa using Ev.now _
theorem impl_sumsOf.l0ev (n : Int) (hn : n ≤ 1048576) : ∀ (tl done : List Int) (acc : List Int) (a : Int), ((done ++ tl).length : Int) = n → (acc.length : Int) + tl.length ≤ 1048576 → Ev (fun k => impl_sumsOf.l0 k acc a (done ++ tl) n done.length) ((acc ++ psums tl a)) := by
  intro tl
  induction tl with
  | nil =>
    intro done acc a hd hs0 
    refine Ev.step (f := fun _ => some ((acc ++ psums [] a))) (fun k => ?_) (Ev.now _)
    simp only [impl_sumsOf.l0]
    simp at hd
    rw [if_neg (by omega)]
    all_goals simp [psums]
  | cons x xs ih =>
    intro done acc a hd hs0 
    have hd' : (done.length : Int) + (xs.length + 1) = n := by simpa using hd
    simp only [List.length_cons] at hs0
    have hx : rd (done ++ x :: xs) (done.length : Int) = x := by simp [rd]
    skip
    have h := ih (done ++ [x]) (acc ++ [wrap64 (a + x)]) (wrap64 (a + x)) (by simp; omega) (by simp; omega)
    have e_ : (acc ++ psums (x :: xs) a) = ((acc ++ [wrap64 (a + x)]) ++ psums xs (wrap64 (a + x))) := by simp [psums]
    rw [e_]
    refine Ev.step (f := fun k => impl_sumsOf.l0 k (acc ++ [wrap64 (a + x)]) (wrap64 (a + x)) (done ++ [x] ++ xs) n ((done ++ [x]).length : Int)) (fun k => ?_) (by simpa using h)
    simp only [impl_sumsOf.l0, hx, Option.bind_some]
    rw [if_pos (by omega), if_pos (by omega), if_pos (by simp; omega), if_pos (show acc.length < 17592186044416 by omega), w64s done.length (by omega)]
    simp
theorem impl_sumsOf.ev (l : List Int) (hl : l.length ≤ 1048576) : Ev (fun k => impl_sumsOf.f k l) (psums l 0) := by
  have := impl_sumsOf.l0ev l.length (by omega) l [] [] 0 (by simp) (by simp; omega)
  simpa [impl_sumsOf.f] using this
theorem impl_LineFlows.ev (l : List Int) (hl : l.length ≤ 1048576) : Ev (fun k => impl_LineFlows.f k l) (flowsR l) := by
  refine Ev.bind (impl_surplus.ev l hl) ?_
  unfold moreR flowsR
  by_cases h : isEqual l = true
  · have hh := isHeaps_len (isEqual_heaps h)
    simp only [h, if_true]
    refine Ev.bind (impl_sumsOf.ev (overOf l) (by rw [overOf_length]; omega)) ?_
    have e : wrap64 ((l.length : Int) - 1) = ((l.length - 1 : Nat) : Int) := by rw [w64 _ (by omega) (by omega)]; omega
    simp only [psums_length, overOf_length, e, if_pos (show (0 : Int) ≤ ((l.length - 1 : Nat) : Int) by omega), if_pos (show ((l.length - 1 : Nat) : Int) ≤ (l.length : Int) by omega), show (((l.length - 1 : Nat) : Int)).toNat = l.length - 1 by omega, psums_take]
    exact Ev.now _
  · simp only [Bool.not_eq_true] at h
    simp only [h]
    simpa using Ev.now _
theorem flowsR_len (l : List Int) (hl : l.length ≤ 1048576) : (flowsR l).1.length ≤ 1048576 := by
  unfold flowsR
  split
  · rw [flowsOf_length]; omega
  · simp
theorem impl_size.is (x : Int) : impl_size.f x = some (absw x) := rfl
theorem impl_sizes.l0ev (n : Int) (hn : n ≤ 1048576) : ∀ (tl done : List Int) (a : Int), ((done ++ tl).length : Int) = n → Ev (fun k => impl_sizes.l0 k a (done ++ tl) n done.length) ((absSum tl a)) := by
  intro tl
  induction tl with
  | nil =>
    intro done a hd  
    refine Ev.step (f := fun _ => some ((absSum [] a))) (fun k => ?_) (Ev.now _)
    simp only [impl_sizes.l0]
    simp at hd
    rw [if_neg (by omega)]
    all_goals simp [absSum]
  | cons x xs ih =>
    intro done a hd  
    have hd' : (done.length : Int) + (xs.length + 1) = n := by simpa using hd
    skip
    have hx : rd (done ++ x :: xs) (done.length : Int) = x := by simp [rd]
    skip
    have h := ih (done ++ [x]) (wrap64 (a + absw x)) (by simp; omega) 
    have e_ : (absSum (x :: xs) a) = (absSum xs (wrap64 (a + absw x))) := by simp [absSum]
    rw [e_]
    refine Ev.step (f := fun k => impl_sizes.l0 k (wrap64 (a + absw x)) (done ++ [x] ++ xs) n ((done ++ [x]).length : Int)) (fun k => ?_) (by simpa using h)
    simp only [impl_sizes.l0, hx, impl_size.is, Option.bind_some]
    rw [if_pos (by omega), if_pos (by omega), if_pos (by simp; omega), w64s done.length (by omega)]
    simp
theorem impl_sizes.ev (l : List Int) (hl : l.length ≤ 1048576) : Ev (fun k => impl_sizes.f k l) (absSum l 0) := by
  have := impl_sizes.l0ev l.length (by omega) l [] 0 (by simp)
  simpa [impl_sizes.f] using this
theorem impl_LineDistance.ev (l : List Int) (hl : l.length ≤ 1048576) : Ev (fun k => impl_LineDistance.f k l) (lineR l) := by
  refine Ev.bind (impl_LineFlows.ev l hl) ?_
  have e : (absSum (flowsR l).1 0, (flowsR l).2) = lineR l := by
    unfold flowsR lineR
    split <;> simp [absSum]
  rw [← e]
  exact Ev.bind (impl_sizes.ev (flowsR l).1 (flowsR_len l hl)) (Ev.now _)
theorem impl_move.is (l : List Int) (f t c : Int) (hl : l.length ≤ 1048576) : impl_move.f l f t c = some (if canM l f t c = true then (true, mMade l f t c) else (false, l)) := by
  unfold impl_move.f
  simp only [impl_within.is, Option.bind_some, w64 ((l.length : Int) - 1) (by omega) (by omega)]
  by_cases h1 : (decide (0 ≤ f) && decide (f ≤ (l.length : Int) - 1)) = true
  · by_cases h2 : (decide (0 ≤ t) && decide (t ≤ (l.length : Int) - 1)) = true
    · have h1' : 0 ≤ f ∧ f ≤ (l.length : Int) - 1 := by simpa using h1
      have h2' : 0 ≤ t ∧ t ≤ (l.length : Int) - 1 := by simpa using h2
      rw [if_pos h1, if_pos h2]
      by_cases h3 : f = t
      · rw [if_pos h3, if_neg (by simp [canM, h3])]
      · rw [if_neg h3, if_pos h1'.1, if_pos (by omega)]
        by_cases h4 : (decide (1 ≤ c) && decide (c ≤ rd l f)) = true
        · have h4' : 1 ≤ c ∧ c ≤ rd l f := by simpa using h4
          have hc : canM l f t c = true := by simp [canM, h1', h2', h3, h4']
          rw [if_pos h4, if_pos hc, if_pos h2'.1, if_pos (by omega)]
          rfl
        · rw [if_neg h4, if_neg (by intro h; have := canM_in h; simp at h4; omega)]
    · rw [if_pos h1, if_neg h2, if_neg (by intro h; have := canM_in h; simp at h2; omega)]
  · rw [if_neg h1, if_neg (by intro h; have := canM_in h; simp at h1; omega)]
theorem impl_PlayMoves.l0ev (n : Int) (hn : n ≤ 1048576) : ∀ (tl done : List S52) (out : List Int), ((done ++ tl).length : Int) = n → out.length ≤ 1048576 → Ev (fun k => impl_PlayMoves.l0 k out (done ++ tl) n done.length) (playM tl out) := by
  intro tl
  induction tl with
  | nil =>
    intro done out hd ho
    refine Ev.step (f := fun _ => some (out, true)) (fun k => ?_) (Ev.now _)
    simp only [impl_PlayMoves.l0]
    simp at hd
    rw [if_neg (by omega)]
  | cons m ms ih =>
    intro done out hd ho
    have hd' : (done.length : Int) + (ms.length + 1) = n := by simpa using hd
    by_cases c : canM out m.f0 m.f1 m.f2 = true
    · have h := ih (done ++ [m]) (mMade out m.f0 m.f1 m.f2) (by simp; omega) (by rw [mMade_length]; exact ho)
      refine Ev.step (f := fun k => impl_PlayMoves.l0 k (mMade out m.f0 m.f1 m.f2) (done ++ [m] ++ ms) n ((done ++ [m]).length : Int)) (fun k => ?_) (by rw [playM, if_pos c]; exact h)
      simp only [impl_PlayMoves.l0, rdM_app', impl_move.is out _ _ _ ho, c, Option.bind_some, if_true]
      rw [if_pos (by omega), if_pos (by omega), if_pos (by simp; omega), w64s done.length (by omega)]
      simp
    · refine Ev.step (f := fun _ => some ([], false)) (fun k => ?_) (by rw [playM, if_neg c]; exact Ev.now _)
      simp only [impl_PlayMoves.l0, rdM_app', impl_move.is out _ _ _ ho, c, Option.bind_some]
      rw [if_pos (by omega), if_pos (by omega), if_pos (by simp; omega)]
      simp
def playMR (ms : List S52) (l : List Int) : List Int × Bool := if isHeaps l = true ∧ (ms.length : Int) ≤ 100 then playM ms l else ([], false)
theorem playMR_len (ms : List S52) (l : List Int) (hl : l.length ≤ 1048576) : (playMR ms l).1.length ≤ 1048576 := by
  unfold playMR
  split
  · exact playM_len ms l hl
  · simp
theorem impl_PlayMoves.ev (ms : List S52) (l : List Int) (hl : l.length ≤ 1048576) (hd : ms.length ≤ 1048576) : Ev (fun k => impl_PlayMoves.f k l ms) (playMR ms l) := by
  unfold impl_PlayMoves.f playMR
  simp only [impl_AreHeaps.is, Option.bind_some]
  by_cases h : isHeaps l = true
  · simp only [h, if_true, true_and]
    by_cases c : (ms.length : Int) ≤ 100
    · refine Ev.step (f := fun k => impl_PlayMoves.l0 k l ms (ms.length : Int) 0) (fun k => ?_) ?_
      · simp only [impl_PlayMoves.j0]
        rw [if_neg (by simp; omega)]
        unfold slices_Clone_int_int.f
        rw [if_pos (by omega)]
        rfl
      · rw [if_pos c]
        have := impl_PlayMoves.l0ev ms.length (by omega) ms [] l (by simp) hl
        simpa using this
    · refine Ev.step (f := fun _ => some ([], false)) (fun k => ?_) (by rw [if_neg c]; exact Ev.now _)
      simp only [impl_PlayMoves.j0]
      rw [if_pos (by simp; omega)]
  · simp only [h, false_and, if_false]
    refine Ev.congr (f := fun k => impl_PlayMoves.j0 k l ms true) (fun k => by simp) ?_
    refine Ev.step (f := fun _ => some ([], false)) (fun k => ?_) (by simpa using Ev.now _)
    simp [impl_PlayMoves.j0]
theorem cnt_bound : ∀ ms : List S52, (∀ m ∈ ms, 1 ≤ m.f2 ∧ m.f2 ≤ 1000000) → 0 ≤ cnt ms ∧ cnt ms ≤ 1000000 * ms.length
  | [], _ => by simp [cnt]
  | m :: ms, h => by
    have h1 := cnt_bound ms (fun x hx => h x (by simp [hx]))
    have h2 := h m (by simp)
    simp only [cnt, List.length_cons]
    omega
theorem law_l1 {l : List Int} (h : isEqual l = true) : ∀ (d i : Nat), i + d = l.length → Ev (fun k => laws_FnEverySharing.l1 k l (shareOf l) (flowsOf l) (tot ab ((flowsOf l).drop i)) (List.replicate l.length (shareOf l)) (l.length : Int) i) true := by
  have hh := isHeaps_len (isEqual_heaps h)
  have hf := flowsOf_length l
  obtain ⟨s0, s1, g, _⟩ := equal_facts h
  intro d
  induction d with
  | zero =>
    intro i hi
    refine Ev.step (f := fun _ => some true) (fun k => ?_) (Ev.now _)
    simp only [laws_FnEverySharing.l1]
    rw [if_neg (by omega), List.drop_of_length_le (by omega)]
    rfl
  | succ d ih =>
    intro i hi
    have e := ih (i + 1) (by omega)
    have p0 := pre_bound h i
    have p1 := pre_bound h (i + 1)
    have p2 := pre_succ l i (by omega)
    have p3 := heap_over h i (by omega)
    have hr : rd (List.replicate l.length (shareOf l)) (i : Int) = shareOf l := by
      rw [rd_at _ i (by simp; omega)]; simp
    refine Ev.step (f := fun k => laws_FnEverySharing.j4 k l (shareOf l) (flowsOf l) (tot ab ((flowsOf l).drop i)) i (shareOf l) (pre l (i + 1) + shareOf l) (List.replicate l.length (shareOf l)) (l.length : Int) i) (fun k => ?_) ?_
    · simp only [laws_FnEverySharing.l1, List.length_replicate, hr]
      rw [if_pos (by omega), if_pos (by omega), if_pos (by omega), if_pos (by omega)]
      by_cases hi0 : i = 0
      · subst hi0
        rw [if_neg (by omega), p3]
        have : pre l 0 = 0 := rfl
        congr 1
        omega
      · obtain ⟨j, rfl⟩ : ∃ j, i = j + 1 := ⟨i - 1, by omega⟩
        have e1 : wrap64 (((j + 1 : Nat) : Int) - 1) = (j : Int) := by rw [w64 _ (by omega) (by omega)]; omega
        rw [if_pos (by omega), e1, if_pos (by omega), if_pos (by omega), flows_rd h j (by omega), w64 _ (by omega) (by omega)]
        congr 1
        omega
    · by_cases hl : i < l.length - 1
      · have hx := flows_rd h i hl
        have hd := tot_drop ab (flowsOf l) i (by omega)
        have hn := tot_ab_nonneg ((flowsOf l).drop (i + 1))
        have hb := tot_bound ab 100000000 ((flowsOf l).drop (i + 1)) (fun x hx => by have := flows_bound h x (List.mem_of_mem_drop hx); unfold ab; omega)
        have hlen : ((flowsOf l).drop (i + 1)).length ≤ 12 := by rw [List.length_drop]; omega
        refine Ev.step (f := fun k => laws_FnEverySharing.l1 k l (shareOf l) (flowsOf l) (tot ab ((flowsOf l).drop (i + 1))) (List.replicate l.length (shareOf l)) (l.length : Int) ((i + 1 : Nat) : Int)) (fun k => ?_) e
        simp only [laws_FnEverySharing.j4]
        have ea : mx (rd (flowsOf l) (i : Int)) (wrap64 (-(rd (flowsOf l) (i : Int)))) = ab (rd (flowsOf l) (i : Int)) := absw_is (by omega) (by omega)
        have eb : ab (rd (flowsOf l) (i : Int)) ≤ 12000000 := by unfold ab; omega
        have ec : 0 ≤ ab (rd (flowsOf l) (i : Int)) := by unfold ab; omega
        rw [if_pos (by omega), if_pos (by omega), if_pos trivial, ea, hx, if_pos (by rw [w64 _ (by omega) (by omega)]; omega), w64s i (by omega)]
        congr 1
        rw [hx] at hd eb ec
        rw [hd, w64 _ (by omega) (by omega)]
        omega
      · have hn : i + 1 = l.length := by omega
        have hz := pre_all h
        rw [← hn] at hz
        refine Ev.step (f := fun k => laws_FnEverySharing.l1 k l (shareOf l) (flowsOf l) (tot ab ((flowsOf l).drop (i + 1))) (List.replicate l.length (shareOf l)) (l.length : Int) ((i + 1 : Nat) : Int)) (fun k => ?_) e
        simp only [laws_FnEverySharing.j4]
        rw [if_neg (by omega), if_pos trivial, if_pos (by omega), w64s i (by omega), List.drop_of_length_le (show (flowsOf l).length ≤ i by omega), List.drop_of_length_le (show (flowsOf l).length ≤ i + 1 by omega)]
theorem law_l0 {l : List Int} (h : isEqual l = true) (n : Int) (hn : n ≤ 1048576) : ∀ (tl done : List S52), ((done ++ tl).length : Int) = n → tl.length ≤ 12 → (∀ m ∈ tl, 1 ≤ m.f2 ∧ m.f2 ≤ 1000000) → Ev (fun k => laws_FnEverySharing.l0 k l (shareOf l) (List.replicate l.length (shareOf l)) (cnt tl) (done ++ tl) n done.length) true := by
  have hh := isHeaps_len (isEqual_heaps h)
  have hl1 : l.length ≤ 1048576 := by omega
  intro tl
  induction tl with
  | nil =>
    intro done hd _ _
    have hf : wrap64 ((l.length : Int) - 1) = ((flowsOf l).length : Int) := by rw [w64 _ (by omega) (by omega), flowsOf_length]; omega
    refine Ev.step (f := fun k => (impl_LineFlows.f k l).bind fun bt229 => ((impl_LineDistance.f k l).bind fun bt233 => (if bt229.2 = true then (if bt233.2 = true then (laws_FnEverySharing.j2 k l (shareOf l) (List.replicate l.length (shareOf l)) bt229.1 bt233.1 ((bt229.1.length : Int) != (wrap64 ((l.length : Int) - 1)))) else (laws_FnEverySharing.j2 k l (shareOf l) (List.replicate l.length (shareOf l)) bt229.1 bt233.1 true)) else (laws_FnEverySharing.j2 k l (shareOf l) (List.replicate l.length (shareOf l)) bt229.1 bt233.1 true)))) (fun k => ?_) ?_
    · simp only [laws_FnEverySharing.l0, cnt]
      simp at hd
      rw [if_neg (by omega)]
      simp
    · refine Ev.bind (impl_LineFlows.ev l hl1) (Ev.bind (impl_LineDistance.ev l hl1) ?_)
      unfold flowsR lineR
      simp only [h, if_true, hf, bne_self_eq_false]
      refine Ev.step (f := fun k => laws_FnEverySharing.l1 k l (shareOf l) (flowsOf l) (absSum (flowsOf l) 0) (List.replicate l.length (shareOf l)) (l.length : Int) 0) (fun k => ?_) ?_
      · simp only [laws_FnEverySharing.j2, Bool.false_eq_true, if_false, List.length_replicate]
      · have ea := absSum_tot (flowsOf l) 0 (flows_bound h) (by omega) (by rw [flowsOf_length]; omega)
        have := law_l1 h l.length 0 (by omega)
        rw [List.drop_zero] at this
        rw [ea, Int.zero_add]
        exact this
  | cons m ms ih =>
    intro done hd hlen hm
    have hd' : (done.length : Int) + (ms.length + 1) = n := by simpa using hd
    have hx : rd_T52 (done ++ m :: ms) (done.length : Int) = m := by simp [rd_T52]
    have hc := cnt_bound ms (fun x hx => hm x (by simp [hx]))
    have hm1 := hm m (by simp)
    simp only [List.length_cons] at hlen
    have e := ih (done ++ [m]) (by simp; omega) (by omega) (fun x hx => hm x (by simp [hx]))
    refine Ev.step (f := fun k => laws_FnEverySharing.l0 k l (shareOf l) (List.replicate l.length (shareOf l)) (cnt ms) (done ++ [m] ++ ms) n ((done ++ [m]).length : Int)) (fun k => ?_) (by simpa using e)
    simp only [laws_FnEverySharing.l0, hx, cnt]
    rw [if_pos (by omega), if_pos (by omega), if_pos (by simp; omega), w64s done.length (by omega), w64 (m.f2 + cnt ms - m.f2) (by omega) (by omega), show m.f2 + cnt ms - m.f2 = cnt ms by omega]
    simp
theorem FnEverySharing : laws_FnEverySharing.Pure := by
  intro l _ _ _
  by_cases hl : (l.length : Int) > 1000
  · exact ⟨0, by unfold laws_FnEverySharing.f; rw [if_pos hl]⟩
  have hl1 : l.length ≤ 1048576 := by omega
  obtain ⟨⟨ms, b⟩, hv, h1, h2, h3, h4⟩ := both_SharingMoves l hl1
  simp only at h3 h4 hv
  subst h3
  refine Ev.rounds ?_
  unfold laws_FnEverySharing.f
  simp only [if_neg hl]
  refine Ev.bind h2 (Ev.bind h1 ?_)
  simp only [bne_self_eq_false, Bool.false_eq_true, if_false]
  by_cases h : isEqual l = true
  · simp only [h, if_true]
    obtain ⟨a1, a2, a3, a4⟩ := h4 h
    obtain ⟨s0, s1, g, _⟩ := equal_facts h
    have hh := isEqual_heaps h
    have hn := isHeaps_len hh
    have hmod : Int.tmod (wsum l 0) (l.length : Int) = 0 := by
      unfold isEqual at h
      simp at h
      exact h.2
    refine Ev.bind (impl_EqualShare.ev l hl1) (Ev.bind (impl_PlayMoves.ev ms l hl1 (by omega)) (Ev.bind (impl_StonesToMove.ev l hl1) ?_))
    have ep : playMR ms l = (List.replicate l.length (shareOf l), true) := by
      unfold playMR
      rw [if_pos ⟨hh, by omega⟩]
      exact a1
    have es : shareR l = (shareOf l, 0, true) := by
      unfold shareR shareOf
      rw [if_pos hh, hmod]
    have et : toMoveR l = (cnt ms, true) := by
      unfold toMoveR
      rw [if_pos h, posSum_tot (overOf l) 0 g.bnd (by omega) (by rw [g.len]; omega), a2, Int.zero_add]
    rw [ep, es, et]
    simp only [if_true, List.length_replicate, bne_self_eq_false]
    refine Ev.step (f := fun k => laws_FnEverySharing.l0 k l (shareOf l) (List.replicate l.length (shareOf l)) (cnt ms) ms (ms.length : Int) 0) (fun k => ?_) ?_
    · simp only [laws_FnEverySharing.j0, Bool.false_eq_true, if_false]
    · have := law_l0 h ms.length (by omega) ms [] (by simp) a3 a4
      simpa using this
  · simp only [h]
    exact Ev.now true

end Go.Proofs.Ytdhhphngabamoaa.Pure
