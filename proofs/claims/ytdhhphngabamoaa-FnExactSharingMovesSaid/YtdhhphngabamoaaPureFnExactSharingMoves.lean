/- The program's SharingMoves returns what the reference's returns, for all arguments. It has no conditions. -/
import Derived.Test.YtdhhphngabamoaaPFnExactSharingMovesx5
namespace Go.Proofs.Ytdhhphngabamoaa.Pure
open Go.RowKit Go.Proofs.Ytdhhphngabamoaa.PFnExactSharingMoves Go.Proofs.YtdhhphngabamoaaW.PrintWords Go.Proofs.YtdhhphngabamoaaW.PrintLast
set_option linter.unusedVariables false
set_option linter.unusedSimpArgs false

/-! ### small words -/
theorem w64 (n : Int) (h1 : -9223372036854775808 ≤ n) (h2 : n ≤ 9223372036854775807) : wrap64 n = n := by unfold wrap64; omega
theorem w64s (i : Nat) (h : i < 9223372036854775807) : wrap64 ((i : Int) + 1) = ((i + 1 : Nat) : Int) := by unfold wrap64; omega
theorem rd_at (l : List Int) (i : Nat) (h : i < l.length) : rd l (i : Int) = l[i] := by simp [rd, List.getD_eq_getElem?_getD, List.getElem?_eq_getElem h]
theorem wf64 {x : Int} (h : (Lit.int .i64 x).wf = true) : -9223372036854775808 ≤ x ∧ x ≤ 9223372036854775807 := by
  simp [Lit.wf, IntKind.min, IntKind.max, IntKind.bits, IntKind.signed] at h
  omega
/-! ### copies, marks -/
theorem laws_toIntS.l0ev (l : List Int) (hl : l.length ≤ 1048576) (d : Nat) : ∀ i, i + d = l.length → Ev (fun k => laws_toIntS.l0 k l (l.take i ++ List.replicate d 0) i) l := by
  induction d with
  | zero =>
    intro i hi
    refine Ev.step (f := fun _ => some l) (fun k => ?_) (Ev.now _)
    simp only [laws_toIntS.l0]
    rw [if_neg (by omega)]
    simp [List.take_of_length_le (show l.length ≤ i by omega)]
  | succ d ih =>
    intro i hi
    refine Ev.step (f := fun k => laws_toIntS.l0 k l (l.take (i + 1) ++ List.replicate d 0) ((i + 1 : Nat) : Int)) (fun k => ?_) (ih (i + 1) (by omega))
    simp only [laws_toIntS.l0]
    rw [if_pos (by omega), if_pos (by omega), if_pos (by simp; omega), w64s i (by omega), rd_at l i (by omega)]
    congr 1
    rw [show ((i : Int)).toNat = i by omega, List.set_append_right _ _ (by simp; omega), List.replicate_succ, List.length_take, show i - min i l.length = 0 by omega, List.set_cons_zero, List.take_succ_eq_append_getElem (show i < l.length by omega)]
    simp only [List.append_assoc, List.cons_append, List.nil_append]
theorem laws_toIntS.ev (l : List Int) (hl : l.length ≤ 1048576) : Ev (fun k => laws_toIntS.f k l) l := by
  have h := laws_toIntS.l0ev l hl l.length 0 (by omega)
  unfold laws_toIntS.f
  simp only [if_pos (show (0 : Int) ≤ (l.length : Int) by omega), if_pos (show (l.length : Int).toNat ≤ 35184372088832 by omega)]
  simpa using h
theorem laws_eqIntS.l0ev (l : List Int) (hl : l.length ≤ 1048576) (d : Nat) : ∀ i, i + d = l.length → Ev (fun k => laws_eqIntS.l0 k l l i) true := by
  induction d with
  | zero =>
    intro i hi
    refine Ev.step (f := fun _ => some true) (fun k => ?_) (Ev.now _)
    simp only [laws_eqIntS.l0]
    rw [if_neg (by omega)]
  | succ d ih =>
    intro i hi
    refine Ev.step (f := fun k => laws_eqIntS.l0 k l l ((i + 1 : Nat) : Int)) (fun k => ?_) (ih (i + 1) (by omega))
    simp only [laws_eqIntS.l0]
    rw [if_pos (by omega), if_pos (by omega), if_pos (by omega), if_pos trivial, w64s i (by omega)]
theorem laws_eqIntS.ev (l : List Int) (hl : l.length ≤ 1048576) : Ev (fun k => laws_eqIntS.f k l l) true := by
  unfold laws_eqIntS.f
  simp only [if_true]
  exact laws_eqIntS.l0ev l hl l.length 0 (by omega)
/-- Marked cells, from k on. -/
def marks : List Int → Int → List Int
  | [], _ => []
  | _ :: xs, k => k :: marks xs (k + 1)
theorem marks_length : ∀ (l : List Int) (k : Int), (marks l k).length = l.length
  | [], _ => rfl
  | _ :: xs, k => by simp [marks, marks_length xs]
theorem laws_markIntS.l0ev (hd : List Int) : ∀ (tl done : List Int) (m : Int), done.length + tl.length ≤ 1048576 → 0 ≤ m → m ≤ 1048577 + done.length →
    Ev (fun k => laws_markIntS.l0 k (done ++ tl) m done.length) (m + tl.length, done ++ marks tl m) := by
  intro tl
  induction tl with
  | nil =>
    intro done m h1 h2 h3
    refine Ev.step (f := fun _ => some (m, done)) (fun k => ?_) (by simpa [marks] using Ev.now (m, done))
    simp only [laws_markIntS.l0]
    rw [if_neg (by simp)]
    simp
  | cons x xs ih =>
    intro done m h1 h2 h3
    simp only [List.length_cons] at h1
    have h := ih (done ++ [m]) (m + 1) (by simp; omega) (by omega) (by simp; omega)
    refine Ev.step (f := fun k => laws_markIntS.l0 k (done ++ [m] ++ xs) (m + 1) ((done ++ [m]).length : Int)) (fun k => ?_) ?_
    · simp only [laws_markIntS.l0]
      rw [if_pos (by simp; omega), if_pos (by omega), w64 (m + 1) (by omega) (by omega), w64s done.length (by omega)]
      congr 1
      · simp [List.set_append_right]
      · simp
    · have e : (m + ((x :: xs).length : Int), done ++ marks (x :: xs) m) = (m + 1 + (xs.length : Int), done ++ [m] ++ marks xs (m + 1)) := by
        simp [marks]; omega
      rw [e]; exact h
theorem laws_markIntS.ev (l : List Int) (hl : l.length ≤ 1048576) : Ev (fun k => laws_markIntS.f k l 1) (1 + (l.length : Int), marks l 1) := by
  have h := laws_markIntS.l0ev [] l [] 1 (by simpa using hl) (by omega) (by simp)
  simpa [laws_markIntS.f] using h
theorem laws_eqMoveS.l0ev (l : List S52) (hl : l.length ≤ 1048576) (d : Nat) : ∀ i, i + d = l.length → Ev (fun k => laws_eqMoveS.l0 k l l i) true := by
  induction d with
  | zero =>
    intro i hi
    refine Ev.step (f := fun _ => some true) (fun k => ?_) (Ev.now _)
    simp only [laws_eqMoveS.l0]
    rw [if_neg (by omega)]
  | succ d ih =>
    intro i hi
    refine Ev.step (f := fun k => laws_eqMoveS.l0 k l l ((i + 1 : Nat) : Int)) (fun k => ?_) (ih (i + 1) (by omega))
    simp only [laws_eqMoveS.l0, laws_eqMove.f, if_true, Option.bind_some]
    rw [if_pos (by omega), if_pos (by omega), if_pos (by omega), w64s i (by omega)]
theorem laws_eqMoveS.ev (l : List S52) (hl : l.length ≤ 1048576) : Ev (fun k => laws_eqMoveS.f k l l) true := by
  unfold laws_eqMoveS.f
  simp only [if_true]
  exact laws_eqMoveS.l0ev l hl l.length 0 (by omega)
/-- Whether a move can be made. -/
def canM (l : List Int) (f t c : Int) : Bool := decide (0 ≤ f) && decide (f ≤ (l.length : Int) - 1) && decide (0 ≤ t) && decide (t ≤ (l.length : Int) - 1) && decide (f ≠ t) && decide (1 ≤ c) && decide (c ≤ rd l f)
theorem canM_in {l : List Int} {f t c : Int} (h : canM l f t c = true) : 0 ≤ f ∧ f < (l.length : Int) ∧ 0 ≤ t ∧ t < (l.length : Int) ∧ f ≠ t ∧ 1 ≤ c ∧ c ≤ rd l f := by
  simp [canM] at h
  omega
/-- The heaps behind a move. -/
def mMade (l : List Int) (f t c : Int) : List Int := (l.set f.toNat (wrap64 (rd l f - c))).set t.toNat (wrap64 (rd (l.set f.toNat (wrap64 (rd l f - c))) t + c))
theorem mMade_length (l : List Int) (f t c : Int) : (mMade l f t c).length = l.length := by simp [mMade]
def playM : List S52 → List Int → List Int × Bool
  | [], out => (out, true)
  | m :: ms, out => if canM out m.f0 m.f1 m.f2 = true then playM ms (mMade out m.f0 m.f1 m.f2) else ([], false)
theorem playM_len : ∀ (ms : List S52) (out : List Int), out.length ≤ 1048576 → (playM ms out).1.length ≤ 1048576
  | [], out, h => h
  | m :: ms, out, h => by
    unfold playM
    split
    · exact playM_len ms _ (by rw [mMade_length]; exact h)
    · simp
theorem rdM_app' (done : List S52) (x : S52) (xs : List S52) : rd_T52 (done ++ x :: xs) (done.length : Int) = x := by simp [rd_T52]
/-- Marked moves, from k on. -/
def mmarks : List S52 → Int → List S52
  | [], _ => []
  | _ :: xs, k => ⟨k, k + 1, k + 2⟩ :: mmarks xs (k + 3)
theorem laws_markMoveS.l0ev : ∀ (tl done : List S52) (m : Int), done.length + tl.length ≤ 1048576 → 0 ≤ m → m ≤ 1048577 + 3 * done.length →
    Ev (fun k => laws_markMoveS.l0 k (done ++ tl) m done.length) (m + 3 * tl.length, done ++ mmarks tl m) := by
  intro tl
  induction tl with
  | nil =>
    intro done m h1 h2 h3
    refine Ev.step (f := fun _ => some (m, done)) (fun k => ?_) (by simpa [mmarks] using Ev.now (m, done))
    simp only [laws_markMoveS.l0]
    rw [if_neg (by simp)]
    simp
  | cons x xs ih =>
    intro done m h1 h2 h3
    simp only [List.length_cons] at h1
    have h := ih (done ++ [⟨m, m + 1, m + 2⟩]) (m + 3) (by simp; omega) (by omega) (by simp; omega)
    refine Ev.step (f := fun k => laws_markMoveS.l0 k (done ++ [⟨m, m + 1, m + 2⟩] ++ xs) (m + 3) ((done ++ [(⟨m, m + 1, m + 2⟩ : S52)]).length : Int)) (fun k => ?_) ?_
    · simp only [laws_markMoveS.l0, Option.bind_some]
      rw [if_pos (by simp; omega), if_pos (by omega), w64 (m + 1) (by omega) (by omega), w64 (m + 1 + 1) (by omega) (by omega), w64 (m + 1 + 1 + 1) (by omega) (by omega), w64s done.length (by omega)]
      have e : ∀ (y : S52), (done ++ y :: xs).set (done.length : Int).toNat ⟨m, m + 1, m + 1 + 1⟩ = done ++ [⟨m, m + 1, m + 2⟩] ++ xs := by
        intro y
        simp [List.set_append_right, Int.add_assoc]
      have s : ∀ (y z : S52), (done ++ y :: xs).set (done.length : Int).toNat z = done ++ z :: xs := by
        intro y z
        simp [List.set_append_right]
      simp only [s, rdM_app']
      congr 1
      · simp [Int.add_assoc]
      · simp [Int.add_assoc]
      · simp
    · have e : (m + 3 * ((x :: xs).length : Int), done ++ mmarks (x :: xs) m) = (m + 3 + 3 * (xs.length : Int), done ++ [⟨m, m + 1, m + 2⟩] ++ mmarks xs (m + 3)) := by
        simp [mmarks]; omega
      rw [e]; exact h
theorem laws_markMoveS.ev (l : List S52) (hl : l.length ≤ 1048576) (m : Int) (h0 : 0 ≤ m) (h1 : m ≤ 1048577) : Ev (fun k => laws_markMoveS.f k l m) (m + 3 * (l.length : Int), mmarks l m) := by
  have h := laws_markMoveS.l0ev l [] m (by simpa using hl) h0 (by simpa using h1)
  simpa [laws_markMoveS.f] using h
theorem laws_heldMoveS.l0ev : ∀ (tl done : List S52) (m : Int), done.length + tl.length ≤ 1048576 → 0 ≤ m → m ≤ 1048577 + 3 * done.length →
    Ev (fun k => laws_heldMoveS.l0 k (done ++ mmarks tl m) m done.length) (m + 3 * tl.length) := by
  intro tl
  induction tl with
  | nil =>
    intro done m h1 h2 h3
    refine Ev.step (f := fun _ => some m) (fun k => ?_) (by simpa [mmarks] using Ev.now m)
    simp only [laws_heldMoveS.l0]
    rw [if_neg (by simp [mmarks])]
  | cons x xs ih =>
    intro done m h1 h2 h3
    simp only [List.length_cons] at h1
    have h := ih (done ++ [⟨m, m + 1, m + 2⟩]) (m + 3) (by simp; omega) (by omega) (by simp; omega)
    refine Ev.step (f := fun k => laws_heldMoveS.l0 k (done ++ [⟨m, m + 1, m + 2⟩] ++ mmarks xs (m + 3)) (m + 3) ((done ++ [(⟨m, m + 1, m + 2⟩ : S52)]).length : Int)) (fun k => ?_) ?_
    · simp only [laws_heldMoveS.l0, mmarks, rdM_app']
      rw [if_pos (by simp; omega), if_pos (by omega), if_pos trivial, w64 (m + 1) (by omega) (by omega), if_pos rfl, w64 (m + 1 + 1) (by omega) (by omega), if_pos (by omega), w64 (m + 1 + 1 + 1) (by omega) (by omega), w64s done.length (by omega)]
      congr 1
      · simp
      · omega
      · simp
    · have e : m + 3 * ((x :: xs).length : Int) = m + 3 + 3 * (xs.length : Int) := by simp; omega
      rw [e]; exact h
theorem laws_heldMoveS.ev (l : List S52) (hl : l.length ≤ 1048576) : Ev (fun k => laws_heldMoveS.f k (mmarks l 1) 1) (1 + 3 * (l.length : Int)) := by
  have h := laws_heldMoveS.l0ev l [] 1 (by simpa using hl) (by omega) (by simp)
  simpa [laws_heldMoveS.f] using h
/-- The sum of a list's values under f. -/
def tot (f : Int → Int) : List Int → Int
  | [] => 0
  | x :: xs => f x + tot f xs
theorem rd_set_eq (v : List Int) (i : Nat) (x : Int) (h : i < v.length) : rd (v.set i x) (i : Int) = x := by
  simp [rd, List.getD_eq_getElem?_getD, h]
theorem rd_set_neN (v : List Int) (i j : Nat) (x : Int) (h : i ≠ j) : rd (v.set i x) (j : Int) = rd v (j : Int) := by
  simp [rd, List.getD_eq_getElem?_getD, List.getElem?_set_ne h]
theorem rd_cons_succ (y : Int) (ys : List Int) (i : Nat) : rd (y :: ys) ((i + 1 : Nat) : Int) = rd ys (i : Int) := by
  unfold rd
  rw [show (((i + 1 : Nat) : Int)).toNat = i + 1 by omega, show ((i : Int)).toNat = i by omega]
  simp
theorem tot_set (f : Int → Int) : ∀ (v : List Int) (i : Nat) (x : Int), i < v.length → tot f (v.set i x) = tot f v - f (rd v (i : Int)) + f x
  | [], i, x, h => by simp at h
  | y :: ys, 0, x, h => by simp [tot, rd]; omega
  | y :: ys, i + 1, x, h => by
    have := tot_set f ys i x (by simpa using h)
    rw [List.set_cons_succ, tot, tot, this, rd_cons_succ]
    omega
theorem mem_rd {v : List Int} {x : Int} (h : x ∈ v) : ∃ a : Nat, a < v.length ∧ rd v (a : Int) = x := by
  obtain ⟨a, ha, e⟩ := List.mem_iff_getElem.mp h
  exact ⟨a, ha, by rw [rd_at v a ha, e]⟩
theorem rd_mem {v : List Int} {a : Nat} (h : a < v.length) : rd v (a : Int) ∈ v := by
  rw [rd_at v a h]; exact List.getElem_mem h
theorem tot_nonpos : ∀ (v : List Int), (∀ x ∈ v, x ≤ 0) → tot id v ≤ 0 ∧ (tot id v = 0 → ∀ x ∈ v, x = 0)
  | [], _ => ⟨by simp [tot], by simp⟩
  | y :: ys, h => by
    have h1 := tot_nonpos ys (fun x hx => h x (by simp [hx]))
    have h2 := h y (by simp)
    constructor
    · simp only [tot, id]; omega
    · intro e
      simp only [tot, id] at e
      intro x hx
      rcases List.mem_cons.mp hx with rfl | hx
      · omega
      · exact h1.2 (by omega) x hx
theorem tot_nonneg : ∀ (v : List Int), (∀ x ∈ v, 0 ≤ x) → 0 ≤ tot id v ∧ (tot id v = 0 → ∀ x ∈ v, x = 0)
  | [], _ => ⟨by simp [tot], by simp⟩
  | y :: ys, h => by
    have h1 := tot_nonneg ys (fun x hx => h x (by simp [hx]))
    have h2 := h y (by simp)
    constructor
    · simp only [tot, id]; omega
    · intro e
      simp only [tot, id] at e
      intro x hx
      rcases List.mem_cons.mp hx with rfl | hx
      · omega
      · exact h1.2 (by omega) x hx
theorem tot_bound (f : Int → Int) (B : Int) : ∀ (v : List Int), (∀ x ∈ v, -B ≤ f x ∧ f x ≤ B) → -(B * v.length) ≤ tot f v ∧ tot f v ≤ B * v.length
  | [], _ => by simp [tot]
  | y :: ys, h => by
    have h1 := tot_bound f B ys (fun x hx => h x (by simp [hx]))
    have h2 := h y (by simp)
    simp only [tot, List.length_cons]
    have e : B * ((ys.length + 1 : Nat) : Int) = B * ys.length + B := by rw [Int.natCast_add, Int.mul_add]; simp
    omega
theorem idxP_none (p : Int → Bool) : ∀ (l : List Int) (k : Int), (∀ x ∈ l, p x = false) → idxP p l k = -1
  | [], _, _ => rfl
  | x :: xs, k, h => by
    simp only [idxP, h x (by simp), Bool.false_eq_true, if_false]
    exact idxP_none p xs (k + 1) (fun y hy => h y (by simp [hy]))
theorem idxP_some (p : Int → Bool) : ∀ (l : List Int) (k : Int) (i : Nat), i < l.length → (∀ a : Nat, a < i → p (rd l (a : Int)) = false) → p (rd l (i : Int)) = true → idxP p l k = k + i
  | [], _, i, h, _, _ => by simp at h
  | x :: xs, k, 0, _, _, h => by
    have : p x = true := by simpa [rd] using h
    simp [idxP, this]
  | x :: xs, k, i + 1, hi, h, hp => by
    have h0 : p x = false := by simpa [rd] using h 0 (by omega)
    simp only [idxP, h0, Bool.false_eq_true, if_false]
    rw [idxP_some p xs (k + 1) i (by simpa using hi) (fun a ha => by rw [← rd_cons_succ x]; exact h (a + 1) (by omega)) (by rw [← rd_cons_succ x]; exact hp)]
    omega
theorem mMade_rd (v : List Int) (i j a : Nat) (c : Int) (hi : i < v.length) (hj : j < v.length) (hne : i ≠ j) : rd (mMade v i j c) (a : Int) = if a = i then wrap64 (rd v i - c) else if a = j then wrap64 (rd v j + c) else rd v a := by
  unfold mMade
  simp only [Int.toNat_natCast]
  by_cases h1 : a = j
  · subst h1
    rw [rd_set_eq _ _ _ (by simpa using hj), if_neg (Ne.symm hne), if_pos rfl, rd_set_neN _ _ _ _ hne]
  · rw [rd_set_neN _ _ _ _ (Ne.symm h1)]
    by_cases h2 : a = i
    · subst h2
      rw [rd_set_eq _ _ _ hi, if_pos rfl]
    · rw [rd_set_neN _ _ _ _ (Ne.symm h2), if_neg h2, if_neg h1]
theorem rd_map_add (v : List Int) (s : Int) (i : Nat) (h : i < v.length) : rd (v.map (· + s)) (i : Int) = rd v (i : Int) + s := by
  rw [rd_at _ i (by simpa using h), rd_at v i h]; simp
theorem mMade_map (v : List Int) (i j : Nat) (c s : Int) (hi : i < v.length) (hj : j < v.length) (hne : i ≠ j) (h0 : 0 ≤ s ∧ s ≤ 1000000) (hc : 0 ≤ c ∧ c ≤ 1000000)
    (bi : -1000000 ≤ rd v i ∧ rd v i ≤ 1000000) (bj : -1000000 ≤ rd v j ∧ rd v j ≤ 1000000) : mMade (v.map (· + s)) i j c = (mMade v i j c).map (· + s) := by
  unfold mMade
  simp only [Int.toNat_natCast]
  rw [rd_map_add v s i hi, rd_set_neN _ _ _ _ hne, rd_set_neN _ _ _ _ hne, rd_map_add v s j hj, w64 (rd v i + s - c) (by omega) (by omega), w64 (rd v i - c) (by omega) (by omega), w64 (rd v j + s + c) (by omega) (by omega), w64 (rd v j + c) (by omega) (by omega), List.map_set, List.map_set]
  congr 1
  · congr 1; omega
  · omega
def cnt : List S52 → Int
  | [] => 0
  | m :: ms => m.f2 + cnt ms
structure GoodV (n : Nat) (v : List Int) : Prop where
  len : v.length = n
  bnd : ∀ x ∈ v, -1000000 ≤ x ∧ x ≤ 1000000
  sum : tot id v = 0
theorem GoodV.made {n : Nat} {v : List Int} (h : GoodV n v) (i j : Nat) (c : Int) (hi : i < n) (hj : j < n) (hne : i ≠ j) (h1 : 1 ≤ c) (h2 : c ≤ rd v i) (h3 : c ≤ -(rd v j)) : GoodV n (mMade v i j c) ∧ tot (max 0) (mMade v i j c) = tot (max 0) v - c := by
  have li := h.len
  have bi := h.bnd _ (rd_mem (show i < v.length by omega))
  have bj := h.bnd _ (rd_mem (show j < v.length by omega))
  have eT : ∀ f, tot f (mMade v i j c) = tot f v - f (rd v i) + f (rd v i - c) - f (rd v j) + f (rd v j + c) := by
    intro f
    unfold mMade
    simp only [Int.toNat_natCast]
    rw [tot_set f _ j _ (by simpa using (by omega : j < v.length)), tot_set f v i _ (by omega), rd_set_neN _ _ _ _ hne, w64 (rd v i - c) (by omega) (by omega), w64 (rd v j + c) (by omega) (by omega)]
  refine ⟨⟨by rw [mMade_length]; exact h.len, ?_, ?_⟩, ?_⟩
  · intro x hx
    obtain ⟨a, ha, e⟩ := mem_rd hx
    rw [mMade_length] at ha
    rw [mMade_rd v i j a c (by omega) (by omega) hne, w64 (rd v i - c) (by omega) (by omega), w64 (rd v j + c) (by omega) (by omega)] at e
    have ba := h.bnd _ (rd_mem ha)
    split at e
    · omega
    · split at e <;> omega
  · rw [eT, h.sum]; simp only [id]; omega
  · rw [eT]; omega
theorem share_end {n : Nat} {v : List Int} (s : Int) (h : GoodV n v) (hi : ∀ a : Nat, a < n → rd v a ≤ 0) : v.map (· + s) = List.replicate n s ∧ tot (max 0) v = 0 := by
  have h0 : ∀ x ∈ v, x = 0 := (tot_nonpos v (fun x hx => by obtain ⟨a, ha, e⟩ := mem_rd hx; rw [← e]; exact hi a (by rw [← h.len]; exact ha))).2 h.sum
  have e : v = List.replicate n 0 := List.eq_replicate_iff.mpr ⟨h.len, h0⟩
  constructor
  · rw [e]; simp
  · rw [e]
    clear e h0 hi h
    induction n with
    | zero => rfl
    | succ n ih => rw [List.replicate_succ, tot, ih]; rfl
theorem spec_l1Least.is (x y : Int) : spec_l1Least.f x y = some (mn x y) := by
  unfold spec_l1Least.f mn
  by_cases h : x < y
  · rw [if_pos h]; congr 1; omega
  · rw [if_neg h]; congr 1; omega
theorem impl_greedy_move (n : Nat) (v : List Int) (out : List S52) (i j : Nat) (c : Int) (g : GoodV n v) (hi : i < n) (hj : j < n) (pi : rd v i > 0) (pj : rd v j < 0) (bi : ∀ a : Nat, a < i → rd v a ≤ 0) (bj : ∀ b : Nat, b < j → 0 ≤ rd v b) (hc : c = mn (rd v i) (wrap64 (-(rd v j)))) (ho : out.length ≤ 1048576) (k : Nat) :
    impl_SharingMoves.l0 (k + 1) v out = impl_SharingMoves.l0 k (mMade v i j c) (out ++ [⟨i, j, c⟩]) := by
  have li := g.len
  have e1 : slices_IndexFunc_int_int_impl_SharingMoves_1.f v () = some (i : Int) := by
    unfold slices_IndexFunc_int_int_impl_SharingMoves_1.f
    rw [idxP_some _ v 0 i (by omega) (fun a ha => by have := bi a ha; simp; omega) (by simp; omega)]
    simp
  have e2 : slices_IndexFunc_int_int_impl_SharingMoves_2.f v () = some (j : Int) := by
    unfold slices_IndexFunc_int_int_impl_SharingMoves_2.f
    rw [idxP_some _ v 0 j (by omega) (fun a ha => by have := bj a ha; simp; omega) (by simp; omega)]
    simp
  simp only [impl_SharingMoves.l0, e1, e2, Option.bind_some]
  rw [if_neg (by omega), if_pos (by omega), if_pos (by omega), if_pos (by omega), if_pos (by omega), if_pos (by omega), ← hc]
  rfl
theorem impl_greedy_end (n : Nat) (v : List Int) (out : List S52) (g : GoodV n v) (bi : ∀ a : Nat, a < n → rd v a ≤ 0) : Ev (fun k => impl_SharingMoves.l0 k v out) (out, true) := by
  have e1 : slices_IndexFunc_int_int_impl_SharingMoves_1.f v () = some (-1) := by
    unfold slices_IndexFunc_int_int_impl_SharingMoves_1.f
    rw [idxP_none _ v 0 (fun x hx => by obtain ⟨a, ha, e⟩ := mem_rd hx; have := bi a (by rw [← g.len]; exact ha); simp; omega)]
  refine Ev.step (f := fun _ => some (out, true)) (fun k => ?_) (Ev.now _)
  simp only [impl_SharingMoves.l0, e1, Option.bind_some]
  rfl
theorem sharing (n : Nat) (hn : n ≤ 12) (s : Int) (hs : 0 ≤ s ∧ s ≤ 1000000) : ∀ (e i : Nat) (v : List Int) (out : List S52), i + e = n → GoodV n v → (∀ a : Nat, a < i → rd v a ≤ 0) → out.length + e * 12 ≤ 144 →
    ∃ ms : List S52, ms.length ≤ e * 12 ∧ Ev (fun k => spec_SharingMoves.l0 k v out (n : Int) i) (out ++ ms, true) ∧ Ev (fun k => impl_SharingMoves.l0 k v out) (out ++ ms, true) ∧ playM ms (v.map (· + s)) = (List.replicate n s, true) ∧ cnt ms = tot (max 0) v := by
  intro e
  induction e with
  | zero =>
    intro i v out hi g bi ho
    obtain ⟨e1, e2⟩ := share_end s g (by rw [← hi]; exact bi)
    refine ⟨[], by simp, ?_, by simpa using impl_greedy_end n v out g (by rw [← hi]; exact bi), by simp [playM, e1], by simp [cnt, e2]⟩
    refine Ev.step (f := fun _ => some (out, true)) (fun k => ?_) (by simpa using Ev.now _)
    simp only [spec_SharingMoves.l0]
    rw [if_neg (by omega)]
  | succ e ih =>
    intro i v out hi g bi ho
    have inner : ∀ (d j : Nat) (v : List Int) (out : List S52), j + d = n → GoodV n v → (∀ a : Nat, a < i → rd v a ≤ 0) → (0 < rd v i → ∀ b : Nat, b < j → 0 ≤ rd v b) → out.length + d + e * 12 ≤ 144 →
        ∃ ms : List S52, ms.length ≤ d + e * 12 ∧ Ev (fun k => spec_SharingMoves.l1 k v out i (n : Int) i (n : Int) j) (out ++ ms, true) ∧ Ev (fun k => impl_SharingMoves.l0 k v out) (out ++ ms, true) ∧ playM ms (v.map (· + s)) = (List.replicate n s, true) ∧ cnt ms = tot (max 0) v := by
      intro d
      induction d with
      | zero =>
        intro j v out hj g bi bj ho
        have hi' : rd v i ≤ 0 := by
          by_cases c : 0 < rd v i
          · have := (tot_nonneg v (fun x hx => by obtain ⟨a, ha, e⟩ := mem_rd hx; rw [← e]; exact bj c a (by rw [g.len] at ha; omega))).2 g.sum (rd v i) (rd_mem (by rw [g.len]; omega))
            omega
          · omega
        obtain ⟨ms, h0, h1, h2, h3, h4⟩ := ih (i + 1) v out (by omega) g (fun a ha => by
          by_cases h : a < i
          · exact bi a h
          · have : a = i := by omega
            subst this; exact hi') (by omega)
        refine ⟨ms, by omega, Ev.step (f := fun k => spec_SharingMoves.l0 k v out (n : Int) ((i + 1 : Nat) : Int)) (fun k => ?_) h1, h2, h3, h4⟩
        simp only [spec_SharingMoves.l1]
        rw [if_neg (by omega), w64s i (by omega)]
      | succ d ihd =>
        intro j v out hj g bi bj ho
        have li := g.len
        by_cases ci : rd v i > 0
        · by_cases cj : rd v j < 0
          · have bI := g.bnd _ (rd_mem (show i < v.length by omega))
            have bJ := g.bnd _ (rd_mem (show j < v.length by omega))
            have hne : i ≠ j := by intro h; subst h; omega
            have hm : mn (rd v i) (wrap64 (-(rd v j))) = min (rd v i) (-(rd v j)) := by rw [w64 (-(rd v j)) (by omega) (by omega)]; unfold mn; omega
            generalize hc : mn (rd v i) (wrap64 (-(rd v j))) = c at hm
            have h1 : 1 ≤ c := by omega
            have h2 : c ≤ rd v i := by omega
            have h3 : c ≤ -(rd v j) := by omega
            obtain ⟨g', t'⟩ := g.made i j c (by omega) (by omega) hne h1 h2 h3
            have r' : ∀ a : Nat, rd (mMade v i j c) (a : Int) = if a = i then rd v i - c else if a = j then rd v j + c else rd v a := by
              intro a
              rw [mMade_rd v i j a c (by omega) (by omega) hne, w64 (rd v i - c) (by omega) (by omega), w64 (rd v j + c) (by omega) (by omega)]
            obtain ⟨ms, h0, e1, e2, e3, e4⟩ := ihd (j + 1) (mMade v i j c) (out ++ [⟨i, j, c⟩]) (by omega) g' (fun a ha => by
                rw [r', if_neg (by omega)]
                have := bi a ha
                split <;> omega) (fun hp b hb => by
                rw [r', if_pos rfl] at hp
                rw [r']
                have hcj : c = -(rd v j) := by omega
                split
                · omega
                · split
                  · omega
                  · exact bj ci b (by omega)) (by simp; omega)
            refine ⟨⟨i, j, c⟩ :: ms, by simp; omega, Ev.step (f := fun k => spec_SharingMoves.l1 k (mMade v i j c) (out ++ [⟨i, j, c⟩]) i (n : Int) i (n : Int) ((j + 1 : Nat) : Int)) (fun k => ?_) (by simpa using e1), Ev.step (f := fun k => impl_SharingMoves.l0 k (mMade v i j c) (out ++ [⟨i, j, c⟩])) (fun k => ?_) (by simpa using e2), ?_, ?_⟩
            · simp only [spec_SharingMoves.l1, spec_l1Least.is, Option.bind_some, hc]
              rw [if_pos (by omega), if_pos (by omega), if_pos (by omega), if_pos ci, if_pos (by omega), if_pos (by omega), if_pos cj, if_pos (by omega), w64s j (by omega)]
              rfl
            · exact impl_greedy_move n v out i j c g (by omega) (by omega) ci cj bi (bj ci) hc.symm (by omega) k
            · have hcan : canM (v.map (· + s)) i j c = true := by
                have hi' := rd_map_add v s i (by omega)
                simp [canM, hi']
                omega
              rw [playM, if_pos hcan, mMade_map v i j c s (by omega) (by omega) hne hs (by omega) bI bJ]
              exact e3
            · show c + cnt ms = _
              rw [e4, t']; omega
          · obtain ⟨ms, h0, e1, e2, e3, e4⟩ := ihd (j + 1) v out (by omega) g bi (fun hp b hb => by
                rcases Nat.lt_or_ge b j with h | h
                · exact bj hp b h
                · have : b = j := by omega
                  subst this; omega) (by omega)
            refine ⟨ms, by omega, Ev.step (f := fun k => spec_SharingMoves.l1 k v out i (n : Int) i (n : Int) ((j + 1 : Nat) : Int)) (fun k => ?_) e1, e2, e3, e4⟩
            simp only [spec_SharingMoves.l1]
            rw [if_pos (by omega), if_pos (by omega), if_pos (by omega), if_pos ci, if_pos (by omega), if_pos (by omega), if_neg cj, w64s j (by omega)]
        · obtain ⟨ms, h0, e1, e2, e3, e4⟩ := ihd (j + 1) v out (by omega) g bi (fun hp b hb => by omega) (by omega)
          refine ⟨ms, by omega, Ev.step (f := fun k => spec_SharingMoves.l1 k v out i (n : Int) i (n : Int) ((j + 1 : Nat) : Int)) (fun k => ?_) e1, e2, e3, e4⟩
          simp only [spec_SharingMoves.l1]
          rw [if_pos (by omega), if_pos (by omega), if_pos (by omega), if_neg ci, w64s j (by omega)]
    obtain ⟨ms, h0, e1, e2, e3, e4⟩ := inner n 0 v out (by omega) g bi (fun _ b hb => by omega) (by omega)
    refine ⟨ms, by omega, Ev.step (f := fun k => spec_SharingMoves.l1 k v out i (n : Int) i (n : Int) 0) (fun k => ?_) e1, e2, e3, e4⟩
    simp only [spec_SharingMoves.l0]
    rw [if_pos (by omega), g.len]
theorem spec_l1In.is (x a b : Int) : spec_l1In.f x a b = some (decide (a ≤ x) && decide (x ≤ b)) := by
  unfold spec_l1In.f
  by_cases h : x ≥ a
  · simp [h, show a ≤ x from h]
  · simp [h, show ¬ a ≤ x from h]
def allIn (l : List Int) (a b : Int) : Bool := l.all fun x => decide (a ≤ x) && decide (x ≤ b)
theorem spec_l1All.l0ev (a b : Int) (n : Int) (hn : n ≤ 1048576) : ∀ (tl done : List Int), ((done ++ tl).length : Int) = n → Ev (fun k => spec_l1All.l0 k a b (done ++ tl) n done.length) (allIn tl a b) := by
  intro tl
  induction tl with
  | nil =>
    intro done hd
    refine Ev.step (f := fun _ => some true) (fun k => ?_) (Ev.now _)
    simp only [spec_l1All.l0]
    simp at hd
    rw [if_neg (by omega)]
  | cons x xs ih =>
    intro done hd
    have hd' : (done.length : Int) + (xs.length + 1) = n := by simpa using hd
    have hx : rd (done ++ x :: xs) (done.length : Int) = x := by simp [rd]
    by_cases hp : (decide (a ≤ x) && decide (x ≤ b)) = true
    · have h := ih (done ++ [x]) (by simp; omega)
      refine Ev.step (f := fun k => spec_l1All.l0 k a b (done ++ [x] ++ xs) n ((done ++ [x]).length : Int)) (fun k => ?_) ?_
      · simp only [spec_l1All.l0]
        rw [if_pos (by omega), if_pos (by omega), if_pos (by simp; omega), hx, spec_l1In.is, hp]
        simp only [Option.bind_some, if_true]
        rw [w64s done.length (by omega)]
        simp
      · rw [show allIn (x :: xs) a b = allIn xs a b by simp [allIn] at hp ⊢; simp [hp]]
        exact h
    · refine Ev.step (f := fun _ => some false) (fun k => ?_) (by rw [show allIn (x :: xs) a b = false by simp [allIn] at hp ⊢; intro h1 h2; exact absurd (hp h1) (by omega)]; exact Ev.now _)
      simp only [spec_l1All.l0]
      rw [if_pos (by omega), if_pos (by omega), if_pos (by simp; omega), hx, spec_l1In.is]
      simp only [Option.bind_some]
      rw [if_neg hp]
theorem spec_l1All.ev (l : List Int) (a b : Int) (hl : l.length ≤ 1048576) : Ev (fun k => spec_l1All.f k l a b) (allIn l a b) := by
  have h := spec_l1All.l0ev a b l.length (by omega) l [] (by simp)
  simpa [spec_l1All.f] using h
theorem impl_within.is (x a b : Int) : impl_within.f x a b = some (decide (a ≤ x) && decide (x ≤ b)) := by
  unfold impl_within.f
  by_cases h : x ≥ a
  · simp [h, show a ≤ x from h]
  · simp [h, show ¬ a ≤ x from h]
def isHeaps (l : List Int) : Bool := (decide (1 ≤ (l.length : Int)) && decide ((l.length : Int) ≤ 12)) && allIn l 0 1000
theorem spec_hpGood.ev (l : List Int) (hl : l.length ≤ 1048576) : Ev (fun k => spec_hpGood.f k l) (isHeaps l) := by
  unfold spec_hpGood.f isHeaps
  simp only [spec_l1In.is, Option.bind_some]
  by_cases h : (decide (1 ≤ (l.length : Int)) && decide ((l.length : Int) ≤ 12)) = true
  · simp only [h, if_true, Bool.true_and]
    exact Ev.bind (spec_l1All.ev l 0 1000 hl) (Ev.now _)
  · simp only [h]
    simpa using Ev.now false
theorem impl_AreHeaps.is (l : List Int) : impl_AreHeaps.f l = some (isHeaps l) := by
  unfold impl_AreHeaps.f isHeaps impl_areIn.f allIn
  simp only [impl_within.is, Option.bind_some]
  by_cases h : (decide (1 ≤ (l.length : Int)) && decide ((l.length : Int) ≤ 12)) = true
  · simp only [h, if_true, Bool.true_and]
  · simp only [h]
    simp
theorem isHeaps_ne {l : List Int} (h : isHeaps l = true) : ¬ ((l.length : Int) = 0) := by
  simp [isHeaps] at h
  omega
/-- The sum as the machine makes it. -/
def wsum : List Int → Int → Int
  | [], a => a
  | x :: xs, a => wsum xs (wrap64 (a + x))
theorem spec_hpSum.l0ev (n : Int) (hn : n ≤ 1048576) : ∀ (tl done : List Int) (a : Int), ((done ++ tl).length : Int) = n → Ev (fun k => spec_hpSum.l0 k a (done ++ tl) n done.length) (wsum tl a) := by
  intro tl
  induction tl with
  | nil =>
    intro done a hd
    refine Ev.step (f := fun _ => some a) (fun k => ?_) (Ev.now a)
    simp only [spec_hpSum.l0]
    simp at hd
    rw [if_neg (by omega)]
  | cons x xs ih =>
    intro done a hd
    have hd' : (done.length : Int) + (xs.length + 1) = n := by simpa using hd
    have hx : rd (done ++ x :: xs) (done.length : Int) = x := by simp [rd]
    have h := ih (done ++ [x]) (wrap64 (a + x)) (by simp; omega)
    refine Ev.step (f := fun k => spec_hpSum.l0 k (wrap64 (a + x)) (done ++ [x] ++ xs) n ((done ++ [x]).length : Int)) (fun k => ?_) (by simpa [wsum] using h)
    simp only [spec_hpSum.l0]
    rw [if_pos (by omega), if_pos (by omega), if_pos (by simp; omega), hx, w64s done.length (by omega)]
    simp
theorem spec_hpSum.ev (l : List Int) (hl : l.length ≤ 1048576) : Ev (fun k => spec_hpSum.f k l) (wsum l 0) := by
  have h := spec_hpSum.l0ev l.length (by omega) l [] 0 (by simp)
  simpa [spec_hpSum.f] using h
/-- The stones can be shared. -/
def isEqual (l : List Int) : Bool := isHeaps l && (Int.tmod (wsum l 0) (l.length : Int) == 0)
theorem spec_hpEqual.ev (l : List Int) (hl : l.length ≤ 1048576) : Ev (fun k => spec_hpEqual.f k l) (isEqual l) := by
  refine Ev.bind (spec_hpGood.ev l hl) ?_
  unfold isEqual
  by_cases h : isHeaps l = true
  · simp only [h, if_true, Bool.true_and]
    refine Ev.bind (spec_hpSum.ev l hl) ?_
    simp only [if_neg (isHeaps_ne h)]
    exact Ev.now _
  · simp only [h, Bool.not_eq_true] at h ⊢
    simp only [h, Bool.false_and]
    exact Ev.now _
/-- What each heap has too many. -/
def overOf (l : List Int) : List Int := l.map fun x => wrap64 (x - wrap64 (Int.tdiv (wsum l 0) (l.length : Int)))
theorem overOf_length (l : List Int) : (overOf l).length = l.length := by simp [overOf]
def moreR (l : List Int) : List Int × Bool := if isEqual l = true then (overOf l, true) else ([], false)
theorem isEqual_heaps {l : List Int} (h : isEqual l = true) : isHeaps l = true := by
  unfold isEqual at h
  simp at h
  exact h.1
theorem isHeaps_len {l : List Int} (h : isHeaps l = true) : 1 ≤ l.length ∧ l.length ≤ 12 := by
  simp [isHeaps] at h
  omega
theorem heaps_in {l : List Int} (h : isHeaps l = true) : ∀ x ∈ l, 0 ≤ x ∧ x ≤ 1000 := by
  simp [isHeaps, allIn] at h
  intro x hx
  exact h.2 x hx
theorem wsum_tot : ∀ (l : List Int) (a : Int), (∀ x ∈ l, 0 ≤ x ∧ x ≤ 1000) → 0 ≤ a → a + 1000 * l.length ≤ 1000000 → wsum l a = a + tot id l
  | [], a, _, _, _ => by simp [wsum, tot]
  | x :: xs, a, h, h0, hb => by
    have hx := h x (by simp)
    simp only [List.length_cons] at hb
    have e : (1000 : Int) * ((xs.length + 1 : Nat) : Int) = 1000 * xs.length + 1000 := by omega
    rw [wsum, w64 (a + x) (by omega) (by omega), wsum_tot xs (a + x) (fun y hy => h y (by simp [hy])) (by omega) (by omega), tot]
    simp only [id]; omega
theorem tot_sub (s : Int) : ∀ l : List Int, tot id (l.map fun x => x - s) = tot id l - l.length * s
  | [] => by simp [tot]
  | x :: xs => by
    rw [List.map_cons, tot, tot, tot_sub s xs]
    simp only [id, List.length_cons]
    rw [Int.natCast_add, Int.add_mul]; simp; omega
/-- What each heap is to hold. -/
def shareOf (l : List Int) : Int := wrap64 (Int.tdiv (wsum l 0) (l.length : Int))
theorem equal_facts {l : List Int} (h : isEqual l = true) : 0 ≤ shareOf l ∧ shareOf l ≤ 12000 ∧ GoodV l.length (overOf l) ∧ (overOf l).map (· + shareOf l) = l ∧ overOf l = l.map (fun x => x - shareOf l) := by
  have hh := isEqual_heaps h
  have hl := isHeaps_len hh
  have hin := heaps_in hh
  have hm : Int.tmod (wsum l 0) (l.length : Int) = 0 := by
    unfold isEqual at h
    simp at h
    exact h.2
  have hw := wsum_tot l 0 hin (by omega) (by omega)
  have hS := tot_nonneg l (fun x hx => (hin x hx).1)
  have hB := tot_bound id 1000 l (fun x hx => by have := hin x hx; simp only [id]; omega)
  have hq : (l.length : Int) * Int.tdiv (wsum l 0) (l.length : Int) = wsum l 0 := by
    have := Int.mul_tdiv_add_tmod (wsum l 0) (l.length : Int)
    omega
  have hS0 : 0 ≤ wsum l 0 := by omega
  have hS1 : wsum l 0 ≤ 12000 := by omega
  have h0 : 0 ≤ Int.tdiv (wsum l 0) (l.length : Int) := Int.tdiv_nonneg hS0 (by omega)
  have h1 : Int.tdiv (wsum l 0) (l.length : Int) ≤ 12000 := by
    have := Int.tdiv_le_self (l.length : Int) hS0
    omega
  have hs : shareOf l = Int.tdiv (wsum l 0) (l.length : Int) := w64 _ (by omega) (by omega)
  have eo : overOf l = l.map fun x => x - shareOf l := by
    unfold overOf
    refine List.map_congr_left (fun x hx => ?_)
    have := hin x hx
    show wrap64 (x - shareOf l) = _
    exact w64 _ (by omega) (by omega)
  refine ⟨by omega, by omega, ⟨overOf_length l, ?_, ?_⟩, ?_, eo⟩
  · intro x hx
    rw [eo] at hx
    obtain ⟨y, hy, rfl⟩ := List.mem_map.mp hx
    have := hin y hy
    omega
  · rw [eo, tot_sub, hs, hq]; omega
  · rw [eo, List.map_map]
    conv => rhs; rw [← List.map_id l]
    refine List.map_congr_left (fun x _ => ?_)
    simp
theorem impl_sum.l0ev (n : Int) (hn : n ≤ 1048576) : ∀ (tl done : List Int) (a : Int), ((done ++ tl).length : Int) = n → Ev (fun k => impl_sum.l0 k a (done ++ tl) n done.length) (wsum tl a) := by
  intro tl
  induction tl with
  | nil =>
    intro done a hd
    refine Ev.step (f := fun _ => some a) (fun k => ?_) (Ev.now a)
    simp only [impl_sum.l0]
    simp at hd
    rw [if_neg (by omega)]
  | cons x xs ih =>
    intro done a hd
    have hd' : (done.length : Int) + (xs.length + 1) = n := by simpa using hd
    have hx : rd (done ++ x :: xs) (done.length : Int) = x := by simp [rd]
    have h := ih (done ++ [x]) (wrap64 (a + x)) (by simp; omega)
    refine Ev.step (f := fun k => impl_sum.l0 k (wrap64 (a + x)) (done ++ [x] ++ xs) n ((done ++ [x]).length : Int)) (fun k => ?_) (by simpa [wsum] using h)
    simp only [impl_sum.l0]
    rw [if_pos (by omega), if_pos (by omega), if_pos (by simp; omega), hx, w64s done.length (by omega)]
    simp
theorem impl_sum.ev (l : List Int) (hl : l.length ≤ 1048576) : Ev (fun k => impl_sum.f k l) (wsum l 0) := by
  have h := impl_sum.l0ev l.length (by omega) l [] 0 (by simp)
  simpa [impl_sum.f] using h
def canR (l : List Int) : Bool × Bool := (isEqual l, isHeaps l)
theorem impl_CanBeEqual.ev (l : List Int) (hl : l.length ≤ 1048576) : Ev (fun k => impl_CanBeEqual.f k l) (canR l) := by
  unfold impl_CanBeEqual.f canR isEqual
  simp only [impl_AreHeaps.is, Option.bind_some]
  by_cases h : isHeaps l = true
  · simp only [h, if_true, Bool.true_and]
    refine Ev.bind (impl_sum.ev l hl) ?_
    simp only [if_neg (isHeaps_ne h)]
    exact Ev.now _
  · simp only [Bool.not_eq_true] at h
    simp only [h, Bool.false_and]
    exact Ev.now _
theorem impl_surplus.l0ev (sh : Int) (n : Int) (hn : n ≤ 1048576) : ∀ (tl done : List Int) (acc : List Int), ((done ++ tl).length : Int) = n → (acc.length : Int) + tl.length ≤ 1048576 → Ev (fun k => impl_surplus.l0 k sh acc (done ++ tl) n done.length) ((acc ++ tl.map fun x => wrap64 (x - sh), true)) := by
  intro tl
  induction tl with
  | nil =>
    intro done acc hd hs0 
    refine Ev.step (f := fun _ => some ((acc ++ [].map fun x => wrap64 (x - sh), true))) (fun k => ?_) (Ev.now _)
    simp only [impl_surplus.l0]
    simp at hd
    rw [if_neg (by omega)]
    all_goals simp
  | cons x xs ih =>
    intro done acc hd hs0 
    have hd' : (done.length : Int) + (xs.length + 1) = n := by simpa using hd
    simp only [List.length_cons] at hs0
    have hx : rd (done ++ x :: xs) (done.length : Int) = x := by simp [rd]
    skip
    have h := ih (done ++ [x]) (acc ++ [wrap64 (x - sh)]) (by simp; omega) (by simp; omega)
    have e_ : (acc ++ (x :: xs).map fun x => wrap64 (x - sh), true) = ((acc ++ [wrap64 (x - sh)]) ++ xs.map fun x => wrap64 (x - sh), true) := by simp
    rw [e_]
    refine Ev.step (f := fun k => impl_surplus.l0 k sh (acc ++ [wrap64 (x - sh)]) (done ++ [x] ++ xs) n ((done ++ [x]).length : Int)) (fun k => ?_) (by simpa using h)
    simp only [impl_surplus.l0, hx, Option.bind_some]
    rw [if_pos (by omega), if_pos (by omega), if_pos (by simp; omega), if_pos (show acc.length < 17592186044416 by omega), w64s done.length (by omega)]
    simp
theorem impl_surplus.ev (l : List Int) (hl : l.length ≤ 1048576) : Ev (fun k => impl_surplus.f k l) (moreR l) := by
  refine Ev.bind (impl_CanBeEqual.ev l hl) ?_
  unfold canR moreR
  by_cases h : isEqual l = true
  · have hh := isEqual_heaps h
    simp only [h, hh, if_true]
    refine Ev.step (f := fun k => (impl_sum.f k l).bind fun t => impl_surplus.l0 k (wrap64 (Int.tdiv t (l.length : Int))) ([] : List Int) l (l.length : Int) 0) (fun k => ?_) ?_
    · simp only [impl_surplus.j0, Bool.not_true, Bool.false_eq_true, if_false, if_neg (isHeaps_ne hh)]
    · refine Ev.bind (impl_sum.ev l hl) ?_
      have := impl_surplus.l0ev (wrap64 (Int.tdiv (wsum l 0) (l.length : Int))) l.length (by omega) l [] [] (by simp) (by simp; omega)
      simpa [overOf] using this
  · simp only [Bool.not_eq_true] at h
    simp only [h, Bool.not_false]
    refine Ev.congr (f := fun k => impl_surplus.j0 k l true) (fun k => by split <;> rfl) ?_
    refine Ev.step (f := fun _ => some ([], false)) (fun k => ?_) (by simpa using Ev.now _)
    simp [impl_surplus.j0]
theorem spec_hpOver.l0ev (sh : Int) (n : Int) (hn : n ≤ 1048576) : ∀ (tl done : List Int) (acc : List Int), ((done ++ tl).length : Int) = n → (acc.length : Int) + tl.length ≤ 1048576 → Ev (fun k => spec_hpOver.l0 k sh acc (done ++ tl) n done.length) ((acc ++ tl.map fun x => wrap64 (x - sh))) := by
  intro tl
  induction tl with
  | nil =>
    intro done acc hd hs0 
    refine Ev.step (f := fun _ => some ((acc ++ [].map fun x => wrap64 (x - sh)))) (fun k => ?_) (Ev.now _)
    simp only [spec_hpOver.l0]
    simp at hd
    rw [if_neg (by omega)]
    all_goals simp
  | cons x xs ih =>
    intro done acc hd hs0 
    have hd' : (done.length : Int) + (xs.length + 1) = n := by simpa using hd
    simp only [List.length_cons] at hs0
    have hx : rd (done ++ x :: xs) (done.length : Int) = x := by simp [rd]
    skip
    have h := ih (done ++ [x]) (acc ++ [wrap64 (x - sh)]) (by simp; omega) (by simp; omega)
    have e_ : (acc ++ (x :: xs).map fun x => wrap64 (x - sh)) = ((acc ++ [wrap64 (x - sh)]) ++ xs.map fun x => wrap64 (x - sh)) := by simp
    rw [e_]
    refine Ev.step (f := fun k => spec_hpOver.l0 k sh (acc ++ [wrap64 (x - sh)]) (done ++ [x] ++ xs) n ((done ++ [x]).length : Int)) (fun k => ?_) (by simpa using h)
    simp only [spec_hpOver.l0, hx, Option.bind_some]
    rw [if_pos (by omega), if_pos (by omega), if_pos (by simp; omega), if_pos (show acc.length < 17592186044416 by omega), w64s done.length (by omega)]
    simp
theorem spec_hpOver.ev (l : List Int) (h : isHeaps l = true) : Ev (fun k => spec_hpOver.f k l) (overOf l) := by
  have hl := isHeaps_len h
  refine Ev.bind (spec_hpSum.ev l (by omega)) ?_
  simp only [if_neg (isHeaps_ne h)]
  have := spec_hpOver.l0ev (wrap64 (Int.tdiv (wsum l 0) (l.length : Int))) l.length (by omega) l [] [] (by simp) (by simp; omega)
  simpa [overOf] using this
/-- The moves that share stones. -/
theorem both_SharingMoves (l : List Int) (hl : l.length ≤ 1048576) : ∃ v : List S52 × Bool, v.1.length ≤ 144 ∧ Ev (fun k => spec_SharingMoves.f k l) v ∧ Ev (fun k => impl_SharingMoves.f k l) v ∧ v.2 = isEqual l ∧ (isEqual l = true → playM v.1 l = (List.replicate l.length (shareOf l), true) ∧ cnt v.1 = tot (max 0) (overOf l)) := by
  by_cases h : isEqual l = true
  · obtain ⟨s0, s1, g, e, _⟩ := equal_facts h
    have hh := isHeaps_len (isEqual_heaps h)
    obtain ⟨ms, h0, e1, e2, e3, e4⟩ := sharing l.length hh.2 (shareOf l) (by omega) l.length 0 (overOf l) [] (by omega) g (fun a ha => by omega) (by simp; omega)
    rw [e] at e3
    refine ⟨(ms, true), by simp; omega, Ev.bind (spec_hpEqual.ev l hl) ?_, Ev.bind (impl_surplus.ev l hl) ?_, h.symm, fun _ => ⟨e3, e4⟩⟩
    · simp only [h, if_true]
      refine Ev.bind (spec_hpOver.ev l (isEqual_heaps h)) ?_
      rw [overOf_length]
      simpa using e1
    · unfold moreR
      simp only [h, if_true]
      simpa using e2
  · refine ⟨([], false), by simp, Ev.bind (spec_hpEqual.ev l hl) ?_, Ev.bind (impl_surplus.ev l hl) ?_, by simp [h], fun h' => absurd h' h⟩
    · simp only [h]
      exact Ev.now _
    · unfold moreR
      simp only [h]
      exact Ev.now _
theorem FnExactSharingMoves : laws_FnExactSharingMoves.Pure := by
  intro l _ _ _
  by_cases hl : (l.length : Int) > 1048576
  · exact ⟨0, by unfold laws_FnExactSharingMoves.f; rw [if_pos hl]⟩
  obtain ⟨K1, h1⟩ := laws_toIntS.ev l (by omega)
  obtain ⟨v, hv, ⟨K2, h2⟩, ⟨K3, h3⟩, _⟩ := both_SharingMoves l (by omega)
  obtain ⟨v, b⟩ := v
  simp only at hv
  obtain ⟨K4, h4⟩ := laws_eqIntS.ev l (by omega)
  obtain ⟨K5, h5⟩ := laws_eqMoveS.ev v (by omega)
  obtain ⟨K6, h6⟩ := laws_markIntS.ev l (by omega)
  obtain ⟨K7, h7⟩ := laws_markMoveS.ev v (by omega) 1 (by omega) (by omega)
  obtain ⟨K8, h8⟩ := laws_heldMoveS.ev v (by omega)
  dsimp only at h1 h2 h3 h4 h5 h6 h7 h8
  refine ⟨K1 + K2 + K3 + K4 + K5 + K6 + K7 + K8 + 1 + 1 + 1, ?_⟩
  have c1 : ¬ (1 + (l.length : Int) < 0) := by omega
  have c2 : ¬ (1 + 3 * (v.length : Int) < 0) := by omega
  simp (disch := omega) only [laws_FnExactSharingMoves.f, if_neg hl, h1, h2, h3, h5, Option.bind_some, bne_self_eq_false, if_true]
  simp (disch := omega) only [laws_FnExactSharingMoves.j0, h1, h4, h5, h6, Option.bind_some, bne_self_eq_false, Bool.false_eq_true, if_true, if_false, if_neg c1]
  simp (disch := omega) only [laws_FnExactSharingMoves.j1, h1, h3, h5, h7, h8, Option.bind_some, bne_self_eq_false, Bool.false_eq_true, if_true, if_false, if_neg c2]
  simp (disch := omega) only [laws_FnExactSharingMoves.j2, h8, Option.bind_some, Bool.false_eq_true, if_true, if_false, if_neg c2]

end Go.Proofs.Ytdhhphngabamoaa.Pure
