/- The program's PlayMoves returns what the reference's returns, for all arguments. It has no conditions. -/
import Derived.Test.YtdhhphngabamoaaPFnExactPlayMovesx6
namespace Go.Proofs.Ytdhhphngabamoaa.Pure
open Go.RowKit Go.Proofs.Ytdhhphngabamoaa.PFnExactPlayMoves Go.Proofs.YtdhhphngabamoaaW.PrintWords Go.Proofs.YtdhhphngabamoaaW.PrintLast
set_option linter.unusedVariables false
set_option linter.unusedSimpArgs false

/-! ### small words -/
theorem w64 (n : Int) (h1 : -9223372036854775808 ≤ n) (h2 : n ≤ 9223372036854775807) : wrap64 n = n := by unfold wrap64; omega
theorem w64s (i : Nat) (h : i < 9223372036854775807) : wrap64 ((i : Int) + 1) = ((i + 1 : Nat) : Int) := by unfold wrap64; omega
theorem rd_at (l : List Int) (i : Nat) (h : i < l.length) : rd l (i : Int) = l[i] := by simp [rd, List.getD_eq_getElem?_getD, List.getElem?_eq_getElem h]
theorem wf64 {x : Int} (h : (Lit.int .i64 x).wf = true) : -9223372036854775808 ≤ x ∧ x ≤ 9223372036854775807 := by
  simp [Lit.wf, IntKind.min, IntKind.max, IntKind.bits, IntKind.signed] at h
  omega
/-! ### copies, marks -/
theorem laws_toIntS.l0ev (l : List Int) (hl : l.length ≤ 1048576) (d : Nat) : ∀ i, i + d = l.length → Ev (fun k => laws_toIntS.l0 k l (l.take i ++ List.replicate d 0) i) l := by
  induction d with
  | zero =>
    intro i hi
    refine Ev.step (f := fun _ => some l) (fun k => ?_) (Ev.now _)
    simp only [laws_toIntS.l0]
    rw [if_neg (by omega)]
    simp [List.take_of_length_le (show l.length ≤ i by omega)]
  | succ d ih =>
    intro i hi
    refine Ev.step (f := fun k => laws_toIntS.l0 k l (l.take (i + 1) ++ List.replicate d 0) ((i + 1 : Nat) : Int)) (fun k => ?_) (ih (i + 1) (by omega))
    simp only [laws_toIntS.l0]
    rw [if_pos (by omega), if_pos (by omega), if_pos (by simp; omega), w64s i (by omega), rd_at l i (by omega)]
    congr 1
    rw [show ((i : Int)).toNat = i by omega, List.set_append_right _ _ (by simp; omega), List.replicate_succ, List.length_take, show i - min i l.length = 0 by omega, List.set_cons_zero, List.take_succ_eq_append_getElem (show i < l.length by omega)]
    simp only [List.append_assoc, List.cons_append, List.nil_append]
theorem laws_toIntS.ev (l : List Int) (hl : l.length ≤ 1048576) : Ev (fun k => laws_toIntS.f k l) l := by
  have h := laws_toIntS.l0ev l hl l.length 0 (by omega)
  unfold laws_toIntS.f
  simp only [if_pos (show (0 : Int) ≤ (l.length : Int) by omega), if_pos (show (l.length : Int).toNat ≤ 35184372088832 by omega)]
  simpa using h
theorem laws_eqIntS.l0ev (l : List Int) (hl : l.length ≤ 1048576) (d : Nat) : ∀ i, i + d = l.length → Ev (fun k => laws_eqIntS.l0 k l l i) true := by
  induction d with
  | zero =>
    intro i hi
    refine Ev.step (f := fun _ => some true) (fun k => ?_) (Ev.now _)
    simp only [laws_eqIntS.l0]
    rw [if_neg (by omega)]
  | succ d ih =>
    intro i hi
    refine Ev.step (f := fun k => laws_eqIntS.l0 k l l ((i + 1 : Nat) : Int)) (fun k => ?_) (ih (i + 1) (by omega))
    simp only [laws_eqIntS.l0]
    rw [if_pos (by omega), if_pos (by omega), if_pos (by omega), if_pos trivial, w64s i (by omega)]
theorem laws_eqIntS.ev (l : List Int) (hl : l.length ≤ 1048576) : Ev (fun k => laws_eqIntS.f k l l) true := by
  unfold laws_eqIntS.f
  simp only [if_true]
  exact laws_eqIntS.l0ev l hl l.length 0 (by omega)
/-- Marked cells, from k on. -/
def marks : List Int → Int → List Int
  | [], _ => []
  | _ :: xs, k => k :: marks xs (k + 1)
theorem marks_length : ∀ (l : List Int) (k : Int), (marks l k).length = l.length
  | [], _ => rfl
  | _ :: xs, k => by simp [marks, marks_length xs]
theorem laws_markIntS.l0ev (hd : List Int) : ∀ (tl done : List Int) (m : Int), done.length + tl.length ≤ 1048576 → 0 ≤ m → m ≤ 1048577 + done.length →
    Ev (fun k => laws_markIntS.l0 k (done ++ tl) m done.length) (m + tl.length, done ++ marks tl m) := by
  intro tl
  induction tl with
  | nil =>
    intro done m h1 h2 h3
    refine Ev.step (f := fun _ => some (m, done)) (fun k => ?_) (by simpa [marks] using Ev.now (m, done))
    simp only [laws_markIntS.l0]
    rw [if_neg (by simp)]
    simp
  | cons x xs ih =>
    intro done m h1 h2 h3
    simp only [List.length_cons] at h1
    have h := ih (done ++ [m]) (m + 1) (by simp; omega) (by omega) (by simp; omega)
    refine Ev.step (f := fun k => laws_markIntS.l0 k (done ++ [m] ++ xs) (m + 1) ((done ++ [m]).length : Int)) (fun k => ?_) ?_
    · simp only [laws_markIntS.l0]
      rw [if_pos (by simp; omega), if_pos (by omega), w64 (m + 1) (by omega) (by omega), w64s done.length (by omega)]
      congr 1
      · simp [List.set_append_right]
      · simp
    · have e : (m + ((x :: xs).length : Int), done ++ marks (x :: xs) m) = (m + 1 + (xs.length : Int), done ++ [m] ++ marks xs (m + 1)) := by
        simp [marks]; omega
      rw [e]; exact h
theorem laws_markIntS.ev (l : List Int) (hl : l.length ≤ 1048576) : Ev (fun k => laws_markIntS.f k l 1) (1 + (l.length : Int), marks l 1) := by
  have h := laws_markIntS.l0ev [] l [] 1 (by simpa using hl) (by omega) (by simp)
  simpa [laws_markIntS.f] using h
theorem laws_heldIntS.l0ev : ∀ (tl done : List Int) (m : Int), done.length + tl.length ≤ 1048576 → 0 ≤ m → m ≤ 1048577 + done.length →
    Ev (fun k => laws_heldIntS.l0 k (done ++ marks tl m) m done.length) (m + tl.length) := by
  intro tl
  induction tl with
  | nil =>
    intro done m h1 h2 h3
    refine Ev.step (f := fun _ => some m) (fun k => ?_) (by simpa [marks] using Ev.now m)
    simp only [laws_heldIntS.l0]
    rw [if_neg (by simp [marks])]
  | cons x xs ih =>
    intro done m h1 h2 h3
    simp only [List.length_cons] at h1
    have h := ih (done ++ [m]) (m + 1) (by simp; omega) (by omega) (by simp; omega)
    refine Ev.step (f := fun k => laws_heldIntS.l0 k (done ++ [m] ++ marks xs (m + 1)) (m + 1) ((done ++ [m]).length : Int)) (fun k => ?_) ?_
    · simp only [laws_heldIntS.l0]
      rw [if_pos (by simp [marks]; omega), if_pos (by omega), if_pos (by simp [rd, marks]), w64 (m + 1) (by omega) (by omega), w64s done.length (by omega)]
      congr 1
      · simp [marks]
      · simp
    · have e : m + ((x :: xs).length : Int) = m + 1 + (xs.length : Int) := by simp; omega
      rw [e]; exact h
theorem laws_heldIntS.ev (l : List Int) (hl : l.length ≤ 1048576) : Ev (fun k => laws_heldIntS.f k (marks l 1) 1) (1 + (l.length : Int)) := by
  have h := laws_heldIntS.l0ev l [] 1 (by simpa using hl) (by omega) (by simp)
  simpa [laws_heldIntS.f] using h
def mconv (x : S73) : S52 := ⟨x.f0, x.f1, x.f2⟩
theorem rdL_at (l : List S73) (i : Nat) (h : i < l.length) : rd_T73 l (i : Int) = l[i] := by simp [rd_T73, List.getD_eq_getElem?_getD, List.getElem?_eq_getElem h]
theorem laws_toMoveS.l0ev (l : List S73) (hl : l.length ≤ 1048576) (d : Nat) : ∀ i, i + d = l.length → Ev (fun k => laws_toMoveS.l0 k l ((l.take i).map mconv ++ List.replicate d z52) i) (l.map mconv) := by
  induction d with
  | zero =>
    intro i hi
    refine Ev.step (f := fun _ => some (l.map mconv)) (fun k => ?_) (Ev.now _)
    simp only [laws_toMoveS.l0]
    rw [if_neg (by omega)]
    simp [List.take_of_length_le (show l.length ≤ i by omega)]
  | succ d ih =>
    intro i hi
    refine Ev.step (f := fun k => laws_toMoveS.l0 k l ((l.take (i + 1)).map mconv ++ List.replicate d z52) ((i + 1 : Nat) : Int)) (fun k => ?_) (ih (i + 1) (by omega))
    simp only [laws_toMoveS.l0, laws_toMove.f, Option.bind_some]
    rw [if_pos (by omega), if_pos (by omega), if_pos (by simp; omega), w64s i (by omega), rdL_at l i (by omega)]
    congr 1
    rw [show ((i : Int)).toNat = i by omega, List.set_append_right _ _ (by simp; omega), List.replicate_succ, List.length_map, List.length_take, show i - min i l.length = 0 by omega, List.set_cons_zero, List.take_succ_eq_append_getElem (show i < l.length by omega)]
    simp only [List.map_append, List.map_cons, List.map_nil, List.append_assoc, List.cons_append, List.nil_append]
    rfl
theorem laws_toMoveS.ev (l : List S73) (hl : l.length ≤ 1048576) : Ev (fun k => laws_toMoveS.f k l) (l.map mconv) := by
  have h := laws_toMoveS.l0ev l hl l.length 0 (by omega)
  unfold laws_toMoveS.f
  simp only [if_pos (show (0 : Int) ≤ (l.length : Int) by omega), if_pos (show (l.length : Int).toNat ≤ 11728124029610 by omega)]
  simpa using h
theorem laws_eqMoveS.l0ev (l : List S52) (hl : l.length ≤ 1048576) (d : Nat) : ∀ i, i + d = l.length → Ev (fun k => laws_eqMoveS.l0 k l l i) true := by
  induction d with
  | zero =>
    intro i hi
    refine Ev.step (f := fun _ => some true) (fun k => ?_) (Ev.now _)
    simp only [laws_eqMoveS.l0]
    rw [if_neg (by omega)]
  | succ d ih =>
    intro i hi
    refine Ev.step (f := fun k => laws_eqMoveS.l0 k l l ((i + 1 : Nat) : Int)) (fun k => ?_) (ih (i + 1) (by omega))
    simp only [laws_eqMoveS.l0, laws_eqMove.f, if_true, Option.bind_some]
    rw [if_pos (by omega), if_pos (by omega), if_pos (by omega), w64s i (by omega)]
theorem laws_eqMoveS.ev (l : List S52) (hl : l.length ≤ 1048576) : Ev (fun k => laws_eqMoveS.f k l l) true := by
  unfold laws_eqMoveS.f
  simp only [if_true]
  exact laws_eqMoveS.l0ev l hl l.length 0 (by omega)
theorem laws_szMoveS.is (l : List S73) (h : l.length ≤ 1048576) : laws_szMoveS.f l 1048576 = some (1048576 - (l.length : Int)) := by
  unfold laws_szMoveS.f
  rw [w64 (1048576 - (l.length : Int)) (by omega) (by omega), if_neg (by omega)]
theorem laws_szMoveS.big (l : List S73) (h : ¬ l.length ≤ 1048576) (hm : l.length ≤ maxLen) : laws_szMoveS.f l 1048576 = some (-1) := by
  unfold laws_szMoveS.f
  unfold maxLen at hm
  rw [w64 (1048576 - (l.length : Int)) (by omega) (by omega), if_pos (by omega)]
/-- Whether a move can be made. -/
def canM (l : List Int) (f t c : Int) : Bool := decide (0 ≤ f) && decide (f ≤ (l.length : Int) - 1) && decide (0 ≤ t) && decide (t ≤ (l.length : Int) - 1) && decide (f ≠ t) && decide (1 ≤ c) && decide (c ≤ rd l f)
theorem canM_in {l : List Int} {f t c : Int} (h : canM l f t c = true) : 0 ≤ f ∧ f < (l.length : Int) ∧ 0 ≤ t ∧ t < (l.length : Int) ∧ f ≠ t ∧ 1 ≤ c ∧ c ≤ rd l f := by
  simp [canM] at h
  omega
/-- The heaps behind a move. -/
def mMade (l : List Int) (f t c : Int) : List Int := (l.set f.toNat (wrap64 (rd l f - c))).set t.toNat (wrap64 (rd (l.set f.toNat (wrap64 (rd l f - c))) t + c))
theorem mMade_length (l : List Int) (f t c : Int) : (mMade l f t c).length = l.length := by simp [mMade]
def playM : List S52 → List Int → List Int × Bool
  | [], out => (out, true)
  | m :: ms, out => if canM out m.f0 m.f1 m.f2 = true then playM ms (mMade out m.f0 m.f1 m.f2) else ([], false)
theorem playM_len : ∀ (ms : List S52) (out : List Int), out.length ≤ 1048576 → (playM ms out).1.length ≤ 1048576
  | [], out, h => h
  | m :: ms, out, h => by
    unfold playM
    split
    · exact playM_len ms _ (by rw [mMade_length]; exact h)
    · simp
theorem rdM_app' (done : List S52) (x : S52) (xs : List S52) : rd_T52 (done ++ x :: xs) (done.length : Int) = x := by simp [rd_T52]
/-- Marked moves, from k on. -/
def mmarks : List S52 → Int → List S52
  | [], _ => []
  | _ :: xs, k => ⟨k, k + 1, k + 2⟩ :: mmarks xs (k + 3)
theorem laws_markMoveS.l0ev : ∀ (tl done : List S52) (m : Int), done.length + tl.length ≤ 1048576 → 0 ≤ m → m ≤ 1048577 + 3 * done.length →
    Ev (fun k => laws_markMoveS.l0 k (done ++ tl) m done.length) (m + 3 * tl.length, done ++ mmarks tl m) := by
  intro tl
  induction tl with
  | nil =>
    intro done m h1 h2 h3
    refine Ev.step (f := fun _ => some (m, done)) (fun k => ?_) (by simpa [mmarks] using Ev.now (m, done))
    simp only [laws_markMoveS.l0]
    rw [if_neg (by simp)]
    simp
  | cons x xs ih =>
    intro done m h1 h2 h3
    simp only [List.length_cons] at h1
    have h := ih (done ++ [⟨m, m + 1, m + 2⟩]) (m + 3) (by simp; omega) (by omega) (by simp; omega)
    refine Ev.step (f := fun k => laws_markMoveS.l0 k (done ++ [⟨m, m + 1, m + 2⟩] ++ xs) (m + 3) ((done ++ [(⟨m, m + 1, m + 2⟩ : S52)]).length : Int)) (fun k => ?_) ?_
    · simp only [laws_markMoveS.l0, Option.bind_some]
      rw [if_pos (by simp; omega), if_pos (by omega), w64 (m + 1) (by omega) (by omega), w64 (m + 1 + 1) (by omega) (by omega), w64 (m + 1 + 1 + 1) (by omega) (by omega), w64s done.length (by omega)]
      have e : ∀ (y : S52), (done ++ y :: xs).set (done.length : Int).toNat ⟨m, m + 1, m + 1 + 1⟩ = done ++ [⟨m, m + 1, m + 2⟩] ++ xs := by
        intro y
        simp [List.set_append_right, Int.add_assoc]
      have s : ∀ (y z : S52), (done ++ y :: xs).set (done.length : Int).toNat z = done ++ z :: xs := by
        intro y z
        simp [List.set_append_right]
      simp only [s, rdM_app']
      congr 1
      · simp [Int.add_assoc]
      · simp [Int.add_assoc]
      · simp
    · have e : (m + 3 * ((x :: xs).length : Int), done ++ mmarks (x :: xs) m) = (m + 3 + 3 * (xs.length : Int), done ++ [⟨m, m + 1, m + 2⟩] ++ mmarks xs (m + 3)) := by
        simp [mmarks]; omega
      rw [e]; exact h
theorem laws_markMoveS.ev (l : List S52) (hl : l.length ≤ 1048576) (m : Int) (h0 : 0 ≤ m) (h1 : m ≤ 1048577) : Ev (fun k => laws_markMoveS.f k l m) (m + 3 * (l.length : Int), mmarks l m) := by
  have h := laws_markMoveS.l0ev l [] m (by simpa using hl) h0 (by simpa using h1)
  simpa [laws_markMoveS.f] using h
theorem impl_within.is (x a b : Int) : impl_within.f x a b = some (decide (a ≤ x) && decide (x ≤ b)) := by
  unfold impl_within.f
  by_cases h : x ≥ a
  · simp [h, show a ≤ x from h]
  · simp [h, show ¬ a ≤ x from h]
theorem impl_move.is (l : List Int) (f t c : Int) (hl : l.length ≤ 1048576) : impl_move.f l f t c = some (if canM l f t c = true then (true, mMade l f t c) else (false, l)) := by
  unfold impl_move.f
  simp only [impl_within.is, Option.bind_some, w64 ((l.length : Int) - 1) (by omega) (by omega)]
  by_cases h1 : (decide (0 ≤ f) && decide (f ≤ (l.length : Int) - 1)) = true
  · by_cases h2 : (decide (0 ≤ t) && decide (t ≤ (l.length : Int) - 1)) = true
    · have h1' : 0 ≤ f ∧ f ≤ (l.length : Int) - 1 := by simpa using h1
      have h2' : 0 ≤ t ∧ t ≤ (l.length : Int) - 1 := by simpa using h2
      rw [if_pos h1, if_pos h2]
      by_cases h3 : f = t
      · rw [if_pos h3, if_neg (by simp [canM, h3])]
      · rw [if_neg h3, if_pos h1'.1, if_pos (by omega)]
        by_cases h4 : (decide (1 ≤ c) && decide (c ≤ rd l f)) = true
        · have h4' : 1 ≤ c ∧ c ≤ rd l f := by simpa using h4
          have hc : canM l f t c = true := by simp [canM, h1', h2', h3, h4']
          rw [if_pos h4, if_pos hc, if_pos h2'.1, if_pos (by omega)]
          rfl
        · rw [if_neg h4, if_neg (by intro h; have := canM_in h; simp at h4; omega)]
    · rw [if_pos h1, if_neg h2, if_neg (by intro h; have := canM_in h; simp at h2; omega)]
  · rw [if_neg h1, if_neg (by intro h; have := canM_in h; simp at h1; omega)]
theorem spec_l1In.is (x a b : Int) : spec_l1In.f x a b = some (decide (a ≤ x) && decide (x ≤ b)) := by
  unfold spec_l1In.f
  by_cases h : x ≥ a
  · simp [h, show a ≤ x from h]
  · simp [h, show ¬ a ≤ x from h]
def allIn (l : List Int) (a b : Int) : Bool := l.all fun x => decide (a ≤ x) && decide (x ≤ b)
theorem spec_l1All.l0ev (a b : Int) (n : Int) (hn : n ≤ 1048576) : ∀ (tl done : List Int), ((done ++ tl).length : Int) = n → Ev (fun k => spec_l1All.l0 k a b (done ++ tl) n done.length) (allIn tl a b) := by
  intro tl
  induction tl with
  | nil =>
    intro done hd
    refine Ev.step (f := fun _ => some true) (fun k => ?_) (Ev.now _)
    simp only [spec_l1All.l0]
    simp at hd
    rw [if_neg (by omega)]
  | cons x xs ih =>
    intro done hd
    have hd' : (done.length : Int) + (xs.length + 1) = n := by simpa using hd
    have hx : rd (done ++ x :: xs) (done.length : Int) = x := by simp [rd]
    by_cases hp : (decide (a ≤ x) && decide (x ≤ b)) = true
    · have h := ih (done ++ [x]) (by simp; omega)
      refine Ev.step (f := fun k => spec_l1All.l0 k a b (done ++ [x] ++ xs) n ((done ++ [x]).length : Int)) (fun k => ?_) ?_
      · simp only [spec_l1All.l0]
        rw [if_pos (by omega), if_pos (by omega), if_pos (by simp; omega), hx, spec_l1In.is, hp]
        simp only [Option.bind_some, if_true]
        rw [w64s done.length (by omega)]
        simp
      · rw [show allIn (x :: xs) a b = allIn xs a b by simp [allIn] at hp ⊢; simp [hp]]
        exact h
    · refine Ev.step (f := fun _ => some false) (fun k => ?_) (by rw [show allIn (x :: xs) a b = false by simp [allIn] at hp ⊢; intro h1 h2; exact absurd (hp h1) (by omega)]; exact Ev.now _)
      simp only [spec_l1All.l0]
      rw [if_pos (by omega), if_pos (by omega), if_pos (by simp; omega), hx, spec_l1In.is]
      simp only [Option.bind_some]
      rw [if_neg hp]
theorem spec_l1All.ev (l : List Int) (a b : Int) (hl : l.length ≤ 1048576) : Ev (fun k => spec_l1All.f k l a b) (allIn l a b) := by
  have h := spec_l1All.l0ev a b l.length (by omega) l [] (by simp)
  simpa [spec_l1All.f] using h
def isHeaps (l : List Int) : Bool := (decide (1 ≤ (l.length : Int)) && decide ((l.length : Int) ≤ 12)) && allIn l 0 1000
theorem spec_hpGood.ev (l : List Int) (hl : l.length ≤ 1048576) : Ev (fun k => spec_hpGood.f k l) (isHeaps l) := by
  unfold spec_hpGood.f isHeaps
  simp only [spec_l1In.is, Option.bind_some]
  by_cases h : (decide (1 ≤ (l.length : Int)) && decide ((l.length : Int) ≤ 12)) = true
  · simp only [h, if_true, Bool.true_and]
    exact Ev.bind (spec_l1All.ev l 0 1000 hl) (Ev.now _)
  · simp only [h]
    simpa using Ev.now false
theorem impl_AreHeaps.is (l : List Int) : impl_AreHeaps.f l = some (isHeaps l) := by
  unfold impl_AreHeaps.f isHeaps impl_areIn.f allIn
  simp only [impl_within.is, Option.bind_some]
  by_cases h : (decide (1 ≤ (l.length : Int)) && decide ((l.length : Int) ≤ 12)) = true
  · simp only [h, if_true, Bool.true_and]
  · simp only [h]
    simp
theorem impl_PlayMoves.l0ev (n : Int) (hn : n ≤ 1048576) : ∀ (tl done : List S52) (out : List Int), ((done ++ tl).length : Int) = n → out.length ≤ 1048576 → Ev (fun k => impl_PlayMoves.l0 k out (done ++ tl) n done.length) (playM tl out) := by
  intro tl
  induction tl with
  | nil =>
    intro done out hd ho
    refine Ev.step (f := fun _ => some (out, true)) (fun k => ?_) (Ev.now _)
    simp only [impl_PlayMoves.l0]
    simp at hd
    rw [if_neg (by omega)]
  | cons m ms ih =>
    intro done out hd ho
    have hd' : (done.length : Int) + (ms.length + 1) = n := by simpa using hd
    by_cases c : canM out m.f0 m.f1 m.f2 = true
    · have h := ih (done ++ [m]) (mMade out m.f0 m.f1 m.f2) (by simp; omega) (by rw [mMade_length]; exact ho)
      refine Ev.step (f := fun k => impl_PlayMoves.l0 k (mMade out m.f0 m.f1 m.f2) (done ++ [m] ++ ms) n ((done ++ [m]).length : Int)) (fun k => ?_) (by rw [playM, if_pos c]; exact h)
      simp only [impl_PlayMoves.l0, rdM_app', impl_move.is out _ _ _ ho, c, Option.bind_some, if_true]
      rw [if_pos (by omega), if_pos (by omega), if_pos (by simp; omega), w64s done.length (by omega)]
      simp
    · refine Ev.step (f := fun _ => some ([], false)) (fun k => ?_) (by rw [playM, if_neg c]; exact Ev.now _)
      simp only [impl_PlayMoves.l0, rdM_app', impl_move.is out _ _ _ ho, c, Option.bind_some]
      rw [if_pos (by omega), if_pos (by omega), if_pos (by simp; omega)]
      simp
def playMR (ms : List S52) (l : List Int) : List Int × Bool := if isHeaps l = true ∧ (ms.length : Int) ≤ 100 then playM ms l else ([], false)
theorem playMR_len (ms : List S52) (l : List Int) (hl : l.length ≤ 1048576) : (playMR ms l).1.length ≤ 1048576 := by
  unfold playMR
  split
  · exact playM_len ms l hl
  · simp
theorem impl_PlayMoves.ev (ms : List S52) (l : List Int) (hl : l.length ≤ 1048576) (hd : ms.length ≤ 1048576) : Ev (fun k => impl_PlayMoves.f k l ms) (playMR ms l) := by
  unfold impl_PlayMoves.f playMR
  simp only [impl_AreHeaps.is, Option.bind_some]
  by_cases h : isHeaps l = true
  · simp only [h, if_true, true_and]
    by_cases c : (ms.length : Int) ≤ 100
    · refine Ev.step (f := fun k => impl_PlayMoves.l0 k l ms (ms.length : Int) 0) (fun k => ?_) ?_
      · simp only [impl_PlayMoves.j0]
        rw [if_neg (by simp; omega)]
        unfold slices_Clone_int_int.f
        rw [if_pos (by omega)]
        rfl
      · rw [if_pos c]
        have := impl_PlayMoves.l0ev ms.length (by omega) ms [] l (by simp) hl
        simpa using this
    · refine Ev.step (f := fun _ => some ([], false)) (fun k => ?_) (by rw [if_neg c]; exact Ev.now _)
      simp only [impl_PlayMoves.j0]
      rw [if_pos (by simp; omega)]
  · simp only [h, false_and, if_false]
    refine Ev.congr (f := fun k => impl_PlayMoves.j0 k l ms true) (fun k => by simp) ?_
    refine Ev.step (f := fun _ => some ([], false)) (fun k => ?_) (by simpa using Ev.now _)
    simp [impl_PlayMoves.j0]
theorem spec_hpMove.is (l : List Int) (f t c : Int) (hl : l.length ≤ 1048576) : spec_hpMove.f l f t c = some (if canM l f t c = true then (mMade l f t c, true) else ([], false)) := by
  unfold spec_hpMove.f
  simp only [spec_l1In.is, Option.bind_some, w64 ((l.length : Int) - 1) (by omega) (by omega)]
  by_cases h1 : (decide (0 ≤ f) && decide (f ≤ (l.length : Int) - 1)) = true
  · by_cases h2 : (decide (0 ≤ t) && decide (t ≤ (l.length : Int) - 1)) = true
    · have h1' : 0 ≤ f ∧ f ≤ (l.length : Int) - 1 := by simpa using h1
      have h2' : 0 ≤ t ∧ t ≤ (l.length : Int) - 1 := by simpa using h2
      rw [if_pos h1, if_pos h2]
      by_cases h3 : f = t
      · rw [if_pos h3, if_neg (by simp [canM, h3])]
      · rw [if_neg h3]
        by_cases h4 : c < 1
        · rw [if_pos h4, if_neg (by simp [canM]; omega)]
        · rw [if_neg h4, if_pos h1'.1, if_pos (by omega)]
          by_cases h5 : c > rd l f
          · rw [if_pos h5, if_neg (by simp [canM]; omega)]
          · have hc : canM l f t c = true := by simp [canM, h1', h2', h3]; omega
            rw [if_neg h5, if_pos hc]
            unfold spec_l1Own.f mMade
            simp only [Option.bind_some, List.nil_append]
            rw [if_pos (by simp; omega)]
            simp only [Option.bind_some]
            rw [if_pos (by omega), if_pos h2'.1, if_pos (by omega)]
    · rw [if_pos h1, if_neg h2, if_neg (by intro h; have := canM_in h; simp at h2; omega)]
  · rw [if_neg h1, if_neg (by intro h; have := canM_in h; simp at h1; omega)]
theorem spec_PlayMoves.l0ev (n : Int) (hn : n ≤ 1048576) : ∀ (tl done : List S52) (out : List Int), ((done ++ tl).length : Int) = n → out.length ≤ 1048576 → Ev (fun k => spec_PlayMoves.l0 k out (done ++ tl) n done.length) (playM tl out) := by
  intro tl
  induction tl with
  | nil =>
    intro done out hd ho
    refine Ev.step (f := fun _ => some (out, true)) (fun k => ?_) (Ev.now _)
    simp only [spec_PlayMoves.l0]
    simp at hd
    rw [if_neg (by omega)]
  | cons m ms ih =>
    intro done out hd ho
    have hd' : (done.length : Int) + (ms.length + 1) = n := by simpa using hd
    by_cases c : canM out m.f0 m.f1 m.f2 = true
    · have h := ih (done ++ [m]) (mMade out m.f0 m.f1 m.f2) (by simp; omega) (by rw [mMade_length]; exact ho)
      refine Ev.step (f := fun k => spec_PlayMoves.l0 k (mMade out m.f0 m.f1 m.f2) (done ++ [m] ++ ms) n ((done ++ [m]).length : Int)) (fun k => ?_) (by rw [playM, if_pos c]; exact h)
      simp only [spec_PlayMoves.l0, rdM_app', spec_hpMove.is out _ _ _ ho, c, Option.bind_some, if_true]
      rw [if_pos (by omega), if_pos (by omega), if_pos (by simp; omega), w64s done.length (by omega)]
      simp
    · refine Ev.step (f := fun _ => some ([], false)) (fun k => ?_) (by rw [playM, if_neg c]; exact Ev.now _)
      simp only [spec_PlayMoves.l0, rdM_app', spec_hpMove.is out _ _ _ ho, c, Option.bind_some]
      rw [if_pos (by omega), if_pos (by omega), if_pos (by simp; omega)]
      simp
theorem spec_PlayMoves.ev (ms : List S52) (l : List Int) (hl : l.length ≤ 1048576) (hd : ms.length ≤ 1048576) : Ev (fun k => spec_PlayMoves.f k l ms) (playMR ms l) := by
  unfold spec_PlayMoves.f playMR
  refine Ev.bind (spec_hpGood.ev l hl) ?_
  by_cases h : isHeaps l = true
  · simp only [h, if_true, true_and]
    by_cases c : (ms.length : Int) ≤ 100
    · refine Ev.step (f := fun k => spec_PlayMoves.l0 k l ms (ms.length : Int) 0) (fun k => ?_) ?_
      · simp only [spec_PlayMoves.j0]
        rw [if_neg (by simp; omega)]
        unfold spec_l1Own.f
        simp only [Option.bind_some, List.nil_append]
        rw [if_pos (by simp; omega)]
        rfl
      · rw [if_pos c]
        have := spec_PlayMoves.l0ev ms.length (by omega) ms [] l (by simp) hl
        simpa using this
    · refine Ev.step (f := fun _ => some ([], false)) (fun k => ?_) (by rw [if_neg c]; exact Ev.now _)
      simp only [spec_PlayMoves.j0]
      rw [if_pos (by simp; omega)]
  · simp only [h, false_and, if_false]
    refine Ev.congr (f := fun k => spec_PlayMoves.j0 k l ms true) (fun k => by simp) ?_
    refine Ev.step (f := fun _ => some ([], false)) (fun k => ?_) (by simpa using Ev.now _)
    simp [spec_PlayMoves.j0]
theorem FnExactPlayMoves : laws_FnExactPlayMoves.Pure := by
  intro l ms _ _ _ hmm _
  by_cases hl : (l.length : Int) > 1048576
  · exact ⟨0, by unfold laws_FnExactPlayMoves.f; rw [if_pos hl]⟩
  by_cases hd : ms.length ≤ 1048576
  case neg => exact ⟨0, by unfold laws_FnExactPlayMoves.f; rw [if_neg hl, laws_szMoveS.big ms hd hmm]; simp⟩
  have hd2 : (ms.map mconv).length ≤ 1048576 := by simpa using hd
  obtain ⟨K1, h1⟩ := laws_toIntS.ev l (by omega)
  obtain ⟨K2, h2⟩ := spec_PlayMoves.ev (ms.map mconv) l (by omega) hd2
  obtain ⟨K3, h3⟩ := impl_PlayMoves.ev (ms.map mconv) l (by omega) hd2
  have hv : (playMR (ms.map mconv) l).1.length ≤ 1048576 := playMR_len _ l (by omega)
  generalize playMR (ms.map mconv) l = v at h2 h3 hv
  obtain ⟨v, b⟩ := v
  simp only at hv
  obtain ⟨K4, h4⟩ := laws_eqIntS.ev l (by omega)
  obtain ⟨K5, h5⟩ := laws_eqIntS.ev v hv
  obtain ⟨K6, h6⟩ := laws_markIntS.ev l (by omega)
  obtain ⟨K7, h7⟩ := laws_markIntS.ev v hv
  obtain ⟨K8, h8⟩ := laws_heldIntS.ev v hv
  obtain ⟨K9, h9⟩ := laws_toMoveS.ev ms hd
  obtain ⟨K10, h10⟩ := laws_eqMoveS.ev (ms.map mconv) hd2
  obtain ⟨K11, h11⟩ := laws_markMoveS.ev (ms.map mconv) hd2 (1 + (l.length : Int)) (by omega) (by omega)
  dsimp only at h1 h2 h3 h4 h5 h6 h7 h8 h9 h10 h11
  refine ⟨K1 + K2 + K3 + K4 + K5 + K6 + K7 + K8 + K9 + K10 + K11 + 1 + 1 + 1, ?_⟩
  have c1 : ¬ (1 + (l.length : Int) + 3 * ((ms.map mconv).length : Int) < 0) := by omega
  have c2 : ¬ (1 + (v.length : Int) < 0) := by omega
  have c3 : ¬ (1048576 - (ms.length : Int) < 0) := by omega
  simp (disch := omega) only [laws_FnExactPlayMoves.f, if_neg hl, laws_szMoveS.is ms hd, if_neg c3, h1, h2, h3, h5, h9, Option.bind_some, bne_self_eq_false, if_true]
  simp (disch := omega) only [laws_FnExactPlayMoves.j0, h1, h4, h5, h6, h9, h10, h11, Option.bind_some, bne_self_eq_false, Bool.false_eq_true, if_true, if_false, if_neg c1]
  simp (disch := omega) only [laws_FnExactPlayMoves.j1, h1, h3, h5, h7, h8, h9, Option.bind_some, bne_self_eq_false, Bool.false_eq_true, if_true, if_false, if_neg c2]
  simp (disch := omega) only [laws_FnExactPlayMoves.j2, h8, Option.bind_some, Bool.false_eq_true, if_true, if_false, if_neg c2]

end Go.Proofs.Ytdhhphngabamoaa.Pure
