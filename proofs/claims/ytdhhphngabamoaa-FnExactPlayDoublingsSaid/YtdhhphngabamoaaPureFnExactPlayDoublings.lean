/- The program's PlayDoublings returns what the reference's returns, for all arguments. It has no conditions. -/
import Derived.Test.YtdhhphngabamoaaPFnExactPlayDoublingsx8
namespace Go.Proofs.Ytdhhphngabamoaa.Pure
open Go.RowKit Go.Proofs.Ytdhhphngabamoaa.PFnExactPlayDoublings Go.Proofs.YtdhhphngabamoaaW.PrintWords Go.Proofs.YtdhhphngabamoaaW.PrintLast
set_option linter.unusedVariables false
set_option linter.unusedSimpArgs false

/-! ### small words -/
theorem w64 (n : Int) (h1 : -9223372036854775808 ≤ n) (h2 : n ≤ 9223372036854775807) : wrap64 n = n := by unfold wrap64; omega
theorem w64s (i : Nat) (h : i < 9223372036854775807) : wrap64 ((i : Int) + 1) = ((i + 1 : Nat) : Int) := by unfold wrap64; omega
theorem rd_at (l : List Int) (i : Nat) (h : i < l.length) : rd l (i : Int) = l[i] := by simp [rd, List.getD_eq_getElem?_getD, List.getElem?_eq_getElem h]
theorem wf64 {x : Int} (h : (Lit.int .i64 x).wf = true) : -9223372036854775808 ≤ x ∧ x ≤ 9223372036854775807 := by
  simp [Lit.wf, IntKind.min, IntKind.max, IntKind.bits, IntKind.signed] at h
  omega
/-! ### copies, marks -/
theorem laws_toIntS.l0ev (l : List Int) (hl : l.length ≤ 1048576) (d : Nat) : ∀ i, i + d = l.length → Ev (fun k => laws_toIntS.l0 k l (l.take i ++ List.replicate d 0) i) l := by
  induction d with
  | zero =>
    intro i hi
    refine Ev.step (f := fun _ => some l) (fun k => ?_) (Ev.now _)
    simp only [laws_toIntS.l0]
    rw [if_neg (by omega)]
    simp [List.take_of_length_le (show l.length ≤ i by omega)]
  | succ d ih =>
    intro i hi
    refine Ev.step (f := fun k => laws_toIntS.l0 k l (l.take (i + 1) ++ List.replicate d 0) ((i + 1 : Nat) : Int)) (fun k => ?_) (ih (i + 1) (by omega))
    simp only [laws_toIntS.l0]
    rw [if_pos (by omega), if_pos (by omega), if_pos (by simp; omega), w64s i (by omega), rd_at l i (by omega)]
    congr 1
    rw [show ((i : Int)).toNat = i by omega, List.set_append_right _ _ (by simp; omega), List.replicate_succ, List.length_take, show i - min i l.length = 0 by omega, List.set_cons_zero, List.take_succ_eq_append_getElem (show i < l.length by omega)]
    simp only [List.append_assoc, List.cons_append, List.nil_append]
theorem laws_toIntS.ev (l : List Int) (hl : l.length ≤ 1048576) : Ev (fun k => laws_toIntS.f k l) l := by
  have h := laws_toIntS.l0ev l hl l.length 0 (by omega)
  unfold laws_toIntS.f
  simp only [if_pos (show (0 : Int) ≤ (l.length : Int) by omega), if_pos (show (l.length : Int).toNat ≤ 35184372088832 by omega)]
  simpa using h
theorem laws_eqIntS.l0ev (l : List Int) (hl : l.length ≤ 1048576) (d : Nat) : ∀ i, i + d = l.length → Ev (fun k => laws_eqIntS.l0 k l l i) true := by
  induction d with
  | zero =>
    intro i hi
    refine Ev.step (f := fun _ => some true) (fun k => ?_) (Ev.now _)
    simp only [laws_eqIntS.l0]
    rw [if_neg (by omega)]
  | succ d ih =>
    intro i hi
    refine Ev.step (f := fun k => laws_eqIntS.l0 k l l ((i + 1 : Nat) : Int)) (fun k => ?_) (ih (i + 1) (by omega))
    simp only [laws_eqIntS.l0]
    rw [if_pos (by omega), if_pos (by omega), if_pos (by omega), if_pos trivial, w64s i (by omega)]
theorem laws_eqIntS.ev (l : List Int) (hl : l.length ≤ 1048576) : Ev (fun k => laws_eqIntS.f k l l) true := by
  unfold laws_eqIntS.f
  simp only [if_true]
  exact laws_eqIntS.l0ev l hl l.length 0 (by omega)
/-- Marked cells, from k on. -/
def marks : List Int → Int → List Int
  | [], _ => []
  | _ :: xs, k => k :: marks xs (k + 1)
theorem marks_length : ∀ (l : List Int) (k : Int), (marks l k).length = l.length
  | [], _ => rfl
  | _ :: xs, k => by simp [marks, marks_length xs]
theorem laws_markIntS.l0ev (hd : List Int) : ∀ (tl done : List Int) (m : Int), done.length + tl.length ≤ 1048576 → 0 ≤ m → m ≤ 1048577 + done.length →
    Ev (fun k => laws_markIntS.l0 k (done ++ tl) m done.length) (m + tl.length, done ++ marks tl m) := by
  intro tl
  induction tl with
  | nil =>
    intro done m h1 h2 h3
    refine Ev.step (f := fun _ => some (m, done)) (fun k => ?_) (by simpa [marks] using Ev.now (m, done))
    simp only [laws_markIntS.l0]
    rw [if_neg (by simp)]
    simp
  | cons x xs ih =>
    intro done m h1 h2 h3
    simp only [List.length_cons] at h1
    have h := ih (done ++ [m]) (m + 1) (by simp; omega) (by omega) (by simp; omega)
    refine Ev.step (f := fun k => laws_markIntS.l0 k (done ++ [m] ++ xs) (m + 1) ((done ++ [m]).length : Int)) (fun k => ?_) ?_
    · simp only [laws_markIntS.l0]
      rw [if_pos (by simp; omega), if_pos (by omega), w64 (m + 1) (by omega) (by omega), w64s done.length (by omega)]
      congr 1
      · simp [List.set_append_right]
      · simp
    · have e : (m + ((x :: xs).length : Int), done ++ marks (x :: xs) m) = (m + 1 + (xs.length : Int), done ++ [m] ++ marks xs (m + 1)) := by
        simp [marks]; omega
      rw [e]; exact h
theorem laws_markIntS.ev (l : List Int) (hl : l.length ≤ 1048576) : Ev (fun k => laws_markIntS.f k l 1) (1 + (l.length : Int), marks l 1) := by
  have h := laws_markIntS.l0ev [] l [] 1 (by simpa using hl) (by omega) (by simp)
  simpa [laws_markIntS.f] using h
theorem laws_heldIntS.l0ev : ∀ (tl done : List Int) (m : Int), done.length + tl.length ≤ 1048576 → 0 ≤ m → m ≤ 1048577 + done.length →
    Ev (fun k => laws_heldIntS.l0 k (done ++ marks tl m) m done.length) (m + tl.length) := by
  intro tl
  induction tl with
  | nil =>
    intro done m h1 h2 h3
    refine Ev.step (f := fun _ => some m) (fun k => ?_) (by simpa [marks] using Ev.now m)
    simp only [laws_heldIntS.l0]
    rw [if_neg (by simp [marks])]
  | cons x xs ih =>
    intro done m h1 h2 h3
    simp only [List.length_cons] at h1
    have h := ih (done ++ [m]) (m + 1) (by simp; omega) (by omega) (by simp; omega)
    refine Ev.step (f := fun k => laws_heldIntS.l0 k (done ++ [m] ++ marks xs (m + 1)) (m + 1) ((done ++ [m]).length : Int)) (fun k => ?_) ?_
    · simp only [laws_heldIntS.l0]
      rw [if_pos (by simp [marks]; omega), if_pos (by omega), if_pos (by simp [rd, marks]), w64 (m + 1) (by omega) (by omega), w64s done.length (by omega)]
      congr 1
      · simp [marks]
      · simp
    · have e : m + ((x :: xs).length : Int) = m + 1 + (xs.length : Int) := by simp; omega
      rw [e]; exact h
theorem laws_heldIntS.ev (l : List Int) (hl : l.length ≤ 1048576) : Ev (fun k => laws_heldIntS.f k (marks l 1) 1) (1 + (l.length : Int)) := by
  have h := laws_heldIntS.l0ev l [] 1 (by simpa using hl) (by omega) (by simp)
  simpa [laws_heldIntS.f] using h
def dconv (x : S82) : S70 := ⟨x.f0, x.f1⟩
theorem rdE_at (l : List S82) (i : Nat) (h : i < l.length) : rd_T82 l (i : Int) = l[i] := by simp [rd_T82, List.getD_eq_getElem?_getD, List.getElem?_eq_getElem h]
theorem laws_toDoublingS.l0ev (l : List S82) (hl : l.length ≤ 1048576) (d : Nat) : ∀ i, i + d = l.length → Ev (fun k => laws_toDoublingS.l0 k l ((l.take i).map dconv ++ List.replicate d z70) i) (l.map dconv) := by
  induction d with
  | zero =>
    intro i hi
    refine Ev.step (f := fun _ => some (l.map dconv)) (fun k => ?_) (Ev.now _)
    simp only [laws_toDoublingS.l0]
    rw [if_neg (by omega)]
    simp [List.take_of_length_le (show l.length ≤ i by omega)]
  | succ d ih =>
    intro i hi
    refine Ev.step (f := fun k => laws_toDoublingS.l0 k l ((l.take (i + 1)).map dconv ++ List.replicate d z70) ((i + 1 : Nat) : Int)) (fun k => ?_) (ih (i + 1) (by omega))
    simp only [laws_toDoublingS.l0, laws_toDoubling.f, Option.bind_some]
    rw [if_pos (by omega), if_pos (by omega), if_pos (by simp; omega), w64s i (by omega), rdE_at l i (by omega)]
    congr 1
    rw [show ((i : Int)).toNat = i by omega, List.set_append_right _ _ (by simp; omega), List.replicate_succ, List.length_map, List.length_take, show i - min i l.length = 0 by omega, List.set_cons_zero, List.take_succ_eq_append_getElem (show i < l.length by omega)]
    simp only [List.map_append, List.map_cons, List.map_nil, List.append_assoc, List.cons_append, List.nil_append]
    rfl
theorem laws_toDoublingS.ev (l : List S82) (hl : l.length ≤ 1048576) : Ev (fun k => laws_toDoublingS.f k l) (l.map dconv) := by
  have h := laws_toDoublingS.l0ev l hl l.length 0 (by omega)
  unfold laws_toDoublingS.f
  simp only [if_pos (show (0 : Int) ≤ (l.length : Int) by omega), if_pos (show (l.length : Int).toNat ≤ 17592186044416 by omega)]
  simpa using h
theorem laws_eqDoublingS.l0ev (l : List S70) (hl : l.length ≤ 1048576) (d : Nat) : ∀ i, i + d = l.length → Ev (fun k => laws_eqDoublingS.l0 k l l i) true := by
  induction d with
  | zero =>
    intro i hi
    refine Ev.step (f := fun _ => some true) (fun k => ?_) (Ev.now _)
    simp only [laws_eqDoublingS.l0]
    rw [if_neg (by omega)]
  | succ d ih =>
    intro i hi
    refine Ev.step (f := fun k => laws_eqDoublingS.l0 k l l ((i + 1 : Nat) : Int)) (fun k => ?_) (ih (i + 1) (by omega))
    simp only [laws_eqDoublingS.l0, laws_eqDoubling.f, if_true, Option.bind_some]
    rw [if_pos (by omega), if_pos (by omega), if_pos (by omega), w64s i (by omega)]
theorem laws_eqDoublingS.ev (l : List S70) (hl : l.length ≤ 1048576) : Ev (fun k => laws_eqDoublingS.f k l l) true := by
  unfold laws_eqDoublingS.f
  simp only [if_true]
  exact laws_eqDoublingS.l0ev l hl l.length 0 (by omega)
theorem laws_szDoublingS.is (l : List S82) (h : l.length ≤ 1048576) : laws_szDoublingS.f l 1048576 = some (1048576 - (l.length : Int)) := by
  unfold laws_szDoublingS.f
  rw [w64 (1048576 - (l.length : Int)) (by omega) (by omega), if_neg (by omega)]
theorem laws_szDoublingS.big (l : List S82) (h : ¬ l.length ≤ 1048576) (hm : l.length ≤ maxLen) : laws_szDoublingS.f l 1048576 = some (-1) := by
  unfold laws_szDoublingS.f
  unfold maxLen at hm
  rw [w64 (1048576 - (l.length : Int)) (by omega) (by omega), if_pos (by omega)]
theorem rdD_app2 (done : List S70) (x : S70) (xs : List S70) : rd_T70 (done ++ x :: xs) (done.length : Int) = x := by simp [rd_T70]
/-- Marked doublings, from k on. -/
def dmarks : List S70 → Int → List S70
  | [], _ => []
  | _ :: xs, k => ⟨k, k + 1⟩ :: dmarks xs (k + 2)
theorem dmarks_length : ∀ (l : List S70) (k : Int), (dmarks l k).length = l.length
  | [], _ => rfl
  | _ :: xs, k => by simp [dmarks, dmarks_length xs]
theorem laws_markDoublingS.l0ev : ∀ (tl done : List S70) (m : Int), done.length + tl.length ≤ 1048576 → 0 ≤ m → m ≤ 1048577 + 2 * done.length →
    Ev (fun k => laws_markDoublingS.l0 k (done ++ tl) m done.length) (m + 2 * tl.length, done ++ dmarks tl m) := by
  intro tl
  induction tl with
  | nil =>
    intro done m h1 h2 h3
    refine Ev.step (f := fun _ => some (m, done)) (fun k => ?_) (by simpa [dmarks] using Ev.now (m, done))
    simp only [laws_markDoublingS.l0]
    rw [if_neg (by simp)]
    simp
  | cons x xs ih =>
    intro done m h1 h2 h3
    simp only [List.length_cons] at h1
    have h := ih (done ++ [⟨m, m + 1⟩]) (m + 2) (by simp; omega) (by omega) (by simp; omega)
    refine Ev.step (f := fun k => laws_markDoublingS.l0 k (done ++ [⟨m, m + 1⟩] ++ xs) (m + 2) ((done ++ [(⟨m, m + 1⟩ : S70)]).length : Int)) (fun k => ?_) ?_
    · simp only [laws_markDoublingS.l0, Option.bind_some]
      rw [if_pos (by simp; omega), if_pos (by omega), w64 (m + 1) (by omega) (by omega), w64 (m + 1 + 1) (by omega) (by omega), w64s done.length (by omega)]
      have s : ∀ (y z : S70), (done ++ y :: xs).set (done.length : Int).toNat z = done ++ z :: xs := by
        intro y z
        simp [List.set_append_right]
      simp only [s, rdD_app2]
      congr 1
      · simp [Int.add_assoc]
      · omega
      · simp
    · have e : (m + 2 * ((x :: xs).length : Int), done ++ dmarks (x :: xs) m) = (m + 2 + 2 * (xs.length : Int), done ++ [⟨m, m + 1⟩] ++ dmarks xs (m + 2)) := by
        simp [dmarks]; omega
      rw [e]; exact h
theorem laws_markDoublingS.ev (l : List S70) (hl : l.length ≤ 1048576) (m : Int) (h0 : 0 ≤ m) (h1 : m ≤ 1048577) : Ev (fun k => laws_markDoublingS.f k l m) (m + 2 * (l.length : Int), dmarks l m) := by
  have h := laws_markDoublingS.l0ev l [] m (by simpa using hl) h0 (by simpa using h1)
  simpa [laws_markDoublingS.f] using h
/-- Whether a doubling can be made. -/
def canD (l : List Int) (f t : Int) : Bool := decide (0 ≤ f) && decide (f ≤ (l.length : Int) - 1) && decide (0 ≤ t) && decide (t ≤ (l.length : Int) - 1) && decide (f ≠ t) && decide (rd l t > 0) && decide (rd l f ≥ rd l t)
theorem canD_in {l : List Int} {f t : Int} (h : canD l f t = true) : 0 ≤ f ∧ f < (l.length : Int) ∧ 0 ≤ t ∧ t < (l.length : Int) ∧ f ≠ t ∧ rd l t > 0 ∧ rd l f ≥ rd l t := by
  simp [canD] at h
  omega
/-- The heaps behind a doubling. -/
def dMade (l : List Int) (f t : Int) : List Int := (l.set f.toNat (wrap64 (rd l f - rd l t))).set t.toNat (wrap64 (2 * rd l t))
theorem dMade_length (l : List Int) (f t : Int) : (dMade l f t).length = l.length := by simp [dMade]
def playD : List S70 → List Int → List Int × Bool
  | [], out => (out, true)
  | d :: ds, out => if canD out d.f0 d.f1 = true then playD ds (dMade out d.f0 d.f1) else ([], false)
theorem playD_len : ∀ (ds : List S70) (out : List Int), out.length ≤ 1048576 → (playD ds out).1.length ≤ 1048576
  | [], out, h => h
  | d :: ds, out, h => by
    unfold playD
    split
    · exact playD_len ds _ (by rw [dMade_length]; exact h)
    · simp
theorem rdD_app (done : List S70) (x : S70) (xs : List S70) : rd_T70 (done ++ x :: xs) (done.length : Int) = x := by simp [rd_T70]
theorem impl_within.is (x a b : Int) : impl_within.f x a b = some (decide (a ≤ x) && decide (x ≤ b)) := by
  unfold impl_within.f
  by_cases h : x ≥ a
  · simp [h, show a ≤ x from h]
  · simp [h, show ¬ a ≤ x from h]
theorem impl_canDouble.is (l : List Int) (f t : Int) (hl : l.length ≤ 1048576) : impl_canDouble.f l f t = some (canD l f t) := by
  unfold impl_canDouble.f canD
  simp only [impl_within.is, Option.bind_some, w64 ((l.length : Int) - 1) (by omega) (by omega)]
  by_cases h1 : (decide (0 ≤ f) && decide (f ≤ (l.length : Int) - 1)) = true
  · by_cases h2 : (decide (0 ≤ t) && decide (t ≤ (l.length : Int) - 1)) = true
    · have h1' : 0 ≤ f ∧ f ≤ (l.length : Int) - 1 := by simpa using h1
      have h2' : 0 ≤ t ∧ t ≤ (l.length : Int) - 1 := by simpa using h2
      rw [if_pos h1, if_pos h2]
      by_cases h3 : f = t
      · rw [if_pos h3]; simp [h3]
      · rw [if_neg h3, if_pos h2'.1, if_pos (by omega)]
        by_cases h4 : rd l t > 0
        · rw [if_pos h4, if_pos h1'.1, if_pos (by omega)]; simp [h1', h2', h3, h4]
        · rw [if_neg h4]; simp [h4]
    · rw [if_pos h1, if_neg h2]
      simp only [Bool.not_eq_true] at h2
      simp only [h1, Bool.true_and, h2, Bool.false_and]
  · rw [if_neg h1]
    simp only [Bool.not_eq_true] at h1
    simp only [h1, Bool.false_and]
theorem rd_set_ne (l : List Int) (f t v : Int) (h1 : 0 ≤ f) (h3 : 0 ≤ t) (h : f ≠ t) : rd (l.set f.toNat v) t = rd l t := by
  unfold rd
  rw [List.getD_eq_getElem?_getD, List.getD_eq_getElem?_getD, List.getElem?_set_ne (by omega)]
theorem impl_doubled.is (l : List Int) (f t : Int) (hl : l.length ≤ 1048576) (h : canD l f t = true) : impl_doubled.f l f t = some (dMade l f t) := by
  obtain ⟨h1, h2, h3, h4, h5, _⟩ := canD_in h
  unfold impl_doubled.f slices_Clone_int_int.f dMade
  rw [if_pos (by omega)]
  simp only [Option.bind_some]
  rw [if_pos h1, if_pos h2, if_pos h3, if_pos h4, if_pos h4, rd_set_ne l f t _ h1 h3 h5, show rd l t + rd l t = 2 * rd l t by omega]
theorem spec_l1In.is (x a b : Int) : spec_l1In.f x a b = some (decide (a ≤ x) && decide (x ≤ b)) := by
  unfold spec_l1In.f
  by_cases h : x ≥ a
  · simp [h, show a ≤ x from h]
  · simp [h, show ¬ a ≤ x from h]
def allIn (l : List Int) (a b : Int) : Bool := l.all fun x => decide (a ≤ x) && decide (x ≤ b)
theorem spec_l1All.l0ev (a b : Int) (n : Int) (hn : n ≤ 1048576) : ∀ (tl done : List Int), ((done ++ tl).length : Int) = n → Ev (fun k => spec_l1All.l0 k a b (done ++ tl) n done.length) (allIn tl a b) := by
  intro tl
  induction tl with
  | nil =>
    intro done hd
    refine Ev.step (f := fun _ => some true) (fun k => ?_) (Ev.now _)
    simp only [spec_l1All.l0]
    simp at hd
    rw [if_neg (by omega)]
  | cons x xs ih =>
    intro done hd
    have hd' : (done.length : Int) + (xs.length + 1) = n := by simpa using hd
    have hx : rd (done ++ x :: xs) (done.length : Int) = x := by simp [rd]
    by_cases hp : (decide (a ≤ x) && decide (x ≤ b)) = true
    · have h := ih (done ++ [x]) (by simp; omega)
      refine Ev.step (f := fun k => spec_l1All.l0 k a b (done ++ [x] ++ xs) n ((done ++ [x]).length : Int)) (fun k => ?_) ?_
      · simp only [spec_l1All.l0]
        rw [if_pos (by omega), if_pos (by omega), if_pos (by simp; omega), hx, spec_l1In.is, hp]
        simp only [Option.bind_some, if_true]
        rw [w64s done.length (by omega)]
        simp
      · rw [show allIn (x :: xs) a b = allIn xs a b by simp [allIn] at hp ⊢; simp [hp]]
        exact h
    · refine Ev.step (f := fun _ => some false) (fun k => ?_) (by rw [show allIn (x :: xs) a b = false by simp [allIn] at hp ⊢; intro h1 h2; exact absurd (hp h1) (by omega)]; exact Ev.now _)
      simp only [spec_l1All.l0]
      rw [if_pos (by omega), if_pos (by omega), if_pos (by simp; omega), hx, spec_l1In.is]
      simp only [Option.bind_some]
      rw [if_neg hp]
theorem spec_l1All.ev (l : List Int) (a b : Int) (hl : l.length ≤ 1048576) : Ev (fun k => spec_l1All.f k l a b) (allIn l a b) := by
  have h := spec_l1All.l0ev a b l.length (by omega) l [] (by simp)
  simpa [spec_l1All.f] using h
def isHeaps (l : List Int) : Bool := (decide (1 ≤ (l.length : Int)) && decide ((l.length : Int) ≤ 12)) && allIn l 0 1000
theorem spec_hpGood.ev (l : List Int) (hl : l.length ≤ 1048576) : Ev (fun k => spec_hpGood.f k l) (isHeaps l) := by
  unfold spec_hpGood.f isHeaps
  simp only [spec_l1In.is, Option.bind_some]
  by_cases h : (decide (1 ≤ (l.length : Int)) && decide ((l.length : Int) ≤ 12)) = true
  · simp only [h, if_true, Bool.true_and]
    exact Ev.bind (spec_l1All.ev l 0 1000 hl) (Ev.now _)
  · simp only [h]
    simpa using Ev.now false
theorem impl_AreHeaps.is (l : List Int) : impl_AreHeaps.f l = some (isHeaps l) := by
  unfold impl_AreHeaps.f isHeaps impl_areIn.f allIn
  simp only [impl_within.is, Option.bind_some]
  by_cases h : (decide (1 ≤ (l.length : Int)) && decide ((l.length : Int) ≤ 12)) = true
  · simp only [h, if_true, Bool.true_and]
  · simp only [h]
    simp
/-- The sum as the machine makes it. -/
def wsum : List Int → Int → Int
  | [], a => a
  | x :: xs, a => wsum xs (wrap64 (a + x))
theorem spec_hpSum.l0ev (n : Int) (hn : n ≤ 1048576) : ∀ (tl done : List Int) (a : Int), ((done ++ tl).length : Int) = n → Ev (fun k => spec_hpSum.l0 k a (done ++ tl) n done.length) (wsum tl a) := by
  intro tl
  induction tl with
  | nil =>
    intro done a hd
    refine Ev.step (f := fun _ => some a) (fun k => ?_) (Ev.now a)
    simp only [spec_hpSum.l0]
    simp at hd
    rw [if_neg (by omega)]
  | cons x xs ih =>
    intro done a hd
    have hd' : (done.length : Int) + (xs.length + 1) = n := by simpa using hd
    have hx : rd (done ++ x :: xs) (done.length : Int) = x := by simp [rd]
    have h := ih (done ++ [x]) (wrap64 (a + x)) (by simp; omega)
    refine Ev.step (f := fun k => spec_hpSum.l0 k (wrap64 (a + x)) (done ++ [x] ++ xs) n ((done ++ [x]).length : Int)) (fun k => ?_) (by simpa [wsum] using h)
    simp only [spec_hpSum.l0]
    rw [if_pos (by omega), if_pos (by omega), if_pos (by simp; omega), hx, w64s done.length (by omega)]
    simp
theorem spec_hpSum.ev (l : List Int) (hl : l.length ≤ 1048576) : Ev (fun k => spec_hpSum.f k l) (wsum l 0) := by
  have h := spec_hpSum.l0ev l.length (by omega) l [] 0 (by simp)
  simpa [spec_hpSum.f] using h
theorem impl_sum.l0ev (n : Int) (hn : n ≤ 1048576) : ∀ (tl done : List Int) (a : Int), ((done ++ tl).length : Int) = n → Ev (fun k => impl_sum.l0 k a (done ++ tl) n done.length) (wsum tl a) := by
  intro tl
  induction tl with
  | nil =>
    intro done a hd
    refine Ev.step (f := fun _ => some a) (fun k => ?_) (Ev.now a)
    simp only [impl_sum.l0]
    simp at hd
    rw [if_neg (by omega)]
  | cons x xs ih =>
    intro done a hd
    have hd' : (done.length : Int) + (xs.length + 1) = n := by simpa using hd
    have hx : rd (done ++ x :: xs) (done.length : Int) = x := by simp [rd]
    have h := ih (done ++ [x]) (wrap64 (a + x)) (by simp; omega)
    refine Ev.step (f := fun k => impl_sum.l0 k (wrap64 (a + x)) (done ++ [x] ++ xs) n ((done ++ [x]).length : Int)) (fun k => ?_) (by simpa [wsum] using h)
    simp only [impl_sum.l0]
    rw [if_pos (by omega), if_pos (by omega), if_pos (by simp; omega), hx, w64s done.length (by omega)]
    simp
theorem impl_sum.ev (l : List Int) (hl : l.length ≤ 1048576) : Ev (fun k => impl_sum.f k l) (wsum l 0) := by
  have h := impl_sum.l0ev l.length (by omega) l [] 0 (by simp)
  simpa [impl_sum.f] using h
def isFew (l : List Int) : Bool := isHeaps l && ((decide (2 ≤ (l.length : Int)) && decide ((l.length : Int) ≤ 4)) && (decide (1 ≤ wsum l 0) && decide (wsum l 0 ≤ 40)))
theorem spec_dbGood.ev (l : List Int) (hl : l.length ≤ 1048576) : Ev (fun k => spec_dbGood.f k l) (isFew l) := by
  unfold spec_dbGood.f isFew
  simp only [spec_l1In.is, Option.bind_some]
  by_cases h2 : (decide (2 ≤ (l.length : Int)) && decide ((l.length : Int) ≤ 4)) = true
  · simp only [h2, if_true, Bool.true_and]
    refine Ev.bind (spec_hpGood.ev l hl) ?_
    by_cases h : isHeaps l = true
    · simp only [h, if_true, Bool.true_and]
      exact Ev.bind (spec_hpSum.ev l hl) (Ev.now _)
    · simp only [Bool.not_eq_true] at h
      simp only [h, Bool.false_and]
      exact Ev.now _
  · simp only [Bool.not_eq_true] at h2
    simp only [h2, Bool.false_and, Bool.and_false]
    exact Ev.now _
theorem impl_AreFewHeaps.ev (l : List Int) (hl : l.length ≤ 1048576) : Ev (fun k => impl_AreFewHeaps.f k l) (isFew l) := by
  unfold impl_AreFewHeaps.f isFew
  simp only [impl_AreHeaps.is, impl_within.is, Option.bind_some]
  by_cases h : isHeaps l = true
  · simp only [h, if_true, Bool.true_and]
    by_cases h2 : (decide (2 ≤ (l.length : Int)) && decide ((l.length : Int) ≤ 4)) = true
    · simp only [h2, if_true, Bool.true_and]
      exact Ev.bind (impl_sum.ev l hl) (Ev.now _)
    · simp only [Bool.not_eq_true] at h2
      simp only [h2, Bool.false_and]
      exact Ev.now _
  · simp only [Bool.not_eq_true] at h
    simp only [h, Bool.false_and]
    exact Ev.now _
theorem impl_PlayDoublings.l0ev (n : Int) (hn : n ≤ 1048576) : ∀ (tl done : List S70) (out : List Int), ((done ++ tl).length : Int) = n → out.length ≤ 1048576 → Ev (fun k => impl_PlayDoublings.l0 k out (done ++ tl) n done.length) (playD tl out) := by
  intro tl
  induction tl with
  | nil =>
    intro done out hd ho
    refine Ev.step (f := fun _ => some (out, true)) (fun k => ?_) (Ev.now _)
    simp only [impl_PlayDoublings.l0]
    simp at hd
    rw [if_neg (by omega)]
  | cons d ds ih =>
    intro done out hd ho
    have hd' : (done.length : Int) + (ds.length + 1) = n := by simpa using hd
    by_cases c : canD out d.f0 d.f1 = true
    · have h := ih (done ++ [d]) (dMade out d.f0 d.f1) (by simp; omega) (by rw [dMade_length]; exact ho)
      refine Ev.step (f := fun k => impl_PlayDoublings.l0 k (dMade out d.f0 d.f1) (done ++ [d] ++ ds) n ((done ++ [d]).length : Int)) (fun k => ?_) (by rw [playD, if_pos c]; exact h)
      simp only [impl_PlayDoublings.l0, rdD_app, impl_canDouble.is out _ _ ho, c, impl_doubled.is out _ _ ho c, Option.bind_some, if_true]
      rw [if_pos (by omega), if_pos (by omega), if_pos (by simp; omega), w64s done.length (by omega)]
      simp
    · refine Ev.step (f := fun _ => some ([], false)) (fun k => ?_) (by rw [playD, if_neg c]; exact Ev.now _)
      simp only [impl_PlayDoublings.l0, rdD_app, impl_canDouble.is out _ _ ho, Option.bind_some]
      rw [if_pos (by omega), if_pos (by omega), if_pos (by simp; omega), if_neg c]
def playR (ds : List S70) (l : List Int) : List Int × Bool := if isFew l = true ∧ (ds.length : Int) ≤ 100 then playD ds l else ([], false)
theorem playR_len (ds : List S70) (l : List Int) (hl : l.length ≤ 1048576) : (playR ds l).1.length ≤ 1048576 := by
  unfold playR
  split
  · exact playD_len ds l hl
  · simp
theorem impl_PlayDoublings.ev (ds : List S70) (l : List Int) (hl : l.length ≤ 1048576) (hd : ds.length ≤ 1048576) : Ev (fun k => impl_PlayDoublings.f k l ds) (playR ds l) := by
  refine Ev.bind (impl_AreFewHeaps.ev l hl) ?_
  unfold playR
  by_cases h : isFew l = true
  · simp only [h, if_true, true_and]
    by_cases c : (ds.length : Int) ≤ 100
    · refine Ev.step (f := fun k => impl_PlayDoublings.l0 k l ds (ds.length : Int) 0) (fun k => ?_) ?_
      · simp only [impl_PlayDoublings.j0]
        rw [if_neg (by simp; omega)]
        unfold slices_Clone_int_int.f
        rw [if_pos (by omega)]
        rfl
      · rw [if_pos c]
        have := impl_PlayDoublings.l0ev ds.length (by omega) ds [] l (by simp) hl
        simpa using this
    · refine Ev.step (f := fun _ => some ([], false)) (fun k => ?_) (by rw [if_neg c]; exact Ev.now _)
      simp only [impl_PlayDoublings.j0]
      rw [if_pos (by simp; omega)]
  · simp only [h, false_and, if_false]
    refine Ev.congr (f := fun k => impl_PlayDoublings.j0 k l ds true) (fun k => by simp) ?_
    refine Ev.step (f := fun _ => some ([], false)) (fun k => ?_) (by simpa using Ev.now _)
    simp [impl_PlayDoublings.j0]
theorem spec_dbCan.is (l : List Int) (f t : Int) (hl : l.length ≤ 1048576) : spec_dbCan.f l f t = some (canD l f t) := by
  unfold spec_dbCan.f canD
  simp only [spec_l1In.is, Option.bind_some, w64 ((l.length : Int) - 1) (by omega) (by omega)]
  by_cases h1 : (decide (0 ≤ f) && decide (f ≤ (l.length : Int) - 1)) = true
  · by_cases h2 : (decide (0 ≤ t) && decide (t ≤ (l.length : Int) - 1)) = true
    · have h1' : 0 ≤ f ∧ f ≤ (l.length : Int) - 1 := by simpa using h1
      have h2' : 0 ≤ t ∧ t ≤ (l.length : Int) - 1 := by simpa using h2
      rw [if_pos h1, if_pos h2]
      by_cases h3 : f = t
      · rw [if_pos h3]; simp [h3]
      · rw [if_neg h3, if_pos h2'.1, if_pos (by omega)]
        by_cases h4 : rd l t > 0
        · rw [if_pos h4, if_pos h1'.1, if_pos (by omega)]; simp [h1', h2', h3, h4]
        · rw [if_neg h4]; simp [h4]
    · rw [if_pos h1, if_neg h2]
      simp only [Bool.not_eq_true] at h2
      simp only [h1, Bool.true_and, h2, Bool.false_and]
  · rw [if_neg h1]
    simp only [Bool.not_eq_true] at h1
    simp only [h1, Bool.false_and]
theorem spec_dbMake.is (l : List Int) (f t : Int) (hl : l.length ≤ 1048576) (h : canD l f t = true) : spec_dbMake.f l f t = some (dMade l f t) := by
  obtain ⟨h1, h2, h3, h4, _⟩ := canD_in h
  unfold spec_dbMake.f spec_l1Own.f dMade
  simp only [Option.bind_some, List.nil_append]
  rw [if_pos (by simp; omega)]
  simp only [Option.bind_some]
  rw [if_pos h1, if_pos h2, if_pos h3, if_pos h4, if_pos h4]
theorem spec_PlayDoublings.l0ev (n : Int) (hn : n ≤ 1048576) : ∀ (tl done : List S70) (out : List Int), ((done ++ tl).length : Int) = n → out.length ≤ 1048576 → Ev (fun k => spec_PlayDoublings.l0 k out (done ++ tl) n done.length) (playD tl out) := by
  intro tl
  induction tl with
  | nil =>
    intro done out hd ho
    refine Ev.step (f := fun _ => some (out, true)) (fun k => ?_) (Ev.now _)
    simp only [spec_PlayDoublings.l0]
    simp at hd
    rw [if_neg (by omega)]
  | cons d ds ih =>
    intro done out hd ho
    have hd' : (done.length : Int) + (ds.length + 1) = n := by simpa using hd
    by_cases c : canD out d.f0 d.f1 = true
    · have h := ih (done ++ [d]) (dMade out d.f0 d.f1) (by simp; omega) (by rw [dMade_length]; exact ho)
      refine Ev.step (f := fun k => spec_PlayDoublings.l0 k (dMade out d.f0 d.f1) (done ++ [d] ++ ds) n ((done ++ [d]).length : Int)) (fun k => ?_) (by rw [playD, if_pos c]; exact h)
      simp only [spec_PlayDoublings.l0, rdD_app, spec_dbCan.is out _ _ ho, c, spec_dbMake.is out _ _ ho c, Option.bind_some, if_true]
      rw [if_pos (by omega), if_pos (by omega), if_pos (by simp; omega), w64s done.length (by omega)]
      simp
    · refine Ev.step (f := fun _ => some ([], false)) (fun k => ?_) (by rw [playD, if_neg c]; exact Ev.now _)
      simp only [spec_PlayDoublings.l0, rdD_app, spec_dbCan.is out _ _ ho, Option.bind_some]
      rw [if_pos (by omega), if_pos (by omega), if_pos (by simp; omega), if_neg c]
theorem spec_PlayDoublings.ev (ds : List S70) (l : List Int) (hl : l.length ≤ 1048576) (hd : ds.length ≤ 1048576) : Ev (fun k => spec_PlayDoublings.f k l ds) (playR ds l) := by
  refine Ev.bind (spec_dbGood.ev l hl) ?_
  unfold playR
  by_cases h : isFew l = true
  · simp only [h, if_true, true_and]
    by_cases c : (ds.length : Int) ≤ 100
    · refine Ev.step (f := fun k => spec_PlayDoublings.l0 k l ds (ds.length : Int) 0) (fun k => ?_) ?_
      · simp only [spec_PlayDoublings.j0]
        rw [if_neg (by simp; omega)]
        unfold spec_l1Own.f
        simp only [Option.bind_some, List.nil_append]
        rw [if_pos (by simp; omega)]
        rfl
      · rw [if_pos c]
        have := spec_PlayDoublings.l0ev ds.length (by omega) ds [] l (by simp) hl
        simpa using this
    · refine Ev.step (f := fun _ => some ([], false)) (fun k => ?_) (by rw [if_neg c]; exact Ev.now _)
      simp only [spec_PlayDoublings.j0]
      rw [if_pos (by simp; omega)]
  · simp only [h, false_and, if_false]
    refine Ev.congr (f := fun k => spec_PlayDoublings.j0 k l ds true) (fun k => by simp) ?_
    refine Ev.step (f := fun _ => some ([], false)) (fun k => ?_) (by simpa using Ev.now _)
    simp [spec_PlayDoublings.j0]
theorem FnExactPlayDoublings : laws_FnExactPlayDoublings.Pure := by
  intro l ms _ _ _ hmm _
  by_cases hl : (l.length : Int) > 1048576
  · exact ⟨0, by unfold laws_FnExactPlayDoublings.f; rw [if_pos hl]⟩
  by_cases hd : ms.length ≤ 1048576
  case neg => exact ⟨0, by unfold laws_FnExactPlayDoublings.f; rw [if_neg hl, laws_szDoublingS.big ms hd hmm]; simp⟩
  have hd2 : (ms.map dconv).length ≤ 1048576 := by simpa using hd
  obtain ⟨K1, h1⟩ := laws_toIntS.ev l (by omega)
  obtain ⟨K2, h2⟩ := spec_PlayDoublings.ev (ms.map dconv) l (by omega) hd2
  obtain ⟨K3, h3⟩ := impl_PlayDoublings.ev (ms.map dconv) l (by omega) hd2
  have hv : (playR (ms.map dconv) l).1.length ≤ 1048576 := playR_len _ l (by omega)
  generalize playR (ms.map dconv) l = v at h2 h3 hv
  obtain ⟨v, b⟩ := v
  simp only at hv
  obtain ⟨K4, h4⟩ := laws_eqIntS.ev l (by omega)
  obtain ⟨K5, h5⟩ := laws_eqIntS.ev v hv
  obtain ⟨K6, h6⟩ := laws_markIntS.ev l (by omega)
  obtain ⟨K7, h7⟩ := laws_markIntS.ev v hv
  obtain ⟨K8, h8⟩ := laws_heldIntS.ev v hv
  obtain ⟨K9, h9⟩ := laws_toDoublingS.ev ms hd
  obtain ⟨K10, h10⟩ := laws_eqDoublingS.ev (ms.map dconv) hd2
  obtain ⟨K11, h11⟩ := laws_markDoublingS.ev (ms.map dconv) hd2 (1 + (l.length : Int)) (by omega) (by omega)
  dsimp only at h1 h2 h3 h4 h5 h6 h7 h8 h9 h10 h11
  refine ⟨K1 + K2 + K3 + K4 + K5 + K6 + K7 + K8 + K9 + K10 + K11 + 1 + 1 + 1, ?_⟩
  have c1 : ¬ (1 + (l.length : Int) + 2 * ((ms.map dconv).length : Int) < 0) := by omega
  have c2 : ¬ (1 + (v.length : Int) < 0) := by omega
  have c3 : ¬ (1048576 - (ms.length : Int) < 0) := by omega
  simp (disch := omega) only [laws_FnExactPlayDoublings.f, if_neg hl, laws_szDoublingS.is ms hd, if_neg c3, h1, h2, h3, h5, h9, Option.bind_some, bne_self_eq_false, if_true]
  simp (disch := omega) only [laws_FnExactPlayDoublings.j0, h1, h4, h5, h6, h9, h10, h11, Option.bind_some, bne_self_eq_false, Bool.false_eq_true, if_true, if_false, if_neg c1]
  simp (disch := omega) only [laws_FnExactPlayDoublings.j1, h1, h3, h5, h7, h8, h9, Option.bind_some, bne_self_eq_false, Bool.false_eq_true, if_true, if_false, if_neg c2]
  simp (disch := omega) only [laws_FnExactPlayDoublings.j2, h8, Option.bind_some, Bool.false_eq_true, if_true, if_false, if_neg c2]

end Go.Proofs.Ytdhhphngabamoaa.Pure
