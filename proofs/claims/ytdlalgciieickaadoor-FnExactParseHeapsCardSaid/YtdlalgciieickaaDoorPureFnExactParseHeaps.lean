/- The program's ParseHeaps returns what the reference's returns, for all arguments. It has no conditions. -/
import Derived.Test.YtdlalgciieickaaDoorPFnExactParseHeapsx3
namespace Go.Proofs.YtdlalgciieickaaDoor.Pure
open Go.RowKit Go.Proofs.YtdlalgciieickaaDoor.PFnExactParseHeaps Go.Proofs.YtdlalgciieickaaDoorW.PrintWords Go.Proofs.YtdlalgciieickaaDoorW.PrintLast
set_option linter.unusedVariables false
set_option linter.unusedSimpArgs false

/-! ### small words -/
theorem w64 (n : Int) (h1 : -9223372036854775808 ≤ n) (h2 : n ≤ 9223372036854775807) : wrap64 n = n := by unfold wrap64; omega
theorem w64s (i : Nat) (h : i < 9223372036854775807) : wrap64 ((i : Int) + 1) = ((i + 1 : Nat) : Int) := by unfold wrap64; omega
theorem rd_at (l : List Int) (i : Nat) (h : i < l.length) : rd l (i : Int) = l[i] := by simp [rd, List.getD_eq_getElem?_getD, List.getElem?_eq_getElem h]
theorem wf64 {x : Int} (h : (Lit.int .i64 x).wf = true) : -9223372036854775808 ≤ x ∧ x ≤ 9223372036854775807 := by
  simp [Lit.wf, IntKind.min, IntKind.max, IntKind.bits, IntKind.signed] at h
  omega
theorem laws_eqIntS.l0ev (l : List Int) (hl : l.length ≤ 1048576) (d : Nat) : ∀ i, i + d = l.length → Ev (fun k => laws_eqIntS.l0 k l l i) true := by
  induction d with
  | zero =>
    intro i hi
    refine Ev.step (f := fun _ => some true) (fun k => ?_) (Ev.now _)
    simp only [laws_eqIntS.l0]
    rw [if_neg (by omega)]
  | succ d ih =>
    intro i hi
    refine Ev.step (f := fun k => laws_eqIntS.l0 k l l ((i + 1 : Nat) : Int)) (fun k => ?_) (ih (i + 1) (by omega))
    simp only [laws_eqIntS.l0]
    rw [if_pos (by omega), if_pos (by omega), if_pos (by omega), if_pos trivial, w64s i (by omega)]
theorem laws_eqIntS.ev (l : List Int) (hl : l.length ≤ 1048576) : Ev (fun k => laws_eqIntS.f k l l) true := by
  unfold laws_eqIntS.f
  simp only [if_true]
  exact laws_eqIntS.l0ev l hl l.length 0 (by omega)
/-- Marked cells, from k on. -/
def marks : List Int → Int → List Int
  | [], _ => []
  | _ :: xs, k => k :: marks xs (k + 1)
theorem marks_length : ∀ (l : List Int) (k : Int), (marks l k).length = l.length
  | [], _ => rfl
  | _ :: xs, k => by simp [marks, marks_length xs]
theorem laws_markIntS.l0ev (hd : List Int) : ∀ (tl done : List Int) (m : Int), done.length + tl.length ≤ 1048576 → 0 ≤ m → m ≤ 1048577 + done.length →
    Ev (fun k => laws_markIntS.l0 k (done ++ tl) m done.length) (m + tl.length, done ++ marks tl m) := by
  intro tl
  induction tl with
  | nil =>
    intro done m h1 h2 h3
    refine Ev.step (f := fun _ => some (m, done)) (fun k => ?_) (by simpa [marks] using Ev.now (m, done))
    simp only [laws_markIntS.l0]
    rw [if_neg (by simp)]
    simp
  | cons x xs ih =>
    intro done m h1 h2 h3
    simp only [List.length_cons] at h1
    have h := ih (done ++ [m]) (m + 1) (by simp; omega) (by omega) (by simp; omega)
    refine Ev.step (f := fun k => laws_markIntS.l0 k (done ++ [m] ++ xs) (m + 1) ((done ++ [m]).length : Int)) (fun k => ?_) ?_
    · simp only [laws_markIntS.l0]
      rw [if_pos (by simp; omega), if_pos (by omega), w64 (m + 1) (by omega) (by omega), w64s done.length (by omega)]
      congr 1
      · simp [List.set_append_right]
      · simp
    · have e : (m + ((x :: xs).length : Int), done ++ marks (x :: xs) m) = (m + 1 + (xs.length : Int), done ++ [m] ++ marks xs (m + 1)) := by
        simp [marks]; omega
      rw [e]; exact h
theorem laws_markIntS.ev (l : List Int) (hl : l.length ≤ 1048576) : Ev (fun k => laws_markIntS.f k l 1) (1 + (l.length : Int), marks l 1) := by
  have h := laws_markIntS.l0ev [] l [] 1 (by simpa using hl) (by omega) (by simp)
  simpa [laws_markIntS.f] using h
theorem laws_heldIntS.l0ev : ∀ (tl done : List Int) (m : Int), done.length + tl.length ≤ 1048576 → 0 ≤ m → m ≤ 1048577 + done.length →
    Ev (fun k => laws_heldIntS.l0 k (done ++ marks tl m) m done.length) (m + tl.length) := by
  intro tl
  induction tl with
  | nil =>
    intro done m h1 h2 h3
    refine Ev.step (f := fun _ => some m) (fun k => ?_) (by simpa [marks] using Ev.now m)
    simp only [laws_heldIntS.l0]
    rw [if_neg (by simp [marks])]
  | cons x xs ih =>
    intro done m h1 h2 h3
    simp only [List.length_cons] at h1
    have h := ih (done ++ [m]) (m + 1) (by simp; omega) (by omega) (by simp; omega)
    refine Ev.step (f := fun k => laws_heldIntS.l0 k (done ++ [m] ++ marks xs (m + 1)) (m + 1) ((done ++ [m]).length : Int)) (fun k => ?_) ?_
    · simp only [laws_heldIntS.l0]
      rw [if_pos (by simp [marks]; omega), if_pos (by omega), if_pos (by simp [rd, marks]), w64 (m + 1) (by omega) (by omega), w64s done.length (by omega)]
      congr 1
      · simp [marks]
      · simp
    · have e : m + ((x :: xs).length : Int) = m + 1 + (xs.length : Int) := by simp; omega
      rw [e]; exact h
theorem laws_heldIntS.ev (l : List Int) (hl : l.length ≤ 1048576) : Ev (fun k => laws_heldIntS.f k (marks l 1) 1) (1 + (l.length : Int)) := by
  have h := laws_heldIntS.l0ev l [] 1 (by simpa using hl) (by omega) (by simp)
  simpa [laws_heldIntS.f] using h
/-- The text with these bytes. -/
def mkB (l : List UInt8) : ByteArray := ⟨l.toArray⟩
theorem mkB_append (a b : List UInt8) : mkB a ++ mkB b = mkB (a ++ b) := by
  apply ByteArray.ext
  simp [mkB, ByteArray.data_append]
theorem mkB_size (a : List UInt8) : (mkB a).size = a.length := by simp [mkB, ByteArray.size]
theorem mkB_toList (a : List UInt8) : (mkB a).data.toList = a := by simp [mkB]
/-- The numeral of a number. -/
def numL (n : Int) : List UInt8 := Lib.decDigits n.toNat
theorem numL_len : ∀ (d : Nat) (n : Nat), n < 10 ^ (d + 1) → (Lib.decDigits n).length ≤ d + 1
  | 0, n, h => by
    rw [Lib.decDigits, dif_pos (by simpa using h)]
    simp
  | d + 1, n, h => by
    rw [Lib.decDigits]
    split
    · simp
    · have := numL_len d (n / 10) (by rw [Nat.pow_succ] at h; omega)
      simp only [List.length_append, List.length_singleton]
      omega
/-! texts taken apart at '-' -/
def spl : List UInt8 → List UInt8 → List (List UInt8)
  | [], c => [c]
  | b :: l, c => if b = 45 then c :: spl l [] else spl l (c ++ [b])
theorem spl_none : ∀ (l c : List UInt8), (45 : UInt8) ∉ l → spl l c = [c ++ l]
  | [], c, _ => by simp [spl]
  | b :: l, c, h => by
    have hb : b ≠ 45 := fun e => h (by simp [e])
    rw [spl, if_neg hb, spl_none l (c ++ [b]) (fun e => h (by simp [e]))]
    simp
theorem spl_hit : ∀ (a c b : List UInt8), (45 : UInt8) ∉ a → spl (a ++ 45 :: b) c = (c ++ a) :: spl b []
  | [], c, b, _ => by simp [spl]
  | x :: a, c, b, h => by
    have hx : x ≠ 45 := fun e => h (by simp [e])
    rw [List.cons_append, spl, if_neg hx, spl_hit a (c ++ [x]) b (fun e => h (by simp [e]))]
    simp
theorem spl_len : ∀ (l c : List UInt8), (spl l c).length ≤ l.length + 1
  | [], c => by simp [spl]
  | b :: l, c => by
    unfold spl
    split
    · have := spl_len l []
      simp only [List.length_cons]; omega
    · have := spl_len l (c ++ [b])
      simp only [List.length_cons]; omega
theorem mkB_extract (l : List UInt8) (i j : Nat) : (mkB l).extract i j = mkB ((l.take j).drop i) := by
  apply ByteArray.ext
  simp [mkB, ByteArray.data_extract, List.drop_take]
theorem mkB_get (l : List UInt8) (i : Nat) (h : i < l.length) : bt (mkB l) (i : Int) = (l[i].toNat : Int) := by
  unfold bt
  rw [dif_pos (by rw [mkB_size]; simpa using h)]
  have : ((mkB l)[((i : Int)).toNat]'(by rw [mkB_size]; simpa using h)) = l[i] := by
    show ((mkB l).data[((i : Int)).toNat]'_) = l[i]
    simp [mkB]
  rw [this]
/-- The library's pieces are these. -/
theorem splitB_spl : ∀ (k : Nat) (L : List UInt8), Lib.countB (mkB L) (mkB [45]) = k → Lib.splitB (mkB [45]) 0 k (mkB L) = (spl L []).map mkB := by
  intro k
  induction k with
  | zero =>
    intro L hk
    rw [Lib.splitB_zero]
    have hno : (45 : UInt8) ∉ L := by
      intro hm
      rcases Lib.indexB_cases (mkB L) (mkB [45]) with hix | ⟨i, hix, _⟩
      · have hix' : Lib.index L [45] = -1 := by simpa [Lib.indexB, mkB_toList] using hix
        rw [Lib.index_one] at hix'
        obtain ⟨j, hj, e⟩ := List.mem_iff_getElem.mp hm
        exact Lib.indexByte_none hix' j (by rw [List.getElem?_eq_getElem hj, e])
      · have := Lib.countB_hit (mkB L) (mkB [45]) i (by rw [mkB_size]; simp) hix
        omega
    rw [spl_none L [] hno]
    simp
  | succ k ih =>
    intro L hk
    rcases Lib.indexB_cases (mkB L) (mkB [45]) with hix | ⟨i, hix, hroom⟩
    · rw [Lib.countB_miss _ _ hix] at hk; omega
    · have hc := Lib.countB_hit (mkB L) (mkB [45]) i (by rw [mkB_size]; simp) hix
      rw [Lib.splitB_hit _ _ _ _ i hix]
      have hix' : Lib.index L [45] = (i : Int) := by simpa [Lib.indexB, mkB_toList] using hix
      rw [Lib.index_one] at hix'
      obtain ⟨h1, h2⟩ := Lib.indexByte_some hix'
      have hl : i < L.length := by
        rw [List.getElem?_eq_some_iff] at h1
        exact h1.1
      have e45 : L[i] = 45 := by
        rw [List.getElem?_eq_getElem hl] at h1
        exact Option.some.inj h1
      have eL : L = L.take i ++ 45 :: L.drop (i + 1) := by
        conv => lhs; rw [← List.take_append_drop i L, List.drop_eq_getElem_cons hl, e45]
      have hno : (45 : UInt8) ∉ L.take i := by
        intro hm
        obtain ⟨j, hj, e⟩ := List.mem_iff_getElem.mp hm
        simp only [List.length_take] at hj
        refine h2 j (by omega) ?_
        rw [List.getElem_take] at e
        rw [List.getElem?_eq_getElem (by omega), e]
      have s1 : (mkB [45]).size = 1 := by rw [mkB_size]; rfl
      rw [s1] at hc ⊢
      have x1 : (mkB L).extract 0 (i + 0) = mkB (L.take i) := by rw [mkB_extract]; simp
      have x2 : (mkB L).extract (i + 1) (mkB L).size = mkB (L.drop (i + 1)) := by rw [mkB_extract, mkB_size]; simp
      rw [x2] at hc
      rw [x1, x2, ih (L.drop (i + 1)) (by omega)]
      conv => rhs; rw [eL, spl_hit _ _ _ hno]
      simp
theorem strings_Split.is (L : List UInt8) (h : L.length ≤ 1048576) : strings_Split.f (mkB L) (⟨#[45]⟩ : ByteArray) = some ((spl L []).map mkB) := by
  unfold strings_Split.f
  have e : (⟨#[45]⟩ : ByteArray) = mkB [45] := rfl
  rw [e, if_pos ⟨by rw [mkB_size]; omega, by rw [mkB_size]; simp⟩, splitB_spl _ _ rfl]
theorem cut_mid (pre cur rest : List UInt8) : List.drop pre.length (List.take (pre.length + cur.length) (pre ++ cur ++ rest)) = cur := by
  rw [← List.length_append, List.take_left, List.drop_left]
theorem spec_l1Split.l0ev (L : List UInt8) (hL : L.length ≤ 1048576) : ∀ (rest pre cur : List UInt8) (acc : List ByteArray), L = pre ++ cur ++ rest → acc.length + rest.length ≤ 1048577 →
    Ev (fun k => spec_l1Split.l0 k (mkB L) 45 acc (pre.length : Int) ((pre.length + cur.length : Nat) : Int)) (acc ++ (spl rest cur).map mkB) := by
  intro rest
  induction rest with
  | nil =>
    intro pre cur acc e ha
    have hsz : (mkB L).size = pre.length + cur.length := by rw [mkB_size, e]; simp
    have hx : (mkB L).extract pre.length (mkB L).size = mkB cur := by
      rw [hsz, mkB_extract, e, cut_mid]
    refine Ev.step (f := fun _ => some (acc ++ [mkB cur])) (fun k => ?_) (by simpa [spl] using Ev.now _)
    simp only [spec_l1Split.l0]
    rw [if_neg (by omega), if_pos (by omega), if_pos (by omega), if_pos (by omega), show ((pre.length : Int)).toNat = pre.length by omega, hx]
  | cons b rest ih =>
    intro pre cur acc e ha
    have hsz : (mkB L).size = pre.length + cur.length + (rest.length + 1) := by rw [mkB_size, e]; simp; omega
    have hl : L.length = pre.length + cur.length + (rest.length + 1) := by rw [e]; simp; omega
    have hg : bt (mkB L) ((pre.length + cur.length : Nat) : Int) = (b.toNat : Int) := by
      rw [mkB_get L (pre.length + cur.length) (by omega)]
      have : L[pre.length + cur.length]'(by omega) = b := by
        simp only [e]
        rw [List.getElem_append_right (by simp)]
        simp
      rw [this]
    have e1 : wrap64 (((pre.length + cur.length : Nat) : Int) + 1) = ((pre.length + cur.length + 1 : Nat) : Int) := by rw [w64 _ (by omega) (by omega)]; omega
    simp only [List.length_cons] at ha
    by_cases hb : b = 45
    · subst hb
      have hx : (mkB L).extract pre.length (pre.length + cur.length) = mkB cur := by
        rw [mkB_extract, e, cut_mid]
      have h := ih (pre ++ cur ++ [45]) [] (acc ++ [mkB cur]) (by rw [e]; simp) (by simp; omega)
      have en : (((pre ++ cur ++ [45]).length + ([] : List UInt8).length : Nat) : Int) = ((pre.length + cur.length + 1 : Nat) : Int) := by simp; omega
      have em : (((pre ++ cur ++ [45] : List UInt8).length : Nat) : Int) = ((pre.length + cur.length + 1 : Nat) : Int) := by simp; omega
      rw [en, em] at h
      refine Ev.step (f := fun k => spec_l1Split.l0 k (mkB L) 45 (acc ++ [mkB cur]) ((pre.length + cur.length + 1 : Nat) : Int) ((pre.length + cur.length + 1 : Nat) : Int)) (fun k => ?_) (by simpa [spl] using h)
      simp only [spec_l1Split.l0, hg, e1]
      rw [if_pos (by omega), if_pos (by omega), if_pos (by decide), if_pos (by omega), if_pos (by omega), if_pos (by omega), if_pos (by omega), show ((pre.length : Int)).toNat = pre.length by omega, show (((pre.length + cur.length : Nat) : Int)).toNat = pre.length + cur.length by omega, hx]
    · have h := ih pre (cur ++ [b]) acc (by rw [e]; simp) (by omega)
      have en : ((pre.length + (cur ++ [b]).length : Nat) : Int) = ((pre.length + cur.length + 1 : Nat) : Int) := by simp; omega
      rw [en] at h
      refine Ev.step (f := fun k => spec_l1Split.l0 k (mkB L) 45 acc (pre.length : Int) ((pre.length + cur.length + 1 : Nat) : Int)) (fun k => ?_) (by rw [spl, if_neg hb]; exact h)
      have hne : ¬ ((b.toNat : Int) = 45) := by
        intro h45
        apply hb
        have : b.toNat = 45 := by omega
        exact UInt8.toNat_inj.mp (by rw [this]; rfl)
      simp only [spec_l1Split.l0, hg, e1]
      rw [if_pos (by omega), if_pos (by omega), if_neg hne]
theorem spec_l1Split.ev (L : List UInt8) (hL : L.length ≤ 1048576) : Ev (fun k => spec_l1Split.f k (mkB L) 45) ((spl L []).map mkB) := by
  have h := spec_l1Split.l0ev L hL L [] [] [] (by simp) (by simp; omega)
  simpa [spec_l1Split.f] using h
/-! and put together -/
def jt : List (List UInt8) → List UInt8
  | [] => []
  | p :: ps => 45 :: p ++ jt ps
def jn : List (List UInt8) → List UInt8
  | [] => []
  | p :: ps => p ++ jt ps
theorem spl_ne : ∀ (l c : List UInt8), spl l c ≠ []
  | [], c => by simp [spl]
  | b :: l, c => by
    unfold spl
    split
    · simp
    · exact spl_ne l _
theorem jt_jn {ps : List (List UInt8)} (h : ps ≠ []) : jt ps = 45 :: jn ps := by
  cases ps with
  | nil => exact absurd rfl h
  | cons p ps => rfl
theorem jn_spl : ∀ (l c : List UInt8), jn (spl l c) = c ++ l
  | [], c => by simp [spl, jn, jt]
  | b :: l, c => by
    unfold spl
    split
    · rename_i hb
      rw [jn, jt_jn (spl_ne l []), jn_spl l [], hb]
      simp
    · rw [jn_spl l (c ++ [b])]
      simp
theorem spec_l1In.is (x a b : Int) : spec_l1In.f x a b = some (decide (a ≤ x) && decide (x ≤ b)) := by
  unfold spec_l1In.f
  by_cases h : x ≥ a
  · simp [h, show a ≤ x from h]
  · simp [h, show ¬ a ≤ x from h]
def allIn (l : List Int) (a b : Int) : Bool := l.all fun x => decide (a ≤ x) && decide (x ≤ b)
theorem spec_l1All.l0ev (a b : Int) (n : Int) (hn : n ≤ 1048576) : ∀ (tl done : List Int), ((done ++ tl).length : Int) = n → Ev (fun k => spec_l1All.l0 k a b (done ++ tl) n done.length) (allIn tl a b) := by
  intro tl
  induction tl with
  | nil =>
    intro done hd
    refine Ev.step (f := fun _ => some true) (fun k => ?_) (Ev.now _)
    simp only [spec_l1All.l0]
    simp at hd
    rw [if_neg (by omega)]
  | cons x xs ih =>
    intro done hd
    have hd' : (done.length : Int) + (xs.length + 1) = n := by simpa using hd
    have hx : rd (done ++ x :: xs) (done.length : Int) = x := by simp [rd]
    by_cases hp : (decide (a ≤ x) && decide (x ≤ b)) = true
    · have h := ih (done ++ [x]) (by simp; omega)
      refine Ev.step (f := fun k => spec_l1All.l0 k a b (done ++ [x] ++ xs) n ((done ++ [x]).length : Int)) (fun k => ?_) ?_
      · simp only [spec_l1All.l0]
        rw [if_pos (by omega), if_pos (by omega), if_pos (by simp; omega), hx, spec_l1In.is, hp]
        simp only [Option.bind_some, if_true]
        rw [w64s done.length (by omega)]
        simp
      · rw [show allIn (x :: xs) a b = allIn xs a b by simp [allIn] at hp ⊢; simp [hp]]
        exact h
    · refine Ev.step (f := fun _ => some false) (fun k => ?_) (by rw [show allIn (x :: xs) a b = false by simp [allIn] at hp ⊢; intro h1 h2; exact absurd (hp h1) (by omega)]; exact Ev.now _)
      simp only [spec_l1All.l0]
      rw [if_pos (by omega), if_pos (by omega), if_pos (by simp; omega), hx, spec_l1In.is]
      simp only [Option.bind_some]
      rw [if_neg hp]
theorem spec_l1All.ev (l : List Int) (a b : Int) (hl : l.length ≤ 1048576) : Ev (fun k => spec_l1All.f k l a b) (allIn l a b) := by
  have h := spec_l1All.l0ev a b l.length (by omega) l [] (by simp)
  simpa [spec_l1All.f] using h
theorem impl_within.is (x a b : Int) : impl_within.f x a b = some (decide (a ≤ x) && decide (x ≤ b)) := by
  unfold impl_within.f
  by_cases h : x ≥ a
  · simp [h, show a ≤ x from h]
  · simp [h, show ¬ a ≤ x from h]
def isHeaps (l : List Int) : Bool := (decide (1 ≤ (l.length : Int)) && decide ((l.length : Int) ≤ 12)) && allIn l 0 1000
theorem spec_hpGood.ev (l : List Int) (hl : l.length ≤ 1048576) : Ev (fun k => spec_hpGood.f k l) (isHeaps l) := by
  unfold spec_hpGood.f isHeaps
  simp only [spec_l1In.is, Option.bind_some]
  by_cases h : (decide (1 ≤ (l.length : Int)) && decide ((l.length : Int) ≤ 12)) = true
  · simp only [h, if_true, Bool.true_and]
    exact Ev.bind (spec_l1All.ev l 0 1000 hl) (Ev.now _)
  · simp only [h]
    simpa using Ev.now false
theorem impl_AreHeaps.is (l : List Int) : impl_AreHeaps.f l = some (isHeaps l) := by
  unfold impl_AreHeaps.f isHeaps impl_areIn.f allIn
  simp only [impl_within.is, Option.bind_some]
  by_cases h : (decide (1 ≤ (l.length : Int)) && decide ((l.length : Int) ≤ 12)) = true
  · simp only [h, if_true, Bool.true_and]
  · simp only [h]
    simp
theorem num4_len {x : Int} (h : 0 ≤ x ∧ x ≤ 1000) : (numL x).length ≤ 4 := numL_len 3 x.toNat (by simp; omega)
theorem isHeaps_in {l : List Int} (h : isHeaps l = true) : (1 ≤ l.length ∧ l.length ≤ 12) ∧ ∀ d ∈ l, 0 ≤ d ∧ d ≤ 1000 := by
  simp [isHeaps, allIn] at h
  refine ⟨by omega, fun d hd => ?_⟩
  have := h.2 d hd
  omega
/-! numerals read -/
def isDg (b : UInt8) : Bool := decide (48 ≤ b.toNat) && decide (b.toNat ≤ 57)
def dv (acc : Nat) (l : List UInt8) : Nat := l.foldl (fun a b => 10 * a + (b.toNat - 48)) acc
theorem dv_cons (acc : Nat) (b : UInt8) (l : List UInt8) : dv acc (b :: l) = dv (10 * acc + (b.toNat - 48)) l := by unfold dv; rw [List.foldl_cons]
theorem dv_append (acc : Nat) (l : List UInt8) (b : UInt8) : dv acc (l ++ [b]) = 10 * dv acc l + (b.toNat - 48) := by simp [dv, List.foldl_append]
theorem ofNat_dg (d : Nat) (h : d < 10) : (UInt8.ofNat (48 + d)).toNat = 48 + d := by
  rw [UInt8.toNat_ofNat']
  omega
theorem dec_small {n : Nat} (h : n < 10) : Lib.decDigits n = [UInt8.ofNat (48 + n)] := by rw [Lib.decDigits, dif_pos h]
theorem dec_big {n : Nat} (h : ¬ n < 10) : Lib.decDigits n = Lib.decDigits (n / 10) ++ [UInt8.ofNat (48 + n % 10)] := by
  have := Lib.decDigits.eq_1 n
  rw [this, dif_neg h]
theorem dec_ne (n : Nat) : Lib.decDigits n ≠ [] := by
  by_cases h : n < 10
  · rw [dec_small h]; simp
  · rw [dec_big h]; simp
theorem dec_dg (n : Nat) : (Lib.decDigits n).all isDg = true := by
  induction n using Nat.strongRecOn with
  | ind n ih =>
    by_cases h : n < 10
    · rw [dec_small h]
      simp only [List.all_cons, List.all_nil, Bool.and_true, isDg, ofNat_dg n h]
      simp; omega
    · rw [dec_big h, List.all_append, ih (n / 10) (by omega)]
      simp only [List.all_cons, List.all_nil, Bool.and_true, Bool.true_and, isDg, ofNat_dg (n % 10) (by omega)]
      simp; omega
theorem dec_dv (n : Nat) : dv 0 (Lib.decDigits n) = n := by
  induction n using Nat.strongRecOn with
  | ind n ih =>
    by_cases h : n < 10
    · rw [dec_small h]
      simp only [dv, List.foldl_cons, List.foldl_nil, ofNat_dg n h]
      omega
    · rw [dec_big h, dv_append, ih (n / 10) (by omega), ofNat_dg (n % 10) (by omega)]
      omega
theorem dec_head (n : Nat) : ∀ r, Lib.decDigits n = 48 :: r → r = [] := by
  induction n using Nat.strongRecOn with
  | ind n ih =>
    intro r e
    by_cases h : n < 10
    · rw [dec_small h] at e
      simp at e
      exact e.2
    · rw [dec_big h] at e
      cases hq : Lib.decDigits (n / 10) with
      | nil => exact absurd hq (dec_ne _)
      | cons a q =>
        rw [hq] at e
        simp only [List.cons_append, List.cons.injEq] at e
        obtain ⟨rfl, _⟩ := e
        have := ih (n / 10) (by omega) q hq
        subst this
        have h1 := dec_dv (n / 10)
        rw [hq] at h1
        have h2 : dv 0 [48] = 0 := rfl
        omega
theorem canon : ∀ (m : Nat) (p : List UInt8), p.length = m + 1 → p.all isDg = true → (∀ r, p = 48 :: r → r = []) → Lib.decDigits (dv 0 p) = p := by
  intro m
  induction m with
  | zero =>
    intro p hp hd _
    obtain ⟨b, rfl⟩ := List.length_eq_one_iff.mp hp
    simp [isDg] at hd
    have e : dv 0 [b] = b.toNat - 48 := by simp [dv]
    rw [e, dec_small (by omega)]
    rw [show 48 + (b.toNat - 48) = b.toNat by omega]
    simp
  | succ m ih =>
    intro p hp hd hz
    obtain ⟨q, d, rfl⟩ : ∃ q d, p = q ++ [d] := by
      have hne : p ≠ [] := by intro e; rw [e] at hp; simp at hp
      exact ⟨p.dropLast, p.getLast hne, (List.dropLast_concat_getLast hne).symm⟩
    have hq : q.length = m + 1 := by simpa using hp
    have hqd : q.all isDg = true ∧ isDg d = true := by simpa using hd
    have hqz : ∀ r, q = 48 :: r → r = [] := by
      intro r e
      rw [e] at hz hq
      have := hz (r ++ [d]) (by simp)
      simp at this
    have hc := ih q hq hqd.1 hqz
    have hd' : 48 ≤ d.toNat ∧ d.toNat ≤ 57 := by simpa [isDg] using hqd.2
    have hpos : dv 0 q ≠ 0 := by
      intro e
      rw [e, dec_small (by omega)] at hc
      have := hz ([] ++ [d]) (by rw [← hc]; rfl)
      simp at this
    rw [dv_append, dec_big (by omega)]
    rw [show (10 * dv 0 q + (d.toNat - 48)) / 10 = dv 0 q by omega, show (10 * dv 0 q + (d.toNat - 48)) % 10 = d.toNat - 48 by omega, hc, show 48 + (d.toNat - 48) = d.toNat by omega]
    simp
theorem dv_le : ∀ (l : List UInt8) (acc : Nat), acc ≤ dv acc l
  | [], acc => Nat.le_refl _
  | b :: l, acc => by
    have := dv_le l (10 * acc + (b.toNat - 48))
    rw [dv_cons]
    omega
theorem parse_dg : ∀ (l : List UInt8) (acc : Nat), l.all isDg = true → dv acc l < 1000000000 → Lib.parseUint10 acc l = .ok (dv acc l)
  | [], acc, _, _ => rfl
  | b :: l, acc, hd, hv => by
    have h : isDg b = true ∧ l.all isDg = true := by simpa using hd
    have hb : 48 ≤ b.toNat ∧ b.toNat ≤ 57 := by simpa [isDg] using h.1
    rw [dv_cons] at hv ⊢
    have h1 := dv_le l (10 * acc + (b.toNat - 48))
    have e : acc * 10 + (b.toNat - 48) = 10 * acc + (b.toNat - 48) := by omega
    simp only [Lib.parseUint10]
    rw [if_pos hb, if_neg (by omega), if_neg (by omega), e]
    exact parse_dg l _ h.2 hv
/-- The library reads a numeral. -/
theorem atoi_dec (n : Nat) (h : n < 1000000000) : Lib.atoiAll (Lib.decDigits n) = .ok (n : Int) := by
  have hd := dec_dg n
  have hv := dec_dv n
  have hp := parse_dg (Lib.decDigits n) 0 hd (by omega)
  rw [hv] at hp
  have hne := dec_ne n
  generalize Lib.decDigits n = p at *
  cases p with
  | nil => exact absurd rfl hne
  | cons c r =>
    have hc : isDg c = true := by simp at hd; exact hd.1
    have hb : 48 ≤ c.toNat ∧ c.toNat ≤ 57 := by simpa [isDg] using hc
    have h43 : ¬ (c.toNat = 43 ∨ c.toNat = 45) := by omega
    have hm : Lib.parseMag (c :: r) = .ok n := by
      unfold Lib.parseMag
      rw [if_neg (by simp), hp]
    unfold Lib.atoiAll
    simp only [if_neg h43, hm]
    rw [if_neg (by omega), if_neg (by omega), if_neg (by omega)]
theorem rdS_atH (done : List (List UInt8)) (p : List UInt8) (ps : List (List UInt8)) : rdOf ByteArray.empty ((done ++ p :: ps).map mkB) (done.length : Int) = mkB p := by
  simp [rdOf, List.getD_eq_getElem?_getD]
/-- What the specification reads. -/
def readS (p : List UInt8) : Int := if (1 ≤ p.length ∧ p.length ≤ 6) ∧ ¬ (p.head? = some 48 ∧ 1 < p.length) ∧ p.all isDg = true then (dv 0 p : Int) else -1
theorem spec_l1Read.l0ev : ∀ (tl done : List UInt8) (acc : Nat), (done ++ tl).length ≤ 6 → acc < 10 ^ done.length →
    Ev (fun k => spec_l1Read.l0 k (mkB (done ++ tl)) (acc : Int) done.length) (if tl.all isDg = true then (dv acc tl : Int) else -1) := by
  intro tl
  induction tl with
  | nil =>
    intro done acc hl _
    refine Ev.step (f := fun _ => some (acc : Int)) (fun k => ?_) (by simpa [dv] using Ev.now (acc : Int))
    simp only [spec_l1Read.l0, mkB_size]
    simp only [List.append_nil]
    rw [if_neg (by omega)]
  | cons b tl ih =>
    intro done acc hl ha
    have hl' : done.length + (tl.length + 1) ≤ 6 := by simpa using hl
    have hg : bt (mkB (done ++ b :: tl)) ((done.length : Nat) : Int) = (b.toNat : Int) := by
      rw [mkB_get _ done.length (by simp)]
      simp
    by_cases c1 : b.toNat < 48
    · have e : (b :: tl).all isDg = false := by simp [isDg, show ¬ 48 ≤ b.toNat by omega]
      refine Ev.step (f := fun _ => some (-1)) (fun k => ?_) (by rw [e]; exact Ev.now _)
      simp only [spec_l1Read.l0, hg, mkB_size]
      rw [if_pos (by simp; omega), if_pos (by omega), if_pos (by omega)]
    · by_cases c2 : 57 < b.toNat
      · have e : (b :: tl).all isDg = false := by simp [isDg, show ¬ b.toNat ≤ 57 by omega]
        refine Ev.step (f := fun _ => some (-1)) (fun k => ?_) (by rw [e]; exact Ev.now _)
        simp only [spec_l1Read.l0, hg, mkB_size]
        rw [if_pos (by simp; omega), if_pos (by omega), if_neg (by omega), if_pos (by omega)]
      · have e : (b :: tl).all isDg = tl.all isDg := by simp [isDg, show 48 ≤ b.toNat by omega, show b.toNat ≤ 57 by omega]
        have hp : 10 ^ done.length ≤ 10 ^ 6 := Nat.pow_le_pow_right (by omega) (by omega)
        have hp6 : (10 : Nat) ^ 6 = 1000000 := by decide
        have ha' : 10 * acc + (b.toNat - 48) < 10 ^ (done ++ [b]).length := by
          rw [List.length_append, List.length_singleton, Nat.pow_succ]
          omega
        have h := ih (done ++ [b]) (10 * acc + (b.toNat - 48)) (by simpa using hl) ha'
        refine Ev.step (f := fun k => spec_l1Read.l0 k (mkB (done ++ [b] ++ tl)) ((10 * acc + (b.toNat - 48) : Nat) : Int) ((done ++ [b]).length : Int)) (fun k => ?_) (by rw [e, dv_cons]; exact h)
        simp only [spec_l1Read.l0, hg, mkB_size]
        rw [if_pos (by simp; omega), if_pos (by omega), if_neg (by omega), if_neg (by omega), w64 (10 * (acc : Int)) (by omega) (by omega), w64 _ (by omega) (by omega), w64s _ (by omega)]
        have e1 : 10 * (acc : Int) + ((b.toNat : Int) - 48) % 256 = ((10 * acc + (b.toNat - 48) : Nat) : Int) := by omega
        rw [e1]
        simp
theorem spec_l1Read.ev (p : List UInt8) (hp : p.length ≤ 1048576) : Ev (fun k => spec_l1Read.f k (mkB p)) (readS p) := by
  unfold spec_l1Read.f readS
  simp only [spec_l1In.is, Option.bind_some, mkB_size]
  by_cases c : 1 ≤ p.length ∧ p.length ≤ 6
  · have e1 : (decide ((1 : Int) ≤ (p.length : Int)) && decide ((p.length : Int) ≤ 6)) = true := by simp; omega
    simp only [e1, if_true, if_pos (show (0 : Int) < (p.length : Int) by omega)]
    have h0 := mkB_get p 0 (by omega)
    rw [show ((0 : Nat) : Int) = 0 from rfl] at h0
    simp only [h0]
    have hgo := spec_l1Read.l0ev p [] 0 (by simpa using c.2) (by simp)
    have hh : p.head? = some (p[0]'(by omega)) := by rw [List.head?_eq_getElem?, List.getElem?_eq_getElem]
    have e48 : (((p[0]'(by omega)).toNat : Int) = 48) ↔ p[0]'(by omega) = 48 := by
      constructor
      · intro h
        exact UInt8.toNat_inj.mp (by rw [show (48 : UInt8).toNat = 48 from rfl]; omega)
      · intro h
        rw [h]; rfl
    have tail : ∀ (q : Bool), q = decide (p.head? = some 48 ∧ 1 < p.length) → Ev (fun k => spec_l1Read.j0 k (mkB p) q) (if (1 ≤ p.length ∧ p.length ≤ 6) ∧ ¬ (p.head? = some 48 ∧ 1 < p.length) ∧ p.all isDg = true then (dv 0 p : Int) else -1) := by
      intro q hq
      by_cases z : p.head? = some 48 ∧ 1 < p.length
      · rw [decide_eq_true z] at hq
        subst hq
        rw [if_neg (fun h => h.2.1 z)]
        refine Ev.step (f := fun _ => some (-1)) (fun k => ?_) (Ev.now _)
        simp only [spec_l1Read.j0, if_true]
      · rw [decide_eq_false z] at hq
        subst hq
        refine Ev.step (f := fun k => spec_l1Read.l0 k (mkB p) 0 0) (fun k => ?_) ?_
        · simp only [spec_l1Read.j0]
          rw [if_neg (by simp)]
        · have : (if (1 ≤ p.length ∧ p.length ≤ 6) ∧ ¬ (p.head? = some 48 ∧ 1 < p.length) ∧ p.all isDg = true then (dv 0 p : Int) else -1) = (if p.all isDg = true then (dv 0 p : Int) else -1) := by
            by_cases d : p.all isDg = true
            · rw [if_pos ⟨c, z, d⟩, if_pos d]
            · rw [if_neg (fun h => d h.2.2), if_neg d]
          rw [this]
          simpa using hgo
    by_cases z0 : p[0]'(by omega) = 48
    · simp only [if_pos (e48.mpr z0)]
      refine tail _ ?_
      rw [hh, z0]
      by_cases z1 : 1 < p.length
      · rw [decide_eq_true (show (p.length : Int) > 1 by omega)]
        simp [z1]
      · rw [decide_eq_false (show ¬ (p.length : Int) > 1 by omega)]
        simp [z1]
    · simp only [if_neg (fun h => z0 (e48.mp h))]
      refine tail _ ?_
      rw [hh]
      simp [z0]
  · have e1 : (decide ((1 : Int) ≤ (p.length : Int)) && decide ((p.length : Int) ≤ 6)) = false := by
      simp; omega
    simp only [e1]
    rw [if_neg (fun h => c h.1)]
    simp only [Bool.false_eq_true, if_false]
    refine Ev.step (f := fun _ => some (-1)) (fun k => ?_) (Ev.now _)
    simp only [spec_l1Read.j0, if_true]
theorem read_dec (n : Nat) (h : n < 1000000) : readS (Lib.decDigits n) = n := by
  unfold readS
  have h1 := numL_len 5 n (by simpa using h)
  have h2 : 1 ≤ (Lib.decDigits n).length := List.length_pos_iff.mpr (dec_ne n)
  have hz : ¬ ((Lib.decDigits n).head? = some 48 ∧ 1 < (Lib.decDigits n).length) := by
    rintro ⟨e, hl⟩
    cases hp : Lib.decDigits n with
    | nil => exact dec_ne n hp
    | cons a r =>
      rw [hp] at e hl
      obtain rfl : a = 48 := by simpa using e
      have := dec_head n r hp
      subst this
      simp at hl
  rw [if_pos ⟨⟨h2, by omega⟩, hz, dec_dg n⟩, dec_dv]
theorem read_num {p : List UInt8} (h : 0 ≤ readS p) : p = Lib.decDigits (readS p).toNat := by
  unfold readS at h ⊢
  by_cases c : (1 ≤ p.length ∧ p.length ≤ 6) ∧ ¬ (p.head? = some 48 ∧ 1 < p.length) ∧ p.all isDg = true
  · rw [if_pos c]
    refine (canon (p.length - 1) p (by omega) c.2.2 ?_).symm
    intro r e
    cases r with
    | nil => rfl
    | cons a r =>
      exfalso
      exact c.2.1 ⟨by rw [e]; rfl, by rw [e]; simp⟩
  · rw [if_neg c] at h
    omega
theorem val_dec (n : Nat) (h : n < 1000000000) : impl_number.val (Lib.decDigits n) = n := by
  unfold impl_number.val
  rw [atoi_dec n h]
  simp only
  rw [if_neg (by omega), if_pos (by simp)]
theorem val_num {p : List UInt8} (h : 0 ≤ impl_number.val p) : p = Lib.decDigits (impl_number.val p).toNat := by
  unfold impl_number.val at h ⊢
  cases hv : Lib.atoiAll p with
  | ok v =>
    rw [hv] at h
    simp only at h ⊢
    by_cases c1 : v < 0
    · rw [if_pos c1] at h; omega
    · rw [if_neg c1] at h ⊢
      by_cases c2 : Lib.decDigits v.toNat = p
      · rw [if_pos c2]; exact c2.symm
      · rw [if_neg c2] at h; omega
  | range => rw [hv] at h; simp only at h; omega
  | _ => rw [hv] at h; simp only at h; omega
theorem maps_eq {f g : List UInt8 → Int} (hf : ∀ p, 0 ≤ f p → p = Lib.decDigits (f p).toNat) (hg : ∀ n : Nat, n < 1000000 → g (Lib.decDigits n) = n) {ps : List (List UInt8)} (h : isHeaps (ps.map f) = true) : ps.map f = ps.map g := by
  refine List.map_congr_left (fun p hp => ?_)
  have hx := (isHeaps_in h).2 (f p) (List.mem_map_of_mem hp)
  have e := hf p hx.1
  have := hg (f p).toNat (by omega)
  rw [← e] at this
  omega
theorem spec_hpParse.l0ev (n : Int) (hn : n ≤ 1048576) : ∀ (tl done : List (List UInt8)), ((done ++ tl).length : Int) = n → (∀ p ∈ tl, p.length ≤ 1048576) →
    Ev (fun k => spec_hpParse.l0 k (done.map readS) ((done ++ tl).map mkB) n done.length) (if isHeaps ((done ++ tl).map readS) = true then ((done ++ tl).map readS, true) else ([], false)) := by
  intro tl
  induction tl with
  | nil =>
    intro done hd _
    simp only [List.append_nil] at hd ⊢
    obtain ⟨K, hK⟩ := spec_hpGood.ev (done.map readS) (by simp; omega)
    refine ⟨K + 1, fun k hk => ?_⟩
    obtain ⟨k, rfl⟩ : ∃ k', k = k' + 1 := ⟨k - 1, by omega⟩
    have h1 := hK k (by omega)
    simp only at h1
    simp only [spec_hpParse.l0]
    rw [if_neg (by omega), h1, Option.bind_some]
    by_cases c : isHeaps (done.map readS) = true
    · rw [if_pos c, if_pos c]
    · rw [if_neg c, if_neg c]
  | cons p ps ih =>
    intro done hd hall
    have hd' : (done.length : Int) + (ps.length + 1) = n := by simpa using hd
    obtain ⟨K1, h1⟩ := spec_l1Read.ev p (hall p (by simp))
    obtain ⟨K2, h2⟩ := ih (done ++ [p]) (by simpa using hd) (fun x hx => hall x (by simp [hx]))
    refine ⟨K1 + K2 + 1, fun k hk => ?_⟩
    obtain ⟨k, rfl⟩ : ∃ k', k = k' + 1 := ⟨k - 1, by omega⟩
    have h1' := h1 k (by omega)
    have h2' := h2 k (by omega)
    simp only at h1' h2'
    simp only [spec_hpParse.l0, rdS_atH]
    rw [if_pos (by omega), if_pos (by omega), if_pos (by simp; omega), h1', Option.bind_some, if_pos (by simp; omega), w64s _ (by omega)]
    simpa using h2'
theorem impl_split.l0ev (n : Int) (hn : n ≤ 1048577) : ∀ (tl done : List (List UInt8)), ((done ++ tl).length : Int) = n → (∀ p ∈ tl, p.length ≤ 1048576) →
    Ev (fun k => impl_split.l0 k (done.map impl_number.val) ((done ++ tl).map mkB) n done.length) ((done ++ tl).map impl_number.val) := by
  intro tl
  induction tl with
  | nil =>
    intro done hd _
    simp only [List.append_nil] at hd ⊢
    refine Ev.step (f := fun _ => some (done.map impl_number.val)) (fun k => ?_) (Ev.now _)
    simp only [impl_split.l0]
    rw [if_neg (by omega)]
  | cons p ps ih =>
    intro done hd hall
    have hd' : (done.length : Int) + (ps.length + 1) = n := by simpa using hd
    have h := ih (done ++ [p]) (by simpa using hd) (fun x hx => hall x (by simp [hx]))
    refine Ev.step (f := fun k => impl_split.l0 k ((done ++ [p]).map impl_number.val) ((done ++ [p] ++ ps).map mkB) n ((done ++ [p]).length : Int)) (fun k => ?_) (by simpa using h)
    have hp := hall p (by simp)
    have hnm : impl_number.f (mkB p) = some (impl_number.val p) := by
      unfold impl_number.f
      rw [if_pos (by rw [mkB_size]; omega), mkB_toList]
    simp only [impl_split.l0, rdS_atH, hnm, Option.bind_some]
    rw [if_pos (by omega), if_pos (by omega), if_pos (by simp; omega), if_pos (by simp; omega), w64s _ (by omega)]
    simp
theorem spl_le : ∀ (l c : List UInt8), ∀ p ∈ spl l c, p.length ≤ c.length + l.length
  | [], c, p, h => by
    simp [spl] at h
    subst h; simp
  | b :: l, c, p, h => by
    unfold spl at h
    split at h
    · rcases List.mem_cons.mp h with rfl | h
      · omega
      · have := spl_le l [] p h
        simp at this ⊢; omega
    · have := spl_le l (c ++ [b]) p h
      simp at this ⊢; omega
theorem jt_lenH : ∀ (ps : List (List UInt8)), (∀ p ∈ ps, p.length ≤ 4) → (jt ps).length ≤ 5 * ps.length
  | [], _ => by simp [jt]
  | p :: ps, h => by
    have h1 := h p (by simp)
    have := jt_lenH ps (fun x hx => h x (by simp [hx]))
    simp only [jt, List.length_append, List.length_cons]
    omega
theorem jn_lenH (ps : List (List UInt8)) (h : ∀ p ∈ ps, p.length ≤ 4) (h12 : ps.length ≤ 12) : (jn ps).length ≤ 60 := by
  cases ps with
  | nil => simp [jn]
  | cons p ps =>
    have h1 := h p (by simp)
    have := jt_lenH ps (fun x hx => h x (by simp [hx]))
    simp only [List.length_cons] at h12
    simp only [jn, List.length_append]
    omega
theorem both_ParseHeaps (L : List UInt8) (hL : L.length ≤ 1048576) : ∃ v : List Int × Bool, v.1.length ≤ 1048576 ∧ Ev (fun k => spec_ParseHeaps.f k (mkB L)) v ∧ Ev (fun k => impl_ParseHeaps.f k (mkB L)) v := by
  have hps := spl_len L []
  have hpl : ∀ p ∈ spl L [], p.length ≤ 1048576 := fun p hp => by
    have := spl_le L [] p hp
    simp at this; omega
  have hj := jn_spl L []
  simp only [List.nil_append] at hj
  have hS := spec_l1Split.ev L hL
  have hI := strings_Split.is L hL
  generalize spl L [] = ps at *
  have himpl : Ev (fun k => impl_ParseHeaps.f k (mkB L)) (if isHeaps (ps.map impl_number.val) = true then (ps.map impl_number.val, true) else ([], false)) := by
    refine Ev.bind (a := ps.map impl_number.val) ?_ ?_
    · unfold impl_split.f
      simp only [hI, Option.bind_some]
      have := impl_split.l0ev ((ps.map mkB).length : Int) (by simp; omega) ps [] (by simp) hpl
      simpa using this
    · simp only [impl_AreHeaps.is, Option.bind_some]
      by_cases c : isHeaps (ps.map impl_number.val) = true
      · simp only [c, if_true]; exact Ev.now _
      · simp only [c]; exact Ev.now _
  have hspec : L.length ≤ 60 → Ev (fun k => spec_ParseHeaps.f k (mkB L)) (if isHeaps (ps.map readS) = true then (ps.map readS, true) else ([], false)) := by
    intro h60
    refine Ev.bind (a := (if isHeaps (ps.map readS) = true then (ps.map readS, true) else ([], false))) ?_ ?_
    · unfold spec_hpParse.f
      simp only [mkB_size]
      simp only [if_neg (show ¬ ((L.length : Int) > 60) by omega)]
      refine Ev.bind hS ?_
      have := spec_hpParse.l0ev ((ps.map mkB).length : Int) (by simp; omega) ps [] (by simp) hpl
      simpa using this
    · exact Ev.now _
  by_cases c : isHeaps (ps.map impl_number.val) = true
  · rw [if_pos c] at himpl
    have e := maps_eq (g := readS) (fun p => val_num) (fun n hn => read_dec n hn) c
    obtain ⟨⟨_, h12⟩, hall⟩ := isHeaps_in c
    simp only [List.length_map] at h12
    have h4 : ∀ p ∈ ps, p.length ≤ 4 := fun p hp => by
      have hx := hall _ (List.mem_map_of_mem hp)
      have e1 := val_num hx.1
      rw [e1]
      exact num4_len hx
    have h60 := jn_lenH ps h4 h12
    rw [hj] at h60
    have hs := hspec h60
    rw [← e, if_pos c] at hs
    exact ⟨_, by simp; omega, hs, himpl⟩
  · rw [if_neg c] at himpl
    refine ⟨([], false), by simp, ?_, himpl⟩
    by_cases h60 : L.length ≤ 60
    · have hs := hspec h60
      have c2 : ¬ isHeaps (ps.map readS) = true := fun h => c (by
        have e := maps_eq (g := impl_number.val) (fun p => read_num) (fun n hn => val_dec n (by omega)) h
        rw [← e]; exact h)
      rw [if_neg c2] at hs
      exact hs
    · refine Ev.bind (a := (([] : List Int), false)) ?_ (Ev.now _)
      unfold spec_hpParse.f
      simp only [mkB_size]
      simp only [if_pos (show ((L.length : Int) > 60) by omega)]
      exact Ev.now _
theorem FnExactParseHeaps : laws_FnExactParseHeaps.Pure := by
  intro s _
  by_cases hl : (s.size : Int) > 1048576
  · exact ⟨0, by unfold laws_FnExactParseHeaps.f; rw [if_pos hl]⟩
  obtain ⟨L, rfl⟩ : ∃ L, s = mkB L := ⟨s.data.toList, by simp [mkB]⟩
  have hL : L.length ≤ 1048576 := by rw [mkB_size] at hl; omega
  obtain ⟨v, hv, ⟨K2, h2⟩, ⟨K3, h3⟩⟩ := both_ParseHeaps L hL
  obtain ⟨v, b⟩ := v
  simp only at hv
  obtain ⟨K5, h5⟩ := laws_eqIntS.ev v hv
  obtain ⟨K7, h7⟩ := laws_markIntS.ev v hv
  obtain ⟨K8, h8⟩ := laws_heldIntS.ev v hv
  dsimp only at h2 h3 h5 h7 h8
  refine ⟨K2 + K3 + K5 + K7 + K8 + 1 + 1, ?_⟩
  have c2 : ¬ (1 + (v.length : Int) < 0) := by omega
  simp (disch := omega) only [laws_FnExactParseHeaps.f, if_neg hl, h2, h3, h5, Option.bind_some, bne_self_eq_false, if_true]
  simp (disch := omega) only [laws_FnExactParseHeaps.j0, h3, h5, h7, h8, Option.bind_some, bne_self_eq_false, Bool.false_eq_true, if_true, if_false, if_neg c2]
  simp (disch := omega) only [laws_FnExactParseHeaps.j1, h8, Option.bind_some, Bool.false_eq_true, if_true, if_false, if_neg c2]

end Go.Proofs.YtdlalgciieickaaDoor.Pure
