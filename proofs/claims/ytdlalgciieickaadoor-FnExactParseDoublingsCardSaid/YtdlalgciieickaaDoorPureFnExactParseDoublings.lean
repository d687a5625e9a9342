/- The program's ParseDoublings returns what the reference's returns, for all arguments. It has no conditions. -/
import Derived.Test.YtdlalgciieickaaDoorPFnExactParseDoublingsx5
namespace Go.Proofs.YtdlalgciieickaaDoor.Pure
open Go.RowKit Go.Proofs.YtdlalgciieickaaDoor.PFnExactParseDoublings Go.Proofs.YtdlalgciieickaaDoorW.PrintWords Go.Proofs.YtdlalgciieickaaDoorW.PrintLast
set_option linter.unusedVariables false
set_option linter.unusedSimpArgs false

/-! ### small words -/
theorem w64 (n : Int) (h1 : -9223372036854775808 ≤ n) (h2 : n ≤ 9223372036854775807) : wrap64 n = n := by unfold wrap64; omega
theorem w64s (i : Nat) (h : i < 9223372036854775807) : wrap64 ((i : Int) + 1) = ((i + 1 : Nat) : Int) := by unfold wrap64; omega
theorem rd_at (l : List Int) (i : Nat) (h : i < l.length) : rd l (i : Int) = l[i] := by simp [rd, List.getD_eq_getElem?_getD, List.getElem?_eq_getElem h]
theorem wf64 {x : Int} (h : (Lit.int .i64 x).wf = true) : -9223372036854775808 ≤ x ∧ x ≤ 9223372036854775807 := by
  simp [Lit.wf, IntKind.min, IntKind.max, IntKind.bits, IntKind.signed] at h
  omega
theorem laws_eqDoublingS.l0ev (l : List S52) (hl : l.length ≤ 1048576) (d : Nat) : ∀ i, i + d = l.length → Ev (fun k => laws_eqDoublingS.l0 k l l i) true := by
  induction d with
  | zero =>
    intro i hi
    refine Ev.step (f := fun _ => some true) (fun k => ?_) (Ev.now _)
    simp only [laws_eqDoublingS.l0]
    rw [if_neg (by omega)]
  | succ d ih =>
    intro i hi
    refine Ev.step (f := fun k => laws_eqDoublingS.l0 k l l ((i + 1 : Nat) : Int)) (fun k => ?_) (ih (i + 1) (by omega))
    simp only [laws_eqDoublingS.l0, laws_eqDoubling.f, if_true, Option.bind_some]
    rw [if_pos (by omega), if_pos (by omega), if_pos (by omega), w64s i (by omega)]
theorem laws_eqDoublingS.ev (l : List S52) (hl : l.length ≤ 1048576) : Ev (fun k => laws_eqDoublingS.f k l l) true := by
  unfold laws_eqDoublingS.f
  simp only [if_true]
  exact laws_eqDoublingS.l0ev l hl l.length 0 (by omega)
theorem rdD_app2 (done : List S52) (x : S52) (xs : List S52) : rd_T52 (done ++ x :: xs) (done.length : Int) = x := by simp [rd_T52]
/-- Marked doublings, from k on. -/
def dmarks : List S52 → Int → List S52
  | [], _ => []
  | _ :: xs, k => ⟨k, k + 1⟩ :: dmarks xs (k + 2)
theorem dmarks_length : ∀ (l : List S52) (k : Int), (dmarks l k).length = l.length
  | [], _ => rfl
  | _ :: xs, k => by simp [dmarks, dmarks_length xs]
theorem laws_markDoublingS.l0ev : ∀ (tl done : List S52) (m : Int), done.length + tl.length ≤ 1048576 → 0 ≤ m → m ≤ 1048577 + 2 * done.length →
    Ev (fun k => laws_markDoublingS.l0 k (done ++ tl) m done.length) (m + 2 * tl.length, done ++ dmarks tl m) := by
  intro tl
  induction tl with
  | nil =>
    intro done m h1 h2 h3
    refine Ev.step (f := fun _ => some (m, done)) (fun k => ?_) (by simpa [dmarks] using Ev.now (m, done))
    simp only [laws_markDoublingS.l0]
    rw [if_neg (by simp)]
    simp
  | cons x xs ih =>
    intro done m h1 h2 h3
    simp only [List.length_cons] at h1
    have h := ih (done ++ [⟨m, m + 1⟩]) (m + 2) (by simp; omega) (by omega) (by simp; omega)
    refine Ev.step (f := fun k => laws_markDoublingS.l0 k (done ++ [⟨m, m + 1⟩] ++ xs) (m + 2) ((done ++ [(⟨m, m + 1⟩ : S52)]).length : Int)) (fun k => ?_) ?_
    · simp only [laws_markDoublingS.l0, Option.bind_some]
      rw [if_pos (by simp; omega), if_pos (by omega), w64 (m + 1) (by omega) (by omega), w64 (m + 1 + 1) (by omega) (by omega), w64s done.length (by omega)]
      have s : ∀ (y z : S52), (done ++ y :: xs).set (done.length : Int).toNat z = done ++ z :: xs := by
        intro y z
        simp [List.set_append_right]
      simp only [s, rdD_app2]
      congr 1
      · simp [Int.add_assoc]
      · omega
      · simp
    · have e : (m + 2 * ((x :: xs).length : Int), done ++ dmarks (x :: xs) m) = (m + 2 + 2 * (xs.length : Int), done ++ [⟨m, m + 1⟩] ++ dmarks xs (m + 2)) := by
        simp [dmarks]; omega
      rw [e]; exact h
theorem laws_markDoublingS.ev (l : List S52) (hl : l.length ≤ 1048576) (m : Int) (h0 : 0 ≤ m) (h1 : m ≤ 1048577) : Ev (fun k => laws_markDoublingS.f k l m) (m + 2 * (l.length : Int), dmarks l m) := by
  have h := laws_markDoublingS.l0ev l [] m (by simpa using hl) h0 (by simpa using h1)
  simpa [laws_markDoublingS.f] using h
theorem laws_heldDoublingS.l0ev : ∀ (tl done : List S52) (m : Int), done.length + tl.length ≤ 1048576 → 0 ≤ m → m ≤ 1048577 + 2 * done.length →
    Ev (fun k => laws_heldDoublingS.l0 k (done ++ dmarks tl m) m done.length) (m + 2 * tl.length) := by
  intro tl
  induction tl with
  | nil =>
    intro done m h1 h2 h3
    refine Ev.step (f := fun _ => some m) (fun k => ?_) (by simpa [dmarks] using Ev.now m)
    simp only [laws_heldDoublingS.l0]
    rw [if_neg (by simp [dmarks])]
  | cons x xs ih =>
    intro done m h1 h2 h3
    simp only [List.length_cons] at h1
    have h := ih (done ++ [⟨m, m + 1⟩]) (m + 2) (by simp; omega) (by omega) (by simp; omega)
    refine Ev.step (f := fun k => laws_heldDoublingS.l0 k (done ++ [⟨m, m + 1⟩] ++ dmarks xs (m + 2)) (m + 2) ((done ++ [(⟨m, m + 1⟩ : S52)]).length : Int)) (fun k => ?_) ?_
    · simp only [laws_heldDoublingS.l0, dmarks, rdD_app2]
      rw [if_pos (by simp; omega), if_pos (by omega), if_pos trivial, w64 (m + 1) (by omega) (by omega), if_pos rfl, w64 (m + 1 + 1) (by omega) (by omega), w64s done.length (by omega)]
      congr 1
      · simp
      · omega
      · simp
    · have e : m + 2 * ((x :: xs).length : Int) = m + 2 + 2 * (xs.length : Int) := by simp; omega
      rw [e]; exact h
theorem laws_heldDoublingS.ev (l : List S52) (hl : l.length ≤ 1048576) : Ev (fun k => laws_heldDoublingS.f k (dmarks l 1) 1) (1 + 2 * (l.length : Int)) := by
  have h := laws_heldDoublingS.l0ev l [] 1 (by simpa using hl) (by omega) (by simp)
  simpa [laws_heldDoublingS.f] using h
/-- The text with these bytes. -/
def mkB (l : List UInt8) : ByteArray := ⟨l.toArray⟩
theorem mkB_append (a b : List UInt8) : mkB a ++ mkB b = mkB (a ++ b) := by
  apply ByteArray.ext
  simp [mkB, ByteArray.data_append]
theorem mkB_size (a : List UInt8) : (mkB a).size = a.length := by simp [mkB, ByteArray.size]
theorem mkB_toList (a : List UInt8) : (mkB a).data.toList = a := by simp [mkB]
/-- The numeral of a number. -/
def numL (n : Int) : List UInt8 := Lib.decDigits n.toNat
theorem numL_len : ∀ (d : Nat) (n : Nat), n < 10 ^ (d + 1) → (Lib.decDigits n).length ≤ d + 1
  | 0, n, h => by
    rw [Lib.decDigits, dif_pos (by simpa using h)]
    simp
  | d + 1, n, h => by
    rw [Lib.decDigits]
    split
    · simp
    · have := numL_len d (n / 10) (by rw [Nat.pow_succ] at h; omega)
      simp only [List.length_append, List.length_singleton]
      omega
theorem strOf1 (x : Int) (h : 0 ≤ x ∧ x < 10) : strOfNums ([(wrap64 (48 + x)) % 256] : List Int) = mkB [UInt8.ofNat (48 + x.toNat)] := by
  rw [w64 _ (by omega) (by omega)]
  have : (48 + x) % 256 = ((48 + x.toNat : Nat) : Int) := by omega
  rw [this]
  rfl
theorem spec_l1Num.ev : ∀ (d : Nat) (n : Nat), d ≤ 18 → n < 10 ^ (d + 1) → Ev (fun k => spec_l1Num.f k (n : Int)) (mkB (numL (n : Int))) := by
  intro d
  induction d with
  | zero =>
    intro n _ h
    have h10 : n < 10 := by simpa using h
    refine Ev.step (f := fun _ => some (mkB (numL (n : Int)))) (fun k => ?_) (Ev.now _)
    simp only [spec_l1Num.f]
    rw [if_pos (by omega), strOf1 _ (by omega)]
    unfold numL
    rw [Lib.decDigits, dif_pos (by omega)]
  | succ d ih =>
    intro n hd h
    by_cases h10 : n < 10
    · refine Ev.step (f := fun _ => some (mkB (numL (n : Int)))) (fun k => ?_) (Ev.now _)
      simp only [spec_l1Num.f]
      rw [if_pos (by omega), strOf1 _ (by omega)]
      unfold numL
      rw [Lib.decDigits, dif_pos (by omega)]
    · have hn : n / 10 < 10 ^ (d + 1) := by rw [Nat.pow_succ] at h; omega
      have hb : n < 10 ^ 19 := Nat.lt_of_lt_of_le h (Nat.pow_le_pow_right (by omega) (by omega))
      have hb2 : (n / 10 : Nat) < 1000000000000000000 := by
        have : (10 : Nat) ^ 19 = 10000000000000000000 := by decide
        omega
      obtain ⟨K, hK⟩ := ih (n / 10) (by omega) hn
      refine ⟨K + 1, fun k hk => ?_⟩
      obtain ⟨k, rfl⟩ : ∃ k', k = k' + 1 := ⟨k - 1, by omega⟩
      have e1 : wrap64 (Int.tdiv (n : Int) 10) = ((n / 10 : Nat) : Int) := by
        rw [Int.tdiv_eq_ediv_of_nonneg (by omega), w64 _ (by omega) (by omega)]
        omega
      have e2 : Int.tmod (n : Int) 10 = ((n % 10 : Nat) : Int) := by
        rw [Int.tmod_eq_emod_of_nonneg (by omega)]
        omega
      have hlen := numL_len d (n / 10) hn
      have hK' : spec_l1Num.f k ((n / 10 : Nat) : Int) = some (mkB (numL ((n / 10 : Nat) : Int))) := hK k (by omega)
      simp only [spec_l1Num.f, e1, e2]
      rw [if_neg (by omega), hK']
      simp only [Option.bind_some]
      rw [strOf1 _ (by omega), mkB_size, mkB_size, if_pos (by simp only [numL, List.length_singleton, Int.toNat_natCast]; omega), mkB_append]
      have e3 : numL ((n / 10 : Nat) : Int) ++ [UInt8.ofNat (48 + (((n % 10 : Nat) : Int)).toNat)] = numL (n : Int) := by
        unfold numL
        simp only [Int.toNat_natCast]
        have := Lib.decDigits.eq_1 n
        rw [this, dif_neg (by omega)]
      rw [e3]
/-! texts taken apart at '-' -/
def spl : List UInt8 → List UInt8 → List (List UInt8)
  | [], c => [c]
  | b :: l, c => if b = 45 then c :: spl l [] else spl l (c ++ [b])
theorem spl_none : ∀ (l c : List UInt8), (45 : UInt8) ∉ l → spl l c = [c ++ l]
  | [], c, _ => by simp [spl]
  | b :: l, c, h => by
    have hb : b ≠ 45 := fun e => h (by simp [e])
    rw [spl, if_neg hb, spl_none l (c ++ [b]) (fun e => h (by simp [e]))]
    simp
theorem spl_hit : ∀ (a c b : List UInt8), (45 : UInt8) ∉ a → spl (a ++ 45 :: b) c = (c ++ a) :: spl b []
  | [], c, b, _ => by simp [spl]
  | x :: a, c, b, h => by
    have hx : x ≠ 45 := fun e => h (by simp [e])
    rw [List.cons_append, spl, if_neg hx, spl_hit a (c ++ [x]) b (fun e => h (by simp [e]))]
    simp
theorem spl_len : ∀ (l c : List UInt8), (spl l c).length ≤ l.length + 1
  | [], c => by simp [spl]
  | b :: l, c => by
    unfold spl
    split
    · have := spl_len l []
      simp only [List.length_cons]; omega
    · have := spl_len l (c ++ [b])
      simp only [List.length_cons]; omega
theorem mkB_extract (l : List UInt8) (i j : Nat) : (mkB l).extract i j = mkB ((l.take j).drop i) := by
  apply ByteArray.ext
  simp [mkB, ByteArray.data_extract, List.drop_take]
theorem mkB_get (l : List UInt8) (i : Nat) (h : i < l.length) : bt (mkB l) (i : Int) = (l[i].toNat : Int) := by
  unfold bt
  rw [dif_pos (by rw [mkB_size]; simpa using h)]
  have : ((mkB l)[((i : Int)).toNat]'(by rw [mkB_size]; simpa using h)) = l[i] := by
    show ((mkB l).data[((i : Int)).toNat]'_) = l[i]
    simp [mkB]
  rw [this]
/-- The library's pieces are these. -/
theorem splitB_spl : ∀ (k : Nat) (L : List UInt8), Lib.countB (mkB L) (mkB [45]) = k → Lib.splitB (mkB [45]) 0 k (mkB L) = (spl L []).map mkB := by
  intro k
  induction k with
  | zero =>
    intro L hk
    rw [Lib.splitB_zero]
    have hno : (45 : UInt8) ∉ L := by
      intro hm
      rcases Lib.indexB_cases (mkB L) (mkB [45]) with hix | ⟨i, hix, _⟩
      · have hix' : Lib.index L [45] = -1 := by simpa [Lib.indexB, mkB_toList] using hix
        rw [Lib.index_one] at hix'
        obtain ⟨j, hj, e⟩ := List.mem_iff_getElem.mp hm
        exact Lib.indexByte_none hix' j (by rw [List.getElem?_eq_getElem hj, e])
      · have := Lib.countB_hit (mkB L) (mkB [45]) i (by rw [mkB_size]; simp) hix
        omega
    rw [spl_none L [] hno]
    simp
  | succ k ih =>
    intro L hk
    rcases Lib.indexB_cases (mkB L) (mkB [45]) with hix | ⟨i, hix, hroom⟩
    · rw [Lib.countB_miss _ _ hix] at hk; omega
    · have hc := Lib.countB_hit (mkB L) (mkB [45]) i (by rw [mkB_size]; simp) hix
      rw [Lib.splitB_hit _ _ _ _ i hix]
      have hix' : Lib.index L [45] = (i : Int) := by simpa [Lib.indexB, mkB_toList] using hix
      rw [Lib.index_one] at hix'
      obtain ⟨h1, h2⟩ := Lib.indexByte_some hix'
      have hl : i < L.length := by
        rw [List.getElem?_eq_some_iff] at h1
        exact h1.1
      have e45 : L[i] = 45 := by
        rw [List.getElem?_eq_getElem hl] at h1
        exact Option.some.inj h1
      have eL : L = L.take i ++ 45 :: L.drop (i + 1) := by
        conv => lhs; rw [← List.take_append_drop i L, List.drop_eq_getElem_cons hl, e45]
      have hno : (45 : UInt8) ∉ L.take i := by
        intro hm
        obtain ⟨j, hj, e⟩ := List.mem_iff_getElem.mp hm
        simp only [List.length_take] at hj
        refine h2 j (by omega) ?_
        rw [List.getElem_take] at e
        rw [List.getElem?_eq_getElem (by omega), e]
      have s1 : (mkB [45]).size = 1 := by rw [mkB_size]; rfl
      rw [s1] at hc ⊢
      have x1 : (mkB L).extract 0 (i + 0) = mkB (L.take i) := by rw [mkB_extract]; simp
      have x2 : (mkB L).extract (i + 1) (mkB L).size = mkB (L.drop (i + 1)) := by rw [mkB_extract, mkB_size]; simp
      rw [x2] at hc
      rw [x1, x2, ih (L.drop (i + 1)) (by omega)]
      conv => rhs; rw [eL, spl_hit _ _ _ hno]
      simp
theorem strings_Split.is (L : List UInt8) (h : L.length ≤ 1048576) : strings_Split.f (mkB L) (⟨#[45]⟩ : ByteArray) = some ((spl L []).map mkB) := by
  unfold strings_Split.f
  have e : (⟨#[45]⟩ : ByteArray) = mkB [45] := rfl
  rw [e, if_pos ⟨by rw [mkB_size]; omega, by rw [mkB_size]; simp⟩, splitB_spl _ _ rfl]
theorem cut_mid (pre cur rest : List UInt8) : List.drop pre.length (List.take (pre.length + cur.length) (pre ++ cur ++ rest)) = cur := by
  rw [← List.length_append, List.take_left, List.drop_left]
theorem spec_l1Split.l0ev (L : List UInt8) (hL : L.length ≤ 1048576) : ∀ (rest pre cur : List UInt8) (acc : List ByteArray), L = pre ++ cur ++ rest → acc.length + rest.length ≤ 1048577 →
    Ev (fun k => spec_l1Split.l0 k (mkB L) 45 acc (pre.length : Int) ((pre.length + cur.length : Nat) : Int)) (acc ++ (spl rest cur).map mkB) := by
  intro rest
  induction rest with
  | nil =>
    intro pre cur acc e ha
    have hsz : (mkB L).size = pre.length + cur.length := by rw [mkB_size, e]; simp
    have hx : (mkB L).extract pre.length (mkB L).size = mkB cur := by
      rw [hsz, mkB_extract, e, cut_mid]
    refine Ev.step (f := fun _ => some (acc ++ [mkB cur])) (fun k => ?_) (by simpa [spl] using Ev.now _)
    simp only [spec_l1Split.l0]
    rw [if_neg (by omega), if_pos (by omega), if_pos (by omega), if_pos (by omega), show ((pre.length : Int)).toNat = pre.length by omega, hx]
  | cons b rest ih =>
    intro pre cur acc e ha
    have hsz : (mkB L).size = pre.length + cur.length + (rest.length + 1) := by rw [mkB_size, e]; simp; omega
    have hl : L.length = pre.length + cur.length + (rest.length + 1) := by rw [e]; simp; omega
    have hg : bt (mkB L) ((pre.length + cur.length : Nat) : Int) = (b.toNat : Int) := by
      rw [mkB_get L (pre.length + cur.length) (by omega)]
      have : L[pre.length + cur.length]'(by omega) = b := by
        simp only [e]
        rw [List.getElem_append_right (by simp)]
        simp
      rw [this]
    have e1 : wrap64 (((pre.length + cur.length : Nat) : Int) + 1) = ((pre.length + cur.length + 1 : Nat) : Int) := by rw [w64 _ (by omega) (by omega)]; omega
    simp only [List.length_cons] at ha
    by_cases hb : b = 45
    · subst hb
      have hx : (mkB L).extract pre.length (pre.length + cur.length) = mkB cur := by
        rw [mkB_extract, e, cut_mid]
      have h := ih (pre ++ cur ++ [45]) [] (acc ++ [mkB cur]) (by rw [e]; simp) (by simp; omega)
      have en : (((pre ++ cur ++ [45]).length + ([] : List UInt8).length : Nat) : Int) = ((pre.length + cur.length + 1 : Nat) : Int) := by simp; omega
      have em : (((pre ++ cur ++ [45] : List UInt8).length : Nat) : Int) = ((pre.length + cur.length + 1 : Nat) : Int) := by simp; omega
      rw [en, em] at h
      refine Ev.step (f := fun k => spec_l1Split.l0 k (mkB L) 45 (acc ++ [mkB cur]) ((pre.length + cur.length + 1 : Nat) : Int) ((pre.length + cur.length + 1 : Nat) : Int)) (fun k => ?_) (by simpa [spl] using h)
      simp only [spec_l1Split.l0, hg, e1]
      rw [if_pos (by omega), if_pos (by omega), if_pos (by decide), if_pos (by omega), if_pos (by omega), if_pos (by omega), if_pos (by omega), show ((pre.length : Int)).toNat = pre.length by omega, show (((pre.length + cur.length : Nat) : Int)).toNat = pre.length + cur.length by omega, hx]
    · have h := ih pre (cur ++ [b]) acc (by rw [e]; simp) (by omega)
      have en : ((pre.length + (cur ++ [b]).length : Nat) : Int) = ((pre.length + cur.length + 1 : Nat) : Int) := by simp; omega
      rw [en] at h
      refine Ev.step (f := fun k => spec_l1Split.l0 k (mkB L) 45 acc (pre.length : Int) ((pre.length + cur.length + 1 : Nat) : Int)) (fun k => ?_) (by rw [spl, if_neg hb]; exact h)
      have hne : ¬ ((b.toNat : Int) = 45) := by
        intro h45
        apply hb
        have : b.toNat = 45 := by omega
        exact UInt8.toNat_inj.mp (by rw [this]; rfl)
      simp only [spec_l1Split.l0, hg, e1]
      rw [if_pos (by omega), if_pos (by omega), if_neg hne]
theorem spec_l1Split.ev (L : List UInt8) (hL : L.length ≤ 1048576) : Ev (fun k => spec_l1Split.f k (mkB L) 45) ((spl L []).map mkB) := by
  have h := spec_l1Split.l0ev L hL L [] [] [] (by simp) (by simp; omega)
  simpa [spec_l1Split.f] using h
/-! and put together -/
def jt : List (List UInt8) → List UInt8
  | [] => []
  | p :: ps => 45 :: p ++ jt ps
def jn : List (List UInt8) → List UInt8
  | [] => []
  | p :: ps => p ++ jt ps
theorem spl_ne : ∀ (l c : List UInt8), spl l c ≠ []
  | [], c => by simp [spl]
  | b :: l, c => by
    unfold spl
    split
    · simp
    · exact spl_ne l _
theorem jt_jn {ps : List (List UInt8)} (h : ps ≠ []) : jt ps = 45 :: jn ps := by
  cases ps with
  | nil => exact absurd rfl h
  | cons p ps => rfl
theorem jn_spl : ∀ (l c : List UInt8), jn (spl l c) = c ++ l
  | [], c => by simp [spl, jn, jt]
  | b :: l, c => by
    unfold spl
    split
    · rename_i hb
      rw [jn, jt_jn (spl_ne l []), jn_spl l [], hb]
      simp
    · rw [jn_spl l (c ++ [b])]
      simp
theorem spec_l1In.is (x a b : Int) : spec_l1In.f x a b = some (decide (a ≤ x) && decide (x ≤ b)) := by
  unfold spec_l1In.f
  by_cases h : x ≥ a
  · simp [h, show a ≤ x from h]
  · simp [h, show ¬ a ≤ x from h]
/-- A doubling of two different heaps among four. -/
def isD (d : S52) : Bool := (decide (0 ≤ d.f0) && decide (d.f0 ≤ 3)) && ((decide (0 ≤ d.f1) && decide (d.f1 ≤ 3)) && !decide (d.f0 = d.f1))
def areD (l : List S52) : Bool := decide ((l.length : Int) ≤ 100) && l.all isD
def pieceD (d : S52) : List UInt8 := numL d.f0 ++ numL d.f1
def tailD : List S52 → List UInt8
  | [] => []
  | d :: ds => 45 :: pieceD d ++ tailD ds
def textD : List S52 → List UInt8
  | [] => []
  | d :: ds => pieceD d ++ tailD ds
theorem rdD_appT (done : List S52) (x : S52) (xs : List S52) : rd_T52 (done ++ x :: xs) (done.length : Int) = x := by simp [rd_T52]
theorem spec_dbList.l0ev (n : Int) (hn : n ≤ 1048576) : ∀ (tl done : List S52), ((done ++ tl).length : Int) = n → Ev (fun k => spec_dbList.l0 k (done ++ tl) n done.length) (tl.all isD) := by
  intro tl
  induction tl with
  | nil =>
    intro done hd
    refine Ev.step (f := fun _ => some true) (fun k => ?_) (by simpa using Ev.now true)
    simp only [spec_dbList.l0]
    simp at hd
    rw [if_neg (by omega)]
  | cons d ds ih =>
    intro done hd
    have hd' : (done.length : Int) + (ds.length + 1) = n := by simpa using hd
    have h := ih (done ++ [d]) (by simp; omega)
    by_cases c1 : (decide (0 ≤ d.f0) && decide (d.f0 ≤ 3)) = true
    · by_cases c2 : (decide (0 ≤ d.f1) && decide (d.f1 ≤ 3)) = true
      · by_cases c3 : d.f0 = d.f1
        · have e : (d :: ds).all isD = false := by simp [isD, c3]
          refine Ev.step (f := fun _ => some false) (fun k => ?_) (by rw [e]; exact Ev.now _)
          simp only [spec_dbList.l0, rdD_appT, spec_l1In.is, c1, c2, Option.bind_some, if_true]
          rw [if_pos (by omega), if_pos (by omega), if_pos (by simp; omega), if_pos c3]
        · have e : (d :: ds).all isD = ds.all isD := by
            have : isD d = true := by unfold isD; rw [c1, c2]; simp [c3]
            simp [this]
          refine Ev.step (f := fun k => spec_dbList.l0 k (done ++ [d] ++ ds) n ((done ++ [d]).length : Int)) (fun k => ?_) (by rw [e]; exact h)
          simp only [spec_dbList.l0, rdD_appT, spec_l1In.is, c1, c2, Option.bind_some, if_true]
          rw [if_pos (by omega), if_pos (by omega), if_pos (by simp; omega), if_neg c3, w64s done.length (by omega)]
          simp
      · have e : (d :: ds).all isD = false := by
          have : isD d = false := by unfold isD; simp only [Bool.not_eq_true] at c2; rw [c2]; simp
          simp [this]
        refine Ev.step (f := fun _ => some false) (fun k => ?_) (by rw [e]; exact Ev.now _)
        simp only [spec_dbList.l0, rdD_appT, spec_l1In.is, c1, Option.bind_some, if_true]
        rw [if_pos (by omega), if_pos (by omega), if_pos (by simp; omega), if_neg c2]
    · have e : (d :: ds).all isD = false := by
        have : isD d = false := by unfold isD; simp only [Bool.not_eq_true] at c1; rw [c1]; simp
        simp [this]
      refine Ev.step (f := fun _ => some false) (fun k => ?_) (by rw [e]; exact Ev.now _)
      simp only [spec_dbList.l0, rdD_appT, spec_l1In.is, Option.bind_some]
      rw [if_pos (by omega), if_pos (by omega), if_pos (by simp; omega), if_neg c1]
theorem spec_dbList.ev (l : List S52) (hl : l.length ≤ 1048576) : Ev (fun k => spec_dbList.f k l) (areD l) := by
  unfold spec_dbList.f areD
  by_cases c : (l.length : Int) > 100
  · rw [show decide ((l.length : Int) ≤ 100) = false from decide_eq_false (by omega)]
    simp only [if_pos c, Bool.false_and]
    exact Ev.now _
  · rw [show decide ((l.length : Int) ≤ 100) = true from decide_eq_true (by omega)]
    simp only [if_neg c, Bool.true_and]
    have := spec_dbList.l0ev l.length (by omega) l [] (by simp)
    simpa using this
theorem isD_in {d : S52} (h : isD d = true) : (0 ≤ d.f0 ∧ d.f0 ≤ 3) ∧ 0 ≤ d.f1 ∧ d.f1 ≤ 3 := by
  simp [isD] at h
  omega
theorem num3 {x : Int} (h : 0 ≤ x ∧ x ≤ 3) : numL x = [UInt8.ofNat (48 + x.toNat)] := by
  unfold numL
  rw [Lib.decDigits, dif_pos (by omega)]
theorem num3_ev {x : Int} (h : 0 ≤ x ∧ x ≤ 3) : Ev (fun k => spec_l1Num.f k x) (mkB (numL x)) := by
  obtain ⟨n, rfl⟩ := Int.eq_ofNat_of_zero_le h.1
  exact spec_l1Num.ev 0 n (by omega) (by simp; omega)
theorem spec_dbText.l0ev (n : Int) (hn : n ≤ 100) : ∀ (tl done : List S52) (a : List UInt8), ((done ++ tl).length : Int) = n → (∀ d ∈ tl, isD d = true) → a.length ≤ 3 * done.length →
    Ev (fun k => spec_dbText.l0 k (mkB a) (done ++ tl) n done.length) (mkB (a ++ if done = [] then textD tl else tailD tl)) := by
  intro tl
  induction tl with
  | nil =>
    intro done a hd _ _
    refine Ev.step (f := fun _ => some (mkB a)) (fun k => ?_) ?_
    · simp only [spec_dbText.l0]
      simp at hd
      rw [if_neg (by omega)]
    · have : (if done = [] then textD [] else tailD []) = [] := by split <;> rfl
      rw [this, List.append_nil]
      exact Ev.now _
  | cons d ds ih =>
    intro done a hd hall ha
    have hd' : (done.length : Int) + (ds.length + 1) = n := by simpa using hd
    have hD := isD_in (hall d (by simp))
    obtain ⟨K1, h1⟩ := num3_ev hD.1
    obtain ⟨K2, h2⟩ := num3_ev hD.2
    have l1 : (numL d.f0).length = 1 := by rw [num3 hD.1]; rfl
    have l2 : (numL d.f1).length = 1 := by rw [num3 hD.2]; rfl
    have s45 : (⟨#[45]⟩ : ByteArray) = mkB [45] := rfl
    by_cases z : done = []
    · subst z
      obtain ⟨K3, h3⟩ := ih [d] (a ++ (numL d.f0 ++ numL d.f1)) (by simpa using hd) (fun x hx => hall x (by simp [hx])) (by simp only [List.length_append, List.length_nil, List.length_singleton] at ha ⊢; omega)
      refine ⟨K1 + K2 + K3 + 1, fun k hk => ?_⟩
      obtain ⟨k, rfl⟩ : ∃ k', k = k' + 1 := ⟨k - 1, by omega⟩
      simp only [spec_dbText.l0, rdD_appT, h1 k (by omega), h2 k (by omega), Option.bind_some]
      rw [if_pos (by simp only [List.length_nil]; omega), if_pos (by simp), if_pos (by simp), if_neg (by simp), if_pos (by rw [mkB_size, mkB_size]; omega), mkB_append, if_pos (by rw [mkB_size, mkB_size]; simp only [List.length_append, List.length_nil] at ha ⊢; omega), mkB_append, w64s _ (by simp)]
      have := h3 k (by omega)
      simpa [textD, pieceD] using this
    · have zl : 0 < done.length := List.length_pos_iff.mpr z
      obtain ⟨K3, h3⟩ := ih (done ++ [d]) (a ++ [45] ++ (numL d.f0 ++ numL d.f1)) (by simpa using hd) (fun x hx => hall x (by simp [hx])) (by simp only [List.length_append, List.length_singleton] at ha ⊢; omega)
      refine ⟨K1 + K2 + K3 + 1, fun k hk => ?_⟩
      obtain ⟨k, rfl⟩ : ∃ k', k = k' + 1 := ⟨k - 1, by omega⟩
      simp only [spec_dbText.l0, rdD_appT, h1 k (by omega), h2 k (by omega), Option.bind_some]
      rw [if_pos (by omega), if_pos (by omega), if_pos (by simp; omega), if_pos (by omega), s45, if_pos (by rw [mkB_size]; omega), if_pos (by rw [mkB_size, mkB_size]; omega), mkB_append, mkB_append, if_pos (by rw [mkB_size, mkB_size]; simp only [List.length_append, List.length_singleton]; omega), mkB_append, w64s _ (by omega)]
      have := h3 k (by omega)
      rw [if_neg (by simp)] at this
      rw [if_neg z]
      simpa [tailD, pieceD] using this
theorem impl_areDoublings.is (l : List S52) : impl_areDoublings.f l = some (areD l) := by
  unfold impl_areDoublings.f areD
  have e : ∀ d : S52, impl_areDoublings.bad d = !isD d := by
    intro d
    unfold impl_areDoublings.bad isD
    cases (decide (0 ≤ d.f0) && decide (d.f0 ≤ 3)) <;> cases (decide (0 ≤ d.f1) && decide (d.f1 ≤ 3)) <;> cases decide (d.f0 = d.f1) <;> rfl
  have e2 : (!(l.any impl_areDoublings.bad)) = l.all isD := by
    rw [List.not_any_eq_all_not]
    congr 1
    funext d
    rw [e, Bool.not_not]
  by_cases c : (l.length : Int) ≤ 100
  · rw [if_pos c, e2, decide_eq_true c, Bool.true_and]
  · rw [if_neg c, decide_eq_false c, Bool.false_and]
theorem rdS_at (done : List (List UInt8)) (p : List UInt8) (ps : List (List UInt8)) : rdOf ByteArray.empty ((done ++ p :: ps).map mkB) (done.length : Int) = mkB p := by
  simp [rdOf, List.getD_eq_getElem?_getD]
def toD (p : List UInt8) : S52 := ⟨((p.getD 0 0).toNat : Int) - 48, ((p.getD 1 0).toNat : Int) - 48⟩
theorem toD_at {p : List UInt8} (h : p.length = 2) : (⟨wrap64 ((wrap64 (bt (mkB p) 0)) - 48), wrap64 ((wrap64 (bt (mkB p) 1)) - 48)⟩ : S52) = toD p := by
  have h0 := mkB_get p 0 (by omega)
  have h1 := mkB_get p 1 (by omega)
  rw [show ((0 : Nat) : Int) = 0 from rfl] at h0
  rw [show ((1 : Nat) : Int) = 1 from rfl] at h1
  have l0 := (p[0]'(by omega)).toNat_lt
  have l1 := (p[1]'(by omega)).toNat_lt
  rw [h0, h1, w64 (((p[0]'(by omega)).toNat : Nat) : Int) (by omega) (by omega), w64 (((p[1]'(by omega)).toNat : Nat) : Int) (by omega) (by omega), w64 _ (by omega) (by omega), w64 _ (by omega) (by omega)]
  unfold toD
  simp [List.getD_eq_getElem?_getD, List.getElem?_eq_getElem (show 0 < p.length by omega), List.getElem?_eq_getElem (show 1 < p.length by omega)]
def two (p : List UInt8) : Bool := decide (p.length = 2)
theorem spec_ParseDoublings.l0ev (s : ByteArray) (n : Int) (hn : n ≤ 1048577) {v : List S52 × Bool} : ∀ (tl done : List (List UInt8)) (acc : List S52), ((done ++ tl).length : Int) = n → acc.length = done.length →
    (if tl.all two = true then Ev (fun k => spec_ParseDoublings.j1 k s (acc ++ tl.map toD)) v else v = ([], false)) → Ev (fun k => spec_ParseDoublings.l0 k s acc ((done ++ tl).map mkB) n done.length) v := by
  intro tl
  induction tl with
  | nil =>
    intro done acc hd ha H
    simp only [List.all_nil, if_true, List.map_nil, List.append_nil] at H
    refine Ev.step (f := fun k => spec_ParseDoublings.j1 k s acc) (fun k => ?_) H
    simp only [spec_ParseDoublings.l0]
    simp at hd
    rw [if_neg (by omega)]
  | cons p ps ih =>
    intro done acc hd ha H
    have hd' : (done.length : Int) + (ps.length + 1) = n := by simpa using hd
    by_cases h2 : p.length = 2
    · have h := ih (done ++ [p]) (acc ++ [toD p]) (by simpa using hd) (by simp [ha]) (by
        simpa [two, h2] using H)
      refine Ev.step (f := fun k => spec_ParseDoublings.l0 k s (acc ++ [toD p]) ((done ++ [p] ++ ps).map mkB) n ((done ++ [p]).length : Int)) (fun k => ?_) h
      simp only [spec_ParseDoublings.l0, rdS_at, mkB_size, h2, toD_at h2]
      rw [if_pos (by omega), if_pos (by omega), if_pos (by simp; omega), if_pos (by decide), if_pos (by decide), if_pos (by decide), if_pos (by omega), w64s done.length (by omega)]
      simp
    · have hv : v = ([], false) := by
        have : (p :: ps).all two = false := by simp [two, h2]
        rw [this] at H
        simpa using H
      subst hv
      refine Ev.step (f := fun _ => some ([], false)) (fun k => ?_) (Ev.now _)
      simp only [spec_ParseDoublings.l0, rdS_at, mkB_size]
      rw [if_pos (by omega), if_pos (by omega), if_pos (by simp; omega), if_neg (by omega)]
theorem impl_ParseDoublings.l0ev (n : Int) (hn : n ≤ 1048577) : ∀ (tl done : List (List UInt8)) (acc : List S52), ((done ++ tl).length : Int) = n → acc.length = done.length →
    Ev (fun k => impl_ParseDoublings.l0 k acc ((done ++ tl).map mkB) n done.length) (if tl.all two = true ∧ areD (acc ++ tl.map toD) = true then (acc ++ tl.map toD, true) else ([], false)) := by
  intro tl
  induction tl with
  | nil =>
    intro done acc hd ha
    simp only [List.all_nil, List.map_nil, List.append_nil, true_and]
    simp at hd
    by_cases c : areD acc = true
    · rw [if_pos c]
      refine Ev.step (f := fun _ => some (acc, true)) (fun k => ?_) (Ev.now _)
      simp only [impl_ParseDoublings.l0, impl_areDoublings.is, c, Option.bind_some, if_true]
      rw [if_neg (by omega)]
    · rw [if_neg c]
      refine Ev.step (f := fun _ => some ([], false)) (fun k => ?_) (Ev.now _)
      simp only [impl_ParseDoublings.l0, impl_areDoublings.is, Option.bind_some]
      rw [if_neg (by omega), if_neg c]
  | cons p ps ih =>
    intro done acc hd ha
    have hd' : (done.length : Int) + (ps.length + 1) = n := by simpa using hd
    by_cases h2 : p.length = 2
    · have h := ih (done ++ [p]) (acc ++ [toD p]) (by simpa using hd) (by simp [ha])
      refine Ev.step (f := fun k => impl_ParseDoublings.l0 k (acc ++ [toD p]) ((done ++ [p] ++ ps).map mkB) n ((done ++ [p]).length : Int)) (fun k => ?_) (by simpa [two, h2] using h)
      simp only [impl_ParseDoublings.l0, rdS_at, mkB_size, h2, toD_at h2]
      rw [if_pos (by omega), if_pos (by omega), if_pos (by simp; omega), if_pos (by decide), if_pos (by decide), if_pos (by decide), if_pos (by omega), w64s done.length (by omega)]
      simp
    · rw [if_neg (by simp [two, h2])]
      refine Ev.step (f := fun _ => some ([], false)) (fun k => ?_) (Ev.now _)
      simp only [impl_ParseDoublings.l0, rdS_at, mkB_size]
      rw [if_pos (by omega), if_pos (by omega), if_pos (by simp; omega), if_neg (by omega)]
theorem piece_toD {p : List UInt8} (h2 : p.length = 2) (h : isD (toD p) = true) : pieceD (toD p) = p := by
  have hD := isD_in h
  match p, h2 with
  | [a, b], _ =>
    unfold pieceD
    rw [num3 hD.1, num3 hD.2]
    simp only [toD, List.getD_cons_zero, List.getD_cons_succ] at hD ⊢
    have ea : UInt8.ofNat (48 + ((a.toNat : Int) - 48).toNat) = a := by
      rw [show 48 + ((a.toNat : Int) - 48).toNat = a.toNat by omega]
      exact UInt8.ofNat_toNat
    have eb : UInt8.ofNat (48 + ((b.toNat : Int) - 48).toNat) = b := by
      rw [show 48 + ((b.toNat : Int) - 48).toNat = b.toNat by omega]
      exact UInt8.ofNat_toNat
    rw [ea, eb]
    rfl
theorem tail_toD : ∀ (ps : List (List UInt8)), (∀ p ∈ ps, p.length = 2) → (∀ d ∈ ps.map toD, isD d = true) → tailD (ps.map toD) = jt ps
  | [], _, _ => rfl
  | p :: ps, h2, h => by
    rw [List.map_cons, tailD, jt, piece_toD (h2 p (by simp)) (h _ (by simp)), tail_toD ps (fun q hq => h2 q (by simp [hq])) (fun d hd => h d (by simp only [List.map_cons, List.mem_cons]; exact Or.inr hd))]
theorem text_toD (ps : List (List UInt8)) (h2 : ∀ p ∈ ps, p.length = 2) (h : ∀ d ∈ ps.map toD, isD d = true) : textD (ps.map toD) = jn ps := by
  cases ps with
  | nil => rfl
  | cons p ps =>
    rw [List.map_cons, textD, jn, piece_toD (h2 p (by simp)) (h _ (by simp)), tail_toD ps (fun q hq => h2 q (by simp [hq])) (fun d hd => h d (by simp only [List.map_cons, List.mem_cons]; exact Or.inr hd))]
theorem jt_len : ∀ (ps : List (List UInt8)), (∀ p ∈ ps, p.length = 2) → (jt ps).length = 3 * ps.length
  | [], _ => rfl
  | p :: ps, h => by
    have h1 := h p (by simp)
    have := jt_len ps (fun q hq => h q (by simp [hq]))
    simp only [jt, List.length_append, List.length_cons, this, h1]
    omega
theorem jn_len (ps : List (List UInt8)) (h : ∀ p ∈ ps, p.length = 2) : (jn ps).length + 1 = 3 * ps.length ∨ ps = [] := by
  cases ps with
  | nil => exact Or.inr rfl
  | cons p ps =>
    have h1 := h p (by simp)
    have := jt_len ps (fun q hq => h q (by simp [hq]))
    simp only [jn, List.length_append, List.length_cons, this, h1]
    omega
theorem both_ParseDoublings (L : List UInt8) (hL : L.length ≤ 1048576) : ∃ v : List S52 × Bool, v.1.length ≤ 1048576 ∧ Ev (fun k => spec_ParseDoublings.f k (mkB L)) v ∧ Ev (fun k => impl_ParseDoublings.f k (mkB L)) v := by
  by_cases h0 : L = []
  · subst h0
    refine ⟨([], true), by simp, ?_, ?_⟩
    · unfold spec_ParseDoublings.f
      simp only [mkB_size, List.length_nil]
      rw [show ((0 : Nat) : Int) = 0 from rfl]
      simp only [show ¬ ((0 : Int) > 300) by omega, show ¬ ((0 : Int) > 0) by omega, if_false]
      have hx := spec_dbList.ev [] (by simp)
      have ht : Ev (fun k => spec_dbText.f k []) (mkB []) := by
        have := spec_dbText.l0ev 0 (by omega) [] [] [] (by simp) (by simp) (by simp)
        simp only [if_true, List.nil_append, List.length_nil] at this
        exact this
      refine Ev.step (f := fun k => (spec_dbList.f k []).bind fun t131 => (if t131 = true then ((spec_dbText.f k []).bind fun t132 => (if t132.toList = (mkB []).toList then (some (([] : List S52), true)) else (some (([] : List S52), false)))) else (some (([] : List S52), false)))) (fun k => by simp only [spec_ParseDoublings.j1]) ?_
      refine Ev.bind hx ?_
      rw [show areD [] = true from rfl]
      simp only [if_true]
      refine Ev.bind ht ?_
      simp only [if_true]
      exact Ev.now _
    · unfold impl_ParseDoublings.f
      have : (mkB []).toList = ([] : List UInt8) := by rw [ByteArray.toList_eq, mkB_toList]
      simp only [this, if_true]
      exact Ev.now _
  · have hne : ¬ (mkB L).toList = ([] : List UInt8) := by
      rw [ByteArray.toList_eq]
      rw [mkB_toList]
      exact h0
    have hpos : 0 < L.length := List.length_pos_iff.mpr h0
    have hs := strings_Split.is L hL
    have hsp := spec_l1Split.ev L hL
    have hjn := jn_spl L []
    have hlen := spl_len L []
    generalize spl L [] = P at hs hsp hjn hlen
    rw [List.nil_append] at hjn
    have him := impl_ParseDoublings.l0ev P.length (by omega) P [] [] (by simp) rfl
    simp only [List.nil_append] at him
    refine ⟨if P.all two = true ∧ areD (P.map toD) = true then (P.map toD, true) else ([], false), ?_, ?_, ?_⟩
    · split
      · rename_i hc
        have : ((P.map toD).length : Int) ≤ 100 := by
          have := hc.2
          simp [areD] at this
          simpa using this.1
        show (P.map toD).length ≤ 1048576
        omega
      · simp
    · unfold spec_ParseDoublings.f
      rw [mkB_size]
      by_cases big : (L.length : Int) > 300
      · simp only [if_pos big]
        rw [if_neg]
        · exact Ev.now _
        · rintro ⟨hc1, hc2⟩
          have h2 : ∀ p ∈ P, p.length = 2 := by simpa [two] using hc1
          have hl := jn_len P h2
          have : ((P.map toD).length : Int) ≤ 100 := by
            simp [areD] at hc2
            simpa using hc2.1
          rw [List.length_map] at this
          rw [hjn] at hl
          rcases hl with hl | hl
          · omega
          · subst hl
            simp [jn] at hjn
            exact h0 hjn
      · simp only [if_neg big, if_pos (show (L.length : Int) > 0 by omega)]
        refine Ev.bind hsp ?_
        have hll : (((P.map mkB).length : Nat) : Int) = P.length := by simp
        rw [hll]
        refine spec_ParseDoublings.l0ev (mkB L) P.length (by omega) P [] [] (by simp) rfl ?_
        by_cases ht : P.all two = true
        · rw [if_pos ht, List.nil_append]
          have h2 : ∀ p ∈ P, p.length = 2 := by simpa [two] using ht
          refine Ev.step (f := fun k => (spec_dbList.f k (P.map toD)).bind fun t131 => (if t131 = true then ((spec_dbText.f k (P.map toD)).bind fun t132 => (if t132.toList = (mkB L).toList then (some (P.map toD, true)) else (some (([] : List S52), false)))) else (some (([] : List S52), false)))) (fun k => by simp only [spec_ParseDoublings.j1]) ?_
          refine Ev.bind (spec_dbList.ev (P.map toD) (by simp; omega)) ?_
          by_cases ha : areD (P.map toD) = true
          · rw [if_pos ⟨ht, ha⟩]
            simp only [ha, if_true]
            have h100 : ((P.map toD).length : Int) ≤ 100 := by simp [areD] at ha; simpa using ha.1
            have hall : ∀ d ∈ P.map toD, isD d = true := by
              intro d hd
              unfold areD at ha
              rw [Bool.and_eq_true] at ha
              exact (List.all_eq_true.mp ha.2) d hd
            have htx := spec_dbText.l0ev (P.map toD).length h100 (P.map toD) [] [] (by simp) hall (by simp)
            simp only [if_true, List.nil_append, List.length_nil] at htx
            rw [text_toD P h2 hall, hjn] at htx
            refine Ev.bind (a := mkB L) htx ?_
            simp only [if_true]
            exact Ev.now _
          · rw [if_neg (fun hc => ha hc.2)]
            simp only [ha]
            exact Ev.now _
        · rw [if_neg ht, if_neg (fun hc => ht hc.1)]
    · unfold impl_ParseDoublings.f
      simp only [if_neg hne, hs, Option.bind_some]
      have hll : (((P.map mkB).length : Nat) : Int) = P.length := by simp
      rw [hll]
      simpa using him
theorem FnExactParseDoublings : laws_FnExactParseDoublings.Pure := by
  intro s _
  by_cases hl : (s.size : Int) > 1048576
  · exact ⟨0, by unfold laws_FnExactParseDoublings.f; rw [if_pos hl]⟩
  obtain ⟨L, rfl⟩ : ∃ L, s = mkB L := ⟨s.data.toList, by simp [mkB]⟩
  have hL : L.length ≤ 1048576 := by rw [mkB_size] at hl; omega
  obtain ⟨v, hv, ⟨K2, h2⟩, ⟨K3, h3⟩⟩ := both_ParseDoublings L hL
  obtain ⟨v, b⟩ := v
  simp only at hv
  obtain ⟨K5, h5⟩ := laws_eqDoublingS.ev v hv
  obtain ⟨K7, h7⟩ := laws_markDoublingS.ev v hv 1 (by omega) (by omega)
  obtain ⟨K8, h8⟩ := laws_heldDoublingS.ev v hv
  dsimp only at h2 h3 h5 h7 h8
  refine ⟨K2 + K3 + K5 + K7 + K8 + 1 + 1, ?_⟩
  have c2 : ¬ (1 + 2 * (v.length : Int) < 0) := by omega
  simp (disch := omega) only [laws_FnExactParseDoublings.f, if_neg hl, h2, h3, h5, Option.bind_some, bne_self_eq_false, if_true]
  simp (disch := omega) only [laws_FnExactParseDoublings.j0, h3, h5, h7, h8, Option.bind_some, bne_self_eq_false, Bool.false_eq_true, if_true, if_false, if_neg c2]
  simp (disch := omega) only [laws_FnExactParseDoublings.j1, h8, Option.bind_some, Bool.false_eq_true, if_true, if_false, if_neg c2]

end Go.Proofs.YtdlalgciieickaaDoor.Pure
