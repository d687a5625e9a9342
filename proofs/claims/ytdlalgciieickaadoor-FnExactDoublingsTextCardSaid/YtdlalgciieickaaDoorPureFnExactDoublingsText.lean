/- The program's DoublingsText returns what the reference's returns, for all arguments. It has no conditions. -/
import Derived.Test.YtdlalgciieickaaDoorPFnExactDoublingsTextx3
namespace Go.Proofs.YtdlalgciieickaaDoor.Pure
open Go.RowKit Go.Proofs.YtdlalgciieickaaDoor.PFnExactDoublingsText Go.Proofs.YtdlalgciieickaaDoorW.PrintWords Go.Proofs.YtdlalgciieickaaDoorW.PrintLast
set_option linter.unusedVariables false
set_option linter.unusedSimpArgs false

/-! ### small words -/
theorem w64 (n : Int) (h1 : -9223372036854775808 ≤ n) (h2 : n ≤ 9223372036854775807) : wrap64 n = n := by unfold wrap64; omega
theorem w64s (i : Nat) (h : i < 9223372036854775807) : wrap64 ((i : Int) + 1) = ((i + 1 : Nat) : Int) := by unfold wrap64; omega
theorem rd_at (l : List Int) (i : Nat) (h : i < l.length) : rd l (i : Int) = l[i] := by simp [rd, List.getD_eq_getElem?_getD, List.getElem?_eq_getElem h]
theorem wf64 {x : Int} (h : (Lit.int .i64 x).wf = true) : -9223372036854775808 ≤ x ∧ x ≤ 9223372036854775807 := by
  simp [Lit.wf, IntKind.min, IntKind.max, IntKind.bits, IntKind.signed] at h
  omega
def dconv (x : S58) : S52 := ⟨x.f0, x.f1⟩
theorem rdE_at (l : List S58) (i : Nat) (h : i < l.length) : rd_T58 l (i : Int) = l[i] := by simp [rd_T58, List.getD_eq_getElem?_getD, List.getElem?_eq_getElem h]
theorem laws_toDoublingS.l0ev (l : List S58) (hl : l.length ≤ 1048576) (d : Nat) : ∀ i, i + d = l.length → Ev (fun k => laws_toDoublingS.l0 k l ((l.take i).map dconv ++ List.replicate d z52) i) (l.map dconv) := by
  induction d with
  | zero =>
    intro i hi
    refine Ev.step (f := fun _ => some (l.map dconv)) (fun k => ?_) (Ev.now _)
    simp only [laws_toDoublingS.l0]
    rw [if_neg (by omega)]
    simp [List.take_of_length_le (show l.length ≤ i by omega)]
  | succ d ih =>
    intro i hi
    refine Ev.step (f := fun k => laws_toDoublingS.l0 k l ((l.take (i + 1)).map dconv ++ List.replicate d z52) ((i + 1 : Nat) : Int)) (fun k => ?_) (ih (i + 1) (by omega))
    simp only [laws_toDoublingS.l0, laws_toDoubling.f, Option.bind_some]
    rw [if_pos (by omega), if_pos (by omega), if_pos (by simp; omega), w64s i (by omega), rdE_at l i (by omega)]
    congr 1
    rw [show ((i : Int)).toNat = i by omega, List.set_append_right _ _ (by simp; omega), List.replicate_succ, List.length_map, List.length_take, show i - min i l.length = 0 by omega, List.set_cons_zero, List.take_succ_eq_append_getElem (show i < l.length by omega)]
    simp only [List.map_append, List.map_cons, List.map_nil, List.append_assoc, List.cons_append, List.nil_append]
    rfl
theorem laws_toDoublingS.ev (l : List S58) (hl : l.length ≤ 1048576) : Ev (fun k => laws_toDoublingS.f k l) (l.map dconv) := by
  have h := laws_toDoublingS.l0ev l hl l.length 0 (by omega)
  unfold laws_toDoublingS.f
  simp only [if_pos (show (0 : Int) ≤ (l.length : Int) by omega), if_pos (show (l.length : Int).toNat ≤ 17592186044416 by omega)]
  simpa using h
theorem laws_eqDoublingS.l0ev (l : List S52) (hl : l.length ≤ 1048576) (d : Nat) : ∀ i, i + d = l.length → Ev (fun k => laws_eqDoublingS.l0 k l l i) true := by
  induction d with
  | zero =>
    intro i hi
    refine Ev.step (f := fun _ => some true) (fun k => ?_) (Ev.now _)
    simp only [laws_eqDoublingS.l0]
    rw [if_neg (by omega)]
  | succ d ih =>
    intro i hi
    refine Ev.step (f := fun k => laws_eqDoublingS.l0 k l l ((i + 1 : Nat) : Int)) (fun k => ?_) (ih (i + 1) (by omega))
    simp only [laws_eqDoublingS.l0, laws_eqDoubling.f, if_true, Option.bind_some]
    rw [if_pos (by omega), if_pos (by omega), if_pos (by omega), w64s i (by omega)]
theorem laws_eqDoublingS.ev (l : List S52) (hl : l.length ≤ 1048576) : Ev (fun k => laws_eqDoublingS.f k l l) true := by
  unfold laws_eqDoublingS.f
  simp only [if_true]
  exact laws_eqDoublingS.l0ev l hl l.length 0 (by omega)
theorem laws_szDoublingS.is (l : List S58) (h : l.length ≤ 1048576) : laws_szDoublingS.f l 1048576 = some (1048576 - (l.length : Int)) := by
  unfold laws_szDoublingS.f
  rw [w64 (1048576 - (l.length : Int)) (by omega) (by omega), if_neg (by omega)]
theorem laws_szDoublingS.big (l : List S58) (h : ¬ l.length ≤ 1048576) (hm : l.length ≤ maxLen) : laws_szDoublingS.f l 1048576 = some (-1) := by
  unfold laws_szDoublingS.f
  unfold maxLen at hm
  rw [w64 (1048576 - (l.length : Int)) (by omega) (by omega), if_pos (by omega)]
/-- The text with these bytes. -/
def mkB (l : List UInt8) : ByteArray := ⟨l.toArray⟩
theorem mkB_append (a b : List UInt8) : mkB a ++ mkB b = mkB (a ++ b) := by
  apply ByteArray.ext
  simp [mkB, ByteArray.data_append]
theorem mkB_size (a : List UInt8) : (mkB a).size = a.length := by simp [mkB, ByteArray.size]
theorem mkB_toList (a : List UInt8) : (mkB a).data.toList = a := by simp [mkB]
/-- The numeral of a number. -/
def numL (n : Int) : List UInt8 := Lib.decDigits n.toNat
theorem numL_len : ∀ (d : Nat) (n : Nat), n < 10 ^ (d + 1) → (Lib.decDigits n).length ≤ d + 1
  | 0, n, h => by
    rw [Lib.decDigits, dif_pos (by simpa using h)]
    simp
  | d + 1, n, h => by
    rw [Lib.decDigits]
    split
    · simp
    · have := numL_len d (n / 10) (by rw [Nat.pow_succ] at h; omega)
      simp only [List.length_append, List.length_singleton]
      omega
theorem strOf1 (x : Int) (h : 0 ≤ x ∧ x < 10) : strOfNums ([(wrap64 (48 + x)) % 256] : List Int) = mkB [UInt8.ofNat (48 + x.toNat)] := by
  rw [w64 _ (by omega) (by omega)]
  have : (48 + x) % 256 = ((48 + x.toNat : Nat) : Int) := by omega
  rw [this]
  rfl
theorem spec_l1Num.ev : ∀ (d : Nat) (n : Nat), d ≤ 18 → n < 10 ^ (d + 1) → Ev (fun k => spec_l1Num.f k (n : Int)) (mkB (numL (n : Int))) := by
  intro d
  induction d with
  | zero =>
    intro n _ h
    have h10 : n < 10 := by simpa using h
    refine Ev.step (f := fun _ => some (mkB (numL (n : Int)))) (fun k => ?_) (Ev.now _)
    simp only [spec_l1Num.f]
    rw [if_pos (by omega), strOf1 _ (by omega)]
    unfold numL
    rw [Lib.decDigits, dif_pos (by omega)]
  | succ d ih =>
    intro n hd h
    by_cases h10 : n < 10
    · refine Ev.step (f := fun _ => some (mkB (numL (n : Int)))) (fun k => ?_) (Ev.now _)
      simp only [spec_l1Num.f]
      rw [if_pos (by omega), strOf1 _ (by omega)]
      unfold numL
      rw [Lib.decDigits, dif_pos (by omega)]
    · have hn : n / 10 < 10 ^ (d + 1) := by rw [Nat.pow_succ] at h; omega
      have hb : n < 10 ^ 19 := Nat.lt_of_lt_of_le h (Nat.pow_le_pow_right (by omega) (by omega))
      have hb2 : (n / 10 : Nat) < 1000000000000000000 := by
        have : (10 : Nat) ^ 19 = 10000000000000000000 := by decide
        omega
      obtain ⟨K, hK⟩ := ih (n / 10) (by omega) hn
      refine ⟨K + 1, fun k hk => ?_⟩
      obtain ⟨k, rfl⟩ : ∃ k', k = k' + 1 := ⟨k - 1, by omega⟩
      have e1 : wrap64 (Int.tdiv (n : Int) 10) = ((n / 10 : Nat) : Int) := by
        rw [Int.tdiv_eq_ediv_of_nonneg (by omega), w64 _ (by omega) (by omega)]
        omega
      have e2 : Int.tmod (n : Int) 10 = ((n % 10 : Nat) : Int) := by
        rw [Int.tmod_eq_emod_of_nonneg (by omega)]
        omega
      have hlen := numL_len d (n / 10) hn
      have hK' : spec_l1Num.f k ((n / 10 : Nat) : Int) = some (mkB (numL ((n / 10 : Nat) : Int))) := hK k (by omega)
      simp only [spec_l1Num.f, e1, e2]
      rw [if_neg (by omega), hK']
      simp only [Option.bind_some]
      rw [strOf1 _ (by omega), mkB_size, mkB_size, if_pos (by simp only [numL, List.length_singleton, Int.toNat_natCast]; omega), mkB_append]
      have e3 : numL ((n / 10 : Nat) : Int) ++ [UInt8.ofNat (48 + (((n % 10 : Nat) : Int)).toNat)] = numL (n : Int) := by
        unfold numL
        simp only [Int.toNat_natCast]
        have := Lib.decDigits.eq_1 n
        rw [this, dif_neg (by omega)]
      rw [e3]
theorem spec_l1In.is (x a b : Int) : spec_l1In.f x a b = some (decide (a ≤ x) && decide (x ≤ b)) := by
  unfold spec_l1In.f
  by_cases h : x ≥ a
  · simp [h, show a ≤ x from h]
  · simp [h, show ¬ a ≤ x from h]
/-- A doubling of two different heaps among four. -/
def isD (d : S52) : Bool := (decide (0 ≤ d.f0) && decide (d.f0 ≤ 3)) && ((decide (0 ≤ d.f1) && decide (d.f1 ≤ 3)) && !decide (d.f0 = d.f1))
def areD (l : List S52) : Bool := decide ((l.length : Int) ≤ 100) && l.all isD
def pieceD (d : S52) : List UInt8 := numL d.f0 ++ numL d.f1
def tailD : List S52 → List UInt8
  | [] => []
  | d :: ds => 45 :: pieceD d ++ tailD ds
def textD : List S52 → List UInt8
  | [] => []
  | d :: ds => pieceD d ++ tailD ds
theorem rdD_appT (done : List S52) (x : S52) (xs : List S52) : rd_T52 (done ++ x :: xs) (done.length : Int) = x := by simp [rd_T52]
theorem spec_dbList.l0ev (n : Int) (hn : n ≤ 1048576) : ∀ (tl done : List S52), ((done ++ tl).length : Int) = n → Ev (fun k => spec_dbList.l0 k (done ++ tl) n done.length) (tl.all isD) := by
  intro tl
  induction tl with
  | nil =>
    intro done hd
    refine Ev.step (f := fun _ => some true) (fun k => ?_) (by simpa using Ev.now true)
    simp only [spec_dbList.l0]
    simp at hd
    rw [if_neg (by omega)]
  | cons d ds ih =>
    intro done hd
    have hd' : (done.length : Int) + (ds.length + 1) = n := by simpa using hd
    have h := ih (done ++ [d]) (by simp; omega)
    by_cases c1 : (decide (0 ≤ d.f0) && decide (d.f0 ≤ 3)) = true
    · by_cases c2 : (decide (0 ≤ d.f1) && decide (d.f1 ≤ 3)) = true
      · by_cases c3 : d.f0 = d.f1
        · have e : (d :: ds).all isD = false := by simp [isD, c3]
          refine Ev.step (f := fun _ => some false) (fun k => ?_) (by rw [e]; exact Ev.now _)
          simp only [spec_dbList.l0, rdD_appT, spec_l1In.is, c1, c2, Option.bind_some, if_true]
          rw [if_pos (by omega), if_pos (by omega), if_pos (by simp; omega), if_pos c3]
        · have e : (d :: ds).all isD = ds.all isD := by
            have : isD d = true := by unfold isD; rw [c1, c2]; simp [c3]
            simp [this]
          refine Ev.step (f := fun k => spec_dbList.l0 k (done ++ [d] ++ ds) n ((done ++ [d]).length : Int)) (fun k => ?_) (by rw [e]; exact h)
          simp only [spec_dbList.l0, rdD_appT, spec_l1In.is, c1, c2, Option.bind_some, if_true]
          rw [if_pos (by omega), if_pos (by omega), if_pos (by simp; omega), if_neg c3, w64s done.length (by omega)]
          simp
      · have e : (d :: ds).all isD = false := by
          have : isD d = false := by unfold isD; simp only [Bool.not_eq_true] at c2; rw [c2]; simp
          simp [this]
        refine Ev.step (f := fun _ => some false) (fun k => ?_) (by rw [e]; exact Ev.now _)
        simp only [spec_dbList.l0, rdD_appT, spec_l1In.is, c1, Option.bind_some, if_true]
        rw [if_pos (by omega), if_pos (by omega), if_pos (by simp; omega), if_neg c2]
    · have e : (d :: ds).all isD = false := by
        have : isD d = false := by unfold isD; simp only [Bool.not_eq_true] at c1; rw [c1]; simp
        simp [this]
      refine Ev.step (f := fun _ => some false) (fun k => ?_) (by rw [e]; exact Ev.now _)
      simp only [spec_dbList.l0, rdD_appT, spec_l1In.is, Option.bind_some]
      rw [if_pos (by omega), if_pos (by omega), if_pos (by simp; omega), if_neg c1]
theorem spec_dbList.ev (l : List S52) (hl : l.length ≤ 1048576) : Ev (fun k => spec_dbList.f k l) (areD l) := by
  unfold spec_dbList.f areD
  by_cases c : (l.length : Int) > 100
  · rw [show decide ((l.length : Int) ≤ 100) = false from decide_eq_false (by omega)]
    simp only [if_pos c, Bool.false_and]
    exact Ev.now _
  · rw [show decide ((l.length : Int) ≤ 100) = true from decide_eq_true (by omega)]
    simp only [if_neg c, Bool.true_and]
    have := spec_dbList.l0ev l.length (by omega) l [] (by simp)
    simpa using this
theorem isD_in {d : S52} (h : isD d = true) : (0 ≤ d.f0 ∧ d.f0 ≤ 3) ∧ 0 ≤ d.f1 ∧ d.f1 ≤ 3 := by
  simp [isD] at h
  omega
theorem num3 {x : Int} (h : 0 ≤ x ∧ x ≤ 3) : numL x = [UInt8.ofNat (48 + x.toNat)] := by
  unfold numL
  rw [Lib.decDigits, dif_pos (by omega)]
theorem num3_ev {x : Int} (h : 0 ≤ x ∧ x ≤ 3) : Ev (fun k => spec_l1Num.f k x) (mkB (numL x)) := by
  obtain ⟨n, rfl⟩ := Int.eq_ofNat_of_zero_le h.1
  exact spec_l1Num.ev 0 n (by omega) (by simp; omega)
theorem spec_dbText.l0ev (n : Int) (hn : n ≤ 100) : ∀ (tl done : List S52) (a : List UInt8), ((done ++ tl).length : Int) = n → (∀ d ∈ tl, isD d = true) → a.length ≤ 3 * done.length →
    Ev (fun k => spec_dbText.l0 k (mkB a) (done ++ tl) n done.length) (mkB (a ++ if done = [] then textD tl else tailD tl)) := by
  intro tl
  induction tl with
  | nil =>
    intro done a hd _ _
    refine Ev.step (f := fun _ => some (mkB a)) (fun k => ?_) ?_
    · simp only [spec_dbText.l0]
      simp at hd
      rw [if_neg (by omega)]
    · have : (if done = [] then textD [] else tailD []) = [] := by split <;> rfl
      rw [this, List.append_nil]
      exact Ev.now _
  | cons d ds ih =>
    intro done a hd hall ha
    have hd' : (done.length : Int) + (ds.length + 1) = n := by simpa using hd
    have hD := isD_in (hall d (by simp))
    obtain ⟨K1, h1⟩ := num3_ev hD.1
    obtain ⟨K2, h2⟩ := num3_ev hD.2
    have l1 : (numL d.f0).length = 1 := by rw [num3 hD.1]; rfl
    have l2 : (numL d.f1).length = 1 := by rw [num3 hD.2]; rfl
    have s45 : (⟨#[45]⟩ : ByteArray) = mkB [45] := rfl
    by_cases z : done = []
    · subst z
      obtain ⟨K3, h3⟩ := ih [d] (a ++ (numL d.f0 ++ numL d.f1)) (by simpa using hd) (fun x hx => hall x (by simp [hx])) (by simp only [List.length_append, List.length_nil, List.length_singleton] at ha ⊢; omega)
      refine ⟨K1 + K2 + K3 + 1, fun k hk => ?_⟩
      obtain ⟨k, rfl⟩ : ∃ k', k = k' + 1 := ⟨k - 1, by omega⟩
      simp only [spec_dbText.l0, rdD_appT, h1 k (by omega), h2 k (by omega), Option.bind_some]
      rw [if_pos (by simp only [List.length_nil]; omega), if_pos (by simp), if_pos (by simp), if_neg (by simp), if_pos (by rw [mkB_size, mkB_size]; omega), mkB_append, if_pos (by rw [mkB_size, mkB_size]; simp only [List.length_append, List.length_nil] at ha ⊢; omega), mkB_append, w64s _ (by simp)]
      have := h3 k (by omega)
      simpa [textD, pieceD] using this
    · have zl : 0 < done.length := List.length_pos_iff.mpr z
      obtain ⟨K3, h3⟩ := ih (done ++ [d]) (a ++ [45] ++ (numL d.f0 ++ numL d.f1)) (by simpa using hd) (fun x hx => hall x (by simp [hx])) (by simp only [List.length_append, List.length_singleton] at ha ⊢; omega)
      refine ⟨K1 + K2 + K3 + 1, fun k hk => ?_⟩
      obtain ⟨k, rfl⟩ : ∃ k', k = k' + 1 := ⟨k - 1, by omega⟩
      simp only [spec_dbText.l0, rdD_appT, h1 k (by omega), h2 k (by omega), Option.bind_some]
      rw [if_pos (by omega), if_pos (by omega), if_pos (by simp; omega), if_pos (by omega), s45, if_pos (by rw [mkB_size]; omega), if_pos (by rw [mkB_size, mkB_size]; omega), mkB_append, mkB_append, if_pos (by rw [mkB_size, mkB_size]; simp only [List.length_append, List.length_singleton]; omega), mkB_append, w64s _ (by omega)]
      have := h3 k (by omega)
      rw [if_neg (by simp)] at this
      rw [if_neg z]
      simpa [tailD, pieceD] using this
theorem spec_DoublingsText.ev (l : List S52) (hl : l.length ≤ 1048576) : Ev (fun k => spec_DoublingsText.f k l) (if areD l = true then (mkB (textD l), true) else (mkB [], false)) := by
  refine Ev.bind (spec_dbList.ev l hl) ?_
  by_cases c : areD l = true
  · simp only [c, if_true]
    have h100 : (l.length : Int) ≤ 100 := by simp [areD] at c; omega
    have hall : ∀ d ∈ l, isD d = true := by simp [areD] at c; exact c.2
    have := spec_dbText.l0ev l.length h100 l [] [] (by simp) hall (by simp)
    exact Ev.bind (a := mkB (textD l)) (by simp only [if_true, List.nil_append, List.length_nil] at this; exact this) (Ev.now _)
  · simp only [c]
    exact Ev.now _
theorem impl_areDoublings.is (l : List S52) : impl_areDoublings.f l = some (areD l) := by
  unfold impl_areDoublings.f areD
  have e : ∀ d : S52, impl_areDoublings.bad d = !isD d := by
    intro d
    unfold impl_areDoublings.bad isD
    cases (decide (0 ≤ d.f0) && decide (d.f0 ≤ 3)) <;> cases (decide (0 ≤ d.f1) && decide (d.f1 ≤ 3)) <;> cases decide (d.f0 = d.f1) <;> rfl
  have e2 : (!(l.any impl_areDoublings.bad)) = l.all isD := by
    rw [List.not_any_eq_all_not]
    congr 1
    funext d
    rw [e, Bool.not_not]
  by_cases c : (l.length : Int) ≤ 100
  · rw [if_pos c, e2, decide_eq_true c, Bool.true_and]
  · rw [if_neg c, decide_eq_false c, Bool.false_and]
theorem itoa3 {x : Int} (h : 0 ≤ x ∧ x ≤ 3) : strconv_Itoa_49.f x = some (mkB (numL x)) := by
  unfold strconv_Itoa_49.f
  rw [if_pos (by omega)]
  rfl
theorem tail_join (l : List S52) : Lib.joinTail [45] (l.map pieceD) = tailD l := by
  induction l with
  | nil => rfl
  | cons d ds ih =>
    unfold Lib.joinTail at ih ⊢
    simp only [List.map_cons, List.flatten_cons, ih, tailD]
    simp
theorem text_join (l : List S52) : Lib.join (l.map pieceD) [45] = textD l := by
  cases l with
  | nil => rfl
  | cons d ds => rw [List.map_cons, Lib.join_cons, tail_join]; rfl
theorem tailD_len : ∀ (l : List S52), (∀ d ∈ l, isD d = true) → (tailD l).length = 3 * l.length
  | [], _ => rfl
  | d :: ds, h => by
    have hD := isD_in (h d (by simp))
    have := tailD_len ds (fun x hx => h x (by simp [hx]))
    simp only [tailD, pieceD, num3 hD.1, num3 hD.2, List.length_append, List.length_cons, List.length_nil, this]
    omega
theorem textD_len (l : List S52) (h : ∀ d ∈ l, isD d = true) : (textD l).length ≤ 3 * l.length := by
  cases l with
  | nil => simp [textD]
  | cons d ds =>
    have hD := isD_in (h d (by simp))
    have := tailD_len ds (fun x hx => h x (by simp [hx]))
    simp only [textD, pieceD, num3 hD.1, num3 hD.2, List.length_append, List.length_cons, List.length_nil, this]
    omega
theorem impl_DoublingsText.l0ev (n : Int) (hn : n ≤ 100) : ∀ (tl done : List S52), ((done ++ tl).length : Int) = n → (∀ d ∈ done ++ tl, isD d = true) →
    Ev (fun k => impl_DoublingsText.l0 k (done.map fun d => mkB (pieceD d)) (done ++ tl) n done.length) (mkB (textD (done ++ tl)), true) := by
  intro tl
  induction tl with
  | nil =>
    intro done hd hall
    simp only [List.append_nil] at hd hall ⊢
    refine Ev.step (f := fun _ => some (mkB (textD done), true)) (fun k => ?_) (Ev.now _)
    simp only [impl_DoublingsText.l0]
    rw [if_neg (by omega)]
    unfold strings_Join.f
    have e : (done.map fun d => mkB (pieceD d)).map (·.data.toList) = done.map pieceD := by
      rw [List.map_map]
      refine List.map_congr_left (fun d _ => ?_)
      exact mkB_toList _
    have e45 : ((⟨#[45]⟩ : ByteArray).data.toList) = [45] := rfl
    rw [e, e45, text_join]
    have := textD_len done hall
    rw [if_pos ⟨by simp; omega, by omega⟩]
    rfl
  | cons d ds ih =>
    intro done hd hall
    have hd' : (done.length : Int) + (ds.length + 1) = n := by simpa using hd
    have hD := isD_in (hall d (by simp))
    have l1 : (numL d.f0).length = 1 := by rw [num3 hD.1]; rfl
    have l2 : (numL d.f1).length = 1 := by rw [num3 hD.2]; rfl
    have h := ih (done ++ [d]) (by simpa using hd) (by simpa using hall)
    refine Ev.step (f := fun k => impl_DoublingsText.l0 k ((done ++ [d]).map fun d => mkB (pieceD d)) (done ++ [d] ++ ds) n ((done ++ [d]).length : Int)) (fun k => ?_) (by simpa using h)
    simp only [impl_DoublingsText.l0, rdD_appT, itoa3 hD.1, itoa3 hD.2, Option.bind_some]
    rw [if_pos (by omega), if_pos (by omega), if_pos (by simp; omega), if_pos (by rw [mkB_size, mkB_size]; omega), if_pos (by simp; omega), mkB_append, w64s _ (by omega)]
    simp [pieceD]
theorem impl_DoublingsText.ev (l : List S52) (hl : l.length ≤ 1048576) : Ev (fun k => impl_DoublingsText.f k l) (if areD l = true then (mkB (textD l), true) else (mkB [], false)) := by
  unfold impl_DoublingsText.f
  simp only [impl_areDoublings.is, Option.bind_some]
  by_cases c : areD l = true
  · simp only [c, if_true]
    have h100 : (l.length : Int) ≤ 100 := by simp [areD] at c; omega
    have hall : ∀ d ∈ l, isD d = true := by simp [areD] at c; exact c.2
    have := impl_DoublingsText.l0ev l.length h100 l [] (by simp) (by simpa using hall)
    simpa using this
  · simp only [c]
    exact Ev.now _
theorem FnExactDoublingsText : laws_FnExactDoublingsText.Pure := by
  intro ms hmm _
  by_cases hd : ms.length ≤ 1048576
  case neg => exact ⟨0, by unfold laws_FnExactDoublingsText.f; rw [laws_szDoublingS.big ms hd hmm]; simp⟩
  have hd2 : (ms.map dconv).length ≤ 1048576 := by simpa using hd
  obtain ⟨K1, h1⟩ := laws_toDoublingS.ev ms hd
  obtain ⟨K2, h2⟩ := spec_DoublingsText.ev (ms.map dconv) hd2
  obtain ⟨K3, h3⟩ := impl_DoublingsText.ev (ms.map dconv) hd2
  generalize (if areD (ms.map dconv) = true then (mkB (textD (ms.map dconv)), true) else (mkB [], false)) = v at h2 h3
  obtain ⟨v, b⟩ := v
  obtain ⟨K4, h4⟩ := laws_eqDoublingS.ev (ms.map dconv) hd2
  dsimp only at h1 h2 h3 h4
  refine ⟨K1 + K2 + K3 + K4 + 1, ?_⟩
  have c3 : ¬ (1048576 - (ms.length : Int) < 0) := by omega
  simp (disch := omega) only [laws_FnExactDoublingsText.f, laws_szDoublingS.is ms hd, if_neg c3, h1, h2, h3, h4, Option.bind_some, bne_self_eq_false, Bool.false_eq_true, if_true, if_false]
  simp (disch := omega) only [laws_FnExactDoublingsText.j0, h1, h4, Option.bind_some, Bool.false_eq_true, if_true, if_false]

end Go.Proofs.YtdlalgciieickaaDoor.Pure
