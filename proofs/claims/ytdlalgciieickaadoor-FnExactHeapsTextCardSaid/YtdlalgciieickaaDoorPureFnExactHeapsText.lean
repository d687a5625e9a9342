/- The program's HeapsText returns what the reference's returns, for all arguments. It has no conditions. -/
import Derived.Test.YtdlalgciieickaaDoorPFnExactHeapsTextx3
namespace Go.Proofs.YtdlalgciieickaaDoor.Pure
open Go.RowKit Go.Proofs.YtdlalgciieickaaDoor.PFnExactHeapsText Go.Proofs.YtdlalgciieickaaDoorW.PrintWords Go.Proofs.YtdlalgciieickaaDoorW.PrintLast
set_option linter.unusedVariables false
set_option linter.unusedSimpArgs false

/-! ### small words -/
theorem w64 (n : Int) (h1 : -9223372036854775808 ≤ n) (h2 : n ≤ 9223372036854775807) : wrap64 n = n := by unfold wrap64; omega
theorem w64s (i : Nat) (h : i < 9223372036854775807) : wrap64 ((i : Int) + 1) = ((i + 1 : Nat) : Int) := by unfold wrap64; omega
theorem rd_at (l : List Int) (i : Nat) (h : i < l.length) : rd l (i : Int) = l[i] := by simp [rd, List.getD_eq_getElem?_getD, List.getElem?_eq_getElem h]
theorem wf64 {x : Int} (h : (Lit.int .i64 x).wf = true) : -9223372036854775808 ≤ x ∧ x ≤ 9223372036854775807 := by
  simp [Lit.wf, IntKind.min, IntKind.max, IntKind.bits, IntKind.signed] at h
  omega
/-! ### copies, marks -/
theorem laws_toIntS.l0ev (l : List Int) (hl : l.length ≤ 1048576) (d : Nat) : ∀ i, i + d = l.length → Ev (fun k => laws_toIntS.l0 k l (l.take i ++ List.replicate d 0) i) l := by
  induction d with
  | zero =>
    intro i hi
    refine Ev.step (f := fun _ => some l) (fun k => ?_) (Ev.now _)
    simp only [laws_toIntS.l0]
    rw [if_neg (by omega)]
    simp [List.take_of_length_le (show l.length ≤ i by omega)]
  | succ d ih =>
    intro i hi
    refine Ev.step (f := fun k => laws_toIntS.l0 k l (l.take (i + 1) ++ List.replicate d 0) ((i + 1 : Nat) : Int)) (fun k => ?_) (ih (i + 1) (by omega))
    simp only [laws_toIntS.l0]
    rw [if_pos (by omega), if_pos (by omega), if_pos (by simp; omega), w64s i (by omega), rd_at l i (by omega)]
    congr 1
    rw [show ((i : Int)).toNat = i by omega, List.set_append_right _ _ (by simp; omega), List.replicate_succ, List.length_take, show i - min i l.length = 0 by omega, List.set_cons_zero, List.take_succ_eq_append_getElem (show i < l.length by omega)]
    simp only [List.append_assoc, List.cons_append, List.nil_append]
theorem laws_toIntS.ev (l : List Int) (hl : l.length ≤ 1048576) : Ev (fun k => laws_toIntS.f k l) l := by
  have h := laws_toIntS.l0ev l hl l.length 0 (by omega)
  unfold laws_toIntS.f
  simp only [if_pos (show (0 : Int) ≤ (l.length : Int) by omega), if_pos (show (l.length : Int).toNat ≤ 35184372088832 by omega)]
  simpa using h
theorem laws_eqIntS.l0ev (l : List Int) (hl : l.length ≤ 1048576) (d : Nat) : ∀ i, i + d = l.length → Ev (fun k => laws_eqIntS.l0 k l l i) true := by
  induction d with
  | zero =>
    intro i hi
    refine Ev.step (f := fun _ => some true) (fun k => ?_) (Ev.now _)
    simp only [laws_eqIntS.l0]
    rw [if_neg (by omega)]
  | succ d ih =>
    intro i hi
    refine Ev.step (f := fun k => laws_eqIntS.l0 k l l ((i + 1 : Nat) : Int)) (fun k => ?_) (ih (i + 1) (by omega))
    simp only [laws_eqIntS.l0]
    rw [if_pos (by omega), if_pos (by omega), if_pos (by omega), if_pos trivial, w64s i (by omega)]
theorem laws_eqIntS.ev (l : List Int) (hl : l.length ≤ 1048576) : Ev (fun k => laws_eqIntS.f k l l) true := by
  unfold laws_eqIntS.f
  simp only [if_true]
  exact laws_eqIntS.l0ev l hl l.length 0 (by omega)
/-- The text with these bytes. -/
def mkB (l : List UInt8) : ByteArray := ⟨l.toArray⟩
theorem mkB_append (a b : List UInt8) : mkB a ++ mkB b = mkB (a ++ b) := by
  apply ByteArray.ext
  simp [mkB, ByteArray.data_append]
theorem mkB_size (a : List UInt8) : (mkB a).size = a.length := by simp [mkB, ByteArray.size]
theorem mkB_toList (a : List UInt8) : (mkB a).data.toList = a := by simp [mkB]
/-- The numeral of a number. -/
def numL (n : Int) : List UInt8 := Lib.decDigits n.toNat
theorem numL_len : ∀ (d : Nat) (n : Nat), n < 10 ^ (d + 1) → (Lib.decDigits n).length ≤ d + 1
  | 0, n, h => by
    rw [Lib.decDigits, dif_pos (by simpa using h)]
    simp
  | d + 1, n, h => by
    rw [Lib.decDigits]
    split
    · simp
    · have := numL_len d (n / 10) (by rw [Nat.pow_succ] at h; omega)
      simp only [List.length_append, List.length_singleton]
      omega
theorem strOf1 (x : Int) (h : 0 ≤ x ∧ x < 10) : strOfNums ([(wrap64 (48 + x)) % 256] : List Int) = mkB [UInt8.ofNat (48 + x.toNat)] := by
  rw [w64 _ (by omega) (by omega)]
  have : (48 + x) % 256 = ((48 + x.toNat : Nat) : Int) := by omega
  rw [this]
  rfl
theorem spec_l1Num.ev : ∀ (d : Nat) (n : Nat), d ≤ 18 → n < 10 ^ (d + 1) → Ev (fun k => spec_l1Num.f k (n : Int)) (mkB (numL (n : Int))) := by
  intro d
  induction d with
  | zero =>
    intro n _ h
    have h10 : n < 10 := by simpa using h
    refine Ev.step (f := fun _ => some (mkB (numL (n : Int)))) (fun k => ?_) (Ev.now _)
    simp only [spec_l1Num.f]
    rw [if_pos (by omega), strOf1 _ (by omega)]
    unfold numL
    rw [Lib.decDigits, dif_pos (by omega)]
  | succ d ih =>
    intro n hd h
    by_cases h10 : n < 10
    · refine Ev.step (f := fun _ => some (mkB (numL (n : Int)))) (fun k => ?_) (Ev.now _)
      simp only [spec_l1Num.f]
      rw [if_pos (by omega), strOf1 _ (by omega)]
      unfold numL
      rw [Lib.decDigits, dif_pos (by omega)]
    · have hn : n / 10 < 10 ^ (d + 1) := by rw [Nat.pow_succ] at h; omega
      have hb : n < 10 ^ 19 := Nat.lt_of_lt_of_le h (Nat.pow_le_pow_right (by omega) (by omega))
      have hb2 : (n / 10 : Nat) < 1000000000000000000 := by
        have : (10 : Nat) ^ 19 = 10000000000000000000 := by decide
        omega
      obtain ⟨K, hK⟩ := ih (n / 10) (by omega) hn
      refine ⟨K + 1, fun k hk => ?_⟩
      obtain ⟨k, rfl⟩ : ∃ k', k = k' + 1 := ⟨k - 1, by omega⟩
      have e1 : wrap64 (Int.tdiv (n : Int) 10) = ((n / 10 : Nat) : Int) := by
        rw [Int.tdiv_eq_ediv_of_nonneg (by omega), w64 _ (by omega) (by omega)]
        omega
      have e2 : Int.tmod (n : Int) 10 = ((n % 10 : Nat) : Int) := by
        rw [Int.tmod_eq_emod_of_nonneg (by omega)]
        omega
      have hlen := numL_len d (n / 10) hn
      have hK' : spec_l1Num.f k ((n / 10 : Nat) : Int) = some (mkB (numL ((n / 10 : Nat) : Int))) := hK k (by omega)
      simp only [spec_l1Num.f, e1, e2]
      rw [if_neg (by omega), hK']
      simp only [Option.bind_some]
      rw [strOf1 _ (by omega), mkB_size, mkB_size, if_pos (by simp only [numL, List.length_singleton, Int.toNat_natCast]; omega), mkB_append]
      have e3 : numL ((n / 10 : Nat) : Int) ++ [UInt8.ofNat (48 + (((n % 10 : Nat) : Int)).toNat)] = numL (n : Int) := by
        unfold numL
        simp only [Int.toNat_natCast]
        have := Lib.decDigits.eq_1 n
        rw [this, dif_neg (by omega)]
      rw [e3]
theorem spec_l1In.is (x a b : Int) : spec_l1In.f x a b = some (decide (a ≤ x) && decide (x ≤ b)) := by
  unfold spec_l1In.f
  by_cases h : x ≥ a
  · simp [h, show a ≤ x from h]
  · simp [h, show ¬ a ≤ x from h]
def allIn (l : List Int) (a b : Int) : Bool := l.all fun x => decide (a ≤ x) && decide (x ≤ b)
theorem spec_l1All.l0ev (a b : Int) (n : Int) (hn : n ≤ 1048576) : ∀ (tl done : List Int), ((done ++ tl).length : Int) = n → Ev (fun k => spec_l1All.l0 k a b (done ++ tl) n done.length) (allIn tl a b) := by
  intro tl
  induction tl with
  | nil =>
    intro done hd
    refine Ev.step (f := fun _ => some true) (fun k => ?_) (Ev.now _)
    simp only [spec_l1All.l0]
    simp at hd
    rw [if_neg (by omega)]
  | cons x xs ih =>
    intro done hd
    have hd' : (done.length : Int) + (xs.length + 1) = n := by simpa using hd
    have hx : rd (done ++ x :: xs) (done.length : Int) = x := by simp [rd]
    by_cases hp : (decide (a ≤ x) && decide (x ≤ b)) = true
    · have h := ih (done ++ [x]) (by simp; omega)
      refine Ev.step (f := fun k => spec_l1All.l0 k a b (done ++ [x] ++ xs) n ((done ++ [x]).length : Int)) (fun k => ?_) ?_
      · simp only [spec_l1All.l0]
        rw [if_pos (by omega), if_pos (by omega), if_pos (by simp; omega), hx, spec_l1In.is, hp]
        simp only [Option.bind_some, if_true]
        rw [w64s done.length (by omega)]
        simp
      · rw [show allIn (x :: xs) a b = allIn xs a b by simp [allIn] at hp ⊢; simp [hp]]
        exact h
    · refine Ev.step (f := fun _ => some false) (fun k => ?_) (by rw [show allIn (x :: xs) a b = false by simp [allIn] at hp ⊢; intro h1 h2; exact absurd (hp h1) (by omega)]; exact Ev.now _)
      simp only [spec_l1All.l0]
      rw [if_pos (by omega), if_pos (by omega), if_pos (by simp; omega), hx, spec_l1In.is]
      simp only [Option.bind_some]
      rw [if_neg hp]
theorem spec_l1All.ev (l : List Int) (a b : Int) (hl : l.length ≤ 1048576) : Ev (fun k => spec_l1All.f k l a b) (allIn l a b) := by
  have h := spec_l1All.l0ev a b l.length (by omega) l [] (by simp)
  simpa [spec_l1All.f] using h
theorem impl_within.is (x a b : Int) : impl_within.f x a b = some (decide (a ≤ x) && decide (x ≤ b)) := by
  unfold impl_within.f
  by_cases h : x ≥ a
  · simp [h, show a ≤ x from h]
  · simp [h, show ¬ a ≤ x from h]
def isHeaps (l : List Int) : Bool := (decide (1 ≤ (l.length : Int)) && decide ((l.length : Int) ≤ 12)) && allIn l 0 1000
theorem spec_hpGood.ev (l : List Int) (hl : l.length ≤ 1048576) : Ev (fun k => spec_hpGood.f k l) (isHeaps l) := by
  unfold spec_hpGood.f isHeaps
  simp only [spec_l1In.is, Option.bind_some]
  by_cases h : (decide (1 ≤ (l.length : Int)) && decide ((l.length : Int) ≤ 12)) = true
  · simp only [h, if_true, Bool.true_and]
    exact Ev.bind (spec_l1All.ev l 0 1000 hl) (Ev.now _)
  · simp only [h]
    simpa using Ev.now false
theorem impl_AreHeaps.is (l : List Int) : impl_AreHeaps.f l = some (isHeaps l) := by
  unfold impl_AreHeaps.f isHeaps impl_areIn.f allIn
  simp only [impl_within.is, Option.bind_some]
  by_cases h : (decide (1 ≤ (l.length : Int)) && decide ((l.length : Int) ≤ 12)) = true
  · simp only [h, if_true, Bool.true_and]
  · simp only [h]
    simp
/-- The heaps' text. -/
def tailH : List Int → List UInt8
  | [] => []
  | d :: ds => 45 :: numL d ++ tailH ds
def textH : List Int → List UInt8
  | [] => []
  | d :: ds => numL d ++ tailH ds
theorem rd_appT (done : List Int) (x : Int) (xs : List Int) : rd (done ++ x :: xs) (done.length : Int) = x := by simp [rd]
theorem num4_ev {x : Int} (h : 0 ≤ x ∧ x ≤ 1000) : Ev (fun k => spec_l1Num.f k x) (mkB (numL x)) := by
  obtain ⟨n, rfl⟩ := Int.eq_ofNat_of_zero_le h.1
  exact spec_l1Num.ev 3 n (by omega) (by simp; omega)
theorem num4_len {x : Int} (h : 0 ≤ x ∧ x ≤ 1000) : (numL x).length ≤ 4 := numL_len 3 x.toNat (by simp; omega)
theorem tail_joinH (l : List Int) : Lib.joinTail [45] (l.map numL) = tailH l := by
  induction l with
  | nil => rfl
  | cons d ds ih =>
    unfold Lib.joinTail at ih ⊢
    simp only [List.map_cons, List.flatten_cons, ih, tailH]
    simp
theorem text_joinH (l : List Int) : Lib.join (l.map numL) [45] = textH l := by
  cases l with
  | nil => rfl
  | cons d ds => rw [List.map_cons, Lib.join_cons, tail_joinH]; rfl
theorem tailH_len : ∀ (l : List Int), (∀ d ∈ l, 0 ≤ d ∧ d ≤ 1000) → (tailH l).length ≤ 5 * l.length
  | [], _ => by simp [tailH]
  | d :: ds, h => by
    have h1 := num4_len (h d (by simp))
    have := tailH_len ds (fun x hx => h x (by simp [hx]))
    simp only [tailH, List.length_append, List.length_cons]
    omega
theorem textH_len (l : List Int) (h : ∀ d ∈ l, 0 ≤ d ∧ d ≤ 1000) : (textH l).length ≤ 5 * l.length := by
  cases l with
  | nil => simp [textH]
  | cons d ds =>
    have h1 := num4_len (h d (by simp))
    have := tailH_len ds (fun x hx => h x (by simp [hx]))
    simp only [textH, List.length_append, List.length_cons]
    omega
theorem isHeaps_in {l : List Int} (h : isHeaps l = true) : (1 ≤ l.length ∧ l.length ≤ 12) ∧ ∀ d ∈ l, 0 ≤ d ∧ d ≤ 1000 := by
  simp [isHeaps, allIn] at h
  refine ⟨by omega, fun d hd => ?_⟩
  have := h.2 d hd
  omega
theorem spec_hpText.l0ev (n : Int) (hn : n ≤ 12) : ∀ (tl done : List Int) (a : List UInt8), ((done ++ tl).length : Int) = n → (∀ d ∈ tl, 0 ≤ d ∧ d ≤ 1000) → a.length ≤ 5 * done.length →
    Ev (fun k => spec_hpText.l0 k (mkB a) (done ++ tl) n done.length) (mkB (a ++ if done = [] then textH tl else tailH tl)) := by
  intro tl
  induction tl with
  | nil =>
    intro done a hd _ _
    refine Ev.step (f := fun _ => some (mkB a)) (fun k => ?_) ?_
    · simp only [spec_hpText.l0]
      simp at hd
      rw [if_neg (by omega)]
    · have : (if done = [] then textH [] else tailH []) = [] := by split <;> rfl
      rw [this, List.append_nil]
      exact Ev.now _
  | cons d ds ih =>
    intro done a hd hall ha
    have hd' : (done.length : Int) + (ds.length + 1) = n := by simpa using hd
    have hD := hall d (by simp)
    obtain ⟨K1, h1⟩ := num4_ev hD
    have l1 := num4_len hD
    have s45 : (⟨#[45]⟩ : ByteArray) = mkB [45] := rfl
    by_cases z : done = []
    · subst z
      obtain ⟨K3, h3⟩ := ih [d] (a ++ numL d) (by simpa using hd) (fun x hx => hall x (by simp [hx])) (by simp only [List.length_append, List.length_nil, List.length_singleton] at ha ⊢; omega)
      refine ⟨K1 + K3 + 1, fun k hk => ?_⟩
      obtain ⟨k, rfl⟩ : ∃ k', k = k' + 1 := ⟨k - 1, by omega⟩
      simp only [spec_hpText.l0, rd_appT, h1 k (by omega), Option.bind_some]
      rw [if_pos (by simp only [List.length_nil]; omega), if_pos (by simp), if_pos (by simp), if_neg (by simp), if_pos (by rw [mkB_size, mkB_size]; simp only [List.length_nil] at ha; omega), mkB_append, w64s _ (by simp)]
      have := h3 k (by omega)
      simpa [textH] using this
    · have zl : 0 < done.length := List.length_pos_iff.mpr z
      obtain ⟨K3, h3⟩ := ih (done ++ [d]) (a ++ [45] ++ numL d) (by simpa using hd) (fun x hx => hall x (by simp [hx])) (by simp only [List.length_append, List.length_singleton]; omega)
      refine ⟨K1 + K3 + 1, fun k hk => ?_⟩
      obtain ⟨k, rfl⟩ : ∃ k', k = k' + 1 := ⟨k - 1, by omega⟩
      simp only [spec_hpText.l0, rd_appT, h1 k (by omega), Option.bind_some]
      rw [if_pos (by omega), if_pos (by omega), if_pos (by simp; omega), if_pos (by omega), s45, if_pos (by rw [mkB_size]; omega), mkB_append, if_pos (by rw [mkB_size, mkB_size]; simp only [List.length_append, List.length_singleton]; omega), mkB_append, w64s _ (by omega)]
      have := h3 k (by omega)
      rw [if_neg (by simp)] at this
      rw [if_neg z]
      simpa [tailH] using this
theorem spec_HeapsText.ev (l : List Int) (hl : l.length ≤ 1048576) : Ev (fun k => spec_HeapsText.f k l) (if isHeaps l = true then (mkB (textH l), true) else (mkB [], false)) := by
  refine Ev.bind (spec_hpGood.ev l hl) ?_
  by_cases c : isHeaps l = true
  · simp only [c, if_true]
    obtain ⟨⟨_, h12⟩, hall⟩ := isHeaps_in c
    have := spec_hpText.l0ev l.length (by omega) l [] [] (by simp) hall (by simp)
    exact Ev.bind (a := mkB (textH l)) (by simp only [if_true, List.nil_append, List.length_nil] at this; exact this) (Ev.now _)
  · simp only [c]
    exact Ev.now _
theorem itoaH {x : Int} (h : 0 ≤ x ∧ x ≤ 1000) : strconv_Itoa_49.f x = some (mkB (numL x)) := by
  unfold strconv_Itoa_49.f
  rw [if_pos (by omega)]
  rfl
theorem impl_joined.l0ev (n : Int) (hn : n ≤ 12) : ∀ (tl done : List Int), ((done ++ tl).length : Int) = n → (∀ d ∈ done ++ tl, 0 ≤ d ∧ d ≤ 1000) →
    Ev (fun k => impl_joined.l0 k (mkB [45]) (done.map fun d => mkB (numL d)) (done ++ tl) n done.length) (mkB (textH (done ++ tl))) := by
  intro tl
  induction tl with
  | nil =>
    intro done hd hall
    simp only [List.append_nil] at hd hall ⊢
    refine Ev.step (f := fun _ => some (mkB (textH done))) (fun k => ?_) (Ev.now _)
    simp only [impl_joined.l0]
    rw [if_neg (by omega)]
    unfold strings_Join.f
    have e : (done.map fun d => mkB (numL d)).map (·.data.toList) = done.map numL := by
      rw [List.map_map]
      refine List.map_congr_left (fun d _ => ?_)
      exact mkB_toList _
    rw [e, mkB_toList, text_joinH]
    have := textH_len done hall
    rw [if_pos ⟨by simp; omega, by omega⟩]
    rfl
  | cons d ds ih =>
    intro done hd hall
    have hd' : (done.length : Int) + (ds.length + 1) = n := by simpa using hd
    have hD := hall d (by simp)
    have h := ih (done ++ [d]) (by simpa using hd) (by simpa using hall)
    refine Ev.step (f := fun k => impl_joined.l0 k (mkB [45]) ((done ++ [d]).map fun d => mkB (numL d)) (done ++ [d] ++ ds) n ((done ++ [d]).length : Int)) (fun k => ?_) (by simpa using h)
    simp only [impl_joined.l0, rd_appT, itoaH hD, Option.bind_some]
    rw [if_pos (by omega), if_pos (by omega), if_pos (by simp; omega), if_pos (by simp; omega), w64s _ (by omega)]
    simp
theorem impl_HeapsText.ev (l : List Int) : Ev (fun k => impl_HeapsText.f k l) (if isHeaps l = true then (mkB (textH l), true) else (mkB [], false)) := by
  unfold impl_HeapsText.f
  simp only [impl_AreHeaps.is, Option.bind_some]
  by_cases c : isHeaps l = true
  · simp only [c, if_true]
    obtain ⟨⟨_, h12⟩, hall⟩ := isHeaps_in c
    have := impl_joined.l0ev l.length (by omega) l [] (by simp) (by simpa using hall)
    exact Ev.bind (a := mkB (textH l)) (by simp only [List.nil_append, List.map_nil, List.length_nil] at this; exact this) (Ev.now _)
  · simp only [c]
    exact Ev.now _
theorem FnExactHeapsText : laws_FnExactHeapsText.Pure := by
  intro l _ _ _
  by_cases hl : (l.length : Int) > 1048576
  · exact ⟨0, by unfold laws_FnExactHeapsText.f; rw [if_pos hl]⟩
  obtain ⟨K1, h1⟩ := laws_toIntS.ev l (by omega)
  obtain ⟨K2, h2⟩ := spec_HeapsText.ev l (by omega)
  obtain ⟨K3, h3⟩ := impl_HeapsText.ev l
  generalize (if isHeaps l = true then (mkB (textH l), true) else (mkB [], false)) = v at h2 h3
  obtain ⟨v, b⟩ := v
  obtain ⟨K4, h4⟩ := laws_eqIntS.ev l (by omega)
  dsimp only at h1 h2 h3 h4
  refine ⟨K1 + K2 + K3 + K4 + 1, ?_⟩
  simp (disch := omega) only [laws_FnExactHeapsText.f, if_neg hl, h1, h2, h3, h4, Option.bind_some, bne_self_eq_false, Bool.false_eq_true, if_true, if_false]
  simp (disch := omega) only [laws_FnExactHeapsText.j0, h1, h4, Option.bind_some, Bool.false_eq_true, if_true, if_false]

end Go.Proofs.YtdlalgciieickaaDoor.Pure
