/- The plain part of the law FnExactLongestPalindrome: for every input that the law takes, the printed function of the law answers true once it has rounds enough. Conditions: those that stand in the statement (sizes of strings and slices, kinds of numbers), no other. -/
import Derived.Test.YtjnpobaampgakacQx6
import Derived.Test.YtjnpobaampgakacMath
import Derived.Test.YtjnpobaampgakacMath4
namespace Go.Proofs.Ytjnpobaampgakac.Pure
open Go.RowKit Go.Proofs.Ytjnpobaampgakac.Q Go.Proofs.YtjnpobaampgakacW.PrintWords Go.Proofs.YtjnpobaampgakacW.PrintLast Go.Proofs.YtjnpobaampgakacW.PrintMore
set_option linter.unusedVariables false
set_option linter.unusedSimpArgs false

theorem spec_l01Is_eq {k : Nat} {w : ByteArray} (hw : w.size ≤ 140737488351232) (hk : w.size + 1 < k) : spec_l01Is.f k w = some (isW w) := by
  have h := find_gen (fun k i => spec_l01Is.l0 k w i) w.size (fun i => !okB (bt w i)) (fun _ => false) (decide ((w.size : Int) ≤ 60)) 0
    (fun k i _ hi => by
      simp only [spec_l01Is.l0]
      rw [if_pos (by omega), if_pos (by omega)]
      by_cases h1 : bt w i < 97
      · rw [if_pos h1]
        have : okB (bt w i) = false := by unfold okB; simp; omega
        simp [this]
      · rw [if_neg h1]
        by_cases h2 : bt w i > 101
        · rw [if_pos h2]
          have : okB (bt w i) = false := by unfold okB; simp; omega
          simp [this]
        · rw [if_neg h2, w64 (by omega) (by omega)]
          have : okB (bt w i) = true := by unfold okB; simp; omega
          simp [this])
    (fun k _ => by simp only [spec_l01Is.l0]; rw [if_neg (by omega)])
    w.size k 0 (by omega) (by omega)
  unfold spec_l01Is.f
  rw [show (0 : Int) = ((0 : Nat) : Int) from rfl, h]
  congr 1
  unfold isW
  cases hf : findE (fun i => !okB (bt w i)) 0 w.size with
  | some j =>
    obtain ⟨_, h1, h2, _⟩ := findE_some hf
    have : (bytesOf w).all okB = false := by
      rw [Bool.eq_false_iff]
      intro h3
      rw [List.all_eq_true] at h3
      have hj : j < (bytesOf w).length := by rw [bo_len]; omega
      have := h3 _ (List.getElem_mem hj)
      rw [bt_nat, getD_eq _ _ hj, this] at h2
      cases h2
    simp [this]
  | none =>
    have : (bytesOf w).all okB = true := by
      rw [List.all_eq_true]
      intro x hx
      obtain ⟨j, hj, rfl⟩ := List.mem_iff_getElem.mp hx
      have := findE_none.mp hf j (Nat.zero_le _) (by rw [bo_len] at hj; omega)
      rw [bt_nat, getD_eq _ _ hj] at this
      simpa using this
    simp only [this, Bool.and_true, decide_eq_decide]
    omega
theorem spec_not_word {w : ByteArray} (h : w.size > 60) : isW w = false := by unfold isW; simp; omega

theorem wordCode_1 (a : ByteArray) : impl_wordCode.f () [a] = some (if isW a then 0 else 1) := by unfold impl_wordCode.f; simp
theorem wordCode_2 (a b : ByteArray) : impl_wordCode.f () [a, b] = some (if isW a && isW b then 0 else 1) := by unfold impl_wordCode.f; simp

theorem filled_spec {k : Nat} {w : ByteArray} (h0 : w.size ≤ 140737488351232) (hk : w.size + 1 < k) (hI : spec_l01Is.f k w = some (isW w)) : spec_l02Given.f k w = some (if isW w then (if w.size = 0 then 5 else 0) else 1) := by
  unfold spec_l02Given.f
  rw [hI]
  cases isW w
  · simp
  · by_cases h : w.size = 0
    · have := (str_empty h).2.2.1; simp [h, this]
    · have := (str_nonempty h).2.2.1; simp [h, this]
theorem filled_impl (w : ByteArray) : impl_filledCode.f w = some (if isW w then (if w.size = 0 then 5 else 0) else 1) := by
  unfold impl_filledCode.f
  rw [wordCode_1]
  cases isW w
  · simp
  · by_cases h : w.size = 0
    · have := (str_empty h).2.2.1; simp [h, this]
    · have := (str_nonempty h).2.2.1; simp [h, this]

theorem impl_reversed_eq {w : ByteArray} (h : w.size ≤ 1048576) : impl_reversed.f w = some (revW w) := by unfold impl_reversed.f; rw [if_pos (by omega)]

def isPal (w : ByteArray) : Bool := decide (w = revW w)
theorem impl_isPalindrome_eq {w : ByteArray} (h : w.size ≤ 1048576) : impl_isPalindrome.f w = some (isPal w) := by
  unfold impl_isPalindrome.f isPal
  rw [impl_reversed_eq h]
  simp [toList_beq]
theorem isPal_iff (w : ByteArray) : isPal w = true ↔ ∀ i, i < w.size → bt w i = bt w ((w.size - 1 - i : Nat) : Int) := by
  unfold isPal
  rw [decide_eq_true_iff]
  have h1 : w = revW w ↔ bytesOf w = (bytesOf w).reverse := by
    constructor
    · intro h; rw [← bo_rev, ← h]
    · intro h; apply bo_inj; rw [bo_rev]; exact h
  rw [h1]
  have hb : ∀ i, i < w.size → bt w ((w.size - 1 - i : Nat) : Int) = ((bytesOf w).reverse).getD i 0 := fun i hi => by
    rw [bt_nat, List.getD_eq_getElem?_getD, List.getD_eq_getElem?_getD, List.getElem?_reverse (by rw [bo_len]; exact hi), bo_len]
  constructor
  · intro h i hi
    rw [hb i hi, ← h, bt_nat]
  · intro h
    apply List.ext_getElem (by simp)
    intro i h2 h3
    have hi : i < w.size := by rw [bo_len] at h2; exact h2
    have := h i hi
    rw [hb i hi, bt_nat, getD_eq _ _ h2, getD_eq _ _ h3] at this
    exact this
theorem spec_l04Is_l0 (w : ByteArray) (hw : w.size ≤ 1048576) : ∀ (d i k : Nat), 2 * i + d = w.size → d < k → (∀ j, j < i → bt w j = bt w ((w.size - 1 - j : Nat) : Int)) →
    spec_l04Is.l0 k w i ((w.size : Int) - 1 - i) = some (isPal w)
  | 0, i, k, hd, hk, hp => by
    obtain ⟨k, rfl⟩ := rounds_pos (show 0 < k by omega)
    simp only [spec_l04Is.l0]
    rw [if_neg (by omega)]
    congr 1
    symm
    rw [isPal_iff]
    intro j hj
    by_cases h : j < i
    · exact hp j h
    · have := hp (w.size - 1 - j) (by omega)
      rw [this]; congr 1; omega
  | 1, i, k, hd, hk, hp => by
    obtain ⟨k, rfl⟩ := rounds_pos (show 0 < k by omega)
    simp only [spec_l04Is.l0]
    rw [if_neg (by omega)]
    congr 1
    symm
    rw [isPal_iff]
    intro j hj
    rcases Nat.lt_trichotomy j i with h | h | h
    · exact hp j h
    · congr 1; omega
    · have := hp (w.size - 1 - j) (by omega)
      rw [this]; congr 1; omega
  | d + 2, i, k, hd, hk, hp => by
    obtain ⟨k, rfl⟩ := rounds_pos (show 0 < k by omega)
    simp only [spec_l04Is.l0]
    rw [if_pos (by omega), if_pos (by omega), if_pos (by omega), if_pos (by omega), if_pos (by omega)]
    have e : (w.size : Int) - 1 - i = ((w.size - 1 - i : Nat) : Int) := by omega
    by_cases h : bt w i = bt w ((w.size : Int) - 1 - i)
    · rw [if_pos h, w64 (by omega) (by omega), w64 (by omega) (by omega)]
      have := spec_l04Is_l0 w hw d (i + 1) k (by omega) (by omega) (fun j hj => by
        by_cases e2 : j = i
        · subst e2; rw [h, e]
        · exact hp j (by omega))
      rw [← this]
      congr 1
      omega
    · rw [if_neg h]
      congr 1
      symm
      rw [Bool.eq_false_iff]
      intro h2
      rw [isPal_iff] at h2
      exact h (by rw [h2 i (by omega), e])
theorem spec_l04Is_eq {k : Nat} {w : ByteArray} (hw : w.size ≤ 1048576) (hk : w.size < k) : spec_l04Is.f k w = some (isPal w) := by
  unfold spec_l04Is.f
  rw [w64 (by omega) (by omega)]
  have := spec_l04Is_l0 w hw w.size 0 k (by omega) hk (fun j hj => absurd hj (Nat.not_lt_zero _))
  simpa using this

def longPal (w : ByteArray) : ByteArray × Int × Int := let r := longF (fun n i => isPal (w.extract i (i + n))) w.size w.size; (w.extract r.2 (r.2 + r.1), (r.2 : Int), 0)
theorem spec_longPal {k : Nat} {w : ByteArray} (hw : w.size ≤ 60) (h0 : 0 < w.size) (hk : 100000 ≤ k) : spec_LongestPalindrome.l0 k w (w.size : Int) = some (longPal w) := by
  have hm : w.size * (w.size + 3) ≤ 60 * 63 := Nat.mul_le_mul hw (by omega)
  exact long_gen (fun k n => spec_LongestPalindrome.l0 k w n) (fun k n i => spec_LongestPalindrome.l1 k w n i) w.size 1000 (fun n i => isPal (w.extract i (i + n))) (fun n i => (w.extract i (i + n), (i : Int), 0))
    (fun k hk => by
      obtain ⟨k, rfl⟩ := rounds_pos (show 0 < k by omega)
      simp only [spec_LongestPalindrome.l0]
      rw [if_neg (by omega), if_pos (by omega), if_pos (by omega)]; rfl)
    (fun k n hk h1 h2 => by
      simp only [spec_LongestPalindrome.l0]
      rw [if_pos (by omega)])
    (fun k n i hk h1 h2 => by
      simp only [spec_LongestPalindrome.l1]
      rw [w64 (x := (i : Int) + n) (by omega) (by omega), if_pos (by omega), if_pos (by omega), if_pos (by omega), w64 (by omega) (by omega)]
      rw [show ((i : Int) + n).toNat = i + n by omega, Int.toNat_natCast]
      rw [spec_l04Is_eq (by rw [ext_size]; omega) (by rw [ext_size]; omega)]
      rfl)
    (fun k n hk h1 h2 => by
      simp only [spec_LongestPalindrome.l1]
      rw [w64 (by omega) (by omega), if_neg (by omega), w64 (by omega) (by omega)]
      congr 1; omega)
    w.size k h0 (Nat.le_refl _) (by omega)
theorem pal_one (w : ByteArray) (h : w.size = 1) : isPal w = true := by
  rw [isPal_iff]; intro i hi; congr 1; omega
theorem impl_longPal {k : Nat} {w : ByteArray} (hw : w.size ≤ 60) (h0 : 0 < w.size) (hk : 100000 ≤ k) : impl_LongestPalindrome.l0 k w (w.size : Int) = some (longPal w) := by
  have hm : w.size * (w.size + 3) ≤ 60 * 63 := Nat.mul_le_mul hw (by omega)
  have hs : ∀ k n i : Nat, 1 ≤ n → i + n ≤ w.size → impl_LongestPalindrome.l1 (k + 1) w (n : Int) (i : Int) = if isPal (w.extract i (i + n)) = true then some (w.extract i (i + n), (i : Int), 0) else impl_LongestPalindrome.l1 k w n ((i + 1 : Nat) : Int) := fun k n i h1 h2 => by
    simp only [impl_LongestPalindrome.l1]
    rw [w64 (x := (i : Int) + n) (by omega) (by omega), if_pos (by omega), if_pos (by omega), if_pos (by omega), w64 (by omega) (by omega)]
    rw [show ((i : Int) + n).toNat = i + n by omega, Int.toNat_natCast]
    rw [impl_isPalindrome_eq (by rw [ext_size]; omega)]
    rfl
  exact long_gen (fun k n => impl_LongestPalindrome.l0 k w n) (fun k n i => impl_LongestPalindrome.l1 k w n i) w.size 1000 (fun n i => isPal (w.extract i (i + n))) (fun n i => (w.extract i (i + n), (i : Int), 0))
    (fun k hk => by
      obtain ⟨k, rfl⟩ := rounds_pos (show 0 < k by omega)
      obtain ⟨k, rfl⟩ := rounds_pos (show 0 < k by omega)
      simp only [impl_LongestPalindrome.l0]
      have := hs k 1 0 (by omega) (by omega)
      rw [pal_one _ (by rw [ext_size]; omega), if_pos rfl] at this
      exact this)
    (fun k n hk h1 h2 => by simp only [impl_LongestPalindrome.l0])
    (fun k n i hk h1 h2 => hs k n i (by omega) h2)
    (fun k n hk h1 h2 => by
      simp only [impl_LongestPalindrome.l1]
      rw [w64 (by omega) (by omega), if_neg (by omega), w64 (by omega) (by omega)]
      congr 1; omega)
    w.size k h0 (Nat.le_refl _) (by omega)

theorem spec_LongestPalindrome_eq {k : Nat} {w : ByteArray} (h0 : w.size ≤ 1048576) (hk : 1048600 ≤ k) : spec_LongestPalindrome.f k w = some (if isW w then (if w.size = 0 then (⟨#[]⟩, 0, 5) else longPal w) else (⟨#[]⟩, 0, 1)) := by
  unfold spec_LongestPalindrome.f
  rw [filled_spec (by omega) (by omega) (spec_l01Is_eq (by omega) (by omega))]
  cases hw : isW w
  · simp
  · have := isW_size hw
    by_cases h : w.size = 0
    · simp [h]
    · simp only [h, if_true, if_false, Option.bind_some, spec_longPal this (show 0 < w.size by omega) (show 100000 ≤ k by omega)]
theorem impl_LongestPalindrome_eq {k : Nat} {w : ByteArray} (h0 : w.size ≤ 1048576) (hk : 1048600 ≤ k) : impl_LongestPalindrome.f k w = some (if isW w then (if w.size = 0 then (⟨#[]⟩, 0, 5) else longPal w) else (⟨#[]⟩, 0, 1)) := by
  unfold impl_LongestPalindrome.f
  rw [filled_impl]
  cases hw : isW w
  · simp
  · have := isW_size hw
    by_cases h : w.size = 0
    · simp [h]
    · simp only [h, if_true, if_false, Option.bind_some, impl_longPal this (show 0 < w.size by omega) (show 100000 ≤ k by omega)]
theorem FnExactLongestPalindrome : laws_FnExactLongestPalindrome.Pure := by
  intro a0 h0
  by_cases hs : (a0.size : Int) > 1048576
  · exact ⟨0, by unfold laws_FnExactLongestPalindrome.f; rw [if_pos hs]⟩
  · refine ⟨1048600, ?_⟩
    unfold laws_FnExactLongestPalindrome.f
    rw [if_neg hs, spec_LongestPalindrome_eq (by omega) (by omega), impl_LongestPalindrome_eq (by omega) (by omega)]
    simp

end Go.Proofs.Ytjnpobaampgakac.Pure
