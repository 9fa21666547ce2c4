/- The plain part of the law FnExactLongestUnbordered: for every input that the law takes, the printed function of the law answers true once it has rounds enough. Conditions: those that stand in the statement (sizes of strings and slices, kinds of numbers), no other. -/
import Derived.Test.YtjnpobaampgakacQx5
import Derived.Test.YtjnpobaampgakacMath
import Derived.Test.YtjnpobaampgakacMath3
import Derived.Test.YtjnpobaampgakacMath4
namespace Go.Proofs.Ytjnpobaampgakac.Pure
open Go.RowKit Go.Proofs.Ytjnpobaampgakac.Q Go.Proofs.YtjnpobaampgakacW.PrintWords Go.Proofs.YtjnpobaampgakacW.PrintLast Go.Proofs.YtjnpobaampgakacW.PrintMore
set_option linter.unusedVariables false
set_option linter.unusedSimpArgs false

theorem spec_l01Is_eq {k : Nat} {w : ByteArray} (hw : w.size ≤ 140737488351232) (hk : w.size + 1 < k) : spec_l01Is.f k w = some (isW w) := by
  have h := find_gen (fun k i => spec_l01Is.l0 k w i) w.size (fun i => !okB (bt w i)) (fun _ => false) (decide ((w.size : Int) ≤ 60)) 0
    (fun k i _ hi => by
      simp only [spec_l01Is.l0]
      rw [if_pos (by omega), if_pos (by omega)]
      by_cases h1 : bt w i < 97
      · rw [if_pos h1]
        have : okB (bt w i) = false := by unfold okB; simp; omega
        simp [this]
      · rw [if_neg h1]
        by_cases h2 : bt w i > 101
        · rw [if_pos h2]
          have : okB (bt w i) = false := by unfold okB; simp; omega
          simp [this]
        · rw [if_neg h2, w64 (by omega) (by omega)]
          have : okB (bt w i) = true := by unfold okB; simp; omega
          simp [this])
    (fun k _ => by simp only [spec_l01Is.l0]; rw [if_neg (by omega)])
    w.size k 0 (by omega) (by omega)
  unfold spec_l01Is.f
  rw [show (0 : Int) = ((0 : Nat) : Int) from rfl, h]
  congr 1
  unfold isW
  cases hf : findE (fun i => !okB (bt w i)) 0 w.size with
  | some j =>
    obtain ⟨_, h1, h2, _⟩ := findE_some hf
    have : (bytesOf w).all okB = false := by
      rw [Bool.eq_false_iff]
      intro h3
      rw [List.all_eq_true] at h3
      have hj : j < (bytesOf w).length := by rw [bo_len]; omega
      have := h3 _ (List.getElem_mem hj)
      rw [bt_nat, getD_eq _ _ hj, this] at h2
      cases h2
    simp [this]
  | none =>
    have : (bytesOf w).all okB = true := by
      rw [List.all_eq_true]
      intro x hx
      obtain ⟨j, hj, rfl⟩ := List.mem_iff_getElem.mp hx
      have := findE_none.mp hf j (Nat.zero_le _) (by rw [bo_len] at hj; omega)
      rw [bt_nat, getD_eq _ _ hj] at this
      simpa using this
    simp only [this, Bool.and_true, decide_eq_decide]
    omega
theorem spec_not_word {w : ByteArray} (h : w.size > 60) : isW w = false := by unfold isW; simp; omega

theorem wordCode_1 (a : ByteArray) : impl_wordCode.f () [a] = some (if isW a then 0 else 1) := by unfold impl_wordCode.f; simp
theorem wordCode_2 (a b : ByteArray) : impl_wordCode.f () [a, b] = some (if isW a && isW b then 0 else 1) := by unfold impl_wordCode.f; simp

theorem filled_spec {k : Nat} {w : ByteArray} (h0 : w.size ≤ 140737488351232) (hk : w.size + 1 < k) (hI : spec_l01Is.f k w = some (isW w)) : spec_l02Given.f k w = some (if isW w then (if w.size = 0 then 5 else 0) else 1) := by
  unfold spec_l02Given.f
  rw [hI]
  cases isW w
  · simp
  · by_cases h : w.size = 0
    · have := (str_empty h).2.2.1; simp [h, this]
    · have := (str_nonempty h).2.2.1; simp [h, this]
theorem filled_impl (w : ByteArray) : impl_filledCode.f w = some (if isW w then (if w.size = 0 then 5 else 0) else 1) := by
  unfold impl_filledCode.f
  rw [wordCode_1]
  cases isW w
  · simp
  · by_cases h : w.size = 0
    · have := (str_empty h).2.2.1; simp [h, this]
    · have := (str_nonempty h).2.2.1; simp [h, this]

theorem spec_l02Periods_eq {k : Nat} {w : ByteArray} (hw : w.size ≤ 1048576) (hk : w.size + 1 < k) : spec_l02Periods.f k w = some (perL w) := by
  have h := gather_gen (fun k acc i => spec_l02Periods.l0 k w acc i) (w.size + 1) (hasP w) (fun p => (p : Int)) (fun l => l) 0
    (fun k i acc _ hi ha => by
      simp only [spec_l02Periods.l0]
      rw [if_pos (by omega), if_pos (by omega), w64 (x := (w.size : Int) - i) (by omega) (by omega), if_pos (by omega), if_pos (by omega), w64 (x := (i : Int) + 1) (by omega) (by omega)]
      rw [show ((w.size : Int) - i).toNat = w.size - i by omega, Int.toNat_natCast]
      by_cases h1 : w.extract i w.size = w.extract 0 (w.size - i)
      · have : hasP w i = true := by unfold hasP; simpa using h1
        rw [if_pos (toList_iff.mpr h1), if_pos (by omega), this]; rfl
      · have : hasP w i = false := by unfold hasP; simpa using h1
        rw [if_neg (fun e => h1 (toList_iff.mp e)), this]; rfl)
    (fun k acc _ => by simp only [spec_l02Periods.l0]; rw [if_neg (by omega)])
    w.size k 1 [] (by omega) (by omega) (by simp)
  unfold spec_l02Periods.f
  rw [show (1 : Int) = ((1 : Nat) : Int) from rfl, h]
  rfl

theorem impl_hasPeriod_eq {w : ByteArray} {p : Int} (h0 : 0 ≤ p) (h1 : p ≤ w.size) (hw : w.size ≤ 1048576) : impl_hasPeriod.f w p = some (hasP w p.toNat) := by
  unfold impl_hasPeriod.f
  rw [if_pos h0, if_pos h1, w64 (by omega) (by omega), if_pos (by omega), if_pos (by omega), toList_beq]
  unfold hasP
  rw [show ((w.size : Int) - p).toNat = w.size - p.toNat by omega]

theorem impl_period_eq {k : Nat} {w : ByteArray} (hw : w.size ≤ 1048576) (h0 : 0 < w.size) (hk : w.size < k) : impl_period.f k w = some (leastP w : Int) := by
  have h := until_gen (fun k i => impl_period.l0 k w i) w.size (hasP w) (fun j => (j : Int)) 0
    (fun k i _ hi => by
      simp only [impl_period.l0]
      rw [impl_hasPeriod_eq (by omega) (by omega) hw, w64 (by omega) (by omega)]
      rfl)
    (hasP_all w) (w.size - 1) k 1 (by omega) (by omega)
  unfold impl_period.f
  rw [show (1 : Int) = ((1 : Nat) : Int) from rfl, h]
  rfl

def longUnb (w : ByteArray) : ByteArray × Int := let r := longF (fun n i => decide (leastP (w.extract i (i + n)) = n)) w.size w.size; (w.extract r.2 (r.2 + r.1), 0)
theorem spec_longUnb {k : Nat} {w : ByteArray} (hw : w.size ≤ 60) (h0 : 0 < w.size) (hk : 100000 ≤ k) : spec_LongestUnbordered.l0 k w (w.size : Int) = some (longUnb w) := by
  have hm : w.size * (w.size + 3) ≤ 60 * 63 := Nat.mul_le_mul hw (by omega)
  exact long_gen (fun k n => spec_LongestUnbordered.l0 k w n) (fun k n i => spec_LongestUnbordered.l1 k w n i) w.size 1000 (fun n i => decide (leastP (w.extract i (i + n)) = n)) (fun n i => (w.extract i (i + n), 0))
    (fun k hk => by
      obtain ⟨k, rfl⟩ := rounds_pos (show 0 < k by omega)
      simp only [spec_LongestUnbordered.l0]
      rw [if_neg (by omega), if_pos (by omega), if_pos (by omega)])
    (fun k n hk h1 h2 => by
      simp only [spec_LongestUnbordered.l0]
      rw [if_pos (by omega)])
    (fun k n i hk h1 h2 => by
      simp only [spec_LongestUnbordered.l1]
      rw [w64 (x := (i : Int) + n) (by omega) (by omega), if_pos (by omega), if_pos (by omega), if_pos (by omega), w64 (by omega) (by omega)]
      rw [show ((i : Int) + n).toNat = i + n by omega, Int.toNat_natCast]
      have hz : (w.extract i (i + n)).size = n := by rw [ext_size]; omega
      have hp := perL_pos (w := w.extract i (i + n)) (by omega)
      rw [spec_l02Periods_eq (by omega) (by omega)]
      simp only [Option.bind_some]
      rw [if_pos (by omega), perL_rd (by omega)]
      by_cases h : leastP (w.extract i (i + n)) = n
      · rw [if_pos (by omega), if_pos (by simpa using h)]
      · rw [if_neg (by omega), if_neg (by simpa using h)]; rfl)
    (fun k n hk h1 h2 => by
      simp only [spec_LongestUnbordered.l1]
      rw [w64 (by omega) (by omega), if_neg (by omega), w64 (by omega) (by omega)]
      congr 1; omega)
    w.size k h0 (Nat.le_refl _) (by omega)
theorem impl_longUnb {k : Nat} {w : ByteArray} (hw : w.size ≤ 60) (h0 : 0 < w.size) (hk : 100000 ≤ k) : impl_LongestUnbordered.l0 k w (w.size : Int) = some (longUnb w) := by
  have hm : w.size * (w.size + 3) ≤ 60 * 63 := Nat.mul_le_mul hw (by omega)
  have hs : ∀ k n i : Nat, 500 ≤ k → 1 ≤ n → i + n ≤ w.size → impl_LongestUnbordered.l1 (k + 1) w (n : Int) (i : Int) = if decide (leastP (w.extract i (i + n)) = n) = true then some (w.extract i (i + n), 0) else impl_LongestUnbordered.l1 k w n ((i + 1 : Nat) : Int) := fun k n i hk h1 h2 => by
    simp only [impl_LongestUnbordered.l1]
    rw [w64 (x := (i : Int) + n) (by omega) (by omega), if_pos (by omega), if_pos (by omega), if_pos (by omega), w64 (by omega) (by omega)]
    rw [show ((i : Int) + n).toNat = i + n by omega, Int.toNat_natCast]
    have hz : (w.extract i (i + n)).size = n := by rw [ext_size]; omega
    rw [impl_period_eq (by omega) (by omega) (by omega)]
    simp only [Option.bind_some]
    by_cases h : leastP (w.extract i (i + n)) = n
    · rw [if_pos (by omega), if_pos (by simpa using h)]
    · rw [if_neg (by omega), if_neg (by simpa using h)]; rfl
  exact long_gen (fun k n => impl_LongestUnbordered.l0 k w n) (fun k n i => impl_LongestUnbordered.l1 k w n i) w.size 1000 (fun n i => decide (leastP (w.extract i (i + n)) = n)) (fun n i => (w.extract i (i + n), 0))
    (fun k hk => by
      obtain ⟨k, rfl⟩ := rounds_pos (show 0 < k by omega)
      obtain ⟨k, rfl⟩ := rounds_pos (show 0 < k by omega)
      simp only [impl_LongestUnbordered.l0]
      have := hs k 1 0 (by omega) (by omega) (by omega)
      have hz : (w.extract 0 (0 + 1)).size = 1 := by rw [ext_size]; omega
      obtain ⟨a1, a2, _⟩ := leastP_spec (w := w.extract 0 (0 + 1)) (by omega)
      rw [if_pos (by rw [decide_eq_true_iff]; omega)] at this
      exact this)
    (fun k n hk h1 h2 => by simp only [impl_LongestUnbordered.l0])
    (fun k n i hk h1 h2 => hs k n i (by omega) (by omega) h2)
    (fun k n hk h1 h2 => by
      simp only [impl_LongestUnbordered.l1]
      rw [w64 (by omega) (by omega), if_neg (by omega), w64 (by omega) (by omega)]
      congr 1; omega)
    w.size k h0 (Nat.le_refl _) (by omega)

theorem spec_LongestUnbordered_eq {k : Nat} {w : ByteArray} (h0 : w.size ≤ 1048576) (hk : 1048600 ≤ k) : spec_LongestUnbordered.f k w = some (if isW w then (if w.size = 0 then (⟨#[]⟩, 5) else longUnb w) else (⟨#[]⟩, 1)) := by
  unfold spec_LongestUnbordered.f
  rw [filled_spec (by omega) (by omega) (spec_l01Is_eq (by omega) (by omega))]
  cases hw : isW w
  · simp
  · have := isW_size hw
    by_cases h : w.size = 0
    · simp [h]
    · simp only [h, if_true, if_false, Option.bind_some, spec_longUnb this (show 0 < w.size by omega) (show 100000 ≤ k by omega)]
theorem impl_LongestUnbordered_eq {k : Nat} {w : ByteArray} (h0 : w.size ≤ 1048576) (hk : 1048600 ≤ k) : impl_LongestUnbordered.f k w = some (if isW w then (if w.size = 0 then (⟨#[]⟩, 5) else longUnb w) else (⟨#[]⟩, 1)) := by
  unfold impl_LongestUnbordered.f
  rw [filled_impl]
  cases hw : isW w
  · simp
  · have := isW_size hw
    by_cases h : w.size = 0
    · simp [h]
    · simp only [h, if_true, if_false, Option.bind_some, impl_longUnb this (show 0 < w.size by omega) (show 100000 ≤ k by omega)]
theorem FnExactLongestUnbordered : laws_FnExactLongestUnbordered.Pure := by
  intro a0 h0
  by_cases hs : (a0.size : Int) > 1048576
  · exact ⟨0, by unfold laws_FnExactLongestUnbordered.f; rw [if_pos hs]⟩
  · refine ⟨1048600, ?_⟩
    unfold laws_FnExactLongestUnbordered.f
    rw [if_neg hs, spec_LongestUnbordered_eq (by omega) (by omega), impl_LongestUnbordered_eq (by omega) (by omega)]
    simp

end Go.Proofs.Ytjnpobaampgakac.Pure
