/- The plain part of the law FnExactExponentOf: for every input that the law takes, the printed function of the law answers true once it has rounds enough. Conditions: those that stand in the statement (sizes of strings and slices, kinds of numbers), no other. -/
import Derived.Test.YtjnpobaampgakacQx11
import Derived.Test.YtjnpobaampgakacMath
import Derived.Test.YtjnpobaampgakacMath3
namespace Go.Proofs.Ytjnpobaampgakac.Pure
open Go.RowKit Go.Proofs.Ytjnpobaampgakac.Q Go.Proofs.YtjnpobaampgakacW.PrintWords Go.Proofs.YtjnpobaampgakacW.PrintLast Go.Proofs.YtjnpobaampgakacW.PrintMore
set_option linter.unusedVariables false
set_option linter.unusedSimpArgs false

theorem spec_l01Is_eq {k : Nat} {w : ByteArray} (hw : w.size ≤ 140737488351232) (hk : w.size + 1 < k) : spec_l01Is.f k w = some (isW w) := by
  have h := find_gen (fun k i => spec_l01Is.l0 k w i) w.size (fun i => !okB (bt w i)) (fun _ => false) (decide ((w.size : Int) ≤ 60)) 0
    (fun k i _ hi => by
      simp only [spec_l01Is.l0]
      rw [if_pos (by omega), if_pos (by omega)]
      by_cases h1 : bt w i < 97
      · rw [if_pos h1]
        have : okB (bt w i) = false := by unfold okB; simp; omega
        simp [this]
      · rw [if_neg h1]
        by_cases h2 : bt w i > 101
        · rw [if_pos h2]
          have : okB (bt w i) = false := by unfold okB; simp; omega
          simp [this]
        · rw [if_neg h2, w64 (by omega) (by omega)]
          have : okB (bt w i) = true := by unfold okB; simp; omega
          simp [this])
    (fun k _ => by simp only [spec_l01Is.l0]; rw [if_neg (by omega)])
    w.size k 0 (by omega) (by omega)
  unfold spec_l01Is.f
  rw [show (0 : Int) = ((0 : Nat) : Int) from rfl, h]
  congr 1
  unfold isW
  cases hf : findE (fun i => !okB (bt w i)) 0 w.size with
  | some j =>
    obtain ⟨_, h1, h2, _⟩ := findE_some hf
    have : (bytesOf w).all okB = false := by
      rw [Bool.eq_false_iff]
      intro h3
      rw [List.all_eq_true] at h3
      have hj : j < (bytesOf w).length := by rw [bo_len]; omega
      have := h3 _ (List.getElem_mem hj)
      rw [bt_nat, getD_eq _ _ hj, this] at h2
      cases h2
    simp [this]
  | none =>
    have : (bytesOf w).all okB = true := by
      rw [List.all_eq_true]
      intro x hx
      obtain ⟨j, hj, rfl⟩ := List.mem_iff_getElem.mp hx
      have := findE_none.mp hf j (Nat.zero_le _) (by rw [bo_len] at hj; omega)
      rw [bt_nat, getD_eq _ _ hj] at this
      simpa using this
    simp only [this, Bool.and_true, decide_eq_decide]
    omega
theorem spec_not_word {w : ByteArray} (h : w.size > 60) : isW w = false := by unfold isW; simp; omega

theorem wordCode_1 (a : ByteArray) : impl_wordCode.f () [a] = some (if isW a then 0 else 1) := by unfold impl_wordCode.f; simp
theorem wordCode_2 (a b : ByteArray) : impl_wordCode.f () [a, b] = some (if isW a && isW b then 0 else 1) := by unfold impl_wordCode.f; simp

theorem filled_spec {k : Nat} {w : ByteArray} (h0 : w.size ≤ 140737488351232) (hk : w.size + 1 < k) (hI : spec_l01Is.f k w = some (isW w)) : spec_l02Given.f k w = some (if isW w then (if w.size = 0 then 5 else 0) else 1) := by
  unfold spec_l02Given.f
  rw [hI]
  cases isW w
  · simp
  · by_cases h : w.size = 0
    · have := (str_empty h).2.2.1; simp [h, this]
    · have := (str_nonempty h).2.2.1; simp [h, this]
theorem filled_impl (w : ByteArray) : impl_filledCode.f w = some (if isW w then (if w.size = 0 then 5 else 0) else 1) := by
  unfold impl_filledCode.f
  rw [wordCode_1]
  cases isW w
  · simp
  · by_cases h : w.size = 0
    · have := (str_empty h).2.2.1; simp [h, this]
    · have := (str_nonempty h).2.2.1; simp [h, this]

theorem spec_l02Periods_eq {k : Nat} {w : ByteArray} (hw : w.size ≤ 1048576) (hk : w.size + 1 < k) : spec_l02Periods.f k w = some (perL w) := by
  have h := gather_gen (fun k acc i => spec_l02Periods.l0 k w acc i) (w.size + 1) (hasP w) (fun p => (p : Int)) (fun l => l) 0
    (fun k i acc _ hi ha => by
      simp only [spec_l02Periods.l0]
      rw [if_pos (by omega), if_pos (by omega), w64 (x := (w.size : Int) - i) (by omega) (by omega), if_pos (by omega), if_pos (by omega), w64 (x := (i : Int) + 1) (by omega) (by omega)]
      rw [show ((w.size : Int) - i).toNat = w.size - i by omega, Int.toNat_natCast]
      by_cases h1 : w.extract i w.size = w.extract 0 (w.size - i)
      · have : hasP w i = true := by unfold hasP; simpa using h1
        rw [if_pos (toList_iff.mpr h1), if_pos (by omega), this]; rfl
      · have : hasP w i = false := by unfold hasP; simpa using h1
        rw [if_neg (fun e => h1 (toList_iff.mp e)), this]; rfl)
    (fun k acc _ => by simp only [spec_l02Periods.l0]; rw [if_neg (by omega)])
    w.size k 1 [] (by omega) (by omega) (by simp)
  unfold spec_l02Periods.f
  rw [show (1 : Int) = ((1 : Nat) : Int) from rfl, h]
  rfl

theorem impl_hasPeriod_eq {w : ByteArray} {p : Int} (h0 : 0 ≤ p) (h1 : p ≤ w.size) (hw : w.size ≤ 1048576) : impl_hasPeriod.f w p = some (hasP w p.toNat) := by
  unfold impl_hasPeriod.f
  rw [if_pos h0, if_pos h1, w64 (by omega) (by omega), if_pos (by omega), if_pos (by omega), toList_beq]
  unfold hasP
  rw [show ((w.size : Int) - p).toNat = w.size - p.toNat by omega]

theorem impl_period_eq {k : Nat} {w : ByteArray} (hw : w.size ≤ 1048576) (h0 : 0 < w.size) (hk : w.size < k) : impl_period.f k w = some (leastP w : Int) := by
  have h := until_gen (fun k i => impl_period.l0 k w i) w.size (hasP w) (fun j => (j : Int)) 0
    (fun k i _ hi => by
      simp only [impl_period.l0]
      rw [impl_hasPeriod_eq (by omega) (by omega) hw, w64 (by omega) (by omega)]
      rfl)
    (hasP_all w) (w.size - 1) k 1 (by omega) (by omega)
  unfold impl_period.f
  rw [show (1 : Int) = ((1 : Nat) : Int) from rfl, h]
  rfl

theorem spec_l02Gcd_l0 : ∀ (b : Nat) (k a : Nat), b < k → spec_l02Gcd.l0 k (a : Int) (b : Int) = some ((Nat.gcd a b : Nat) : Int)
  | b, k, a, hk => by
    obtain ⟨k, rfl⟩ := rounds_pos (show 0 < k by omega)
    simp only [spec_l02Gcd.l0]
    rcases Nat.eq_zero_or_pos b with h0 | h0
    · subst h0
      rw [if_neg (by omega)]
      simp
    · rw [if_pos (by omega), if_neg (by omega), gcd_step a b]
      have hm := Nat.mod_lt a h0
      rw [show Int.tmod (a : Int) (b : Int) = ((a % b : Nat) : Int) from rfl]
      exact spec_l02Gcd_l0 (a % b) k b (by omega)
theorem spec_l02Gcd_eq {k : Nat} {a b : Int} (ha : 0 ≤ a) (hb : 0 ≤ b) (hk : b < k) : spec_l02Gcd.f k a b = some (gcdI a b) := by
  obtain ⟨a, rfl⟩ := Int.eq_ofNat_of_zero_le ha
  obtain ⟨b, rfl⟩ := Int.eq_ofNat_of_zero_le hb
  unfold spec_l02Gcd.f gcdI
  exact spec_l02Gcd_l0 b k a (by omega)

theorem impl_divisor_l0 : ∀ (b : Nat) (k a : Nat), b < k → impl_divisor.l0 k (a : Int) (b : Int) = some ((Nat.gcd a b : Nat) : Int)
  | b, k, a, hk => by
    obtain ⟨k, rfl⟩ := rounds_pos (show 0 < k by omega)
    simp only [impl_divisor.l0]
    rcases Nat.eq_zero_or_pos b with h0 | h0
    · subst h0
      rw [if_pos (by simp)]
      simp
    · rw [if_neg (by omega), gcd_step a b]
      have hm := Nat.mod_lt a h0
      rw [show Int.tmod (a : Int) (b : Int) = ((a % b : Nat) : Int) from rfl]
      exact impl_divisor_l0 (a % b) k b (by omega)
theorem impl_divisor_eq {k : Nat} {a b : Int} (ha : 0 ≤ a) (hb : 0 ≤ b) (hk : b < k) : impl_divisor.f k a b = some (gcdI a b) := by
  obtain ⟨a, rfl⟩ := Int.eq_ofNat_of_zero_le ha
  obtain ⟨b, rfl⟩ := Int.eq_ofNat_of_zero_le hb
  unfold impl_divisor.f gcdI
  exact impl_divisor_l0 b k a (by omega)

def lowN (a b : Int) : Int × Int := (wrap64 (Int.tdiv a (gcdI a b)), wrap64 (Int.tdiv b (gcdI a b)))
theorem gcdI_pos {a b : Int} (h : 0 < a) : 0 < gcdI a b := by
  unfold gcdI
  have := Nat.gcd_pos_of_pos_left b.toNat (show 0 < a.toNat by omega)
  omega
theorem impl_lowest_eq {k : Nat} {a b : Int} (ha : 0 < a) (hb : 0 ≤ b) (hk : b < k) : impl_lowest.f k a b = some (lowN a b) := by
  unfold impl_lowest.f
  rw [impl_divisor_eq (by omega) hb hk]
  simp only [Option.bind_some]
  have := gcdI_pos (b := b) ha
  rw [if_neg (by omega)]; rfl

def expoW (w : ByteArray) : Int × Int × Int := if isW w then (if w.size = 0 then (0, 0, 5) else ((lowN w.size (leastP w)).1, (lowN w.size (leastP w)).2, 0)) else (0, 0, 1)
theorem spec_ExponentOf_eq {k : Nat} {w : ByteArray} (h0 : w.size ≤ 1048576) (hk : 1048600 ≤ k) : spec_ExponentOf.f k w = some (expoW w) := by
  unfold spec_ExponentOf.f expoW
  rw [filled_spec (by omega) (by omega) (spec_l01Is_eq (by omega) (by omega))]
  cases hw : isW w
  · simp
  · by_cases h : w.size = 0
    · simp [h]
    · obtain ⟨a1, a2, _, _⟩ := leastP_spec (w := w) (by omega)
      have := perL_pos (w := w) (by omega)
      have hg := gcdI_pos (a := w.size) (b := (leastP w : Int)) (by omega)
      simp only [h, if_true, if_false, Option.bind_some, spec_l02Periods_eq h0 (show w.size + 1 < k by omega)]
      rw [if_pos (by omega), perL_rd (by omega), spec_l02Gcd_eq (by omega) (by omega) (by omega)]
      simp only [Option.bind_some]
      rw [if_neg (by omega)]; rfl
theorem impl_ExponentOf_eq {k : Nat} {w : ByteArray} (h0 : w.size ≤ 1048576) (hk : 1048600 ≤ k) : impl_ExponentOf.f k w = some (expoW w) := by
  unfold impl_ExponentOf.f impl_size.f expoW
  rw [filled_impl]
  cases hw : isW w
  · simp
  · by_cases h : w.size = 0
    · simp [h]
    · obtain ⟨a1, a2, _, _⟩ := leastP_spec (w := w) (by omega)
      simp only [h, if_true, if_false, Option.bind_some, impl_period_eq h0 (show 0 < w.size by omega) (show w.size < k by omega)]
      rw [impl_lowest_eq (by omega) (by omega) (by omega)]; rfl
theorem FnExactExponentOf : laws_FnExactExponentOf.Pure := by
  intro a0 h0
  by_cases hs : (a0.size : Int) > 1048576
  · exact ⟨0, by unfold laws_FnExactExponentOf.f; rw [if_pos hs]⟩
  · refine ⟨1048600, ?_⟩
    unfold laws_FnExactExponentOf.f
    rw [if_neg hs, spec_ExponentOf_eq (by omega) (by omega), impl_ExponentOf_eq (by omega) (by omega)]
    simp

end Go.Proofs.Ytjnpobaampgakac.Pure
