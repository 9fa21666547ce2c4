/- The plain part of the law FnExactDoubleLength: for every input that the law takes, the printed function of the law answers true once it has rounds enough. Conditions: those that stand in the statement (sizes of strings and slices, kinds of numbers), no other. -/
import Derived.Test.YtjnpobaampgakaaPFnExactDoubleLengthx
import Derived.Test.YtjnpobaampgakaaMath
namespace Go.Proofs.Ytjnpobaampgakaa.Pure
open Go.RowKit Go.Proofs.Ytjnpobaampgakaa.PFnExactDoubleLength Go.Proofs.YtjnpobaampgakaaW.PrintWords Go.Proofs.YtjnpobaampgakaaW.PrintLast Go.Proofs.YtjnpobaampgakaaW.PrintMore
set_option linter.unusedVariables false
set_option linter.unusedSimpArgs false

theorem spec_l02Gcd_l0 : ∀ (b : Nat) (k a : Nat), b < k → spec_l02Gcd.l0 k (a : Int) (b : Int) = some ((Nat.gcd a b : Nat) : Int)
  | b, k, a, hk => by
    obtain ⟨k, rfl⟩ := rounds_pos (show 0 < k by omega)
    simp only [spec_l02Gcd.l0]
    rcases Nat.eq_zero_or_pos b with h0 | h0
    · subst h0
      rw [if_neg (by omega)]
      simp
    · rw [if_pos (by omega), if_neg (by omega), gcd_step a b]
      have hm := Nat.mod_lt a h0
      rw [show Int.tmod (a : Int) (b : Int) = ((a % b : Nat) : Int) from rfl]
      exact spec_l02Gcd_l0 (a % b) k b (by omega)
theorem spec_l02Gcd_eq {k : Nat} {a b : Int} (ha : 0 ≤ a) (hb : 0 ≤ b) (hk : b < k) : spec_l02Gcd.f k a b = some (gcdI a b) := by
  obtain ⟨a, rfl⟩ := Int.eq_ofNat_of_zero_le ha
  obtain ⟨b, rfl⟩ := Int.eq_ofNat_of_zero_le hb
  unfold spec_l02Gcd.f gcdI
  exact spec_l02Gcd_l0 b k a (by omega)

theorem impl_divisor_l0 : ∀ (b : Nat) (k a : Nat), b < k → impl_divisor.l0 k (a : Int) (b : Int) = some ((Nat.gcd a b : Nat) : Int)
  | b, k, a, hk => by
    obtain ⟨k, rfl⟩ := rounds_pos (show 0 < k by omega)
    simp only [impl_divisor.l0]
    rcases Nat.eq_zero_or_pos b with h0 | h0
    · subst h0
      rw [if_pos (by simp)]
      simp
    · rw [if_neg (by omega), gcd_step a b]
      have hm := Nat.mod_lt a h0
      rw [show Int.tmod (a : Int) (b : Int) = ((a % b : Nat) : Int) from rfl]
      exact impl_divisor_l0 (a % b) k b (by omega)
theorem impl_divisor_eq {k : Nat} {a b : Int} (ha : 0 ≤ a) (hb : 0 ≤ b) (hk : b < k) : impl_divisor.f k a b = some (gcdI a b) := by
  obtain ⟨a, rfl⟩ := Int.eq_ofNat_of_zero_le ha
  obtain ⟨b, rfl⟩ := Int.eq_ofNat_of_zero_le hb
  unfold impl_divisor.f gcdI
  exact impl_divisor_l0 b k a (by omega)

theorem spec_l01In_eq (n lo hi : Int) : spec_l01In.f n lo hi = some (inR n lo hi) := by
  unfold spec_l01In.f inR
  by_cases h : n ≥ lo
  · rw [if_pos h, decide_eq_true (show lo ≤ n from h)]; simp
  · rw [if_neg h, decide_eq_false (show ¬ lo ≤ n from h)]; simp

theorem impl_within_eq (n lo hi : Int) : impl_within.f n lo hi = some (inR n lo hi) := by
  unfold impl_within.f inR
  by_cases h : lo ≤ n
  · rw [if_pos h, decide_eq_true h]; simp
  · rw [if_neg h, decide_eq_false h]; simp

def dblLen (p q : Int) : Int := wrap64 ((wrap64 ((wrap64 (p + q)) - gcdI p q)) - 1)
theorem spec_DoubleLength_eq {k : Nat} (p q : Int) (hk : 1000001 ≤ k) : spec_DoubleLength.f k p q = some (if inR p 1 1000000 && inR q 1 1000000 then (dblLen p q, 0) else (0, 2)) := by
  unfold spec_DoubleLength.f
  rw [spec_l01In_eq, spec_l01In_eq]
  cases h1 : inR p 1 1000000 <;> cases h2 : inR q 1 1000000 <;> simp
  have := inR_true h1
  have := inR_true h2
  rw [spec_l02Gcd_eq (by omega) (by omega) (by omega)]
  rfl
theorem impl_doubleLength_eq {k : Nat} {p q : Int} (hp : 0 ≤ p) (hq : 0 ≤ q) (hk : q < k) : impl_doubleLength.f k p q = some (dblLen p q) := by
  unfold impl_doubleLength.f
  rw [impl_divisor_eq hp hq hk]; rfl
theorem impl_DoubleLength_eq {k : Nat} (p q : Int) (hk : 1000001 ≤ k) : impl_DoubleLength.f k p q = some (if inR p 1 1000000 && inR q 1 1000000 then (dblLen p q, 0) else (0, 2)) := by
  unfold impl_DoubleLength.f
  rw [impl_within_eq, impl_within_eq]
  cases h1 : inR p 1 1000000 <;> cases h2 : inR q 1 1000000 <;> simp
  have := inR_true h1
  have := inR_true h2
  rw [impl_doubleLength_eq (by omega) (by omega) (by omega)]
  rfl

theorem FnExactDoubleLength : laws_FnExactDoubleLength.Pure := by
  intro p q _ _
  refine ⟨1000001, ?_⟩
  unfold laws_FnExactDoubleLength.f
  rw [spec_DoubleLength_eq p q (Nat.le_refl _), impl_DoubleLength_eq p q (Nat.le_refl _)]
  simp

end Go.Proofs.Ytjnpobaampgakaa.Pure
