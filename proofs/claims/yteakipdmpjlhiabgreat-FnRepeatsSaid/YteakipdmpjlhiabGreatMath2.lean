/- Words of this session: the order of lists of numbers; Lyndon words. Nothing here speaks of the program. -/
import Derived.Test.YteakipdmpjlhiabGreatMath
namespace Go.Proofs.YteakipdmpjlhiabGreat
open Go.RowKit Go.Proofs.YteakipdmpjlhiabGreatW.PrintWords Go.Proofs.YteakipdmpjlhiabGreatW.PrintLast Go.Proofs.YteakipdmpjlhiabGreatW.PrintMore
set_option linter.unusedVariables false
set_option linter.unusedSimpArgs false

theorem lessI_nil (x : List Int) : lessI x [] = false := by cases x <;> rfl
theorem lessI_cons (a b : Int) (x y : List Int) : lessI (a :: x) (b :: y) = true ↔ a < b ∨ (a = b ∧ lessI x y = true) := by simp [lessI]
theorem lessI_trans : ∀ {x y z : List Int}, lessI x y = true → lessI y z = true → lessI x z = true
  | _, [], _, h, _ => by rw [lessI_nil] at h; cases h
  | _, _ :: _, [], _, h => by rw [lessI_nil] at h; cases h
  | [], _ :: _, _ :: _, _, _ => rfl
  | a :: x, b :: y, c :: z, h, h' => by
    rw [lessI_cons] at *
    rcases h with h | ⟨h, h1⟩ <;> rcases h' with h' | ⟨h', h2⟩
    · exact .inl (by omega)
    · exact .inl (by omega)
    · exact .inl (by omega)
    · exact .inr ⟨by omega, lessI_trans h1 h2⟩
theorem lessI_total : ∀ {x y : List Int}, x ≠ y → lessI x y = true ∨ lessI y x = true
  | [], [], h => absurd rfl h
  | [], _ :: _, _ => .inl rfl
  | _ :: _, [], _ => .inr rfl
  | a :: x, b :: y, h => by
    rw [lessI_cons, lessI_cons]
    rcases Int.lt_trichotomy a b with h1 | h1 | h1
    · exact .inl (.inl h1)
    · subst h1
      rcases lessI_total (x := x) (y := y) (fun e => h (by rw [e])) with h2 | h2
      · exact .inl (.inr ⟨rfl, h2⟩)
      · exact .inr (.inr ⟨rfl, h2⟩)
    · exact .inr (.inl h1)
/-! ### words that are less than what comes behind in them, and than what comes from them by turning -/
end Go.Proofs.YteakipdmpjlhiabGreat

