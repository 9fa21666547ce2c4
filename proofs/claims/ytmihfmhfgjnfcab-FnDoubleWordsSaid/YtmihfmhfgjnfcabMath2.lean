/- Words of this session: the order of lists of numbers; Lyndon words. Nothing here speaks of the program. -/
import Derived.Test.YtmihfmhfgjnfcabMath
namespace Go.Proofs.Ytmihfmhfgjnfcab
open Go.RowKit Go.Proofs.YtmihfmhfgjnfcabW.PrintWords Go.Proofs.YtmihfmhfgjnfcabW.PrintLast Go.Proofs.YtmihfmhfgjnfcabW.PrintMore
set_option linter.unusedVariables false
set_option linter.unusedSimpArgs false

theorem lessI_nil (x : List Int) : lessI x [] = false := by cases x <;> rfl
theorem lessI_cons (a b : Int) (x y : List Int) : lessI (a :: x) (b :: y) = true ↔ a < b ∨ (a = b ∧ lessI x y = true) := by simp [lessI]
theorem lessI_irrefl : ∀ x : List Int, lessI x x = false
  | [] => rfl
  | a :: x => by simp [lessI, lessI_irrefl x]
theorem lessI_trans : ∀ {x y z : List Int}, lessI x y = true → lessI y z = true → lessI x z = true
  | _, [], _, h, _ => by rw [lessI_nil] at h; cases h
  | _, _ :: _, [], _, h => by rw [lessI_nil] at h; cases h
  | [], _ :: _, _ :: _, _, _ => rfl
  | a :: x, b :: y, c :: z, h, h' => by
    rw [lessI_cons] at *
    rcases h with h | ⟨h, h1⟩ <;> rcases h' with h' | ⟨h', h2⟩
    · exact .inl (by omega)
    · exact .inl (by omega)
    · exact .inl (by omega)
    · exact .inr ⟨by omega, lessI_trans h1 h2⟩
theorem lessI_asymm {x y : List Int} (h : lessI x y = true) : lessI y x = false := by
  rw [Bool.eq_false_iff]; intro h2
  have := lessI_trans h h2
  rw [lessI_irrefl] at this; cases this
theorem lessI_total : ∀ {x y : List Int}, x ≠ y → lessI x y = true ∨ lessI y x = true
  | [], [], h => absurd rfl h
  | [], _ :: _, _ => .inl rfl
  | _ :: _, [], _ => .inr rfl
  | a :: x, b :: y, h => by
    rw [lessI_cons, lessI_cons]
    rcases Int.lt_trichotomy a b with h1 | h1 | h1
    · exact .inl (.inl h1)
    · subst h1
      rcases lessI_total (x := x) (y := y) (fun e => h (by rw [e])) with h2 | h2
      · exact .inl (.inr ⟨rfl, h2⟩)
      · exact .inr (.inr ⟨rfl, h2⟩)
    · exact .inr (.inl h1)
theorem lessI_not {x y : List Int} (h : lessI x y = false) : x = y ∨ lessI y x = true := by
  by_cases e : x = y
  · exact .inl e
  · rcases lessI_total e with h2 | h2
    · rw [h] at h2; cases h2
    · exact .inr h2
theorem lessI_left : ∀ (v a b : List Int), lessI (v ++ a) (v ++ b) = lessI a b
  | [], _, _ => rfl
  | x :: v, a, b => by simp [lessI, lessI_left v a b]
theorem lessI_prefix {a b : List Int} (h : a <+: b) (hne : a ≠ b) : lessI a b = true := by
  obtain ⟨c, rfl⟩ := h
  cases c with
  | nil => simp at hne
  | cons x c =>
    have := lessI_left a [] (x :: c)
    rw [List.append_nil] at this
    rw [this]; rfl
/-- A difference stays one, whatever stands behind. -/
theorem lessI_more : ∀ {a b : List Int} (c d : List Int), lessI a b = true → ¬ a <+: b → lessI (a ++ c) (b ++ d) = true
  | _, [], _, _, h, _ => by rw [lessI_nil] at h; cases h
  | [], _ :: _, _, _, _, h => absurd (List.nil_prefix) h
  | x :: a, y :: b, c, d, h, hp => by
    rw [List.cons_append, List.cons_append, lessI_cons]
    rw [lessI_cons] at h
    rcases h with h | ⟨h, h1⟩
    · exact .inl h
    · subst h
      exact .inr ⟨rfl, lessI_more c d h1 (fun hp2 => hp (List.cons_prefix_cons.mpr ⟨rfl, hp2⟩))⟩
theorem not_prefix_len {a b : List Int} (h : a.length = b.length) (hne : a ≠ b) : ¬ a <+: b := fun hp => hne (hp.eq_of_length h)
theorem not_prefix_long {a b : List Int} (h : b.length < a.length) : ¬ a <+: b := fun hp => by have := hp.length_le; omega
theorem lessI_len {a b : List Int} (c d : List Int) (h : a.length = b.length) (hl : lessI a b = true) : lessI (a ++ c) (b ++ d) = true := by
  refine lessI_more c d hl (not_prefix_len h ?_)
  rintro rfl
  rw [lessI_irrefl] at hl; cases hl

/-! ### words that are less than what comes behind in them, and than what comes from them by turning -/
def lynS (l : List Int) : Prop := ∀ k, 0 < k → k < l.length → lessI l (l.drop k) = true
def lynT (l : List Int) : Prop := ∀ k, 0 < k → k < l.length → lessI l (l.drop k ++ l.take k) = true
theorem lynT_of_lynS {l : List Int} (h : lynS l) : lynT l := fun k h0 h1 => by
  have := lessI_more [] (l.take k) (h k h0 h1) (not_prefix_long (by rw [List.length_drop]; omega))
  rwa [List.append_nil] at this
theorem lynS_of_lynT {l : List Int} (h : lynT l) : lynS l := fun k h0 h1 => by
  cases hc : lessI l (l.drop k) with
  | true => rfl
  | false =>
    exfalso
    have hd : (l.drop k).length = l.length - k := List.length_drop ..
    rcases lessI_not hc with e | h2
    · have := congrArg List.length e; omega
    · have ht := h k h0 h1
      by_cases hp : l.drop k <+: l
      · obtain ⟨u, hu⟩ := hp
        have hul : u.length = k := by have := congrArg List.length hu; rw [List.length_append, hd] at this; omega
        have hx : l = l.take k ++ l.drop k := (List.take_append_drop k l).symm
        -- the turned word at k is 'v x', the word 'v u'
        have h3 : lessI (l.drop k ++ u) (l.drop k ++ l.take k) = true := by rw [hu]; exact ht
        rw [lessI_left] at h3
        -- the turned word at n - k is 'u v', the word 'x v'
        have h4 := h (l.length - k) (by omega) (by omega)
        have e1 : l.drop (l.length - k) = u := by
          rw [← hd]
          conv => lhs; arg 2; rw [← hu]
          exact List.drop_left
        have e2 : l.take (l.length - k) = l.drop k := by
          rw [← hd]
          conv => lhs; arg 2; rw [← hu]
          exact List.take_left
        rw [e1, e2] at h4
        have h5 : lessI (u ++ l.drop k) (l.take k ++ l.drop k) = true := lessI_len _ _ (by rw [hul, List.length_take]; omega) h3
        rw [← hx] at h5
        have := lessI_asymm h4
        rw [h5] at this; cases this
      · have h3 := lessI_more (l.take k) [] h2 hp
        rw [List.append_nil] at h3
        have := lessI_asymm ht
        rw [h3] at this; cases this
theorem lyn_iff (l : List Int) : lynS l ↔ lynT l := ⟨lynT_of_lynS, lynS_of_lynT⟩
/-- is it a Lyndon word -/
def lynB (w : ByteArray) : Bool := (findE (fun k => !lessI (bytesOf w) ((bytesOf w).drop k)) 1 (w.size - 1)).isNone && decide (w.size > 0)
theorem lynB_iff (w : ByteArray) : lynB w = true ↔ lynS (bytesOf w) ∧ w.size > 0 := by
  unfold lynB
  rw [Bool.and_eq_true, Option.isNone_iff_eq_none, findE_none, decide_eq_true_iff]
  constructor
  · rintro ⟨h, h0⟩
    refine ⟨fun k h1 h2 => ?_, h0⟩
    rw [bo_len] at h2
    simpa using h k (by omega) (by omega)
  · rintro ⟨h, h0⟩
    refine ⟨fun m h1 h2 => ?_, h0⟩
    have := h m (by omega) (by rw [bo_len]; omega)
    simp [this]

end Go.Proofs.Ytmihfmhfgjnfcab

