/- General words of this session: loops with a number of rounds, words of letters, small facts on numbers. Nothing here speaks of the program. -/
import Derived.Test.YteakipdmpjlhiabGreatWWords
import Derived.Test.YteakipdmpjlhiabGreatWMore
import Derived.Laws.Strings
import Derived.Lib.Strings
namespace Go.Proofs.YteakipdmpjlhiabGreat
open Go.RowKit Go.Proofs.YteakipdmpjlhiabGreatW.PrintWords Go.Proofs.YteakipdmpjlhiabGreatW.PrintLast Go.Proofs.YteakipdmpjlhiabGreatW.PrintMore
set_option linter.unusedVariables false

/-! ### numbers -/
theorem w64 {x : Int} (h0 : -9223372036854775808 ≤ x) (h1 : x ≤ 9223372036854775807) : wrap64 x = x := by unfold wrap64; omega
theorem rounds_pos {k : Nat} (h : 0 < k) : ∃ m, k = m + 1 := ⟨k - 1, by omega⟩

/-! ### loops: a state, a counter that goes up by one, maybe an early end -/
def loopE {σ α : Type} (g : Nat → σ → α ⊕ σ) (fin : σ → α) : Nat → Nat → σ → α
  | _, 0, s => fin s
  | i, c + 1, s => match g i s with
    | .inl a => a
    | .inr s' => loopE g fin (i + 1) c s'
/-- Only a search: no state. -/
def findE (p : Nat → Bool) : Nat → Nat → Option Nat
  | _, 0 => none
  | i, c + 1 => if p i then some i else findE p (i + 1) c
theorem find_gen {α : Type} (F : Nat → Int → Option α) (n : Nat) (p : Nat → Bool) (hit : Nat → α) (miss : α) (K : Nat)
    (hstep : ∀ k i, K ≤ k → i < n → F (k + 1) (i : Int) = if p i then some (hit i) else F k ((i + 1 : Nat) : Int))
    (hend : ∀ k, K ≤ k → F (k + 1) (n : Int) = some miss) :
    ∀ c k i, i + c = n → c + K < k → F k (i : Int) = some (match findE p i c with | some j => hit j | none => miss)
  | 0, k, i, hi, hk => by
    obtain ⟨k, rfl⟩ := rounds_pos (show 0 < k by omega)
    obtain rfl : i = n := by omega
    exact hend k (by omega)
  | c + 1, k, i, hi, hk => by
    obtain ⟨k, rfl⟩ := rounds_pos (show 0 < k by omega)
    rw [hstep k i (by omega) (by omega)]
    simp only [findE]
    cases hg : p i with
    | true => simp
    | false => simpa using find_gen F n p hit miss K hstep hend c k (i + 1) (by omega) (by omega)
theorem findE_some {p : Nat → Bool} : ∀ {c i j : Nat}, findE p i c = some j → i ≤ j ∧ j < i + c ∧ p j = true ∧ ∀ m, i ≤ m → m < j → p m = false
  | 0, i, j, h => by simp [findE] at h
  | c + 1, i, j, h => by
    simp only [findE] at h
    by_cases hp : p i = true
    · rw [if_pos hp] at h
      injection h with h
      subst h
      exact ⟨Nat.le_refl _, by omega, hp, fun m h1 h2 => by omega⟩
    · rw [if_neg hp] at h
      obtain ⟨h1, h2, h3, h4⟩ := findE_some h
      refine ⟨by omega, by omega, h3, fun m hm1 hm2 => ?_⟩
      by_cases e : m = i
      · subst e; simpa using hp
      · exact h4 m (by omega) hm2
theorem findE_none {p : Nat → Bool} : ∀ {c i : Nat}, findE p i c = none ↔ ∀ m, i ≤ m → m < i + c → p m = false
  | 0, i => by simp [findE]; intro m h1 h2; omega
  | c + 1, i => by
    simp only [findE]
    by_cases hp : p i = true
    · rw [if_pos hp]
      constructor
      · intro h; cases h
      · intro h; have := h i (Nat.le_refl _) (by omega); rw [hp] at this; cases this
    · rw [if_neg hp, findE_none]
      constructor
      · intro h m h1 h2
        by_cases e : m = i
        · subst e; simpa using hp
        · exact h m (by omega) (by omega)
      · intro h m h1 h2; exact h m (by omega) (by omega)
/-- Only a state: no early end. -/
def loopS {σ : Type} (g : Nat → σ → σ) : Nat → Nat → σ → σ
  | _, 0, s => s
  | i, c + 1, s => loopS g (i + 1) c (g i s)
/-! ### words of letters -/
def okB (c : Int) : Bool := decide (97 ≤ c) && decide (c < 102)
def isW (w : ByteArray) : Bool := decide (w.size ≤ 60) && (bytesOf w).all okB

/-! ### the first index at which something holds -/
def idxL {α : Type} (p : α → Bool) (l : List α) : Int := if l.findIdx p < l.length then (l.findIdx p : Int) else -1
theorem idxL_hit {α : Type} (p : α → Bool) (l : List α) (d : α) (k : Nat) (hk : k < l.length) (h : p (l.getD k d) = true) (hb : ∀ j, j < k → p (l.getD j d) = false) : idxL p l = k := by
  have e : l.findIdx p = k := by
    rw [List.findIdx_eq hk]
    refine ⟨by rw [List.getD_eq_getElem?_getD, List.getElem?_eq_getElem hk] at h; exact h, fun j hj => ?_⟩
    have := hb j hj
    rw [List.getD_eq_getElem?_getD, List.getElem?_eq_getElem (by omega)] at this
    exact this
  unfold idxL
  rw [e, if_pos hk]
theorem idxL_miss {α : Type} (p : α → Bool) (l : List α) (d : α) (hb : ∀ j, j < l.length → p (l.getD j d) = false) : idxL p l = -1 := by
  unfold idxL
  rw [if_neg]
  intro h
  have h1 := List.findIdx_getElem (w := h)
  have h2 := hb _ h
  rw [List.getD_eq_getElem?_getD, List.getElem?_eq_getElem h] at h2
  simp only [Option.getD_some] at h2
  rw [h1] at h2
  cases h2
theorem idxL_any {α : Type} (p : α → Bool) (l : List α) : decide (0 ≤ idxL p l) = l.any p := by
  unfold idxL
  by_cases h : l.findIdx p < l.length
  · rw [if_pos h]
    have : l.any p = true := by rw [List.any_eq_true]; exact List.findIdx_lt_length.mp h
    rw [this]; simp
  · rw [if_neg h]
    have : l.any p = false := by
      rw [Bool.eq_false_iff]; intro h2; rw [List.any_eq_true] at h2; exact h (List.findIdx_lt_length.mpr h2)
    rw [this]; decide
theorem not_any_not {α : Type} (p : α → Bool) (l : List α) : (!l.any fun x => !p x) = l.all p := by
  induction l with
  | nil => rfl
  | cons a l ih => simp only [List.any_cons, List.all_cons, Bool.not_or, Bool.not_not]; rw [ih]

theorem isW_size {w : ByteArray} (h : isW w = true) : w.size ≤ 60 := by unfold isW at h; simp at h; exact h.1
theorem take_bytes_snoc (s : ByteArray) (k : Nat) (h : k < s.size) : (bytesOf s).take (k + 1) = (bytesOf s).take k ++ [bt s k] := by
  have hl : k < (bytesOf s).length := by simpa [bytesOf] using h
  rw [List.take_succ_eq_append_getElem hl]
  congr 2
  unfold bt
  rw [dif_pos (by simpa using h)]
  simp [bytesOf]
  rfl
/-- the reversed word -/
def revW (w : ByteArray) : ByteArray := strOfNums (bytesOf w).reverse
/-- in a range -/
def inR (n lo hi : Int) : Bool := decide (lo ≤ n) && decide (n ≤ hi)
theorem inR_eq (n lo hi : Int) : Aside0 (inR n lo hi = (decide (lo ≤ n) && decide (n ≤ hi))) := ⟨rfl⟩
theorem inR_true {n lo hi : Int} (h : inR n lo hi = true) : lo ≤ n ∧ n ≤ hi := by unfold inR at h; simpa using h
/-! ### the order of strings -/
theorem less_irrefl : ∀ x : List UInt8, Op.bytesLess x x = false
  | [] => rfl
  | a :: x => by
    simp only [Op.bytesLess, less_irrefl x, Bool.and_false, Bool.or_false]
    exact decide_eq_false (UInt8.lt_irrefl a)
theorem less_leq : ∀ x y : List UInt8, (Op.bytesLess x y || x == y) = !Op.bytesLess y x
  | [], [] => rfl
  | [], _ :: _ => rfl
  | _ :: _, [] => rfl
  | a :: x, b :: y => by
    have ih := less_leq x y
    simp only [Op.bytesLess]
    by_cases h1 : a < b
    · have h2 : ¬ b < a := UInt8.lt_asymm h1
      have h3 : (b == a) = false := beq_eq_false_iff_ne.mpr (fun e => by subst e; exact UInt8.lt_irrefl _ h1)
      simp [h1, h2, h3]
    · by_cases h2 : b < a
      · have h3 : (a == b) = false := beq_eq_false_iff_ne.mpr (fun e => by subst e; exact UInt8.lt_irrefl _ h2)
        simp [h1, h2, h3]
      · have e : a = b := UInt8.le_antisymm (UInt8.not_lt.mp h2) (UInt8.not_lt.mp h1)
        subst e
        have e1 : decide (a < a) = false := decide_eq_false h1
        have e2 : (a :: x == a :: y) = (x == y) := by simp
        rw [e1, e2]
        simpa using ih
theorem bn_leq (t : TypeId) (a b : ByteArray) : binOp .leq t (.string a) (.string b) = pure (.bool (!Op.bytesLess b.toList a.toList)) := by
  rw [← less_leq]; simp [binOp, Op.stringOp]
theorem bn_gtr (t : TypeId) (a b : ByteArray) : binOp .gtr t (.string a) (.string b) = pure (.bool (Op.bytesLess b.toList a.toList)) := by
  rw [show Op.bytesLess b.toList a.toList = !(Op.bytesLess a.toList b.toList || a.toList == b.toList) by rw [less_leq, Bool.not_not]]; simp [binOp, Op.stringOp]
theorem bn_geq (t : TypeId) (a b : ByteArray) : binOp .geq t (.string a) (.string b) = pure (.bool (!Op.bytesLess a.toList b.toList)) := by
  simp [binOp, Op.stringOp]

end Go.Proofs.YteakipdmpjlhiabGreat

