/- Words of this session: more loops; periods. Nothing here speaks of the program. -/
import Derived.Test.YteakipdmpjlhiabGreatMath
namespace Go.Proofs.YteakipdmpjlhiabGreat
open Go.RowKit Go.Proofs.YteakipdmpjlhiabGreatW.PrintWords Go.Proofs.YteakipdmpjlhiabGreatW.PrintLast Go.Proofs.YteakipdmpjlhiabGreatW.PrintMore
set_option linter.unusedVariables false
set_option linter.unusedSimpArgs false

/-! ### a loop whose rounds cost several steps -/
theorem loop_cost {σ α : Type} (F : Nat → σ → Int → Option α) (n : Nat) (g : Nat → σ → α ⊕ σ) (fin : σ → α) (Inv : Nat → σ → Prop) (K C : Nat)
    (hstep : ∀ i s, i < n → Inv i s → ∃ c, c ≤ C ∧ ∀ k, K ≤ k → F (k + c + 1) s (i : Int) = (match g i s with | .inl a => some a | .inr s' => F k s' ((i + 1 : Nat) : Int)))
    (hinv : ∀ i s s', i < n → Inv i s → g i s = .inr s' → Inv (i + 1) s')
    (hend : ∀ k s, K ≤ k → Inv n s → F (k + 1) s (n : Int) = some (fin s)) :
    ∀ c k i s, i + c = n → c * (C + 1) + K < k → Inv i s → F k s (i : Int) = some (loopE g fin i c s)
  | 0, k, i, s, hi, hk, h => by
    obtain ⟨k, rfl⟩ := rounds_pos (show 0 < k by omega)
    obtain rfl : i = n := by omega
    exact hend k s (by omega) h
  | c + 1, k, i, s, hi, hk, h => by
    rw [Nat.succ_mul] at hk
    obtain ⟨c0, hc0, hF⟩ := hstep i s (by omega) h
    obtain ⟨k, rfl⟩ : ∃ m, k = m + c0 + 1 := ⟨k - c0 - 1, by omega⟩
    rw [hF k (by omega)]
    simp only [loopE]
    cases hg : g i s with
    | inl a => rfl
    | inr s' => exact loop_cost F n g fin Inv K C hstep hinv hend c k (i + 1) s' (by omega) (by omega) (hinv i s s' (by omega) h hg)
/-- A search that hands on. -/
theorem find_on {α : Type} (F : Nat → Int → Option α) (G : Nat → Option α) (n : Nat) (p : Nat → Bool) (hit : Nat → α) (K : Nat)
    (hstep : ∀ k i, K ≤ k → i < n → F (k + 1) (i : Int) = if p i then some (hit i) else F k ((i + 1 : Nat) : Int))
    (hend : ∀ k, K ≤ k → F (k + 1) (n : Int) = G k) :
    ∀ c k i, i + c = n → K ≤ k → F (k + c + 1) (i : Int) = (match findE p i c with | some j => some (hit j) | none => G k)
  | 0, k, i, hi, hk => by
    obtain rfl : i = n := by omega
    exact hend k hk
  | c + 1, k, i, hi, hk => by
    rw [show k + (c + 1) + 1 = (k + c + 1) + 1 by omega, hstep (k + c + 1) i (by omega) (by omega)]
    simp only [findE]
    cases hg : p i with
    | true => simp
    | false => simpa using find_on F G n p hit K hstep hend c k (i + 1) (by omega) hk
/-- A search that is known to end. -/
theorem until_gen {α : Type} (F : Nat → Int → Option α) (n : Nat) (p : Nat → Bool) (hit : Nat → α) (K : Nat)
    (hstep : ∀ k i, K ≤ k → i ≤ n → F (k + 1) (i : Int) = if p i then some (hit i) else F k ((i + 1 : Nat) : Int)) (hn : p n = true) :
    ∀ c k i, i + c = n → c + K < k → F k (i : Int) = some (hit ((findE p i c).getD n))
  | 0, k, i, hi, hk => by
    obtain ⟨k, rfl⟩ := rounds_pos (show 0 < k by omega)
    obtain rfl : i = n := by omega
    rw [hstep k i (by omega) (Nat.le_refl _), if_pos hn]; rfl
  | c + 1, k, i, hi, hk => by
    obtain ⟨k, rfl⟩ := rounds_pos (show 0 < k by omega)
    rw [hstep k i (by omega) (by omega)]
    simp only [findE]
    cases hg : p i with
    | true => simp
    | false => simpa using until_gen F n p hit K hstep hn c k (i + 1) (by omega) (by omega)
/-! ### a loop that gathers -/
def gath {β : Type} (p : Nat → Bool) (f : Nat → β) (i c : Nat) : List β := ((List.range' i c).filter p).map f
theorem gath_succ {β : Type} (p : Nat → Bool) (f : Nat → β) (i c : Nat) : gath p f i (c + 1) = (if p i then [f i] else []) ++ gath p f (i + 1) c := by
  unfold gath
  rw [List.range'_succ, List.filter_cons]
  cases p i <;> simp
theorem gath_len {β : Type} (p : Nat → Bool) (f : Nat → β) (i c : Nat) : (gath p f i c).length ≤ c := by
  unfold gath
  rw [List.length_map]
  exact Nat.le_trans (List.length_filter_le _ _) (by simp)
theorem gath_mem {β : Type} {p : Nat → Bool} {f : Nat → β} {i c : Nat} {x : β} : x ∈ gath p f i c ↔ ∃ m, i ≤ m ∧ m < i + c ∧ p m = true ∧ f m = x := by
  unfold gath
  simp only [List.mem_map, List.mem_filter, List.mem_range'_1]
  constructor
  · rintro ⟨m, ⟨⟨h1, h2⟩, h3⟩, h4⟩; exact ⟨m, h1, h2, h3, h4⟩
  · rintro ⟨m, h1, h2, h3, h4⟩; exact ⟨m, ⟨⟨h1, h2⟩, h3⟩, h4⟩
theorem gath_head {β : Type} (p : Nat → Bool) (f : Nat → β) : ∀ (c i : Nat), (gath p f i c).head? = (findE p i c).map f
  | 0, i => rfl
  | c + 1, i => by
    rw [gath_succ]
    simp only [findE]
    cases p i with
    | true => simp
    | false => simpa using gath_head p f c (i + 1)
theorem gather_gen {α β : Type} (F : Nat → List β → Int → Option α) (n : Nat) (p : Nat → Bool) (f : Nat → β) (fin : List β → α) (K : Nat)
    (hstep : ∀ k i acc, K ≤ k → i < n → acc.length ≤ i → F (k + 1) acc (i : Int) = if p i then F k (acc ++ [f i]) ((i + 1 : Nat) : Int) else F k acc ((i + 1 : Nat) : Int))
    (hend : ∀ k acc, K ≤ k → F (k + 1) acc (n : Int) = some (fin acc)) :
    ∀ c k i acc, i + c = n → c + K < k → acc.length ≤ i → F k acc (i : Int) = some (fin (acc ++ gath p f i c))
  | 0, k, i, acc, hi, hk, ha => by
    obtain ⟨k, rfl⟩ := rounds_pos (show 0 < k by omega)
    obtain rfl : i = n := by omega
    rw [hend k acc (by omega)]; simp [gath]
  | c + 1, k, i, acc, hi, hk, ha => by
    obtain ⟨k, rfl⟩ := rounds_pos (show 0 < k by omega)
    rw [hstep k i acc (by omega) (by omega) ha, gath_succ]
    cases p i with
    | true =>
      rw [if_pos rfl, gather_gen F n p f fin K hstep hend c k (i + 1) (acc ++ [f i]) (by omega) (by omega) (by simp; omega)]
      simp
    | false =>
      rw [if_neg (by simp), gather_gen F n p f fin K hstep hend c k (i + 1) acc (by omega) (by omega) (by omega)]
      simp

/-! ### periods -/
def hasP (w : ByteArray) (p : Nat) : Bool := decide (w.extract p w.size = w.extract 0 (w.size - p))
theorem hasP_iff {w : ByteArray} {p : Nat} (hp : p ≤ w.size) : hasP w p = true ↔ ∀ i : Nat, i + p < w.size → bt w i = bt w ((i + p : Nat) : Int) := by
  unfold hasP
  rw [decide_eq_true_iff]
  have h1 : w.extract p w.size = w.extract 0 (w.size - p) ↔ (bytesOf w).drop p = (bytesOf w).take (w.size - p) := by
    constructor
    · intro h
      have := congrArg bytesOf h
      rw [bo_extract, bo_extract, List.drop_zero, ← bo_len, List.take_length] at this
      rw [← bo_len]; exact this
    · intro h
      apply bo_inj
      rw [bo_extract, bo_extract, List.drop_zero]
      rw [← bo_len, List.take_length, bo_len]; exact h
  rw [h1]
  constructor
  · intro h i hi
    have := congrArg (fun l => l.getD i 0) h
    simp only [List.getD_eq_getElem?_getD, List.getElem?_drop, List.getElem?_take] at this
    rw [if_pos (by omega)] at this
    rw [bt_nat, bt_nat, List.getD_eq_getElem?_getD, List.getD_eq_getElem?_getD, ← this, Nat.add_comm]
  · intro h
    apply List.ext_getElem (by rw [List.length_drop, List.length_take, bo_len]; omega)
    intro i h2 h3
    rw [List.length_drop, bo_len] at h2
    have := h i (by omega)
    rw [bt_nat, bt_nat, getD_eq _ _ (by rw [bo_len]; omega), getD_eq _ _ (by rw [bo_len]; omega)] at this
    rw [List.getElem_drop, List.getElem_take, this]
    congr 1; omega
theorem hasP_all (w : ByteArray) : hasP w w.size = true := by
  rw [hasP_iff (Nat.le_refl _)]; intro i hi; omega
/-- all periods, ascending; the least one -/
def perL (w : ByteArray) : List Int := gath (hasP w) (fun p => (p : Int)) 1 w.size
def leastP (w : ByteArray) : Nat := (findE (hasP w) 1 (w.size - 1)).getD w.size
theorem leastP_spec {w : ByteArray} (h : 0 < w.size) : 1 ≤ leastP w ∧ leastP w ≤ w.size ∧ hasP w (leastP w) = true ∧ ∀ q, 1 ≤ q → q < leastP w → hasP w q = false := by
  unfold leastP
  cases hf : findE (hasP w) 1 (w.size - 1) with
  | some j =>
    obtain ⟨h1, h2, h3, h4⟩ := findE_some hf
    exact ⟨h1, by simp only [Option.getD_some]; omega, h3, h4⟩
  | none =>
    refine ⟨by simp only [Option.getD_none]; omega, Nat.le_refl _, hasP_all w, fun q h1 h2 => ?_⟩
    exact findE_none.mp hf q h1 (by simp only [Option.getD_none] at h2; omega)
theorem leastP_unique {w : ByteArray} {p : Nat} (h : 0 < w.size) (h1 : 1 ≤ p) (h3 : hasP w p = true) (h4 : ∀ q, 1 ≤ q → q < p → hasP w q = false) : leastP w = p := by
  obtain ⟨a1, a2, a3, a4⟩ := leastP_spec h
  rcases Nat.lt_trichotomy (leastP w) p with h5 | h5 | h5
  · rw [h4 _ a1 h5] at a3; cases a3
  · exact h5
  · rw [a4 _ h1 h5] at h3; cases h3
theorem perL_head {w : ByteArray} (h : 0 < w.size) : (perL w).head? = some (leastP w : Int) := by
  unfold perL
  rw [gath_head]
  cases hf : findE (hasP w) 1 w.size with
  | some j =>
    obtain ⟨h1, h2, h3, h4⟩ := findE_some hf
    rw [leastP_unique h h1 h3 h4]; rfl
  | none =>
    have := findE_none.mp hf w.size h (by omega)
    rw [hasP_all] at this; cases this
theorem perL_rd {w : ByteArray} (h : 0 < w.size) : rd (perL w) 0 = leastP w := by
  have := perL_head h
  unfold rd
  cases hp : perL w with
  | nil => rw [hp] at this; simp at this
  | cons a l => rw [hp] at this; simpa using this
theorem perL_pos {w : ByteArray} (h : 0 < w.size) : 0 < (perL w).length := by
  have := perL_head h
  cases hp : perL w with
  | nil => rw [hp] at this; simp at this
  | cons a l => simp
theorem perL_len (w : ByteArray) : (perL w).length ≤ w.size := gath_len _ _ _ _
end Go.Proofs.YteakipdmpjlhiabGreat

