/- Words of this session: nested loops. Nothing here speaks of the program. -/
import Derived.Test.YteakipdmpjlhiabGreatMath2
import Derived.Test.YteakipdmpjlhiabGreatMath3
namespace Go.Proofs.YteakipdmpjlhiabGreat
open Go.RowKit Go.Proofs.YteakipdmpjlhiabGreatW.PrintWords Go.Proofs.YteakipdmpjlhiabGreatW.PrintLast Go.Proofs.YteakipdmpjlhiabGreatW.PrintMore
set_option linter.unusedVariables false
set_option linter.unusedSimpArgs false

/-- A loop with a state whose rounds cost several steps. -/
theorem fold_cost {σ α : Type} (F : Nat → σ → Int → Option α) (n : Nat) (g : Nat → σ → σ) (fin : Nat → σ → Option α) (Inv : Nat → σ → Prop) (K C : Nat)
    (hstep : ∀ i s, i < n → Inv i s → ∃ c, c ≤ C ∧ ∀ k, K ≤ k → F (k + c + 1) s (i : Int) = F k (g i s) ((i + 1 : Nat) : Int))
    (hinv : ∀ i s, i < n → Inv i s → Inv (i + 1) (g i s))
    (hend : ∀ k s, K ≤ k → Inv n s → F (k + 1) s (n : Int) = fin k s) :
    ∀ c k i s, i + c = n → c * (C + 1) + K < k → Inv i s → Inv n (loopS g i c s) ∧ ∃ k', K ≤ k' ∧ k ≤ k' + c * (C + 1) + 1 ∧ F k s (i : Int) = fin k' (loopS g i c s)
  | 0, k, i, s, hi, hk, h => by
    obtain ⟨k, rfl⟩ := rounds_pos (show 0 < k by omega)
    obtain rfl : i = n := by omega
    exact ⟨h, k, by omega, by omega, hend k s (by omega) h⟩
  | c + 1, k, i, s, hi, hk, h => by
    rw [Nat.succ_mul] at hk
    obtain ⟨c0, hc0, hF⟩ := hstep i s (by omega) h
    obtain ⟨k, rfl⟩ : ∃ m, k = m + c0 + 1 := ⟨k - c0 - 1, by omega⟩
    rw [hF k (by omega)]
    obtain ⟨h1, k', h2, h3, h4⟩ := fold_cost F n g fin Inv K C hstep hinv hend c k (i + 1) (g i s) (by omega) (by omega) (hinv i s (by omega) h)
    refine ⟨h1, k', h2, ?_, h4⟩
    rw [Nat.succ_mul]; omega
/-- A search that is known to end, whose rounds cost several steps. -/
theorem until_cost {α : Type} (F : Nat → Int → Option α) (n : Nat) (p : Nat → Bool) (hit : Nat → α) (K C : Nat)
    (hstep : ∀ i, i ≤ n → ∃ c, c ≤ C ∧ ∀ k, K ≤ k → F (k + c + 1) (i : Int) = if p i then some (hit i) else F k ((i + 1 : Nat) : Int)) (hn : p n = true) :
    ∀ c k i, i + c = n → (c + 1) * (C + 1) + K < k → F k (i : Int) = some (hit ((findE p i c).getD n))
  | 0, k, i, hi, hk => by
    rw [Nat.zero_add, Nat.one_mul] at hk
    obtain rfl : i = n := by omega
    obtain ⟨c0, hc0, hF⟩ := hstep i (Nat.le_refl _)
    obtain ⟨k, rfl⟩ : ∃ m, k = m + c0 + 1 := ⟨k - c0 - 1, by omega⟩
    rw [hF k (by omega), if_pos hn]; rfl
  | c + 1, k, i, hi, hk => by
    rw [Nat.succ_mul] at hk
    obtain ⟨c0, hc0, hF⟩ := hstep i (by omega)
    obtain ⟨k, rfl⟩ : ∃ m, k = m + c0 + 1 := ⟨k - c0 - 1, by omega⟩
    rw [hF k (by omega)]
    simp only [findE]
    cases hg : p i with
    | true => simp
    | false => simpa using until_cost F n p hit K C hstep hn c k (i + 1) (by omega) (by omega)
/-- A gathering loop that hands on. -/
theorem gather_on {α β : Type} (F : Nat → List β → Int → Option α) (G : Nat → List β → Option α) (n : Nat) (p : Nat → Bool) (f : Nat → β) (K M : Nat)
    (hstep : ∀ k i acc, K ≤ k → i < n → acc.length < M → F (k + 1) acc (i : Int) = if p i then F k (acc ++ [f i]) ((i + 1 : Nat) : Int) else F k acc ((i + 1 : Nat) : Int))
    (hend : ∀ k acc, K ≤ k → F (k + 1) acc (n : Int) = G k acc) :
    ∀ c k i acc, i + c = n → K ≤ k → acc.length + c ≤ M → F (k + c + 1) acc (i : Int) = G k (acc ++ gath p f i c)
  | 0, k, i, acc, hi, hk, ha => by
    obtain rfl : i = n := by omega
    rw [hend k acc (by omega)]; simp [gath]
  | c + 1, k, i, acc, hi, hk, ha => by
    rw [show k + (c + 1) + 1 = (k + c + 1) + 1 by omega, hstep (k + c + 1) i acc (by omega) (by omega) (by omega), gath_succ]
    cases p i with
    | true =>
      rw [if_pos rfl, gather_on F G n p f K M hstep hend c k (i + 1) (acc ++ [f i]) (by omega) (by omega) (by simp; omega)]
      simp
    | false =>
      rw [if_neg (by simp), gather_on F G n p f K M hstep hend c k (i + 1) acc (by omega) (by omega) (by omega)]
      simp
theorem gather_on2 {α β : Type} (F : Nat → List β → Int → Option α) (G : Nat → List β → Option α) (n lo : Nat) (p : Nat → Bool) (f : Nat → β) (K M : Nat)
    (hstep : ∀ k i acc, K ≤ k → lo ≤ i → i < n → acc.length < M → F (k + 1) acc (i : Int) = if p i then F k (acc ++ [f i]) ((i + 1 : Nat) : Int) else F k acc ((i + 1 : Nat) : Int))
    (hend : ∀ k acc, K ≤ k → F (k + 1) acc (n : Int) = G k acc) :
    ∀ c k i acc, i + c = n → lo ≤ i → K ≤ k → acc.length + c ≤ M → F (k + c + 1) acc (i : Int) = G k (acc ++ gath p f i c)
  | 0, k, i, acc, hi, hl, hk, ha => by
    obtain rfl : i = n := by omega
    rw [hend k acc (by omega)]; simp [gath]
  | c + 1, k, i, acc, hi, hl, hk, ha => by
    rw [show k + (c + 1) + 1 = (k + c + 1) + 1 by omega, hstep (k + c + 1) i acc (by omega) hl (by omega) (by omega), gath_succ]
    cases p i with
    | true =>
      rw [if_pos rfl, gather_on2 F G n lo p f K M hstep hend c k (i + 1) (acc ++ [f i]) (by omega) (by omega) (by omega) (by simp; omega)]
      simp
    | false =>
      rw [if_neg (by simp), gather_on2 F G n lo p f K M hstep hend c k (i + 1) acc (by omega) (by omega) (by omega) (by omega)]
      simp
theorem find_from {α : Type} (F : Nat → Int → Option α) (n lo : Nat) (p : Nat → Bool) (hit : Nat → α) (miss : α) (K : Nat)
    (hstep : ∀ k i, K ≤ k → lo ≤ i → i < n → F (k + 1) (i : Int) = if p i then some (hit i) else F k ((i + 1 : Nat) : Int))
    (hend : ∀ k, K ≤ k → F (k + 1) (n : Int) = some miss) :
    ∀ c k i, i + c = n → lo ≤ i → c + K < k → F k (i : Int) = some (match findE p i c with | some j => hit j | none => miss)
  | 0, k, i, hi, hl, hk => by
    obtain ⟨k, rfl⟩ := rounds_pos (show 0 < k by omega)
    obtain rfl : i = n := by omega
    exact hend k (by omega)
  | c + 1, k, i, hi, hl, hk => by
    obtain ⟨k, rfl⟩ := rounds_pos (show 0 < k by omega)
    rw [hstep k i (by omega) hl (by omega)]
    simp only [findE]
    cases hg : p i with
    | true => simp
    | false => simpa using find_from F n lo p hit miss K hstep hend c k (i + 1) (by omega) (by omega) (by omega)
theorem loopS_append {β : Type} (f : Nat → List β) : ∀ (c i : Nat) (acc : List β), loopS (fun i a => a ++ f i) i c acc = acc ++ (List.range' i c).flatMap f
  | 0, i, acc => by simp [loopS]
  | c + 1, i, acc => by
    simp only [loopS]
    rw [loopS_append f c (i + 1), List.range'_succ]
    simp
theorem gath_none {β : Type} (p : Nat → Bool) (f : Nat → β) (i c : Nat) (h : ∀ m, i ≤ m → m < i + c → p m = false) : gath p f i c = [] := by
  unfold gath
  rw [List.map_eq_nil_iff, List.filter_eq_nil_iff]
  intro x hx
  rw [List.mem_range'_1] at hx
  simp [h x hx.1 hx.2]
theorem gath_nil {β : Type} {p : Nat → Bool} {f : Nat → β} {i c : Nat} : gath p f i c = [] ↔ ∀ m, i ≤ m → m < i + c → p m = false := by
  constructor
  · intro h m h1 h2
    rw [Bool.eq_false_iff]; intro h3
    have : f m ∈ gath p f i c := gath_mem.mpr ⟨m, h1, h2, h3, rfl⟩
    rw [h] at this; cases this
  · exact gath_none p f i c
/-! ### lists that are compared, marked and held -/
/-! ### parts of words -/
theorem ext_bt (s : ByteArray) {i j m : Nat} (h : i + m < j) : bt (s.extract i j) m = bt s ((i + m : Nat) : Int) := by
  rw [bt_nat, bt_nat, bo_extract, List.getD_eq_getElem?_getD, List.getD_eq_getElem?_getD, List.getElem?_drop, List.getElem?_take]
  rw [if_pos h]
theorem ext_eq_iff {s u : ByteArray} {i : Nat} (h : i + u.size ≤ s.size) : s.extract i (i + u.size) = u ↔ ∀ m : Nat, m < u.size → bt s ((i + m : Nat) : Int) = bt u m := by
  constructor
  · intro e m hm
    rw [← ext_bt s (j := i + u.size) (by omega), e]
  · intro e
    apply bo_inj
    apply List.ext_getElem (by rw [bo_len, bo_len, ext_size]; omega)
    intro m h1 h2
    rw [bo_len] at h2
    have := e m h2
    rw [← ext_bt s (j := i + u.size) (by omega), bt_nat, bt_nat, getD_eq _ _ h1, getD_eq _ _ (by rw [bo_len]; exact h2)] at this
    exact this
end Go.Proofs.YteakipdmpjlhiabGreat

