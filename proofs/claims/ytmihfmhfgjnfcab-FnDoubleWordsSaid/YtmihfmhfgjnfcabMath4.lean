/- Words of this session: nested loops. Nothing here speaks of the program. -/
import Derived.Test.YtmihfmhfgjnfcabMath2
import Derived.Test.YtmihfmhfgjnfcabMath3
namespace Go.Proofs.Ytmihfmhfgjnfcab
open Go.RowKit Go.Proofs.YtmihfmhfgjnfcabW.PrintWords Go.Proofs.YtmihfmhfgjnfcabW.PrintLast Go.Proofs.YtmihfmhfgjnfcabW.PrintMore
set_option linter.unusedVariables false
set_option linter.unusedSimpArgs false

/-- A loop with a state that hands on. -/
theorem fold_on {σ α : Type} (F : Nat → σ → Int → Option α) (G : Nat → σ → Option α) (n : Nat) (g : Nat → σ → σ) (Inv : Nat → σ → Prop) (K : Nat)
    (hstep : ∀ k i s, K ≤ k → i < n → Inv i s → F (k + 1) s (i : Int) = F k (g i s) ((i + 1 : Nat) : Int))
    (hinv : ∀ i s, i < n → Inv i s → Inv (i + 1) (g i s))
    (hend : ∀ k s, K ≤ k → Inv n s → F (k + 1) s (n : Int) = G k s) :
    ∀ c k i s, i + c = n → K ≤ k → Inv i s → F (k + c + 1) s (i : Int) = G k (loopS g i c s) ∧ Inv n (loopS g i c s)
  | 0, k, i, s, hi, hk, h => by
    obtain rfl : i = n := by omega
    exact ⟨hend k s hk h, h⟩
  | c + 1, k, i, s, hi, hk, h => by
    rw [show k + (c + 1) + 1 = (k + c + 1) + 1 by omega, hstep (k + c + 1) i s (by omega) (by omega) h]
    exact fold_on F G n g Inv K hstep hinv hend c k (i + 1) (g i s) (by omega) hk (hinv i s (by omega) h)
/-- A loop with a state whose rounds cost several steps. -/
theorem fold_cost {σ α : Type} (F : Nat → σ → Int → Option α) (n : Nat) (g : Nat → σ → σ) (fin : Nat → σ → Option α) (Inv : Nat → σ → Prop) (K C : Nat)
    (hstep : ∀ i s, i < n → Inv i s → ∃ c, c ≤ C ∧ ∀ k, K ≤ k → F (k + c + 1) s (i : Int) = F k (g i s) ((i + 1 : Nat) : Int))
    (hinv : ∀ i s, i < n → Inv i s → Inv (i + 1) (g i s))
    (hend : ∀ k s, K ≤ k → Inv n s → F (k + 1) s (n : Int) = fin k s) :
    ∀ c k i s, i + c = n → c * (C + 1) + K < k → Inv i s → Inv n (loopS g i c s) ∧ ∃ k', K ≤ k' ∧ k ≤ k' + c * (C + 1) + 1 ∧ F k s (i : Int) = fin k' (loopS g i c s)
  | 0, k, i, s, hi, hk, h => by
    obtain ⟨k, rfl⟩ := rounds_pos (show 0 < k by omega)
    obtain rfl : i = n := by omega
    exact ⟨h, k, by omega, by omega, hend k s (by omega) h⟩
  | c + 1, k, i, s, hi, hk, h => by
    rw [Nat.succ_mul] at hk
    obtain ⟨c0, hc0, hF⟩ := hstep i s (by omega) h
    obtain ⟨k, rfl⟩ : ∃ m, k = m + c0 + 1 := ⟨k - c0 - 1, by omega⟩
    rw [hF k (by omega)]
    obtain ⟨h1, k', h2, h3, h4⟩ := fold_cost F n g fin Inv K C hstep hinv hend c k (i + 1) (g i s) (by omega) (by omega) (hinv i s (by omega) h)
    refine ⟨h1, k', h2, ?_, h4⟩
    rw [Nat.succ_mul]; omega
/-- A search that is known to end, whose rounds cost several steps. -/
theorem until_cost {α : Type} (F : Nat → Int → Option α) (n : Nat) (p : Nat → Bool) (hit : Nat → α) (K C : Nat)
    (hstep : ∀ i, i ≤ n → ∃ c, c ≤ C ∧ ∀ k, K ≤ k → F (k + c + 1) (i : Int) = if p i then some (hit i) else F k ((i + 1 : Nat) : Int)) (hn : p n = true) :
    ∀ c k i, i + c = n → (c + 1) * (C + 1) + K < k → F k (i : Int) = some (hit ((findE p i c).getD n))
  | 0, k, i, hi, hk => by
    rw [Nat.zero_add, Nat.one_mul] at hk
    obtain rfl : i = n := by omega
    obtain ⟨c0, hc0, hF⟩ := hstep i (Nat.le_refl _)
    obtain ⟨k, rfl⟩ : ∃ m, k = m + c0 + 1 := ⟨k - c0 - 1, by omega⟩
    rw [hF k (by omega), if_pos hn]; rfl
  | c + 1, k, i, hi, hk => by
    rw [Nat.succ_mul] at hk
    obtain ⟨c0, hc0, hF⟩ := hstep i (by omega)
    obtain ⟨k, rfl⟩ : ∃ m, k = m + c0 + 1 := ⟨k - c0 - 1, by omega⟩
    rw [hF k (by omega)]
    simp only [findE]
    cases hg : p i with
    | true => simp
    | false => simpa using until_cost F n p hit K C hstep hn c k (i + 1) (by omega) (by omega)
/-- A gathering loop that hands on. -/
theorem gather_on {α β : Type} (F : Nat → List β → Int → Option α) (G : Nat → List β → Option α) (n : Nat) (p : Nat → Bool) (f : Nat → β) (K M : Nat)
    (hstep : ∀ k i acc, K ≤ k → i < n → acc.length < M → F (k + 1) acc (i : Int) = if p i then F k (acc ++ [f i]) ((i + 1 : Nat) : Int) else F k acc ((i + 1 : Nat) : Int))
    (hend : ∀ k acc, K ≤ k → F (k + 1) acc (n : Int) = G k acc) :
    ∀ c k i acc, i + c = n → K ≤ k → acc.length + c ≤ M → F (k + c + 1) acc (i : Int) = G k (acc ++ gath p f i c)
  | 0, k, i, acc, hi, hk, ha => by
    obtain rfl : i = n := by omega
    rw [hend k acc (by omega)]; simp [gath]
  | c + 1, k, i, acc, hi, hk, ha => by
    rw [show k + (c + 1) + 1 = (k + c + 1) + 1 by omega, hstep (k + c + 1) i acc (by omega) (by omega) (by omega), gath_succ]
    cases p i with
    | true =>
      rw [if_pos rfl, gather_on F G n p f K M hstep hend c k (i + 1) (acc ++ [f i]) (by omega) (by omega) (by simp; omega)]
      simp
    | false =>
      rw [if_neg (by simp), gather_on F G n p f K M hstep hend c k (i + 1) acc (by omega) (by omega) (by omega)]
      simp
theorem gather_on2 {α β : Type} (F : Nat → List β → Int → Option α) (G : Nat → List β → Option α) (n lo : Nat) (p : Nat → Bool) (f : Nat → β) (K M : Nat)
    (hstep : ∀ k i acc, K ≤ k → lo ≤ i → i < n → acc.length < M → F (k + 1) acc (i : Int) = if p i then F k (acc ++ [f i]) ((i + 1 : Nat) : Int) else F k acc ((i + 1 : Nat) : Int))
    (hend : ∀ k acc, K ≤ k → F (k + 1) acc (n : Int) = G k acc) :
    ∀ c k i acc, i + c = n → lo ≤ i → K ≤ k → acc.length + c ≤ M → F (k + c + 1) acc (i : Int) = G k (acc ++ gath p f i c)
  | 0, k, i, acc, hi, hl, hk, ha => by
    obtain rfl : i = n := by omega
    rw [hend k acc (by omega)]; simp [gath]
  | c + 1, k, i, acc, hi, hl, hk, ha => by
    rw [show k + (c + 1) + 1 = (k + c + 1) + 1 by omega, hstep (k + c + 1) i acc (by omega) hl (by omega) (by omega), gath_succ]
    cases p i with
    | true =>
      rw [if_pos rfl, gather_on2 F G n lo p f K M hstep hend c k (i + 1) (acc ++ [f i]) (by omega) (by omega) (by omega) (by simp; omega)]
      simp
    | false =>
      rw [if_neg (by simp), gather_on2 F G n lo p f K M hstep hend c k (i + 1) acc (by omega) (by omega) (by omega) (by omega)]
      simp
theorem find_from {α : Type} (F : Nat → Int → Option α) (n lo : Nat) (p : Nat → Bool) (hit : Nat → α) (miss : α) (K : Nat)
    (hstep : ∀ k i, K ≤ k → lo ≤ i → i < n → F (k + 1) (i : Int) = if p i then some (hit i) else F k ((i + 1 : Nat) : Int))
    (hend : ∀ k, K ≤ k → F (k + 1) (n : Int) = some miss) :
    ∀ c k i, i + c = n → lo ≤ i → c + K < k → F k (i : Int) = some (match findE p i c with | some j => hit j | none => miss)
  | 0, k, i, hi, hl, hk => by
    obtain ⟨k, rfl⟩ := rounds_pos (show 0 < k by omega)
    obtain rfl : i = n := by omega
    exact hend k (by omega)
  | c + 1, k, i, hi, hl, hk => by
    obtain ⟨k, rfl⟩ := rounds_pos (show 0 < k by omega)
    rw [hstep k i (by omega) hl (by omega)]
    simp only [findE]
    cases hg : p i with
    | true => simp
    | false => simpa using find_from F n lo p hit miss K hstep hend c k (i + 1) (by omega) (by omega) (by omega)
theorem gather_from {α β : Type} (F : Nat → List β → Int → Option α) (n lo : Nat) (p : Nat → Bool) (f : Nat → β) (fin : List β → α) (K : Nat)
    (hstep : ∀ k i acc, K ≤ k → lo ≤ i → i < n → acc.length ≤ i → F (k + 1) acc (i : Int) = if p i then F k (acc ++ [f i]) ((i + 1 : Nat) : Int) else F k acc ((i + 1 : Nat) : Int))
    (hend : ∀ k acc, K ≤ k → F (k + 1) acc (n : Int) = some (fin acc)) :
    ∀ c k i acc, i + c = n → lo ≤ i → c + K < k → acc.length ≤ i → F k acc (i : Int) = some (fin (acc ++ gath p f i c))
  | 0, k, i, acc, hi, hl, hk, ha => by
    obtain ⟨k, rfl⟩ := rounds_pos (show 0 < k by omega)
    obtain rfl : i = n := by omega
    rw [hend k acc (by omega)]; simp [gath]
  | c + 1, k, i, acc, hi, hl, hk, ha => by
    obtain ⟨k, rfl⟩ := rounds_pos (show 0 < k by omega)
    rw [hstep k i acc (by omega) hl (by omega) ha, gath_succ]
    cases p i with
    | true =>
      rw [if_pos rfl, gather_from F n lo p f fin K hstep hend c k (i + 1) (acc ++ [f i]) (by omega) (by omega) (by omega) (by simp; omega)]
      simp
    | false =>
      rw [if_neg (by simp), gather_from F n lo p f fin K hstep hend c k (i + 1) acc (by omega) (by omega) (by omega) (by omega)]
      simp
theorem loopS_append {β : Type} (f : Nat → List β) : ∀ (c i : Nat) (acc : List β), loopS (fun i a => a ++ f i) i c acc = acc ++ (List.range' i c).flatMap f
  | 0, i, acc => by simp [loopS]
  | c + 1, i, acc => by
    simp only [loopS]
    rw [loopS_append f c (i + 1), List.range'_succ]
    simp
theorem gath_add {β : Type} (p : Nat → Bool) (f : Nat → β) (i a b : Nat) : gath p f i (a + b) = gath p f i a ++ gath p f (i + a) b := by
  unfold gath
  rw [show List.range' i (a + b) = List.range' i a ++ List.range' (i + a) b from (List.range'_append_1 ..).symm, List.filter_append, List.map_append]
theorem gath_none {β : Type} (p : Nat → Bool) (f : Nat → β) (i c : Nat) (h : ∀ m, i ≤ m → m < i + c → p m = false) : gath p f i c = [] := by
  unfold gath
  rw [List.map_eq_nil_iff, List.filter_eq_nil_iff]
  intro x hx
  rw [List.mem_range'_1] at hx
  simp [h x hx.1 hx.2]
theorem gath_nil {β : Type} {p : Nat → Bool} {f : Nat → β} {i c : Nat} : gath p f i c = [] ↔ ∀ m, i ≤ m → m < i + c → p m = false := by
  constructor
  · intro h m h1 h2
    rw [Bool.eq_false_iff]; intro h3
    have : f m ∈ gath p f i c := gath_mem.mpr ⟨m, h1, h2, h3, rfl⟩
    rw [h] at this; cases this
  · exact gath_none p f i c
/-- The first of the longest. -/
def longF (p : Nat → Nat → Bool) (S : Nat) : Nat → Nat × Nat
  | 0 => (1, 0)
  | 1 => (1, 0)
  | n + 2 => match findE (p (n + 2)) 0 (S - (n + 2) + 1) with
    | some i => (n + 2, i)
    | none => longF p S (n + 1)
theorem long_gen {α : Type} (F0 : Nat → Int → Option α) (F1 : Nat → Int → Int → Option α) (S K : Nat) (p : Nat → Nat → Bool) (hit : Nat → Nat → α)
    (h1 : ∀ k, K < k → F0 k 1 = some (hit 1 0))
    (h0 : ∀ k n, K ≤ k → 1 < n → n ≤ S → F0 (k + 1) (n : Int) = F1 k n 0)
    (hs : ∀ k n i, K ≤ k → 1 < n → i + n ≤ S → F1 (k + 1) (n : Int) (i : Int) = if p n i then some (hit n i) else F1 k n ((i + 1 : Nat) : Int))
    (he : ∀ k n, K ≤ k → 1 < n → n ≤ S → F1 (k + 1) (n : Int) ((S - n + 1 : Nat) : Int) = F0 k ((n - 1 : Nat) : Int)) :
    ∀ n k, 1 ≤ n → n ≤ S → n * (S + 3) + K < k → F0 k (n : Int) = some (hit (longF p S n).1 (longF p S n).2)
  | 0, k, h2, _, _ => by omega
  | 1, k, h2, h3, h4 => h1 k (by omega)
  | n + 2, k, h2, h3, h4 => by
    rw [show n + 2 = (n + 1) + 1 by omega, Nat.succ_mul] at h4
    obtain ⟨k, rfl⟩ : ∃ m, k = m + (S - (n + 2) + 1) + 1 + 1 := ⟨k - (S - (n + 2) + 1) - 1 - 1, by omega⟩
    rw [h0 _ _ (by omega) (by omega) h3]
    have := find_on (fun k i => F1 k ((n + 2 : Nat) : Int) i) (fun k => F0 k ((n + 2 - 1 : Nat) : Int)) (S - (n + 2) + 1) (p (n + 2)) (fun i => hit (n + 2) i) K
      (fun k i hk hi => hs k (n + 2) i hk (by omega) (by omega)) (fun k hk => he k (n + 2) hk (by omega) h3) (S - (n + 2) + 1) k 0 (by omega) (by omega)
    rw [show (0 : Int) = ((0 : Nat) : Int) from rfl, this]
    simp only [longF]
    cases findE (p (n + 2)) 0 (S - (n + 2) + 1) with
    | some i => rfl
    | none => exact long_gen F0 F1 S K p hit h1 h0 hs he (n + 1) k (by omega) (by omega) (by omega)
theorem longF_le (p : Nat → Nat → Bool) (S : Nat) : ∀ n, 1 ≤ n → n ≤ S → 1 ≤ (longF p S n).1 ∧ (longF p S n).2 + (longF p S n).1 ≤ S
  | 0, h, _ => by omega
  | 1, h, h' => by simp only [longF]; omega
  | n + 2, h, h' => by
    simp only [longF]
    cases hf : findE (p (n + 2)) 0 (S - (n + 2) + 1) with
    | some i => have := findE_some hf; simp only; omega
    | none => exact longF_le p S (n + 1) (by omega) (by omega)
/-! ### lists that are compared, marked and held -/
theorem eq_gen {β : Type} [DecidableEq β] (F : Nat → Int → Option Bool) (a b : List β) (d : β) (K : Nat) (hl : a.length = b.length)
    (hstep : ∀ k i, K ≤ k → i < a.length → F (k + 1) (i : Int) = if a.getD i d = b.getD i d then F k ((i + 1 : Nat) : Int) else some false)
    (hend : ∀ k, K ≤ k → F (k + 1) (a.length : Int) = some true) {k : Nat} (hk : a.length + K < k) : F k 0 = some (decide (a = b)) := by
  have h := find_gen F a.length (fun i => !decide (a.getD i d = b.getD i d)) (fun _ => false) true K
    (fun k i hk hi => by
      rw [hstep k i hk hi]
      by_cases h1 : a.getD i d = b.getD i d
      · rw [if_pos h1, decide_eq_true h1]; rfl
      · rw [if_neg h1, decide_eq_false h1]; rfl) hend a.length k 0 (by omega) (by omega)
  rw [show (0 : Int) = ((0 : Nat) : Int) from rfl, h]
  have gd : ∀ (l : List β) (i : Nat) (hi : i < l.length), l.getD i d = l[i] := fun l i hi => by rw [List.getD_eq_getElem?_getD, List.getElem?_eq_getElem hi]; rfl
  cases hf : findE (fun i => !decide (a.getD i d = b.getD i d)) 0 a.length with
  | none =>
    have : a = b := List.ext_getElem hl fun i h1 h2 => by
      have := findE_none.mp hf i (Nat.zero_le _) (by omega)
      rw [gd a i h1, gd b i h2] at this
      simpa using this
    rw [decide_eq_true this]
  | some j =>
    obtain ⟨_, h2, h3, _⟩ := findE_some hf
    have : a ≠ b := by rintro rfl; simp at h3
    rw [decide_eq_false this]
def marksOf {β : Type} (mk : Nat → β) (n : Nat) : List β := (List.range n).map mk
theorem marksOf_len {β : Type} (mk : Nat → β) (n : Nat) : (marksOf mk n).length = n := by unfold marksOf; simp
theorem marksOf_getD {β : Type} (mk : Nat → β) (n : Nat) (d : β) {i : Nat} (h : i < n) : (marksOf mk n).getD i d = mk i := by
  unfold marksOf; simp [List.getD_eq_getElem?_getD, h]
theorem mark_gen {β : Type} (F : Nat → List β → Int → Int → Option (Int × List β)) (mk : Nat → β) (s K M : Nat)
    (hstep : ∀ k x i, K ≤ k → i < x.length → x.length ≤ M → F (k + 1) x (1 + ((s * i : Nat) : Int)) (i : Int) = F k (x.set i (mk i)) (1 + ((s * (i + 1) : Nat) : Int)) ((i + 1 : Nat) : Int))
    (hend : ∀ k x, K ≤ k → F (k + 1) x (1 + ((s * x.length : Nat) : Int)) (x.length : Int) = some (1 + ((s * x.length : Nat) : Int), x)) :
    ∀ (d i k : Nat) (x : List β), x.length = i + d → x.length ≤ M → d + K < k → x.take i = marksOf mk i → F k x (1 + ((s * i : Nat) : Int)) (i : Int) = some (1 + ((s * (i + d) : Nat) : Int), marksOf mk (i + d))
  | 0, i, k, x, hx, hb, hk, ht => by
    obtain ⟨k, rfl⟩ := rounds_pos (show 0 < k by omega)
    have e : x = marksOf mk i := by rw [← ht, List.take_of_length_le (by omega)]
    obtain rfl : i = x.length := by omega
    rw [hend k x (by omega), Nat.add_zero]
    conv => lhs; rw [e]
    rw [marksOf_len]
  | d + 1, i, k, x, hx, hb, hk, ht => by
    obtain ⟨k, rfl⟩ := rounds_pos (show 0 < k by omega)
    rw [hstep k x i (by omega) (by omega) hb, mark_gen F mk s K M hstep hend d (i + 1) k (x.set i (mk i)) (by rw [List.length_set]; omega) (by rw [List.length_set]; exact hb) (by omega)]
    · rw [show i + 1 + d = i + (d + 1) by omega]
    · have e1 : marksOf mk (i + 1) = marksOf mk i ++ [mk i] := by unfold marksOf; rw [List.range_succ, List.map_append]; rfl
      rw [e1, ← ht, List.take_set, List.take_succ_eq_append_getElem (by omega)]
      rw [List.set_append_right _ _ (by rw [List.length_take]; omega)]
      simp [List.length_take, Nat.min_eq_left (show i ≤ x.length by omega)]
theorem held_gen (F : Nat → Int → Int → Option Int) (n s K : Nat)
    (hstep : ∀ k i, K ≤ k → i < n → F (k + 1) (1 + ((s * i : Nat) : Int)) (i : Int) = F k (1 + ((s * (i + 1) : Nat) : Int)) ((i + 1 : Nat) : Int))
    (hend : ∀ k, K ≤ k → F (k + 1) (1 + ((s * n : Nat) : Int)) (n : Int) = some (1 + ((s * n : Nat) : Int))) :
    ∀ (d i k : Nat), i + d = n → d + K < k → F k (1 + ((s * i : Nat) : Int)) (i : Int) = some (1 + ((s * n : Nat) : Int))
  | 0, i, k, hi, hk => by
    obtain ⟨k, rfl⟩ := rounds_pos (show 0 < k by omega)
    obtain rfl : i = n := by omega
    exact hend k (by omega)
  | d + 1, i, k, hi, hk => by
    obtain ⟨k, rfl⟩ := rounds_pos (show 0 < k by omega)
    rw [hstep k i (by omega) (by omega)]
    exact held_gen F n s K hstep hend d (i + 1) k (by omega) (by omega)
theorem gath_shift {β : Type} (p : Nat → Bool) (f : Nat → β) : ∀ (c i : Nat), gath p f (i + 1) c = gath (fun m => p (m + 1)) (fun m => f (m + 1)) i c
  | 0, i => rfl
  | c + 1, i => by rw [gath_succ, gath_succ, gath_shift p f c (i + 1)]
/-! ### parts of words -/
theorem ext_ext (s : ByteArray) {i j a b : Nat} (h : i + b ≤ j) : (s.extract i j).extract a b = s.extract (i + a) (i + b) := by
  apply bo_inj
  rw [bo_extract, bo_extract, bo_extract]
  rw [List.take_drop, List.drop_drop, List.take_take, Nat.min_eq_left h]
theorem ext_end (s : ByteArray) {i j : Nat} (h : s.size ≤ j) : s.extract i j = s.extract i s.size := by
  apply bo_inj
  rw [bo_extract, bo_extract, ← bo_len, List.take_length, List.take_of_length_le (by rw [bo_len]; exact h)]
theorem ext_bt (s : ByteArray) {i j m : Nat} (h : i + m < j) : bt (s.extract i j) m = bt s ((i + m : Nat) : Int) := by
  rw [bt_nat, bt_nat, bo_extract, List.getD_eq_getElem?_getD, List.getD_eq_getElem?_getD, List.getElem?_drop, List.getElem?_take]
  rw [if_pos h]
theorem ext_eq_iff {s u : ByteArray} {i : Nat} (h : i + u.size ≤ s.size) : s.extract i (i + u.size) = u ↔ ∀ m : Nat, m < u.size → bt s ((i + m : Nat) : Int) = bt u m := by
  constructor
  · intro e m hm
    rw [← ext_bt s (j := i + u.size) (by omega), e]
  · intro e
    apply bo_inj
    apply List.ext_getElem (by rw [bo_len, bo_len, ext_size]; omega)
    intro m h1 h2
    rw [bo_len] at h2
    have := e m h2
    rw [← ext_bt s (j := i + u.size) (by omega), bt_nat, bt_nat, getD_eq _ _ h1, getD_eq _ _ (by rw [bo_len]; exact h2)] at this
    exact this
theorem ext_empty (s : ByteArray) {i j : Nat} (h : min j s.size ≤ i) : s.extract i j = ⟨#[]⟩ := by
  apply bo_inj
  rw [bo_empty, bo_nil_iff, ext_size]; omega
theorem size0 {s : ByteArray} (h : s.size = 0) : s = ⟨#[]⟩ := bo_inj (by rw [bo_nil_iff.mpr h]; rfl)

end Go.Proofs.Ytmihfmhfgjnfcab

