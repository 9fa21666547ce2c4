/- The plain part of the law FnExactCountPalindromes: for every input that the law takes, the printed function of the law answers true once it has rounds enough. Conditions: those that stand in the statement (sizes of strings and slices, kinds of numbers), no other. -/
import Derived.Test.YtjnpobaampgakabQx9
import Derived.Test.YtjnpobaampgakabMath
import Derived.Test.YtjnpobaampgakabMath4
namespace Go.Proofs.Ytjnpobaampgakab.Pure
open Go.RowKit Go.Proofs.Ytjnpobaampgakab.Q Go.Proofs.YtjnpobaampgakabW.PrintWords Go.Proofs.YtjnpobaampgakabW.PrintLast Go.Proofs.YtjnpobaampgakabW.PrintMore
set_option linter.unusedVariables false
set_option linter.unusedSimpArgs false

theorem spec_l01Is_eq {k : Nat} {w : ByteArray} (hw : w.size ≤ 140737488351232) (hk : w.size + 1 < k) : spec_l01Is.f k w = some (isW w) := by
  have h := find_gen (fun k i => spec_l01Is.l0 k w i) w.size (fun i => !okB (bt w i)) (fun _ => false) (decide ((w.size : Int) ≤ 60)) 0
    (fun k i _ hi => by
      simp only [spec_l01Is.l0]
      rw [if_pos (by omega), if_pos (by omega)]
      by_cases h1 : bt w i < 97
      · rw [if_pos h1]
        have : okB (bt w i) = false := by unfold okB; simp; omega
        simp [this]
      · rw [if_neg h1]
        by_cases h2 : bt w i > 101
        · rw [if_pos h2]
          have : okB (bt w i) = false := by unfold okB; simp; omega
          simp [this]
        · rw [if_neg h2, w64 (by omega) (by omega)]
          have : okB (bt w i) = true := by unfold okB; simp; omega
          simp [this])
    (fun k _ => by simp only [spec_l01Is.l0]; rw [if_neg (by omega)])
    w.size k 0 (by omega) (by omega)
  unfold spec_l01Is.f
  rw [show (0 : Int) = ((0 : Nat) : Int) from rfl, h]
  congr 1
  unfold isW
  cases hf : findE (fun i => !okB (bt w i)) 0 w.size with
  | some j =>
    obtain ⟨_, h1, h2, _⟩ := findE_some hf
    have : (bytesOf w).all okB = false := by
      rw [Bool.eq_false_iff]
      intro h3
      rw [List.all_eq_true] at h3
      have hj : j < (bytesOf w).length := by rw [bo_len]; omega
      have := h3 _ (List.getElem_mem hj)
      rw [bt_nat, getD_eq _ _ hj, this] at h2
      cases h2
    simp [this]
  | none =>
    have : (bytesOf w).all okB = true := by
      rw [List.all_eq_true]
      intro x hx
      obtain ⟨j, hj, rfl⟩ := List.mem_iff_getElem.mp hx
      have := findE_none.mp hf j (Nat.zero_le _) (by rw [bo_len] at hj; omega)
      rw [bt_nat, getD_eq _ _ hj] at this
      simpa using this
    simp only [this, Bool.and_true, decide_eq_decide]
    omega
theorem spec_not_word {w : ByteArray} (h : w.size > 60) : isW w = false := by unfold isW; simp; omega

theorem wordCode_1 (a : ByteArray) : impl_wordCode.f () [a] = some (if isW a then 0 else 1) := by unfold impl_wordCode.f; simp
theorem wordCode_2 (a b : ByteArray) : impl_wordCode.f () [a, b] = some (if isW a && isW b then 0 else 1) := by unfold impl_wordCode.f; simp

theorem impl_reversed_eq {w : ByteArray} (h : w.size ≤ 1048576) : impl_reversed.f w = some (revW w) := by unfold impl_reversed.f; rw [if_pos (by omega)]

def isPal (w : ByteArray) : Bool := decide (w = revW w)
theorem impl_isPalindrome_eq {w : ByteArray} (h : w.size ≤ 1048576) : impl_isPalindrome.f w = some (isPal w) := by
  unfold impl_isPalindrome.f isPal
  rw [impl_reversed_eq h]
  simp [toList_beq]
theorem isPal_iff (w : ByteArray) : isPal w = true ↔ ∀ i, i < w.size → bt w i = bt w ((w.size - 1 - i : Nat) : Int) := by
  unfold isPal
  rw [decide_eq_true_iff]
  have h1 : w = revW w ↔ bytesOf w = (bytesOf w).reverse := by
    constructor
    · intro h; rw [← bo_rev, ← h]
    · intro h; apply bo_inj; rw [bo_rev]; exact h
  rw [h1]
  have hb : ∀ i, i < w.size → bt w ((w.size - 1 - i : Nat) : Int) = ((bytesOf w).reverse).getD i 0 := fun i hi => by
    rw [bt_nat, List.getD_eq_getElem?_getD, List.getD_eq_getElem?_getD, List.getElem?_reverse (by rw [bo_len]; exact hi), bo_len]
  constructor
  · intro h i hi
    rw [hb i hi, ← h, bt_nat]
  · intro h
    apply List.ext_getElem (by simp)
    intro i h2 h3
    have hi : i < w.size := by rw [bo_len] at h2; exact h2
    have := h i hi
    rw [hb i hi, bt_nat, getD_eq _ _ h2, getD_eq _ _ h3] at this
    exact this
theorem spec_l04Is_l0 (w : ByteArray) (hw : w.size ≤ 1048576) : ∀ (d i k : Nat), 2 * i + d = w.size → d < k → (∀ j, j < i → bt w j = bt w ((w.size - 1 - j : Nat) : Int)) →
    spec_l04Is.l0 k w i ((w.size : Int) - 1 - i) = some (isPal w)
  | 0, i, k, hd, hk, hp => by
    obtain ⟨k, rfl⟩ := rounds_pos (show 0 < k by omega)
    simp only [spec_l04Is.l0]
    rw [if_neg (by omega)]
    congr 1
    symm
    rw [isPal_iff]
    intro j hj
    by_cases h : j < i
    · exact hp j h
    · have := hp (w.size - 1 - j) (by omega)
      rw [this]; congr 1; omega
  | 1, i, k, hd, hk, hp => by
    obtain ⟨k, rfl⟩ := rounds_pos (show 0 < k by omega)
    simp only [spec_l04Is.l0]
    rw [if_neg (by omega)]
    congr 1
    symm
    rw [isPal_iff]
    intro j hj
    rcases Nat.lt_trichotomy j i with h | h | h
    · exact hp j h
    · congr 1; omega
    · have := hp (w.size - 1 - j) (by omega)
      rw [this]; congr 1; omega
  | d + 2, i, k, hd, hk, hp => by
    obtain ⟨k, rfl⟩ := rounds_pos (show 0 < k by omega)
    simp only [spec_l04Is.l0]
    rw [if_pos (by omega), if_pos (by omega), if_pos (by omega), if_pos (by omega), if_pos (by omega)]
    have e : (w.size : Int) - 1 - i = ((w.size - 1 - i : Nat) : Int) := by omega
    by_cases h : bt w i = bt w ((w.size : Int) - 1 - i)
    · rw [if_pos h, w64 (by omega) (by omega), w64 (by omega) (by omega)]
      have := spec_l04Is_l0 w hw d (i + 1) k (by omega) (by omega) (fun j hj => by
        by_cases e2 : j = i
        · subst e2; rw [h, e]
        · exact hp j (by omega))
      rw [← this]
      congr 1
      omega
    · rw [if_neg h]
      congr 1
      symm
      rw [Bool.eq_false_iff]
      intro h2
      rw [isPal_iff] at h2
      exact h (by rw [h2 i (by omega), e])
theorem spec_l04Is_eq {k : Nat} {w : ByteArray} (hw : w.size ≤ 1048576) (hk : w.size < k) : spec_l04Is.f k w = some (isPal w) := by
  unfold spec_l04Is.f
  rw [w64 (by omega) (by omega)]
  have := spec_l04Is_l0 w hw w.size 0 k (by omega) hk (fun j hj => absurd hj (Nat.not_lt_zero _))
  simpa using this

def cpG (w : ByteArray) (a b s : Nat) : Nat := if isPal (w.extract a b) = true then s + 1 else s
def cpN (w : ByteArray) : Nat := loopS (fun a s => loopS (fun b s => cpG w a b s) (a + 1) (w.size - a) s) 0 w.size 0
theorem cpG_le (w : ByteArray) (a b s : Nat) : cpG w a b s ≤ s + 1 := by unfold cpG; split <;> omega
theorem cp_inner (w : ByteArray) (a : Nat) : ∀ c b s, loopS (fun b s => cpG w a b s) b c s ≤ s + c
  | 0, b, s => Nat.le_refl _
  | c + 1, b, s => by
    have h1 := cpG_le w a b s
    have h2 := cp_inner w a c (b + 1) (cpG w a b s)
    simp only [loopS]
    omega
theorem spec_cp {k : Nat} {w : ByteArray} (hw : w.size ≤ 60) (hk : 100000 ≤ k) : spec_CountPalindromes.l0 k w 0 0 = some ((cpN w : Int), 0) := by
  have := fold_cost (fun k (s : Nat) i => spec_CountPalindromes.l0 k w s i) w.size (fun a s => loopS (fun b s => cpG w a b s) (a + 1) (w.size - a) s) (fun _ s => some ((s : Int), 0)) (fun a s => s ≤ 61 * a) 20000 70
    (fun a s ha hs => by
      refine ⟨w.size - a + 1, by omega, fun k hk => ?_⟩
      have h := fold_on (fun k (s : Nat) i => spec_CountPalindromes.l1 k w s a i) (fun k s => spec_CountPalindromes.l0 k w s ((a + 1 : Nat) : Int)) (w.size + 1) (fun b s => cpG w a b s) (fun b s => s ≤ 61 * a + b ∧ a < b) 20000
        (fun k b s hk hb hs => by
          simp only [spec_CountPalindromes.l1]
          rw [if_pos (by omega), if_pos (by omega), if_pos (by omega), Int.toNat_natCast, Int.toNat_natCast, spec_l04Is_eq (by rw [ext_size]; omega) (by rw [ext_size]; omega), w64 (by omega) (by omega), w64 (by omega) (by omega)]
          simp only [Option.bind_some]
          unfold cpG
          by_cases h : isPal (w.extract a b) = true
          · rw [if_pos h, if_pos h]; rfl
          · rw [if_neg h, if_neg h]; rfl)
        (fun b s hb hs => by have := cpG_le w a b s; omega)
        (fun k s hk hs => by
          simp only [spec_CountPalindromes.l1]
          rw [if_neg (by omega), w64 (by omega) (by omega)]; rfl)
        (w.size - a) k (a + 1) s (by omega) hk (by omega)
      simp only [spec_CountPalindromes.l0]
      rw [if_pos (by omega), w64 (by omega) (by omega)]
      exact h.1)
    (fun a s ha hs => by have := cp_inner w a (w.size - a) (a + 1) s; omega)
    (fun k s hk hs => by
      simp only [spec_CountPalindromes.l0]
      rw [if_neg (by omega)])
    w.size k 0 0 (by omega) (by have : w.size * (70 + 1) ≤ 60 * 71 := Nat.mul_le_mul hw (by omega); omega) (by omega)
  obtain ⟨h1, k', h2, h3, h4⟩ := this
  exact h4
theorem impl_cp {k : Nat} {w : ByteArray} (hw : w.size ≤ 60) (hk : 100000 ≤ k) : impl_CountPalindromes.l0 k w 0 w.size 0 = some ((cpN w : Int), 0) := by
  have := fold_cost (fun k (s : Nat) i => impl_CountPalindromes.l0 k w s w.size i) w.size (fun a s => loopS (fun b s => cpG w a b s) (a + 1) (w.size - a) s) (fun _ s => some ((s : Int), 0)) (fun a s => s ≤ 61 * a) 20000 70
    (fun a s ha hs => by
      refine ⟨w.size - a + 1, by omega, fun k hk => ?_⟩
      have h := fold_on (fun k (s : Nat) i => impl_CountPalindromes.l1 k w s a i w.size a) (fun k s => impl_CountPalindromes.l0 k w s w.size ((a + 1 : Nat) : Int)) (w.size + 1) (fun b s => cpG w a b s) (fun b s => s ≤ 61 * a + b ∧ a < b) 20000
        (fun k b s hk hb hs => by
          simp only [impl_CountPalindromes.l1]
          rw [if_pos (by omega), if_pos (by omega), if_pos (by omega), Int.toNat_natCast, Int.toNat_natCast, impl_isPalindrome_eq (by rw [ext_size]; omega), w64 (by omega) (by omega), w64 (by omega) (by omega)]
          simp only [Option.bind_some]
          unfold cpG
          by_cases h : isPal (w.extract a b) = true
          · rw [if_pos h, if_pos h]; rfl
          · rw [if_neg h, if_neg h]; rfl)
        (fun b s hb hs => by have := cpG_le w a b s; omega)
        (fun k s hk hs => by
          simp only [impl_CountPalindromes.l1]
          rw [if_neg (by omega), w64 (by omega) (by omega)]; rfl)
        (w.size - a) k (a + 1) s (by omega) hk (by omega)
      simp only [impl_CountPalindromes.l0]
      rw [if_pos (by omega), w64 (by omega) (by omega)]
      exact h.1)
    (fun a s ha hs => by have := cp_inner w a (w.size - a) (a + 1) s; omega)
    (fun k s hk hs => by
      simp only [impl_CountPalindromes.l0]
      rw [if_neg (by omega)])
    w.size k 0 0 (by omega) (by have : w.size * (70 + 1) ≤ 60 * 71 := Nat.mul_le_mul hw (by omega); omega) (by omega)
  obtain ⟨h1, k', h2, h3, h4⟩ := this
  exact h4
theorem FnExactCountPalindromes : laws_FnExactCountPalindromes.Pure := by
  intro a0 h0
  by_cases hs : (a0.size : Int) > 1048576
  · exact ⟨0, by unfold laws_FnExactCountPalindromes.f; rw [if_pos hs]⟩
  · refine ⟨1048600, ?_⟩
    have e : spec_CountPalindromes.f 1048600 a0 = some (if isW a0 then ((cpN a0 : Int), 0) else (0, 1)) := by
      unfold spec_CountPalindromes.f
      rw [spec_l01Is_eq h0 (by omega)]
      cases hw : isW a0
      · simp
      · simpa using spec_cp (isW_size hw) (show 100000 ≤ 1048600 by omega)
    have e2 : impl_CountPalindromes.f 1048600 a0 = some (if isW a0 then ((cpN a0 : Int), 0) else (0, 1)) := by
      unfold impl_CountPalindromes.f
      rw [wordCode_1]
      cases hw : isW a0
      · simp
      · simpa using impl_cp (isW_size hw) (show 100000 ≤ 1048600 by omega)
    unfold laws_FnExactCountPalindromes.f
    rw [if_neg hs, e, e2]
    simp

end Go.Proofs.Ytjnpobaampgakab.Pure
