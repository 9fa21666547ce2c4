/- The plain part of the law FnExactIsLyndon: for every input that the law takes, the printed function of the law answers true once it has rounds enough. Conditions: those that stand in the statement (sizes of strings and slices, kinds of numbers), no other. -/
import Derived.Test.YtjnpobaampgakaaPFnExactIsLyndonx
import Derived.Test.YtjnpobaampgakaaMath
import Derived.Test.YtjnpobaampgakaaMath2
namespace Go.Proofs.Ytjnpobaampgakaa.Pure
open Go.RowKit Go.Proofs.Ytjnpobaampgakaa.PFnExactIsLyndon Go.Proofs.YtjnpobaampgakaaW.PrintWords Go.Proofs.YtjnpobaampgakaaW.PrintLast Go.Proofs.YtjnpobaampgakaaW.PrintMore
set_option linter.unusedVariables false
set_option linter.unusedSimpArgs false

theorem spec_l01Is_eq {k : Nat} {w : ByteArray} (hw : w.size ≤ 140737488351232) (hk : w.size + 1 < k) : spec_l01Is.f k w = some (isW w) := by
  have h := find_gen (fun k i => spec_l01Is.l0 k w i) w.size (fun i => !okB (bt w i)) (fun _ => false) (decide ((w.size : Int) ≤ 60)) 0
    (fun k i _ hi => by
      simp only [spec_l01Is.l0]
      rw [if_pos (by omega), if_pos (by omega)]
      by_cases h1 : bt w i < 97
      · rw [if_pos h1]
        have : okB (bt w i) = false := by unfold okB; simp; omega
        simp [this]
      · rw [if_neg h1]
        by_cases h2 : bt w i > 101
        · rw [if_pos h2]
          have : okB (bt w i) = false := by unfold okB; simp; omega
          simp [this]
        · rw [if_neg h2, w64 (by omega) (by omega)]
          have : okB (bt w i) = true := by unfold okB; simp; omega
          simp [this])
    (fun k _ => by simp only [spec_l01Is.l0]; rw [if_neg (by omega)])
    w.size k 0 (by omega) (by omega)
  unfold spec_l01Is.f
  rw [show (0 : Int) = ((0 : Nat) : Int) from rfl, h]
  congr 1
  unfold isW
  cases hf : findE (fun i => !okB (bt w i)) 0 w.size with
  | some j =>
    obtain ⟨_, h1, h2, _⟩ := findE_some hf
    have : (bytesOf w).all okB = false := by
      rw [Bool.eq_false_iff]
      intro h3
      rw [List.all_eq_true] at h3
      have hj : j < (bytesOf w).length := by rw [bo_len]; omega
      have := h3 _ (List.getElem_mem hj)
      rw [bt_nat, getD_eq _ _ hj, this] at h2
      cases h2
    simp [this]
  | none =>
    have : (bytesOf w).all okB = true := by
      rw [List.all_eq_true]
      intro x hx
      obtain ⟨j, hj, rfl⟩ := List.mem_iff_getElem.mp hx
      have := findE_none.mp hf j (Nat.zero_le _) (by rw [bo_len] at hj; omega)
      rw [bt_nat, getD_eq _ _ hj] at this
      simpa using this
    simp only [this, Bool.and_true, decide_eq_decide]
    omega
theorem spec_not_word {w : ByteArray} (h : w.size > 60) : isW w = false := by unfold isW; simp; omega

theorem wordCode_1 (a : ByteArray) : impl_wordCode.f () [a] = some (if isW a then 0 else 1) := by unfold impl_wordCode.f; simp
theorem wordCode_2 (a b : ByteArray) : impl_wordCode.f () [a, b] = some (if isW a && isW b then 0 else 1) := by unfold impl_wordCode.f; simp

theorem spec_l02Lyndon_eq {k : Nat} {w : ByteArray} (hw : w.size ≤ 1048576) (hk : w.size + 1 < k) : spec_l02Lyndon.f k w = some (lynB w) := by
  rcases Nat.eq_zero_or_pos w.size with h0 | h0
  · obtain ⟨k, rfl⟩ := rounds_pos (show 0 < k by omega)
    unfold spec_l02Lyndon.f
    simp only [spec_l02Lyndon.l0]
    rw [if_neg (by omega)]
    unfold lynB
    rw [h0]
    rfl
  have h := find_gen (fun k i => spec_l02Lyndon.l0 k w i) w.size (fun i => !lessI (bytesOf w) ((bytesOf w).drop i)) (fun _ => false) true 0
    (fun k i _ hi => by
      simp only [spec_l02Lyndon.l0]
      rw [if_pos (by omega), if_pos (by omega), if_pos (by omega), w64 (by omega) (by omega)]
      rw [less_bo, bo_extract, Int.toNat_natCast, ← bo_len, List.take_length]
      cases lessI (bytesOf w) ((bytesOf w).drop i) <;> simp)
    (fun k _ => by simp only [spec_l02Lyndon.l0]; rw [if_neg (by omega), decide_eq_true (by omega)])
    (w.size - 1) k 1 (by omega) (by omega)
  unfold spec_l02Lyndon.f
  rw [show (1 : Int) = ((1 : Nat) : Int) from rfl, h]
  unfold lynB
  rw [decide_eq_true h0]
  cases findE (fun i => !lessI (bytesOf w) ((bytesOf w).drop i)) 1 (w.size - 1) <;> rfl

theorem impl_isLyndon_eq {k : Nat} {w : ByteArray} (hw : w.size ≤ 1048576) (hk : w.size + 1 < k) : impl_isLyndon.f k w = some (lynB w) := by
  rcases Nat.eq_zero_or_pos w.size with h0 | h0
  · obtain ⟨k, rfl⟩ := rounds_pos (show 0 < k by omega)
    unfold impl_isLyndon.f
    simp only [impl_isLyndon.l0]
    rw [if_neg (by omega), (str_empty h0).1]
    unfold lynB
    rw [h0]
    rfl
  have h := find_gen (fun k i => impl_isLyndon.l0 k w i) w.size (fun i => !lessI (bytesOf w) ((bytesOf w).drop i ++ (bytesOf w).take i)) (fun _ => false) true 0
    (fun k i _ hi => by
      simp only [impl_isLyndon.l0]
      rw [if_pos (by omega), if_pos (by omega), if_pos (by omega), if_pos (by rw [ext_size, ext_size]; omega), w64 (by omega) (by omega)]
      rw [less_bo, bo_append, bo_extract, bo_extract, Int.toNat_natCast, List.drop_zero, ← bo_len, List.take_length]
      cases lessI (bytesOf w) ((bytesOf w).drop i ++ (bytesOf w).take i) <;> simp)
    (fun k _ => by simp only [impl_isLyndon.l0]; rw [if_neg (by omega), (str_nonempty (by omega)).1]; rfl)
    (w.size - 1) k 1 (by omega) (by omega)
  unfold impl_isLyndon.f
  rw [show (1 : Int) = ((1 : Nat) : Int) from rfl, h]
  cases hf : findE (fun i => !lessI (bytesOf w) ((bytesOf w).drop i ++ (bytesOf w).take i)) 1 (w.size - 1) with
  | none =>
    have : lynB w = true := by
      rw [lynB_iff, lyn_iff]
      refine ⟨fun k h1 h2 => ?_, h0⟩
      have := findE_none.mp hf k (by omega) (by rw [bo_len] at h2; omega)
      simpa using this
    rw [this]
  | some j =>
    obtain ⟨h1, h2, h3, _⟩ := findE_some hf
    have : lynB w = false := by
      rw [Bool.eq_false_iff, ne_eq, lynB_iff, lyn_iff]
      rintro ⟨h4, _⟩
      have := h4 j (by omega) (by rw [bo_len]; omega)
      rw [this] at h3; cases h3
    rw [this]

theorem FnExactIsLyndon : laws_FnExactIsLyndon.Pure := by
  intro a0 h0
  by_cases hs : (a0.size : Int) > 1048576
  · exact ⟨0, by unfold laws_FnExactIsLyndon.f; rw [if_pos hs]⟩
  · refine ⟨1048600, ?_⟩
    have e : spec_IsLyndon.f 1048600 a0 = some (if isW a0 then (lynB a0, 0) else (false, 1)) := by
      unfold spec_IsLyndon.f
      rw [spec_l01Is_eq h0 (by omega), spec_l02Lyndon_eq (by omega) (by omega)]
      cases isW a0 <;> simp
    have e2 : impl_IsLyndon.f 1048600 a0 = some (if isW a0 then (lynB a0, 0) else (false, 1)) := by
      unfold impl_IsLyndon.f
      rw [wordCode_1, impl_isLyndon_eq (by omega) (by omega)]
      cases isW a0 <;> simp
    unfold laws_FnExactIsLyndon.f
    rw [if_neg hs, e, e2]
    simp

end Go.Proofs.Ytjnpobaampgakaa.Pure
