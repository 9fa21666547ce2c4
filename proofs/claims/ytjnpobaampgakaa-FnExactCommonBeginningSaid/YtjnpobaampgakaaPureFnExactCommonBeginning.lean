/- The plain part of the law FnExactCommonBeginning: for every input that the law takes, the printed function of the law answers true once it has rounds enough. Conditions: those that stand in the statement (sizes of strings and slices, kinds of numbers), no other. -/
import Derived.Test.YtjnpobaampgakaaPFnExactCommonBeginningx
import Derived.Test.YtjnpobaampgakaaMath
namespace Go.Proofs.Ytjnpobaampgakaa.Pure
open Go.RowKit Go.Proofs.Ytjnpobaampgakaa.PFnExactCommonBeginning Go.Proofs.YtjnpobaampgakaaW.PrintWords Go.Proofs.YtjnpobaampgakaaW.PrintLast Go.Proofs.YtjnpobaampgakaaW.PrintMore
set_option linter.unusedVariables false
set_option linter.unusedSimpArgs false

theorem spec_l01Is_eq {k : Nat} {w : ByteArray} (hw : w.size ≤ 140737488351232) (hk : w.size + 1 < k) : spec_l01Is.f k w = some (isW w) := by
  have h := find_gen (fun k i => spec_l01Is.l0 k w i) w.size (fun i => !okB (bt w i)) (fun _ => false) (decide ((w.size : Int) ≤ 60)) 0
    (fun k i _ hi => by
      simp only [spec_l01Is.l0]
      rw [if_pos (by omega), if_pos (by omega)]
      by_cases h1 : bt w i < 97
      · rw [if_pos h1]
        have : okB (bt w i) = false := by unfold okB; simp; omega
        simp [this]
      · rw [if_neg h1]
        by_cases h2 : bt w i > 101
        · rw [if_pos h2]
          have : okB (bt w i) = false := by unfold okB; simp; omega
          simp [this]
        · rw [if_neg h2, w64 (by omega) (by omega)]
          have : okB (bt w i) = true := by unfold okB; simp; omega
          simp [this])
    (fun k _ => by simp only [spec_l01Is.l0]; rw [if_neg (by omega)])
    w.size k 0 (by omega) (by omega)
  unfold spec_l01Is.f
  rw [show (0 : Int) = ((0 : Nat) : Int) from rfl, h]
  congr 1
  unfold isW
  cases hf : findE (fun i => !okB (bt w i)) 0 w.size with
  | some j =>
    obtain ⟨_, h1, h2, _⟩ := findE_some hf
    have : (bytesOf w).all okB = false := by
      rw [Bool.eq_false_iff]
      intro h3
      rw [List.all_eq_true] at h3
      have hj : j < (bytesOf w).length := by rw [bo_len]; omega
      have := h3 _ (List.getElem_mem hj)
      rw [bt_nat, getD_eq _ _ hj, this] at h2
      cases h2
    simp [this]
  | none =>
    have : (bytesOf w).all okB = true := by
      rw [List.all_eq_true]
      intro x hx
      obtain ⟨j, hj, rfl⟩ := List.mem_iff_getElem.mp hx
      have := findE_none.mp hf j (Nat.zero_le _) (by rw [bo_len] at hj; omega)
      rw [bt_nat, getD_eq _ _ hj] at this
      simpa using this
    simp only [this, Bool.and_true, decide_eq_decide]
    omega
theorem spec_not_word {w : ByteArray} (h : w.size > 60) : isW w = false := by unfold isW; simp; omega

theorem wordCode_1 (a : ByteArray) : impl_wordCode.f () [a] = some (if isW a then 0 else 1) := by unfold impl_wordCode.f; simp
theorem wordCode_2 (a b : ByteArray) : impl_wordCode.f () [a, b] = some (if isW a && isW b then 0 else 1) := by unfold impl_wordCode.f; simp

theorem spec_l01Common_eq {k : Nat} {a b : ByteArray} (ha : a.size ≤ 1048576) (hk : a.size + 1 < k) : spec_l01Common.f k a b = some (comN a b : Int) := by
  have h := find_gen (fun k i => spec_l01Common.l0 k a b i) (min a.size b.size) (fun i => !(bt a i == bt b i)) (fun j => (j : Int)) ((min a.size b.size : Nat) : Int) 0
    (fun k i _ hi => by
      simp only [spec_l01Common.l0]
      rw [if_pos (by omega), if_pos (by omega), if_pos (by omega), w64 (by omega) (by omega)]
      by_cases h1 : bt a i = bt b i
      · rw [if_pos h1]; simp [h1]
      · rw [if_neg h1]; simp [h1])
    (fun k _ => by
      simp only [spec_l01Common.l0]
      by_cases h1 : a.size ≤ b.size
      · rw [if_neg (by omega)]
      · rw [if_pos (by omega), if_neg (by omega)])
    (min a.size b.size) k 0 (by omega) (by omega)
  unfold spec_l01Common.f
  rw [show (0 : Int) = ((0 : Nat) : Int) from rfl, h]
  unfold comN
  cases findE (fun i => !(bt a i == bt b i)) 0 (min a.size b.size) <;> rfl
theorem comN_le (a b : ByteArray) : comN a b ≤ a.size ∧ comN a b ≤ b.size := by
  unfold comN
  cases h : findE (fun i => !(bt a i == bt b i)) 0 (min a.size b.size) with
  | none => simp only [Option.getD_none]; omega
  | some j => have := findE_some h; simp only [Option.getD_some]; omega

theorem impl_common_eq {a b : ByteArray} (h : a.size ≤ 1048576) (h' : b.size ≤ 1048576) : impl_common.f a b = some (a.extract 0 (comN a b)) := by unfold impl_common.f; rw [if_pos (by omega)]

theorem FnExactCommonBeginning : laws_FnExactCommonBeginning.Pure := by
  intro a0 a1 h0 h1
  by_cases hs : (a0.size : Int) > 1048576
  · exact ⟨0, by unfold laws_FnExactCommonBeginning.f; rw [if_pos hs]⟩
  · by_cases hs1 : (a1.size : Int) > 1048576
    · exact ⟨0, by unfold laws_FnExactCommonBeginning.f; rw [if_neg hs, if_pos hs1]⟩
    · refine ⟨1048600, ?_⟩
      have e : spec_CommonBeginning.f 1048600 a0 a1 = some (if isW a0 && isW a1 then (a0.extract 0 (comN a0 a1), 0) else (⟨#[]⟩, 1)) := by
        unfold spec_CommonBeginning.f
        simp only [spec_l01Is_eq h0 (show a0.size + 1 < 1048600 by omega), spec_l01Is_eq h1 (show a1.size + 1 < 1048600 by omega), Option.bind_some, spec_l01Common_eq (b := a1) (show a0.size ≤ 1048576 by omega) (show a0.size + 1 < 1048600 by omega)]
        have := comN_le a0 a1
        cases isW a0 <;> cases isW a1 <;> simp
        omega
      have e2 : impl_CommonBeginning.f a0 a1 = some (if isW a0 && isW a1 then (a0.extract 0 (comN a0 a1), 0) else (⟨#[]⟩, 1)) := by
        unfold impl_CommonBeginning.f
        rw [wordCode_2, impl_common_eq (by omega) (by omega)]
        cases isW a0 <;> cases isW a1 <;> simp
      unfold laws_FnExactCommonBeginning.f
      rw [if_neg hs, if_neg hs1, e, e2]
      simp

end Go.Proofs.Ytjnpobaampgakaa.Pure
