/- The plain part of the law FnExactProductOf: for every input that the law takes, the printed function of the law answers true once it has rounds enough. Conditions: those that stand in the statement (sizes of strings and slices, kinds of numbers), no other. -/
import Derived.Test.YtjnpobaampgakaaPFnExactProductOfx
import Derived.Test.YtjnpobaampgakaaMath
namespace Go.Proofs.Ytjnpobaampgakaa.Pure
open Go.RowKit Go.Proofs.Ytjnpobaampgakaa.PFnExactProductOf Go.Proofs.YtjnpobaampgakaaW.PrintWords Go.Proofs.YtjnpobaampgakaaW.PrintLast Go.Proofs.YtjnpobaampgakaaW.PrintMore
set_option linter.unusedVariables false
set_option linter.unusedSimpArgs false

theorem spec_l01Is_eq {k : Nat} {w : ByteArray} (hw : w.size ≤ 140737488351232) (hk : w.size + 1 < k) : spec_l01Is.f k w = some (isW w) := by
  have h := find_gen (fun k i => spec_l01Is.l0 k w i) w.size (fun i => !okB (bt w i)) (fun _ => false) (decide ((w.size : Int) ≤ 60)) 0
    (fun k i _ hi => by
      simp only [spec_l01Is.l0]
      rw [if_pos (by omega), if_pos (by omega)]
      by_cases h1 : bt w i < 97
      · rw [if_pos h1]
        have : okB (bt w i) = false := by unfold okB; simp; omega
        simp [this]
      · rw [if_neg h1]
        by_cases h2 : bt w i > 101
        · rw [if_pos h2]
          have : okB (bt w i) = false := by unfold okB; simp; omega
          simp [this]
        · rw [if_neg h2, w64 (by omega) (by omega)]
          have : okB (bt w i) = true := by unfold okB; simp; omega
          simp [this])
    (fun k _ => by simp only [spec_l01Is.l0]; rw [if_neg (by omega)])
    w.size k 0 (by omega) (by omega)
  unfold spec_l01Is.f
  rw [show (0 : Int) = ((0 : Nat) : Int) from rfl, h]
  congr 1
  unfold isW
  cases hf : findE (fun i => !okB (bt w i)) 0 w.size with
  | some j =>
    obtain ⟨_, h1, h2, _⟩ := findE_some hf
    have : (bytesOf w).all okB = false := by
      rw [Bool.eq_false_iff]
      intro h3
      rw [List.all_eq_true] at h3
      have hj : j < (bytesOf w).length := by rw [bo_len]; omega
      have := h3 _ (List.getElem_mem hj)
      rw [bt_nat, getD_eq _ _ hj, this] at h2
      cases h2
    simp [this]
  | none =>
    have : (bytesOf w).all okB = true := by
      rw [List.all_eq_true]
      intro x hx
      obtain ⟨j, hj, rfl⟩ := List.mem_iff_getElem.mp hx
      have := findE_none.mp hf j (Nat.zero_le _) (by rw [bo_len] at hj; omega)
      rw [bt_nat, getD_eq _ _ hj] at this
      simpa using this
    simp only [this, Bool.and_true, decide_eq_decide]
    omega
theorem spec_not_word {w : ByteArray} (h : w.size > 60) : isW w = false := by unfold isW; simp; omega

theorem FnExactProductOf : laws_FnExactProductOf.Pure := by
  intro a0 a1 h0 h1
  by_cases hs : (a0.size : Int) > 1048576
  · exact ⟨0, by unfold laws_FnExactProductOf.f; rw [if_pos hs]⟩
  · by_cases hs1 : (a1.size : Int) > 1048576
    · exact ⟨0, by unfold laws_FnExactProductOf.f; rw [if_neg hs, if_pos hs1]⟩
    · refine ⟨1048600, ?_⟩
      have e : spec_ProductOf.f 1048600 a0 a1 = impl_ProductOf.f a0 a1 := by
        unfold spec_ProductOf.f impl_ProductOf.f spec_l01Told.f
        simp only [spec_l01Is_eq h0 (show a0.size + 1 < 1048600 by omega), spec_l01Is_eq h1 (show a1.size + 1 < 1048600 by omega)]
        cases hw : isW a0
        · simp
        · cases hu : isW a1
          · simp
          · have := isW_size hw
            have := isW_size hu
            simp only [Option.bind_some, if_true, Bool.and_self]
            rw [if_pos (by omega)]
            by_cases hl : a0.size + a1.size ≤ 60
            · rw [if_pos hl, if_neg (by simp; omega)]; rfl
            · rw [if_neg hl, if_pos (by simp; omega)]; rfl
      unfold laws_FnExactProductOf.f
      rw [if_neg hs, if_neg hs1, e]
      unfold impl_ProductOf.f
      simp

end Go.Proofs.Ytjnpobaampgakaa.Pure
