/- The plain part of the law FnExactTurnWord: for every input that the law takes, the printed function of the law answers true once it has rounds enough. Conditions: those that stand in the statement (sizes of strings and slices, kinds of numbers), no other. -/
import Derived.Test.YtjnpobaampgakaaPFnExactTurnWordx
import Derived.Test.YtjnpobaampgakaaMath
namespace Go.Proofs.Ytjnpobaampgakaa.Pure
open Go.RowKit Go.Proofs.Ytjnpobaampgakaa.PFnExactTurnWord Go.Proofs.YtjnpobaampgakaaW.PrintWords Go.Proofs.YtjnpobaampgakaaW.PrintLast Go.Proofs.YtjnpobaampgakaaW.PrintMore
set_option linter.unusedVariables false
set_option linter.unusedSimpArgs false

theorem spec_l01Is_eq {k : Nat} {w : ByteArray} (hw : w.size ≤ 140737488351232) (hk : w.size + 1 < k) : spec_l01Is.f k w = some (isW w) := by
  have h := find_gen (fun k i => spec_l01Is.l0 k w i) w.size (fun i => !okB (bt w i)) (fun _ => false) (decide ((w.size : Int) ≤ 60)) 0
    (fun k i _ hi => by
      simp only [spec_l01Is.l0]
      rw [if_pos (by omega), if_pos (by omega)]
      by_cases h1 : bt w i < 97
      · rw [if_pos h1]
        have : okB (bt w i) = false := by unfold okB; simp; omega
        simp [this]
      · rw [if_neg h1]
        by_cases h2 : bt w i > 101
        · rw [if_pos h2]
          have : okB (bt w i) = false := by unfold okB; simp; omega
          simp [this]
        · rw [if_neg h2, w64 (by omega) (by omega)]
          have : okB (bt w i) = true := by unfold okB; simp; omega
          simp [this])
    (fun k _ => by simp only [spec_l01Is.l0]; rw [if_neg (by omega)])
    w.size k 0 (by omega) (by omega)
  unfold spec_l01Is.f
  rw [show (0 : Int) = ((0 : Nat) : Int) from rfl, h]
  congr 1
  unfold isW
  cases hf : findE (fun i => !okB (bt w i)) 0 w.size with
  | some j =>
    obtain ⟨_, h1, h2, _⟩ := findE_some hf
    have : (bytesOf w).all okB = false := by
      rw [Bool.eq_false_iff]
      intro h3
      rw [List.all_eq_true] at h3
      have hj : j < (bytesOf w).length := by rw [bo_len]; omega
      have := h3 _ (List.getElem_mem hj)
      rw [bt_nat, getD_eq _ _ hj, this] at h2
      cases h2
    simp [this]
  | none =>
    have : (bytesOf w).all okB = true := by
      rw [List.all_eq_true]
      intro x hx
      obtain ⟨j, hj, rfl⟩ := List.mem_iff_getElem.mp hx
      have := findE_none.mp hf j (Nat.zero_le _) (by rw [bo_len] at hj; omega)
      rw [bt_nat, getD_eq _ _ hj] at this
      simpa using this
    simp only [this, Bool.and_true, decide_eq_decide]
    omega
theorem spec_not_word {w : ByteArray} (h : w.size > 60) : isW w = false := by unfold isW; simp; omega

theorem spec_l01In_eq (n lo hi : Int) : spec_l01In.f n lo hi = some (inR n lo hi) := by
  unfold spec_l01In.f inR
  by_cases h : n ≥ lo
  · rw [if_pos h, decide_eq_true (show lo ≤ n from h)]; simp
  · rw [if_neg h, decide_eq_false (show ¬ lo ≤ n from h)]; simp

theorem spec_l01Turned_eq {w : ByteArray} {k : Int} (h0 : 0 ≤ k) (h1 : k ≤ w.size) (hs : w.size ≤ 1048576) : spec_l01Turned.f w k = some (w.extract k.toNat w.size ++ w.extract 0 k.toNat) := by
  unfold spec_l01Turned.f
  rw [if_pos h0, if_pos h1, if_pos (by rw [ext_size, ext_size]; omega)]
theorem FnExactTurnWord : laws_FnExactTurnWord.Pure := by
  intro a0 a1 h0 _
  by_cases hs : (a0.size : Int) > 1048576
  · exact ⟨0, by unfold laws_FnExactTurnWord.f; rw [if_pos hs]⟩
  · refine ⟨1048600, ?_⟩
    have e : spec_TurnWord.f 1048600 a0 a1 = impl_TurnWord.f a0 a1 := by
      unfold spec_TurnWord.f impl_TurnWord.f
      simp only [spec_l01Is_eq h0 (show a0.size + 1 < 1048600 by omega), spec_l01In_eq]
      cases hw : isW a0
      · simp
      · cases h1 : inR a1 0 a0.size
        · simp
        · have b1 := inR_true h1
          rw [spec_l01Turned_eq b1.1 b1.2 (by omega)]
          simp
    unfold laws_FnExactTurnWord.f
    rw [if_neg hs, e]
    unfold impl_TurnWord.f
    simp

end Go.Proofs.Ytjnpobaampgakaa.Pure
