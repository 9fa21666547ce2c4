/- The plain part of the law FnExactCountTurned: for every input that the law takes, the printed function of the law answers true once it has rounds enough. Conditions: those that stand in the statement (sizes of strings and slices, kinds of numbers), no other. -/
import Derived.Test.YtjnpobaampgakabQx11
import Derived.Test.YtjnpobaampgakabMath
import Derived.Test.YtjnpobaampgakabMath3
namespace Go.Proofs.Ytjnpobaampgakab.Pure
open Go.RowKit Go.Proofs.Ytjnpobaampgakab.Q Go.Proofs.YtjnpobaampgakabW.PrintWords Go.Proofs.YtjnpobaampgakabW.PrintLast Go.Proofs.YtjnpobaampgakabW.PrintMore
set_option linter.unusedVariables false
set_option linter.unusedSimpArgs false

theorem spec_l01Is_eq {k : Nat} {w : ByteArray} (hw : w.size ≤ 140737488351232) (hk : w.size + 1 < k) : spec_l01Is.f k w = some (isW w) := by
  have h := find_gen (fun k i => spec_l01Is.l0 k w i) w.size (fun i => !okB (bt w i)) (fun _ => false) (decide ((w.size : Int) ≤ 60)) 0
    (fun k i _ hi => by
      simp only [spec_l01Is.l0]
      rw [if_pos (by omega), if_pos (by omega)]
      by_cases h1 : bt w i < 97
      · rw [if_pos h1]
        have : okB (bt w i) = false := by unfold okB; simp; omega
        simp [this]
      · rw [if_neg h1]
        by_cases h2 : bt w i > 101
        · rw [if_pos h2]
          have : okB (bt w i) = false := by unfold okB; simp; omega
          simp [this]
        · rw [if_neg h2, w64 (by omega) (by omega)]
          have : okB (bt w i) = true := by unfold okB; simp; omega
          simp [this])
    (fun k _ => by simp only [spec_l01Is.l0]; rw [if_neg (by omega)])
    w.size k 0 (by omega) (by omega)
  unfold spec_l01Is.f
  rw [show (0 : Int) = ((0 : Nat) : Int) from rfl, h]
  congr 1
  unfold isW
  cases hf : findE (fun i => !okB (bt w i)) 0 w.size with
  | some j =>
    obtain ⟨_, h1, h2, _⟩ := findE_some hf
    have : (bytesOf w).all okB = false := by
      rw [Bool.eq_false_iff]
      intro h3
      rw [List.all_eq_true] at h3
      have hj : j < (bytesOf w).length := by rw [bo_len]; omega
      have := h3 _ (List.getElem_mem hj)
      rw [bt_nat, getD_eq _ _ hj, this] at h2
      cases h2
    simp [this]
  | none =>
    have : (bytesOf w).all okB = true := by
      rw [List.all_eq_true]
      intro x hx
      obtain ⟨j, hj, rfl⟩ := List.mem_iff_getElem.mp hx
      have := findE_none.mp hf j (Nat.zero_le _) (by rw [bo_len] at hj; omega)
      rw [bt_nat, getD_eq _ _ hj] at this
      simpa using this
    simp only [this, Bool.and_true, decide_eq_decide]
    omega
theorem spec_not_word {w : ByteArray} (h : w.size > 60) : isW w = false := by unfold isW; simp; omega

theorem wordCode_1 (a : ByteArray) : impl_wordCode.f () [a] = some (if isW a then 0 else 1) := by unfold impl_wordCode.f; simp
theorem wordCode_2 (a b : ByteArray) : impl_wordCode.f () [a, b] = some (if isW a && isW b then 0 else 1) := by unfold impl_wordCode.f; simp

theorem spec_l02Periods_eq {k : Nat} {w : ByteArray} (hw : w.size ≤ 1048576) (hk : w.size + 1 < k) : spec_l02Periods.f k w = some (perL w) := by
  have h := gather_gen (fun k acc i => spec_l02Periods.l0 k w acc i) (w.size + 1) (hasP w) (fun p => (p : Int)) (fun l => l) 0
    (fun k i acc _ hi ha => by
      simp only [spec_l02Periods.l0]
      rw [if_pos (by omega), if_pos (by omega), w64 (x := (w.size : Int) - i) (by omega) (by omega), if_pos (by omega), if_pos (by omega), w64 (x := (i : Int) + 1) (by omega) (by omega)]
      rw [show ((w.size : Int) - i).toNat = w.size - i by omega, Int.toNat_natCast]
      by_cases h1 : w.extract i w.size = w.extract 0 (w.size - i)
      · have : hasP w i = true := by unfold hasP; simpa using h1
        rw [if_pos (toList_iff.mpr h1), if_pos (by omega), this]; rfl
      · have : hasP w i = false := by unfold hasP; simpa using h1
        rw [if_neg (fun e => h1 (toList_iff.mp e)), this]; rfl)
    (fun k acc _ => by simp only [spec_l02Periods.l0]; rw [if_neg (by omega)])
    w.size k 1 [] (by omega) (by omega) (by simp)
  unfold spec_l02Periods.f
  rw [show (1 : Int) = ((1 : Nat) : Int) from rfl, h]
  rfl

theorem impl_hasPeriod_eq {w : ByteArray} {p : Int} (h0 : 0 ≤ p) (h1 : p ≤ w.size) (hw : w.size ≤ 1048576) : impl_hasPeriod.f w p = some (hasP w p.toNat) := by
  unfold impl_hasPeriod.f
  rw [if_pos h0, if_pos h1, w64 (by omega) (by omega), if_pos (by omega), if_pos (by omega), toList_beq]
  unfold hasP
  rw [show ((w.size : Int) - p).toNat = w.size - p.toNat by omega]

theorem impl_period_eq {k : Nat} {w : ByteArray} (hw : w.size ≤ 1048576) (h0 : 0 < w.size) (hk : w.size < k) : impl_period.f k w = some (leastP w : Int) := by
  have h := until_gen (fun k i => impl_period.l0 k w i) w.size (hasP w) (fun j => (j : Int)) 0
    (fun k i _ hi => by
      simp only [impl_period.l0]
      rw [impl_hasPeriod_eq (by omega) (by omega) hw, w64 (by omega) (by omega)]
      rfl)
    (hasP_all w) (w.size - 1) k 1 (by omega) (by omega)
  unfold impl_period.f
  rw [show (1 : Int) = ((1 : Nat) : Int) from rfl, h]
  rfl

def rootW (w : ByteArray) : ByteArray := if w.size % leastP w = 0 then w.extract 0 (leastP w) else w
theorem spec_l02Root_eq {k : Nat} {w : ByteArray} (hw : w.size ≤ 1048576) (h0 : 0 < w.size) (hk : w.size + 1 < k) : spec_l02Root.f k w = some (rootW w) := by
  unfold spec_l02Root.f
  obtain ⟨a1, a2, _, _⟩ := leastP_spec h0
  have := perL_pos h0
  rw [spec_l02Periods_eq hw hk]
  simp only [Option.bind_some]
  rw [if_pos (by omega), perL_rd h0, if_neg (by omega)]
  unfold rootW
  by_cases h : w.size % leastP w = 0
  · rw [if_pos h, if_pos (by omega), if_pos (by omega), if_pos (by omega)]; rfl
  · rw [if_neg h, if_neg (by omega)]
theorem impl_root_eq {k : Nat} {w : ByteArray} (hw : w.size ≤ 1048576) (h0 : 0 < w.size) (hk : w.size + 1 < k) : impl_root.f k w = some (rootW w) := by
  unfold impl_root.f
  obtain ⟨a1, a2, _, _⟩ := leastP_spec h0
  rw [impl_period_eq hw h0 (by omega)]
  simp only [Option.bind_some]
  rw [if_neg (by omega)]
  unfold rootW
  by_cases h : w.size % leastP w = 0
  · rw [if_pos h, if_pos (by omega), if_pos (by omega), if_pos (by omega)]; rfl
  · rw [if_neg h, if_neg (by omega)]
theorem rootW_size {w : ByteArray} (h0 : 0 < w.size) : 0 < (rootW w).size ∧ (rootW w).size ≤ w.size := by
  obtain ⟨a1, a2, _, _⟩ := leastP_spec h0
  unfold rootW
  split
  · rw [ext_size]; omega
  · omega

theorem FnExactCountTurned : laws_FnExactCountTurned.Pure := by
  intro a0 h0
  by_cases hs : (a0.size : Int) > 1048576
  · exact ⟨0, by unfold laws_FnExactCountTurned.f; rw [if_pos hs]⟩
  · refine ⟨1048600, ?_⟩
    have e : spec_CountTurned.f 1048600 a0 = some (if isW a0 then (if a0.size = 0 then (1, 0) else (((rootW a0).size : Int), 0)) else (0, 1)) := by
      unfold spec_CountTurned.f
      rw [spec_l01Is_eq h0 (by omega)]
      cases isW a0
      · simp
      · by_cases h : a0.size = 0
        · simp [h, (str_empty h).2.2.1]
        · simp [h, (str_nonempty h).2.2.1, spec_l02Root_eq (show a0.size ≤ 1048576 by omega) (show 0 < a0.size by omega) (show a0.size + 1 < 1048600 by omega)]
    have e2 : impl_CountTurned.f 1048600 a0 = some (if isW a0 then (if a0.size = 0 then (1, 0) else (((rootW a0).size : Int), 0)) else (0, 1)) := by
      unfold impl_CountTurned.f impl_size.f
      rw [wordCode_1]
      cases isW a0
      · simp
      · by_cases h : a0.size = 0
        · simp [h, (str_empty h).2.2.1]
        · simp [h, (str_nonempty h).2.2.1, impl_root_eq (show a0.size ≤ 1048576 by omega) (show 0 < a0.size by omega) (show a0.size + 1 < 1048600 by omega)]
    unfold laws_FnExactCountTurned.f
    rw [if_neg hs, e, e2]
    simp

end Go.Proofs.Ytjnpobaampgakab.Pure
