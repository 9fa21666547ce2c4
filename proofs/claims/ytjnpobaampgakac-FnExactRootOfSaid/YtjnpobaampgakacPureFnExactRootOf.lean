/- The plain part of the law FnExactRootOf: for every input that the law takes, the printed function of the law answers true once it has rounds enough. Conditions: those that stand in the statement (sizes of strings and slices, kinds of numbers), no other. -/
import Derived.Test.YtjnpobaampgakacQx8
import Derived.Test.YtjnpobaampgakacMath
import Derived.Test.YtjnpobaampgakacMath3
namespace Go.Proofs.Ytjnpobaampgakac.Pure
open Go.RowKit Go.Proofs.Ytjnpobaampgakac.Q Go.Proofs.YtjnpobaampgakacW.PrintWords Go.Proofs.YtjnpobaampgakacW.PrintLast Go.Proofs.YtjnpobaampgakacW.PrintMore
set_option linter.unusedVariables false
set_option linter.unusedSimpArgs false

theorem spec_l01Is_eq {k : Nat} {w : ByteArray} (hw : w.size ≤ 140737488351232) (hk : w.size + 1 < k) : spec_l01Is.f k w = some (isW w) := by
  have h := find_gen (fun k i => spec_l01Is.l0 k w i) w.size (fun i => !okB (bt w i)) (fun _ => false) (decide ((w.size : Int) ≤ 60)) 0
    (fun k i _ hi => by
      simp only [spec_l01Is.l0]
      rw [if_pos (by omega), if_pos (by omega)]
      by_cases h1 : bt w i < 97
      · rw [if_pos h1]
        have : okB (bt w i) = false := by unfold okB; simp; omega
        simp [this]
      · rw [if_neg h1]
        by_cases h2 : bt w i > 101
        · rw [if_pos h2]
          have : okB (bt w i) = false := by unfold okB; simp; omega
          simp [this]
        · rw [if_neg h2, w64 (by omega) (by omega)]
          have : okB (bt w i) = true := by unfold okB; simp; omega
          simp [this])
    (fun k _ => by simp only [spec_l01Is.l0]; rw [if_neg (by omega)])
    w.size k 0 (by omega) (by omega)
  unfold spec_l01Is.f
  rw [show (0 : Int) = ((0 : Nat) : Int) from rfl, h]
  congr 1
  unfold isW
  cases hf : findE (fun i => !okB (bt w i)) 0 w.size with
  | some j =>
    obtain ⟨_, h1, h2, _⟩ := findE_some hf
    have : (bytesOf w).all okB = false := by
      rw [Bool.eq_false_iff]
      intro h3
      rw [List.all_eq_true] at h3
      have hj : j < (bytesOf w).length := by rw [bo_len]; omega
      have := h3 _ (List.getElem_mem hj)
      rw [bt_nat, getD_eq _ _ hj, this] at h2
      cases h2
    simp [this]
  | none =>
    have : (bytesOf w).all okB = true := by
      rw [List.all_eq_true]
      intro x hx
      obtain ⟨j, hj, rfl⟩ := List.mem_iff_getElem.mp hx
      have := findE_none.mp hf j (Nat.zero_le _) (by rw [bo_len] at hj; omega)
      rw [bt_nat, getD_eq _ _ hj] at this
      simpa using this
    simp only [this, Bool.and_true, decide_eq_decide]
    omega
theorem spec_not_word {w : ByteArray} (h : w.size > 60) : isW w = false := by unfold isW; simp; omega

theorem wordCode_1 (a : ByteArray) : impl_wordCode.f () [a] = some (if isW a then 0 else 1) := by unfold impl_wordCode.f; simp
theorem wordCode_2 (a b : ByteArray) : impl_wordCode.f () [a, b] = some (if isW a && isW b then 0 else 1) := by unfold impl_wordCode.f; simp

theorem filled_spec {k : Nat} {w : ByteArray} (h0 : w.size ≤ 140737488351232) (hk : w.size + 1 < k) (hI : spec_l01Is.f k w = some (isW w)) : spec_l02Given.f k w = some (if isW w then (if w.size = 0 then 5 else 0) else 1) := by
  unfold spec_l02Given.f
  rw [hI]
  cases isW w
  · simp
  · by_cases h : w.size = 0
    · have := (str_empty h).2.2.1; simp [h, this]
    · have := (str_nonempty h).2.2.1; simp [h, this]
theorem filled_impl (w : ByteArray) : impl_filledCode.f w = some (if isW w then (if w.size = 0 then 5 else 0) else 1) := by
  unfold impl_filledCode.f
  rw [wordCode_1]
  cases isW w
  · simp
  · by_cases h : w.size = 0
    · have := (str_empty h).2.2.1; simp [h, this]
    · have := (str_nonempty h).2.2.1; simp [h, this]

theorem spec_l02Periods_eq {k : Nat} {w : ByteArray} (hw : w.size ≤ 1048576) (hk : w.size + 1 < k) : spec_l02Periods.f k w = some (perL w) := by
  have h := gather_gen (fun k acc i => spec_l02Periods.l0 k w acc i) (w.size + 1) (hasP w) (fun p => (p : Int)) (fun l => l) 0
    (fun k i acc _ hi ha => by
      simp only [spec_l02Periods.l0]
      rw [if_pos (by omega), if_pos (by omega), w64 (x := (w.size : Int) - i) (by omega) (by omega), if_pos (by omega), if_pos (by omega), w64 (x := (i : Int) + 1) (by omega) (by omega)]
      rw [show ((w.size : Int) - i).toNat = w.size - i by omega, Int.toNat_natCast]
      by_cases h1 : w.extract i w.size = w.extract 0 (w.size - i)
      · have : hasP w i = true := by unfold hasP; simpa using h1
        rw [if_pos (toList_iff.mpr h1), if_pos (by omega), this]; rfl
      · have : hasP w i = false := by unfold hasP; simpa using h1
        rw [if_neg (fun e => h1 (toList_iff.mp e)), this]; rfl)
    (fun k acc _ => by simp only [spec_l02Periods.l0]; rw [if_neg (by omega)])
    w.size k 1 [] (by omega) (by omega) (by simp)
  unfold spec_l02Periods.f
  rw [show (1 : Int) = ((1 : Nat) : Int) from rfl, h]
  rfl

theorem impl_hasPeriod_eq {w : ByteArray} {p : Int} (h0 : 0 ≤ p) (h1 : p ≤ w.size) (hw : w.size ≤ 1048576) : impl_hasPeriod.f w p = some (hasP w p.toNat) := by
  unfold impl_hasPeriod.f
  rw [if_pos h0, if_pos h1, w64 (by omega) (by omega), if_pos (by omega), if_pos (by omega), toList_beq]
  unfold hasP
  rw [show ((w.size : Int) - p).toNat = w.size - p.toNat by omega]

theorem impl_period_eq {k : Nat} {w : ByteArray} (hw : w.size ≤ 1048576) (h0 : 0 < w.size) (hk : w.size < k) : impl_period.f k w = some (leastP w : Int) := by
  have h := until_gen (fun k i => impl_period.l0 k w i) w.size (hasP w) (fun j => (j : Int)) 0
    (fun k i _ hi => by
      simp only [impl_period.l0]
      rw [impl_hasPeriod_eq (by omega) (by omega) hw, w64 (by omega) (by omega)]
      rfl)
    (hasP_all w) (w.size - 1) k 1 (by omega) (by omega)
  unfold impl_period.f
  rw [show (1 : Int) = ((1 : Nat) : Int) from rfl, h]
  rfl

def rootW (w : ByteArray) : ByteArray := if w.size % leastP w = 0 then w.extract 0 (leastP w) else w
theorem spec_l02Root_eq {k : Nat} {w : ByteArray} (hw : w.size ≤ 1048576) (h0 : 0 < w.size) (hk : w.size + 1 < k) : spec_l02Root.f k w = some (rootW w) := by
  unfold spec_l02Root.f
  obtain ⟨a1, a2, _, _⟩ := leastP_spec h0
  have := perL_pos h0
  rw [spec_l02Periods_eq hw hk]
  simp only [Option.bind_some]
  rw [if_pos (by omega), perL_rd h0, if_neg (by omega)]
  unfold rootW
  by_cases h : w.size % leastP w = 0
  · rw [if_pos h, if_pos (by omega), if_pos (by omega), if_pos (by omega)]; rfl
  · rw [if_neg h, if_neg (by omega)]
theorem impl_root_eq {k : Nat} {w : ByteArray} (hw : w.size ≤ 1048576) (h0 : 0 < w.size) (hk : w.size + 1 < k) : impl_root.f k w = some (rootW w) := by
  unfold impl_root.f
  obtain ⟨a1, a2, _, _⟩ := leastP_spec h0
  rw [impl_period_eq hw h0 (by omega)]
  simp only [Option.bind_some]
  rw [if_neg (by omega)]
  unfold rootW
  by_cases h : w.size % leastP w = 0
  · rw [if_pos h, if_pos (by omega), if_pos (by omega), if_pos (by omega)]; rfl
  · rw [if_neg h, if_neg (by omega)]
theorem rootW_size {w : ByteArray} (h0 : 0 < w.size) : 0 < (rootW w).size ∧ (rootW w).size ≤ w.size := by
  obtain ⟨a1, a2, _, _⟩ := leastP_spec h0
  unfold rootW
  split
  · rw [ext_size]; omega
  · omega

theorem spec_RootOf_eq {k : Nat} {w : ByteArray} (h0 : w.size ≤ 1048576) (hk : w.size + 1 < k) : spec_RootOf.f k w = some (if isW w then (if w.size = 0 then (⟨#[]⟩, 0, 5) else (rootW w, (w.size : Int) / (rootW w).size, 0)) else (⟨#[]⟩, 0, 1)) := by
  unfold spec_RootOf.f
  rw [filled_spec (by omega) hk (spec_l01Is_eq (by omega) hk)]
  cases isW w
  · simp
  · by_cases h : w.size = 0
    · simp [h]
    · obtain ⟨b1, b2⟩ := rootW_size (show 0 < w.size by omega)
      have hd := div_small (a := w.size) (b := (rootW w).size) h0 b1
      simp only [h, if_true, if_false, Option.bind_some, spec_l02Root_eq h0 (show 0 < w.size by omega) hk]
      rw [if_neg (by omega), w64 (by omega) (by omega)]
theorem impl_RootOf_eq {k : Nat} {w : ByteArray} (h0 : w.size ≤ 1048576) (hk : w.size + 1 < k) : impl_RootOf.f k w = some (if isW w then (if w.size = 0 then (⟨#[]⟩, 0, 5) else (rootW w, (w.size : Int) / (rootW w).size, 0)) else (⟨#[]⟩, 0, 1)) := by
  unfold impl_RootOf.f impl_size.f
  rw [filled_impl]
  cases isW w
  · simp
  · by_cases h : w.size = 0
    · simp [h]
    · obtain ⟨b1, b2⟩ := rootW_size (show 0 < w.size by omega)
      have hd := div_small (a := w.size) (b := (rootW w).size) h0 b1
      simp only [h, if_true, if_false, Option.bind_some, impl_root_eq h0 (show 0 < w.size by omega) hk]
      rw [if_neg (by omega), Int.tdiv_eq_ediv_of_nonneg (by omega), w64 (by omega) (by omega)]
theorem FnExactRootOf : laws_FnExactRootOf.Pure := by
  intro a0 h0
  by_cases hs : (a0.size : Int) > 1048576
  · exact ⟨0, by unfold laws_FnExactRootOf.f; rw [if_pos hs]⟩
  · refine ⟨1048600, ?_⟩
    unfold laws_FnExactRootOf.f
    rw [if_neg hs, spec_RootOf_eq (by omega) (by omega), impl_RootOf_eq (by omega) (by omega)]
    simp

end Go.Proofs.Ytjnpobaampgakac.Pure
