/- The plain part of the law FnExactCommonEnd: for every input that the law takes, the printed function of the law answers true once it has rounds enough. Conditions: those that stand in the statement (sizes of strings and slices, kinds of numbers), no other. -/
import Derived.Test.YtjnpobaampgakabQx8
import Derived.Test.YtjnpobaampgakabMath
import Derived.Test.YtjnpobaampgakabMath4
namespace Go.Proofs.Ytjnpobaampgakab.Pure
open Go.RowKit Go.Proofs.Ytjnpobaampgakab.Q Go.Proofs.YtjnpobaampgakabW.PrintWords Go.Proofs.YtjnpobaampgakabW.PrintLast Go.Proofs.YtjnpobaampgakabW.PrintMore
set_option linter.unusedVariables false
set_option linter.unusedSimpArgs false

theorem spec_l01Is_eq {k : Nat} {w : ByteArray} (hw : w.size ≤ 140737488351232) (hk : w.size + 1 < k) : spec_l01Is.f k w = some (isW w) := by
  have h := find_gen (fun k i => spec_l01Is.l0 k w i) w.size (fun i => !okB (bt w i)) (fun _ => false) (decide ((w.size : Int) ≤ 60)) 0
    (fun k i _ hi => by
      simp only [spec_l01Is.l0]
      rw [if_pos (by omega), if_pos (by omega)]
      by_cases h1 : bt w i < 97
      · rw [if_pos h1]
        have : okB (bt w i) = false := by unfold okB; simp; omega
        simp [this]
      · rw [if_neg h1]
        by_cases h2 : bt w i > 101
        · rw [if_pos h2]
          have : okB (bt w i) = false := by unfold okB; simp; omega
          simp [this]
        · rw [if_neg h2, w64 (by omega) (by omega)]
          have : okB (bt w i) = true := by unfold okB; simp; omega
          simp [this])
    (fun k _ => by simp only [spec_l01Is.l0]; rw [if_neg (by omega)])
    w.size k 0 (by omega) (by omega)
  unfold spec_l01Is.f
  rw [show (0 : Int) = ((0 : Nat) : Int) from rfl, h]
  congr 1
  unfold isW
  cases hf : findE (fun i => !okB (bt w i)) 0 w.size with
  | some j =>
    obtain ⟨_, h1, h2, _⟩ := findE_some hf
    have : (bytesOf w).all okB = false := by
      rw [Bool.eq_false_iff]
      intro h3
      rw [List.all_eq_true] at h3
      have hj : j < (bytesOf w).length := by rw [bo_len]; omega
      have := h3 _ (List.getElem_mem hj)
      rw [bt_nat, getD_eq _ _ hj, this] at h2
      cases h2
    simp [this]
  | none =>
    have : (bytesOf w).all okB = true := by
      rw [List.all_eq_true]
      intro x hx
      obtain ⟨j, hj, rfl⟩ := List.mem_iff_getElem.mp hx
      have := findE_none.mp hf j (Nat.zero_le _) (by rw [bo_len] at hj; omega)
      rw [bt_nat, getD_eq _ _ hj] at this
      simpa using this
    simp only [this, Bool.and_true, decide_eq_decide]
    omega
theorem spec_not_word {w : ByteArray} (h : w.size > 60) : isW w = false := by unfold isW; simp; omega

theorem wordCode_1 (a : ByteArray) : impl_wordCode.f () [a] = some (if isW a then 0 else 1) := by unfold impl_wordCode.f; simp
theorem wordCode_2 (a b : ByteArray) : impl_wordCode.f () [a, b] = some (if isW a && isW b then 0 else 1) := by unfold impl_wordCode.f; simp

theorem spec_l01Reversed_l0 (w : ByteArray) (hw : w.size ≤ 1048576) : ∀ (n k : Nat) (acc : List Int), n ≤ w.size → n + 1 < k → acc.length + n ≤ 1048576 →
    spec_l01Reversed.l0 k w acc ((n : Int) - 1) = some (strOfNums (acc ++ ((bytesOf w).take n).reverse))
  | 0, k, acc, hn, hk, ha => by
    obtain ⟨k, rfl⟩ := rounds_pos (show 0 < k by omega)
    simp only [spec_l01Reversed.l0]
    rw [if_neg (by omega)]
    simp
  | n + 1, k, acc, hn, hk, ha => by
    obtain ⟨k, rfl⟩ := rounds_pos (show 0 < k by omega)
    simp only [spec_l01Reversed.l0]
    rw [if_pos (by omega), if_pos (by omega), if_pos (by omega), if_pos (by omega)]
    have e1 : ((n + 1 : Nat) : Int) - 1 = (n : Int) := by omega
    rw [e1, w64 (by omega) (by omega), spec_l01Reversed_l0 w hw n k (acc ++ [bt w n]) (by omega) (by omega) (by simp; omega)]
    rw [take_bytes_snoc w n (by omega)]
    simp
theorem spec_l01Reversed_eq {k : Nat} {w : ByteArray} (hw : w.size ≤ 1048576) (hk : w.size + 1 < k) : spec_l01Reversed.f k w = some (revW w) := by
  unfold spec_l01Reversed.f
  rw [w64 (by omega) (by omega), spec_l01Reversed_l0 w hw w.size k [] (Nat.le_refl _) hk (by simpa using hw)]
  rw [← bo_len, List.take_length]
  rfl

theorem impl_reversed_eq {w : ByteArray} (h : w.size ≤ 1048576) : impl_reversed.f w = some (revW w) := by unfold impl_reversed.f; rw [if_pos (by omega)]

theorem spec_l01Common_eq {k : Nat} {a b : ByteArray} (ha : a.size ≤ 1048576) (hk : a.size + 1 < k) : spec_l01Common.f k a b = some (comN a b : Int) := by
  have h := find_gen (fun k i => spec_l01Common.l0 k a b i) (min a.size b.size) (fun i => !(bt a i == bt b i)) (fun j => (j : Int)) ((min a.size b.size : Nat) : Int) 0
    (fun k i _ hi => by
      simp only [spec_l01Common.l0]
      rw [if_pos (by omega), if_pos (by omega), if_pos (by omega), w64 (by omega) (by omega)]
      by_cases h1 : bt a i = bt b i
      · rw [if_pos h1]; simp [h1]
      · rw [if_neg h1]; simp [h1])
    (fun k _ => by
      simp only [spec_l01Common.l0]
      by_cases h1 : a.size ≤ b.size
      · rw [if_neg (by omega)]
      · rw [if_pos (by omega), if_neg (by omega)])
    (min a.size b.size) k 0 (by omega) (by omega)
  unfold spec_l01Common.f
  rw [show (0 : Int) = ((0 : Nat) : Int) from rfl, h]
  unfold comN
  cases findE (fun i => !(bt a i == bt b i)) 0 (min a.size b.size) <;> rfl
theorem comN_le (a b : ByteArray) : comN a b ≤ a.size ∧ comN a b ≤ b.size := by
  unfold comN
  cases h : findE (fun i => !(bt a i == bt b i)) 0 (min a.size b.size) with
  | none => simp only [Option.getD_none]; omega
  | some j => have := findE_some h; simp only [Option.getD_some]; omega

theorem impl_common_eq {a b : ByteArray} (h : a.size ≤ 1048576) (h' : b.size ≤ 1048576) : impl_common.f a b = some (a.extract 0 (comN a b)) := by unfold impl_common.f; rw [if_pos (by omega)]

def cendW (a b : ByteArray) : ByteArray := a.extract (a.size - comN (revW a) (revW b)) a.size
theorem cend_rev (a b : ByteArray) : revW ((revW a).extract 0 (comN (revW a) (revW b))) = cendW a b := by
  apply bo_inj
  have h := (comN_le (revW a) (revW b)).1
  rw [revW_size] at h
  unfold cendW
  rw [bo_rev, bo_extract, bo_rev, List.drop_zero, bo_extract, ← bo_len, List.take_length, List.take_reverse, List.reverse_reverse]
theorem spec_CommonEnd_j0 {k : Nat} {a b : ByteArray} (ha : a.size ≤ 1048576) (hb : b.size ≤ 1048576) (hk : 1048600 ≤ k) (x : Bool) : spec_CommonEnd.j0 k a b x = some (if x then (⟨#[]⟩, 1) else (cendW a b, 0)) := by
  obtain ⟨k, rfl⟩ := rounds_pos (show 0 < k by omega)
  simp only [spec_CommonEnd.j0]
  cases x
  · rw [if_neg (by simp), spec_l01Reversed_eq ha (by omega), spec_l01Reversed_eq hb (by omega)]
    simp only [Option.bind_some]
    rw [spec_l01Common_eq (by rw [revW_size]; exact ha) (by rw [revW_size]; omega)]
    simp only [Option.bind_some]
    have h := (comN_le (revW a) (revW b)).1
    rw [revW_size] at h
    rw [w64 (by omega) (by omega), if_pos (by omega), if_pos (by omega)]
    unfold cendW
    rw [show ((a.size : Int) - (comN (revW a) (revW b) : Int)).toNat = a.size - comN (revW a) (revW b) by omega]
    rfl
  · simp
theorem FnExactCommonEnd : laws_FnExactCommonEnd.Pure := by
  intro a0 a1 h0 h1
  by_cases hs : (a0.size : Int) > 1048576
  · exact ⟨0, by unfold laws_FnExactCommonEnd.f; rw [if_pos hs]⟩
  by_cases hs' : (a1.size : Int) > 1048576
  · exact ⟨0, by unfold laws_FnExactCommonEnd.f; rw [if_neg hs, if_pos hs']⟩
  · refine ⟨1048600, ?_⟩
    have e : spec_CommonEnd.f 1048600 a0 a1 = some (if isW a0 && isW a1 then (cendW a0 a1, 0) else (⟨#[]⟩, 1)) := by
      unfold spec_CommonEnd.f
      rw [spec_l01Is_eq h0 (by omega), spec_l01Is_eq h1 (by omega)]
      cases isW a0
      · simp [spec_CommonEnd_j0 (show a0.size ≤ 1048576 by omega) (show a1.size ≤ 1048576 by omega) (show 1048600 ≤ 1048600 by omega)]
      · cases isW a1 <;> simp [spec_CommonEnd_j0 (show a0.size ≤ 1048576 by omega) (show a1.size ≤ 1048576 by omega) (show 1048600 ≤ 1048600 by omega)]
    have e2 : impl_CommonEnd.f a0 a1 = some (if isW a0 && isW a1 then (cendW a0 a1, 0) else (⟨#[]⟩, 1)) := by
      unfold impl_CommonEnd.f
      have hz := revW_size a0
      have hz1 := revW_size a1
      rw [wordCode_2, impl_reversed_eq (by omega), impl_reversed_eq (by omega)]
      simp only [Option.bind_some]
      rw [impl_common_eq (by omega) (by omega)]
      simp only [Option.bind_some]
      rw [impl_reversed_eq (by rw [ext_size]; omega), cend_rev]
      cases isW a0 <;> cases isW a1 <;> simp
    unfold laws_FnExactCommonEnd.f
    rw [if_neg hs, if_neg hs', e, e2]
    simp

end Go.Proofs.Ytjnpobaampgakab.Pure
