/- The plain part of the law FnExactLeastTurned: for every input that the law takes, the printed function of the law answers true once it has rounds enough. Conditions: those that stand in the statement (sizes of strings and slices, kinds of numbers), no other. -/
import Derived.Test.YtjnpobaampgakabQx4
import Derived.Test.YtjnpobaampgakabMath
import Derived.Test.YtjnpobaampgakabMath4
namespace Go.Proofs.Ytjnpobaampgakab.Pure
open Go.RowKit Go.Proofs.Ytjnpobaampgakab.Q Go.Proofs.YtjnpobaampgakabW.PrintWords Go.Proofs.YtjnpobaampgakabW.PrintLast Go.Proofs.YtjnpobaampgakabW.PrintMore
set_option linter.unusedVariables false
set_option linter.unusedSimpArgs false

theorem spec_l01Is_eq {k : Nat} {w : ByteArray} (hw : w.size ≤ 140737488351232) (hk : w.size + 1 < k) : spec_l01Is.f k w = some (isW w) := by
  have h := find_gen (fun k i => spec_l01Is.l0 k w i) w.size (fun i => !okB (bt w i)) (fun _ => false) (decide ((w.size : Int) ≤ 60)) 0
    (fun k i _ hi => by
      simp only [spec_l01Is.l0]
      rw [if_pos (by omega), if_pos (by omega)]
      by_cases h1 : bt w i < 97
      · rw [if_pos h1]
        have : okB (bt w i) = false := by unfold okB; simp; omega
        simp [this]
      · rw [if_neg h1]
        by_cases h2 : bt w i > 101
        · rw [if_pos h2]
          have : okB (bt w i) = false := by unfold okB; simp; omega
          simp [this]
        · rw [if_neg h2, w64 (by omega) (by omega)]
          have : okB (bt w i) = true := by unfold okB; simp; omega
          simp [this])
    (fun k _ => by simp only [spec_l01Is.l0]; rw [if_neg (by omega)])
    w.size k 0 (by omega) (by omega)
  unfold spec_l01Is.f
  rw [show (0 : Int) = ((0 : Nat) : Int) from rfl, h]
  congr 1
  unfold isW
  cases hf : findE (fun i => !okB (bt w i)) 0 w.size with
  | some j =>
    obtain ⟨_, h1, h2, _⟩ := findE_some hf
    have : (bytesOf w).all okB = false := by
      rw [Bool.eq_false_iff]
      intro h3
      rw [List.all_eq_true] at h3
      have hj : j < (bytesOf w).length := by rw [bo_len]; omega
      have := h3 _ (List.getElem_mem hj)
      rw [bt_nat, getD_eq _ _ hj, this] at h2
      cases h2
    simp [this]
  | none =>
    have : (bytesOf w).all okB = true := by
      rw [List.all_eq_true]
      intro x hx
      obtain ⟨j, hj, rfl⟩ := List.mem_iff_getElem.mp hx
      have := findE_none.mp hf j (Nat.zero_le _) (by rw [bo_len] at hj; omega)
      rw [bt_nat, getD_eq _ _ hj] at this
      simpa using this
    simp only [this, Bool.and_true, decide_eq_decide]
    omega
theorem spec_not_word {w : ByteArray} (h : w.size > 60) : isW w = false := by unfold isW; simp; omega

theorem wordCode_1 (a : ByteArray) : impl_wordCode.f () [a] = some (if isW a then 0 else 1) := by unfold impl_wordCode.f; simp
theorem wordCode_2 (a b : ByteArray) : impl_wordCode.f () [a, b] = some (if isW a && isW b then 0 else 1) := by unfold impl_wordCode.f; simp

def turnW (w : ByteArray) (k : Nat) : ByteArray := w.extract k w.size ++ w.extract 0 k
def lstG (w : ByteArray) (k : Nat) (s : ByteArray × Nat) : ByteArray × Nat := if lessI (bytesOf (turnW w k)) (bytesOf s.1) = true then (turnW w k, k) else s
def lstW (w : ByteArray) : ByteArray × Nat := loopS (lstG w) 1 (w.size - 1) (w, 0)
theorem turnW_0 (w : ByteArray) : turnW w 0 = w := by
  apply bo_inj
  unfold turnW
  rw [bo_append, bo_extract, bo_extract, ← bo_len, List.take_length]
  simp
theorem spec_l01Turned_eq {w : ByteArray} {k : Int} (h0 : 0 ≤ k) (h1 : k ≤ w.size) (hs : w.size ≤ 1048576) : spec_l01Turned.f w k = some (turnW w k.toNat) := by
  unfold spec_l01Turned.f
  rw [if_pos h0, if_pos h1, if_pos (by rw [ext_size, ext_size]; omega)]; rfl
theorem spec_l02Least_eq {k : Nat} {w : ByteArray} (hw : w.size ≤ 1048576) (hk : w.size + 1 < k) : spec_l02Least.f k w = some ((lstW w).1, ((lstW w).2 : Int)) := by
  unfold spec_l02Least.f
  by_cases hz : w.size = 0
  · obtain ⟨k, rfl⟩ := rounds_pos (show 0 < k by omega)
    simp only [spec_l02Least.l0]
    rw [if_neg (by omega)]
    unfold lstW
    rw [hz]; rfl
  exact fold_gen (fun k (s : ByteArray × Nat) i => spec_l02Least.l0 k w s.1 s.2 i) w.size (lstG w) (fun s => (s.1, (s.2 : Int))) (fun _ _ => True) 0
    (fun k i s _ hi _ => by
      simp only [spec_l02Least.l0]
      rw [if_pos (by omega), spec_l01Turned_eq (by omega) (by omega) hw, Int.toNat_natCast, w64 (by omega) (by omega)]
      simp only [Option.bind_some]
      rw [less_bo]
      unfold lstG
      by_cases h : lessI (bytesOf (turnW w i)) (bytesOf s.1) = true
      · rw [if_pos h, if_pos h]; rfl
      · rw [if_neg h, if_neg h]; rfl)
    (fun _ _ _ _ => trivial)
    (fun k s _ _ => by simp only [spec_l02Least.l0]; rw [if_neg (by omega)])
    (w.size - 1) k 1 (w, 0) (by omega) (by omega) trivial
theorem impl_leastTurned_eq {k : Nat} {w : ByteArray} (hw : w.size ≤ 1048576) (hk : w.size + 1 < k) : impl_leastTurned.f k w = some ((lstW w).1, ((lstW w).2 : Int)) := by
  unfold impl_leastTurned.f
  have h := fold_gen (fun k (s : ByteArray × Nat) i => impl_leastTurned.l0 k w s.1 s.2 w.size i) w.size (lstG w) (fun s => (s.1, (s.2 : Int))) (fun _ _ => True) 0
    (fun k i s _ hi _ => by
      simp only [impl_leastTurned.l0]
      rw [if_pos (by omega), if_pos (by omega), if_pos (by omega), Int.toNat_natCast, if_pos (by rw [ext_size, ext_size]; omega), w64 (by omega) (by omega), less_bo]
      unfold lstG
      by_cases h : lessI (bytesOf (turnW w i)) (bytesOf s.1) = true
      · rw [if_pos h]; unfold turnW at h ⊢; rw [if_pos h]; rfl
      · rw [if_neg h]; unfold turnW at h; rw [if_neg h]; rfl)
    (fun _ _ _ _ => trivial)
    (fun k s _ _ => by simp only [impl_leastTurned.l0]; rw [if_neg (by omega)])
    w.size k 0 (w, 0) (by omega) (by omega) trivial
  have e : loopS (lstG w) 0 w.size (w, 0) = lstW w := by
    unfold lstW
    by_cases hz : w.size = 0
    · rw [hz]; rfl
    · rw [show w.size = (w.size - 1) + 1 by omega]
      simp only [loopS, Nat.add_sub_cancel]
      have : lstG w 0 (w, 0) = (w, 0) := by
        unfold lstG
        rw [turnW_0, lessI_irrefl, if_neg (by simp)]
      rw [this]
  rw [e] at h
  exact h
theorem FnExactLeastTurned : laws_FnExactLeastTurned.Pure := by
  intro a0 h0
  by_cases hs : (a0.size : Int) > 1048576
  · exact ⟨0, by unfold laws_FnExactLeastTurned.f; rw [if_pos hs]⟩
  · refine ⟨1048600, ?_⟩
    have e : spec_LeastTurned.f 1048600 a0 = some (if isW a0 then ((lstW a0).1, ((lstW a0).2 : Int), 0) else (⟨#[]⟩, 0, 1)) := by
      unfold spec_LeastTurned.f
      rw [spec_l01Is_eq h0 (by omega), spec_l02Least_eq (by omega) (by omega)]
      cases isW a0 <;> simp
    have e2 : impl_LeastTurned.f 1048600 a0 = some (if isW a0 then ((lstW a0).1, ((lstW a0).2 : Int), 0) else (⟨#[]⟩, 0, 1)) := by
      unfold impl_LeastTurned.f
      rw [wordCode_1, impl_leastTurned_eq (by omega) (by omega)]
      cases isW a0 <;> simp
    unfold laws_FnExactLeastTurned.f
    rw [if_neg hs, e, e2]
    simp

end Go.Proofs.Ytjnpobaampgakab.Pure
