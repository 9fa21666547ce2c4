/- The plain part of the law FnExactLocalPeriod: for every input that the law takes, the printed function of the law answers true once it has rounds enough. Conditions: those that stand in the statement (sizes of strings and slices, kinds of numbers), no other. -/
import Derived.Test.YtjnpobaampgakabQx6
import Derived.Test.YtjnpobaampgakabMath
import Derived.Test.YtjnpobaampgakabMath4
namespace Go.Proofs.Ytjnpobaampgakab.Pure
open Go.RowKit Go.Proofs.Ytjnpobaampgakab.Q Go.Proofs.YtjnpobaampgakabW.PrintWords Go.Proofs.YtjnpobaampgakabW.PrintLast Go.Proofs.YtjnpobaampgakabW.PrintMore
set_option linter.unusedVariables false
set_option linter.unusedSimpArgs false

theorem spec_l01Is_eq {k : Nat} {w : ByteArray} (hw : w.size ≤ 140737488351232) (hk : w.size + 1 < k) : spec_l01Is.f k w = some (isW w) := by
  have h := find_gen (fun k i => spec_l01Is.l0 k w i) w.size (fun i => !okB (bt w i)) (fun _ => false) (decide ((w.size : Int) ≤ 60)) 0
    (fun k i _ hi => by
      simp only [spec_l01Is.l0]
      rw [if_pos (by omega), if_pos (by omega)]
      by_cases h1 : bt w i < 97
      · rw [if_pos h1]
        have : okB (bt w i) = false := by unfold okB; simp; omega
        simp [this]
      · rw [if_neg h1]
        by_cases h2 : bt w i > 101
        · rw [if_pos h2]
          have : okB (bt w i) = false := by unfold okB; simp; omega
          simp [this]
        · rw [if_neg h2, w64 (by omega) (by omega)]
          have : okB (bt w i) = true := by unfold okB; simp; omega
          simp [this])
    (fun k _ => by simp only [spec_l01Is.l0]; rw [if_neg (by omega)])
    w.size k 0 (by omega) (by omega)
  unfold spec_l01Is.f
  rw [show (0 : Int) = ((0 : Nat) : Int) from rfl, h]
  congr 1
  unfold isW
  cases hf : findE (fun i => !okB (bt w i)) 0 w.size with
  | some j =>
    obtain ⟨_, h1, h2, _⟩ := findE_some hf
    have : (bytesOf w).all okB = false := by
      rw [Bool.eq_false_iff]
      intro h3
      rw [List.all_eq_true] at h3
      have hj : j < (bytesOf w).length := by rw [bo_len]; omega
      have := h3 _ (List.getElem_mem hj)
      rw [bt_nat, getD_eq _ _ hj, this] at h2
      cases h2
    simp [this]
  | none =>
    have : (bytesOf w).all okB = true := by
      rw [List.all_eq_true]
      intro x hx
      obtain ⟨j, hj, rfl⟩ := List.mem_iff_getElem.mp hx
      have := findE_none.mp hf j (Nat.zero_le _) (by rw [bo_len] at hj; omega)
      rw [bt_nat, getD_eq _ _ hj] at this
      simpa using this
    simp only [this, Bool.and_true, decide_eq_decide]
    omega
theorem spec_not_word {w : ByteArray} (h : w.size > 60) : isW w = false := by unfold isW; simp; omega

theorem spec_l01In_eq (n lo hi : Int) : spec_l01In.f n lo hi = some (inR n lo hi) := by
  unfold spec_l01In.f inR
  by_cases h : n ≥ lo
  · rw [if_pos h, decide_eq_true (show lo ≤ n from h)]; simp
  · rw [if_neg h, decide_eq_false (show ¬ lo ≤ n from h)]; simp

def locB (w : ByteArray) (i p : Nat) : Bool := (findE (fun j => decide (j + p < w.size) && !(bt w j == bt w ((j + p : Nat) : Int))) (i - p) (i - (i - p))).isNone
def locP (w : ByteArray) (i : Nat) : Nat := (findE (locB w i) 1 (w.size - 1)).getD w.size
theorem locB_end {w : ByteArray} {i p : Nat} (h : w.size ≤ p) : locB w i p = true := by
  unfold locB
  rw [Option.isNone_iff_eq_none, findE_none]
  intro m _ _
  rw [decide_eq_false (by omega)]; rfl
theorem mx_sub {i p : Nat} (hi : i ≤ 1000) (hp : p ≤ 1000) : mx (wrap64 ((i : Int) - p)) 0 = ((i - p : Nat) : Int) := by
  rw [w64 (by omega) (by omega)]
  unfold mx
  split <;> omega
theorem spec_l02Local_l1 {w : ByteArray} (hw : w.size ≤ 60) {i p : Nat} (hi : i ≤ w.size) (hp : p ≤ w.size) : ∀ c j, j + c = i →
    ∃ c', c' ≤ c + 2 ∧ ∀ k, spec_l02Local.l1 (k + c') w i p true j = if (findE (fun j => decide (j + p < w.size) && !(bt w j == bt w ((j + p : Nat) : Int))) j c).isNone then some (p : Int) else spec_l02Local.l0 k w i ((p + 1 : Nat) : Int)
  | 0, j, hj => ⟨1, by omega, fun k => by
      simp only [spec_l02Local.l1]
      rw [if_neg (by omega), if_pos trivial]; rfl⟩
  | c + 1, j, hj => by
    by_cases hn : j + p < w.size
    · have hs : ∀ k, spec_l02Local.l1 (k + 1) w i p true j = spec_l02Local.l1 k w i p (bt w j == bt w ((j + p : Nat) : Int)) ((j + 1 : Nat) : Int) := fun k => by
        simp only [spec_l02Local.l1]
        rw [if_pos (by omega), w64 (x := (j : Int) + p) (by omega) (by omega), if_pos (by omega), if_pos trivial, if_pos (by omega), if_pos (by omega), if_pos (by omega), w64 (by omega) (by omega)]
        rfl
      cases hg : (bt w j == bt w ((j + p : Nat) : Int)) with
      | true =>
        obtain ⟨c', h1, h2⟩ := spec_l02Local_l1 hw hi hp c (j + 1) (by omega)
        refine ⟨c' + 1, by omega, fun k => ?_⟩
        rw [show k + (c' + 1) = (k + c') + 1 by omega, hs, hg, h2]
        simp only [findE, hg, Bool.not_true, Bool.and_false, Bool.false_eq_true, if_false]
      | false =>
        refine ⟨2, by omega, fun k => ?_⟩
        rw [hs, hg]
        simp only [spec_l02Local.l1, Bool.false_eq_true, if_false, ite_self]
        simp only [findE, hg, decide_eq_true hn, Bool.not_false, Bool.and_true, if_true, Option.isNone_some, Bool.false_eq_true, if_false]
        rw [w64 (by omega) (by omega)]; rfl
    · refine ⟨1, by omega, fun k => ?_⟩
      simp only [spec_l02Local.l1]
      rw [if_pos (by omega), w64 (x := (j : Int) + p) (by omega) (by omega), if_neg (by omega), if_pos trivial]
      rw [if_pos]
      rw [Option.isNone_iff_eq_none, findE_none]
      intro m h1 h2
      rw [decide_eq_false (by omega)]; rfl
theorem spec_l02Local_eq {k : Nat} {w : ByteArray} {i : Nat} (hw : w.size ≤ 60) (h0 : 0 < w.size) (hi : i ≤ w.size) (hk : 10000 ≤ k) : spec_l02Local.f k w i = some (locP w i : Int) := by
  have h := until_cost (fun k p => spec_l02Local.l0 k w i p) w.size (locB w i) (fun p => (p : Int)) 0 70
    (fun p hp => by
      obtain ⟨c', h2, h3⟩ := spec_l02Local_l1 hw hi hp (i - (i - p)) (i - p) (by omega)
      refine ⟨c', by omega, fun k _ => ?_⟩
      rw [show k + c' + 1 = (k + c') + 1 by omega]
      simp only [spec_l02Local.l0]
      rw [mx_sub (by omega) (by omega), h3 k]; rfl)
    (locB_end (Nat.le_refl _))
    (w.size - 1) k 1 (by omega) (by
      have : (w.size - 1 + 1) * (70 + 1) ≤ 60 * 71 := Nat.mul_le_mul (by omega) (by omega)
      omega)
  unfold spec_l02Local.f
  rw [show (1 : Int) = ((1 : Nat) : Int) from rfl, h]
  rfl
theorem impl_local_false {w : ByteArray} (hw : w.size ≤ 60) {i p : Nat} (hi : i ≤ w.size) (hp : p ≤ w.size) : ∀ c j, j + c = i →
    ∃ c', c' ≤ c + 1 ∧ ∀ k, impl_localPeriod.l1 (k + c') w i p false j = impl_localPeriod.l0 k w i ((p + 1 : Nat) : Int)
  | 0, j, hj => ⟨1, by omega, fun k => by
      simp only [impl_localPeriod.l1]
      rw [if_neg (by omega), if_neg (by simp), w64 (by omega) (by omega)]; rfl⟩
  | c + 1, j, hj => by
    by_cases hn : j + p < w.size
    · obtain ⟨c', h1, h2⟩ := impl_local_false hw hi hp c (j + 1) (by omega)
      refine ⟨c' + 1, by omega, fun k => ?_⟩
      rw [show k + (c' + 1) = (k + c') + 1 by omega]
      simp only [impl_localPeriod.l1]
      rw [if_pos (by omega), w64 (x := (j : Int) + p) (by omega) (by omega), if_pos (by omega), if_neg (by simp), w64 (by omega) (by omega)]
      exact h2 k
    · refine ⟨1, by omega, fun k => ?_⟩
      simp only [impl_localPeriod.l1]
      rw [if_pos (by omega), w64 (x := (j : Int) + p) (by omega) (by omega), if_neg (by omega), if_neg (by simp), w64 (by omega) (by omega)]; rfl
theorem impl_local_l1 {w : ByteArray} (hw : w.size ≤ 60) {i p : Nat} (hi : i ≤ w.size) (hp : p ≤ w.size) : ∀ c j, j + c = i →
    ∃ c', c' ≤ c + 2 ∧ ∀ k, impl_localPeriod.l1 (k + c') w i p true j = if (findE (fun j => decide (j + p < w.size) && !(bt w j == bt w ((j + p : Nat) : Int))) j c).isNone then some (p : Int) else impl_localPeriod.l0 k w i ((p + 1 : Nat) : Int)
  | 0, j, hj => ⟨1, by omega, fun k => by
      simp only [impl_localPeriod.l1]
      rw [if_neg (by omega), if_pos trivial]; rfl⟩
  | c + 1, j, hj => by
    by_cases hn : j + p < w.size
    · have hs : ∀ k, impl_localPeriod.l1 (k + 1) w i p true j = impl_localPeriod.l1 k w i p (bt w j == bt w ((j + p : Nat) : Int)) ((j + 1 : Nat) : Int) := fun k => by
        simp only [impl_localPeriod.l1]
        rw [if_pos (by omega), w64 (x := (j : Int) + p) (by omega) (by omega), if_pos (by omega), if_pos trivial, if_pos (by omega), if_pos (by omega), if_pos (by omega), w64 (by omega) (by omega)]
        rfl
      cases hg : (bt w j == bt w ((j + p : Nat) : Int)) with
      | true =>
        obtain ⟨c', h1, h2⟩ := impl_local_l1 hw hi hp c (j + 1) (by omega)
        refine ⟨c' + 1, by omega, fun k => ?_⟩
        rw [show k + (c' + 1) = (k + c') + 1 by omega, hs, hg, h2]
        simp only [findE, hg, Bool.not_true, Bool.and_false, Bool.false_eq_true, if_false]
      | false =>
        obtain ⟨c', h1, h2⟩ := impl_local_false hw hi hp c (j + 1) (by omega)
        refine ⟨c' + 1, by omega, fun k => ?_⟩
        rw [show k + (c' + 1) = (k + c') + 1 by omega, hs, hg, h2]
        simp only [findE, hg, decide_eq_true hn, Bool.not_false, Bool.and_true, if_true, Option.isNone_some, Bool.false_eq_true, if_false]
    · refine ⟨1, by omega, fun k => ?_⟩
      simp only [impl_localPeriod.l1]
      rw [if_pos (by omega), w64 (x := (j : Int) + p) (by omega) (by omega), if_neg (by omega), if_pos trivial]
      rw [if_pos]
      rw [Option.isNone_iff_eq_none, findE_none]
      intro m h1 h2
      rw [decide_eq_false (by omega)]; rfl
theorem impl_localPeriod_eq {k : Nat} {w : ByteArray} {i : Nat} (hw : w.size ≤ 60) (h0 : 0 < w.size) (hi : i ≤ w.size) (hk : 10000 ≤ k) : impl_localPeriod.f k w i = some (locP w i : Int) := by
  have h := until_cost (fun k p => impl_localPeriod.l0 k w i p) w.size (locB w i) (fun p => (p : Int)) 0 70
    (fun p hp => by
      obtain ⟨c', h2, h3⟩ := impl_local_l1 hw hi hp (i - (i - p)) (i - p) (by omega)
      refine ⟨c', by omega, fun k _ => ?_⟩
      rw [show k + c' + 1 = (k + c') + 1 by omega]
      simp only [impl_localPeriod.l0]
      rw [mx_sub (by omega) (by omega), h3 k]; rfl)
    (locB_end (Nat.le_refl _))
    (w.size - 1) k 1 (by omega) (by
      have : (w.size - 1 + 1) * (70 + 1) ≤ 60 * 71 := Nat.mul_le_mul (by omega) (by omega)
      omega)
  unfold impl_localPeriod.f
  rw [show (1 : Int) = ((1 : Nat) : Int) from rfl, h]
  rfl

theorem FnExactLocalPeriod : laws_FnExactLocalPeriod.Pure := by
  intro a0 a1 h0 _
  by_cases hs : (a0.size : Int) > 1048576
  · exact ⟨0, by unfold laws_FnExactLocalPeriod.f; rw [if_pos hs]⟩
  · refine ⟨10000000, ?_⟩
    have e : spec_LocalPeriod.f 10000000 a0 a1 = some (if isW a0 then (if inR a1 1 (wrap64 ((a0.size : Int) - 1)) then ((locP a0 a1.toNat : Int), 0) else (0, 2)) else (0, 1)) := by
      unfold spec_LocalPeriod.f
      rw [spec_l01Is_eq h0 (by omega), spec_l01In_eq]
      cases hw : isW a0
      · simp
      · have hz := isW_size hw
        cases hr : inR a1 1 (wrap64 ((a0.size : Int) - 1))
        · simp
        · obtain ⟨r1, r2⟩ := inR_true hr
          rw [w64 (by omega) (by omega)] at r2
          have := spec_l02Local_eq (k := 10000000) (w := a0) (i := a1.toNat) hz (by omega) (by omega) (by omega)
          rw [show ((a1.toNat : Nat) : Int) = a1 by omega] at this
          simp [this]
    have e2 : impl_LocalPeriod.f 10000000 a0 a1 = some (if isW a0 then (if inR a1 1 (wrap64 ((a0.size : Int) - 1)) then ((locP a0 a1.toNat : Int), 0) else (0, 2)) else (0, 1)) := by
      unfold impl_LocalPeriod.f
      cases hw : isW a0
      · simp
      · have hz := isW_size hw
        cases hr : inR a1 1 (wrap64 ((a0.size : Int) - 1))
        · simp
        · obtain ⟨r1, r2⟩ := inR_true hr
          rw [w64 (by omega) (by omega)] at r2
          have := impl_localPeriod_eq (k := 10000000) (w := a0) (i := a1.toNat) hz (by omega) (by omega) (by omega)
          rw [show ((a1.toNat : Nat) : Int) = a1 by omega] at this
          simp [this]
    unfold laws_FnExactLocalPeriod.f
    rw [if_neg hs, e, e2]
    simp

end Go.Proofs.Ytjnpobaampgakab.Pure
