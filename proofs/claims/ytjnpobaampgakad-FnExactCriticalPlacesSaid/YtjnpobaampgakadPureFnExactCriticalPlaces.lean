/- The plain part of the law FnExactCriticalPlaces: for every input that the law takes, the printed function of the law answers true once it has rounds enough. Conditions: those that stand in the statement (sizes of strings and slices, kinds of numbers), no other. -/
import Derived.Test.YtjnpobaampgakadQx6
import Derived.Test.YtjnpobaampgakadMath
import Derived.Test.YtjnpobaampgakadMath3
import Derived.Test.YtjnpobaampgakadMath4
namespace Go.Proofs.Ytjnpobaampgakad.Pure
open Go.RowKit Go.Proofs.Ytjnpobaampgakad.Q Go.Proofs.YtjnpobaampgakadW.PrintWords Go.Proofs.YtjnpobaampgakadW.PrintLast Go.Proofs.YtjnpobaampgakadW.PrintMore
set_option linter.unusedVariables false
set_option linter.unusedSimpArgs false

theorem spec_l01Is_eq {k : Nat} {w : ByteArray} (hw : w.size ≤ 140737488351232) (hk : w.size + 1 < k) : spec_l01Is.f k w = some (isW w) := by
  have h := find_gen (fun k i => spec_l01Is.l0 k w i) w.size (fun i => !okB (bt w i)) (fun _ => false) (decide ((w.size : Int) ≤ 60)) 0
    (fun k i _ hi => by
      simp only [spec_l01Is.l0]
      rw [if_pos (by omega), if_pos (by omega)]
      by_cases h1 : bt w i < 97
      · rw [if_pos h1]
        have : okB (bt w i) = false := by unfold okB; simp; omega
        simp [this]
      · rw [if_neg h1]
        by_cases h2 : bt w i > 101
        · rw [if_pos h2]
          have : okB (bt w i) = false := by unfold okB; simp; omega
          simp [this]
        · rw [if_neg h2, w64 (by omega) (by omega)]
          have : okB (bt w i) = true := by unfold okB; simp; omega
          simp [this])
    (fun k _ => by simp only [spec_l01Is.l0]; rw [if_neg (by omega)])
    w.size k 0 (by omega) (by omega)
  unfold spec_l01Is.f
  rw [show (0 : Int) = ((0 : Nat) : Int) from rfl, h]
  congr 1
  unfold isW
  cases hf : findE (fun i => !okB (bt w i)) 0 w.size with
  | some j =>
    obtain ⟨_, h1, h2, _⟩ := findE_some hf
    have : (bytesOf w).all okB = false := by
      rw [Bool.eq_false_iff]
      intro h3
      rw [List.all_eq_true] at h3
      have hj : j < (bytesOf w).length := by rw [bo_len]; omega
      have := h3 _ (List.getElem_mem hj)
      rw [bt_nat, getD_eq _ _ hj, this] at h2
      cases h2
    simp [this]
  | none =>
    have : (bytesOf w).all okB = true := by
      rw [List.all_eq_true]
      intro x hx
      obtain ⟨j, hj, rfl⟩ := List.mem_iff_getElem.mp hx
      have := findE_none.mp hf j (Nat.zero_le _) (by rw [bo_len] at hj; omega)
      rw [bt_nat, getD_eq _ _ hj] at this
      simpa using this
    simp only [this, Bool.and_true, decide_eq_decide]
    omega
theorem spec_not_word {w : ByteArray} (h : w.size > 60) : isW w = false := by unfold isW; simp; omega

theorem wordCode_1 (a : ByteArray) : impl_wordCode.f () [a] = some (if isW a then 0 else 1) := by unfold impl_wordCode.f; simp
theorem wordCode_2 (a b : ByteArray) : impl_wordCode.f () [a, b] = some (if isW a && isW b then 0 else 1) := by unfold impl_wordCode.f; simp

def locB (w : ByteArray) (i p : Nat) : Bool := (findE (fun j => decide (j + p < w.size) && !(bt w j == bt w ((j + p : Nat) : Int))) (i - p) (i - (i - p))).isNone
def locP (w : ByteArray) (i : Nat) : Nat := (findE (locB w i) 1 (w.size - 1)).getD w.size
theorem locB_end {w : ByteArray} {i p : Nat} (h : w.size ≤ p) : locB w i p = true := by
  unfold locB
  rw [Option.isNone_iff_eq_none, findE_none]
  intro m _ _
  rw [decide_eq_false (by omega)]; rfl
theorem mx_sub {i p : Nat} (hi : i ≤ 1000) (hp : p ≤ 1000) : mx (wrap64 ((i : Int) - p)) 0 = ((i - p : Nat) : Int) := by
  rw [w64 (by omega) (by omega)]
  unfold mx
  split <;> omega
theorem spec_l02Local_l1 {w : ByteArray} (hw : w.size ≤ 60) {i p : Nat} (hi : i ≤ w.size) (hp : p ≤ w.size) : ∀ c j, j + c = i →
    ∃ c', c' ≤ c + 2 ∧ ∀ k, spec_l02Local.l1 (k + c') w i p true j = if (findE (fun j => decide (j + p < w.size) && !(bt w j == bt w ((j + p : Nat) : Int))) j c).isNone then some (p : Int) else spec_l02Local.l0 k w i ((p + 1 : Nat) : Int)
  | 0, j, hj => ⟨1, by omega, fun k => by
      simp only [spec_l02Local.l1]
      rw [if_neg (by omega), if_pos trivial]; rfl⟩
  | c + 1, j, hj => by
    by_cases hn : j + p < w.size
    · have hs : ∀ k, spec_l02Local.l1 (k + 1) w i p true j = spec_l02Local.l1 k w i p (bt w j == bt w ((j + p : Nat) : Int)) ((j + 1 : Nat) : Int) := fun k => by
        simp only [spec_l02Local.l1]
        rw [if_pos (by omega), w64 (x := (j : Int) + p) (by omega) (by omega), if_pos (by omega), if_pos trivial, if_pos (by omega), if_pos (by omega), if_pos (by omega), w64 (by omega) (by omega)]
        rfl
      cases hg : (bt w j == bt w ((j + p : Nat) : Int)) with
      | true =>
        obtain ⟨c', h1, h2⟩ := spec_l02Local_l1 hw hi hp c (j + 1) (by omega)
        refine ⟨c' + 1, by omega, fun k => ?_⟩
        rw [show k + (c' + 1) = (k + c') + 1 by omega, hs, hg, h2]
        simp only [findE, hg, Bool.not_true, Bool.and_false, Bool.false_eq_true, if_false]
      | false =>
        refine ⟨2, by omega, fun k => ?_⟩
        rw [hs, hg]
        simp only [spec_l02Local.l1, Bool.false_eq_true, if_false, ite_self]
        simp only [findE, hg, decide_eq_true hn, Bool.not_false, Bool.and_true, if_true, Option.isNone_some, Bool.false_eq_true, if_false]
        rw [w64 (by omega) (by omega)]; rfl
    · refine ⟨1, by omega, fun k => ?_⟩
      simp only [spec_l02Local.l1]
      rw [if_pos (by omega), w64 (x := (j : Int) + p) (by omega) (by omega), if_neg (by omega), if_pos trivial]
      rw [if_pos]
      rw [Option.isNone_iff_eq_none, findE_none]
      intro m h1 h2
      rw [decide_eq_false (by omega)]; rfl
theorem spec_l02Local_eq {k : Nat} {w : ByteArray} {i : Nat} (hw : w.size ≤ 60) (h0 : 0 < w.size) (hi : i ≤ w.size) (hk : 10000 ≤ k) : spec_l02Local.f k w i = some (locP w i : Int) := by
  have h := until_cost (fun k p => spec_l02Local.l0 k w i p) w.size (locB w i) (fun p => (p : Int)) 0 70
    (fun p hp => by
      obtain ⟨c', h2, h3⟩ := spec_l02Local_l1 hw hi hp (i - (i - p)) (i - p) (by omega)
      refine ⟨c', by omega, fun k _ => ?_⟩
      rw [show k + c' + 1 = (k + c') + 1 by omega]
      simp only [spec_l02Local.l0]
      rw [mx_sub (by omega) (by omega), h3 k]; rfl)
    (locB_end (Nat.le_refl _))
    (w.size - 1) k 1 (by omega) (by
      have : (w.size - 1 + 1) * (70 + 1) ≤ 60 * 71 := Nat.mul_le_mul (by omega) (by omega)
      omega)
  unfold spec_l02Local.f
  rw [show (1 : Int) = ((1 : Nat) : Int) from rfl, h]
  rfl
theorem impl_local_false {w : ByteArray} (hw : w.size ≤ 60) {i p : Nat} (hi : i ≤ w.size) (hp : p ≤ w.size) : ∀ c j, j + c = i →
    ∃ c', c' ≤ c + 1 ∧ ∀ k, impl_localPeriod.l1 (k + c') w i p false j = impl_localPeriod.l0 k w i ((p + 1 : Nat) : Int)
  | 0, j, hj => ⟨1, by omega, fun k => by
      simp only [impl_localPeriod.l1]
      rw [if_neg (by omega), if_neg (by simp), w64 (by omega) (by omega)]; rfl⟩
  | c + 1, j, hj => by
    by_cases hn : j + p < w.size
    · obtain ⟨c', h1, h2⟩ := impl_local_false hw hi hp c (j + 1) (by omega)
      refine ⟨c' + 1, by omega, fun k => ?_⟩
      rw [show k + (c' + 1) = (k + c') + 1 by omega]
      simp only [impl_localPeriod.l1]
      rw [if_pos (by omega), w64 (x := (j : Int) + p) (by omega) (by omega), if_pos (by omega), if_neg (by simp), w64 (by omega) (by omega)]
      exact h2 k
    · refine ⟨1, by omega, fun k => ?_⟩
      simp only [impl_localPeriod.l1]
      rw [if_pos (by omega), w64 (x := (j : Int) + p) (by omega) (by omega), if_neg (by omega), if_neg (by simp), w64 (by omega) (by omega)]; rfl
theorem impl_local_l1 {w : ByteArray} (hw : w.size ≤ 60) {i p : Nat} (hi : i ≤ w.size) (hp : p ≤ w.size) : ∀ c j, j + c = i →
    ∃ c', c' ≤ c + 2 ∧ ∀ k, impl_localPeriod.l1 (k + c') w i p true j = if (findE (fun j => decide (j + p < w.size) && !(bt w j == bt w ((j + p : Nat) : Int))) j c).isNone then some (p : Int) else impl_localPeriod.l0 k w i ((p + 1 : Nat) : Int)
  | 0, j, hj => ⟨1, by omega, fun k => by
      simp only [impl_localPeriod.l1]
      rw [if_neg (by omega), if_pos trivial]; rfl⟩
  | c + 1, j, hj => by
    by_cases hn : j + p < w.size
    · have hs : ∀ k, impl_localPeriod.l1 (k + 1) w i p true j = impl_localPeriod.l1 k w i p (bt w j == bt w ((j + p : Nat) : Int)) ((j + 1 : Nat) : Int) := fun k => by
        simp only [impl_localPeriod.l1]
        rw [if_pos (by omega), w64 (x := (j : Int) + p) (by omega) (by omega), if_pos (by omega), if_pos trivial, if_pos (by omega), if_pos (by omega), if_pos (by omega), w64 (by omega) (by omega)]
        rfl
      cases hg : (bt w j == bt w ((j + p : Nat) : Int)) with
      | true =>
        obtain ⟨c', h1, h2⟩ := impl_local_l1 hw hi hp c (j + 1) (by omega)
        refine ⟨c' + 1, by omega, fun k => ?_⟩
        rw [show k + (c' + 1) = (k + c') + 1 by omega, hs, hg, h2]
        simp only [findE, hg, Bool.not_true, Bool.and_false, Bool.false_eq_true, if_false]
      | false =>
        obtain ⟨c', h1, h2⟩ := impl_local_false hw hi hp c (j + 1) (by omega)
        refine ⟨c' + 1, by omega, fun k => ?_⟩
        rw [show k + (c' + 1) = (k + c') + 1 by omega, hs, hg, h2]
        simp only [findE, hg, decide_eq_true hn, Bool.not_false, Bool.and_true, if_true, Option.isNone_some, Bool.false_eq_true, if_false]
    · refine ⟨1, by omega, fun k => ?_⟩
      simp only [impl_localPeriod.l1]
      rw [if_pos (by omega), w64 (x := (j : Int) + p) (by omega) (by omega), if_neg (by omega), if_pos trivial]
      rw [if_pos]
      rw [Option.isNone_iff_eq_none, findE_none]
      intro m h1 h2
      rw [decide_eq_false (by omega)]; rfl
theorem impl_localPeriod_eq {k : Nat} {w : ByteArray} {i : Nat} (hw : w.size ≤ 60) (h0 : 0 < w.size) (hi : i ≤ w.size) (hk : 10000 ≤ k) : impl_localPeriod.f k w i = some (locP w i : Int) := by
  have h := until_cost (fun k p => impl_localPeriod.l0 k w i p) w.size (locB w i) (fun p => (p : Int)) 0 70
    (fun p hp => by
      obtain ⟨c', h2, h3⟩ := impl_local_l1 hw hi hp (i - (i - p)) (i - p) (by omega)
      refine ⟨c', by omega, fun k _ => ?_⟩
      rw [show k + c' + 1 = (k + c') + 1 by omega]
      simp only [impl_localPeriod.l0]
      rw [mx_sub (by omega) (by omega), h3 k]; rfl)
    (locB_end (Nat.le_refl _))
    (w.size - 1) k 1 (by omega) (by
      have : (w.size - 1 + 1) * (70 + 1) ≤ 60 * 71 := Nat.mul_le_mul (by omega) (by omega)
      omega)
  unfold impl_localPeriod.f
  rw [show (1 : Int) = ((1 : Nat) : Int) from rfl, h]
  rfl

theorem spec_l02Periods_eq {k : Nat} {w : ByteArray} (hw : w.size ≤ 1048576) (hk : w.size + 1 < k) : spec_l02Periods.f k w = some (perL w) := by
  have h := gather_gen (fun k acc i => spec_l02Periods.l0 k w acc i) (w.size + 1) (hasP w) (fun p => (p : Int)) (fun l => l) 0
    (fun k i acc _ hi ha => by
      simp only [spec_l02Periods.l0]
      rw [if_pos (by omega), if_pos (by omega), w64 (x := (w.size : Int) - i) (by omega) (by omega), if_pos (by omega), if_pos (by omega), w64 (x := (i : Int) + 1) (by omega) (by omega)]
      rw [show ((w.size : Int) - i).toNat = w.size - i by omega, Int.toNat_natCast]
      by_cases h1 : w.extract i w.size = w.extract 0 (w.size - i)
      · have : hasP w i = true := by unfold hasP; simpa using h1
        rw [if_pos (toList_iff.mpr h1), if_pos (by omega), this]; rfl
      · have : hasP w i = false := by unfold hasP; simpa using h1
        rw [if_neg (fun e => h1 (toList_iff.mp e)), this]; rfl)
    (fun k acc _ => by simp only [spec_l02Periods.l0]; rw [if_neg (by omega)])
    w.size k 1 [] (by omega) (by omega) (by simp)
  unfold spec_l02Periods.f
  rw [show (1 : Int) = ((1 : Nat) : Int) from rfl, h]
  rfl

theorem impl_hasPeriod_eq {w : ByteArray} {p : Int} (h0 : 0 ≤ p) (h1 : p ≤ w.size) (hw : w.size ≤ 1048576) : impl_hasPeriod.f w p = some (hasP w p.toNat) := by
  unfold impl_hasPeriod.f
  rw [if_pos h0, if_pos h1, w64 (by omega) (by omega), if_pos (by omega), if_pos (by omega), toList_beq]
  unfold hasP
  rw [show ((w.size : Int) - p).toNat = w.size - p.toNat by omega]

theorem impl_period_eq {k : Nat} {w : ByteArray} (hw : w.size ≤ 1048576) (h0 : 0 < w.size) (hk : w.size < k) : impl_period.f k w = some (leastP w : Int) := by
  have h := until_gen (fun k i => impl_period.l0 k w i) w.size (hasP w) (fun j => (j : Int)) 0
    (fun k i _ hi => by
      simp only [impl_period.l0]
      rw [impl_hasPeriod_eq (by omega) (by omega) hw, w64 (by omega) (by omega)]
      rfl)
    (hasP_all w) (w.size - 1) k 1 (by omega) (by omega)
  unfold impl_period.f
  rw [show (1 : Int) = ((1 : Nat) : Int) from rfl, h]
  rfl

def critL (w : ByteArray) : List Int := gath (fun i => decide (locP w i = leastP w)) (fun i => (i : Int)) 1 (w.size - 1)
theorem critL_len (w : ByteArray) : (critL w).length ≤ w.size := Nat.le_trans (gath_len _ _ _ _) (Nat.sub_le _ _)
theorem crit_zero {w : ByteArray} (h : w.size = 0) : critL w = [] := by unfold critL gath; rw [h]; rfl
theorem spec_Critical_eq {k : Nat} {w : ByteArray} (hw : w.size ≤ 60) (hk : 100000 ≤ k) : spec_CriticalPlaces.l0 k w [] 1 = some (critL w, 0) := by
  by_cases hz : w.size = 0
  · obtain ⟨k, rfl⟩ := rounds_pos (show 0 < k by omega)
    simp only [spec_CriticalPlaces.l0]
    rw [if_neg (by omega), crit_zero hz]
  exact gather_from (fun k acc i => spec_CriticalPlaces.l0 k w acc i) w.size 1 (fun i => decide (locP w i = leastP w)) (fun i => (i : Int)) (fun l => (l, 0)) 20000
    (fun k i acc hk hl hi ha => by
      have hp := perL_pos (w := w) (by omega)
      simp only [spec_CriticalPlaces.l0]
      rw [if_pos (by omega), spec_l02Local_eq hw (by omega) (by omega) (by omega), spec_l02Periods_eq (by omega) (by omega), w64 (by omega) (by omega)]
      simp only [Option.bind_some]
      rw [if_pos (by omega), perL_rd (by omega)]
      by_cases h : locP w i = leastP w
      · rw [if_pos (by omega), if_pos (by omega), if_pos (by simpa using h)]; rfl
      · rw [if_neg (by omega), if_neg (by simpa using h)]; rfl)
    (fun k acc _ => by simp only [spec_CriticalPlaces.l0]; rw [if_neg (by omega)])
    (w.size - 1) k 1 [] (by omega) (by omega) (by omega) (by simp)
theorem impl_Critical_eq {k : Nat} {w : ByteArray} (hw : w.size ≤ 60) (hk : 100000 ≤ k) : impl_CriticalPlaces.l0 k w [] 1 = some (critL w, 0) := by
  by_cases hz : w.size = 0
  · obtain ⟨k, rfl⟩ := rounds_pos (show 0 < k by omega)
    simp only [impl_CriticalPlaces.l0]
    rw [if_neg (by omega), crit_zero hz]
  exact gather_from (fun k acc i => impl_CriticalPlaces.l0 k w acc i) w.size 1 (fun i => decide (locP w i = leastP w)) (fun i => (i : Int)) (fun l => (l, 0)) 20000
    (fun k i acc hk hl hi ha => by
      simp only [impl_CriticalPlaces.l0]
      rw [if_pos (by omega), impl_localPeriod_eq hw (by omega) (by omega) (by omega), impl_period_eq (by omega) (by omega) (by omega), w64 (by omega) (by omega)]
      simp only [Option.bind_some]
      by_cases h : locP w i = leastP w
      · rw [if_pos (by omega), if_pos (by omega), if_pos (by simpa using h)]; rfl
      · rw [if_neg (by omega), if_neg (by simpa using h)]; rfl)
    (fun k acc _ => by simp only [impl_CriticalPlaces.l0]; rw [if_neg (by omega)])
    (w.size - 1) k 1 [] (by omega) (by omega) (by omega) (by simp)

theorem eqInt64S_eq {k : Nat} {a b : List Int} (ha : a.length ≤ 1048576) (hk : a.length < k) : laws_eqInt64S.f k a b = some (decide (a = b)) := by
  unfold laws_eqInt64S.f
  by_cases hl : a.length = b.length
  · rw [if_pos (by omega)]
    have h := find_gen (fun k i => laws_eqInt64S.l0 k a b i) a.length (fun i => !(rd a i == rd b i)) (fun _ => false) true 0
      (fun k i _ hi => by
        simp only [laws_eqInt64S.l0]
        rw [if_pos (by omega), if_pos (by omega), if_pos (by omega), w64 (by omega) (by omega)]
        by_cases h1 : rd a i = rd b i
        · rw [if_pos h1]; simp [h1]
        · rw [if_neg h1]; simp [h1])
      (fun k _ => by simp only [laws_eqInt64S.l0]; rw [if_neg (by omega)])
      a.length k 0 (by omega) (by omega)
    rw [show (0 : Int) = ((0 : Nat) : Int) from rfl, h]
    have rdn : ∀ (l : List Int) (i : Nat) (hi : i < l.length), rd l i = l[i] := fun l i hi => by unfold rd; simp [List.getD_eq_getElem?_getD, hi]
    cases hf : findE (fun i => !(rd a i == rd b i)) 0 a.length with
    | none =>
      have : a = b := List.ext_getElem hl fun i h1 h2 => by
        have := findE_none.mp hf i (Nat.zero_le _) (by omega)
        rw [rdn a i h1, rdn b i h2] at this
        simpa using this
      simp [this]
    | some j =>
      obtain ⟨_, h2, h3, _⟩ := findE_some hf
      have : a ≠ b := by rintro rfl; simp at h3
      simp [this]
  · rw [if_neg (by omega)]
    have : a ≠ b := fun e => hl (by rw [e])
    simp [this]
def marks (n : Nat) : List Int := (List.range n).map fun i : Nat => 1 + (i : Int)
theorem marks_succ (n : Nat) : marks (n + 1) = marks n ++ [1 + (n : Int)] := by unfold marks; rw [List.range_succ, List.map_append]; rfl
theorem marks_len (n : Nat) : (marks n).length = n := by unfold marks; simp
theorem markInt64S_l0 : ∀ (d i k : Nat) (x : List Int), x.length = i + d → x.length ≤ 1048576 → d < k → x.take i = marks i → laws_markInt64S.l0 k x (1 + (i : Int)) i = some (1 + ((i + d : Nat) : Int), marks (i + d))
  | 0, i, k, x, hx, hb, hk, ht => by
    obtain ⟨k, rfl⟩ := rounds_pos (show 0 < k by omega)
    simp only [laws_markInt64S.l0]
    have e : x = marks i := by rw [← ht, List.take_of_length_le (by omega)]
    rw [if_neg (by omega), e]
    simp
  | d + 1, i, k, x, hx, hb, hk, ht => by
    obtain ⟨k, rfl⟩ := rounds_pos (show 0 < k by omega)
    simp only [laws_markInt64S.l0]
    rw [if_pos (by omega), if_pos (by omega), w64 (by omega) (by omega), w64 (by omega) (by omega), Int.toNat_natCast]
    have := markInt64S_l0 d (i + 1) k (x.set i (1 + (i : Int))) (by rw [List.length_set]; omega) (by rw [List.length_set]; exact hb) (by omega) (by
      rw [marks_succ, ← ht, List.take_set, List.take_succ_eq_append_getElem (by omega)]
      rw [List.set_append_right _ _ (by rw [List.length_take]; omega)]
      simp [List.length_take, Nat.min_eq_left (show i ≤ x.length by omega)])
    rw [show (1 + (i : Int) + 1) = 1 + ((i + 1 : Nat) : Int) by omega, show ((i : Int) + 1) = ((i + 1 : Nat) : Int) by omega, this]
    rw [show i + 1 + d = i + (d + 1) by omega]
theorem markInt64S_eq {k : Nat} {l : List Int} (hl : l.length ≤ 1048576) (hk : l.length < k) : laws_markInt64S.f k l 1 = some (1 + (l.length : Int), marks l.length) := by
  have := markInt64S_l0 l.length 0 k l (by omega) hl hk (by simp [marks])
  unfold laws_markInt64S.f
  simpa using this
theorem heldInt64S_eq {k n : Nat} (hn : n ≤ 1048576) (hk : n < k) : laws_heldInt64S.f k (marks n) 1 = some (1 + (n : Int)) := by
  have hl := marks_len n
  have h : ∀ (d i k : Nat), i + d = n → d < k → laws_heldInt64S.l0 k (marks n) (1 + (i : Int)) i = some (1 + (n : Int)) := by
    intro d
    induction d with
    | zero =>
      intro i k hi hk
      obtain ⟨k, rfl⟩ := rounds_pos (show 0 < k by omega)
      simp only [laws_heldInt64S.l0]
      rw [if_neg (by omega), show i = n by omega]
    | succ d ih =>
      intro i k hi hk
      obtain ⟨k, rfl⟩ := rounds_pos (show 0 < k by omega)
      simp only [laws_heldInt64S.l0]
      have hr : rd (marks n) i = 1 + (i : Int) := by unfold rd marks; simp [List.getD_eq_getElem?_getD, show i < n by omega]
      rw [if_pos (by omega), if_pos (by omega), if_pos hr, w64 (by omega) (by omega), w64 (by omega) (by omega)]
      rw [show (1 + (i : Int) + 1) = 1 + ((i + 1 : Nat) : Int) by omega]
      exact ih (i + 1) k (by omega) (by omega)
  have := h n 0 k (by omega) hk
  unfold laws_heldInt64S.f
  simpa using this

theorem FnExactCriticalPlaces : laws_FnExactCriticalPlaces.Pure := by
  intro a0 h0
  by_cases hs : (a0.size : Int) > 1048576
  · exact ⟨0, by unfold laws_FnExactCriticalPlaces.f; rw [if_pos hs]⟩
  · obtain ⟨K, hK⟩ : ∃ K : Nat, 10000000 ≤ K := ⟨_, Nat.le_refl _⟩
    refine ⟨K + 1 + 1, ?_⟩
    obtain ⟨r, hr⟩ : ∃ r, r = (if isW a0 then (critL a0, (0 : Int)) else ([], 1)) := ⟨_, rfl⟩
    have hl : r.1.length ≤ 100000 := by
      rw [hr]
      cases hw : isW a0
      · simp
      · have hz0 := isW_size hw
        have : (critL a0).length ≤ 100000 := by have := critL_len a0; omega
        simpa using this
    have e1 : ∀ m, 10000000 ≤ m → spec_CriticalPlaces.f m a0 = some r := fun m hm => by
      rw [hr]; unfold spec_CriticalPlaces.f
      rw [spec_l01Is_eq h0 (by omega)]
      cases hw : isW a0
      · simp
      · have hz := isW_size hw
        simpa using spec_Critical_eq hz (show 100000 ≤ m by omega)
    have e2 : ∀ m, 10000000 ≤ m → impl_CriticalPlaces.f m a0 = some r := fun m hm => by
      rw [hr]; unfold impl_CriticalPlaces.f
      rw [wordCode_1]
      cases hw : isW a0
      · simp
      · have hz := isW_size hw
        simpa using impl_Critical_eq hz (show 100000 ≤ m by omega)
    unfold laws_FnExactCriticalPlaces.f
    rw [if_neg hs, e1 _ (by omega), e2 _ (by omega)]
    simp only [Option.bind_some]
    rw [eqInt64S_eq (by omega) (by omega)]
    simp only [Option.bind_some, decide_true, if_true, bne_self_eq_false, laws_FnExactCriticalPlaces.j0, Bool.false_eq_true, if_false]
    rw [markInt64S_eq (by omega) (by omega)]
    simp only [Option.bind_some]
    rw [heldInt64S_eq (by omega) (by omega)]
    simp only [Option.bind_some]
    rw [if_neg (by omega), if_pos trivial, e2 _ (by omega)]
    simp only [Option.bind_some]
    rw [eqInt64S_eq (by omega) (by omega)]
    simp only [Option.bind_some, decide_true, if_true, bne_self_eq_false, laws_FnExactCriticalPlaces.j1, Bool.false_eq_true, if_false]
    rw [heldInt64S_eq (by omega) (by omega)]
    simp only [Option.bind_some]
    rw [if_neg (by omega), if_pos trivial]

end Go.Proofs.Ytjnpobaampgakad.Pure
