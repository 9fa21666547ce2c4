/- The plain part of the law FnExactRunsOf: for every input that the law takes, the printed function of the law answers true once it has rounds enough. Conditions: those that stand in the statement (sizes of strings and slices, kinds of numbers), no other. -/
import Derived.Test.YtjnpobaampgakadQx9
import Derived.Test.YtjnpobaampgakadMath
import Derived.Test.YtjnpobaampgakadMath3
import Derived.Test.YtjnpobaampgakadMath4
namespace Go.Proofs.Ytjnpobaampgakad.Pure
open Go.RowKit Go.Proofs.Ytjnpobaampgakad.Q Go.Proofs.YtjnpobaampgakadW.PrintWords Go.Proofs.YtjnpobaampgakadW.PrintLast Go.Proofs.YtjnpobaampgakadW.PrintMore
set_option linter.unusedVariables false
set_option linter.unusedSimpArgs false

theorem spec_l01Is_eq {k : Nat} {w : ByteArray} (hw : w.size ≤ 140737488351232) (hk : w.size + 1 < k) : spec_l01Is.f k w = some (isW w) := by
  have h := find_gen (fun k i => spec_l01Is.l0 k w i) w.size (fun i => !okB (bt w i)) (fun _ => false) (decide ((w.size : Int) ≤ 60)) 0
    (fun k i _ hi => by
      simp only [spec_l01Is.l0]
      rw [if_pos (by omega), if_pos (by omega)]
      by_cases h1 : bt w i < 97
      · rw [if_pos h1]
        have : okB (bt w i) = false := by unfold okB; simp; omega
        simp [this]
      · rw [if_neg h1]
        by_cases h2 : bt w i > 101
        · rw [if_pos h2]
          have : okB (bt w i) = false := by unfold okB; simp; omega
          simp [this]
        · rw [if_neg h2, w64 (by omega) (by omega)]
          have : okB (bt w i) = true := by unfold okB; simp; omega
          simp [this])
    (fun k _ => by simp only [spec_l01Is.l0]; rw [if_neg (by omega)])
    w.size k 0 (by omega) (by omega)
  unfold spec_l01Is.f
  rw [show (0 : Int) = ((0 : Nat) : Int) from rfl, h]
  congr 1
  unfold isW
  cases hf : findE (fun i => !okB (bt w i)) 0 w.size with
  | some j =>
    obtain ⟨_, h1, h2, _⟩ := findE_some hf
    have : (bytesOf w).all okB = false := by
      rw [Bool.eq_false_iff]
      intro h3
      rw [List.all_eq_true] at h3
      have hj : j < (bytesOf w).length := by rw [bo_len]; omega
      have := h3 _ (List.getElem_mem hj)
      rw [bt_nat, getD_eq _ _ hj, this] at h2
      cases h2
    simp [this]
  | none =>
    have : (bytesOf w).all okB = true := by
      rw [List.all_eq_true]
      intro x hx
      obtain ⟨j, hj, rfl⟩ := List.mem_iff_getElem.mp hx
      have := findE_none.mp hf j (Nat.zero_le _) (by rw [bo_len] at hj; omega)
      rw [bt_nat, getD_eq _ _ hj] at this
      simpa using this
    simp only [this, Bool.and_true, decide_eq_decide]
    omega
theorem spec_not_word {w : ByteArray} (h : w.size > 60) : isW w = false := by unfold isW; simp; omega

theorem wordCode_1 (a : ByteArray) : impl_wordCode.f () [a] = some (if isW a then 0 else 1) := by unfold impl_wordCode.f; simp
theorem wordCode_2 (a b : ByteArray) : impl_wordCode.f () [a, b] = some (if isW a && isW b then 0 else 1) := by unfold impl_wordCode.f; simp

theorem spec_l03Period_l1 {w : ByteArray} {a b q : Nat} (hab : a < b) (hb : b ≤ w.size) (hw : w.size ≤ 1048576) (hq : q < b - a) : ∀ c i, i + c = b - a - q →
    ∃ c', c' ≤ c + 2 ∧ ∀ k, spec_l03Period.l1 (k + c') w a b q true ((a + i : Nat) : Int) = if (findE (fun i => !(bt w ((a + i : Nat) : Int) == bt w ((a + i + q : Nat) : Int))) i c).isNone then some (q : Int) else spec_l03Period.l0 k w a b ((q + 1 : Nat) : Int)
  | 0, i, hi => ⟨1, by omega, fun k => by
      simp only [spec_l03Period.l1]
      rw [w64 (by omega) (by omega), if_neg (by omega), if_pos trivial]; rfl⟩
  | c + 1, i, hi => by
    have hs : ∀ k, spec_l03Period.l1 (k + 1) w a b q true ((a + i : Nat) : Int) = spec_l03Period.l1 k w a b q (bt w ((a + i : Nat) : Int) == bt w ((a + i + q : Nat) : Int)) ((a + (i + 1) : Nat) : Int) := fun k => by
      simp only [spec_l03Period.l1]
      rw [w64 (x := ((a + i : Nat) : Int) + q) (by omega) (by omega), if_pos (by omega), if_pos trivial, if_pos (by omega), if_pos (by omega), if_pos (by omega), if_pos (by omega), w64 (by omega) (by omega)]
      rfl
    cases hg : (bt w ((a + i : Nat) : Int) == bt w ((a + i + q : Nat) : Int)) with
    | true =>
      obtain ⟨c', h1, h2⟩ := spec_l03Period_l1 hab hb hw hq c (i + 1) (by omega)
      refine ⟨c' + 1, by omega, fun k => ?_⟩
      rw [show k + (c' + 1) = (k + c') + 1 by omega, hs, hg, h2]
      simp only [findE, hg, Bool.not_true, Bool.false_eq_true, if_false]
    | false =>
      refine ⟨2, by omega, fun k => ?_⟩
      rw [hs, hg]
      simp only [spec_l03Period.l1, Bool.false_eq_true, if_false, ite_self]
      simp only [findE, hg, Bool.not_false, if_true, Option.isNone_some, Bool.false_eq_true, if_false]
      rw [w64 (by omega) (by omega)]; rfl
theorem spec_l03Period_eq {k : Nat} {w : ByteArray} {a b : Nat} (hab : a < b) (hb : b ≤ w.size) (hw : w.size ≤ 60) (hk : 10000 ≤ k) : spec_l03Period.f k w a b = some (leastP (w.extract a b) : Int) := by
  have hz : (w.extract a b).size = b - a := by rw [ext_size]; omega
  have h := until_cost (fun k i => spec_l03Period.l0 k w a b i) (b - a) (hasP (w.extract a b)) (fun j => (j : Int)) 0 70
    (fun q hq => by
      by_cases h1 : q < b - a
      · obtain ⟨c', h2, h3⟩ := spec_l03Period_l1 hab hb (by omega) h1 (b - a - q) 0 (by omega)
        refine ⟨c', by omega, fun k _ => ?_⟩
        rw [show k + c' + 1 = (k + c') + 1 by omega]
        simp only [spec_l03Period.l0]
        rw [w64 (by omega) (by omega), if_pos (by omega)]
        have := h3 k
        rw [Nat.add_zero] at this
        rw [this]
        have e : (findE (fun i => !(bt w ((a + i : Nat) : Int) == bt w ((a + i + q : Nat) : Int))) 0 (b - a - q)).isNone = hasP (w.extract a b) q := by
          rw [Bool.eq_iff_iff, Option.isNone_iff_eq_none, findE_none, hasP_iff (by omega), hz]
          constructor
          · intro h i hi
            have := h i (by omega) (by omega)
            rw [ext_bt _ (by omega), ext_bt _ (by omega), show a + (i + q) = a + i + q by omega]
            simpa using this
          · intro h i _ hi
            have := h i (by omega)
            rw [ext_bt _ (by omega), ext_bt _ (by omega), show a + (i + q) = a + i + q by omega] at this
            simpa using this
        rw [e]
      · refine ⟨0, by omega, fun k _ => ?_⟩
        obtain rfl : q = b - a := by omega
        simp only [spec_l03Period.l0]
        have := hasP_all (w.extract a b)
        rw [hz] at this
        rw [w64 (by omega) (by omega), if_neg (by omega), if_pos this]
        congr 1; omega)
    (by have := hasP_all (w.extract a b); rw [hz] at this; exact this)
    (b - a - 1) k 1 (by omega) (by
      have : (b - a - 1 + 1) * (70 + 1) ≤ 60 * 71 := Nat.mul_le_mul (by omega) (by omega)
      omega)
  unfold spec_l03Period.f
  rw [show (1 : Int) = ((1 : Nat) : Int) from rfl, h]
  unfold leastP
  rw [hz]

theorem impl_hasPeriod_eq {w : ByteArray} {p : Int} (h0 : 0 ≤ p) (h1 : p ≤ w.size) (hw : w.size ≤ 1048576) : impl_hasPeriod.f w p = some (hasP w p.toNat) := by
  unfold impl_hasPeriod.f
  rw [if_pos h0, if_pos h1, w64 (by omega) (by omega), if_pos (by omega), if_pos (by omega), toList_beq]
  unfold hasP
  rw [show ((w.size : Int) - p).toNat = w.size - p.toNat by omega]

theorem impl_period_eq {k : Nat} {w : ByteArray} (hw : w.size ≤ 1048576) (h0 : 0 < w.size) (hk : w.size < k) : impl_period.f k w = some (leastP w : Int) := by
  have h := until_gen (fun k i => impl_period.l0 k w i) w.size (hasP w) (fun j => (j : Int)) 0
    (fun k i _ hi => by
      simp only [impl_period.l0]
      rw [impl_hasPeriod_eq (by omega) (by omega) hw, w64 (by omega) (by omega)]
      rfl)
    (hasP_all w) (w.size - 1) k 1 (by omega) (by omega)
  unfold impl_period.f
  rw [show (1 : Int) = ((1 : Nat) : Int) from rfl, h]
  rfl

def runB (w : ByteArray) (a b : Nat) : Bool :=
  decide (2 * leastP (w.extract a b) ≤ b - a) && !(decide (0 < a) && (bt w ((a - 1 : Nat) : Int) == bt w ((a - 1 + leastP (w.extract a b) : Nat) : Int))) && !(decide (b < w.size) && (bt w b == bt w ((b - leastP (w.extract a b) : Nat) : Int)))
def runE (w : ByteArray) (a b : Nat) : S71 := ⟨a, b, leastP (w.extract a b)⟩
def runR (w : ByteArray) (a : Nat) : List S71 := gath (runB w a) (runE w a) (a + 2) (w.size - a - 1)
def runL (w : ByteArray) : List S71 := (List.range' 0 w.size).flatMap (runR w)
theorem runR_len (w : ByteArray) (a : Nat) : (runR w a).length ≤ w.size := Nat.le_trans (gath_len _ _ _ _) (by omega)
theorem runL_len_aux (w : ByteArray) : ∀ c i, ((List.range' i c).flatMap (runR w)).length ≤ c * w.size
  | 0, i => by simp
  | c + 1, i => by
    rw [List.range'_succ, List.flatMap_cons, List.length_append, Nat.succ_mul]
    have := runR_len w i
    have := runL_len_aux w c (i + 1)
    omega
theorem runL_len {w : ByteArray} (hw : w.size ≤ 60) : (runL w).length ≤ 3600 := Nat.le_trans (runL_len_aux w _ _) (Nat.mul_le_mul hw hw)
theorem hasP_left {w : ByteArray} {a b q : Nat} (ha : 1 ≤ a) (hab : a + q ≤ b) (hq : 1 ≤ q) (hb : b ≤ w.size) (h : hasP (w.extract a b) q = true) : hasP (w.extract (a - 1) b) q = (bt w ((a - 1 : Nat) : Int) == bt w ((a - 1 + q : Nat) : Int)) := by
  have hz : (w.extract a b).size = b - a := by rw [ext_size]; omega
  have hz1 : (w.extract (a - 1) b).size = b - (a - 1) := by rw [ext_size]; omega
  rw [hasP_iff (by omega), hz] at h
  rw [Bool.eq_iff_iff, hasP_iff (by omega), hz1, beq_iff_eq]
  constructor
  · intro h1
    have := h1 0 (by omega)
    rw [ext_bt _ (by omega), ext_bt _ (by omega)] at this
    simpa using this
  · intro h1 i hi
    rw [ext_bt _ (by omega), ext_bt _ (by omega)]
    rcases Nat.eq_zero_or_pos i with h0 | h0
    · subst h0; simpa using h1
    · have := h (i - 1) (by omega)
      rw [ext_bt _ (by omega), ext_bt _ (by omega)] at this
      rw [show a - 1 + i = a + (i - 1) by omega, show a - 1 + (i + q) = a + (i - 1 + q) by omega]
      exact this
theorem hasP_right {w : ByteArray} {a b q : Nat} (hab : a + q ≤ b) (hq : 1 ≤ q) (hb : b < w.size) (h : hasP (w.extract a b) q = true) : hasP (w.extract a (b + 1)) q = (bt w b == bt w ((b - q : Nat) : Int)) := by
  have hz : (w.extract a b).size = b - a := by rw [ext_size]; omega
  have hz1 : (w.extract a (b + 1)).size = b + 1 - a := by rw [ext_size]; omega
  rw [hasP_iff (by omega), hz] at h
  rw [Bool.eq_iff_iff, hasP_iff (by omega), hz1, beq_iff_eq]
  constructor
  · intro h1
    have := h1 (b - a - q) (by omega)
    rw [ext_bt _ (by omega), ext_bt _ (by omega), show a + (b - a - q) = b - q by omega, show a + (b - a - q + q) = b by omega] at this
    exact this.symm
  · intro h1 i hi
    rw [ext_bt _ (by omega), ext_bt _ (by omega)]
    by_cases h0 : a + (i + q) = b
    · rw [h0, show a + i = b - q by omega]; exact h1.symm
    · have := h i (by omega)
      rw [ext_bt _ (by omega), ext_bt _ (by omega)] at this
      exact this
theorem spec_runs_tail {k : Nat} {w : ByteArray} (hw : w.size ≤ 60) {a b : Nat} {acc : List S71} (hab : a + 2 ≤ b) (hb : b ≤ w.size) (hacc : acc.length < 100000) (h1 : 2 * leastP (w.extract a b) ≤ b - a) :
    (if (b : Int) < w.size then (if 0 ≤ (b : Int) then (if (b : Int) < w.size then (if 0 ≤ wrap64 ((b : Int) - (leastP (w.extract a b) : Int)) then (if wrap64 ((b : Int) - (leastP (w.extract a b) : Int)) < w.size then (if bt w b = bt w (wrap64 ((b : Int) - (leastP (w.extract a b) : Int))) then spec_l03Runs.l1 k w acc w.size a ((b : Int) + 1) else (if acc.length < 5864062014805 then spec_l03Runs.l1 k w (acc ++ [(⟨a, b, leastP (w.extract a b)⟩ : S71)]) w.size a ((b : Int) + 1) else none)) else none) else none) else none) else none) else (if acc.length < 5864062014805 then spec_l03Runs.l1 k w (acc ++ [(⟨a, b, leastP (w.extract a b)⟩ : S71)]) w.size a ((b : Int) + 1) else none)) =
    (if (!(decide (b < w.size) && (bt w b == bt w ((b - leastP (w.extract a b) : Nat) : Int)))) = true then spec_l03Runs.l1 k w (acc ++ [runE w a b]) w.size a ((b : Int) + 1) else spec_l03Runs.l1 k w acc w.size a ((b : Int) + 1)) := by
  unfold runE
  by_cases h2 : b < w.size
  · rw [if_pos (by omega), if_pos (by omega), if_pos (by omega), w64 (by omega) (by omega), if_pos (by omega), if_pos (by omega), decide_eq_true h2, Bool.true_and]
    rw [show (b : Int) - (leastP (w.extract a b) : Int) = ((b - leastP (w.extract a b) : Nat) : Int) by omega]
    by_cases h3 : bt w b = bt w ((b - leastP (w.extract a b) : Nat) : Int)
    · rw [if_pos h3, h3, beq_self_eq_true, if_neg (by decide)]
    · rw [if_neg h3, beq_eq_false_iff_ne.mpr h3, if_pos (by omega), if_pos (by decide)]
  · rw [if_neg (by omega), if_pos (by omega), decide_eq_false h2, Bool.false_and, if_pos (by decide)]
theorem spec_runs_step {k : Nat} {w : ByteArray} (hw : w.size ≤ 60) {a b : Nat} {acc : List S71} (hk : 20000 ≤ k) (hab : a + 2 ≤ b) (hb : b ≤ w.size) (hacc : acc.length < 100000) :
    spec_l03Runs.l1 (k + 1) w acc w.size a b = if runB w a b = true then spec_l03Runs.l1 k w (acc ++ [runE w a b]) w.size a ((b : Int) + 1) else spec_l03Runs.l1 k w acc w.size a ((b : Int) + 1) := by
  have hz : (w.extract a b).size = b - a := by rw [ext_size]; omega
  obtain ⟨p1, p2, p3, _⟩ := leastP_spec (w := w.extract a b) (by omega)
  simp only [spec_l03Runs.l1]
  rw [if_pos (by omega), spec_l03Period_eq (by omega) (by omega) hw (by omega), Option.bind_some]
  rw [w64 (x := (b : Int) - a) (by omega) (by omega), w64 (x := 2 * _) (by omega) (by omega), w64 (x := (b : Int) + 1) (by omega) (by omega)]
  unfold runB
  by_cases h1 : 2 * leastP (w.extract a b) ≤ b - a
  · have e2 := spec_runs_tail (k := k) hw hab hb hacc h1
    rw [if_neg (by omega), decide_eq_true h1, Bool.true_and]
    by_cases h4 : 0 < a
    · rw [if_pos (by omega), w64 (x := (a : Int) - 1) (by omega) (by omega), if_pos (by omega), if_pos (by omega), w64 (x := (a : Int) - 1 + _) (by omega) (by omega), if_pos (by omega), if_pos (by omega), decide_eq_true h4, Bool.true_and]
      rw [show (a : Int) - 1 + (leastP (w.extract a b) : Int) = ((a - 1 + leastP (w.extract a b) : Nat) : Int) by omega, show (a : Int) - 1 = ((a - 1 : Nat) : Int) by omega]
      by_cases h5 : bt w ((a - 1 : Nat) : Int) = bt w ((a - 1 + leastP (w.extract a b) : Nat) : Int)
      · rw [if_pos h5, h5, beq_self_eq_true, Bool.not_true, Bool.false_and, if_neg (by decide)]
      · rw [if_neg h5, beq_eq_false_iff_ne.mpr h5, Bool.not_false, Bool.true_and]
        exact e2
    · rw [if_neg (by omega), decide_eq_false h4, Bool.false_and, Bool.not_false, Bool.true_and]
      exact e2
  · rw [if_pos (by omega), decide_eq_false h1, Bool.false_and, Bool.false_and, if_neg (by decide)]
theorem spec_l03Runs_eq {k : Nat} {w : ByteArray} (hw : w.size ≤ 60) (hk : 100000 ≤ k) : spec_l03Runs.f k w = some (runL w) := by
  have := fold_cost (fun k (s : List S71) i => spec_l03Runs.l0 k w s w.size i) w.size (fun a s => s ++ runR w a) (fun _ s => some s) (fun i s => s.length ≤ 60 * i) 20000 70
    (fun a s ha hs => by
      refine ⟨w.size - a - 1 + 1, by omega, fun k hk => ?_⟩
      by_cases hz : a + 1 = w.size
      · have e : runR w a = [] := by unfold runR gath; rw [show w.size - a - 1 = 0 by omega]; rfl
        rw [e, List.append_nil]
        rw [show k + (w.size - a - 1 + 1) + 1 = k + 1 + 1 by omega]
        simp only [spec_l03Runs.l0]
        rw [if_pos (by omega), w64 (by omega) (by omega)]
        simp only [spec_l03Runs.l1]
        rw [if_neg (by omega), w64 (by omega) (by omega), show ((a + 1 : Nat) : Int) = (a : Int) + 1 from rfl]
      have h := gather_on2 (fun k (s : List S71) b => spec_l03Runs.l1 k w s w.size a b) (fun k s => spec_l03Runs.l0 k w s w.size ((a : Int) + 1)) (w.size + 1) (a + 2) (runB w a) (runE w a) 20000 100000
        (fun k b acc hk hl hb hacc => spec_runs_step hw hk hl (by omega) hacc)
        (fun k acc hk => by
          simp only [spec_l03Runs.l1]
          rw [if_neg (by omega), w64 (by omega) (by omega)])
        (w.size - a - 1) k (a + 2) s (by omega) (by omega) (by omega) (by omega)
      rw [show k + (w.size - a - 1 + 1) + 1 = (k + (w.size - a - 1) + 1) + 1 by omega]
      simp only [spec_l03Runs.l0]
      rw [if_pos (by omega), w64 (by omega) (by omega)]
      exact h)
    (fun i s hi hs => by
      have := runR_len w i
      rw [List.length_append]; omega)
    (fun k s hk hs => by
      simp only [spec_l03Runs.l0]
      rw [if_neg (by omega)])
    w.size k 0 [] (by omega) (by have : w.size * (70 + 1) ≤ 60 * 71 := Nat.mul_le_mul hw (by omega); omega) (by simp)
  obtain ⟨_, k', _, _, h4⟩ := this
  unfold spec_l03Runs.f
  rw [loopS_append] at h4
  exact h4
theorem impl_runs_tail {α : Type} {w : ByteArray} (hw : w.size ≤ 60) {a b : Nat} (hab : a + 2 ≤ b) (hb : b ≤ w.size) (A N : Option α) :
    (if (b : Int) < w.size then (if (a : Int) ≤ wrap64 ((b : Int) + 1) then (if wrap64 ((b : Int) + 1) ≤ w.size then ((impl_hasPeriod.f (w.extract a (wrap64 ((b : Int) + 1)).toNat) (leastP (w.extract a b) : Int)).bind fun t => (if wrap64 ((b : Int) - a) ≥ wrap64 (2 * (leastP (w.extract a b) : Int)) then (if t = true then N else A) else N)) else none) else none) else (if wrap64 ((b : Int) - a) ≥ wrap64 (2 * (leastP (w.extract a b) : Int)) then A else N)) =
    (if (decide (2 * leastP (w.extract a b) ≤ b - a) && !(decide (b < w.size) && (bt w b == bt w ((b - leastP (w.extract a b) : Nat) : Int)))) = true then A else N) := by
  have hz : (w.extract a b).size = b - a := by rw [ext_size]; omega
  obtain ⟨p1, p2, p3, _⟩ := leastP_spec (w := w.extract a b) (by omega)
  rw [w64 (x := (b : Int) - a) (by omega) (by omega), w64 (x := 2 * _) (by omega) (by omega), w64 (x := (b : Int) + 1) (by omega) (by omega), show ((b : Int) + 1).toNat = b + 1 by omega]
  by_cases h2 : b < w.size
  · rw [if_pos (by omega), if_pos (by omega), if_pos (by omega), impl_hasPeriod_eq (by omega) (by rw [ext_size]; omega) (by rw [ext_size]; omega), Option.bind_some, Int.toNat_natCast, decide_eq_true h2, Bool.true_and]
    by_cases h1 : 2 * leastP (w.extract a b) ≤ b - a
    · rw [if_pos (by omega), hasP_right (by omega) p1 h2 p3, decide_eq_true h1, Bool.true_and]
      cases (bt w b == bt w ((b - leastP (w.extract a b) : Nat) : Int)) <;> simp
    · rw [if_neg (by omega), decide_eq_false h1, Bool.false_and, if_neg (by decide)]
  · rw [if_neg (by omega), decide_eq_false h2, Bool.false_and, Bool.not_false, Bool.and_true]
    by_cases h1 : 2 * leastP (w.extract a b) ≤ b - a
    · rw [if_pos (by omega), if_pos (by simpa using h1)]
    · rw [if_neg (by omega), if_neg (by simpa using h1)]
theorem impl_runs_step {k : Nat} {w : ByteArray} (hw : w.size ≤ 60) {a b : Nat} {acc : List S71} (hk : 20000 ≤ k) (hab : a + 2 ≤ b) (hb : b ≤ w.size) (hacc : acc.length < 100000) :
    impl_RunsOf.l1 (k + 1) w acc a b w.size a = if runB w a b = true then impl_RunsOf.l1 k w (acc ++ [runE w a b]) a ((b : Int) + 1) w.size a else impl_RunsOf.l1 k w acc a ((b : Int) + 1) w.size a := by
  have hz : (w.extract a b).size = b - a := by rw [ext_size]; omega
  obtain ⟨p1, p2, p3, _⟩ := leastP_spec (w := w.extract a b) (by omega)
  simp only [impl_RunsOf.l1]
  rw [if_pos (by omega), if_pos (by omega), if_pos (by omega), Int.toNat_natCast, Int.toNat_natCast, impl_period_eq (by omega) (by omega) (by omega), Option.bind_some]
  rw [if_pos (show acc.length < 5864062014805 by omega)]
  have e := impl_runs_tail hw hab hb (impl_RunsOf.l1 k w (acc ++ [(⟨a, b, leastP (w.extract a b)⟩ : S71)]) a (wrap64 ((b : Int) + 1)) w.size a) (impl_RunsOf.l1 k w acc a (wrap64 ((b : Int) + 1)) w.size a)
  unfold runB
  by_cases h4 : 0 < a
  · rw [if_pos (by omega), w64 (x := (a : Int) - 1) (by omega) (by omega), if_pos (by omega), if_pos (by omega), show ((a : Int) - 1).toNat = a - 1 by omega, impl_hasPeriod_eq (by omega) (by rw [ext_size]; omega) (by rw [ext_size]; omega), Option.bind_some, Int.toNat_natCast, decide_eq_true h4, Bool.true_and]
    by_cases h1 : 2 * leastP (w.extract a b) ≤ b - a
    · rw [hasP_left (by omega) (by omega) p1 hb p3]
      cases h5 : (bt w ((a - 1 : Nat) : Int) == bt w ((a - 1 + leastP (w.extract a b) : Nat) : Int)) with
      | true => rw [if_pos rfl, ite_self, Bool.not_true, Bool.and_false, Bool.false_and, if_neg (by decide), w64 (by omega) (by omega)]
      | false =>
        rw [if_neg (by decide), e, Bool.not_false, Bool.and_true, w64 (by omega) (by omega)]; rfl
    · rw [e, decide_eq_false h1, Bool.false_and, Bool.false_and, Bool.false_and]
      simp only [Bool.false_eq_true, if_false, ite_self]
      rw [w64 (by omega) (by omega)]
  · rw [if_neg (by omega), e, decide_eq_false h4, Bool.false_and, Bool.not_false, Bool.and_true, w64 (by omega) (by omega)]; rfl
theorem impl_Runs_eq {k : Nat} {w : ByteArray} (hw : w.size ≤ 60) (hk : 100000 ≤ k) : impl_RunsOf.l0 k w [] w.size 0 = some (runL w, 0) := by
  have := fold_cost (fun k (s : List S71) i => impl_RunsOf.l0 k w s w.size i) w.size (fun a s => s ++ runR w a) (fun _ s => some (s, (0 : Int))) (fun i s => s.length ≤ 60 * i) 20000 70
    (fun a s ha hs => by
      refine ⟨w.size - a - 1 + 1, by omega, fun k hk => ?_⟩
      by_cases hz : a + 1 = w.size
      · have e : runR w a = [] := by unfold runR gath; rw [show w.size - a - 1 = 0 by omega]; rfl
        rw [e, List.append_nil]
        rw [show k + (w.size - a - 1 + 1) + 1 = k + 1 + 1 by omega]
        simp only [impl_RunsOf.l0]
        rw [if_pos (by omega), w64 (by omega) (by omega)]
        simp only [impl_RunsOf.l1]
        rw [if_neg (by omega), w64 (by omega) (by omega), show ((a + 1 : Nat) : Int) = (a : Int) + 1 from rfl]
      have h := gather_on2 (fun k (s : List S71) b => impl_RunsOf.l1 k w s a b w.size a) (fun k s => impl_RunsOf.l0 k w s w.size ((a : Int) + 1)) (w.size + 1) (a + 2) (runB w a) (runE w a) 20000 100000
        (fun k b acc hk hl hb hacc => impl_runs_step hw hk hl (by omega) hacc)
        (fun k acc hk => by
          simp only [impl_RunsOf.l1]
          rw [if_neg (by omega), w64 (by omega) (by omega)])
        (w.size - a - 1) k (a + 2) s (by omega) (by omega) (by omega) (by omega)
      rw [show k + (w.size - a - 1 + 1) + 1 = (k + (w.size - a - 1) + 1) + 1 by omega]
      simp only [impl_RunsOf.l0]
      rw [if_pos (by omega), w64 (by omega) (by omega)]
      exact h)
    (fun i s hi hs => by
      have := runR_len w i
      rw [List.length_append]; omega)
    (fun k s hk hs => by
      simp only [impl_RunsOf.l0]
      rw [if_neg (by omega)])
    w.size k 0 [] (by omega) (by have : w.size * (70 + 1) ≤ 60 * 71 := Nat.mul_le_mul hw (by omega); omega) (by simp)
  obtain ⟨_, k', _, _, h4⟩ := this
  rw [loopS_append] at h4
  exact h4

deriving instance DecidableEq for S71
theorem rdT71_getD (l : List S71) (i : Nat) : rd_T71 l (i : Int) = l.getD i z71 := by unfold rd_T71; simp
theorem eqRunS_eq {k : Nat} {a b : List S71} (ha : a.length ≤ 1048576) (hk : a.length < k) : laws_eqRunS.f k a b = some (decide (a = b)) := by
  unfold laws_eqRunS.f
  by_cases hl : a.length = b.length
  · rw [if_pos (by omega)]
    exact eq_gen (fun k i => laws_eqRunS.l0 k a b i) a b z71 0 hl
      (fun k i _ hi => by
        simp only [laws_eqRunS.l0, laws_eqRun.f]
        rw [if_pos (by omega), if_pos (by omega), if_pos (by omega), w64 (by omega) (by omega), rdT71_getD, rdT71_getD]
        cases hx : a.getD i z71 with | mk x0 x1 x2 => cases hy : b.getD i z71 with | mk y0 y1 y2 =>
        by_cases h0 : x0 = y0
        · by_cases h1 : x1 = y1
          · by_cases h2 : x2 = y2
            · simp [h0, h1, h2]
            · simp [h0, h1, h2]
          · simp [h0, h1]
        · simp [h0])
      (fun k _ => by simp only [laws_eqRunS.l0]; rw [if_neg (by omega)]) (by omega)
  · rw [if_neg (by omega), decide_eq_false (fun e => hl (by rw [e]))]
def mkRun (i : Nat) : S71 := ⟨1 + ((3 * i : Nat) : Int), 1 + ((3 * i : Nat) : Int) + 1, 1 + ((3 * i : Nat) : Int) + 1 + 1⟩
theorem set_getD {l : List S71} {i : Nat} (h : i < l.length) (x : S71) : (l.set i x).getD i z71 = x := by simp [List.getD_eq_getElem?_getD, h]
theorem markRunS_eq {k : Nat} {l : List S71} (hl : l.length ≤ 1048576) (hk : 4000000 ≤ k) : laws_markRunS.f k l 1 = some (1 + ((3 * l.length : Nat) : Int), marksOf mkRun l.length) := by
  have := mark_gen (fun k x m i => laws_markRunS.l0 k x m i) mkRun 3 2000000 1048576
    (fun k x i hk hi hb => by
      simp only [laws_markRunS.l0]
      rw [if_pos (by omega), if_pos (by omega), Option.bind_some, Option.bind_some, w64 (x := (i : Int) + 1) (by omega) (by omega), Int.toNat_natCast, rdT71_getD, rdT71_getD, rdT71_getD, set_getD hi, set_getD (by rw [List.length_set]; exact hi), List.set_set, List.set_set]
      rw [w64 (x := 1 + ((3 * i : Nat) : Int) + 1) (by omega) (by omega), w64 (x := 1 + ((3 * i : Nat) : Int) + 1 + 1) (by omega) (by omega), w64 (by omega) (by omega)]
      rw [show (1 : Int) + ((3 * i : Nat) : Int) + 1 + 1 + 1 = 1 + ((3 * (i + 1) : Nat) : Int) by omega]
      rfl)
    (fun k x _ => by simp only [laws_markRunS.l0]; rw [if_neg (by omega)])
    l.length 0 k l (by omega) hl (by omega) rfl
  unfold laws_markRunS.f
  simpa using this
theorem heldRunS_eq {k n : Nat} (hn : n ≤ 1048576) (hk : 4000000 ≤ k) : laws_heldRunS.f k (marksOf mkRun n) 1 = some (1 + ((3 * n : Nat) : Int)) := by
  have hl := marksOf_len mkRun n
  have := held_gen (fun k m i => laws_heldRunS.l0 k (marksOf mkRun n) m i) n 3 2000000
    (fun k i hk hi => by
      simp only [laws_heldRunS.l0]
      rw [if_pos (by omega), if_pos (by omega), rdT71_getD, marksOf_getD _ _ _ hi]
      rw [w64 (x := 1 + ((3 * i : Nat) : Int) + 1) (by omega) (by omega), w64 (x := 1 + ((3 * i : Nat) : Int) + 1 + 1) (by omega) (by omega), w64 (by omega) (by omega), w64 (by omega) (by omega)]
      unfold mkRun
      rw [if_pos rfl, if_pos rfl, if_pos rfl, show (1 : Int) + ((3 * i : Nat) : Int) + 1 + 1 + 1 = 1 + ((3 * (i + 1) : Nat) : Int) by omega]
      rfl)
    (fun k _ => by simp only [laws_heldRunS.l0]; rw [if_neg (by omega)])
    n 0 k (by omega) (by omega)
  unfold laws_heldRunS.f
  simpa using this

theorem FnExactRunsOf : laws_FnExactRunsOf.Pure := by
  intro a0 h0
  by_cases hs : (a0.size : Int) > 1048576
  · exact ⟨0, by unfold laws_FnExactRunsOf.f; rw [if_pos hs]⟩
  · obtain ⟨K, hK⟩ : ∃ K : Nat, 10000000 ≤ K := ⟨_, Nat.le_refl _⟩
    refine ⟨K + 1 + 1, ?_⟩
    obtain ⟨r, hr⟩ : ∃ r, r = (if isW a0 then (runL a0, (0 : Int)) else ([], 1)) := ⟨_, rfl⟩
    have hl : r.1.length ≤ 100000 := by
      rw [hr]
      cases hw : isW a0
      · simp
      · have hz0 := isW_size hw
        have : (runL a0).length ≤ 100000 := by have := runL_len hz0; omega
        simpa using this
    have e1 : ∀ m, 10000000 ≤ m → spec_RunsOf.f m a0 = some r := fun m hm => by
      rw [hr]; unfold spec_RunsOf.f
      rw [spec_l01Is_eq h0 (by omega)]
      cases hw : isW a0
      · simp
      · have hz := isW_size hw
        simp [spec_l03Runs_eq hz (show 100000 ≤ m by omega)]
    have e2 : ∀ m, 10000000 ≤ m → impl_RunsOf.f m a0 = some r := fun m hm => by
      rw [hr]; unfold impl_RunsOf.f
      rw [wordCode_1]
      cases hw : isW a0
      · simp
      · have hz := isW_size hw
        simpa using impl_Runs_eq hz (show 100000 ≤ m by omega)
    unfold laws_FnExactRunsOf.f
    rw [if_neg hs, e1 _ (by omega), e2 _ (by omega)]
    simp only [Option.bind_some]
    rw [eqRunS_eq (by omega) (by omega)]
    simp only [Option.bind_some, decide_true, if_true, bne_self_eq_false, laws_FnExactRunsOf.j0, Bool.false_eq_true, if_false]
    rw [markRunS_eq (by omega) (by omega)]
    simp only [Option.bind_some]
    rw [heldRunS_eq (by omega) (by omega)]
    simp only [Option.bind_some]
    rw [if_neg (by omega), if_pos trivial, e2 _ (by omega)]
    simp only [Option.bind_some]
    rw [eqRunS_eq (by omega) (by omega)]
    simp only [Option.bind_some, decide_true, if_true, bne_self_eq_false, laws_FnExactRunsOf.j1, Bool.false_eq_true, if_false]
    rw [heldRunS_eq (by omega) (by omega)]
    simp only [Option.bind_some]
    rw [if_neg (by omega), if_pos trivial]

end Go.Proofs.Ytjnpobaampgakad.Pure
