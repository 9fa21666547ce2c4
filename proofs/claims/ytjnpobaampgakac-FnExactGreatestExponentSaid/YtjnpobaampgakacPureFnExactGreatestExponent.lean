/- The plain part of the law FnExactGreatestExponent: for every input that the law takes, the printed function of the law answers true once it has rounds enough. Conditions: those that stand in the statement (sizes of strings and slices, kinds of numbers), no other. -/
import Derived.Test.YtjnpobaampgakacQx12
import Derived.Test.YtjnpobaampgakacMath
import Derived.Test.YtjnpobaampgakacMath3
import Derived.Test.YtjnpobaampgakacMath4
namespace Go.Proofs.Ytjnpobaampgakac.Pure
open Go.RowKit Go.Proofs.Ytjnpobaampgakac.Q Go.Proofs.YtjnpobaampgakacW.PrintWords Go.Proofs.YtjnpobaampgakacW.PrintLast Go.Proofs.YtjnpobaampgakacW.PrintMore
set_option linter.unusedVariables false
set_option linter.unusedSimpArgs false

theorem spec_l01Is_eq {k : Nat} {w : ByteArray} (hw : w.size ≤ 140737488351232) (hk : w.size + 1 < k) : spec_l01Is.f k w = some (isW w) := by
  have h := find_gen (fun k i => spec_l01Is.l0 k w i) w.size (fun i => !okB (bt w i)) (fun _ => false) (decide ((w.size : Int) ≤ 60)) 0
    (fun k i _ hi => by
      simp only [spec_l01Is.l0]
      rw [if_pos (by omega), if_pos (by omega)]
      by_cases h1 : bt w i < 97
      · rw [if_pos h1]
        have : okB (bt w i) = false := by unfold okB; simp; omega
        simp [this]
      · rw [if_neg h1]
        by_cases h2 : bt w i > 101
        · rw [if_pos h2]
          have : okB (bt w i) = false := by unfold okB; simp; omega
          simp [this]
        · rw [if_neg h2, w64 (by omega) (by omega)]
          have : okB (bt w i) = true := by unfold okB; simp; omega
          simp [this])
    (fun k _ => by simp only [spec_l01Is.l0]; rw [if_neg (by omega)])
    w.size k 0 (by omega) (by omega)
  unfold spec_l01Is.f
  rw [show (0 : Int) = ((0 : Nat) : Int) from rfl, h]
  congr 1
  unfold isW
  cases hf : findE (fun i => !okB (bt w i)) 0 w.size with
  | some j =>
    obtain ⟨_, h1, h2, _⟩ := findE_some hf
    have : (bytesOf w).all okB = false := by
      rw [Bool.eq_false_iff]
      intro h3
      rw [List.all_eq_true] at h3
      have hj : j < (bytesOf w).length := by rw [bo_len]; omega
      have := h3 _ (List.getElem_mem hj)
      rw [bt_nat, getD_eq _ _ hj, this] at h2
      cases h2
    simp [this]
  | none =>
    have : (bytesOf w).all okB = true := by
      rw [List.all_eq_true]
      intro x hx
      obtain ⟨j, hj, rfl⟩ := List.mem_iff_getElem.mp hx
      have := findE_none.mp hf j (Nat.zero_le _) (by rw [bo_len] at hj; omega)
      rw [bt_nat, getD_eq _ _ hj] at this
      simpa using this
    simp only [this, Bool.and_true, decide_eq_decide]
    omega
theorem spec_not_word {w : ByteArray} (h : w.size > 60) : isW w = false := by unfold isW; simp; omega

theorem wordCode_1 (a : ByteArray) : impl_wordCode.f () [a] = some (if isW a then 0 else 1) := by unfold impl_wordCode.f; simp
theorem wordCode_2 (a b : ByteArray) : impl_wordCode.f () [a, b] = some (if isW a && isW b then 0 else 1) := by unfold impl_wordCode.f; simp

theorem spec_l03Period_l1 {w : ByteArray} {a b q : Nat} (hab : a < b) (hb : b ≤ w.size) (hw : w.size ≤ 1048576) (hq : q < b - a) : ∀ c i, i + c = b - a - q →
    ∃ c', c' ≤ c + 2 ∧ ∀ k, spec_l03Period.l1 (k + c') w a b q true ((a + i : Nat) : Int) = if (findE (fun i => !(bt w ((a + i : Nat) : Int) == bt w ((a + i + q : Nat) : Int))) i c).isNone then some (q : Int) else spec_l03Period.l0 k w a b ((q + 1 : Nat) : Int)
  | 0, i, hi => ⟨1, by omega, fun k => by
      simp only [spec_l03Period.l1]
      rw [w64 (by omega) (by omega), if_neg (by omega), if_pos trivial]; rfl⟩
  | c + 1, i, hi => by
    have hs : ∀ k, spec_l03Period.l1 (k + 1) w a b q true ((a + i : Nat) : Int) = spec_l03Period.l1 k w a b q (bt w ((a + i : Nat) : Int) == bt w ((a + i + q : Nat) : Int)) ((a + (i + 1) : Nat) : Int) := fun k => by
      simp only [spec_l03Period.l1]
      rw [w64 (x := ((a + i : Nat) : Int) + q) (by omega) (by omega), if_pos (by omega), if_pos trivial, if_pos (by omega), if_pos (by omega), if_pos (by omega), if_pos (by omega), w64 (by omega) (by omega)]
      rfl
    cases hg : (bt w ((a + i : Nat) : Int) == bt w ((a + i + q : Nat) : Int)) with
    | true =>
      obtain ⟨c', h1, h2⟩ := spec_l03Period_l1 hab hb hw hq c (i + 1) (by omega)
      refine ⟨c' + 1, by omega, fun k => ?_⟩
      rw [show k + (c' + 1) = (k + c') + 1 by omega, hs, hg, h2]
      simp only [findE, hg, Bool.not_true, Bool.false_eq_true, if_false]
    | false =>
      refine ⟨2, by omega, fun k => ?_⟩
      rw [hs, hg]
      simp only [spec_l03Period.l1, Bool.false_eq_true, if_false, ite_self]
      simp only [findE, hg, Bool.not_false, if_true, Option.isNone_some, Bool.false_eq_true, if_false]
      rw [w64 (by omega) (by omega)]; rfl
theorem spec_l03Period_eq {k : Nat} {w : ByteArray} {a b : Nat} (hab : a < b) (hb : b ≤ w.size) (hw : w.size ≤ 60) (hk : 10000 ≤ k) : spec_l03Period.f k w a b = some (leastP (w.extract a b) : Int) := by
  have hz : (w.extract a b).size = b - a := by rw [ext_size]; omega
  have h := until_cost (fun k i => spec_l03Period.l0 k w a b i) (b - a) (hasP (w.extract a b)) (fun j => (j : Int)) 0 70
    (fun q hq => by
      by_cases h1 : q < b - a
      · obtain ⟨c', h2, h3⟩ := spec_l03Period_l1 hab hb (by omega) h1 (b - a - q) 0 (by omega)
        refine ⟨c', by omega, fun k _ => ?_⟩
        rw [show k + c' + 1 = (k + c') + 1 by omega]
        simp only [spec_l03Period.l0]
        rw [w64 (by omega) (by omega), if_pos (by omega)]
        have := h3 k
        rw [Nat.add_zero] at this
        rw [this]
        have e : (findE (fun i => !(bt w ((a + i : Nat) : Int) == bt w ((a + i + q : Nat) : Int))) 0 (b - a - q)).isNone = hasP (w.extract a b) q := by
          rw [Bool.eq_iff_iff, Option.isNone_iff_eq_none, findE_none, hasP_iff (by omega), hz]
          constructor
          · intro h i hi
            have := h i (by omega) (by omega)
            rw [ext_bt _ (by omega), ext_bt _ (by omega), show a + (i + q) = a + i + q by omega]
            simpa using this
          · intro h i _ hi
            have := h i (by omega)
            rw [ext_bt _ (by omega), ext_bt _ (by omega), show a + (i + q) = a + i + q by omega] at this
            simpa using this
        rw [e]
      · refine ⟨0, by omega, fun k _ => ?_⟩
        obtain rfl : q = b - a := by omega
        simp only [spec_l03Period.l0]
        have := hasP_all (w.extract a b)
        rw [hz] at this
        rw [w64 (by omega) (by omega), if_neg (by omega), if_pos this]
        congr 1; omega)
    (by have := hasP_all (w.extract a b); rw [hz] at this; exact this)
    (b - a - 1) k 1 (by omega) (by
      have : (b - a - 1 + 1) * (70 + 1) ≤ 60 * 71 := Nat.mul_le_mul (by omega) (by omega)
      omega)
  unfold spec_l03Period.f
  rw [show (1 : Int) = ((1 : Nat) : Int) from rfl, h]
  unfold leastP
  rw [hz]

theorem impl_hasPeriod_eq {w : ByteArray} {p : Int} (h0 : 0 ≤ p) (h1 : p ≤ w.size) (hw : w.size ≤ 1048576) : impl_hasPeriod.f w p = some (hasP w p.toNat) := by
  unfold impl_hasPeriod.f
  rw [if_pos h0, if_pos h1, w64 (by omega) (by omega), if_pos (by omega), if_pos (by omega), toList_beq]
  unfold hasP
  rw [show ((w.size : Int) - p).toNat = w.size - p.toNat by omega]

theorem impl_period_eq {k : Nat} {w : ByteArray} (hw : w.size ≤ 1048576) (h0 : 0 < w.size) (hk : w.size < k) : impl_period.f k w = some (leastP w : Int) := by
  have h := until_gen (fun k i => impl_period.l0 k w i) w.size (hasP w) (fun j => (j : Int)) 0
    (fun k i _ hi => by
      simp only [impl_period.l0]
      rw [impl_hasPeriod_eq (by omega) (by omega) hw, w64 (by omega) (by omega)]
      rfl)
    (hasP_all w) (w.size - 1) k 1 (by omega) (by omega)
  unfold impl_period.f
  rw [show (1 : Int) = ((1 : Nat) : Int) from rfl, h]
  rfl

theorem impl_divisor_l0 : ∀ (b : Nat) (k a : Nat), b < k → impl_divisor.l0 k (a : Int) (b : Int) = some ((Nat.gcd a b : Nat) : Int)
  | b, k, a, hk => by
    obtain ⟨k, rfl⟩ := rounds_pos (show 0 < k by omega)
    simp only [impl_divisor.l0]
    rcases Nat.eq_zero_or_pos b with h0 | h0
    · subst h0
      rw [if_pos (by simp)]
      simp
    · rw [if_neg (by omega), gcd_step a b]
      have hm := Nat.mod_lt a h0
      rw [show Int.tmod (a : Int) (b : Int) = ((a % b : Nat) : Int) from rfl]
      exact impl_divisor_l0 (a % b) k b (by omega)
theorem impl_divisor_eq {k : Nat} {a b : Int} (ha : 0 ≤ a) (hb : 0 ≤ b) (hk : b < k) : impl_divisor.f k a b = some (gcdI a b) := by
  obtain ⟨a, rfl⟩ := Int.eq_ofNat_of_zero_le ha
  obtain ⟨b, rfl⟩ := Int.eq_ofNat_of_zero_le hb
  unfold impl_divisor.f gcdI
  exact impl_divisor_l0 b k a (by omega)

def lowN (a b : Int) : Int × Int := (wrap64 (Int.tdiv a (gcdI a b)), wrap64 (Int.tdiv b (gcdI a b)))
theorem gcdI_pos {a b : Int} (h : 0 < a) : 0 < gcdI a b := by
  unfold gcdI
  have := Nat.gcd_pos_of_pos_left b.toNat (show 0 < a.toNat by omega)
  omega
theorem impl_lowest_eq {k : Nat} {a b : Int} (ha : 0 < a) (hb : 0 ≤ b) (hk : b < k) : impl_lowest.f k a b = some (lowN a b) := by
  unfold impl_lowest.f
  rw [impl_divisor_eq (by omega) hb hk]
  simp only [Option.bind_some]
  have := gcdI_pos (b := b) ha
  rw [if_neg (by omega)]; rfl

def grG (w : ByteArray) (a : Nat) (b : Nat) (s : Nat × Nat) : Nat × Nat := if (b - a) * s.2 > s.1 * leastP (w.extract a b) then (b - a, leastP (w.extract a b)) else s
def grS (w : ByteArray) : Nat × Nat := loopS (fun a s => loopS (fun b s => grG w a b s) (a + 1) (w.size - a) s) 0 w.size (1, 1)
def grI (s : Nat × Nat) : Prop := 1 ≤ s.1 ∧ s.1 ≤ 60 ∧ 1 ≤ s.2 ∧ s.2 ≤ 60
theorem grI_step {w : ByteArray} (hw : w.size ≤ 60) {a b : Nat} (hab : a < b) (hb : b ≤ w.size) {s : Nat × Nat} (h : grI s) : grI (grG w a b s) := by
  unfold grG
  split
  · have hz : (w.extract a b).size = b - a := by rw [ext_size]; omega
    obtain ⟨a1, a2, _, _⟩ := leastP_spec (w := w.extract a b) (by omega)
    exact ⟨by simp only; omega, by simp only; omega, a1, by simp only; omega⟩
  · exact h
theorem gr_mul {w : ByteArray} (hw : w.size ≤ 60) {a b : Nat} (hab : a < b) (hb : b ≤ w.size) {s : Nat × Nat} (h : grI s) :
    wrap64 (wrap64 ((b : Int) - a) * s.2) = (((b - a) * s.2 : Nat) : Int) ∧ wrap64 ((s.1 : Int) * (leastP (w.extract a b) : Int)) = ((s.1 * leastP (w.extract a b) : Nat) : Int) := by
  have hz : (w.extract a b).size = b - a := by rw [ext_size]; omega
  obtain ⟨a1, a2, _, _⟩ := leastP_spec (w := w.extract a b) (by omega)
  obtain ⟨h1, h2, h3, h4⟩ := h
  have m1 : (b - a) * s.2 ≤ 60 * 60 := Nat.mul_le_mul (by omega) h4
  have m2 : s.1 * leastP (w.extract a b) ≤ 60 * 60 := Nat.mul_le_mul h2 (by omega)
  constructor
  · rw [w64 (x := (b : Int) - a) (by omega) (by omega), show (b : Int) - a = ((b - a : Nat) : Int) by omega, ← Int.natCast_mul, w64 (by omega) (by omega)]
  · rw [← Int.natCast_mul, w64 (by omega) (by omega)]
theorem spec_gr {k : Nat} {w : ByteArray} (hw : w.size ≤ 60) (hk : 100000 ≤ k) : ∃ k', 1000 ≤ k' ∧ spec_GreatestExponent.l0 k w 1 1 w.size 0 = spec_GreatestExponent.l2 k' (grS w).1 (grS w).2 (grS w).1 (grS w).2 ∧ grI (grS w) := by
  have := fold_cost (fun k (s : Nat × Nat) i => spec_GreatestExponent.l0 k w s.1 s.2 w.size i) w.size (fun a s => loopS (fun b s => grG w a b s) (a + 1) (w.size - a) s) (fun k s => spec_GreatestExponent.l2 k s.1 s.2 s.1 s.2) (fun _ s => grI s) 20000 70
    (fun a s ha hs => by
      refine ⟨w.size - a + 1, by omega, fun k hk => ?_⟩
      have h := fold_on (fun k (s : Nat × Nat) i => spec_GreatestExponent.l1 k w s.1 s.2 w.size a i) (fun k s => spec_GreatestExponent.l0 k w s.1 s.2 w.size ((a + 1 : Nat) : Int)) (w.size + 1) (fun b s => grG w a b s) (fun b s => grI s ∧ a < b) 20000
        (fun k b s hk hb hs => by
          simp only [spec_GreatestExponent.l1]
          rw [if_pos (by omega), spec_l03Period_eq hs.2 (by omega) hw (by omega)]
          simp only [Option.bind_some]
          obtain ⟨m1, m2⟩ := gr_mul hw hs.2 (by omega) hs.1
          rw [m1, m2, w64 (by omega) (by omega)]
          unfold grG
          by_cases h : (b - a) * s.2 > s.1 * leastP (w.extract a b)
          · rw [if_pos (by omega), if_pos h, w64 (by omega) (by omega)]
            simp only
            congr 1 <;> omega
          · rw [if_neg (by omega), if_neg h, w64 (by omega) (by omega)]; rfl)
        (fun b s hb hs => ⟨grI_step hw hs.2 (by omega) hs.1, by omega⟩)
        (fun k s hk hs => by
          simp only [spec_GreatestExponent.l1]
          rw [if_neg (by omega), w64 (by omega) (by omega)]; rfl)
        (w.size - a) k (a + 1) s (by omega) hk ⟨hs, by omega⟩
      simp only [spec_GreatestExponent.l0]
      rw [if_pos (by omega), w64 (by omega) (by omega)]
      exact h.1)
    (fun a s ha hs => by
      have : ∀ c b s, b + c = w.size + 1 → a < b → grI s → grI (loopS (fun b s => grG w a b s) b c s) := by
        intro c
        induction c with
        | zero => intro b s _ _ h; exact h
        | succ c ih => intro b s h1 h2 h3; exact ih (b + 1) _ (by omega) (by omega) (grI_step hw h2 (by omega) h3)
      exact this _ _ _ (by omega) (by omega) hs)
    (fun k s hk hs => by
      simp only [spec_GreatestExponent.l0]
      rw [if_neg (by omega)])
    w.size k 0 (1, 1) (by omega) (by have : w.size * (70 + 1) ≤ 60 * 71 := Nat.mul_le_mul hw (by omega); omega) ⟨by simp, by simp, by simp, by simp⟩
  obtain ⟨h1, k', h2, h3, h4⟩ := this
  exact ⟨k', by omega, h4, h1⟩
theorem impl_gr {k : Nat} {w : ByteArray} (hw : w.size ≤ 60) (hk : 100000 ≤ k) : ∃ k', 1000 ≤ k' ∧ impl_GreatestExponent.l0 k w 1 1 w.size 0 = (impl_lowest.f k' (grS w).1 (grS w).2).bind fun bt => some (bt.1, bt.2, 0) := by
  have := fold_cost (fun k (s : Nat × Nat) i => impl_GreatestExponent.l0 k w s.1 s.2 w.size i) w.size (fun a s => loopS (fun b s => grG w a b s) (a + 1) (w.size - a) s) (fun k s => (impl_lowest.f k s.1 s.2).bind fun bt => some (bt.1, bt.2, 0)) (fun _ s => grI s) 20000 70
    (fun a s ha hs => by
      refine ⟨w.size - a + 1, by omega, fun k hk => ?_⟩
      have h := fold_on (fun k (s : Nat × Nat) i => impl_GreatestExponent.l1 k w s.1 s.2 a i w.size a) (fun k s => impl_GreatestExponent.l0 k w s.1 s.2 w.size ((a + 1 : Nat) : Int)) (w.size + 1) (fun b s => grG w a b s) (fun b s => grI s ∧ a < b) 20000
        (fun k b s hk hb hs => by
          have hz : (w.extract a b).size = b - a := by rw [ext_size]; omega
          simp only [impl_GreatestExponent.l1]
          rw [if_pos (by omega), if_pos (by omega), if_pos (by omega), Int.toNat_natCast, Int.toNat_natCast, impl_period_eq (by omega) (by omega) (by omega)]
          simp only [Option.bind_some]
          obtain ⟨m1, m2⟩ := gr_mul hw hs.2 (by omega) hs.1
          rw [m1, m2, w64 (by omega) (by omega)]
          unfold grG
          by_cases h : (b - a) * s.2 > s.1 * leastP (w.extract a b)
          · rw [if_pos (by omega), if_pos h, w64 (by omega) (by omega)]
            simp only
            congr 1 <;> omega
          · rw [if_neg (by omega), if_neg h, w64 (by omega) (by omega)]; rfl)
        (fun b s hb hs => ⟨grI_step hw hs.2 (by omega) hs.1, by omega⟩)
        (fun k s hk hs => by
          simp only [impl_GreatestExponent.l1]
          rw [if_neg (by omega), w64 (by omega) (by omega)]; rfl)
        (w.size - a) k (a + 1) s (by omega) hk ⟨hs, by omega⟩
      simp only [impl_GreatestExponent.l0]
      rw [if_pos (by omega), w64 (by omega) (by omega)]
      exact h.1)
    (fun a s ha hs => by
      have : ∀ c b s, b + c = w.size + 1 → a < b → grI s → grI (loopS (fun b s => grG w a b s) b c s) := by
        intro c
        induction c with
        | zero => intro b s _ _ h; exact h
        | succ c ih => intro b s h1 h2 h3; exact ih (b + 1) _ (by omega) (by omega) (grI_step hw h2 (by omega) h3)
      exact this _ _ _ (by omega) (by omega) hs)
    (fun k s hk hs => by
      simp only [impl_GreatestExponent.l0]
      rw [if_neg (by omega)])
    w.size k 0 (1, 1) (by omega) (by have : w.size * (70 + 1) ≤ 60 * 71 := Nat.mul_le_mul hw (by omega); omega) ⟨by simp, by simp, by simp, by simp⟩
  obtain ⟨h1, k', h2, h3, h4⟩ := this
  exact ⟨k', by omega, h4⟩
theorem spec_gr_l2 (a b : Int) : ∀ (y k x : Nat), y < k → 0 < Nat.gcd x y → spec_GreatestExponent.l2 k a b (x : Int) (y : Int) = some (wrap64 (Int.tdiv a ((Nat.gcd x y : Nat) : Int)), wrap64 (Int.tdiv b ((Nat.gcd x y : Nat) : Int)), 0)
  | y, k, x, hk, hg => by
    obtain ⟨k, rfl⟩ := rounds_pos (show 0 < k by omega)
    simp only [spec_GreatestExponent.l2]
    rcases Nat.eq_zero_or_pos y with h0 | h0
    · subst h0
      rw [Nat.gcd_zero_right] at hg ⊢
      rw [if_pos (by simp), if_neg (by omega)]
    · rw [if_neg (by omega), gcd_step x y]
      have hm := Nat.mod_lt x h0
      rw [show Int.tmod (x : Int) (y : Int) = ((x % y : Nat) : Int) from rfl]
      exact spec_gr_l2 a b (x % y) k y (by omega) (by rw [← gcd_step]; exact hg)

def greaW (w : ByteArray) : Int × Int × Int := if isW w then (if w.size = 0 then (0, 0, 4) else ((lowN (grS w).1 (grS w).2).1, (lowN (grS w).1 (grS w).2).2, 0)) else (0, 0, 1)
theorem spec_GreatestExponent_eq {k : Nat} {w : ByteArray} (h0 : w.size ≤ 1048576) (hk : 1048600 ≤ k) : spec_GreatestExponent.f k w = some (greaW w) := by
  unfold spec_GreatestExponent.f greaW
  rw [spec_l01Is_eq (by omega) (by omega)]
  cases hw : isW w
  · simp
  · have hz := isW_size hw
    by_cases h : w.size = 0
    · simp [h, (str_empty h).2.2.1]
    · obtain ⟨k', h1, h2, h3, h4, h5, h6⟩ := spec_gr hz (show 100000 ≤ k by omega)
      simp only [h, if_true, if_false, Option.bind_some, (str_nonempty h).2.2.1]
      rw [h2, spec_gr_l2 _ _ _ _ _ (by omega) (Nat.gcd_pos_of_pos_left _ (by omega))]
      unfold lowN gcdI
      simp only [Int.toNat_natCast]
theorem impl_GreatestExponent_eq {k : Nat} {w : ByteArray} (h0 : w.size ≤ 1048576) (hk : 1048600 ≤ k) : impl_GreatestExponent.f k w = some (greaW w) := by
  unfold impl_GreatestExponent.f greaW
  rw [wordCode_1]
  cases hw : isW w
  · simp
  · have hz := isW_size hw
    by_cases h : w.size = 0
    · simp [h, (str_empty h).2.2.1]
    · obtain ⟨_, _, _, h3, h4, h5, h6⟩ := spec_gr hz (show 100000 ≤ k by omega)
      obtain ⟨k', h1, h2⟩ := impl_gr hz (show 100000 ≤ k by omega)
      simp only [h, if_true, if_false, Option.bind_some, (str_nonempty h).2.2.1]
      rw [h2, impl_lowest_eq (by omega) (by omega) (by omega)]; rfl
theorem FnExactGreatestExponent : laws_FnExactGreatestExponent.Pure := by
  intro a0 h0
  by_cases hs : (a0.size : Int) > 1048576
  · exact ⟨0, by unfold laws_FnExactGreatestExponent.f; rw [if_pos hs]⟩
  · refine ⟨1048600, ?_⟩
    unfold laws_FnExactGreatestExponent.f
    rw [if_neg hs, spec_GreatestExponent_eq (by omega) (by omega), impl_GreatestExponent_eq (by omega) (by omega)]
    simp

end Go.Proofs.Ytjnpobaampgakac.Pure
