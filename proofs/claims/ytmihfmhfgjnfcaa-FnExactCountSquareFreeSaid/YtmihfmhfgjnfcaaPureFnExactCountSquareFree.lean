/- The plain part of the law FnExactCountSquareFree: for every input that the law takes, the printed function of the law answers true once it has rounds enough. Conditions: those that stand in the statement (sizes of strings and slices, kinds of numbers), no other. -/
import Derived.Test.YtmihfmhfgjnfcaaQx4
import Derived.Test.YtmihfmhfgjnfcaaMath
import Derived.Test.YtmihfmhfgjnfcaaMath3
import Derived.Test.YtmihfmhfgjnfcaaMath4
namespace Go.Proofs.Ytmihfmhfgjnfcaa.Pure
open Go.RowKit Go.Proofs.Ytmihfmhfgjnfcaa.Q Go.Proofs.YtmihfmhfgjnfcaaW.PrintWords Go.Proofs.YtmihfmhfgjnfcaaW.PrintLast Go.Proofs.YtmihfmhfgjnfcaaW.PrintMore
set_option linter.unusedVariables false
set_option linter.unusedSimpArgs false

theorem spec_l01In_eq (n lo hi : Int) : spec_l01In.f n lo hi = some (inR n lo hi) := by
  unfold spec_l01In.f inR
  by_cases h : n ≥ lo
  · rw [if_pos h, decide_eq_true (show lo ≤ n from h)]; simp
  · rw [if_neg h, decide_eq_false (show ¬ lo ≤ n from h)]; simp

def letW (n : Nat) : ByteArray := strOfNums [97 + (n : Int)]
theorem letW_size (n : Nat) : (letW n).size = 1 := by unfold letW; rw [sn_len]; rfl
theorem app_size (a b : ByteArray) : (a ++ b).size = a.size + b.size := by rw [← bo_len, bo_append, List.length_append, bo_len, bo_len]
theorem spec_l01Letter_eq {n : Nat} (h : n ≤ 100) : spec_l01Letter.f n = some (letW n) := by
  unfold spec_l01Letter.f letW
  rw [w64 (by omega) (by omega), Int.emod_eq_of_lt (by omega) (by omega)]
theorem impl_letter_eq {n : Nat} (h : n ≤ 100) : impl_letter.f n = some (letW n) := by
  unfold impl_letter.f letW
  rw [w64 (by omega) (by omega), Int.emod_eq_of_lt (by omega) (by omega)]

def powB (w : ByteArray) (k i q : Nat) : Bool := hasP (w.extract i (i + k * q)) q
def powR (w : ByteArray) (k i : Nat) : List (List Int) := gath (powB w k i) (fun q => [(i : Int), (q : Int)]) 1 ((w.size - i) / k)
def powL (w : ByteArray) (k : Nat) : List (List Int) := (List.range' 0 w.size).flatMap (powR w k)
theorem powR_len (w : ByteArray) (k i : Nat) : (powR w k i).length ≤ w.size := Nat.le_trans (gath_len _ _ _ _) (Nat.le_trans (Nat.div_le_self _ _) (Nat.sub_le _ _))
theorem powL_len_aux (w : ByteArray) (k : Nat) : ∀ c i, ((List.range' i c).flatMap (powR w k)).length ≤ c * w.size
  | 0, i => by simp
  | c + 1, i => by
    rw [List.range'_succ, List.flatMap_cons, List.length_append, Nat.succ_mul]
    have := powR_len w k i
    have := powL_len_aux w k c (i + 1)
    omega
theorem powL_len {w : ByteArray} {k : Nat} (hw : w.size ≤ 60) : (powL w k).length ≤ 3600 := Nat.le_trans (powL_len_aux w k _ _) (Nat.mul_le_mul hw hw)
theorem div_in {n k q : Nat} (hk : 0 < k) (h : q ≤ n / k) : k * q ≤ n := by rw [Nat.mul_comm]; exact (Nat.le_div_iff_mul_le hk).mp h
theorem div_out {n k : Nat} (hk : 0 < k) : n < k * (n / k + 1) ∧ k * (n / k + 1) ≤ n + k := by
  have h := Nat.div_add_mod n k
  have h2 := Nat.mod_lt n hk
  rw [Nat.mul_add, Nat.mul_one]
  omega
theorem powL_step {w : ByteArray} {m : Nat} (i : Nat) (s : List (List Int)) : (fun (i : Nat) (a : List (List Int)) => a ++ powR w m i) i s = s ++ gath (powB w m i) (fun q => [(i : Int), (q : Int)]) 1 ((w.size - i) / m) := rfl
theorem powL_nil {w : ByteArray} {m : Nat} (h1 : 1 ≤ m) : powL w m = [] ↔ ∀ i q, 1 ≤ q → i + m * q ≤ w.size → powB w m i q = false := by
  unfold powL
  rw [List.flatMap_eq_nil_iff]
  constructor
  · intro h i q hq hi
    have hq2 : q ≤ m * q := Nat.le_mul_of_pos_left q h1
    have := h i (by rw [List.mem_range'_1]; omega)
    refine gath_nil.mp this q hq ?_
    have : q ≤ (w.size - i) / m := (Nat.le_div_iff_mul_le h1).mpr (by rw [Nat.mul_comm]; omega)
    omega
  · intro h i hi
    rw [List.mem_range'_1] at hi
    refine gath_nil.mpr fun q h3 h4 => h i q h3 ?_
    have := div_in h1 (show q ≤ (w.size - i) / m by omega)
    omega

def sqE (w : ByteArray) (e q : Nat) : Bool := powB w 2 (e - 2 * q) q
def endF (w : ByteArray) : Bool := (findE (sqE w w.size) 1 (w.size / 2)).isNone

theorem spec_l03Power_eq {k : Nat} {w : ByteArray} {i q m : Nat} (hm : 1 ≤ m) (h : i + m * q ≤ w.size) (hw : w.size ≤ 1048576) (hk : w.size + 2 < k) : spec_l03Power.f k w i q m = some (powB w m i q) := by
  have hq : q ≤ m * q := Nat.le_mul_of_pos_left q hm
  have hz : (w.extract i (i + m * q)).size = m * q := by rw [ext_size]; omega
  have e1 : (q : Int) * m = ((m * q : Nat) : Int) := by rw [Int.natCast_mul, Int.mul_comm]
  unfold spec_l03Power.f
  rw [e1, w64 (x := ((m * q : Nat) : Int)) (by omega) (by omega), w64 (by omega) (by omega), if_neg (by omega)]
  have hf := find_from (fun k j => spec_l03Power.l0 k w i q m j) (i + (m * q - q)) i (fun j => !(bt w j == bt w ((j + q : Nat) : Int))) (fun _ => false) true 0
    (fun k j _ hl hj => by
      simp only [spec_l03Power.l0]
      rw [e1, w64 (x := ((m * q : Nat) : Int)) (by omega) (by omega), w64 (x := (i : Int) + _) (by omega) (by omega), w64 (x := (j : Int) + q) (by omega) (by omega), if_pos (by omega), if_pos (by omega), if_pos (by omega), if_pos (by omega), if_pos (by omega), w64 (by omega) (by omega)]
      rw [show (j : Int) + q = ((j + q : Nat) : Int) by omega]
      by_cases h1 : bt w j = bt w ((j + q : Nat) : Int)
      · rw [if_pos h1]; simp [h1]
      · rw [if_neg h1, beq_eq_false_iff_ne.mpr h1]; rfl)
    (fun k _ => by
      simp only [spec_l03Power.l0]
      rw [e1, w64 (x := ((m * q : Nat) : Int)) (by omega) (by omega), w64 (x := (i : Int) + _) (by omega) (by omega), w64 (by omega) (by omega), if_neg (by omega)])
    (m * q - q) k i rfl (Nat.le_refl _) (by omega)
  rw [hf]
  congr 1
  unfold powB
  cases hc : findE (fun j => !(bt w j == bt w ((j + q : Nat) : Int))) i (m * q - q) with
  | none =>
    symm
    rw [hasP_iff (by omega), hz]
    intro j hj
    have := findE_none.mp hc (i + j) (by omega) (by omega)
    rw [ext_bt _ (by omega), ext_bt _ (by omega), show i + (j + q) = i + j + q by omega]
    simpa using this
  | some j =>
    obtain ⟨h1, h2, h3, _⟩ := findE_some hc
    symm
    rw [Bool.eq_false_iff, ne_eq, hasP_iff (by omega), hz]
    intro h4
    have := h4 (j - i) (by omega)
    rw [ext_bt _ (by omega), ext_bt _ (by omega), show i + (j - i + q) = j + q by omega, show i + (j - i) = j by omega] at this
    simp [this] at h3

def firG (w : ByteArray) (e : Nat) (_ : Unit) : (Int × Int × Bool) ⊕ Unit := match findE (sqE w e) 1 (e / 2) with | some q => .inl (((e - 2 * q : Nat) : Int), (q : Int), true) | none => .inr ()
/-- the first square that ends at a place or behind it -/
def firW (w : ByteArray) (a : Nat) : Int × Int × Bool := loopE (firG w) (fun _ => (0, 0, false)) (max a 2) (w.size + 1 - max a 2) ()
theorem mx_nat {a : Nat} : mx (a : Int) 2 = ((max a 2 : Nat) : Int) := by unfold mx; split <;> omega
theorem spec_l03First_eq {k : Nat} {w : ByteArray} {a : Nat} (hw : w.size ≤ 1000) (ha : a ≤ 1000) (hk : 2000000 ≤ k) : spec_l03First.f k w a = some (firW w a) := by
  have hend : ∀ k (e : Nat), w.size < e → spec_l03First.l0 (k + 1) w e = some (0, 0, false) := fun k e he => by
    simp only [spec_l03First.l0]
    rw [if_neg (by omega)]
  unfold spec_l03First.f firW
  rw [mx_nat]
  by_cases hz : w.size + 1 ≤ max a 2
  · obtain ⟨k, rfl⟩ := rounds_pos (show 0 < k by omega)
    rw [hend _ _ (by omega), show w.size + 1 - max a 2 = 0 by omega]; rfl
  · exact loop_cost (fun k (_ : Unit) e => spec_l03First.l0 k w e) (w.size + 1) (firG w) (fun _ => (0, 0, false)) (fun _ _ => True) 2000 1000
      (fun e _ he _ => by
        have hd := Nat.div_add_mod e 2
        have hm := Nat.mod_lt e (show 0 < 2 by omega)
        refine ⟨e / 2 + 1, by omega, fun k hk => ?_⟩
        have h := find_on (fun k q => spec_l03First.l1 k w e q) (fun k => spec_l03First.l0 k w ((e + 1 : Nat) : Int)) (e / 2 + 1) (sqE w e) (fun q => (((e - 2 * q : Nat) : Int), (q : Int), true)) 2000
          (fun k q hk hq => by
            simp only [spec_l03First.l1]
            rw [w64 (x := 2 * (q : Int)) (by omega) (by omega), if_pos (by omega), w64 (x := (e : Int) - 2 * q) (by omega) (by omega), w64 (x := (q : Int) + 1) (by omega) (by omega), show (e : Int) - 2 * q = ((e - 2 * q : Nat) : Int) by omega]
            have := spec_l03Power_eq (k := k) (w := w) (i := e - 2 * q) (q := q) (m := 2) (by omega) (by omega) (by omega) (by omega)
            rw [show ((2 : Nat) : Int) = 2 from rfl] at this
            rw [this, Option.bind_some]
            rfl)
          (fun k hk => by
            simp only [spec_l03First.l1]
            rw [w64 (x := 2 * _) (by omega) (by omega), if_neg (by omega), w64 (by omega) (by omega)]; rfl)
          (e / 2) k 1 (by omega) hk
        simp only [spec_l03First.l0]
        rw [if_pos (by omega), show k + (e / 2 + 1) = k + (e / 2) + 1 by omega]
        rw [show (1 : Int) = ((1 : Nat) : Int) from rfl, h]
        unfold firG
        cases findE (sqE w e) 1 (e / 2) <;> rfl)
      (fun _ _ _ _ _ _ => trivial)
      (fun k _ _ _ => hend k (w.size + 1) (by omega))
      (w.size + 1 - max a 2) k (max a 2) () (by omega) (by
        have : (w.size + 1 - max a 2) * (1000 + 1) ≤ 1001 * 1001 := Nat.mul_le_mul (by omega) (by omega)
        omega) trivial
theorem loopE_unit {α : Type} (g : Nat → Unit → α ⊕ Unit) (d : α) : ∀ (c i : Nat),
    ((∀ m, i ≤ m → m < i + c → g m () = .inr ()) ∧ loopE g (fun _ => d) i c () = d) ∨ ∃ m a, i ≤ m ∧ m < i + c ∧ g m () = .inl a ∧ (∀ j, i ≤ j → j < m → g j () = .inr ()) ∧ loopE g (fun _ => d) i c () = a
  | 0, i => .inl ⟨fun m _ _ => by omega, rfl⟩
  | c + 1, i => by
    simp only [loopE]
    cases hg : g i () with
    | inl a => exact .inr ⟨i, a, Nat.le_refl _, by omega, hg, fun j _ _ => by omega, rfl⟩
    | inr u =>
      rcases loopE_unit g d c (i + 1) with ⟨h1, h2⟩ | ⟨m, a, h1, h2, h3, h4, h5⟩
      · refine .inl ⟨fun m hm1 hm2 => ?_, h2⟩
        by_cases e : m = i
        · subst e; exact hg
        · exact h1 m (by omega) (by omega)
      · refine .inr ⟨m, a, by omega, by omega, h3, fun j hj1 hj2 => ?_, h5⟩
        by_cases e : j = i
        · subst e; exact hg
        · exact h4 j (by omega) hj2
theorem firW_spec (w : ByteArray) (a : Nat) :
    (firW w a = (0, 0, false) ∧ ∀ e q, max a 2 ≤ e → e ≤ w.size → 1 ≤ q → 2 * q ≤ e → sqE w e q = false) ∨
    ∃ e q, max a 2 ≤ e ∧ e ≤ w.size ∧ 1 ≤ q ∧ 2 * q ≤ e ∧ sqE w e q = true ∧ firW w a = (((e - 2 * q : Nat) : Int), (q : Int), true) ∧ (∀ q', 1 ≤ q' → q' < q → sqE w e q' = false) ∧ ∀ e' q', max a 2 ≤ e' → e' < e → 1 ≤ q' → 2 * q' ≤ e' → sqE w e' q' = false := by
  have hno : ∀ e, firG w e () = .inr () → ∀ q, 1 ≤ q → 2 * q ≤ e → sqE w e q = false := fun e h q h1 h2 => by
    unfold firG at h
    cases hf : findE (sqE w e) 1 (e / 2) with
    | some j => rw [hf] at h; cases h
    | none =>
      have hd := Nat.div_add_mod e 2
      have hm := Nat.mod_lt e (show 0 < 2 by omega)
      exact findE_none.mp hf q h1 (by omega)
  rcases loopE_unit (firG w) (0, 0, false) (w.size + 1 - max a 2) (max a 2) with ⟨h1, h2⟩ | ⟨e, r, h1, h2, h3, h4, h5⟩
  · exact .inl ⟨h2, fun e q he1 he2 hq1 hq2 => hno e (h1 e he1 (by omega)) q hq1 hq2⟩
  · have h3' := h3
    unfold firG at h3
    cases hf : findE (sqE w e) 1 (e / 2) with
    | none => rw [hf] at h3; cases h3
    | some q =>
      rw [hf] at h3
      injection h3 with h3
      obtain ⟨f1, f2, f3, f4⟩ := findE_some hf
      have hd := Nat.div_add_mod e 2
      have hm := Nat.mod_lt e (show 0 < 2 by omega)
      refine .inr ⟨e, q, h1, by omega, f1, by omega, f3, ?_, f4, fun e' q' he1 he2 hq1 hq2 => hno e' (h4 e' he1 he2) q' hq1 hq2⟩
      unfold firW
      rw [h5, ← h3]

theorem firW_ends {w : ByteArray} : (firW w w.size).2.2 = !endF w := by
  have hd := Nat.div_add_mod w.size 2
  have hm := Nat.mod_lt w.size (show 0 < 2 by omega)
  rcases firW_spec w w.size with ⟨h1, h2⟩ | ⟨e, q, h1, h2, h3, h4, h5, h6, _⟩
  · rw [h1]
    have : endF w = true := by
      unfold endF
      rw [Option.isNone_iff_eq_none, findE_none]
      intro q hq1 hq2
      exact h2 w.size q (by omega) (Nat.le_refl _) hq1 (by omega)
    rw [this]; rfl
  · rw [h6]
    have : endF w = false := by
      unfold endF
      obtain rfl : e = w.size := by omega
      cases hf : findE (sqE w w.size) 1 (w.size / 2) with
      | some j => rfl
      | none => rw [findE_none.mp hf q h3 (by omega)] at h5; cases h5
    rw [this]; rfl

theorem impl_hasPeriod_eq {w : ByteArray} {p : Int} (h0 : 0 ≤ p) (h1 : p ≤ w.size) (hw : w.size ≤ 1048576) : impl_hasPeriod.f w p = some (hasP w p.toNat) := by
  unfold impl_hasPeriod.f
  rw [if_pos h0, if_pos h1, w64 (by omega) (by omega), if_pos (by omega), if_pos (by omega), toList_beq]
  unfold hasP
  rw [show ((w.size : Int) - p).toNat = w.size - p.toNat by omega]

theorem impl_endsFree_eq {k : Nat} {w : ByteArray} (hw : w.size ≤ 1000) (hk : 5000 ≤ k) : impl_endsFree.f k w = some (endF w) := by
  have hd := Nat.div_add_mod w.size 2
  have hm := Nat.mod_lt w.size (show 0 < 2 by omega)
  have h := find_gen (fun k i => impl_endsFree.l0 k w i) (w.size / 2 + 1) (sqE w w.size) (fun _ => false) true 0
    (fun k q _ hq => by
      simp only [impl_endsFree.l0]
      rw [w64 (x := 2 * (q : Int)) (by omega) (by omega), if_pos (by omega), w64 (x := (w.size : Int) - 2 * q) (by omega) (by omega), if_pos (by omega), if_pos (by omega), w64 (by omega) (by omega)]
      rw [show ((w.size : Int) - 2 * (q : Int)).toNat = w.size - 2 * q by omega]
      rw [impl_hasPeriod_eq (by omega) (by rw [ext_size]; omega) (by rw [ext_size]; omega), Int.toNat_natCast, Option.bind_some]
      have e : hasP (w.extract (w.size - 2 * q) w.size) q = sqE w w.size q := by
        unfold sqE powB
        rw [show w.size - 2 * q + 2 * q = w.size by omega]
      rw [e]
      cases sqE w w.size q <;> simp)
    (fun k _ => by simp only [impl_endsFree.l0]; rw [w64 (by omega) (by omega), if_neg (by omega)])
    (w.size / 2) k 1 (by omega) (by omega)
  unfold impl_endsFree.f endF
  rw [show (1 : Int) = ((1 : Nat) : Int) from rfl, h]
  cases findE (sqE w w.size) 1 (w.size / 2) <;> rfl

theorem letW_next (w : ByteArray) (n : Nat) : (w ++ letW n).size = w.size + 1 := by rw [app_size, letW_size]
theorem first_next {k : Nat} {w : ByteArray} {n : Nat} (hw : w.size ≤ 60) (hk : 2000000 ≤ k) : ∃ z, spec_l03First.f k (w ++ letW n) ((w.size : Int) + ((letW n).size : Int)) = some z ∧ z.2.2 = !endF (w ++ letW n) := by
  have hs := letW_size n
  have hs2 := letW_next w n
  have := spec_l03First_eq (k := k) (w := w ++ letW n) (a := (w ++ letW n).size) (by omega) (by omega) (by omega)
  rw [show (((w ++ letW n).size : Nat) : Int) = (w.size : Int) + ((letW n).size : Int) by rw [hs2, hs]; omega] at this
  exact ⟨_, this, firW_ends⟩

def sumF (f : Nat → Nat) : Nat → Nat → Nat
  | 0, _ => 0
  | e + 1, n => f n + sumF f e (n + 1)
theorem sumF_le {f : Nat → Nat} {B : Nat} (h : ∀ n, f n ≤ B) : ∀ e n, sumF f e n ≤ e * B
  | 0, n => by simp [sumF]
  | e + 1, n => by
    have h1 := h n
    have h2 := sumF_le h e (n + 1)
    rw [Nat.succ_mul]; unfold sumF; omega
/-- how many square free words of so many letters more go on from a word -/
def cntG (kk : Nat) : Nat → ByteArray → Nat
  | 0, _ => 1
  | d + 1, w => sumF (fun n => if endF (w ++ letW n) = true then cntG kk d (w ++ letW n) else 0) kk 0
theorem cntG_le (kk : Nat) : ∀ d w, cntG kk d w ≤ kk ^ d
  | 0, w => by simp [cntG]
  | d + 1, w => by
    unfold cntG
    rw [Nat.pow_succ, Nat.mul_comm]
    refine sumF_le (fun n => ?_) kk 0
    split
    · exact cntG_le kk d _
    · exact Nat.zero_le _
theorem pow3 {kk d : Nat} (hk : kk ≤ 3) (hd : d ≤ 12) : kk ^ d ≤ 531441 :=
  Nat.le_trans (Nat.pow_le_pow_left hk d) (Nat.le_trans (Nat.pow_le_pow_right (by decide) hd) (by decide))
theorem spec_count {m kk : Nat} (hm : m ≤ 12) (hkk : kk ≤ 3) : ∀ (d : Nat) (w : ByteArray) (k : Nat), w.size + d = m → 3000000 + 10 * d < k → spec_l03Count.f k w m kk = some ((cntG kk d w : Nat) : Int)
  | 0, w, k, hd, hk => by
    obtain ⟨k, rfl⟩ := rounds_pos (show 0 < k by omega)
    simp only [spec_l03Count.f]
    rw [if_pos (by omega)]; rfl
  | d + 1, w, k, hd, hk => by
    obtain ⟨k, rfl⟩ := rounds_pos (show 0 < k by omega)
    simp only [spec_l03Count.f]
    rw [if_neg (by omega)]
    have hB := pow3 (kk := kk) (d := d) hkk (by omega)
    have L : ∀ (e n k s : Nat), n + e = kk → 3000000 + 10 * d + e < k → s + e * kk ^ d ≤ 4000000 → spec_l03Count.l0 k w m kk s n = some ((s + sumF (fun n => if endF (w ++ letW n) = true then cntG kk d (w ++ letW n) else 0) e n : Nat) : Int) := by
      intro e
      induction e with
      | zero =>
        intro n k s hn hk hs
        obtain ⟨k, rfl⟩ := rounds_pos (show 0 < k by omega)
        simp only [spec_l03Count.l0]
        rw [if_neg (by omega)]; simp [sumF]
      | succ e ih =>
        intro n k s hn hk hs
        rw [Nat.succ_mul] at hs
        obtain ⟨k, rfl⟩ := rounds_pos (show 0 < k by omega)
        have hl := letW_size n
        obtain ⟨z, hz1, hz2⟩ := first_next (k := k) (w := w) (n := n) (by omega) (by omega)
        have hc := cntG_le kk d (w ++ letW n)
        simp only [spec_l03Count.l0]
        rw [if_pos (by omega), spec_l01Letter_eq (by omega), Option.bind_some, if_pos (by omega), hz1, Option.bind_some, hz2, w64 (x := (n : Int) + 1) (by omega) (by omega)]
        simp only [sumF]
        cases he : endF (w ++ letW n) with
        | true =>
          rw [if_neg (by decide), spec_count hm hkk d (w ++ letW n) k (by rw [letW_next]; omega) (by omega), Option.bind_some, w64 (by omega) (by omega)]
          have := ih (n + 1) k (s + cntG kk d (w ++ letW n)) (by omega) (by omega) (by omega)
          rw [show (s : Int) + (cntG kk d (w ++ letW n) : Nat) = ((s + cntG kk d (w ++ letW n) : Nat) : Int) by omega, show (n : Int) + 1 = ((n + 1 : Nat) : Int) by omega, this, if_pos rfl, Nat.add_assoc]
        | false =>
          have := ih (n + 1) k s (by omega) (by omega) (by omega)
          rw [Bool.not_false, if_pos rfl, show (n : Int) + 1 = ((n + 1 : Nat) : Int) by omega, this, if_neg (by decide), Nat.zero_add]
    have := L kk 0 k 0 (by omega) (by omega) (by
      have : kk * kk ^ d ≤ 3 * 531441 := Nat.mul_le_mul hkk hB
      omega)
    rw [Nat.zero_add] at this
    exact this
theorem impl_count {m kk : Nat} (hm : m ≤ 12) (hkk : kk ≤ 3) : ∀ (d : Nat) (w : ByteArray) (k s : Nat), w.size + d = m → 5000 + d < k → s + kk ^ d ≤ 4000000 → grownF cntAct m kk k w (s : Int) = some (false, ((s + cntG kk d w : Nat) : Int))
  | 0, w, k, s, hd, hk, hs => by
    obtain ⟨k, rfl⟩ := rounds_pos (show 0 < k by omega)
    simp only [grownF]
    rw [if_pos (by omega)]
    simp only [cntAct, cntG]
    rw [w64 (by omega) (by omega)]; rfl
  | d + 1, w, k, s, hd, hk, hs => by
    obtain ⟨k, rfl⟩ := rounds_pos (show 0 < k by omega)
    simp only [grownF]
    rw [if_neg (by omega)]
    have L : ∀ (e n s : Nat), n + e = kk → s + e * kk ^ d ≤ 4000000 → grownL (grownF cntAct m kk k) k w e n (s : Int) = some (false, ((s + sumF (fun n => if endF (w ++ letW n) = true then cntG kk d (w ++ letW n) else 0) e n : Nat) : Int)) := by
      intro e
      induction e with
      | zero =>
        intro n s hn hs
        simp [grownL, sumF]
      | succ e ih =>
        intro n s hn hs
        rw [Nat.succ_mul] at hs
        have hl := letW_size n
        have hc := cntG_le kk d (w ++ letW n)
        simp only [grownL]
        rw [impl_letter_eq (by omega), Option.bind_some, if_pos (by omega), impl_endsFree_eq (by rw [letW_next]; omega) (by omega), Option.bind_some]
        simp only [sumF]
        cases he : endF (w ++ letW n) with
        | true =>
          rw [if_pos rfl, impl_count hm hkk d (w ++ letW n) k s (by rw [letW_next]; omega) (by omega) (by omega), Option.bind_some, if_neg (show ¬ (false = true) by decide)]
          have := ih (n + 1) (s + cntG kk d (w ++ letW n)) (by omega) (by omega)
          rw [this, if_pos rfl, Nat.add_assoc]
        | false =>
          have := ih (n + 1) s (by omega) (by omega)
          rw [if_neg (by decide), this, if_neg (by decide), Nat.zero_add]
    rw [Nat.pow_succ, Nat.mul_comm] at hs
    exact L kk 0 s (by omega) hs

theorem spec_CountSquareFree_eq {m : Nat} (hm : 10000000 ≤ m) (a0 a1 : Int) : spec_CountSquareFree.f m a0 a1 = some (if (inR a0 0 12 && inR a1 1 3) = true then (((cntG a1.toNat a0.toNat ⟨#[]⟩ : Nat) : Int), 0) else (0, 2)) := by
  unfold spec_CountSquareFree.f
  rw [spec_l01In_eq, Option.bind_some]
  cases h0 : inR a0 0 12
  · rfl
  · rw [if_pos rfl, spec_l01In_eq, Option.bind_some]
    cases h1 : inR a1 1 3
    · rfl
    · obtain ⟨m0, m1⟩ := inR_true h0
      obtain ⟨m2, m3⟩ := inR_true h1
      obtain ⟨p, rfl⟩ : ∃ p : Nat, a0 = p := ⟨a0.toNat, by omega⟩
      obtain ⟨q, rfl⟩ : ∃ q : Nat, a1 = q := ⟨a1.toNat, by omega⟩
      rw [if_pos rfl, spec_count (m := p) (kk := q) (by omega) (by omega) p ⟨#[]⟩ m (by show 0 + p = p; omega) (by omega)]
      rfl
theorem impl_CountSquareFree_eq {m : Nat} (hm : 10000000 ≤ m) (a0 a1 : Int) : impl_CountSquareFree.f m a0 a1 = some (if (inR a0 0 12 && inR a1 1 3) = true then (((cntG a1.toNat a0.toNat ⟨#[]⟩ : Nat) : Int), 0) else (0, 2)) := by
  unfold impl_CountSquareFree.f
  cases h : (inR a0 0 12 && inR a1 1 3)
  · rfl
  · rw [Bool.and_eq_true] at h
    obtain ⟨m0, m1⟩ := inR_true h.1
    obtain ⟨m2, m3⟩ := inR_true h.2
    obtain ⟨p, rfl⟩ : ∃ p : Nat, a0 = p := ⟨a0.toNat, by omega⟩
    obtain ⟨q, rfl⟩ : ∃ q : Nat, a1 = q := ⟨a1.toNat, by omega⟩
    have := impl_count (m := p) (kk := q) (by omega) (by omega) p ⟨#[]⟩ m 0 (by show 0 + p = p; omega) (by omega) (by have := pow3 (kk := q) (d := p) (by omega) (by omega); omega)
    rw [if_pos rfl, if_pos rfl, Int.toNat_natCast, Int.toNat_natCast]
    rw [show ((0 : Nat) : Int) = 0 from rfl, Nat.zero_add] at this
    rw [this]; rfl
theorem FnExactCountSquareFree : laws_FnExactCountSquareFree.Pure := by
  intro a0 a1 _ _
  obtain ⟨K, hK⟩ : ∃ K : Nat, 10000000 ≤ K := ⟨_, Nat.le_refl _⟩
  refine ⟨K, ?_⟩
  unfold laws_FnExactCountSquareFree.f
  rw [spec_CountSquareFree_eq hK, impl_CountSquareFree_eq hK]
  simp

end Go.Proofs.Ytmihfmhfgjnfcaa.Pure
