/- The plain part of the law FnExactOverlapsIn: for every input that the law takes, the printed function of the law answers true once it has rounds enough. Conditions: those that stand in the statement (sizes of strings and slices, kinds of numbers), no other. -/
import Derived.Test.YtmihfmhfgjnfcaaQx10
import Derived.Test.YtmihfmhfgjnfcaaMath
import Derived.Test.YtmihfmhfgjnfcaaMath3
import Derived.Test.YtmihfmhfgjnfcaaMath4
namespace Go.Proofs.Ytmihfmhfgjnfcaa.Pure
open Go.RowKit Go.Proofs.Ytmihfmhfgjnfcaa.Q Go.Proofs.YtmihfmhfgjnfcaaW.PrintWords Go.Proofs.YtmihfmhfgjnfcaaW.PrintLast Go.Proofs.YtmihfmhfgjnfcaaW.PrintMore
set_option linter.unusedVariables false
set_option linter.unusedSimpArgs false

theorem spec_l01Is_eq {k : Nat} {w : ByteArray} (hw : w.size ≤ 140737488351232) (hk : w.size + 1 < k) : spec_l01Is.f k w = some (isW w) := by
  have h := find_gen (fun k i => spec_l01Is.l0 k w i) w.size (fun i => !okB (bt w i)) (fun _ => false) (decide ((w.size : Int) ≤ 60)) 0
    (fun k i _ hi => by
      simp only [spec_l01Is.l0]
      rw [if_pos (by omega), if_pos (by omega)]
      by_cases h1 : bt w i < 97
      · rw [if_pos h1]
        have : okB (bt w i) = false := by unfold okB; simp; omega
        simp [this]
      · rw [if_neg h1]
        by_cases h2 : bt w i > 101
        · rw [if_pos h2]
          have : okB (bt w i) = false := by unfold okB; simp; omega
          simp [this]
        · rw [if_neg h2, w64 (by omega) (by omega)]
          have : okB (bt w i) = true := by unfold okB; simp; omega
          simp [this])
    (fun k _ => by simp only [spec_l01Is.l0]; rw [if_neg (by omega)])
    w.size k 0 (by omega) (by omega)
  unfold spec_l01Is.f
  rw [show (0 : Int) = ((0 : Nat) : Int) from rfl, h]
  congr 1
  unfold isW
  cases hf : findE (fun i => !okB (bt w i)) 0 w.size with
  | some j =>
    obtain ⟨_, h1, h2, _⟩ := findE_some hf
    have : (bytesOf w).all okB = false := by
      rw [Bool.eq_false_iff]
      intro h3
      rw [List.all_eq_true] at h3
      have hj : j < (bytesOf w).length := by rw [bo_len]; omega
      have := h3 _ (List.getElem_mem hj)
      rw [bt_nat, getD_eq _ _ hj, this] at h2
      cases h2
    simp [this]
  | none =>
    have : (bytesOf w).all okB = true := by
      rw [List.all_eq_true]
      intro x hx
      obtain ⟨j, hj, rfl⟩ := List.mem_iff_getElem.mp hx
      have := findE_none.mp hf j (Nat.zero_le _) (by rw [bo_len] at hj; omega)
      rw [bt_nat, getD_eq _ _ hj] at this
      simpa using this
    simp only [this, Bool.and_true, decide_eq_decide]
    omega
theorem spec_not_word {w : ByteArray} (h : w.size > 60) : isW w = false := by unfold isW; simp; omega

theorem wordCode_1 (a : ByteArray) : impl_wordCode.f () [a] = some (if isW a then 0 else 1) := by unfold impl_wordCode.f; simp
theorem wordCode_2 (a b : ByteArray) : impl_wordCode.f () [a, b] = some (if isW a && isW b then 0 else 1) := by unfold impl_wordCode.f; simp

def powB (w : ByteArray) (k i q : Nat) : Bool := hasP (w.extract i (i + k * q)) q
def powR (w : ByteArray) (k i : Nat) : List (List Int) := gath (powB w k i) (fun q => [(i : Int), (q : Int)]) 1 ((w.size - i) / k)
def powL (w : ByteArray) (k : Nat) : List (List Int) := (List.range' 0 w.size).flatMap (powR w k)
theorem powR_len (w : ByteArray) (k i : Nat) : (powR w k i).length ≤ w.size := Nat.le_trans (gath_len _ _ _ _) (Nat.le_trans (Nat.div_le_self _ _) (Nat.sub_le _ _))
theorem powL_len_aux (w : ByteArray) (k : Nat) : ∀ c i, ((List.range' i c).flatMap (powR w k)).length ≤ c * w.size
  | 0, i => by simp
  | c + 1, i => by
    rw [List.range'_succ, List.flatMap_cons, List.length_append, Nat.succ_mul]
    have := powR_len w k i
    have := powL_len_aux w k c (i + 1)
    omega
theorem powL_len {w : ByteArray} {k : Nat} (hw : w.size ≤ 60) : (powL w k).length ≤ 3600 := Nat.le_trans (powL_len_aux w k _ _) (Nat.mul_le_mul hw hw)
theorem div_in {n k q : Nat} (hk : 0 < k) (h : q ≤ n / k) : k * q ≤ n := by rw [Nat.mul_comm]; exact (Nat.le_div_iff_mul_le hk).mp h
theorem div_out {n k : Nat} (hk : 0 < k) : n < k * (n / k + 1) ∧ k * (n / k + 1) ≤ n + k := by
  have h := Nat.div_add_mod n k
  have h2 := Nat.mod_lt n hk
  rw [Nat.mul_add, Nat.mul_one]
  omega
theorem powL_step {w : ByteArray} {m : Nat} (i : Nat) (s : List (List Int)) : (fun (i : Nat) (a : List (List Int)) => a ++ powR w m i) i s = s ++ gath (powB w m i) (fun q => [(i : Int), (q : Int)]) 1 ((w.size - i) / m) := rfl
theorem powL_nil {w : ByteArray} {m : Nat} (h1 : 1 ≤ m) : powL w m = [] ↔ ∀ i q, 1 ≤ q → i + m * q ≤ w.size → powB w m i q = false := by
  unfold powL
  rw [List.flatMap_eq_nil_iff]
  constructor
  · intro h i q hq hi
    have hq2 : q ≤ m * q := Nat.le_mul_of_pos_left q h1
    have := h i (by rw [List.mem_range'_1]; omega)
    refine gath_nil.mp this q hq ?_
    have : q ≤ (w.size - i) / m := (Nat.le_div_iff_mul_le h1).mpr (by rw [Nat.mul_comm]; omega)
    omega
  · intro h i hi
    rw [List.mem_range'_1] at hi
    refine gath_nil.mpr fun q h3 h4 => h i q h3 ?_
    have := div_in h1 (show q ≤ (w.size - i) / m by omega)
    omega

theorem powL_mem {w : ByteArray} {m : Nat} (h1 : 1 ≤ m) {x : List Int} : x ∈ powL w m ↔ ∃ i q : Nat, 1 ≤ q ∧ i + m * q ≤ w.size ∧ powB w m i q = true ∧ x = [(i : Int), (q : Int)] := by
  unfold powL
  rw [List.mem_flatMap]
  constructor
  · rintro ⟨i, hi, hx⟩
    obtain ⟨q, q1, q2, q3, rfl⟩ := gath_mem.mp hx
    rw [List.mem_range'_1] at hi
    have := div_in h1 (show q ≤ (w.size - i) / m by omega)
    exact ⟨i, q, q1, by omega, q3, rfl⟩
  · rintro ⟨i, q, hq, hi, hp, rfl⟩
    have hq2 : q ≤ m * q := Nat.le_mul_of_pos_left q h1
    refine ⟨i, by rw [List.mem_range'_1]; omega, gath_mem.mpr ⟨q, hq, ?_, hp, rfl⟩⟩
    have : q ≤ (w.size - i) / m := (Nat.le_div_iff_mul_le h1).mpr (by rw [Nat.mul_comm]; omega)
    omega
theorem rd0 (a b : Int) : rd [a, b] 0 = a := rfl
theorem rd1 (a b : Int) : rd [a, b] 1 = b := rfl

def ovL (w : ByteArray) : List (List Int) := (powL w 2).filter fun l => !ovB w l
theorem ovL_len {w : ByteArray} (hw : w.size ≤ 60) : (ovL w).length ≤ 3600 := Nat.le_trans (List.length_filter_le _ _) (powL_len hw)

theorem spec_l03Power_eq {k : Nat} {w : ByteArray} {i q m : Nat} (hm : 1 ≤ m) (h : i + m * q ≤ w.size) (hw : w.size ≤ 1048576) (hk : w.size + 2 < k) : spec_l03Power.f k w i q m = some (powB w m i q) := by
  have hq : q ≤ m * q := Nat.le_mul_of_pos_left q hm
  have hz : (w.extract i (i + m * q)).size = m * q := by rw [ext_size]; omega
  have e1 : (q : Int) * m = ((m * q : Nat) : Int) := by rw [Int.natCast_mul, Int.mul_comm]
  unfold spec_l03Power.f
  rw [e1, w64 (x := ((m * q : Nat) : Int)) (by omega) (by omega), w64 (by omega) (by omega), if_neg (by omega)]
  have hf := find_from (fun k j => spec_l03Power.l0 k w i q m j) (i + (m * q - q)) i (fun j => !(bt w j == bt w ((j + q : Nat) : Int))) (fun _ => false) true 0
    (fun k j _ hl hj => by
      simp only [spec_l03Power.l0]
      rw [e1, w64 (x := ((m * q : Nat) : Int)) (by omega) (by omega), w64 (x := (i : Int) + _) (by omega) (by omega), w64 (x := (j : Int) + q) (by omega) (by omega), if_pos (by omega), if_pos (by omega), if_pos (by omega), if_pos (by omega), if_pos (by omega), w64 (by omega) (by omega)]
      rw [show (j : Int) + q = ((j + q : Nat) : Int) by omega]
      by_cases h1 : bt w j = bt w ((j + q : Nat) : Int)
      · rw [if_pos h1]; simp [h1]
      · rw [if_neg h1, beq_eq_false_iff_ne.mpr h1]; rfl)
    (fun k _ => by
      simp only [spec_l03Power.l0]
      rw [e1, w64 (x := ((m * q : Nat) : Int)) (by omega) (by omega), w64 (x := (i : Int) + _) (by omega) (by omega), w64 (by omega) (by omega), if_neg (by omega)])
    (m * q - q) k i rfl (Nat.le_refl _) (by omega)
  rw [hf]
  congr 1
  unfold powB
  cases hc : findE (fun j => !(bt w j == bt w ((j + q : Nat) : Int))) i (m * q - q) with
  | none =>
    symm
    rw [hasP_iff (by omega), hz]
    intro j hj
    have := findE_none.mp hc (i + j) (by omega) (by omega)
    rw [ext_bt _ (by omega), ext_bt _ (by omega), show i + (j + q) = i + j + q by omega]
    simpa using this
  | some j =>
    obtain ⟨h1, h2, h3, _⟩ := findE_some hc
    symm
    rw [Bool.eq_false_iff, ne_eq, hasP_iff (by omega), hz]
    intro h4
    have := h4 (j - i) (by omega)
    rw [ext_bt _ (by omega), ext_bt _ (by omega), show i + (j - i + q) = j + q by omega, show i + (j - i) = j by omega] at this
    simp [this] at h3

theorem spec_l03Powers_eq {k : Nat} {w : ByteArray} {m : Nat} (hw : w.size ≤ 60) (h1 : 1 ≤ m) (h2 : m ≤ 60) (hk : 100000 ≤ k) : spec_l03Powers.f k w m = some (powL w m) := by
  have := fold_cost (fun k (s : List (List Int)) i => spec_l03Powers.l0 k w m s w.size i) w.size (fun i s => s ++ powR w m i) (fun _ s => some s) (fun i s => s.length ≤ 60 * i) 20000 70
    (fun i s hi hs => by
      have hd : (w.size - i) / m ≤ w.size - i := Nat.div_le_self _ _
      obtain ⟨o1, o2⟩ := div_out (n := w.size - i) (k := m) h1
      refine ⟨(w.size - i) / m + 1, by omega, fun k hk => ?_⟩
      have h := gather_on (fun k (s : List (List Int)) q => spec_l03Powers.l1 k w m s w.size i q) (fun k s => spec_l03Powers.l0 k w m s w.size ((i + 1 : Nat) : Int)) ((w.size - i) / m + 1) (powB w m i) (fun q => [(i : Int), (q : Int)]) 20000 100000
        (fun k q acc hk hq ha => by
          have hin := div_in h1 (show q ≤ (w.size - i) / m by omega)
          have hq2 : q ≤ m * q := Nat.le_mul_of_pos_left q h1
          have e1 : (q : Int) * m = ((m * q : Nat) : Int) := by rw [Int.natCast_mul, Int.mul_comm]
          simp only [spec_l03Powers.l1]
          rw [e1, w64 (x := ((m * q : Nat) : Int)) (by omega) (by omega), w64 (by omega) (by omega), if_pos (by omega), spec_l03Power_eq h1 (by omega) (by omega) (by omega), w64 (by omega) (by omega)]
          simp only [Option.bind_some]
          cases powB w m i q
          · simp
          · simp; omega)
        (fun k acc hk => by
          have e1 : (((w.size - i) / m + 1 : Nat) : Int) * m = ((m * ((w.size - i) / m + 1) : Nat) : Int) := by rw [Int.natCast_mul, Int.mul_comm]
          simp only [spec_l03Powers.l1]
          rw [e1, w64 (x := ((m * ((w.size - i) / m + 1) : Nat) : Int)) (by omega) (by omega), w64 (by omega) (by omega), if_neg (by omega), w64 (by omega) (by omega)]; rfl)
        ((w.size - i) / m) k 1 s (by omega) hk (by omega)
      simp only [spec_l03Powers.l0]
      rw [if_pos (by omega)]
      exact h)
    (fun i s hi hs => by
      have := powR_len w m i
      rw [List.length_append]; omega)
    (fun k s hk hs => by
      simp only [spec_l03Powers.l0]
      rw [if_neg (by omega)])
    w.size k 0 [] (by omega) (by have : w.size * (70 + 1) ≤ 60 * 71 := Nat.mul_le_mul hw (by omega); omega) (by simp)
  obtain ⟨_, k', _, _, h4⟩ := this
  unfold spec_l03Powers.f
  rw [loopS_append] at h4
  exact h4

theorem drop_getD {L : List (List Int)} {n : Nat} (h : n < L.length) : L.drop n = L.getD n [] :: L.drop (n + 1) := by
  rw [List.drop_eq_getElem_cons h, List.getD_eq_getElem?_getD, List.getElem?_eq_getElem h]; rfl
theorem spec_ov_l0 {w : ByteArray} (hw : w.size ≤ 60) : ∀ (d n k : Nat) (acc : List (List Int)), n + d = (powL w 2).length → d < k → acc.length ≤ n → spec_l03Overlaps.l0 k w (powL w 2) acc n = some (acc ++ ((powL w 2).drop n).filter fun l => !ovB w l)
  | 0, n, k, acc, hn, hk, ha => by
    obtain ⟨k, rfl⟩ := rounds_pos (show 0 < k by omega)
    simp only [spec_l03Overlaps.l0]
    rw [if_neg (by omega), List.drop_of_length_le (by omega)]; simp
  | d + 1, n, k, acc, hn, hk, ha => by
    obtain ⟨k, rfl⟩ := rounds_pos (show 0 < k by omega)
    have hl := powL_len (k := 2) hw
    have hlt : n < (powL w 2).length := by omega
    have hmem : (powL w 2).getD n [] ∈ powL w 2 := by rw [List.getD_eq_getElem?_getD, List.getElem?_eq_getElem hlt]; exact List.getElem_mem hlt
    obtain ⟨i, q, h1, h2, h3, hx⟩ := (powL_mem (by omega)).mp hmem
    have hr : rd_L5 (powL w 2) (n : Int) = [(i : Int), (q : Int)] := by
      rw [← hx]; unfold rd_L5; simp
    rw [drop_getD hlt, hx, List.filter_cons]
    simp only [spec_l03Overlaps.l0, hr, rd0, rd1]
    rw [if_pos (by omega), if_pos (by omega), if_pos (by simp), if_pos (by simp), w64 (x := 2 * (q : Int)) (by omega) (by omega), w64 (x := (i : Int) + 2 * q) (by omega) (by omega), w64 (x := (n : Int) + 1) (by omega) (by omega), show (n : Int) + 1 = ((n + 1 : Nat) : Int) by omega]
    have hov : ovB w [(i : Int), (q : Int)] = (decide ((w.size : Int) ≤ (i : Int) + 2 * q) || !(bt w ((i : Int) + 2 * q) == bt w i)) := rfl
    rw [hov]
    by_cases c1 : (i : Int) + 2 * q < w.size
    · rw [if_pos c1, if_pos (by omega), if_pos (by omega), if_pos (by omega), decide_eq_false (by omega), Bool.false_or, Bool.not_not]
      by_cases c2 : bt w ((i : Int) + 2 * q) = bt w i
      · rw [if_pos c2, if_pos (by omega), if_pos (by simpa using c2), spec_ov_l0 hw d (n + 1) k _ (by omega) (by omega) (by simp; omega)]
        simp
      · rw [if_neg c2, if_neg (by simpa using c2), spec_ov_l0 hw d (n + 1) k _ (by omega) (by omega) (by omega)]
    · rw [if_neg c1, decide_eq_true (show (w.size : Int) ≤ (i : Int) + 2 * q by omega), if_neg (by simp), spec_ov_l0 hw d (n + 1) k _ (by omega) (by omega) (by omega)]
theorem spec_overlaps_eq {k : Nat} {w : ByteArray} (hw : w.size ≤ 60) (hk : 100000 ≤ k) : spec_l03Overlaps.f k w = some (ovL w) := by
  unfold spec_l03Overlaps.f
  have := spec_l03Powers_eq (k := k) (w := w) (m := 2) hw (by omega) (by omega) hk
  rw [show ((2 : Nat) : Int) = 2 from rfl] at this
  have hl := powL_len (k := 2) hw
  rw [this, Option.bind_some, show (0 : Int) = ((0 : Nat) : Int) from rfl, spec_ov_l0 hw (powL w 2).length 0 k [] (by omega) (by omega) (by simp)]
  rfl

theorem impl_hasPeriod_eq {w : ByteArray} {p : Int} (h0 : 0 ≤ p) (h1 : p ≤ w.size) (hw : w.size ≤ 1048576) : impl_hasPeriod.f w p = some (hasP w p.toNat) := by
  unfold impl_hasPeriod.f
  rw [if_pos h0, if_pos h1, w64 (by omega) (by omega), if_pos (by omega), if_pos (by omega), toList_beq]
  unfold hasP
  rw [show ((w.size : Int) - p).toNat = w.size - p.toNat by omega]

theorem impl_powersIn_eq {k : Nat} {w : ByteArray} {m : Nat} (hw : w.size ≤ 60) (h1 : 1 ≤ m) (h2 : m ≤ 60) (hk : 100000 ≤ k) : impl_powersIn.f k w m = some (powL w m) := by
  have := fold_cost (fun k (s : List (List Int)) i => impl_powersIn.l0 k w m s w.size i) w.size (fun i s => s ++ powR w m i) (fun _ s => some s) (fun i s => s.length ≤ 60 * i) 20000 70
    (fun i s hi hs => by
      have hd : (w.size - i) / m ≤ w.size - i := Nat.div_le_self _ _
      obtain ⟨o1, o2⟩ := div_out (n := w.size - i) (k := m) h1
      refine ⟨(w.size - i) / m + 1, by omega, fun k hk => ?_⟩
      have h := gather_on (fun k (s : List (List Int)) q => impl_powersIn.l1 k w m s i q w.size i) (fun k s => impl_powersIn.l0 k w m s w.size ((i + 1 : Nat) : Int)) ((w.size - i) / m + 1) (powB w m i) (fun q => [(i : Int), (q : Int)]) 20000 100000
        (fun k q acc hk hq ha => by
          have hin := div_in h1 (show q ≤ (w.size - i) / m by omega)
          have hq2 : q ≤ m * q := Nat.le_mul_of_pos_left q h1
          have e1 : (m : Int) * q = ((m * q : Nat) : Int) := by rw [Int.natCast_mul]
          simp only [impl_powersIn.l1]
          rw [e1, w64 (x := ((m * q : Nat) : Int)) (by omega) (by omega), w64 (by omega) (by omega), if_pos (by omega), if_pos (by omega), if_pos (by omega), Int.toNat_natCast, show ((i : Int) + ((m * q : Nat) : Int)).toNat = i + m * q by omega, impl_hasPeriod_eq (by omega) (by rw [ext_size]; omega) (by rw [ext_size]; omega), Int.toNat_natCast, w64 (by omega) (by omega)]
          simp only [Option.bind_some]
          unfold powB
          cases hasP (w.extract i (i + m * q)) q
          · simp
          · simp; omega)
        (fun k acc hk => by
          have e1 : (m : Int) * (((w.size - i) / m + 1 : Nat) : Int) = ((m * ((w.size - i) / m + 1) : Nat) : Int) := by rw [Int.natCast_mul]
          simp only [impl_powersIn.l1]
          rw [e1, w64 (x := ((m * ((w.size - i) / m + 1) : Nat) : Int)) (by omega) (by omega), w64 (by omega) (by omega), if_neg (by omega), w64 (by omega) (by omega)]; rfl)
        ((w.size - i) / m) k 1 s (by omega) hk (by omega)
      simp only [impl_powersIn.l0]
      rw [if_pos (by omega)]
      exact h)
    (fun i s hi hs => by
      have := powR_len w m i
      rw [List.length_append]; omega)
    (fun k s hk hs => by
      simp only [impl_powersIn.l0]
      rw [if_neg (by omega)])
    w.size k 0 [] (by omega) (by have : w.size * (70 + 1) ≤ 60 * 71 := Nat.mul_le_mul hw (by omega); omega) (by simp)
  obtain ⟨_, k', _, _, h4⟩ := this
  unfold impl_powersIn.f
  rw [loopS_append] at h4
  exact h4

theorem pow_ok {w : ByteArray} (hw : w.size ≤ 60) : (powL w 2).all okRow = true := by
  rw [List.all_eq_true]
  intro x hx
  obtain ⟨i, q, h1, h2, h3, rfl⟩ := (powL_mem (by omega)).mp hx
  unfold okRow inR
  rw [rd0, rd1]
  rw [decide_eq_true (show 2 ≤ [(i : Int), (q : Int)].length by simp), decide_eq_true (show (0 : Int) ≤ i by omega), decide_eq_true (show (i : Int) ≤ 1000 by omega), decide_eq_true (show (0 : Int) ≤ q by omega), decide_eq_true (show (q : Int) ≤ 1000 by omega)]; rfl
theorem impl_overlaps_eq {k : Nat} {w : ByteArray} (hw : w.size ≤ 60) (hk : 100000 ≤ k) : impl_overlaps.f k w = some (ovL w) := by
  unfold impl_overlaps.f
  have := impl_powersIn_eq (k := k) (w := w) (m := 2) hw (by omega) (by omega) hk
  rw [show ((2 : Nat) : Int) = 2 from rfl] at this
  have hl := powL_len (k := 2) hw
  rw [this, Option.bind_some, if_pos ⟨by omega, by omega, pow_ok hw⟩]; rfl

theorem mark2 {k : Nat} (hk : 10 ≤ k) (a b m : Int) (h0 : 0 ≤ m) (h1 : m ≤ 1000000000) : laws_markInt64S.f k [a, b] m = some (m + 2, [m, m + 1]) := by
  obtain ⟨k, rfl⟩ : ∃ n, k = n + 3 := ⟨k - 3, by omega⟩
  have e1 : wrap64 ((0 : Int) + 1) = 1 := by unfold wrap64; omega
  have e2 : wrap64 ((1 : Int) + 1) = 2 := by unfold wrap64; omega
  have e3 : wrap64 (m + 1) = m + 1 := w64 (by omega) (by omega)
  have e4 : wrap64 (m + 1 + 1) = m + 2 := by rw [w64 (by omega) (by omega)]; omega
  unfold laws_markInt64S.f
  simp only [laws_markInt64S.l0, List.length_cons, List.length_nil, e1, e2, e3, e4, List.length_set]
  rw [if_pos (by decide), if_pos (by decide), if_pos (by decide), if_pos (by decide), if_neg (by decide)]
  rfl
theorem held2 {k : Nat} (hk : 10 ≤ k) (m : Int) (h0 : 0 ≤ m) (h1 : m ≤ 1000000000) : laws_heldInt64S.f k [m, m + 1] m = some (m + 2) := by
  obtain ⟨k, rfl⟩ : ∃ n, k = n + 3 := ⟨k - 3, by omega⟩
  have e1 : wrap64 ((0 : Int) + 1) = 1 := by unfold wrap64; omega
  have e2 : wrap64 ((1 : Int) + 1) = 2 := by unfold wrap64; omega
  have e3 : wrap64 (m + 1) = m + 1 := w64 (by omega) (by omega)
  have e4 : wrap64 (m + 1 + 1) = m + 2 := by rw [w64 (by omega) (by omega)]; omega
  unfold laws_heldInt64S.f
  simp only [laws_heldInt64S.l0, List.length_cons, List.length_nil, e1, e2, e3, e4, rd0, rd1]
  rw [if_pos (by decide), if_pos (by decide), if_pos trivial, if_pos (by decide), if_pos (by decide), if_pos trivial, if_neg (by decide)]
theorem eq2 {k : Nat} (hk : 10 ≤ k) (a b : Int) : laws_eqInt64S.f k [a, b] [a, b] = some true := by
  obtain ⟨k, rfl⟩ : ∃ n, k = n + 3 := ⟨k - 3, by omega⟩
  have e1 : wrap64 ((0 : Int) + 1) = 1 := by unfold wrap64; omega
  have e2 : wrap64 ((1 : Int) + 1) = 2 := by unfold wrap64; omega
  unfold laws_eqInt64S.f
  simp only [laws_eqInt64S.l0, List.length_cons, List.length_nil, e1, e2, rd0, rd1]
  rw [if_pos trivial, if_pos (by decide), if_pos (by decide), if_pos (by decide), if_pos trivial, if_pos (by decide), if_pos (by decide), if_pos (by decide), if_pos trivial, if_neg (by decide)]
def pairs (L : List (List Int)) : Prop := ∀ x ∈ L, ∃ a b : Int, x = [a, b]
theorem pairs_get {L : List (List Int)} (h : pairs L) {i : Nat} (hi : i < L.length) : ∃ a b : Int, L.getD i [] = [a, b] :=
  h _ (by rw [List.getD_eq_getElem?_getD, List.getElem?_eq_getElem hi]; exact List.getElem_mem hi)
theorem eqSS {L : List (List Int)} (h : pairs L) (hl : L.length ≤ 1000000) : ∀ (d i k : Nat), i + d = L.length → d + 20 < k → laws_eqInt64SS.l0 k L L i = some true
  | 0, i, k, hi, hk => by
    obtain ⟨k, rfl⟩ := rounds_pos (show 0 < k by omega)
    simp only [laws_eqInt64SS.l0]
    rw [if_neg (by omega)]
  | d + 1, i, k, hi, hk => by
    obtain ⟨k, rfl⟩ := rounds_pos (show 0 < k by omega)
    obtain ⟨a, b, hx⟩ := pairs_get h (show i < L.length by omega)
    have hr : rd_L5 L (i : Int) = [a, b] := by rw [← hx]; unfold rd_L5; simp
    simp only [laws_eqInt64SS.l0, hr]
    rw [if_pos (by omega), if_pos (by omega), if_pos (by omega), eq2 (by omega), Option.bind_some, if_pos rfl, w64 (by omega) (by omega)]
    exact eqSS h hl d (i + 1) k (by omega) (by omega)
theorem eqInt64SS_eq {L : List (List Int)} (h : pairs L) (hl : L.length ≤ 1000000) {k : Nat} (hk : L.length + 20 < k) : laws_eqInt64SS.f k L L = some true := by
  unfold laws_eqInt64SS.f
  rw [if_pos rfl]
  exact eqSS h hl L.length 0 k (by omega) hk
def rowsM (n : Nat) : List (List Int) := (List.range n).map fun j : Nat => [1 + 2 * (j : Int), 1 + 2 * (j : Int) + 1]
theorem rowsM_len (n : Nat) : (rowsM n).length = n := by unfold rowsM; simp
theorem rowsM_succ (n : Nat) : rowsM (n + 1) = rowsM n ++ [[1 + 2 * (n : Int), 1 + 2 * (n : Int) + 1]] := by unfold rowsM; rw [List.range_succ, List.map_append]; rfl
theorem rowsM_get {n i : Nat} (h : i < n) : (rowsM n).getD i [] = [1 + 2 * (i : Int), 1 + 2 * (i : Int) + 1] := by
  unfold rowsM; simp [List.getD_eq_getElem?_getD, h]
theorem markSS_eq {k : Nat} (hk : 10 ≤ k) : ∀ (d i : Nat) (L : List (List Int)), i + d = L.length → L.length ≤ 1000000 → (∀ j, i ≤ j → j < L.length → ∃ a b : Int, L.getD j [] = [a, b]) → L.take i = rowsM i → markSS k d i L (1 + 2 * (i : Int)) = some (1 + 2 * ((i + d : Nat) : Int), rowsM (i + d))
  | 0, i, L, hi, hl, h, ht => by
    unfold markSS
    rw [Nat.add_zero, ← ht, List.take_of_length_le (by omega)]
  | d + 1, i, L, hi, hl, h, ht => by
    unfold markSS
    obtain ⟨a, b, hx⟩ := h i (Nat.le_refl _) (by omega)
    rw [hx, mark2 hk a b _ (by omega) (by omega), Option.bind_some]
    have := markSS_eq hk d (i + 1) (L.set i [1 + 2 * (i : Int), 1 + 2 * (i : Int) + 1]) (by rw [List.length_set]; omega) (by rw [List.length_set]; exact hl) (fun j h1 h2 => by
      rw [List.length_set] at h2
      obtain ⟨a, b, hy⟩ := h j (by omega) h2
      refine ⟨a, b, ?_⟩
      rw [List.getD_eq_getElem?_getD, List.getElem?_set_ne (by omega), ← List.getD_eq_getElem?_getD]
      exact hy) (by
      rw [rowsM_succ, ← ht, List.take_set, List.take_succ_eq_append_getElem (by omega), List.set_append_right _ _ (by rw [List.length_take]; omega)]
      simp [List.length_take, Nat.min_eq_left (show i ≤ L.length by omega)])
    rw [show (1 + 2 * (i : Int) + 2) = 1 + 2 * ((i + 1 : Nat) : Int) by omega, this, show i + 1 + d = i + (d + 1) by omega]
theorem markInt64SS_eq {L : List (List Int)} (h : pairs L) (hl : L.length ≤ 1000000) {k : Nat} (hk : 10 ≤ k) : laws_markInt64SS.f k L 1 = some (1 + 2 * (L.length : Int), rowsM L.length) := by
  unfold laws_markInt64SS.f
  rw [if_pos hl]
  have := markSS_eq hk L.length 0 L (by omega) hl (fun j _ h2 => pairs_get h h2) (by simp [rowsM])
  simpa using this
theorem heldSS {n : Nat} (hn : n ≤ 1000000) : ∀ (d i k : Nat), i + d = n → d + 20 < k → laws_heldInt64SS.l0 k (rowsM n) (1 + 2 * (i : Int)) i = some (1 + 2 * (n : Int))
  | 0, i, k, hi, hk => by
    obtain ⟨k, rfl⟩ := rounds_pos (show 0 < k by omega)
    simp only [laws_heldInt64SS.l0]
    rw [rowsM_len, if_neg (by omega), show i = n by omega]
  | d + 1, i, k, hi, hk => by
    obtain ⟨k, rfl⟩ := rounds_pos (show 0 < k by omega)
    have hr : rd_L5 (rowsM n) (i : Int) = [1 + 2 * (i : Int), 1 + 2 * (i : Int) + 1] := by rw [← rowsM_get (show i < n by omega)]; unfold rd_L5; simp
    simp only [laws_heldInt64SS.l0, hr]
    rw [rowsM_len, if_pos (by omega), if_pos (by omega), held2 (by omega) _ (by omega) (by omega), Option.bind_some, if_neg (by omega), w64 (x := (i : Int) + 1) (by omega) (by omega)]
    have := heldSS hn d (i + 1) k (by omega) (by omega)
    rw [show (1 + 2 * (i : Int) + 2) = 1 + 2 * ((i + 1 : Nat) : Int) by omega]
    exact this
theorem heldInt64SS_eq {n : Nat} (hn : n ≤ 1000000) {k : Nat} (hk : n + 20 < k) : laws_heldInt64SS.f k (rowsM n) 1 = some (1 + 2 * (n : Int)) := by
  unfold laws_heldInt64SS.f
  exact heldSS hn n 0 k (by omega) hk
theorem powL_pairs {w : ByteArray} {m : Nat} (h1 : 1 ≤ m) : pairs (powL w m) := fun x hx => by
  obtain ⟨i, q, _, _, _, rfl⟩ := (powL_mem h1).mp hx
  exact ⟨_, _, rfl⟩

def ovlR (a0 : ByteArray) : List (List Int) × Int := if isW a0 = true then (ovL a0, 0) else ([], 1)
theorem ovlR_len (a0 : ByteArray) : (ovlR a0).1.length ≤ 3600 ∧ pairs (ovlR a0).1 := by
  unfold ovlR
  cases hw : isW a0
  · exact ⟨by simp, fun x hx => by simp at hx⟩
  · exact ⟨ovL_len (isW_size hw), fun x hx => powL_pairs (m := 2) (by omega) x (List.mem_filter.mp hx).1⟩
theorem spec_OverlapsIn_eq {m : Nat} (hm : 2000000 ≤ m) {a0 : ByteArray} (h0 : a0.size ≤ 140737488351232) (s0 : a0.size ≤ 1048576) : spec_OverlapsIn.f m a0 = some (ovlR a0) := by
  unfold spec_OverlapsIn.f ovlR
  rw [spec_l01Is_eq h0 (by omega), Option.bind_some]
  cases hw : isW a0
  · rfl
  · rw [if_pos rfl, if_pos rfl, spec_overlaps_eq (isW_size hw) (by omega), Option.bind_some]
theorem impl_OverlapsIn_eq {m : Nat} (hm : 2000000 ≤ m) (a0 : ByteArray) : impl_OverlapsIn.f m a0 = some (ovlR a0) := by
  unfold impl_OverlapsIn.f ovlR
  rw [wordCode_1, Option.bind_some]
  cases hw : isW a0
  · rfl
  · rw [if_pos rfl, if_pos rfl, if_pos rfl, impl_overlaps_eq (isW_size hw) (by omega), Option.bind_some]
theorem FnExactOverlapsIn : laws_FnExactOverlapsIn.Pure := by
  intro a0 h0
  by_cases hs : (a0.size : Int) > 1048576
  · exact .inl hs
  · obtain ⟨K, hK⟩ : ∃ K : Nat, 2000000 ≤ K := ⟨_, Nat.le_refl _⟩
    obtain ⟨hl, hp⟩ := ovlR_len a0
    exact .inr ⟨by omega, K, (ovlR a0).1, rowsM (ovlR a0).1.length, (ovlR a0).2, _, spec_OverlapsIn_eq hK h0 (by omega), impl_OverlapsIn_eq hK a0, eqInt64SS_eq hp (by omega) (by omega), markInt64SS_eq hp (by omega) (by omega), rowsM_len _, heldInt64SS_eq (by omega) (by omega), by omega⟩

end Go.Proofs.Ytmihfmhfgjnfcaa.Pure
