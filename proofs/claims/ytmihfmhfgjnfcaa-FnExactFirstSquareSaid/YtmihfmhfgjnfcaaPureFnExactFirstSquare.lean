/- The plain part of the law FnExactFirstSquare: for every input that the law takes, the printed function of the law answers true once it has rounds enough. Conditions: those that stand in the statement (sizes of strings and slices, kinds of numbers), no other. -/
import Derived.Test.YtmihfmhfgjnfcaaQx8
import Derived.Test.YtmihfmhfgjnfcaaMath
import Derived.Test.YtmihfmhfgjnfcaaMath3
import Derived.Test.YtmihfmhfgjnfcaaMath4
namespace Go.Proofs.Ytmihfmhfgjnfcaa.Pure
open Go.RowKit Go.Proofs.Ytmihfmhfgjnfcaa.Q Go.Proofs.YtmihfmhfgjnfcaaW.PrintWords Go.Proofs.YtmihfmhfgjnfcaaW.PrintLast Go.Proofs.YtmihfmhfgjnfcaaW.PrintMore
set_option linter.unusedVariables false
set_option linter.unusedSimpArgs false

theorem spec_l01Is_eq {k : Nat} {w : ByteArray} (hw : w.size ≤ 140737488351232) (hk : w.size + 1 < k) : spec_l01Is.f k w = some (isW w) := by
  have h := find_gen (fun k i => spec_l01Is.l0 k w i) w.size (fun i => !okB (bt w i)) (fun _ => false) (decide ((w.size : Int) ≤ 60)) 0
    (fun k i _ hi => by
      simp only [spec_l01Is.l0]
      rw [if_pos (by omega), if_pos (by omega)]
      by_cases h1 : bt w i < 97
      · rw [if_pos h1]
        have : okB (bt w i) = false := by unfold okB; simp; omega
        simp [this]
      · rw [if_neg h1]
        by_cases h2 : bt w i > 101
        · rw [if_pos h2]
          have : okB (bt w i) = false := by unfold okB; simp; omega
          simp [this]
        · rw [if_neg h2, w64 (by omega) (by omega)]
          have : okB (bt w i) = true := by unfold okB; simp; omega
          simp [this])
    (fun k _ => by simp only [spec_l01Is.l0]; rw [if_neg (by omega)])
    w.size k 0 (by omega) (by omega)
  unfold spec_l01Is.f
  rw [show (0 : Int) = ((0 : Nat) : Int) from rfl, h]
  congr 1
  unfold isW
  cases hf : findE (fun i => !okB (bt w i)) 0 w.size with
  | some j =>
    obtain ⟨_, h1, h2, _⟩ := findE_some hf
    have : (bytesOf w).all okB = false := by
      rw [Bool.eq_false_iff]
      intro h3
      rw [List.all_eq_true] at h3
      have hj : j < (bytesOf w).length := by rw [bo_len]; omega
      have := h3 _ (List.getElem_mem hj)
      rw [bt_nat, getD_eq _ _ hj, this] at h2
      cases h2
    simp [this]
  | none =>
    have : (bytesOf w).all okB = true := by
      rw [List.all_eq_true]
      intro x hx
      obtain ⟨j, hj, rfl⟩ := List.mem_iff_getElem.mp hx
      have := findE_none.mp hf j (Nat.zero_le _) (by rw [bo_len] at hj; omega)
      rw [bt_nat, getD_eq _ _ hj] at this
      simpa using this
    simp only [this, Bool.and_true, decide_eq_decide]
    omega
theorem spec_not_word {w : ByteArray} (h : w.size > 60) : isW w = false := by unfold isW; simp; omega

theorem wordCode_1 (a : ByteArray) : impl_wordCode.f () [a] = some (if isW a then 0 else 1) := by unfold impl_wordCode.f; simp
theorem wordCode_2 (a b : ByteArray) : impl_wordCode.f () [a, b] = some (if isW a && isW b then 0 else 1) := by unfold impl_wordCode.f; simp

def powB (w : ByteArray) (k i q : Nat) : Bool := hasP (w.extract i (i + k * q)) q
def powR (w : ByteArray) (k i : Nat) : List (List Int) := gath (powB w k i) (fun q => [(i : Int), (q : Int)]) 1 ((w.size - i) / k)
def powL (w : ByteArray) (k : Nat) : List (List Int) := (List.range' 0 w.size).flatMap (powR w k)
theorem powR_len (w : ByteArray) (k i : Nat) : (powR w k i).length ≤ w.size := Nat.le_trans (gath_len _ _ _ _) (Nat.le_trans (Nat.div_le_self _ _) (Nat.sub_le _ _))
theorem powL_len_aux (w : ByteArray) (k : Nat) : ∀ c i, ((List.range' i c).flatMap (powR w k)).length ≤ c * w.size
  | 0, i => by simp
  | c + 1, i => by
    rw [List.range'_succ, List.flatMap_cons, List.length_append, Nat.succ_mul]
    have := powR_len w k i
    have := powL_len_aux w k c (i + 1)
    omega
theorem powL_len {w : ByteArray} {k : Nat} (hw : w.size ≤ 60) : (powL w k).length ≤ 3600 := Nat.le_trans (powL_len_aux w k _ _) (Nat.mul_le_mul hw hw)
theorem div_in {n k q : Nat} (hk : 0 < k) (h : q ≤ n / k) : k * q ≤ n := by rw [Nat.mul_comm]; exact (Nat.le_div_iff_mul_le hk).mp h
theorem div_out {n k : Nat} (hk : 0 < k) : n < k * (n / k + 1) ∧ k * (n / k + 1) ≤ n + k := by
  have h := Nat.div_add_mod n k
  have h2 := Nat.mod_lt n hk
  rw [Nat.mul_add, Nat.mul_one]
  omega
theorem powL_step {w : ByteArray} {m : Nat} (i : Nat) (s : List (List Int)) : (fun (i : Nat) (a : List (List Int)) => a ++ powR w m i) i s = s ++ gath (powB w m i) (fun q => [(i : Int), (q : Int)]) 1 ((w.size - i) / m) := rfl
theorem powL_nil {w : ByteArray} {m : Nat} (h1 : 1 ≤ m) : powL w m = [] ↔ ∀ i q, 1 ≤ q → i + m * q ≤ w.size → powB w m i q = false := by
  unfold powL
  rw [List.flatMap_eq_nil_iff]
  constructor
  · intro h i q hq hi
    have hq2 : q ≤ m * q := Nat.le_mul_of_pos_left q h1
    have := h i (by rw [List.mem_range'_1]; omega)
    refine gath_nil.mp this q hq ?_
    have : q ≤ (w.size - i) / m := (Nat.le_div_iff_mul_le h1).mpr (by rw [Nat.mul_comm]; omega)
    omega
  · intro h i hi
    rw [List.mem_range'_1] at hi
    refine gath_nil.mpr fun q h3 h4 => h i q h3 ?_
    have := div_in h1 (show q ≤ (w.size - i) / m by omega)
    omega

theorem powL_mem {w : ByteArray} {m : Nat} (h1 : 1 ≤ m) {x : List Int} : x ∈ powL w m ↔ ∃ i q : Nat, 1 ≤ q ∧ i + m * q ≤ w.size ∧ powB w m i q = true ∧ x = [(i : Int), (q : Int)] := by
  unfold powL
  rw [List.mem_flatMap]
  constructor
  · rintro ⟨i, hi, hx⟩
    obtain ⟨q, q1, q2, q3, rfl⟩ := gath_mem.mp hx
    rw [List.mem_range'_1] at hi
    have := div_in h1 (show q ≤ (w.size - i) / m by omega)
    exact ⟨i, q, q1, by omega, q3, rfl⟩
  · rintro ⟨i, q, hq, hi, hp, rfl⟩
    have hq2 : q ≤ m * q := Nat.le_mul_of_pos_left q h1
    refine ⟨i, by rw [List.mem_range'_1]; omega, gath_mem.mpr ⟨q, hq, ?_, hp, rfl⟩⟩
    have : q ≤ (w.size - i) / m := (Nat.le_div_iff_mul_le h1).mpr (by rw [Nat.mul_comm]; omega)
    omega
theorem rd0 (a b : Int) : rd [a, b] 0 = a := rfl
theorem rd1 (a b : Int) : rd [a, b] 1 = b := rfl

def sqE (w : ByteArray) (e q : Nat) : Bool := powB w 2 (e - 2 * q) q
def endF (w : ByteArray) : Bool := (findE (sqE w w.size) 1 (w.size / 2)).isNone

theorem spec_l03Power_eq {k : Nat} {w : ByteArray} {i q m : Nat} (hm : 1 ≤ m) (h : i + m * q ≤ w.size) (hw : w.size ≤ 1048576) (hk : w.size + 2 < k) : spec_l03Power.f k w i q m = some (powB w m i q) := by
  have hq : q ≤ m * q := Nat.le_mul_of_pos_left q hm
  have hz : (w.extract i (i + m * q)).size = m * q := by rw [ext_size]; omega
  have e1 : (q : Int) * m = ((m * q : Nat) : Int) := by rw [Int.natCast_mul, Int.mul_comm]
  unfold spec_l03Power.f
  rw [e1, w64 (x := ((m * q : Nat) : Int)) (by omega) (by omega), w64 (by omega) (by omega), if_neg (by omega)]
  have hf := find_from (fun k j => spec_l03Power.l0 k w i q m j) (i + (m * q - q)) i (fun j => !(bt w j == bt w ((j + q : Nat) : Int))) (fun _ => false) true 0
    (fun k j _ hl hj => by
      simp only [spec_l03Power.l0]
      rw [e1, w64 (x := ((m * q : Nat) : Int)) (by omega) (by omega), w64 (x := (i : Int) + _) (by omega) (by omega), w64 (x := (j : Int) + q) (by omega) (by omega), if_pos (by omega), if_pos (by omega), if_pos (by omega), if_pos (by omega), if_pos (by omega), w64 (by omega) (by omega)]
      rw [show (j : Int) + q = ((j + q : Nat) : Int) by omega]
      by_cases h1 : bt w j = bt w ((j + q : Nat) : Int)
      · rw [if_pos h1]; simp [h1]
      · rw [if_neg h1, beq_eq_false_iff_ne.mpr h1]; rfl)
    (fun k _ => by
      simp only [spec_l03Power.l0]
      rw [e1, w64 (x := ((m * q : Nat) : Int)) (by omega) (by omega), w64 (x := (i : Int) + _) (by omega) (by omega), w64 (by omega) (by omega), if_neg (by omega)])
    (m * q - q) k i rfl (Nat.le_refl _) (by omega)
  rw [hf]
  congr 1
  unfold powB
  cases hc : findE (fun j => !(bt w j == bt w ((j + q : Nat) : Int))) i (m * q - q) with
  | none =>
    symm
    rw [hasP_iff (by omega), hz]
    intro j hj
    have := findE_none.mp hc (i + j) (by omega) (by omega)
    rw [ext_bt _ (by omega), ext_bt _ (by omega), show i + (j + q) = i + j + q by omega]
    simpa using this
  | some j =>
    obtain ⟨h1, h2, h3, _⟩ := findE_some hc
    symm
    rw [Bool.eq_false_iff, ne_eq, hasP_iff (by omega), hz]
    intro h4
    have := h4 (j - i) (by omega)
    rw [ext_bt _ (by omega), ext_bt _ (by omega), show i + (j - i + q) = j + q by omega, show i + (j - i) = j by omega] at this
    simp [this] at h3

def firG (w : ByteArray) (e : Nat) (_ : Unit) : (Int × Int × Bool) ⊕ Unit := match findE (sqE w e) 1 (e / 2) with | some q => .inl (((e - 2 * q : Nat) : Int), (q : Int), true) | none => .inr ()
/-- the first square that ends at a place or behind it -/
def firW (w : ByteArray) (a : Nat) : Int × Int × Bool := loopE (firG w) (fun _ => (0, 0, false)) (max a 2) (w.size + 1 - max a 2) ()
theorem mx_nat {a : Nat} : mx (a : Int) 2 = ((max a 2 : Nat) : Int) := by unfold mx; split <;> omega
theorem spec_l03First_eq {k : Nat} {w : ByteArray} {a : Nat} (hw : w.size ≤ 1000) (ha : a ≤ 1000) (hk : 2000000 ≤ k) : spec_l03First.f k w a = some (firW w a) := by
  have hend : ∀ k (e : Nat), w.size < e → spec_l03First.l0 (k + 1) w e = some (0, 0, false) := fun k e he => by
    simp only [spec_l03First.l0]
    rw [if_neg (by omega)]
  unfold spec_l03First.f firW
  rw [mx_nat]
  by_cases hz : w.size + 1 ≤ max a 2
  · obtain ⟨k, rfl⟩ := rounds_pos (show 0 < k by omega)
    rw [hend _ _ (by omega), show w.size + 1 - max a 2 = 0 by omega]; rfl
  · exact loop_cost (fun k (_ : Unit) e => spec_l03First.l0 k w e) (w.size + 1) (firG w) (fun _ => (0, 0, false)) (fun _ _ => True) 2000 1000
      (fun e _ he _ => by
        have hd := Nat.div_add_mod e 2
        have hm := Nat.mod_lt e (show 0 < 2 by omega)
        refine ⟨e / 2 + 1, by omega, fun k hk => ?_⟩
        have h := find_on (fun k q => spec_l03First.l1 k w e q) (fun k => spec_l03First.l0 k w ((e + 1 : Nat) : Int)) (e / 2 + 1) (sqE w e) (fun q => (((e - 2 * q : Nat) : Int), (q : Int), true)) 2000
          (fun k q hk hq => by
            simp only [spec_l03First.l1]
            rw [w64 (x := 2 * (q : Int)) (by omega) (by omega), if_pos (by omega), w64 (x := (e : Int) - 2 * q) (by omega) (by omega), w64 (x := (q : Int) + 1) (by omega) (by omega), show (e : Int) - 2 * q = ((e - 2 * q : Nat) : Int) by omega]
            have := spec_l03Power_eq (k := k) (w := w) (i := e - 2 * q) (q := q) (m := 2) (by omega) (by omega) (by omega) (by omega)
            rw [show ((2 : Nat) : Int) = 2 from rfl] at this
            rw [this, Option.bind_some]
            rfl)
          (fun k hk => by
            simp only [spec_l03First.l1]
            rw [w64 (x := 2 * _) (by omega) (by omega), if_neg (by omega), w64 (by omega) (by omega)]; rfl)
          (e / 2) k 1 (by omega) hk
        simp only [spec_l03First.l0]
        rw [if_pos (by omega), show k + (e / 2 + 1) = k + (e / 2) + 1 by omega]
        rw [show (1 : Int) = ((1 : Nat) : Int) from rfl, h]
        unfold firG
        cases findE (sqE w e) 1 (e / 2) <;> rfl)
      (fun _ _ _ _ _ _ => trivial)
      (fun k _ _ _ => hend k (w.size + 1) (by omega))
      (w.size + 1 - max a 2) k (max a 2) () (by omega) (by
        have : (w.size + 1 - max a 2) * (1000 + 1) ≤ 1001 * 1001 := Nat.mul_le_mul (by omega) (by omega)
        omega) trivial
theorem loopE_unit {α : Type} (g : Nat → Unit → α ⊕ Unit) (d : α) : ∀ (c i : Nat),
    ((∀ m, i ≤ m → m < i + c → g m () = .inr ()) ∧ loopE g (fun _ => d) i c () = d) ∨ ∃ m a, i ≤ m ∧ m < i + c ∧ g m () = .inl a ∧ (∀ j, i ≤ j → j < m → g j () = .inr ()) ∧ loopE g (fun _ => d) i c () = a
  | 0, i => .inl ⟨fun m _ _ => by omega, rfl⟩
  | c + 1, i => by
    simp only [loopE]
    cases hg : g i () with
    | inl a => exact .inr ⟨i, a, Nat.le_refl _, by omega, hg, fun j _ _ => by omega, rfl⟩
    | inr u =>
      rcases loopE_unit g d c (i + 1) with ⟨h1, h2⟩ | ⟨m, a, h1, h2, h3, h4, h5⟩
      · refine .inl ⟨fun m hm1 hm2 => ?_, h2⟩
        by_cases e : m = i
        · subst e; exact hg
        · exact h1 m (by omega) (by omega)
      · refine .inr ⟨m, a, by omega, by omega, h3, fun j hj1 hj2 => ?_, h5⟩
        by_cases e : j = i
        · subst e; exact hg
        · exact h4 j (by omega) hj2
theorem firW_spec (w : ByteArray) (a : Nat) :
    (firW w a = (0, 0, false) ∧ ∀ e q, max a 2 ≤ e → e ≤ w.size → 1 ≤ q → 2 * q ≤ e → sqE w e q = false) ∨
    ∃ e q, max a 2 ≤ e ∧ e ≤ w.size ∧ 1 ≤ q ∧ 2 * q ≤ e ∧ sqE w e q = true ∧ firW w a = (((e - 2 * q : Nat) : Int), (q : Int), true) ∧ (∀ q', 1 ≤ q' → q' < q → sqE w e q' = false) ∧ ∀ e' q', max a 2 ≤ e' → e' < e → 1 ≤ q' → 2 * q' ≤ e' → sqE w e' q' = false := by
  have hno : ∀ e, firG w e () = .inr () → ∀ q, 1 ≤ q → 2 * q ≤ e → sqE w e q = false := fun e h q h1 h2 => by
    unfold firG at h
    cases hf : findE (sqE w e) 1 (e / 2) with
    | some j => rw [hf] at h; cases h
    | none =>
      have hd := Nat.div_add_mod e 2
      have hm := Nat.mod_lt e (show 0 < 2 by omega)
      exact findE_none.mp hf q h1 (by omega)
  rcases loopE_unit (firG w) (0, 0, false) (w.size + 1 - max a 2) (max a 2) with ⟨h1, h2⟩ | ⟨e, r, h1, h2, h3, h4, h5⟩
  · exact .inl ⟨h2, fun e q he1 he2 hq1 hq2 => hno e (h1 e he1 (by omega)) q hq1 hq2⟩
  · have h3' := h3
    unfold firG at h3
    cases hf : findE (sqE w e) 1 (e / 2) with
    | none => rw [hf] at h3; cases h3
    | some q =>
      rw [hf] at h3
      injection h3 with h3
      obtain ⟨f1, f2, f3, f4⟩ := findE_some hf
      have hd := Nat.div_add_mod e 2
      have hm := Nat.mod_lt e (show 0 < 2 by omega)
      refine .inr ⟨e, q, h1, by omega, f1, by omega, f3, ?_, f4, fun e' q' he1 he2 hq1 hq2 => hno e' (h4 e' he1 he2) q' hq1 hq2⟩
      unfold firW
      rw [h5, ← h3]

theorem impl_hasPeriod_eq {w : ByteArray} {p : Int} (h0 : 0 ≤ p) (h1 : p ≤ w.size) (hw : w.size ≤ 1048576) : impl_hasPeriod.f w p = some (hasP w p.toNat) := by
  unfold impl_hasPeriod.f
  rw [if_pos h0, if_pos h1, w64 (by omega) (by omega), if_pos (by omega), if_pos (by omega), toList_beq]
  unfold hasP
  rw [show ((w.size : Int) - p).toNat = w.size - p.toNat by omega]

theorem impl_powersIn_eq {k : Nat} {w : ByteArray} {m : Nat} (hw : w.size ≤ 60) (h1 : 1 ≤ m) (h2 : m ≤ 60) (hk : 100000 ≤ k) : impl_powersIn.f k w m = some (powL w m) := by
  have := fold_cost (fun k (s : List (List Int)) i => impl_powersIn.l0 k w m s w.size i) w.size (fun i s => s ++ powR w m i) (fun _ s => some s) (fun i s => s.length ≤ 60 * i) 20000 70
    (fun i s hi hs => by
      have hd : (w.size - i) / m ≤ w.size - i := Nat.div_le_self _ _
      obtain ⟨o1, o2⟩ := div_out (n := w.size - i) (k := m) h1
      refine ⟨(w.size - i) / m + 1, by omega, fun k hk => ?_⟩
      have h := gather_on (fun k (s : List (List Int)) q => impl_powersIn.l1 k w m s i q w.size i) (fun k s => impl_powersIn.l0 k w m s w.size ((i + 1 : Nat) : Int)) ((w.size - i) / m + 1) (powB w m i) (fun q => [(i : Int), (q : Int)]) 20000 100000
        (fun k q acc hk hq ha => by
          have hin := div_in h1 (show q ≤ (w.size - i) / m by omega)
          have hq2 : q ≤ m * q := Nat.le_mul_of_pos_left q h1
          have e1 : (m : Int) * q = ((m * q : Nat) : Int) := by rw [Int.natCast_mul]
          simp only [impl_powersIn.l1]
          rw [e1, w64 (x := ((m * q : Nat) : Int)) (by omega) (by omega), w64 (by omega) (by omega), if_pos (by omega), if_pos (by omega), if_pos (by omega), Int.toNat_natCast, show ((i : Int) + ((m * q : Nat) : Int)).toNat = i + m * q by omega, impl_hasPeriod_eq (by omega) (by rw [ext_size]; omega) (by rw [ext_size]; omega), Int.toNat_natCast, w64 (by omega) (by omega)]
          simp only [Option.bind_some]
          unfold powB
          cases hasP (w.extract i (i + m * q)) q
          · simp
          · simp; omega)
        (fun k acc hk => by
          have e1 : (m : Int) * (((w.size - i) / m + 1 : Nat) : Int) = ((m * ((w.size - i) / m + 1) : Nat) : Int) := by rw [Int.natCast_mul]
          simp only [impl_powersIn.l1]
          rw [e1, w64 (x := ((m * ((w.size - i) / m + 1) : Nat) : Int)) (by omega) (by omega), w64 (by omega) (by omega), if_neg (by omega), w64 (by omega) (by omega)]; rfl)
        ((w.size - i) / m) k 1 s (by omega) hk (by omega)
      simp only [impl_powersIn.l0]
      rw [if_pos (by omega)]
      exact h)
    (fun i s hi hs => by
      have := powR_len w m i
      rw [List.length_append]; omega)
    (fun k s hk hs => by
      simp only [impl_powersIn.l0]
      rw [if_neg (by omega)])
    w.size k 0 [] (by omega) (by have : w.size * (70 + 1) ≤ 60 * 71 := Nat.mul_le_mul hw (by omega); omega) (by simp)
  obtain ⟨_, k', _, _, h4⟩ := this
  unfold impl_powersIn.f
  rw [loopS_append] at h4
  exact h4

def fsqR (a0 : ByteArray) : Int × Int × Int := if isW a0 = true then (if (firW a0 0).2.2 = true then ((firW a0 0).1, (firW a0 0).2.1, 0) else (0, 0, 4)) else (0, 0, 1)
def cmpI (a b : Int) : Int := if a < b then -1 else if a > b then 1 else 0
theorem cmp_eq (a b : Int) : R.cmp_Compare_int64.f a b = some (cmpI a b) := by
  unfold R.cmp_Compare_int64.f R.cmp_isNaN_int64.f cmpI
  simp only [Option.bind_some, bne_self_eq_false, Bool.false_eq_true, if_false]
  split
  · rfl
  · split <;> rfl
theorem or_eq {k : Nat} (hk : 10 ≤ k) (a b : Int) : R.cmp_Or_int.f k [a, b] = some (if a = 0 then b else a) := by
  obtain ⟨k, rfl⟩ : ∃ m, k = m + 3 := ⟨k - 3, by omega⟩
  unfold R.cmp_Or_int.f
  have e1 : wrap64 ((0 : Int) + 1) = 1 := by unfold wrap64; omega
  have e2 : wrap64 ((1 : Int) + 1) = 2 := by unfold wrap64; omega
  simp only [R.cmp_Or_int.l0, e1, e2, rd0, rd1, List.length_cons, List.length_nil]
  rw [if_pos (by decide), if_pos (by decide), if_pos (by decide)]
  by_cases h : a = 0
  · rw [if_pos h, if_pos h, if_pos (by decide), if_pos (by decide), if_pos (by decide)]
    by_cases h2 : b = 0
    · rw [if_pos h2, if_neg (by decide), h2]
    · rw [if_neg h2]
  · rw [if_neg h, if_neg h]
/-- which of two squares ends first; of two that end at one place, which one is shorter -/
def kLt (i q i' q' : Nat) : Prop := i + 2 * q < i' + 2 * q' ∨ (i + 2 * q = i' + 2 * q' ∧ q < q')
theorem lit_eq {k : Nat} (hk : 10 ≤ k) {i q i' q' : Nat} (h : i + 2 * q ≤ 1000) (h' : i' + 2 * q' ≤ 1000) : ∃ c, R.impl_FirstSquare_lit1.f k [(i : Int), (q : Int)] [(i' : Int), (q' : Int)] = some c ∧ (c < 0 ↔ kLt i q i' q') := by
  unfold R.impl_FirstSquare_lit1.f
  simp only [rd0, rd1]
  rw [if_pos (by simp), if_pos (by simp), if_pos (by simp), if_pos (by simp), w64 (x := 2 * (q : Int)) (by omega) (by omega), w64 (x := 2 * (q' : Int)) (by omega) (by omega), w64 (x := (i : Int) + 2 * q) (by omega) (by omega), w64 (x := (i' : Int) + 2 * q') (by omega) (by omega), cmp_eq, Option.bind_some, cmp_eq, Option.bind_some, or_eq hk, Option.bind_some]
  refine ⟨_, rfl, ?_⟩
  unfold cmpI kLt
  constructor
  · intro h
    split at h <;> split at h <;> omega
  · intro h
    split <;> split <;> omega
theorem minRow_eq {k : Nat} (hk : 10 ≤ k) : ∀ (l : List (List Int)) (b : List Int), (∀ x ∈ b :: l, ∃ i q : Nat, i + 2 * q ≤ 1000 ∧ x = [(i : Int), (q : Int)]) →
    ∃ i q : Nat, minRow k l b = some [(i : Int), (q : Int)] ∧ [(i : Int), (q : Int)] ∈ b :: l ∧ ∀ i' q' : Nat, [(i' : Int), (q' : Int)] ∈ b :: l → ¬ kLt i' q' i q
  | [], b, h => by
    obtain ⟨i, q, h1, rfl⟩ := h b (List.mem_cons_self ..)
    refine ⟨i, q, rfl, List.mem_cons_self .., fun i' q' hm => ?_⟩
    rw [List.mem_singleton] at hm
    simp only [List.cons.injEq, and_true] at hm
    unfold kLt; omega
  | x :: l, b, h => by
    obtain ⟨i, q, h1, hb⟩ := h b (List.mem_cons_self ..)
    obtain ⟨i2, q2, h2, hx⟩ := h x (List.mem_cons_of_mem _ (List.mem_cons_self ..))
    obtain ⟨c, hc1, hc2⟩ := lit_eq hk h2 h1
    unfold minRow
    rw [hb, hx, hc1, Option.bind_some]
    by_cases hneg : c < 0
    · rw [if_pos hneg]
      obtain ⟨i3, q3, e1, e2, e3⟩ := minRow_eq hk l [(i2 : Int), (q2 : Int)] (fun y hy => h y (by rw [hx]; exact List.mem_cons_of_mem _ hy))
      refine ⟨i3, q3, e1, List.mem_cons_of_mem _ e2, fun i' q' hm => ?_⟩
      rcases List.mem_cons.mp hm with hm | hm
      · have := e3 i2 q2 (List.mem_cons_self ..)
        have h5 := hc2.mp hneg
        simp only [List.cons.injEq, and_true] at hm
        unfold kLt at *; omega
      · exact e3 i' q' hm
    · rw [if_neg hneg]
      obtain ⟨i3, q3, e1, e2, e3⟩ := minRow_eq hk l [(i : Int), (q : Int)] (fun y hy => h y (by
        rw [hb]
        rcases List.mem_cons.mp hy with hy | hy
        · rw [hy]; exact List.mem_cons_self ..
        · exact List.mem_cons_of_mem _ (List.mem_cons_of_mem _ hy)))
      refine ⟨i3, q3, e1, ?_, fun i' q' hm => ?_⟩
      · rcases List.mem_cons.mp e2 with e2 | e2
        · rw [e2]; exact List.mem_cons_self ..
        · exact List.mem_cons_of_mem _ (List.mem_cons_of_mem _ e2)
      · rcases List.mem_cons.mp hm with hm | hm
        · exact e3 i' q' (by rw [hm]; exact List.mem_cons_self ..)
        · rcases List.mem_cons.mp hm with hm | hm
          · have h5 : ¬ kLt i2 q2 i q := fun h => hneg (hc2.mpr h)
            have := e3 i q (List.mem_cons_self ..)
            simp only [List.cons.injEq, and_true] at hm
            unfold kLt at *; omega
          · exact e3 i' q' (List.mem_cons_of_mem _ hm)
theorem fsqTail_eq {k : Nat} {w : ByteArray} (hw : w.size ≤ 60) (hk : 10 ≤ k) : fsqTail k (powL w 2) = some (if (firW w 0).2.2 = true then ((firW w 0).1, (firW w 0).2.1, 0) else (0, 0, 4)) := by
  unfold fsqTail
  have hl := powL_len (k := 2) hw
  rcases firW_spec w 0 with ⟨h1, h2⟩ | ⟨e, q, h1, h2, h3, h4, h5, h6, h7, h8⟩
  · have hnil : powL w 2 = [] := by
      rw [List.eq_nil_iff_forall_not_mem]
      intro x hx
      obtain ⟨i, q, hq, hi, hp, rfl⟩ := (powL_mem (by omega)).mp hx
      have := h2 (i + 2 * q) q (by omega) hi hq (by omega)
      unfold sqE at this
      rw [show i + 2 * q - 2 * q = i by omega, hp] at this
      cases this
    rw [hnil, if_pos (show ([] : List (List Int)).length = 0 from rfl), h1]; rfl
  · have hin : [((e - 2 * q : Nat) : Int), (q : Int)] ∈ powL w 2 := (powL_mem (by omega)).mpr ⟨e - 2 * q, q, h3, by omega, h5, rfl⟩
    have h0 : 0 < (powL w 2).length := List.length_pos_of_mem hin
    have hsplit : powL w 2 = (powL w 2).getD 0 [] :: (powL w 2).drop 1 := by
      cases hL : powL w 2 with
      | nil => rw [hL] at h0; simp at h0
      | cons a l => rfl
    obtain ⟨i2, q2, g1, g2, g3⟩ := minRow_eq hk ((powL w 2).drop 1) ((powL w 2).getD 0 []) (fun x hx => by
      rw [← hsplit] at hx
      obtain ⟨i, q, hq, hi, hp, rfl⟩ := (powL_mem (by omega)).mp hx
      exact ⟨i, q, by omega, rfl⟩)
    rw [← hsplit] at g2 g3
    obtain ⟨i4, q4, p1, p2, p3, p4⟩ := (powL_mem (by omega)).mp g2
    simp only [List.cons.injEq, and_true] at p4
    obtain ⟨rfl, rfl⟩ : i2 = i4 ∧ q2 = q4 := by omega
    have g4 := g3 _ _ hin
    have k1 : ¬ i2 + 2 * q2 < e := fun hlt => by
      have := h8 (i2 + 2 * q2) q2 (by omega) hlt p1 (by omega)
      unfold sqE at this
      rw [show i2 + 2 * q2 - 2 * q2 = i2 by omega, p3] at this
      cases this
    have k2 : ¬ (i2 + 2 * q2 = e ∧ q2 < q) := fun ⟨he, hlt⟩ => by
      have := h7 q2 p1 hlt
      unfold sqE at this
      rw [show e - 2 * q2 = i2 by omega, p3] at this
      cases this
    unfold kLt at g4
    have k3 : q2 = q := by omega
    have k4 : i2 = e - 2 * q := by omega
    rw [if_neg (by omega), if_pos (by omega), g1, Option.bind_some, if_pos (by simp), h6, k3, k4]
    rfl

theorem spec_FirstSquare_eq {m : Nat} (hm : 3000000 ≤ m) {a0 : ByteArray} (h0 : a0.size ≤ 140737488351232) (s0 : a0.size ≤ 1048576) : spec_FirstSquare.f m a0 = some (fsqR a0) := by
  unfold spec_FirstSquare.f fsqR
  rw [spec_l01Is_eq h0 (by omega), Option.bind_some]
  cases hw : isW a0
  · rfl
  · have hz := isW_size hw
    have := spec_l03First_eq (k := m) (w := a0) (a := 0) (by omega) (by omega) (by omega)
    rw [show ((0 : Nat) : Int) = 0 from rfl] at this
    rw [if_pos rfl, if_pos rfl, this, Option.bind_some]
    split <;> rfl
theorem impl_FirstSquare_eq {m : Nat} (hm : 3000000 ≤ m) (a0 : ByteArray) : impl_FirstSquare.f m a0 = some (fsqR a0) := by
  unfold impl_FirstSquare.f fsqR
  cases hw : isW a0
  · rfl
  · have hz := isW_size hw
    have := impl_powersIn_eq (k := m) (w := a0) (m := 2) hz (by omega) (by omega) (by omega)
    rw [show ((2 : Nat) : Int) = 2 from rfl] at this
    rw [if_pos rfl, if_pos rfl, this, Option.bind_some, fsqTail_eq hz (by omega)]
theorem FnExactFirstSquare : laws_FnExactFirstSquare.Pure := by
  intro a0 h0
  by_cases hs : (a0.size : Int) > 1048576
  · exact ⟨0, by unfold laws_FnExactFirstSquare.f; rw [if_pos hs]⟩
  · obtain ⟨K, hK⟩ : ∃ K : Nat, 3000000 ≤ K := ⟨_, Nat.le_refl _⟩
    refine ⟨K, ?_⟩
    unfold laws_FnExactFirstSquare.f
    rw [if_neg hs, spec_FirstSquare_eq hK h0 (by omega), impl_FirstSquare_eq hK]
    simp

end Go.Proofs.Ytmihfmhfgjnfcaa.Pure
