/- The plain part of the law FnExactLettersNext: for every input that the law takes, the printed function of the law answers true once it has rounds enough. Conditions: those that stand in the statement (sizes of strings and slices, kinds of numbers), no other. -/
import Derived.Test.YtjnpobaampgakadQx10
import Derived.Test.YtjnpobaampgakadMath
import Derived.Test.YtjnpobaampgakadMath3
import Derived.Test.YtjnpobaampgakadMath4
namespace Go.Proofs.Ytjnpobaampgakad.Pure
open Go.RowKit Go.Proofs.Ytjnpobaampgakad.Q Go.Proofs.YtjnpobaampgakadW.PrintWords Go.Proofs.YtjnpobaampgakadW.PrintLast Go.Proofs.YtjnpobaampgakadW.PrintMore
set_option linter.unusedVariables false
set_option linter.unusedSimpArgs false

theorem spec_l01Is_eq {k : Nat} {w : ByteArray} (hw : w.size ≤ 140737488351232) (hk : w.size + 1 < k) : spec_l01Is.f k w = some (isW w) := by
  have h := find_gen (fun k i => spec_l01Is.l0 k w i) w.size (fun i => !okB (bt w i)) (fun _ => false) (decide ((w.size : Int) ≤ 60)) 0
    (fun k i _ hi => by
      simp only [spec_l01Is.l0]
      rw [if_pos (by omega), if_pos (by omega)]
      by_cases h1 : bt w i < 97
      · rw [if_pos h1]
        have : okB (bt w i) = false := by unfold okB; simp; omega
        simp [this]
      · rw [if_neg h1]
        by_cases h2 : bt w i > 101
        · rw [if_pos h2]
          have : okB (bt w i) = false := by unfold okB; simp; omega
          simp [this]
        · rw [if_neg h2, w64 (by omega) (by omega)]
          have : okB (bt w i) = true := by unfold okB; simp; omega
          simp [this])
    (fun k _ => by simp only [spec_l01Is.l0]; rw [if_neg (by omega)])
    w.size k 0 (by omega) (by omega)
  unfold spec_l01Is.f
  rw [show (0 : Int) = ((0 : Nat) : Int) from rfl, h]
  congr 1
  unfold isW
  cases hf : findE (fun i => !okB (bt w i)) 0 w.size with
  | some j =>
    obtain ⟨_, h1, h2, _⟩ := findE_some hf
    have : (bytesOf w).all okB = false := by
      rw [Bool.eq_false_iff]
      intro h3
      rw [List.all_eq_true] at h3
      have hj : j < (bytesOf w).length := by rw [bo_len]; omega
      have := h3 _ (List.getElem_mem hj)
      rw [bt_nat, getD_eq _ _ hj, this] at h2
      cases h2
    simp [this]
  | none =>
    have : (bytesOf w).all okB = true := by
      rw [List.all_eq_true]
      intro x hx
      obtain ⟨j, hj, rfl⟩ := List.mem_iff_getElem.mp hx
      have := findE_none.mp hf j (Nat.zero_le _) (by rw [bo_len] at hj; omega)
      rw [bt_nat, getD_eq _ _ hj] at this
      simpa using this
    simp only [this, Bool.and_true, decide_eq_decide]
    omega
theorem spec_not_word {w : ByteArray} (h : w.size > 60) : isW w = false := by unfold isW; simp; omega

theorem spec_l01In_eq (n lo hi : Int) : spec_l01In.f n lo hi = some (inR n lo hi) := by
  unfold spec_l01In.f inR
  by_cases h : n ≥ lo
  · rw [if_pos h, decide_eq_true (show lo ≤ n from h)]; simp
  · rw [if_neg h, decide_eq_false (show ¬ lo ≤ n from h)]; simp

def powB (w : ByteArray) (k i q : Nat) : Bool := hasP (w.extract i (i + k * q)) q
def powR (w : ByteArray) (k i : Nat) : List (List Int) := gath (powB w k i) (fun q => [(i : Int), (q : Int)]) 1 ((w.size - i) / k)
def powL (w : ByteArray) (k : Nat) : List (List Int) := (List.range' 0 w.size).flatMap (powR w k)
theorem powR_len (w : ByteArray) (k i : Nat) : (powR w k i).length ≤ w.size := Nat.le_trans (gath_len _ _ _ _) (Nat.le_trans (Nat.div_le_self _ _) (Nat.sub_le _ _))
theorem powL_len_aux (w : ByteArray) (k : Nat) : ∀ c i, ((List.range' i c).flatMap (powR w k)).length ≤ c * w.size
  | 0, i => by simp
  | c + 1, i => by
    rw [List.range'_succ, List.flatMap_cons, List.length_append, Nat.succ_mul]
    have := powR_len w k i
    have := powL_len_aux w k c (i + 1)
    omega
theorem powL_len {w : ByteArray} {k : Nat} (hw : w.size ≤ 60) : (powL w k).length ≤ 3600 := Nat.le_trans (powL_len_aux w k _ _) (Nat.mul_le_mul hw hw)
theorem div_in {n k q : Nat} (hk : 0 < k) (h : q ≤ n / k) : k * q ≤ n := by rw [Nat.mul_comm]; exact (Nat.le_div_iff_mul_le hk).mp h
theorem div_out {n k : Nat} (hk : 0 < k) : n < k * (n / k + 1) ∧ k * (n / k + 1) ≤ n + k := by
  have h := Nat.div_add_mod n k
  have h2 := Nat.mod_lt n hk
  rw [Nat.mul_add, Nat.mul_one]
  omega
theorem powL_step {w : ByteArray} {m : Nat} (i : Nat) (s : List (List Int)) : (fun (i : Nat) (a : List (List Int)) => a ++ powR w m i) i s = s ++ gath (powB w m i) (fun q => [(i : Int), (q : Int)]) 1 ((w.size - i) / m) := rfl
theorem powL_nil {w : ByteArray} {m : Nat} (h1 : 1 ≤ m) : powL w m = [] ↔ ∀ i q, 1 ≤ q → i + m * q ≤ w.size → powB w m i q = false := by
  unfold powL
  rw [List.flatMap_eq_nil_iff]
  constructor
  · intro h i q hq hi
    have hq2 : q ≤ m * q := Nat.le_mul_of_pos_left q h1
    have := h i (by rw [List.mem_range'_1]; omega)
    refine gath_nil.mp this q hq ?_
    have : q ≤ (w.size - i) / m := (Nat.le_div_iff_mul_le h1).mpr (by rw [Nat.mul_comm]; omega)
    omega
  · intro h i hi
    rw [List.mem_range'_1] at hi
    refine gath_nil.mpr fun q h3 h4 => h i q h3 ?_
    have := div_in h1 (show q ≤ (w.size - i) / m by omega)
    omega

def sqfB (w : ByteArray) : Bool := decide (powL w 2 = [])

def sqE (w : ByteArray) (e q : Nat) : Bool := powB w 2 (e - 2 * q) q
def endF (w : ByteArray) : Bool := (findE (sqE w w.size) 1 (w.size / 2)).isNone

theorem spec_l03Power_eq {k : Nat} {w : ByteArray} {i q m : Nat} (hm : 1 ≤ m) (h : i + m * q ≤ w.size) (hw : w.size ≤ 1048576) (hk : w.size + 2 < k) : spec_l03Power.f k w i q m = some (powB w m i q) := by
  have hq : q ≤ m * q := Nat.le_mul_of_pos_left q hm
  have hz : (w.extract i (i + m * q)).size = m * q := by rw [ext_size]; omega
  have e1 : (q : Int) * m = ((m * q : Nat) : Int) := by rw [Int.natCast_mul, Int.mul_comm]
  unfold spec_l03Power.f
  rw [e1, w64 (x := ((m * q : Nat) : Int)) (by omega) (by omega), w64 (by omega) (by omega), if_neg (by omega)]
  have hf := find_from (fun k j => spec_l03Power.l0 k w i q m j) (i + (m * q - q)) i (fun j => !(bt w j == bt w ((j + q : Nat) : Int))) (fun _ => false) true 0
    (fun k j _ hl hj => by
      simp only [spec_l03Power.l0]
      rw [e1, w64 (x := ((m * q : Nat) : Int)) (by omega) (by omega), w64 (x := (i : Int) + _) (by omega) (by omega), w64 (x := (j : Int) + q) (by omega) (by omega), if_pos (by omega), if_pos (by omega), if_pos (by omega), if_pos (by omega), if_pos (by omega), w64 (by omega) (by omega)]
      rw [show (j : Int) + q = ((j + q : Nat) : Int) by omega]
      by_cases h1 : bt w j = bt w ((j + q : Nat) : Int)
      · rw [if_pos h1]; simp [h1]
      · rw [if_neg h1, beq_eq_false_iff_ne.mpr h1]; rfl)
    (fun k _ => by
      simp only [spec_l03Power.l0]
      rw [e1, w64 (x := ((m * q : Nat) : Int)) (by omega) (by omega), w64 (x := (i : Int) + _) (by omega) (by omega), w64 (by omega) (by omega), if_neg (by omega)])
    (m * q - q) k i rfl (Nat.le_refl _) (by omega)
  rw [hf]
  congr 1
  unfold powB
  cases hc : findE (fun j => !(bt w j == bt w ((j + q : Nat) : Int))) i (m * q - q) with
  | none =>
    symm
    rw [hasP_iff (by omega), hz]
    intro j hj
    have := findE_none.mp hc (i + j) (by omega) (by omega)
    rw [ext_bt _ (by omega), ext_bt _ (by omega), show i + (j + q) = i + j + q by omega]
    simpa using this
  | some j =>
    obtain ⟨h1, h2, h3, _⟩ := findE_some hc
    symm
    rw [Bool.eq_false_iff, ne_eq, hasP_iff (by omega), hz]
    intro h4
    have := h4 (j - i) (by omega)
    rw [ext_bt _ (by omega), ext_bt _ (by omega), show i + (j - i + q) = j + q by omega, show i + (j - i) = j by omega] at this
    simp [this] at h3

def firG (w : ByteArray) (e : Nat) (_ : Unit) : (Int × Int × Bool) ⊕ Unit := match findE (sqE w e) 1 (e / 2) with | some q => .inl (((e - 2 * q : Nat) : Int), (q : Int), true) | none => .inr ()
/-- the first square that ends at a place or behind it -/
def firW (w : ByteArray) (a : Nat) : Int × Int × Bool := loopE (firG w) (fun _ => (0, 0, false)) (max a 2) (w.size + 1 - max a 2) ()
theorem mx_nat {a : Nat} : mx (a : Int) 2 = ((max a 2 : Nat) : Int) := by unfold mx; split <;> omega
theorem spec_l03First_eq {k : Nat} {w : ByteArray} {a : Nat} (hw : w.size ≤ 1000) (ha : a ≤ 1000) (hk : 2000000 ≤ k) : spec_l03First.f k w a = some (firW w a) := by
  have hend : ∀ k (e : Nat), w.size < e → spec_l03First.l0 (k + 1) w e = some (0, 0, false) := fun k e he => by
    simp only [spec_l03First.l0]
    rw [if_neg (by omega)]
  unfold spec_l03First.f firW
  rw [mx_nat]
  by_cases hz : w.size + 1 ≤ max a 2
  · obtain ⟨k, rfl⟩ := rounds_pos (show 0 < k by omega)
    rw [hend _ _ (by omega), show w.size + 1 - max a 2 = 0 by omega]; rfl
  · exact loop_cost (fun k (_ : Unit) e => spec_l03First.l0 k w e) (w.size + 1) (firG w) (fun _ => (0, 0, false)) (fun _ _ => True) 2000 1000
      (fun e _ he _ => by
        have hd := Nat.div_add_mod e 2
        have hm := Nat.mod_lt e (show 0 < 2 by omega)
        refine ⟨e / 2 + 1, by omega, fun k hk => ?_⟩
        have h := find_on (fun k q => spec_l03First.l1 k w e q) (fun k => spec_l03First.l0 k w ((e + 1 : Nat) : Int)) (e / 2 + 1) (sqE w e) (fun q => (((e - 2 * q : Nat) : Int), (q : Int), true)) 2000
          (fun k q hk hq => by
            simp only [spec_l03First.l1]
            rw [w64 (x := 2 * (q : Int)) (by omega) (by omega), if_pos (by omega), w64 (x := (e : Int) - 2 * q) (by omega) (by omega), w64 (x := (q : Int) + 1) (by omega) (by omega), show (e : Int) - 2 * q = ((e - 2 * q : Nat) : Int) by omega]
            have := spec_l03Power_eq (k := k) (w := w) (i := e - 2 * q) (q := q) (m := 2) (by omega) (by omega) (by omega) (by omega)
            rw [show ((2 : Nat) : Int) = 2 from rfl] at this
            rw [this, Option.bind_some]
            rfl)
          (fun k hk => by
            simp only [spec_l03First.l1]
            rw [w64 (x := 2 * _) (by omega) (by omega), if_neg (by omega), w64 (by omega) (by omega)]; rfl)
          (e / 2) k 1 (by omega) hk
        simp only [spec_l03First.l0]
        rw [if_pos (by omega), show k + (e / 2 + 1) = k + (e / 2) + 1 by omega]
        rw [show (1 : Int) = ((1 : Nat) : Int) from rfl, h]
        unfold firG
        cases findE (sqE w e) 1 (e / 2) <;> rfl)
      (fun _ _ _ _ _ _ => trivial)
      (fun k _ _ _ => hend k (w.size + 1) (by omega))
      (w.size + 1 - max a 2) k (max a 2) () (by omega) (by
        have : (w.size + 1 - max a 2) * (1000 + 1) ≤ 1001 * 1001 := Nat.mul_le_mul (by omega) (by omega)
        omega) trivial
theorem loopE_unit {α : Type} (g : Nat → Unit → α ⊕ Unit) (d : α) : ∀ (c i : Nat),
    ((∀ m, i ≤ m → m < i + c → g m () = .inr ()) ∧ loopE g (fun _ => d) i c () = d) ∨ ∃ m a, i ≤ m ∧ m < i + c ∧ g m () = .inl a ∧ (∀ j, i ≤ j → j < m → g j () = .inr ()) ∧ loopE g (fun _ => d) i c () = a
  | 0, i => .inl ⟨fun m _ _ => by omega, rfl⟩
  | c + 1, i => by
    simp only [loopE]
    cases hg : g i () with
    | inl a => exact .inr ⟨i, a, Nat.le_refl _, by omega, hg, fun j _ _ => by omega, rfl⟩
    | inr u =>
      rcases loopE_unit g d c (i + 1) with ⟨h1, h2⟩ | ⟨m, a, h1, h2, h3, h4, h5⟩
      · refine .inl ⟨fun m hm1 hm2 => ?_, h2⟩
        by_cases e : m = i
        · subst e; exact hg
        · exact h1 m (by omega) (by omega)
      · refine .inr ⟨m, a, by omega, by omega, h3, fun j hj1 hj2 => ?_, h5⟩
        by_cases e : j = i
        · subst e; exact hg
        · exact h4 j (by omega) hj2
theorem firW_spec (w : ByteArray) (a : Nat) :
    (firW w a = (0, 0, false) ∧ ∀ e q, max a 2 ≤ e → e ≤ w.size → 1 ≤ q → 2 * q ≤ e → sqE w e q = false) ∨
    ∃ e q, max a 2 ≤ e ∧ e ≤ w.size ∧ 1 ≤ q ∧ 2 * q ≤ e ∧ sqE w e q = true ∧ firW w a = (((e - 2 * q : Nat) : Int), (q : Int), true) ∧ (∀ q', 1 ≤ q' → q' < q → sqE w e q' = false) ∧ ∀ e' q', max a 2 ≤ e' → e' < e → 1 ≤ q' → 2 * q' ≤ e' → sqE w e' q' = false := by
  have hno : ∀ e, firG w e () = .inr () → ∀ q, 1 ≤ q → 2 * q ≤ e → sqE w e q = false := fun e h q h1 h2 => by
    unfold firG at h
    cases hf : findE (sqE w e) 1 (e / 2) with
    | some j => rw [hf] at h; cases h
    | none =>
      have hd := Nat.div_add_mod e 2
      have hm := Nat.mod_lt e (show 0 < 2 by omega)
      exact findE_none.mp hf q h1 (by omega)
  rcases loopE_unit (firG w) (0, 0, false) (w.size + 1 - max a 2) (max a 2) with ⟨h1, h2⟩ | ⟨e, r, h1, h2, h3, h4, h5⟩
  · exact .inl ⟨h2, fun e q he1 he2 hq1 hq2 => hno e (h1 e he1 (by omega)) q hq1 hq2⟩
  · have h3' := h3
    unfold firG at h3
    cases hf : findE (sqE w e) 1 (e / 2) with
    | none => rw [hf] at h3; cases h3
    | some q =>
      rw [hf] at h3
      injection h3 with h3
      obtain ⟨f1, f2, f3, f4⟩ := findE_some hf
      have hd := Nat.div_add_mod e 2
      have hm := Nat.mod_lt e (show 0 < 2 by omega)
      refine .inr ⟨e, q, h1, by omega, f1, by omega, f3, ?_, f4, fun e' q' he1 he2 hq1 hq2 => hno e' (h4 e' he1 he2) q' hq1 hq2⟩
      unfold firW
      rw [h5, ← h3]

theorem first_free {w : ByteArray} : (!(firW w 0).2.2) = sqfB w := by
  unfold sqfB
  rcases firW_spec w 0 with ⟨h1, h2⟩ | ⟨e, q, h1, h2, h3, h4, h5, h6, _⟩
  · rw [h1, Bool.not_false]
    symm
    rw [decide_eq_true_iff, powL_nil (by omega)]
    intro i q hq hi
    have := h2 (i + 2 * q) q (by omega) hi hq (by omega)
    unfold sqE at this
    rw [show i + 2 * q - 2 * q = i by omega] at this
    exact this
  · rw [h6, Bool.not_true]
    symm
    rw [decide_eq_false_iff_not, powL_nil (by omega)]
    intro h
    have := h (e - 2 * q) q h3 (by omega)
    unfold sqE at h5
    rw [this] at h5; cases h5

theorem firW_ends {w : ByteArray} : (firW w w.size).2.2 = !endF w := by
  have hd := Nat.div_add_mod w.size 2
  have hm := Nat.mod_lt w.size (show 0 < 2 by omega)
  rcases firW_spec w w.size with ⟨h1, h2⟩ | ⟨e, q, h1, h2, h3, h4, h5, h6, _⟩
  · rw [h1]
    have : endF w = true := by
      unfold endF
      rw [Option.isNone_iff_eq_none, findE_none]
      intro q hq1 hq2
      exact h2 w.size q (by omega) (Nat.le_refl _) hq1 (by omega)
    rw [this]; rfl
  · rw [h6]
    have : endF w = false := by
      unfold endF
      obtain rfl : e = w.size := by omega
      cases hf : findE (sqE w w.size) 1 (w.size / 2) with
      | some j => rfl
      | none => rw [findE_none.mp hf q h3 (by omega)] at h5; cases h5
    rw [this]; rfl

theorem impl_hasPeriod_eq {w : ByteArray} {p : Int} (h0 : 0 ≤ p) (h1 : p ≤ w.size) (hw : w.size ≤ 1048576) : impl_hasPeriod.f w p = some (hasP w p.toNat) := by
  unfold impl_hasPeriod.f
  rw [if_pos h0, if_pos h1, w64 (by omega) (by omega), if_pos (by omega), if_pos (by omega), toList_beq]
  unfold hasP
  rw [show ((w.size : Int) - p).toNat = w.size - p.toNat by omega]

theorem impl_powersIn_eq {k : Nat} {w : ByteArray} {m : Nat} (hw : w.size ≤ 60) (h1 : 1 ≤ m) (h2 : m ≤ 60) (hk : 100000 ≤ k) : impl_powersIn.f k w m = some (powL w m) := by
  have := fold_cost (fun k (s : List (List Int)) i => impl_powersIn.l0 k w m s w.size i) w.size (fun i s => s ++ powR w m i) (fun _ s => some s) (fun i s => s.length ≤ 60 * i) 20000 70
    (fun i s hi hs => by
      have hd : (w.size - i) / m ≤ w.size - i := Nat.div_le_self _ _
      obtain ⟨o1, o2⟩ := div_out (n := w.size - i) (k := m) h1
      refine ⟨(w.size - i) / m + 1, by omega, fun k hk => ?_⟩
      have h := gather_on (fun k (s : List (List Int)) q => impl_powersIn.l1 k w m s i q w.size i) (fun k s => impl_powersIn.l0 k w m s w.size ((i + 1 : Nat) : Int)) ((w.size - i) / m + 1) (powB w m i) (fun q => [(i : Int), (q : Int)]) 20000 100000
        (fun k q acc hk hq ha => by
          have hin := div_in h1 (show q ≤ (w.size - i) / m by omega)
          have hq2 : q ≤ m * q := Nat.le_mul_of_pos_left q h1
          have e1 : (m : Int) * q = ((m * q : Nat) : Int) := by rw [Int.natCast_mul]
          simp only [impl_powersIn.l1]
          rw [e1, w64 (x := ((m * q : Nat) : Int)) (by omega) (by omega), w64 (by omega) (by omega), if_pos (by omega), if_pos (by omega), if_pos (by omega), Int.toNat_natCast, show ((i : Int) + ((m * q : Nat) : Int)).toNat = i + m * q by omega, impl_hasPeriod_eq (by omega) (by rw [ext_size]; omega) (by rw [ext_size]; omega), Int.toNat_natCast, w64 (by omega) (by omega)]
          simp only [Option.bind_some]
          unfold powB
          cases hasP (w.extract i (i + m * q)) q
          · simp
          · simp; omega)
        (fun k acc hk => by
          have e1 : (m : Int) * (((w.size - i) / m + 1 : Nat) : Int) = ((m * ((w.size - i) / m + 1) : Nat) : Int) := by rw [Int.natCast_mul]
          simp only [impl_powersIn.l1]
          rw [e1, w64 (x := ((m * ((w.size - i) / m + 1) : Nat) : Int)) (by omega) (by omega), w64 (by omega) (by omega), if_neg (by omega), w64 (by omega) (by omega)]; rfl)
        ((w.size - i) / m) k 1 s (by omega) hk (by omega)
      simp only [impl_powersIn.l0]
      rw [if_pos (by omega)]
      exact h)
    (fun i s hi hs => by
      have := powR_len w m i
      rw [List.length_append]; omega)
    (fun k s hk hs => by
      simp only [impl_powersIn.l0]
      rw [if_neg (by omega)])
    w.size k 0 [] (by omega) (by have : w.size * (70 + 1) ≤ 60 * 71 := Nat.mul_le_mul hw (by omega); omega) (by simp)
  obtain ⟨_, k', _, _, h4⟩ := this
  unfold impl_powersIn.f
  rw [loopS_append] at h4
  exact h4

theorem impl_isSquareFree_eq {k : Nat} {w : ByteArray} (hw : w.size ≤ 60) (hk : 100000 ≤ k) : impl_isSquareFree.f k w = some (sqfB w) := by
  unfold impl_isSquareFree.f sqfB
  have := impl_powersIn_eq (k := k) (w := w) (m := 2) hw (by omega) (by omega) hk
  rw [show ((2 : Nat) : Int) = 2 from rfl] at this
  rw [this, Option.bind_some]
  cases powL w 2 <;> simp
  omega

theorem impl_endsFree_eq {k : Nat} {w : ByteArray} (hw : w.size ≤ 1000) (hk : 5000 ≤ k) : impl_endsFree.f k w = some (endF w) := by
  have hd := Nat.div_add_mod w.size 2
  have hm := Nat.mod_lt w.size (show 0 < 2 by omega)
  have h := find_gen (fun k i => impl_endsFree.l0 k w i) (w.size / 2 + 1) (sqE w w.size) (fun _ => false) true 0
    (fun k q _ hq => by
      simp only [impl_endsFree.l0]
      rw [w64 (x := 2 * (q : Int)) (by omega) (by omega), if_pos (by omega), w64 (x := (w.size : Int) - 2 * q) (by omega) (by omega), if_pos (by omega), if_pos (by omega), w64 (by omega) (by omega)]
      rw [show ((w.size : Int) - 2 * (q : Int)).toNat = w.size - 2 * q by omega]
      rw [impl_hasPeriod_eq (by omega) (by rw [ext_size]; omega) (by rw [ext_size]; omega), Int.toNat_natCast, Option.bind_some]
      have e : hasP (w.extract (w.size - 2 * q) w.size) q = sqE w w.size q := by
        unfold sqE powB
        rw [show w.size - 2 * q + 2 * q = w.size by omega]
      rw [e]
      cases sqE w w.size q <;> simp)
    (fun k _ => by simp only [impl_endsFree.l0]; rw [w64 (by omega) (by omega), if_neg (by omega)])
    (w.size / 2) k 1 (by omega) (by omega)
  unfold impl_endsFree.f endF
  rw [show (1 : Int) = ((1 : Nat) : Int) from rfl, h]
  cases findE (sqE w w.size) 1 (w.size / 2) <;> rfl

def letW (n : Nat) : ByteArray := strOfNums [97 + (n : Int)]
theorem letW_size (n : Nat) : (letW n).size = 1 := by unfold letW; rw [sn_len]; rfl
theorem app_size (a b : ByteArray) : (a ++ b).size = a.size + b.size := by rw [← bo_len, bo_append, List.length_append, bo_len, bo_len]
theorem spec_l01Letter_eq {n : Nat} (h : n ≤ 100) : spec_l01Letter.f n = some (letW n) := by
  unfold spec_l01Letter.f letW
  rw [w64 (by omega) (by omega), Int.emod_eq_of_lt (by omega) (by omega)]
theorem impl_letter_eq {n : Nat} (h : n ≤ 100) : impl_letter.f n = some (letW n) := by
  unfold impl_letter.f letW
  rw [w64 (by omega) (by omega), Int.emod_eq_of_lt (by omega) (by omega)]
def nxtL (w : ByteArray) (m : Nat) : List Int := if w.size < 60 then gath (fun n => endF (w ++ letW n)) (fun n => (n : Int)) 0 m else []
theorem nxtL_len (w : ByteArray) (m : Nat) : (nxtL w m).length ≤ m := by unfold nxtL; split; exact gath_len _ _ _ _; simp
theorem spec_next_l0 {w : ByteArray} (hz : w.size < 60) {m : Nat} (hm : m ≤ 5) : ∀ (d n k : Nat) (acc : List Int), n + d = m → 2 * d + 3000000 < k → acc.length ≤ n →
    spec_LettersNext.l0 k w m acc n = some (acc ++ gath (fun n => endF (w ++ letW n)) (fun n => (n : Int)) n d, 0)
  | 0, n, k, acc, hn, hk, ha => by
    obtain ⟨k, rfl⟩ := rounds_pos (show 0 < k by omega)
    obtain ⟨k, rfl⟩ := rounds_pos (show 0 < k by omega)
    simp only [spec_LettersNext.l0, spec_LettersNext.j1]
    rw [if_neg (by omega), if_neg (by decide)]
    simp [gath]
  | d + 1, n, k, acc, hn, hk, ha => by
    obtain ⟨k, rfl⟩ := rounds_pos (show 0 < k by omega)
    obtain ⟨k, rfl⟩ := rounds_pos (show 0 < k by omega)
    have hs := letW_size n
    have hs2 : (w ++ letW n).size = w.size + 1 := by rw [app_size, hs]
    simp only [spec_LettersNext.l0, spec_LettersNext.j1]
    rw [if_pos (by omega), decide_eq_true (show (w.size : Int) < 60 by omega), if_pos rfl, spec_l01Letter_eq (by omega), Option.bind_some, if_pos (by omega)]
    have := spec_l03First_eq (k := k) (w := w ++ letW n) (a := (w ++ letW n).size) (by omega) (by omega) (by omega)
    rw [show (((w ++ letW n).size : Nat) : Int) = (w.size : Int) + ((letW n).size : Int) by rw [hs2, hs]; omega] at this
    rw [this, Option.bind_some, firW_ends, w64 (by omega) (by omega), gath_succ]
    cases he : endF (w ++ letW n) with
    | true =>
      rw [if_neg (by decide), if_pos (by omega), show (n : Int) + 1 = ((n + 1 : Nat) : Int) by omega, spec_next_l0 hz hm d (n + 1) k _ (by omega) (by omega) (by simp; omega)]
      simp
    | false =>
      rw [Bool.not_false, if_pos rfl, show (n : Int) + 1 = ((n + 1 : Nat) : Int) by omega, spec_next_l0 hz hm d (n + 1) k _ (by omega) (by omega) (by omega)]
      simp
theorem nextN_eq {w : ByteArray} (hw : w.size ≤ 60) {k : Nat} (hk : 5000 ≤ k) : ∀ (d n : Nat) (acc : List Int), n + d ≤ 5 → nextN k w d n acc = some (acc ++ (if w.size < 60 then gath (fun n => endF (w ++ letW n)) (fun n => (n : Int)) n d else []))
  | 0, n, acc, hn => by simp [nextN, gath]
  | d + 1, n, acc, hn => by
    have hs := letW_size n
    have hs2 : (w ++ letW n).size = w.size + 1 := by rw [app_size, hs]
    simp only [nextN]
    by_cases hz : w.size < 60
    · rw [if_pos hz, if_pos hz, impl_letter_eq (by omega), Option.bind_some, impl_endsFree_eq (by omega) hk, Option.bind_some, nextN_eq hw hk d (n + 1) _ (by omega), if_pos hz, gath_succ]
      cases endF (w ++ letW n) <;> simp
    · rw [if_neg hz, if_neg hz, nextN_eq hw hk d (n + 1) _ (by omega), if_neg hz]
theorem spec_Next_eq {k : Nat} {w : ByteArray} {m : Int} (hw : isW w = true) (hm : inR m 1 5 = true) (hf : sqfB w = true) (hk : 4000000 ≤ k) : spec_LettersNext.l0 k w m [] 0 = some (nxtL w m.toNat, 0) := by
  have hz := isW_size hw
  obtain ⟨m1, m2⟩ := inR_true hm
  obtain ⟨m, rfl⟩ := Int.eq_ofNat_of_zero_le (show 0 ≤ m by omega)
  rw [Int.toNat_natCast]
  unfold nxtL
  by_cases h : w.size < 60
  · rw [if_pos h, show (0 : Int) = ((0 : Nat) : Int) from rfl, spec_next_l0 h (by omega) m 0 k [] (by omega) (by omega) (by simp)]
    simp
  · obtain ⟨k, rfl⟩ := rounds_pos (show 0 < k by omega)
    obtain ⟨k, rfl⟩ := rounds_pos (show 0 < k by omega)
    simp only [spec_LettersNext.l0, spec_LettersNext.j1]
    rw [if_pos (by omega), decide_eq_false (by omega), if_neg h]; rfl

theorem eqInt64S_eq {k : Nat} {a b : List Int} (ha : a.length ≤ 1048576) (hk : a.length < k) : laws_eqInt64S.f k a b = some (decide (a = b)) := by
  unfold laws_eqInt64S.f
  by_cases hl : a.length = b.length
  · rw [if_pos (by omega)]
    have h := find_gen (fun k i => laws_eqInt64S.l0 k a b i) a.length (fun i => !(rd a i == rd b i)) (fun _ => false) true 0
      (fun k i _ hi => by
        simp only [laws_eqInt64S.l0]
        rw [if_pos (by omega), if_pos (by omega), if_pos (by omega), w64 (by omega) (by omega)]
        by_cases h1 : rd a i = rd b i
        · rw [if_pos h1]; simp [h1]
        · rw [if_neg h1]; simp [h1])
      (fun k _ => by simp only [laws_eqInt64S.l0]; rw [if_neg (by omega)])
      a.length k 0 (by omega) (by omega)
    rw [show (0 : Int) = ((0 : Nat) : Int) from rfl, h]
    have rdn : ∀ (l : List Int) (i : Nat) (hi : i < l.length), rd l i = l[i] := fun l i hi => by unfold rd; simp [List.getD_eq_getElem?_getD, hi]
    cases hf : findE (fun i => !(rd a i == rd b i)) 0 a.length with
    | none =>
      have : a = b := List.ext_getElem hl fun i h1 h2 => by
        have := findE_none.mp hf i (Nat.zero_le _) (by omega)
        rw [rdn a i h1, rdn b i h2] at this
        simpa using this
      simp [this]
    | some j =>
      obtain ⟨_, h2, h3, _⟩ := findE_some hf
      have : a ≠ b := by rintro rfl; simp at h3
      simp [this]
  · rw [if_neg (by omega)]
    have : a ≠ b := fun e => hl (by rw [e])
    simp [this]

def marks (n : Nat) : List Int := (List.range n).map fun i : Nat => 1 + (i : Int)
theorem marks_succ (n : Nat) : marks (n + 1) = marks n ++ [1 + (n : Int)] := by unfold marks; rw [List.range_succ, List.map_append]; rfl
theorem marks_len (n : Nat) : (marks n).length = n := by unfold marks; simp
theorem markInt64S_l0 : ∀ (d i k : Nat) (x : List Int), x.length = i + d → x.length ≤ 1048576 → d < k → x.take i = marks i → laws_markInt64S.l0 k x (1 + (i : Int)) i = some (1 + ((i + d : Nat) : Int), marks (i + d))
  | 0, i, k, x, hx, hb, hk, ht => by
    obtain ⟨k, rfl⟩ := rounds_pos (show 0 < k by omega)
    simp only [laws_markInt64S.l0]
    have e : x = marks i := by rw [← ht, List.take_of_length_le (by omega)]
    rw [if_neg (by omega), e]
    simp
  | d + 1, i, k, x, hx, hb, hk, ht => by
    obtain ⟨k, rfl⟩ := rounds_pos (show 0 < k by omega)
    simp only [laws_markInt64S.l0]
    rw [if_pos (by omega), if_pos (by omega), w64 (by omega) (by omega), w64 (by omega) (by omega), Int.toNat_natCast]
    have := markInt64S_l0 d (i + 1) k (x.set i (1 + (i : Int))) (by rw [List.length_set]; omega) (by rw [List.length_set]; exact hb) (by omega) (by
      rw [marks_succ, ← ht, List.take_set, List.take_succ_eq_append_getElem (by omega)]
      rw [List.set_append_right _ _ (by rw [List.length_take]; omega)]
      simp [List.length_take, Nat.min_eq_left (show i ≤ x.length by omega)])
    rw [show (1 + (i : Int) + 1) = 1 + ((i + 1 : Nat) : Int) by omega, show ((i : Int) + 1) = ((i + 1 : Nat) : Int) by omega, this]
    rw [show i + 1 + d = i + (d + 1) by omega]
theorem markInt64S_eq {k : Nat} {l : List Int} (hl : l.length ≤ 1048576) (hk : l.length < k) : laws_markInt64S.f k l 1 = some (1 + (l.length : Int), marks l.length) := by
  have := markInt64S_l0 l.length 0 k l (by omega) hl hk (by simp [marks])
  unfold laws_markInt64S.f
  simpa using this
theorem heldInt64S_eq {k n : Nat} (hn : n ≤ 1048576) (hk : n < k) : laws_heldInt64S.f k (marks n) 1 = some (1 + (n : Int)) := by
  have hl := marks_len n
  have h : ∀ (d i k : Nat), i + d = n → d < k → laws_heldInt64S.l0 k (marks n) (1 + (i : Int)) i = some (1 + (n : Int)) := by
    intro d
    induction d with
    | zero =>
      intro i k hi hk
      obtain ⟨k, rfl⟩ := rounds_pos (show 0 < k by omega)
      simp only [laws_heldInt64S.l0]
      rw [if_neg (by omega), show i = n by omega]
    | succ d ih =>
      intro i k hi hk
      obtain ⟨k, rfl⟩ := rounds_pos (show 0 < k by omega)
      simp only [laws_heldInt64S.l0]
      have hr : rd (marks n) i = 1 + (i : Int) := by unfold rd marks; simp [List.getD_eq_getElem?_getD, show i < n by omega]
      rw [if_pos (by omega), if_pos (by omega), if_pos hr, w64 (by omega) (by omega), w64 (by omega) (by omega)]
      rw [show (1 + (i : Int) + 1) = 1 + ((i + 1 : Nat) : Int) by omega]
      exact ih (i + 1) k (by omega) (by omega)
  have := h n 0 k (by omega) hk
  unfold laws_heldInt64S.f
  simpa using this

theorem FnExactLettersNext : laws_FnExactLettersNext.Pure := by
  intro a0 a1 h0 _
  by_cases hs : (a0.size : Int) > 1048576
  · exact ⟨0, by unfold laws_FnExactLettersNext.f; rw [if_pos hs]⟩
  · obtain ⟨K, hK⟩ : ∃ K : Nat, 10000000 ≤ K := ⟨_, Nat.le_refl _⟩
    refine ⟨K + 1 + 1, ?_⟩
    obtain ⟨r, hr⟩ : ∃ r, r = (if isW a0 then (if inR a1 1 5 then (if sqfB a0 then (nxtL a0 a1.toNat, (0 : Int)) else ([], 4)) else ([], 2)) else ([], 1)) := ⟨_, rfl⟩
    have hl : r.1.length ≤ 100000 := by
      rw [hr]
      cases hw : isW a0
      · simp
      · cases hk : inR a1 1 5
        · simp
        · obtain ⟨m1, m2⟩ := inR_true hk
          have := nxtL_len a0 a1.toNat
          cases sqfB a0
          · simp
          · simp only [if_true]; omega
    have e1 : ∀ m, 10000000 ≤ m → spec_LettersNext.f m a0 a1 = some r := fun m hm => by
      rw [hr]; unfold spec_LettersNext.f
      rw [spec_l01Is_eq h0 (by omega), spec_l01In_eq]
      cases hw : isW a0
      · simp
      · have hz := isW_size hw
        cases hk : inR a1 1 5
        · simp
        · have hf := spec_l03First_eq (k := m) (w := a0) (a := 0) (by omega) (by omega) (by omega)
          rw [show ((0 : Nat) : Int) = 0 from rfl] at hf
          have ff := first_free (w := a0)
          simp only [Option.bind_some, if_true]
          rw [hf, Option.bind_some]
          cases hq : sqfB a0
          · rw [hq] at ff
            have : (firW a0 0).2.2 = true := by simpa using ff
            rw [this]; simp
          · rw [hq] at ff
            have : (firW a0 0).2.2 = false := by simpa using ff
            rw [this, if_neg (by decide), spec_Next_eq hw hk hq (by omega)]; simp
    have e2 : ∀ m, 10000000 ≤ m → impl_LettersNext.f m a0 a1 = some r := fun m hm => by
      rw [hr]; unfold impl_LettersNext.f
      cases hw : isW a0
      · simp
      · have hz := isW_size hw
        cases hk : inR a1 1 5
        · simp
        · obtain ⟨m1, m2⟩ := inR_true hk
          simp only [if_true]
          rw [impl_isSquareFree_eq hz (by omega), Option.bind_some]
          cases hq : sqfB a0
          · simp
          · rw [if_pos rfl, nextN_eq hz (by omega) _ _ _ (by omega), Option.bind_some]; simp [nxtL]
    unfold laws_FnExactLettersNext.f
    rw [if_neg hs, e1 _ (by omega), e2 _ (by omega)]
    simp only [Option.bind_some]
    rw [eqInt64S_eq (by omega) (by omega)]
    simp only [Option.bind_some, decide_true, if_true, bne_self_eq_false, laws_FnExactLettersNext.j0, Bool.false_eq_true, if_false]
    rw [markInt64S_eq (by omega) (by omega)]
    simp only [Option.bind_some]
    rw [heldInt64S_eq (by omega) (by omega)]
    simp only [Option.bind_some]
    rw [if_neg (by omega), if_pos trivial, e2 _ (by omega)]
    simp only [Option.bind_some]
    rw [eqInt64S_eq (by omega) (by omega)]
    simp only [Option.bind_some, decide_true, if_true, bne_self_eq_false, laws_FnExactLettersNext.j1, Bool.false_eq_true, if_false]
    rw [heldInt64S_eq (by omega) (by omega)]
    simp only [Option.bind_some]
    rw [if_neg (by omega), if_pos trivial]

end Go.Proofs.Ytjnpobaampgakad.Pure
