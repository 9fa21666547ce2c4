/- The plain part of the law FnExactBordersOf: for every input that the law takes, the printed function of the law answers true once it has rounds enough. Conditions: those that stand in the statement (sizes of strings and slices, kinds of numbers), no other. -/
import Derived.Test.YtjnpobaampgakadQx3
import Derived.Test.YtjnpobaampgakadMath
import Derived.Test.YtjnpobaampgakadMath3
import Derived.Test.YtjnpobaampgakadMath4
namespace Go.Proofs.Ytjnpobaampgakad.Pure
open Go.RowKit Go.Proofs.Ytjnpobaampgakad.Q Go.Proofs.YtjnpobaampgakadW.PrintWords Go.Proofs.YtjnpobaampgakadW.PrintLast Go.Proofs.YtjnpobaampgakadW.PrintMore
set_option linter.unusedVariables false
set_option linter.unusedSimpArgs false

theorem spec_l01Is_eq {k : Nat} {w : ByteArray} (hw : w.size ≤ 140737488351232) (hk : w.size + 1 < k) : spec_l01Is.f k w = some (isW w) := by
  have h := find_gen (fun k i => spec_l01Is.l0 k w i) w.size (fun i => !okB (bt w i)) (fun _ => false) (decide ((w.size : Int) ≤ 60)) 0
    (fun k i _ hi => by
      simp only [spec_l01Is.l0]
      rw [if_pos (by omega), if_pos (by omega)]
      by_cases h1 : bt w i < 97
      · rw [if_pos h1]
        have : okB (bt w i) = false := by unfold okB; simp; omega
        simp [this]
      · rw [if_neg h1]
        by_cases h2 : bt w i > 101
        · rw [if_pos h2]
          have : okB (bt w i) = false := by unfold okB; simp; omega
          simp [this]
        · rw [if_neg h2, w64 (by omega) (by omega)]
          have : okB (bt w i) = true := by unfold okB; simp; omega
          simp [this])
    (fun k _ => by simp only [spec_l01Is.l0]; rw [if_neg (by omega)])
    w.size k 0 (by omega) (by omega)
  unfold spec_l01Is.f
  rw [show (0 : Int) = ((0 : Nat) : Int) from rfl, h]
  congr 1
  unfold isW
  cases hf : findE (fun i => !okB (bt w i)) 0 w.size with
  | some j =>
    obtain ⟨_, h1, h2, _⟩ := findE_some hf
    have : (bytesOf w).all okB = false := by
      rw [Bool.eq_false_iff]
      intro h3
      rw [List.all_eq_true] at h3
      have hj : j < (bytesOf w).length := by rw [bo_len]; omega
      have := h3 _ (List.getElem_mem hj)
      rw [bt_nat, getD_eq _ _ hj, this] at h2
      cases h2
    simp [this]
  | none =>
    have : (bytesOf w).all okB = true := by
      rw [List.all_eq_true]
      intro x hx
      obtain ⟨j, hj, rfl⟩ := List.mem_iff_getElem.mp hx
      have := findE_none.mp hf j (Nat.zero_le _) (by rw [bo_len] at hj; omega)
      rw [bt_nat, getD_eq _ _ hj] at this
      simpa using this
    simp only [this, Bool.and_true, decide_eq_decide]
    omega
theorem spec_not_word {w : ByteArray} (h : w.size > 60) : isW w = false := by unfold isW; simp; omega

theorem wordCode_1 (a : ByteArray) : impl_wordCode.f () [a] = some (if isW a then 0 else 1) := by unfold impl_wordCode.f; simp
theorem wordCode_2 (a b : ByteArray) : impl_wordCode.f () [a, b] = some (if isW a && isW b then 0 else 1) := by unfold impl_wordCode.f; simp

theorem spec_l02Periods_eq {k : Nat} {w : ByteArray} (hw : w.size ≤ 1048576) (hk : w.size + 1 < k) : spec_l02Periods.f k w = some (perL w) := by
  have h := gather_gen (fun k acc i => spec_l02Periods.l0 k w acc i) (w.size + 1) (hasP w) (fun p => (p : Int)) (fun l => l) 0
    (fun k i acc _ hi ha => by
      simp only [spec_l02Periods.l0]
      rw [if_pos (by omega), if_pos (by omega), w64 (x := (w.size : Int) - i) (by omega) (by omega), if_pos (by omega), if_pos (by omega), w64 (x := (i : Int) + 1) (by omega) (by omega)]
      rw [show ((w.size : Int) - i).toNat = w.size - i by omega, Int.toNat_natCast]
      by_cases h1 : w.extract i w.size = w.extract 0 (w.size - i)
      · have : hasP w i = true := by unfold hasP; simpa using h1
        rw [if_pos (toList_iff.mpr h1), if_pos (by omega), this]; rfl
      · have : hasP w i = false := by unfold hasP; simpa using h1
        rw [if_neg (fun e => h1 (toList_iff.mp e)), this]; rfl)
    (fun k acc _ => by simp only [spec_l02Periods.l0]; rw [if_neg (by omega)])
    w.size k 1 [] (by omega) (by omega) (by simp)
  unfold spec_l02Periods.f
  rw [show (1 : Int) = ((1 : Nat) : Int) from rfl, h]
  rfl

theorem impl_hasPeriod_eq {w : ByteArray} {p : Int} (h0 : 0 ≤ p) (h1 : p ≤ w.size) (hw : w.size ≤ 1048576) : impl_hasPeriod.f w p = some (hasP w p.toNat) := by
  unfold impl_hasPeriod.f
  rw [if_pos h0, if_pos h1, w64 (by omega) (by omega), if_pos (by omega), if_pos (by omega), toList_beq]
  unfold hasP
  rw [show ((w.size : Int) - p).toNat = w.size - p.toNat by omega]

theorem impl_periods_eq {k : Nat} {w : ByteArray} (hw : w.size ≤ 1048576) (hk : w.size + 1 < k) : impl_periods.f k w = some (perL w) := by
  have h := gather_gen (fun k acc i => impl_periods.l0 k w acc i) (w.size + 1) (hasP w) (fun p => (p : Int)) (fun l => l) 0
    (fun k i acc _ hi ha => by
      simp only [impl_periods.l0]
      rw [if_pos (by omega), impl_hasPeriod_eq (by omega) (by omega) hw, w64 (by omega) (by omega)]
      rw [Int.toNat_natCast]
      cases hasP w i
      · simp
      · simp; omega)
    (fun k acc _ => by simp only [impl_periods.l0]; rw [if_neg (by omega)])
    w.size k 1 [] (by omega) (by omega) (by simp)
  unfold impl_periods.f
  rw [show (1 : Int) = ((1 : Nat) : Int) from rfl, h]
  rfl

def bordL (w : ByteArray) : List Int := ((perL w).map fun p => (w.size : Int) - p).reverse
theorem bordL_len (w : ByteArray) : (bordL w).length ≤ w.size := by
  have := perL_len w
  unfold bordL; simpa using this
theorem perL_mem (w : ByteArray) : ∀ x ∈ perL w, 0 ≤ x ∧ x ≤ w.size := fun x hx => by
  obtain ⟨m, h1, h2, _, rfl⟩ := gath_mem.mp hx
  omega
theorem spec_Borders_l0 (w : ByteArray) (hw : w.size ≤ 60) (l : List Int) (hl : ∀ x ∈ l, 0 ≤ x ∧ x ≤ w.size) : ∀ (n k : Nat) (acc : List Int), n ≤ l.length → n < k → acc.length + n ≤ 1000000 →
    spec_BordersOf.l0 k w l acc ((n : Int) - 1) = some (acc ++ ((l.take n).map fun p => (w.size : Int) - p).reverse, 0)
  | 0, k, acc, hn, hk, ha => by
    obtain ⟨k, rfl⟩ := rounds_pos (show 0 < k by omega)
    simp only [spec_BordersOf.l0]
    rw [if_neg (by omega)]
    simp
  | n + 1, k, acc, hn, hk, ha => by
    obtain ⟨k, rfl⟩ := rounds_pos (show 0 < k by omega)
    simp only [spec_BordersOf.l0]
    have e1 : ((n + 1 : Nat) : Int) - 1 = (n : Int) := by omega
    have hr : rd l n = l[n] := by unfold rd; simp [List.getD_eq_getElem?_getD, show n < l.length by omega]
    have hm := hl l[n] (List.getElem_mem _)
    rw [e1, if_pos (by omega), if_pos (by omega), if_pos (by omega), if_pos (by omega), hr, w64 (by omega) (by omega), w64 (by omega) (by omega)]
    rw [spec_Borders_l0 w hw l hl n k _ (by omega) (by omega) (by simp; omega)]
    rw [List.take_succ_eq_append_getElem (show n < l.length by omega), List.map_append, List.reverse_append, List.append_assoc]
    rfl
theorem bord_cur {w : ByteArray} (hw : w.size ≤ 60) : (bordCur w.size (perL w) (perL w).length).reverse = bordL w := by
  unfold bordCur bordL
  rw [List.take_length, List.drop_length, List.append_nil]
  congr 1
  apply List.map_congr_left
  intro x hx
  have := perL_mem w x hx
  rw [w64 (by omega) (by omega)]

theorem eqInt64S_eq {k : Nat} {a b : List Int} (ha : a.length ≤ 1048576) (hk : a.length < k) : laws_eqInt64S.f k a b = some (decide (a = b)) := by
  unfold laws_eqInt64S.f
  by_cases hl : a.length = b.length
  · rw [if_pos (by omega)]
    have h := find_gen (fun k i => laws_eqInt64S.l0 k a b i) a.length (fun i => !(rd a i == rd b i)) (fun _ => false) true 0
      (fun k i _ hi => by
        simp only [laws_eqInt64S.l0]
        rw [if_pos (by omega), if_pos (by omega), if_pos (by omega), w64 (by omega) (by omega)]
        by_cases h1 : rd a i = rd b i
        · rw [if_pos h1]; simp [h1]
        · rw [if_neg h1]; simp [h1])
      (fun k _ => by simp only [laws_eqInt64S.l0]; rw [if_neg (by omega)])
      a.length k 0 (by omega) (by omega)
    rw [show (0 : Int) = ((0 : Nat) : Int) from rfl, h]
    have rdn : ∀ (l : List Int) (i : Nat) (hi : i < l.length), rd l i = l[i] := fun l i hi => by unfold rd; simp [List.getD_eq_getElem?_getD, hi]
    cases hf : findE (fun i => !(rd a i == rd b i)) 0 a.length with
    | none =>
      have : a = b := List.ext_getElem hl fun i h1 h2 => by
        have := findE_none.mp hf i (Nat.zero_le _) (by omega)
        rw [rdn a i h1, rdn b i h2] at this
        simpa using this
      simp [this]
    | some j =>
      obtain ⟨_, h2, h3, _⟩ := findE_some hf
      have : a ≠ b := by rintro rfl; simp at h3
      simp [this]
  · rw [if_neg (by omega)]
    have : a ≠ b := fun e => hl (by rw [e])
    simp [this]

def marks (n : Nat) : List Int := (List.range n).map fun i : Nat => 1 + (i : Int)
theorem marks_succ (n : Nat) : marks (n + 1) = marks n ++ [1 + (n : Int)] := by unfold marks; rw [List.range_succ, List.map_append]; rfl
theorem marks_len (n : Nat) : (marks n).length = n := by unfold marks; simp
theorem markInt64S_l0 : ∀ (d i k : Nat) (x : List Int), x.length = i + d → x.length ≤ 1048576 → d < k → x.take i = marks i → laws_markInt64S.l0 k x (1 + (i : Int)) i = some (1 + ((i + d : Nat) : Int), marks (i + d))
  | 0, i, k, x, hx, hb, hk, ht => by
    obtain ⟨k, rfl⟩ := rounds_pos (show 0 < k by omega)
    simp only [laws_markInt64S.l0]
    have e : x = marks i := by rw [← ht, List.take_of_length_le (by omega)]
    rw [if_neg (by omega), e]
    simp
  | d + 1, i, k, x, hx, hb, hk, ht => by
    obtain ⟨k, rfl⟩ := rounds_pos (show 0 < k by omega)
    simp only [laws_markInt64S.l0]
    rw [if_pos (by omega), if_pos (by omega), w64 (by omega) (by omega), w64 (by omega) (by omega), Int.toNat_natCast]
    have := markInt64S_l0 d (i + 1) k (x.set i (1 + (i : Int))) (by rw [List.length_set]; omega) (by rw [List.length_set]; exact hb) (by omega) (by
      rw [marks_succ, ← ht, List.take_set, List.take_succ_eq_append_getElem (by omega)]
      rw [List.set_append_right _ _ (by rw [List.length_take]; omega)]
      simp [List.length_take, Nat.min_eq_left (show i ≤ x.length by omega)])
    rw [show (1 + (i : Int) + 1) = 1 + ((i + 1 : Nat) : Int) by omega, show ((i : Int) + 1) = ((i + 1 : Nat) : Int) by omega, this]
    rw [show i + 1 + d = i + (d + 1) by omega]
theorem markInt64S_eq {k : Nat} {l : List Int} (hl : l.length ≤ 1048576) (hk : l.length < k) : laws_markInt64S.f k l 1 = some (1 + (l.length : Int), marks l.length) := by
  have := markInt64S_l0 l.length 0 k l (by omega) hl hk (by simp [marks])
  unfold laws_markInt64S.f
  simpa using this
theorem heldInt64S_eq {k n : Nat} (hn : n ≤ 1048576) (hk : n < k) : laws_heldInt64S.f k (marks n) 1 = some (1 + (n : Int)) := by
  have hl := marks_len n
  have h : ∀ (d i k : Nat), i + d = n → d < k → laws_heldInt64S.l0 k (marks n) (1 + (i : Int)) i = some (1 + (n : Int)) := by
    intro d
    induction d with
    | zero =>
      intro i k hi hk
      obtain ⟨k, rfl⟩ := rounds_pos (show 0 < k by omega)
      simp only [laws_heldInt64S.l0]
      rw [if_neg (by omega), show i = n by omega]
    | succ d ih =>
      intro i k hi hk
      obtain ⟨k, rfl⟩ := rounds_pos (show 0 < k by omega)
      simp only [laws_heldInt64S.l0]
      have hr : rd (marks n) i = 1 + (i : Int) := by unfold rd marks; simp [List.getD_eq_getElem?_getD, show i < n by omega]
      rw [if_pos (by omega), if_pos (by omega), if_pos hr, w64 (by omega) (by omega), w64 (by omega) (by omega)]
      rw [show (1 + (i : Int) + 1) = 1 + ((i + 1 : Nat) : Int) by omega]
      exact ih (i + 1) k (by omega) (by omega)
  have := h n 0 k (by omega) hk
  unfold laws_heldInt64S.f
  simpa using this

theorem FnExactBordersOf : laws_FnExactBordersOf.Pure := by
  intro a0 h0
  by_cases hs : (a0.size : Int) > 1048576
  · exact ⟨0, by unfold laws_FnExactBordersOf.f; rw [if_pos hs]⟩
  · obtain ⟨K, hK⟩ : ∃ K : Nat, 10000000 ≤ K := ⟨_, Nat.le_refl _⟩
    refine ⟨K + 1 + 1, ?_⟩
    obtain ⟨r, hr⟩ : ∃ r, r = (if isW a0 then (bordL a0, (0 : Int)) else ([], 1)) := ⟨_, rfl⟩
    have hl : r.1.length ≤ 100000 := by
      rw [hr]
      cases hw : isW a0
      · simp
      · have hz0 := isW_size hw
        have : (bordL a0).length ≤ 100000 := by have := bordL_len a0; omega
        simpa using this
    have e1 : ∀ m, 10000000 ≤ m → spec_BordersOf.f m a0 = some r := fun m hm => by
      rw [hr]; unfold spec_BordersOf.f
      rw [spec_l01Is_eq h0 (by omega)]
      cases hw : isW a0
      · simp
      · have hz := isW_size hw
        have := perL_len a0
        rw [Option.bind_some, if_pos rfl, spec_l02Periods_eq (by omega) (by omega), Option.bind_some, w64 (by omega) (by omega), spec_Borders_l0 a0 (by omega) (perL a0) (perL_mem a0) (perL a0).length m [] (Nat.le_refl _) (by omega) (by simp; omega)]
        rw [List.take_length]; rfl
    have e2 : ∀ m, 10000000 ≤ m → impl_BordersOf.f m a0 = some r := fun m hm => by
      rw [hr]; unfold impl_BordersOf.f impl_PeriodsOf.f
      rw [wordCode_1, impl_periods_eq (by omega) (by omega)]
      cases hw : isW a0
      · simp
      · have hz := isW_size hw
        have := perL_len a0
        simp only [if_true, Option.bind_some]
        rw [if_pos (by omega), bord_cur hz]
    unfold laws_FnExactBordersOf.f
    rw [if_neg hs, e1 _ (by omega), e2 _ (by omega)]
    simp only [Option.bind_some]
    rw [eqInt64S_eq (by omega) (by omega)]
    simp only [Option.bind_some, decide_true, if_true, bne_self_eq_false, laws_FnExactBordersOf.j0, Bool.false_eq_true, if_false]
    rw [markInt64S_eq (by omega) (by omega)]
    simp only [Option.bind_some]
    rw [heldInt64S_eq (by omega) (by omega)]
    simp only [Option.bind_some]
    rw [if_neg (by omega), if_pos trivial, e2 _ (by omega)]
    simp only [Option.bind_some]
    rw [eqInt64S_eq (by omega) (by omega)]
    simp only [Option.bind_some, decide_true, if_true, bne_self_eq_false, laws_FnExactBordersOf.j1, Bool.false_eq_true, if_false]
    rw [heldInt64S_eq (by omega) (by omega)]
    simp only [Option.bind_some]
    rw [if_neg (by omega), if_pos trivial]

end Go.Proofs.Ytjnpobaampgakad.Pure
