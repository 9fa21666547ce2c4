/- The plain part of the law FnExactSquaresOf: for every input that the law takes, the printed function of the law answers true once it has rounds enough. Conditions: those that stand in the statement (sizes of strings and slices, kinds of numbers), no other. -/
import Derived.Test.YtmihfmhfgjnfcaaQx13
import Derived.Test.YtmihfmhfgjnfcaaMath
import Derived.Test.YtmihfmhfgjnfcaaMath3
import Derived.Test.YtmihfmhfgjnfcaaMath4
namespace Go.Proofs.Ytmihfmhfgjnfcaa.Pure
open Go.RowKit Go.Proofs.Ytmihfmhfgjnfcaa.Q Go.Proofs.YtmihfmhfgjnfcaaW.PrintWords Go.Proofs.YtmihfmhfgjnfcaaW.PrintLast Go.Proofs.YtmihfmhfgjnfcaaW.PrintMore
set_option linter.unusedVariables false
set_option linter.unusedSimpArgs false

theorem spec_l01Is_eq {k : Nat} {w : ByteArray} (hw : w.size ≤ 140737488351232) (hk : w.size + 1 < k) : spec_l01Is.f k w = some (isW w) := by
  have h := find_gen (fun k i => spec_l01Is.l0 k w i) w.size (fun i => !okB (bt w i)) (fun _ => false) (decide ((w.size : Int) ≤ 60)) 0
    (fun k i _ hi => by
      simp only [spec_l01Is.l0]
      rw [if_pos (by omega), if_pos (by omega)]
      by_cases h1 : bt w i < 97
      · rw [if_pos h1]
        have : okB (bt w i) = false := by unfold okB; simp; omega
        simp [this]
      · rw [if_neg h1]
        by_cases h2 : bt w i > 101
        · rw [if_pos h2]
          have : okB (bt w i) = false := by unfold okB; simp; omega
          simp [this]
        · rw [if_neg h2, w64 (by omega) (by omega)]
          have : okB (bt w i) = true := by unfold okB; simp; omega
          simp [this])
    (fun k _ => by simp only [spec_l01Is.l0]; rw [if_neg (by omega)])
    w.size k 0 (by omega) (by omega)
  unfold spec_l01Is.f
  rw [show (0 : Int) = ((0 : Nat) : Int) from rfl, h]
  congr 1
  unfold isW
  cases hf : findE (fun i => !okB (bt w i)) 0 w.size with
  | some j =>
    obtain ⟨_, h1, h2, _⟩ := findE_some hf
    have : (bytesOf w).all okB = false := by
      rw [Bool.eq_false_iff]
      intro h3
      rw [List.all_eq_true] at h3
      have hj : j < (bytesOf w).length := by rw [bo_len]; omega
      have := h3 _ (List.getElem_mem hj)
      rw [bt_nat, getD_eq _ _ hj, this] at h2
      cases h2
    simp [this]
  | none =>
    have : (bytesOf w).all okB = true := by
      rw [List.all_eq_true]
      intro x hx
      obtain ⟨j, hj, rfl⟩ := List.mem_iff_getElem.mp hx
      have := findE_none.mp hf j (Nat.zero_le _) (by rw [bo_len] at hj; omega)
      rw [bt_nat, getD_eq _ _ hj] at this
      simpa using this
    simp only [this, Bool.and_true, decide_eq_decide]
    omega
theorem spec_not_word {w : ByteArray} (h : w.size > 60) : isW w = false := by unfold isW; simp; omega

theorem wordCode_1 (a : ByteArray) : impl_wordCode.f () [a] = some (if isW a then 0 else 1) := by unfold impl_wordCode.f; simp
theorem wordCode_2 (a b : ByteArray) : impl_wordCode.f () [a, b] = some (if isW a && isW b then 0 else 1) := by unfold impl_wordCode.f; simp

def powB (w : ByteArray) (k i q : Nat) : Bool := hasP (w.extract i (i + k * q)) q
def powR (w : ByteArray) (k i : Nat) : List (List Int) := gath (powB w k i) (fun q => [(i : Int), (q : Int)]) 1 ((w.size - i) / k)
def powL (w : ByteArray) (k : Nat) : List (List Int) := (List.range' 0 w.size).flatMap (powR w k)
theorem powR_len (w : ByteArray) (k i : Nat) : (powR w k i).length ≤ w.size := Nat.le_trans (gath_len _ _ _ _) (Nat.le_trans (Nat.div_le_self _ _) (Nat.sub_le _ _))
theorem powL_len_aux (w : ByteArray) (k : Nat) : ∀ c i, ((List.range' i c).flatMap (powR w k)).length ≤ c * w.size
  | 0, i => by simp
  | c + 1, i => by
    rw [List.range'_succ, List.flatMap_cons, List.length_append, Nat.succ_mul]
    have := powR_len w k i
    have := powL_len_aux w k c (i + 1)
    omega
theorem powL_len {w : ByteArray} {k : Nat} (hw : w.size ≤ 60) : (powL w k).length ≤ 3600 := Nat.le_trans (powL_len_aux w k _ _) (Nat.mul_le_mul hw hw)
theorem div_in {n k q : Nat} (hk : 0 < k) (h : q ≤ n / k) : k * q ≤ n := by rw [Nat.mul_comm]; exact (Nat.le_div_iff_mul_le hk).mp h
theorem div_out {n k : Nat} (hk : 0 < k) : n < k * (n / k + 1) ∧ k * (n / k + 1) ≤ n + k := by
  have h := Nat.div_add_mod n k
  have h2 := Nat.mod_lt n hk
  rw [Nat.mul_add, Nat.mul_one]
  omega
theorem powL_step {w : ByteArray} {m : Nat} (i : Nat) (s : List (List Int)) : (fun (i : Nat) (a : List (List Int)) => a ++ powR w m i) i s = s ++ gath (powB w m i) (fun q => [(i : Int), (q : Int)]) 1 ((w.size - i) / m) := rfl
theorem powL_nil {w : ByteArray} {m : Nat} (h1 : 1 ≤ m) : powL w m = [] ↔ ∀ i q, 1 ≤ q → i + m * q ≤ w.size → powB w m i q = false := by
  unfold powL
  rw [List.flatMap_eq_nil_iff]
  constructor
  · intro h i q hq hi
    have hq2 : q ≤ m * q := Nat.le_mul_of_pos_left q h1
    have := h i (by rw [List.mem_range'_1]; omega)
    refine gath_nil.mp this q hq ?_
    have : q ≤ (w.size - i) / m := (Nat.le_div_iff_mul_le h1).mpr (by rw [Nat.mul_comm]; omega)
    omega
  · intro h i hi
    rw [List.mem_range'_1] at hi
    refine gath_nil.mpr fun q h3 h4 => h i q h3 ?_
    have := div_in h1 (show q ≤ (w.size - i) / m by omega)
    omega

theorem spec_l03Power_eq {k : Nat} {w : ByteArray} {i q m : Nat} (hm : 1 ≤ m) (h : i + m * q ≤ w.size) (hw : w.size ≤ 1048576) (hk : w.size + 2 < k) : spec_l03Power.f k w i q m = some (powB w m i q) := by
  have hq : q ≤ m * q := Nat.le_mul_of_pos_left q hm
  have hz : (w.extract i (i + m * q)).size = m * q := by rw [ext_size]; omega
  have e1 : (q : Int) * m = ((m * q : Nat) : Int) := by rw [Int.natCast_mul, Int.mul_comm]
  unfold spec_l03Power.f
  rw [e1, w64 (x := ((m * q : Nat) : Int)) (by omega) (by omega), w64 (by omega) (by omega), if_neg (by omega)]
  have hf := find_from (fun k j => spec_l03Power.l0 k w i q m j) (i + (m * q - q)) i (fun j => !(bt w j == bt w ((j + q : Nat) : Int))) (fun _ => false) true 0
    (fun k j _ hl hj => by
      simp only [spec_l03Power.l0]
      rw [e1, w64 (x := ((m * q : Nat) : Int)) (by omega) (by omega), w64 (x := (i : Int) + _) (by omega) (by omega), w64 (x := (j : Int) + q) (by omega) (by omega), if_pos (by omega), if_pos (by omega), if_pos (by omega), if_pos (by omega), if_pos (by omega), w64 (by omega) (by omega)]
      rw [show (j : Int) + q = ((j + q : Nat) : Int) by omega]
      by_cases h1 : bt w j = bt w ((j + q : Nat) : Int)
      · rw [if_pos h1]; simp [h1]
      · rw [if_neg h1, beq_eq_false_iff_ne.mpr h1]; rfl)
    (fun k _ => by
      simp only [spec_l03Power.l0]
      rw [e1, w64 (x := ((m * q : Nat) : Int)) (by omega) (by omega), w64 (x := (i : Int) + _) (by omega) (by omega), w64 (by omega) (by omega), if_neg (by omega)])
    (m * q - q) k i rfl (Nat.le_refl _) (by omega)
  rw [hf]
  congr 1
  unfold powB
  cases hc : findE (fun j => !(bt w j == bt w ((j + q : Nat) : Int))) i (m * q - q) with
  | none =>
    symm
    rw [hasP_iff (by omega), hz]
    intro j hj
    have := findE_none.mp hc (i + j) (by omega) (by omega)
    rw [ext_bt _ (by omega), ext_bt _ (by omega), show i + (j + q) = i + j + q by omega]
    simpa using this
  | some j =>
    obtain ⟨h1, h2, h3, _⟩ := findE_some hc
    symm
    rw [Bool.eq_false_iff, ne_eq, hasP_iff (by omega), hz]
    intro h4
    have := h4 (j - i) (by omega)
    rw [ext_bt _ (by omega), ext_bt _ (by omega), show i + (j - i + q) = j + q by omega, show i + (j - i) = j by omega] at this
    simp [this] at h3

theorem spec_l03Powers_eq {k : Nat} {w : ByteArray} {m : Nat} (hw : w.size ≤ 60) (h1 : 1 ≤ m) (h2 : m ≤ 60) (hk : 100000 ≤ k) : spec_l03Powers.f k w m = some (powL w m) := by
  have := fold_cost (fun k (s : List (List Int)) i => spec_l03Powers.l0 k w m s w.size i) w.size (fun i s => s ++ powR w m i) (fun _ s => some s) (fun i s => s.length ≤ 60 * i) 20000 70
    (fun i s hi hs => by
      have hd : (w.size - i) / m ≤ w.size - i := Nat.div_le_self _ _
      obtain ⟨o1, o2⟩ := div_out (n := w.size - i) (k := m) h1
      refine ⟨(w.size - i) / m + 1, by omega, fun k hk => ?_⟩
      have h := gather_on (fun k (s : List (List Int)) q => spec_l03Powers.l1 k w m s w.size i q) (fun k s => spec_l03Powers.l0 k w m s w.size ((i + 1 : Nat) : Int)) ((w.size - i) / m + 1) (powB w m i) (fun q => [(i : Int), (q : Int)]) 20000 100000
        (fun k q acc hk hq ha => by
          have hin := div_in h1 (show q ≤ (w.size - i) / m by omega)
          have hq2 : q ≤ m * q := Nat.le_mul_of_pos_left q h1
          have e1 : (q : Int) * m = ((m * q : Nat) : Int) := by rw [Int.natCast_mul, Int.mul_comm]
          simp only [spec_l03Powers.l1]
          rw [e1, w64 (x := ((m * q : Nat) : Int)) (by omega) (by omega), w64 (by omega) (by omega), if_pos (by omega), spec_l03Power_eq h1 (by omega) (by omega) (by omega), w64 (by omega) (by omega)]
          simp only [Option.bind_some]
          cases powB w m i q
          · simp
          · simp; omega)
        (fun k acc hk => by
          have e1 : (((w.size - i) / m + 1 : Nat) : Int) * m = ((m * ((w.size - i) / m + 1) : Nat) : Int) := by rw [Int.natCast_mul, Int.mul_comm]
          simp only [spec_l03Powers.l1]
          rw [e1, w64 (x := ((m * ((w.size - i) / m + 1) : Nat) : Int)) (by omega) (by omega), w64 (by omega) (by omega), if_neg (by omega), w64 (by omega) (by omega)]; rfl)
        ((w.size - i) / m) k 1 s (by omega) hk (by omega)
      simp only [spec_l03Powers.l0]
      rw [if_pos (by omega)]
      exact h)
    (fun i s hi hs => by
      have := powR_len w m i
      rw [List.length_append]; omega)
    (fun k s hk hs => by
      simp only [spec_l03Powers.l0]
      rw [if_neg (by omega)])
    w.size k 0 [] (by omega) (by have : w.size * (70 + 1) ≤ 60 * 71 := Nat.mul_le_mul hw (by omega); omega) (by simp)
  obtain ⟨_, k', _, _, h4⟩ := this
  unfold spec_l03Powers.f
  rw [loopS_append] at h4
  exact h4

theorem powL_mem {w : ByteArray} {m : Nat} (h1 : 1 ≤ m) {x : List Int} : x ∈ powL w m ↔ ∃ i q : Nat, 1 ≤ q ∧ i + m * q ≤ w.size ∧ powB w m i q = true ∧ x = [(i : Int), (q : Int)] := by
  unfold powL
  rw [List.mem_flatMap]
  constructor
  · rintro ⟨i, hi, hx⟩
    obtain ⟨q, q1, q2, q3, rfl⟩ := gath_mem.mp hx
    rw [List.mem_range'_1] at hi
    have := div_in h1 (show q ≤ (w.size - i) / m by omega)
    exact ⟨i, q, q1, by omega, q3, rfl⟩
  · rintro ⟨i, q, hq, hi, hp, rfl⟩
    have hq2 : q ≤ m * q := Nat.le_mul_of_pos_left q h1
    refine ⟨i, by rw [List.mem_range'_1]; omega, gath_mem.mpr ⟨q, hq, ?_, hp, rfl⟩⟩
    have : q ≤ (w.size - i) / m := (Nat.le_div_iff_mul_le h1).mpr (by rw [Nat.mul_comm]; omega)
    omega
theorem rd0 (a b : Int) : rd [a, b] 0 = a := rfl
theorem rd1 (a b : Int) : rd [a, b] 1 = b := rfl

/-- the order of strings, on their bytes -/
def lt8 (x y : List UInt8) : Prop := Op.bytesLess x y = true
theorem lt8_irr (x : List UInt8) : ¬ lt8 x x := fun h => by unfold lt8 at h; rw [less_irrefl] at h; cases h
theorem lt8_trans {x y z : List UInt8} (h : lt8 x y) (h' : lt8 y z) : lt8 x z := by
  unfold lt8 at *
  rw [less_bo_aux] at *
  exact lessI_trans h h'
theorem lt8_tri (x y : List UInt8) : lt8 x y ∨ x = y ∨ lt8 y x := by
  unfold lt8
  rw [less_bo_aux, less_bo_aux]
  by_cases e : x = y
  · exact .inr (.inl e)
  · rcases lessI_total (x := x.map fun b => (b.toNat : Int)) (y := y.map fun b => (b.toNat : Int)) (fun h => e (bo_data_inj h)) with h | h
    · exact .inl h
    · exact .inr (.inr h)
theorem le8_iff {x y : List UInt8} : x ≤ y ↔ ¬ lt8 y x := by
  unfold lt8
  rw [Go.Proofs.bytesLess_eq, decide_eq_true_iff]
  exact Iff.rfl
theorem strict_unique : ∀ {l l' : List (List UInt8)}, l.Pairwise lt8 → l'.Pairwise lt8 → (∀ x, x ∈ l ↔ x ∈ l') → l = l'
  | [], [], _, _, _ => rfl
  | [], b :: _, _, _, h => by have := (h b).mpr (List.mem_cons_self ..); simp at this
  | a :: _, [], _, _, h => by have := (h a).mp (List.mem_cons_self ..); simp at this
  | a :: l, b :: l', h1, h2, h => by
    rw [List.pairwise_cons] at h1 h2
    have e : a = b := by
      rcases List.mem_cons.mp ((h a).mp (List.mem_cons_self ..)) with e | e
      · exact e
      · rcases List.mem_cons.mp ((h b).mpr (List.mem_cons_self ..)) with e' | e'
        · exact e'.symm
        · exact absurd (lt8_trans (h1.1 b e') (h2.1 a e)) (lt8_irr _)
    subst e
    rw [strict_unique h1.2 h2.2 fun x => ⟨fun hx => by
      rcases List.mem_cons.mp ((h x).mp (List.mem_cons_of_mem _ hx)) with e | e
      · subst e; exact absurd (h1.1 _ hx) (lt8_irr _)
      · exact e, fun hx => by
      rcases List.mem_cons.mp ((h x).mpr (List.mem_cons_of_mem _ hx)) with e | e
      · subst e; exact absurd (h2.1 _ hx) (lt8_irr _)
      · exact e⟩]
theorem compact_strict (d : Array (List UInt8)) (hs : ∀ i j, i < j → j < d.size → ¬ lt8 d[j]! d[i]!) : ∀ m, m ≤ d.size → (Lib.compactUpTo d m).Pairwise lt8 ∧ ∀ x, x ∈ Lib.compactUpTo d m ↔ ∃ j, j < m ∧ x = d[j]!
  | 0, _ => ⟨by simp [Lib.compactUpTo], fun x => by simp [Lib.compactUpTo]⟩
  | m + 1, hm => by
    obtain ⟨ih1, ih2⟩ := compact_strict d hs m (by omega)
    rw [Lib.compactUpTo_succ]
    cases hk : Lib.keeps d m with
    | true =>
      rw [if_pos rfl]
      refine ⟨?_, fun x => ?_⟩
      · rw [List.pairwise_append]
        refine ⟨ih1, List.pairwise_singleton _ _, fun a ha b hb => ?_⟩
        rw [List.mem_singleton] at hb
        subst hb
        obtain ⟨j, hj, rfl⟩ := (ih2 a).mp ha
        unfold Lib.keeps at hk
        rw [decide_eq_true_iff] at hk
        have h1 : lt8 d[m - 1]! d[m]! := by
          rcases lt8_tri d[m - 1]! d[m]! with h | h | h
          · exact h
          · rcases hk with hk | hk
            · omega
            · exact absurd h.symm hk
          · exact absurd h (hs (m - 1) m (by omega) (by omega))
        rcases Nat.lt_or_ge j (m - 1) with hlt | hge
        · rcases lt8_tri d[j]! d[m - 1]! with h | h | h
          · exact lt8_trans h h1
          · rw [h]; exact h1
          · exact absurd h (hs j (m - 1) hlt (by omega))
        · obtain rfl : j = m - 1 := by omega
          exact h1
      · rw [List.mem_append, List.mem_singleton, ih2]
        constructor
        · rintro (⟨j, hj, e⟩ | e)
          · exact ⟨j, by omega, e⟩
          · exact ⟨m, by omega, e⟩
        · rintro ⟨j, hj, e⟩
          by_cases h : j = m
          · subst h; exact .inr e
          · exact .inl ⟨j, by omega, e⟩
    | false =>
      simp only [Bool.false_eq_true, if_false, List.append_nil]
      refine ⟨ih1, fun x => ?_⟩
      rw [ih2]
      unfold Lib.keeps at hk
      rw [decide_eq_false_iff_not] at hk
      have h0 : m ≠ 0 := fun e => hk (.inl e)
      have h1 : d[m]! = d[m - 1]! := Classical.byContradiction fun h => hk (.inr h)
      constructor
      · rintro ⟨j, hj, e⟩; exact ⟨j, by omega, e⟩
      · rintro ⟨j, hj, e⟩
        by_cases h : j = m
        · subst h; exact ⟨j - 1, by omega, by rw [e, h1]⟩
        · exact ⟨j, by omega, e⟩
theorem compact_sorted {l : List (List UInt8)} (hs : l.Pairwise fun x y => ¬ lt8 y x) : (Lib.compact l).Pairwise lt8 ∧ ∀ x, x ∈ Lib.compact l ↔ x ∈ l := by
  unfold Lib.compact
  obtain ⟨h1, h2⟩ := compact_strict l.toArray (fun i j hij hj => by
    have hj' : j < l.length := by simpa using hj
    rw [List.pairwise_iff_getElem] at hs
    have := hs i j (by omega) hj' hij
    rw [getElem!_pos l.toArray j hj, getElem!_pos l.toArray i (by simp; omega)]
    simpa using this) l.length (by simp)
  refine ⟨h1, fun x => ?_⟩
  rw [h2, List.mem_iff_getElem]
  constructor
  · rintro ⟨j, hj, e⟩; exact ⟨j, hj, by rw [e, getElem!_pos l.toArray j (by simpa using hj)]; simp⟩
  · rintro ⟨j, hj, e⟩; exact ⟨j, hj, by rw [← e, getElem!_pos l.toArray j (by simpa using hj)]; simp⟩
theorem sorted_le (l : List (List UInt8)) : (l.mergeSort fun x y => decide (x ≤ y)).Pairwise fun x y => ¬ lt8 y x := by
  have h := List.pairwise_mergeSort (le := fun x y : List UInt8 => decide (x ≤ y)) (fun a b c h1 h2 => by
    rw [decide_eq_true_iff] at *; exact List.le_trans h1 h2) (fun a b => by
    rw [Bool.or_eq_true, decide_eq_true_iff, decide_eq_true_iff]; exact List.le_total a b) l
  exact h.imp fun {a b} hab => by rw [decide_eq_true_iff] at hab; exact le8_iff.mp hab
/-- words in strictly ascending order -/
def ascW (l : List ByteArray) : Prop := (l.map (·.data.toList)).Pairwise lt8
theorem toW_data (x : List UInt8) : (toW x).data.toList = x := by simp [toW]
theorem data_toW (w : ByteArray) : toW w.data.toList = w := ba_ext (by simp [toW])
theorem map_toW (l : List (List UInt8)) : (l.map toW).map (·.data.toList) = l := by
  rw [List.map_map]
  conv => rhs; rw [← List.map_id l]
  exact List.map_congr_left fun x _ => toW_data x
theorem sortW_asc (l : List ByteArray) : ascW (sortW l) ∧ ∀ x, x ∈ sortW l ↔ x ∈ l := by
  obtain ⟨h1, h2⟩ := compact_sorted (sorted_le (l.map (·.data.toList)))
  unfold sortW compactL sortL ascW
  rw [map_toW, map_toW]
  refine ⟨h1, fun x => ?_⟩
  rw [List.mem_map]
  constructor
  · rintro ⟨y, hy, rfl⟩
    have := (h2 y).mp hy
    rw [List.mem_mergeSort, List.mem_map] at this
    obtain ⟨z, hz, rfl⟩ := this
    rw [data_toW]; exact hz
  · intro hx
    refine ⟨x.data.toList, (h2 _).mpr ?_, data_toW x⟩
    rw [List.mem_mergeSort, List.mem_map]
    exact ⟨x, hx, rfl⟩
theorem asc_unique {l l' : List ByteArray} (h : ascW l) (h' : ascW l') (hm : ∀ x, x ∈ l ↔ x ∈ l') : l = l' := by
  have e := strict_unique h h' (fun x => by
    rw [List.mem_map, List.mem_map]
    constructor
    · rintro ⟨y, hy, e⟩; exact ⟨y, (hm y).mp hy, e⟩
    · rintro ⟨y, hy, e⟩; exact ⟨y, (hm y).mpr hy, e⟩)
  have := congrArg (List.map toW) e
  rw [List.map_map, List.map_map] at this
  have i : (toW ∘ fun x : ByteArray => x.data.toList) = id := funext fun x => data_toW x
  rw [i, List.map_id, List.map_id] at this
  exact this

def ltW (a b : ByteArray) : Bool := Op.bytesLess a.toList b.toList
theorem ltW_iff (a b : ByteArray) : ltW a b = true ↔ lt8 a.data.toList b.data.toList := by unfold ltW lt8; rw [Lib.toList_data, Lib.toList_data]
def putAt (l : List ByteArray) (w : ByteArray) : Nat → List ByteArray
  | 0 => w :: l
  | a + 1 => if ltW w (l.getD a ByteArray.empty) = true then putAt l w a else if l.getD a ByteArray.empty = w then l else l.take (a + 1) ++ [w] ++ l.drop (a + 1)
def putW (l : List ByteArray) (w : ByteArray) : List ByteArray := putAt l w l.length
theorem putAt_len (l : List ByteArray) (w : ByteArray) : ∀ a, a ≤ l.length → (putAt l w a).length ≤ l.length + 1
  | 0, _ => by simp [putAt]
  | a + 1, h => by
    unfold putAt
    split
    · exact putAt_len l w a (by omega)
    · split
      · omega
      · simp; omega
theorem spec_put_l0 {l : List ByteArray} {w : ByteArray} (hl : l.length ≤ 1000000) : ∀ a k, a < k → a ≤ l.length → spec_l01Put.l0 k l w (a : Int) = some (putAt l w a)
  | 0, k, hk, ha => by
    obtain ⟨k, rfl⟩ := rounds_pos (show 0 < k by omega)
    simp only [spec_l01Put.l0]
    rw [if_neg (by omega), Option.bind_some, if_pos (by omega), if_pos (by omega), Option.bind_some, if_pos (by simp), Option.bind_some, if_pos (by simp), Option.bind_some, Option.bind_some, if_pos (by simp; omega)]
    simp [putAt]
  | a + 1, k, hk, ha => by
    obtain ⟨k, rfl⟩ := rounds_pos (show 0 < k by omega)
    simp only [spec_l01Put.l0, putAt]
    have e : wrap64 (((a + 1 : Nat) : Int) - 1) = (a : Int) := by rw [w64 (by omega) (by omega)]; omega
    have r : rdOf ByteArray.empty l (a : Int) = l.getD a ByteArray.empty := by unfold rdOf; simp
    rw [if_pos (by omega), e, r, if_pos (by omega), if_pos (by omega)]
    have el : (Op.bytesLess w.toList (l.getD a ByteArray.empty).toList) = ltW w (l.getD a ByteArray.empty) := rfl
    rw [el]
    by_cases h1 : ltW w (l.getD a ByteArray.empty) = true
    · rw [if_pos h1, if_pos h1, spec_put_l0 hl a k (by omega) (by omega)]
    · rw [if_neg h1, if_neg h1]
      by_cases h2 : l.getD a ByteArray.empty = w
      · rw [if_pos (toList_iff.mpr h2), if_pos h2]
      · rw [if_neg (fun h => h2 (toList_iff.mp h)), if_neg h2, Option.bind_some, if_pos (by omega), if_pos (by omega), Option.bind_some, if_pos (by simp; omega), Option.bind_some, if_pos (by simp; omega), Option.bind_some, Option.bind_some, if_pos (by simp; omega)]
        rw [Int.toNat_natCast, List.nil_append]
theorem spec_l01Put_eq {l : List ByteArray} {w : ByteArray} {k : Nat} (hl : l.length ≤ 1000000) (hk : l.length < k) : spec_l01Put.f k l w = some (putW l w) := by
  unfold spec_l01Put.f putW
  exact spec_put_l0 hl _ _ hk (Nat.le_refl _)
theorem asc_get {l : List ByteArray} (h : ascW l) {i j : Nat} (hij : i < j) (hj : j < l.length) : lt8 (l.getD i ByteArray.empty).data.toList (l.getD j ByteArray.empty).data.toList := by
  unfold ascW at h
  rw [List.pairwise_iff_getElem] at h
  have := h i j (by simp; omega) (by simpa using hj) hij
  rw [List.getElem_map, List.getElem_map] at this
  rw [List.getD_eq_getElem?_getD, List.getD_eq_getElem?_getD, List.getElem?_eq_getElem hj, List.getElem?_eq_getElem (show i < l.length by omega)]
  exact this
theorem mem_getD {l : List ByteArray} {x : ByteArray} (h : x ∈ l) : ∃ j, j < l.length ∧ l.getD j ByteArray.empty = x := by
  obtain ⟨j, hj, e⟩ := List.mem_iff_getElem.mp h
  exact ⟨j, hj, by rw [List.getD_eq_getElem?_getD, List.getElem?_eq_getElem hj]; exact e⟩
theorem getD_mem {l : List ByteArray} {j : Nat} (hj : j < l.length) : l.getD j ByteArray.empty ∈ l := by
  rw [List.getD_eq_getElem?_getD, List.getElem?_eq_getElem hj]
  exact List.getElem_mem hj
theorem putAt_asc {l : List ByteArray} {w : ByteArray} (h : ascW l) : ∀ a, a ≤ l.length → (∀ j, a ≤ j → j < l.length → lt8 w.data.toList (l.getD j ByteArray.empty).data.toList) → ascW (putAt l w a) ∧ ∀ x, x ∈ putAt l w a ↔ x ∈ l ∨ x = w
  | 0, _, hj => by
    unfold putAt
    refine ⟨?_, fun x => by rw [List.mem_cons]; exact Or.comm⟩
    unfold ascW
    rw [List.map_cons, List.pairwise_cons]
    refine ⟨fun y hy => ?_, h⟩
    obtain ⟨z, hz, rfl⟩ := List.mem_map.mp hy
    obtain ⟨j, hj1, rfl⟩ := mem_getD hz
    exact hj j (Nat.zero_le _) hj1
  | a + 1, ha, hj => by
    unfold putAt
    by_cases h1 : ltW w (l.getD a ByteArray.empty) = true
    · rw [if_pos h1]
      refine putAt_asc h a (by omega) fun j hj1 hj2 => ?_
      by_cases e : j = a
      · subst e; exact (ltW_iff _ _).mp h1
      · exact hj j (by omega) hj2
    · rw [if_neg h1]
      by_cases h2 : l.getD a ByteArray.empty = w
      · rw [if_pos h2]
        refine ⟨h, fun x => ⟨.inl, fun hx => ?_⟩⟩
        rcases hx with hx | rfl
        · exact hx
        · rw [← h2]; exact getD_mem (by omega)
      · rw [if_neg h2]
        have h3 : lt8 (l.getD a ByteArray.empty).data.toList w.data.toList := by
          rcases lt8_tri (l.getD a ByteArray.empty).data.toList w.data.toList with e | e | e
          · exact e
          · exact absurd (ba_ext e) h2
          · exact absurd ((ltW_iff _ _).mpr e) h1
        have hlow : ∀ x, x ∈ l.take (a + 1) → lt8 x.data.toList w.data.toList := fun x hx => by
          obtain ⟨j, hj1, e⟩ := List.mem_iff_getElem.mp hx
          rw [List.length_take] at hj1
          rw [List.getElem_take] at e
          have e2 : l.getD j ByteArray.empty = x := by rw [List.getD_eq_getElem?_getD, List.getElem?_eq_getElem (show j < l.length by omega)]; exact e
          rw [← e2]
          by_cases e3 : j = a
          · subst e3; exact h3
          · exact lt8_trans (asc_get h (show j < a by omega) (by omega)) h3
        have hhigh : ∀ x, x ∈ l.drop (a + 1) → lt8 w.data.toList x.data.toList := fun x hx => by
          obtain ⟨j, hj1, e⟩ := List.mem_iff_getElem.mp hx
          rw [List.length_drop] at hj1
          rw [List.getElem_drop] at e
          have e2 : l.getD (a + 1 + j) ByteArray.empty = x := by rw [List.getD_eq_getElem?_getD, List.getElem?_eq_getElem (show a + 1 + j < l.length by omega)]; exact e
          rw [← e2]
          exact hj (a + 1 + j) (by omega) (by omega)
        have hsplit : l.take (a + 1) ++ l.drop (a + 1) = l := List.take_append_drop _ _
        have h' := h
        unfold ascW at h'
        rw [← hsplit, List.map_append, List.pairwise_append] at h'
        refine ⟨?_, fun x => ?_⟩
        · unfold ascW
          rw [List.map_append, List.map_append, List.pairwise_append, List.pairwise_append]
          refine ⟨⟨h'.1, by simp, fun y hy z hz => ?_⟩, h'.2.1, fun y hy z hz => ?_⟩
          · obtain ⟨y', hy', rfl⟩ := List.mem_map.mp hy
            simp only [List.map_cons, List.map_nil, List.mem_singleton] at hz
            subst hz
            exact hlow y' hy'
          · rcases List.mem_append.mp hy with hy | hy
            · exact h'.2.2 y hy z hz
            · simp only [List.map_cons, List.map_nil, List.mem_singleton] at hy
              subst hy
              obtain ⟨z', hz', rfl⟩ := List.mem_map.mp hz
              exact hhigh z' hz'
        · rw [List.mem_append, List.mem_append, List.mem_singleton]
          conv => rhs; lhs; rw [← hsplit, List.mem_append]
          constructor
          · rintro ((h | h) | h)
            · exact .inl (.inl h)
            · exact .inr h
            · exact .inl (.inr h)
          · rintro ((h | h) | h)
            · exact .inl (.inl h)
            · exact .inr h
            · exact .inl (.inr h)
theorem putW_asc {l : List ByteArray} {w : ByteArray} (h : ascW l) : ascW (putW l w) ∧ ∀ x, x ∈ putW l w ↔ x ∈ l ∨ x = w :=
  putAt_asc h _ (Nat.le_refl _) fun j h1 h2 => by omega
theorem fold_put : ∀ (xs l : List ByteArray), ascW l → ascW (xs.foldl putW l) ∧ ∀ x, x ∈ xs.foldl putW l ↔ x ∈ l ∨ x ∈ xs
  | [], l, h => ⟨h, fun x => by simp⟩
  | y :: xs, l, h => by
    obtain ⟨h1, h2⟩ := putW_asc (w := y) h
    obtain ⟨h3, h4⟩ := fold_put xs (putW l y) h1
    refine ⟨h3, fun x => ?_⟩
    rw [List.foldl_cons, h4, h2, List.mem_cons, or_assoc]
/-- sorted, and no word twice: as the one does it and as the other does it -/
theorem sort_put (xs : List ByteArray) : xs.foldl putW [] = sortW xs := by
  obtain ⟨h1, h2⟩ := fold_put xs [] (by unfold ascW; simp)
  obtain ⟨h3, h4⟩ := sortW_asc xs
  exact asc_unique h1 h3 fun x => by rw [h2, h4]; simp
theorem putW_len (l : List ByteArray) (w : ByteArray) : (putW l w).length ≤ l.length + 1 := putAt_len l w _ (Nat.le_refl _)
theorem foldW_len : ∀ (xs l : List ByteArray), (xs.foldl putW l).length ≤ l.length + xs.length
  | [], l => by simp
  | y :: xs, l => by
    rw [List.foldl_cons]
    have := foldW_len xs (putW l y)
    have := putW_len l y
    simp only [List.length_cons]; omega

theorem impl_hasPeriod_eq {w : ByteArray} {p : Int} (h0 : 0 ≤ p) (h1 : p ≤ w.size) (hw : w.size ≤ 1048576) : impl_hasPeriod.f w p = some (hasP w p.toNat) := by
  unfold impl_hasPeriod.f
  rw [if_pos h0, if_pos h1, w64 (by omega) (by omega), if_pos (by omega), if_pos (by omega), toList_beq]
  unfold hasP
  rw [show ((w.size : Int) - p).toNat = w.size - p.toNat by omega]

theorem impl_powersIn_eq {k : Nat} {w : ByteArray} {m : Nat} (hw : w.size ≤ 60) (h1 : 1 ≤ m) (h2 : m ≤ 60) (hk : 100000 ≤ k) : impl_powersIn.f k w m = some (powL w m) := by
  have := fold_cost (fun k (s : List (List Int)) i => impl_powersIn.l0 k w m s w.size i) w.size (fun i s => s ++ powR w m i) (fun _ s => some s) (fun i s => s.length ≤ 60 * i) 20000 70
    (fun i s hi hs => by
      have hd : (w.size - i) / m ≤ w.size - i := Nat.div_le_self _ _
      obtain ⟨o1, o2⟩ := div_out (n := w.size - i) (k := m) h1
      refine ⟨(w.size - i) / m + 1, by omega, fun k hk => ?_⟩
      have h := gather_on (fun k (s : List (List Int)) q => impl_powersIn.l1 k w m s i q w.size i) (fun k s => impl_powersIn.l0 k w m s w.size ((i + 1 : Nat) : Int)) ((w.size - i) / m + 1) (powB w m i) (fun q => [(i : Int), (q : Int)]) 20000 100000
        (fun k q acc hk hq ha => by
          have hin := div_in h1 (show q ≤ (w.size - i) / m by omega)
          have hq2 : q ≤ m * q := Nat.le_mul_of_pos_left q h1
          have e1 : (m : Int) * q = ((m * q : Nat) : Int) := by rw [Int.natCast_mul]
          simp only [impl_powersIn.l1]
          rw [e1, w64 (x := ((m * q : Nat) : Int)) (by omega) (by omega), w64 (by omega) (by omega), if_pos (by omega), if_pos (by omega), if_pos (by omega), Int.toNat_natCast, show ((i : Int) + ((m * q : Nat) : Int)).toNat = i + m * q by omega, impl_hasPeriod_eq (by omega) (by rw [ext_size]; omega) (by rw [ext_size]; omega), Int.toNat_natCast, w64 (by omega) (by omega)]
          simp only [Option.bind_some]
          unfold powB
          cases hasP (w.extract i (i + m * q)) q
          · simp
          · simp; omega)
        (fun k acc hk => by
          have e1 : (m : Int) * (((w.size - i) / m + 1 : Nat) : Int) = ((m * ((w.size - i) / m + 1) : Nat) : Int) := by rw [Int.natCast_mul]
          simp only [impl_powersIn.l1]
          rw [e1, w64 (x := ((m * ((w.size - i) / m + 1) : Nat) : Int)) (by omega) (by omega), w64 (by omega) (by omega), if_neg (by omega), w64 (by omega) (by omega)]; rfl)
        ((w.size - i) / m) k 1 s (by omega) hk (by omega)
      simp only [impl_powersIn.l0]
      rw [if_pos (by omega)]
      exact h)
    (fun i s hi hs => by
      have := powR_len w m i
      rw [List.length_append]; omega)
    (fun k s hk hs => by
      simp only [impl_powersIn.l0]
      rw [if_neg (by omega)])
    w.size k 0 [] (by omega) (by have : w.size * (70 + 1) ≤ 60 * 71 := Nat.mul_le_mul hw (by omega); omega) (by simp)
  obtain ⟨_, k', _, _, h4⟩ := this
  unfold impl_powersIn.f
  rw [loopS_append] at h4
  exact h4

def sqS (w : ByteArray) (l : List Int) : ByteArray := w.extract (rd l 0).toNat (rd l 0 + 2 * rd l 1).toNat
def sqsW (w : ByteArray) : List ByteArray := (powL w 2).map (sqS w)
theorem sqsW_len {w : ByteArray} (hw : w.size ≤ 60) : (sqsW w).length ≤ 3600 := by unfold sqsW; rw [List.length_map]; exact powL_len hw
theorem dropS {L : List (List Int)} {n : Nat} (h : n < L.length) : L.drop n = L.getD n [] :: L.drop (n + 1) := by
  rw [List.drop_eq_getElem_cons h, List.getD_eq_getElem?_getD, List.getElem?_eq_getElem h]; rfl
theorem impl_sq_l0 {w : ByteArray} (hw : w.size ≤ 60) : ∀ (d n k : Nat) (acc : List ByteArray), n + d = (powL w 2).length → d < k → acc.length = n → impl_SquaresOf.l0 k w acc (powL w 2) (powL w 2).length n = (impl_sorted.f (acc ++ ((powL w 2).drop n).map (sqS w))).bind fun t => some (t, 0)
  | 0, n, k, acc, hn, hk, ha => by
    obtain ⟨k, rfl⟩ := rounds_pos (show 0 < k by omega)
    simp only [impl_SquaresOf.l0]
    rw [if_neg (by omega), List.drop_of_length_le (by omega), List.map_nil, List.append_nil]
  | d + 1, n, k, acc, hn, hk, ha => by
    obtain ⟨k, rfl⟩ := rounds_pos (show 0 < k by omega)
    have hl := powL_len (k := 2) hw
    have hlt : n < (powL w 2).length := by omega
    have hmem : (powL w 2).getD n [] ∈ powL w 2 := by rw [List.getD_eq_getElem?_getD, List.getElem?_eq_getElem hlt]; exact List.getElem_mem hlt
    obtain ⟨i, q, h1, h2, h3, hx⟩ := (powL_mem (by omega)).mp hmem
    have hr : rd_L5 (powL w 2) (n : Int) = [(i : Int), (q : Int)] := by
      rw [← hx]; unfold rd_L5; simp
    rw [dropS hlt, hx, List.map_cons]
    simp only [impl_SquaresOf.l0, hr, rd0, rd1]
    rw [if_pos (by omega), if_pos (by omega), if_pos (by omega), if_pos (by simp), if_pos (by simp), if_pos (by omega), w64 (x := 2 * (q : Int)) (by omega) (by omega), w64 (x := (i : Int) + 2 * q) (by omega) (by omega), if_pos (by omega), if_pos (by omega), if_pos (by omega), w64 (x := (n : Int) + 1) (by omega) (by omega), show (n : Int) + 1 = ((n + 1 : Nat) : Int) by omega]
    rw [impl_sq_l0 hw d (n + 1) k _ (by omega) (by omega) (by simp; omega), List.append_assoc]
    rfl
theorem spec_sq_l0 {w : ByteArray} (hw : w.size ≤ 60) : ∀ (d n k : Nat) (acc : List ByteArray), n + d = (powL w 2).length → d + 10000 < k → acc.length ≤ n → spec_SquaresOf.l0 k w (powL w 2) acc n = some ((((powL w 2).drop n).map (sqS w)).foldl putW acc, 0)
  | 0, n, k, acc, hn, hk, ha => by
    obtain ⟨k, rfl⟩ := rounds_pos (show 0 < k by omega)
    simp only [spec_SquaresOf.l0]
    rw [if_neg (by omega), List.drop_of_length_le (by omega), List.map_nil, List.foldl_nil]
  | d + 1, n, k, acc, hn, hk, ha => by
    obtain ⟨k, rfl⟩ := rounds_pos (show 0 < k by omega)
    have hl := powL_len (k := 2) hw
    have hlt : n < (powL w 2).length := by omega
    have hmem : (powL w 2).getD n [] ∈ powL w 2 := by rw [List.getD_eq_getElem?_getD, List.getElem?_eq_getElem hlt]; exact List.getElem_mem hlt
    obtain ⟨i, q, h1, h2, h3, hx⟩ := (powL_mem (by omega)).mp hmem
    have hr : rd_L5 (powL w 2) (n : Int) = [(i : Int), (q : Int)] := by
      rw [← hx]; unfold rd_L5; simp
    rw [dropS hlt, hx, List.map_cons, List.foldl_cons]
    simp only [spec_SquaresOf.l0, hr, rd0, rd1]
    rw [if_pos (by omega), if_pos (by omega), if_pos (by simp), if_pos (by simp), if_pos (by omega), w64 (x := 2 * (q : Int)) (by omega) (by omega), w64 (x := (i : Int) + 2 * q) (by omega) (by omega), if_pos (by omega), if_pos (by omega), spec_l01Put_eq (by omega) (by omega), Option.bind_some, w64 (x := (n : Int) + 1) (by omega) (by omega), show (n : Int) + 1 = ((n + 1 : Nat) : Int) by omega]
    have hp := putW_len acc (w.extract (i : Int).toNat ((i : Int) + 2 * (q : Int)).toNat)
    rw [spec_sq_l0 hw d (n + 1) k _ (by omega) (by omega) (by omega)]
    rfl

theorem markText_l0 : ∀ (n k : Nat) (x : ByteArray), n < k → x.size + n ≤ 4611686018427387904 → ∃ t, laws_markText.l0 k (n : Int) x = some t
  | n, k, x, hk, hx => by
    obtain ⟨k, rfl⟩ := rounds_pos (show 0 < k by omega)
    simp only [laws_markText.l0]
    rcases Nat.eq_zero_or_pos n with h0 | h0
    · subst h0
      rw [if_neg (by omega), if_pos (by omega)]
      exact ⟨_, rfl⟩
    · rw [if_pos (by omega)]
      simp only [Option.bind_some]
      have hd : n / 10 < n := Nat.div_lt_self h0 (by omega)
      rw [if_pos (by rw [sn_len]; simp only [List.length_cons, List.length_nil]; omega), show Int.tdiv (n : Int) 10 = ((n / 10 : Nat) : Int) from rfl, w64 (by omega) (by omega)]
      refine markText_l0 (n / 10) k _ (by omega) ?_
      have : ∀ a b : ByteArray, (a ++ b).size = a.size + b.size := fun a b => by rw [← bo_len, bo_append, List.length_append, bo_len, bo_len]
      rw [this, sn_len]
      simp only [List.length_cons, List.length_nil]
      omega
def mtW (n : Nat) : ByteArray := (laws_markText.f (n + 1) (n : Int)).getD ⟨#[]⟩
theorem markText_eq {n k : Nat} (hn : n ≤ 100000000) (hk : n < k) : laws_markText.f k (n : Int) = some (mtW n) := by
  have h1 : ∃ t, laws_markText.f (n + 1) (n : Int) = some t := by
    unfold laws_markText.f
    by_cases h : (n : Int) ≤ 0
    · rw [if_pos h]; exact ⟨_, rfl⟩
    · rw [if_neg h]; exact markText_l0 n (n + 1) _ (by omega) (by show 0 + n ≤ _; omega)
  obtain ⟨t, ht⟩ := h1
  have h2 : ∀ d, laws_markText.f (n + 1 + d) (n : Int) = some t := by
    intro d
    induction d with
    | zero => exact ht
    | succ d ih => exact laws_markText.mono _ _ _ ih
  obtain ⟨d, rfl⟩ : ∃ d, k = n + 1 + d := ⟨k - n - 1, by omega⟩
  rw [h2 d]
  unfold mtW
  rw [ht]; rfl
theorem rdOf_getD (d : ByteArray) (l : List ByteArray) (i : Nat) : rdOf d l (i : Int) = l.getD i d := by unfold rdOf; simp
theorem eqStringS_eq {k : Nat} {a b : List ByteArray} (ha : a.length ≤ 1048576) (hk : a.length < k) : laws_eqStringS.f k a b = some (decide (a = b)) := by
  unfold laws_eqStringS.f
  by_cases hl : a.length = b.length
  · rw [if_pos (by omega)]
    exact eq_gen (fun k i => laws_eqStringS.l0 k a b i) a b ByteArray.empty 0 hl
      (fun k i _ hi => by
        simp only [laws_eqStringS.l0]
        rw [if_pos (by omega), if_pos (by omega), if_pos (by omega), w64 (by omega) (by omega), rdOf_getD, rdOf_getD]
        by_cases h1 : a.getD i ByteArray.empty = b.getD i ByteArray.empty
        · rw [if_pos h1, if_pos (toList_iff.mpr h1)]; rfl
        · rw [if_neg h1, if_neg (fun e => h1 (toList_iff.mp e))])
      (fun k _ => by simp only [laws_eqStringS.l0]; rw [if_neg (by omega)]) (by omega)
  · rw [if_neg (by omega), decide_eq_false (fun e => hl (by rw [e]))]
theorem markStringS_eq {k : Nat} {l : List ByteArray} (hl : l.length ≤ 1048576) (hk : 4000000 ≤ k) : laws_markStringS.f k l 1 = some (1 + (l.length : Int), marksOf (fun i => mtW (1 + i)) l.length) := by
  have := mark_gen (fun k x m i => laws_markStringS.l0 k x m i) (fun i => mtW (1 + i)) 1 2000000 1048576
    (fun k x i hk hi hb => by
      simp only [laws_markStringS.l0]
      rw [if_pos (by omega), show (1 : Int) + ((1 * i : Nat) : Int) = ((1 + i : Nat) : Int) by omega, markText_eq (by omega) (by omega)]
      simp only [Option.bind_some]
      rw [if_pos (by omega), w64 (by omega) (by omega), w64 (by omega) (by omega), Int.toNat_natCast]
      congr 1; omega)
    (fun k x _ => by simp only [laws_markStringS.l0]; rw [if_neg (by omega)])
    l.length 0 k l (by omega) hl (by omega) rfl
  unfold laws_markStringS.f
  simpa using this
theorem heldStringS_eq {k n : Nat} (hn : n ≤ 1048576) (hk : 4000000 ≤ k) : laws_heldStringS.f k (marksOf (fun i => mtW (1 + i)) n) 1 = some (1 + (n : Int)) := by
  have hl := marksOf_len (fun i => mtW (1 + i)) n
  have := held_gen (fun k m i => laws_heldStringS.l0 k (marksOf (fun i => mtW (1 + i)) n) m i) n 1 2000000
    (fun k i hk hi => by
      simp only [laws_heldStringS.l0]
      rw [if_pos (by omega), if_pos (by omega), show (1 : Int) + ((1 * i : Nat) : Int) = ((1 + i : Nat) : Int) by omega, markText_eq (by omega) (by omega)]
      simp only [Option.bind_some]
      rw [rdOf_getD, marksOf_getD _ _ _ hi, if_pos rfl, w64 (by omega) (by omega), w64 (by omega) (by omega)]
      congr 1; omega)
    (fun k _ => by simp only [laws_heldStringS.l0]; rw [if_neg (by omega)])
    n 0 k (by omega) (by omega)
  unfold laws_heldStringS.f
  simpa using this

def sqR (a0 : ByteArray) : List ByteArray × Int := if isW a0 = true then (sortW (sqsW a0), 0) else ([], 1)
theorem sqR_len (a0 : ByteArray) : (sqR a0).1.length ≤ 100000 := by
  unfold sqR
  cases hw : isW a0
  · simp
  · have := sortW_len (sqsW a0)
    have := sqsW_len (isW_size hw)
    simp only [if_true]; omega
theorem spec_SquaresOf_eq {m : Nat} (hm : 2000000 ≤ m) {a0 : ByteArray} (h0 : a0.size ≤ 140737488351232) (s0 : a0.size ≤ 1048576) : spec_SquaresOf.f m a0 = some (sqR a0) := by
  unfold spec_SquaresOf.f sqR
  rw [spec_l01Is_eq h0 (by omega), Option.bind_some]
  cases hw : isW a0
  · rfl
  · have hz := isW_size hw
    have hl := powL_len (k := 2) hz
    have := spec_l03Powers_eq (k := m) (w := a0) (m := 2) hz (by omega) (by omega) (by omega)
    rw [show ((2 : Nat) : Int) = 2 from rfl] at this
    rw [if_pos rfl, if_pos rfl, this, Option.bind_some, show (0 : Int) = ((0 : Nat) : Int) from rfl, spec_sq_l0 hz (powL a0 2).length 0 m [] (by omega) (by omega) (by simp), List.drop_zero]
    rw [show (List.map (sqS a0) (powL a0 2)) = sqsW a0 from rfl, sort_put]; rfl
theorem impl_SquaresOf_eq {m : Nat} (hm : 2000000 ≤ m) (a0 : ByteArray) : impl_SquaresOf.f m a0 = some (sqR a0) := by
  unfold impl_SquaresOf.f sqR
  rw [wordCode_1, Option.bind_some]
  cases hw : isW a0
  · rfl
  · have hz := isW_size hw
    have hl := powL_len (k := 2) hz
    have hs := sqsW_len hz
    have := impl_powersIn_eq (k := m) (w := a0) (m := 2) hz (by omega) (by omega) (by omega)
    rw [show ((2 : Nat) : Int) = 2 from rfl] at this
    rw [if_pos rfl, if_pos rfl, if_pos rfl, this, Option.bind_some, show (0 : Int) = ((0 : Nat) : Int) from rfl, impl_sq_l0 hz (powL a0 2).length 0 m [] (by omega) (by omega) (by simp), List.drop_zero]
    rw [show (List.map (sqS a0) (powL a0 2)) = sqsW a0 from rfl, List.nil_append]
    unfold impl_sorted.f
    rw [if_pos (by omega), Option.bind_some]; rfl
theorem FnExactSquaresOf : laws_FnExactSquaresOf.Pure := by
  intro a0 h0
  by_cases hs : (a0.size : Int) > 1048576
  · exact ⟨0, by unfold laws_FnExactSquaresOf.f; rw [if_pos hs]⟩
  · obtain ⟨K, hK⟩ : ∃ K : Nat, 10000000 ≤ K := ⟨_, Nat.le_refl _⟩
    refine ⟨K + 1 + 1, ?_⟩
    have hl := sqR_len a0
    unfold laws_FnExactSquaresOf.f
    rw [if_neg hs, spec_SquaresOf_eq (by omega) h0 (by omega), impl_SquaresOf_eq (by omega)]
    have hi : ∀ m, 2000000 ≤ m → impl_SquaresOf.f m a0 = some (sqR a0) := fun m hm => impl_SquaresOf_eq hm a0
    obtain ⟨r, hr⟩ : ∃ r, r = sqR a0 := ⟨_, rfl⟩
    rw [← hr] at hl hi ⊢
    simp only [Option.bind_some]
    rw [eqStringS_eq (by omega) (by omega)]
    simp only [Option.bind_some, decide_true, if_true, bne_self_eq_false, laws_FnExactSquaresOf.j0, Bool.false_eq_true, if_false]
    rw [markStringS_eq (by omega) (by omega)]
    simp only [Option.bind_some]
    rw [heldStringS_eq (by omega) (by omega)]
    simp only [Option.bind_some]
    rw [if_neg (by omega), if_pos trivial, hi _ (by omega)]
    simp only [Option.bind_some]
    rw [eqStringS_eq (by omega) (by omega)]
    simp only [Option.bind_some, decide_true, if_true, bne_self_eq_false, laws_FnExactSquaresOf.j1, Bool.false_eq_true, if_false]
    rw [heldStringS_eq (by omega) (by omega)]
    simp only [Option.bind_some]
    rw [if_neg (by omega), if_pos trivial]

end Go.Proofs.Ytmihfmhfgjnfcaa.Pure
