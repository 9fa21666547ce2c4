/- The plain part of the law FnExactLyndonParts: for every input that the law takes, the printed function of the law answers true once it has rounds enough. Conditions: those that stand in the statement (sizes of strings and slices, kinds of numbers), no other. -/
import Derived.Test.YtjnpobaampgakadQx5
import Derived.Test.YtjnpobaampgakadMath
import Derived.Test.YtjnpobaampgakadMath2
import Derived.Test.YtjnpobaampgakadMath4
namespace Go.Proofs.Ytjnpobaampgakad.Pure
open Go.RowKit Go.Proofs.Ytjnpobaampgakad.Q Go.Proofs.YtjnpobaampgakadW.PrintWords Go.Proofs.YtjnpobaampgakadW.PrintLast Go.Proofs.YtjnpobaampgakadW.PrintMore
set_option linter.unusedVariables false
set_option linter.unusedSimpArgs false

theorem spec_l01Is_eq {k : Nat} {w : ByteArray} (hw : w.size ≤ 140737488351232) (hk : w.size + 1 < k) : spec_l01Is.f k w = some (isW w) := by
  have h := find_gen (fun k i => spec_l01Is.l0 k w i) w.size (fun i => !okB (bt w i)) (fun _ => false) (decide ((w.size : Int) ≤ 60)) 0
    (fun k i _ hi => by
      simp only [spec_l01Is.l0]
      rw [if_pos (by omega), if_pos (by omega)]
      by_cases h1 : bt w i < 97
      · rw [if_pos h1]
        have : okB (bt w i) = false := by unfold okB; simp; omega
        simp [this]
      · rw [if_neg h1]
        by_cases h2 : bt w i > 101
        · rw [if_pos h2]
          have : okB (bt w i) = false := by unfold okB; simp; omega
          simp [this]
        · rw [if_neg h2, w64 (by omega) (by omega)]
          have : okB (bt w i) = true := by unfold okB; simp; omega
          simp [this])
    (fun k _ => by simp only [spec_l01Is.l0]; rw [if_neg (by omega)])
    w.size k 0 (by omega) (by omega)
  unfold spec_l01Is.f
  rw [show (0 : Int) = ((0 : Nat) : Int) from rfl, h]
  congr 1
  unfold isW
  cases hf : findE (fun i => !okB (bt w i)) 0 w.size with
  | some j =>
    obtain ⟨_, h1, h2, _⟩ := findE_some hf
    have : (bytesOf w).all okB = false := by
      rw [Bool.eq_false_iff]
      intro h3
      rw [List.all_eq_true] at h3
      have hj : j < (bytesOf w).length := by rw [bo_len]; omega
      have := h3 _ (List.getElem_mem hj)
      rw [bt_nat, getD_eq _ _ hj, this] at h2
      cases h2
    simp [this]
  | none =>
    have : (bytesOf w).all okB = true := by
      rw [List.all_eq_true]
      intro x hx
      obtain ⟨j, hj, rfl⟩ := List.mem_iff_getElem.mp hx
      have := findE_none.mp hf j (Nat.zero_le _) (by rw [bo_len] at hj; omega)
      rw [bt_nat, getD_eq _ _ hj] at this
      simpa using this
    simp only [this, Bool.and_true, decide_eq_decide]
    omega
theorem spec_not_word {w : ByteArray} (h : w.size > 60) : isW w = false := by unfold isW; simp; omega

theorem wordCode_1 (a : ByteArray) : impl_wordCode.f () [a] = some (if isW a then 0 else 1) := by unfold impl_wordCode.f; simp
theorem wordCode_2 (a b : ByteArray) : impl_wordCode.f () [a, b] = some (if isW a && isW b then 0 else 1) := by unfold impl_wordCode.f; simp

theorem spec_l02Lyndon_eq {k : Nat} {w : ByteArray} (hw : w.size ≤ 1048576) (hk : w.size + 1 < k) : spec_l02Lyndon.f k w = some (lynB w) := by
  rcases Nat.eq_zero_or_pos w.size with h0 | h0
  · obtain ⟨k, rfl⟩ := rounds_pos (show 0 < k by omega)
    unfold spec_l02Lyndon.f
    simp only [spec_l02Lyndon.l0]
    rw [if_neg (by omega)]
    unfold lynB
    rw [h0]
    rfl
  have h := find_gen (fun k i => spec_l02Lyndon.l0 k w i) w.size (fun i => !lessI (bytesOf w) ((bytesOf w).drop i)) (fun _ => false) true 0
    (fun k i _ hi => by
      simp only [spec_l02Lyndon.l0]
      rw [if_pos (by omega), if_pos (by omega), if_pos (by omega), w64 (by omega) (by omega)]
      rw [less_bo, bo_extract, Int.toNat_natCast, ← bo_len, List.take_length]
      cases lessI (bytesOf w) ((bytesOf w).drop i) <;> simp)
    (fun k _ => by simp only [spec_l02Lyndon.l0]; rw [if_neg (by omega), decide_eq_true (by omega)])
    (w.size - 1) k 1 (by omega) (by omega)
  unfold spec_l02Lyndon.f
  rw [show (1 : Int) = ((1 : Nat) : Int) from rfl, h]
  unfold lynB
  rw [decide_eq_true h0]
  cases findE (fun i => !lessI (bytesOf w) ((bytesOf w).drop i)) 1 (w.size - 1) <;> rfl

theorem impl_isLyndon_eq {k : Nat} {w : ByteArray} (hw : w.size ≤ 1048576) (hk : w.size + 1 < k) : impl_isLyndon.f k w = some (lynB w) := by
  rcases Nat.eq_zero_or_pos w.size with h0 | h0
  · obtain ⟨k, rfl⟩ := rounds_pos (show 0 < k by omega)
    unfold impl_isLyndon.f
    simp only [impl_isLyndon.l0]
    rw [if_neg (by omega), (str_empty h0).1]
    unfold lynB
    rw [h0]
    rfl
  have h := find_gen (fun k i => impl_isLyndon.l0 k w i) w.size (fun i => !lessI (bytesOf w) ((bytesOf w).drop i ++ (bytesOf w).take i)) (fun _ => false) true 0
    (fun k i _ hi => by
      simp only [impl_isLyndon.l0]
      rw [if_pos (by omega), if_pos (by omega), if_pos (by omega), if_pos (by rw [ext_size, ext_size]; omega), w64 (by omega) (by omega)]
      rw [less_bo, bo_append, bo_extract, bo_extract, Int.toNat_natCast, List.drop_zero, ← bo_len, List.take_length]
      cases lessI (bytesOf w) ((bytesOf w).drop i ++ (bytesOf w).take i) <;> simp)
    (fun k _ => by simp only [impl_isLyndon.l0]; rw [if_neg (by omega), (str_nonempty (by omega)).1]; rfl)
    (w.size - 1) k 1 (by omega) (by omega)
  unfold impl_isLyndon.f
  rw [show (1 : Int) = ((1 : Nat) : Int) from rfl, h]
  cases hf : findE (fun i => !lessI (bytesOf w) ((bytesOf w).drop i ++ (bytesOf w).take i)) 1 (w.size - 1) with
  | none =>
    have : lynB w = true := by
      rw [lynB_iff, lyn_iff]
      refine ⟨fun k h1 h2 => ?_, h0⟩
      have := findE_none.mp hf k (by omega) (by rw [bo_len] at h2; omega)
      simpa using this
    rw [this]
  | some j =>
    obtain ⟨h1, h2, h3, _⟩ := findE_some hf
    have : lynB w = false := by
      rw [Bool.eq_false_iff, ne_eq, lynB_iff, lyn_iff]
      rintro ⟨h4, _⟩
      have := h4 j (by omega) (by rw [bo_len]; omega)
      rw [this] at h3; cases h3
    rw [this]

def lynD (w : ByteArray) : Nat → Nat
  | 0 => 0
  | n + 1 => if lynB (w.extract 0 (n + 1)) = true then n + 1 else lynD w n
theorem lyn_one {w : ByteArray} (h : w.size = 1) : lynB w = true := by
  rw [lynB_iff]
  refine ⟨fun k h1 h2 => ?_, by omega⟩
  rw [bo_len] at h2; omega
theorem lynD_one {w : ByteArray} (h : 0 < w.size) : lynD w 1 = 1 := by
  simp only [lynD]
  rw [if_pos (lyn_one (by rw [ext_size]; omega))]
theorem lynD_le {w : ByteArray} (h : 0 < w.size) : ∀ n, 1 ≤ n → 1 ≤ lynD w n ∧ lynD w n ≤ n
  | 0, h1 => by omega
  | 1, _ => by rw [lynD_one h]; omega
  | n + 2, _ => by
    have := lynD_le h (n + 1) (by omega)
    rw [lynD]
    split <;> omega
theorem lynD_fold (w : ByteArray) : ∀ c i, loopS (fun n s => if lynB (w.extract 0 n) = true then n else s) (i + 1) c (lynD w i) = lynD w (i + c)
  | 0, i => rfl
  | c + 1, i => by
    simp only [loopS]
    rw [show i + (c + 1) = (i + 1) + c by omega, ← lynD_fold w c (i + 1)]
    rfl
def partF : Nat → ByteArray → List ByteArray
  | 0, _ => []
  | f + 1, w => if w.size = 0 then [] else w.extract 0 (lynD w w.size) :: partF f (w.extract (lynD w w.size) w.size)
def partL (w : ByteArray) : List ByteArray := partF w.size w
theorem partF_len : ∀ f w, (partF f w).length ≤ f
  | 0, _ => Nat.le_refl _
  | f + 1, w => by
    simp only [partF]
    split
    · simp
    · have := partF_len f (w.extract (lynD w w.size) w.size)
      simp; omega
theorem partL_len (w : ByteArray) : (partL w).length ≤ w.size := partF_len _ _
theorem spec_Lyn_l1 {k : Nat} {w : ByteArray} (hw : w.size ≤ 60) (h0 : 0 < w.size) (acc : List ByteArray) (ha : acc.length ≤ 1000) (hk : 1000 ≤ k) :
    spec_LyndonParts.l1 (k + (w.size - 1) + 1) w acc 1 2 = spec_LyndonParts.l0 k (w.extract (lynD w w.size) w.size) (acc ++ [w.extract 0 (lynD w w.size)]) := by
  have h := fold_on (fun k (s : Nat) i => spec_LyndonParts.l1 k w acc s i) (fun k s => spec_LyndonParts.l0 k (w.extract s w.size) (acc ++ [w.extract 0 s])) (w.size + 1) (fun n s => if lynB (w.extract 0 n) = true then n else s) (fun _ s => s ≤ w.size) 1000
    (fun k i s hk hi hs => by
      simp only [spec_LyndonParts.l1]
      rw [if_pos (by omega), if_pos (by omega), Int.toNat_natCast, spec_l02Lyndon_eq (by rw [ext_size]; omega) (by rw [ext_size]; omega), w64 (by omega) (by omega)]
      simp only [Option.bind_some]
      cases lynB (w.extract 0 i) <;> simp)
    (fun i s hi hs => by
      by_cases h : lynB (w.extract 0 i) = true
      · simp only [h, if_true]; omega
      · simp only [h, if_false]; exact hs)
    (fun k s hk hs => by
      simp only [spec_LyndonParts.l1]
      rw [if_neg (by omega), if_pos (by omega), if_pos (by omega), if_pos (by omega), Int.toNat_natCast])
    (w.size - 1) k 2 1 (by omega) hk (by omega)
  have e := lynD_fold w (w.size - 1) 1
  rw [lynD_one h0, show 1 + (w.size - 1) = w.size by omega] at e
  rw [e] at h
  exact h.1
theorem spec_Lyn_l0 : ∀ (f : Nat) (w : ByteArray) (acc : List ByteArray) (k : Nat), w.size ≤ f → f ≤ 60 → acc.length + f ≤ 1000 → f * 100 + 1000 < k → spec_LyndonParts.l0 k w acc = some (acc ++ partF f w, 0)
  | 0, w, acc, k, hf, _, _, hk => by
    obtain ⟨k, rfl⟩ := rounds_pos (show 0 < k by omega)
    simp only [spec_LyndonParts.l0, partF]
    rw [if_neg (by omega), List.append_nil]
  | f + 1, w, acc, k, hf, h60, ha, hk => by
    simp only [partF]
    by_cases hz : w.size = 0
    · obtain ⟨k, rfl⟩ := rounds_pos (show 0 < k by omega)
      simp only [spec_LyndonParts.l0]
      rw [if_neg (by omega), if_pos hz, List.append_nil]
    · obtain ⟨l1, l2⟩ := lynD_le (w := w) (by omega) w.size (by omega)
      obtain ⟨k, rfl⟩ : ∃ m, k = m + (w.size - 1) + 1 + 1 := ⟨k - (w.size - 1) - 1 - 1, by omega⟩
      simp only [spec_LyndonParts.l0]
      rw [if_pos (by omega), spec_Lyn_l1 (by omega) (by omega) acc (by omega) (by omega), if_neg hz]
      rw [spec_Lyn_l0 f _ _ k (by rw [ext_size]; omega) (by omega) (by simp; omega) (by omega)]
      simp
theorem spec_Lyn_eq {k : Nat} {w : ByteArray} (hw : w.size ≤ 60) (hk : 100000 ≤ k) : spec_LyndonParts.l0 k w [] = some (partL w, 0) := by
  have := spec_Lyn_l0 w.size w [] k (Nat.le_refl _) hw (by simp; omega) (by omega)
  simpa [partL] using this
theorem impl_Lyn_l1 {w : ByteArray} (hw : w.size ≤ 60) (h0 : 0 < w.size) (acc : List ByteArray) (ha : acc.length ≤ 1000) : ∀ n, 1 ≤ n → n ≤ w.size →
    ∃ c', c' ≤ n ∧ ∀ k, 1000 ≤ k → impl_LyndonParts.l1 (k + c') w acc n = impl_LyndonParts.l0 k (w.extract (lynD w n) w.size) (acc ++ [w.extract 0 (lynD w n)])
  | 0, h, _ => by omega
  | n + 1, h, h' => by
    have hs : ∀ k, 1000 ≤ k → impl_LyndonParts.l1 (k + 1) w acc ((n + 1 : Nat) : Int) = if lynB (w.extract 0 (n + 1)) = true then impl_LyndonParts.l0 k (w.extract (n + 1) w.size) (acc ++ [w.extract 0 (n + 1)]) else impl_LyndonParts.l1 k w acc (n : Int) := fun k hk => by
      simp only [impl_LyndonParts.l1]
      rw [if_pos (by omega), if_pos (by omega), Int.toNat_natCast, impl_isLyndon_eq (by rw [ext_size]; omega) (by rw [ext_size]; omega)]
      simp only [Option.bind_some]
      rw [w64 (by omega) (by omega), show ((n + 1 : Nat) : Int) - 1 = (n : Int) by omega]
      by_cases hg : lynB (w.extract 0 (n + 1)) = true
      · rw [if_pos hg, if_pos hg, if_pos (by omega)]
      · rw [if_neg hg, if_neg hg]
    simp only [lynD]
    by_cases hg : lynB (w.extract 0 (n + 1)) = true
    · refine ⟨1, by omega, fun k hk => ?_⟩
      rw [hs k hk, if_pos hg, if_pos hg]
    · rcases Nat.eq_zero_or_pos n with hn | hn
      · subst hn
        exact absurd (lyn_one (by rw [ext_size]; omega)) hg
      · obtain ⟨c', h1, h2⟩ := impl_Lyn_l1 hw h0 acc ha n hn (by omega)
        refine ⟨c' + 1, by omega, fun k hk => ?_⟩
        rw [show k + (c' + 1) = (k + c') + 1 by omega, hs _ (by omega), if_neg hg, if_neg hg, h2 k hk]
theorem impl_Lyn_l0 : ∀ (f : Nat) (w : ByteArray) (acc : List ByteArray) (k : Nat), w.size ≤ f → f ≤ 60 → acc.length + f ≤ 1000 → f * 100 + 2000 < k → impl_LyndonParts.l0 k w acc = some (acc ++ partF f w, 0)
  | 0, w, acc, k, hf, _, _, hk => by
    obtain ⟨k, rfl⟩ := rounds_pos (show 0 < k by omega)
    simp only [impl_LyndonParts.l0, partF]
    rw [if_pos (str_empty (by omega)).2.2.1, List.append_nil]
  | f + 1, w, acc, k, hf, h60, ha, hk => by
    simp only [partF]
    by_cases hz : w.size = 0
    · obtain ⟨k, rfl⟩ := rounds_pos (show 0 < k by omega)
      simp only [impl_LyndonParts.l0]
      rw [if_pos (str_empty hz).2.2.1, if_pos hz, List.append_nil]
    · obtain ⟨l1, l2⟩ := lynD_le (w := w) (by omega) w.size (by omega)
      obtain ⟨c', h1, h2⟩ := impl_Lyn_l1 (w := w) (by omega) (by omega) acc (by omega) w.size (by omega) (Nat.le_refl _)
      obtain ⟨k, rfl⟩ : ∃ m, k = m + c' + 1 := ⟨k - c' - 1, by omega⟩
      simp only [impl_LyndonParts.l0]
      rw [if_neg (str_nonempty hz).2.2.1, h2 k (by omega), if_neg hz]
      rw [impl_Lyn_l0 f _ _ k (by rw [ext_size]; omega) (by omega) (by simp; omega) (by omega)]
      simp
theorem impl_Lyn_eq {k : Nat} {w : ByteArray} (hw : w.size ≤ 60) (hk : 100000 ≤ k) : impl_LyndonParts.l0 k w [] = some (partL w, 0) := by
  have := impl_Lyn_l0 w.size w [] k (Nat.le_refl _) hw (by simp; omega) (by omega)
  simpa [partL] using this

theorem markText_l0 : ∀ (n k : Nat) (x : ByteArray), n < k → x.size + n ≤ 4611686018427387904 → ∃ t, laws_markText.l0 k (n : Int) x = some t
  | n, k, x, hk, hx => by
    obtain ⟨k, rfl⟩ := rounds_pos (show 0 < k by omega)
    simp only [laws_markText.l0]
    rcases Nat.eq_zero_or_pos n with h0 | h0
    · subst h0
      rw [if_neg (by omega), if_pos (by omega)]
      exact ⟨_, rfl⟩
    · rw [if_pos (by omega)]
      simp only [Option.bind_some]
      have hd : n / 10 < n := Nat.div_lt_self h0 (by omega)
      rw [if_pos (by rw [sn_len]; simp only [List.length_cons, List.length_nil]; omega), show Int.tdiv (n : Int) 10 = ((n / 10 : Nat) : Int) from rfl, w64 (by omega) (by omega)]
      refine markText_l0 (n / 10) k _ (by omega) ?_
      have : ∀ a b : ByteArray, (a ++ b).size = a.size + b.size := fun a b => by rw [← bo_len, bo_append, List.length_append, bo_len, bo_len]
      rw [this, sn_len]
      simp only [List.length_cons, List.length_nil]
      omega
def mtW (n : Nat) : ByteArray := (laws_markText.f (n + 1) (n : Int)).getD ⟨#[]⟩
theorem markText_eq {n k : Nat} (hn : n ≤ 100000000) (hk : n < k) : laws_markText.f k (n : Int) = some (mtW n) := by
  have h1 : ∃ t, laws_markText.f (n + 1) (n : Int) = some t := by
    unfold laws_markText.f
    by_cases h : (n : Int) ≤ 0
    · rw [if_pos h]; exact ⟨_, rfl⟩
    · rw [if_neg h]; exact markText_l0 n (n + 1) _ (by omega) (by show 0 + n ≤ _; omega)
  obtain ⟨t, ht⟩ := h1
  have h2 : ∀ d, laws_markText.f (n + 1 + d) (n : Int) = some t := by
    intro d
    induction d with
    | zero => exact ht
    | succ d ih => exact laws_markText.mono _ _ _ ih
  obtain ⟨d, rfl⟩ : ∃ d, k = n + 1 + d := ⟨k - n - 1, by omega⟩
  rw [h2 d]
  unfold mtW
  rw [ht]; rfl
theorem rdOf_getD (d : ByteArray) (l : List ByteArray) (i : Nat) : rdOf d l (i : Int) = l.getD i d := by unfold rdOf; simp
theorem eqStringS_eq {k : Nat} {a b : List ByteArray} (ha : a.length ≤ 1048576) (hk : a.length < k) : laws_eqStringS.f k a b = some (decide (a = b)) := by
  unfold laws_eqStringS.f
  by_cases hl : a.length = b.length
  · rw [if_pos (by omega)]
    exact eq_gen (fun k i => laws_eqStringS.l0 k a b i) a b ByteArray.empty 0 hl
      (fun k i _ hi => by
        simp only [laws_eqStringS.l0]
        rw [if_pos (by omega), if_pos (by omega), if_pos (by omega), w64 (by omega) (by omega), rdOf_getD, rdOf_getD]
        by_cases h1 : a.getD i ByteArray.empty = b.getD i ByteArray.empty
        · rw [if_pos h1, if_pos (toList_iff.mpr h1)]; rfl
        · rw [if_neg h1, if_neg (fun e => h1 (toList_iff.mp e))])
      (fun k _ => by simp only [laws_eqStringS.l0]; rw [if_neg (by omega)]) (by omega)
  · rw [if_neg (by omega), decide_eq_false (fun e => hl (by rw [e]))]
theorem markStringS_eq {k : Nat} {l : List ByteArray} (hl : l.length ≤ 1048576) (hk : 4000000 ≤ k) : laws_markStringS.f k l 1 = some (1 + (l.length : Int), marksOf (fun i => mtW (1 + i)) l.length) := by
  have := mark_gen (fun k x m i => laws_markStringS.l0 k x m i) (fun i => mtW (1 + i)) 1 2000000 1048576
    (fun k x i hk hi hb => by
      simp only [laws_markStringS.l0]
      rw [if_pos (by omega), show (1 : Int) + ((1 * i : Nat) : Int) = ((1 + i : Nat) : Int) by omega, markText_eq (by omega) (by omega)]
      simp only [Option.bind_some]
      rw [if_pos (by omega), w64 (by omega) (by omega), w64 (by omega) (by omega), Int.toNat_natCast]
      congr 1; omega)
    (fun k x _ => by simp only [laws_markStringS.l0]; rw [if_neg (by omega)])
    l.length 0 k l (by omega) hl (by omega) rfl
  unfold laws_markStringS.f
  simpa using this
theorem heldStringS_eq {k n : Nat} (hn : n ≤ 1048576) (hk : 4000000 ≤ k) : laws_heldStringS.f k (marksOf (fun i => mtW (1 + i)) n) 1 = some (1 + (n : Int)) := by
  have hl := marksOf_len (fun i => mtW (1 + i)) n
  have := held_gen (fun k m i => laws_heldStringS.l0 k (marksOf (fun i => mtW (1 + i)) n) m i) n 1 2000000
    (fun k i hk hi => by
      simp only [laws_heldStringS.l0]
      rw [if_pos (by omega), if_pos (by omega), show (1 : Int) + ((1 * i : Nat) : Int) = ((1 + i : Nat) : Int) by omega, markText_eq (by omega) (by omega)]
      simp only [Option.bind_some]
      rw [rdOf_getD, marksOf_getD _ _ _ hi, if_pos rfl, w64 (by omega) (by omega), w64 (by omega) (by omega)]
      congr 1; omega)
    (fun k _ => by simp only [laws_heldStringS.l0]; rw [if_neg (by omega)])
    n 0 k (by omega) (by omega)
  unfold laws_heldStringS.f
  simpa using this

theorem FnExactLyndonParts : laws_FnExactLyndonParts.Pure := by
  intro a0 h0
  by_cases hs : (a0.size : Int) > 1048576
  · exact ⟨0, by unfold laws_FnExactLyndonParts.f; rw [if_pos hs]⟩
  · obtain ⟨K, hK⟩ : ∃ K : Nat, 10000000 ≤ K := ⟨_, Nat.le_refl _⟩
    refine ⟨K + 1 + 1, ?_⟩
    obtain ⟨r, hr⟩ : ∃ r, r = (if isW a0 then (partL a0, (0 : Int)) else ([], 1)) := ⟨_, rfl⟩
    have hl : r.1.length ≤ 100000 := by
      rw [hr]
      cases hw : isW a0
      · simp
      · have hz0 := isW_size hw
        have : (partL a0).length ≤ 100000 := by have := partL_len a0; omega
        simpa using this
    have e1 : ∀ m, 10000000 ≤ m → spec_LyndonParts.f m a0 = some r := fun m hm => by
      rw [hr]; unfold spec_LyndonParts.f
      rw [spec_l01Is_eq h0 (by omega)]
      cases hw : isW a0
      · simp
      · have hz := isW_size hw
        simpa using spec_Lyn_eq hz (show 100000 ≤ m by omega)
    have e2 : ∀ m, 10000000 ≤ m → impl_LyndonParts.f m a0 = some r := fun m hm => by
      rw [hr]; unfold impl_LyndonParts.f
      rw [wordCode_1]
      cases hw : isW a0
      · simp
      · have hz := isW_size hw
        simpa using impl_Lyn_eq hz (show 100000 ≤ m by omega)
    unfold laws_FnExactLyndonParts.f
    rw [if_neg hs, e1 _ (by omega), e2 _ (by omega)]
    simp only [Option.bind_some]
    rw [eqStringS_eq (by omega) (by omega)]
    simp only [Option.bind_some, decide_true, if_true, bne_self_eq_false, laws_FnExactLyndonParts.j0, Bool.false_eq_true, if_false]
    rw [markStringS_eq (by omega) (by omega)]
    simp only [Option.bind_some]
    rw [heldStringS_eq (by omega) (by omega)]
    simp only [Option.bind_some]
    rw [if_neg (by omega), if_pos trivial, e2 _ (by omega)]
    simp only [Option.bind_some]
    rw [eqStringS_eq (by omega) (by omega)]
    simp only [Option.bind_some, decide_true, if_true, bne_self_eq_false, laws_FnExactLyndonParts.j1, Bool.false_eq_true, if_false]
    rw [heldStringS_eq (by omega) (by omega)]
    simp only [Option.bind_some]
    rw [if_neg (by omega), if_pos trivial]

end Go.Proofs.Ytjnpobaampgakad.Pure
