/- The plain part of the law FnExactEndLengths: for every input that the law takes, the printed function of the law answers true once it has rounds enough. Conditions: those that stand in the statement (sizes of strings and slices, kinds of numbers), no other. -/
import Derived.Test.YtjnpobaampgakadQx4
import Derived.Test.YtjnpobaampgakadMath
import Derived.Test.YtjnpobaampgakadMath4
namespace Go.Proofs.Ytjnpobaampgakad.Pure
open Go.RowKit Go.Proofs.Ytjnpobaampgakad.Q Go.Proofs.YtjnpobaampgakadW.PrintWords Go.Proofs.YtjnpobaampgakadW.PrintLast Go.Proofs.YtjnpobaampgakadW.PrintMore
set_option linter.unusedVariables false
set_option linter.unusedSimpArgs false

theorem spec_l01Is_eq {k : Nat} {w : ByteArray} (hw : w.size ≤ 140737488351232) (hk : w.size + 1 < k) : spec_l01Is.f k w = some (isW w) := by
  have h := find_gen (fun k i => spec_l01Is.l0 k w i) w.size (fun i => !okB (bt w i)) (fun _ => false) (decide ((w.size : Int) ≤ 60)) 0
    (fun k i _ hi => by
      simp only [spec_l01Is.l0]
      rw [if_pos (by omega), if_pos (by omega)]
      by_cases h1 : bt w i < 97
      · rw [if_pos h1]
        have : okB (bt w i) = false := by unfold okB; simp; omega
        simp [this]
      · rw [if_neg h1]
        by_cases h2 : bt w i > 101
        · rw [if_pos h2]
          have : okB (bt w i) = false := by unfold okB; simp; omega
          simp [this]
        · rw [if_neg h2, w64 (by omega) (by omega)]
          have : okB (bt w i) = true := by unfold okB; simp; omega
          simp [this])
    (fun k _ => by simp only [spec_l01Is.l0]; rw [if_neg (by omega)])
    w.size k 0 (by omega) (by omega)
  unfold spec_l01Is.f
  rw [show (0 : Int) = ((0 : Nat) : Int) from rfl, h]
  congr 1
  unfold isW
  cases hf : findE (fun i => !okB (bt w i)) 0 w.size with
  | some j =>
    obtain ⟨_, h1, h2, _⟩ := findE_some hf
    have : (bytesOf w).all okB = false := by
      rw [Bool.eq_false_iff]
      intro h3
      rw [List.all_eq_true] at h3
      have hj : j < (bytesOf w).length := by rw [bo_len]; omega
      have := h3 _ (List.getElem_mem hj)
      rw [bt_nat, getD_eq _ _ hj, this] at h2
      cases h2
    simp [this]
  | none =>
    have : (bytesOf w).all okB = true := by
      rw [List.all_eq_true]
      intro x hx
      obtain ⟨j, hj, rfl⟩ := List.mem_iff_getElem.mp hx
      have := findE_none.mp hf j (Nat.zero_le _) (by rw [bo_len] at hj; omega)
      rw [bt_nat, getD_eq _ _ hj] at this
      simpa using this
    simp only [this, Bool.and_true, decide_eq_decide]
    omega
theorem spec_not_word {w : ByteArray} (h : w.size > 60) : isW w = false := by unfold isW; simp; omega

theorem wordCode_1 (a : ByteArray) : impl_wordCode.f () [a] = some (if isW a then 0 else 1) := by unfold impl_wordCode.f; simp
theorem wordCode_2 (a b : ByteArray) : impl_wordCode.f () [a, b] = some (if isW a && isW b then 0 else 1) := by unfold impl_wordCode.f; simp

theorem impl_reversed_eq {w : ByteArray} (h : w.size ≤ 1048576) : impl_reversed.f w = some (revW w) := by unfold impl_reversed.f; rw [if_pos (by omega)]

def isPal (w : ByteArray) : Bool := decide (w = revW w)
theorem impl_isPalindrome_eq {w : ByteArray} (h : w.size ≤ 1048576) : impl_isPalindrome.f w = some (isPal w) := by
  unfold impl_isPalindrome.f isPal
  rw [impl_reversed_eq h]
  simp [toList_beq]
theorem isPal_iff (w : ByteArray) : isPal w = true ↔ ∀ i, i < w.size → bt w i = bt w ((w.size - 1 - i : Nat) : Int) := by
  unfold isPal
  rw [decide_eq_true_iff]
  have h1 : w = revW w ↔ bytesOf w = (bytesOf w).reverse := by
    constructor
    · intro h; rw [← bo_rev, ← h]
    · intro h; apply bo_inj; rw [bo_rev]; exact h
  rw [h1]
  have hb : ∀ i, i < w.size → bt w ((w.size - 1 - i : Nat) : Int) = ((bytesOf w).reverse).getD i 0 := fun i hi => by
    rw [bt_nat, List.getD_eq_getElem?_getD, List.getD_eq_getElem?_getD, List.getElem?_reverse (by rw [bo_len]; exact hi), bo_len]
  constructor
  · intro h i hi
    rw [hb i hi, ← h, bt_nat]
  · intro h
    apply List.ext_getElem (by simp)
    intro i h2 h3
    have hi : i < w.size := by rw [bo_len] at h2; exact h2
    have := h i hi
    rw [hb i hi, bt_nat, getD_eq _ _ h2, getD_eq _ _ h3] at this
    exact this
theorem spec_l04Is_l0 (w : ByteArray) (hw : w.size ≤ 1048576) : ∀ (d i k : Nat), 2 * i + d = w.size → d < k → (∀ j, j < i → bt w j = bt w ((w.size - 1 - j : Nat) : Int)) →
    spec_l04Is.l0 k w i ((w.size : Int) - 1 - i) = some (isPal w)
  | 0, i, k, hd, hk, hp => by
    obtain ⟨k, rfl⟩ := rounds_pos (show 0 < k by omega)
    simp only [spec_l04Is.l0]
    rw [if_neg (by omega)]
    congr 1
    symm
    rw [isPal_iff]
    intro j hj
    by_cases h : j < i
    · exact hp j h
    · have := hp (w.size - 1 - j) (by omega)
      rw [this]; congr 1; omega
  | 1, i, k, hd, hk, hp => by
    obtain ⟨k, rfl⟩ := rounds_pos (show 0 < k by omega)
    simp only [spec_l04Is.l0]
    rw [if_neg (by omega)]
    congr 1
    symm
    rw [isPal_iff]
    intro j hj
    rcases Nat.lt_trichotomy j i with h | h | h
    · exact hp j h
    · congr 1; omega
    · have := hp (w.size - 1 - j) (by omega)
      rw [this]; congr 1; omega
  | d + 2, i, k, hd, hk, hp => by
    obtain ⟨k, rfl⟩ := rounds_pos (show 0 < k by omega)
    simp only [spec_l04Is.l0]
    rw [if_pos (by omega), if_pos (by omega), if_pos (by omega), if_pos (by omega), if_pos (by omega)]
    have e : (w.size : Int) - 1 - i = ((w.size - 1 - i : Nat) : Int) := by omega
    by_cases h : bt w i = bt w ((w.size : Int) - 1 - i)
    · rw [if_pos h, w64 (by omega) (by omega), w64 (by omega) (by omega)]
      have := spec_l04Is_l0 w hw d (i + 1) k (by omega) (by omega) (fun j hj => by
        by_cases e2 : j = i
        · subst e2; rw [h, e]
        · exact hp j (by omega))
      rw [← this]
      congr 1
      omega
    · rw [if_neg h]
      congr 1
      symm
      rw [Bool.eq_false_iff]
      intro h2
      rw [isPal_iff] at h2
      exact h (by rw [h2 i (by omega), e])
theorem spec_l04Is_eq {k : Nat} {w : ByteArray} (hw : w.size ≤ 1048576) (hk : w.size < k) : spec_l04Is.f k w = some (isPal w) := by
  unfold spec_l04Is.f
  rw [w64 (by omega) (by omega)]
  have := spec_l04Is_l0 w hw w.size 0 k (by omega) hk (fun j hj => absurd hj (Nat.not_lt_zero _))
  simpa using this

def endN (w : ByteArray) : Nat := match findE (fun i => isPal (w.extract i w.size)) 0 w.size with | some i => w.size - i | none => 0
theorem endN_le (w : ByteArray) : endN w ≤ w.size := by unfold endN; split <;> omega
theorem spec_l04End_eq {k : Nat} {w : ByteArray} (hw : w.size ≤ 1048576) (hk : 2 * w.size + 2 < k) : spec_l04End.f k w = some (endN w : Int) := by
  have h := find_gen (fun k i => spec_l04End.l0 k w i) w.size (fun i => isPal (w.extract i w.size)) (fun i => ((w.size - i : Nat) : Int)) 0 (w.size + 1)
    (fun k i hk hi => by
      simp only [spec_l04End.l0]
      rw [if_pos (by omega), if_pos (by omega), if_pos (by omega), Int.toNat_natCast, spec_l04Is_eq (by rw [ext_size]; omega) (by rw [ext_size]; omega), w64 (by omega) (by omega), w64 (by omega) (by omega)]
      simp only [Option.bind_some]
      rw [show (w.size : Int) - i = ((w.size - i : Nat) : Int) by omega]; rfl)
    (fun k hk => by simp only [spec_l04End.l0]; rw [if_neg (by omega)])
    w.size k 0 (by omega) (by omega)
  unfold spec_l04End.f endN
  rw [show (0 : Int) = ((0 : Nat) : Int) from rfl, h]
  cases findE (fun i => isPal (w.extract i w.size)) 0 w.size <;> rfl
theorem pal_empty (w : ByteArray) (h : w.size = 0) : isPal w = true := by
  rw [isPal_iff]; intro i hi; omega
theorem impl_ending_eq {k : Nat} {w : ByteArray} (hw : w.size ≤ 1048576) (hk : w.size + 1 < k) : impl_ending.f k w = some (endN w : Int) := by
  have h := until_gen (fun k i => impl_ending.l0 k w i) w.size (fun i => isPal (w.extract i w.size)) (fun i => ((w.size - i : Nat) : Int)) 0
    (fun k i hk hi => by
      simp only [impl_ending.l0]
      rw [if_pos (by omega), if_pos (by omega), Int.toNat_natCast, impl_isPalindrome_eq (by rw [ext_size]; omega), w64 (by omega) (by omega), w64 (by omega) (by omega)]
      simp only [Option.bind_some]
      rw [show (w.size : Int) - i = ((w.size - i : Nat) : Int) by omega]; rfl)
    (pal_empty _ (by rw [ext_size]; omega))
    w.size k 0 (by omega) (by omega)
  unfold impl_ending.f endN
  rw [show (0 : Int) = ((0 : Nat) : Int) from rfl, h]
  cases findE (fun i => isPal (w.extract i w.size)) 0 w.size with
  | some i => rfl
  | none => simp

def endL (w : ByteArray) : List Int := gath (fun _ => true) (fun n => (endN (w.extract 0 n) : Int)) 1 w.size
theorem endL_len (w : ByteArray) : (endL w).length ≤ w.size := gath_len _ _ _ _
theorem spec_EndLengths_eq {k : Nat} {w : ByteArray} (hw : w.size ≤ 60) (hk : 10000 ≤ k) : spec_EndLengths.l0 k w [] 1 = some (endL w, 0) :=
  gather_from (fun k acc i => spec_EndLengths.l0 k w acc i) (w.size + 1) 1 (fun _ => true) (fun n => (endN (w.extract 0 n) : Int)) (fun l => (l, 0)) 1000
    (fun k i acc hk hl hi ha => by
      simp only [spec_EndLengths.l0]
      rw [if_pos (by omega), if_pos (by omega), Int.toNat_natCast, spec_l04End_eq (by rw [ext_size]; omega) (by rw [ext_size]; omega), w64 (by omega) (by omega)]
      simp only [Option.bind_some]
      rw [if_pos (by omega)]; rfl)
    (fun k acc _ => by simp only [spec_EndLengths.l0]; rw [if_neg (by omega)])
    w.size k 1 [] (by omega) (by omega) (by omega) (by simp)
theorem impl_EndLengths_eq {k : Nat} {w : ByteArray} (hw : w.size ≤ 60) (hk : 10000 ≤ k) : impl_EndLengths.l0 k w [] w.size 0 = some (endL w, 0) := by
  have h := gather_gen (fun k acc i => impl_EndLengths.l0 k w acc w.size i) w.size (fun _ => true) (fun n => (endN (w.extract 0 (n + 1)) : Int)) (fun l => (l, (0 : Int))) 1000
    (fun k i acc hk hi ha => by
      simp only [impl_EndLengths.l0]
      rw [if_pos (by omega), w64 (by omega) (by omega), if_pos (by omega), if_pos (by omega), show ((i : Int) + 1).toNat = i + 1 by omega, impl_ending_eq (by rw [ext_size]; omega) (by rw [ext_size]; omega)]
      simp only [Option.bind_some]
      rw [if_pos (by omega)]; rfl)
    (fun k acc _ => by simp only [impl_EndLengths.l0]; rw [if_neg (by omega)])
    w.size k 0 [] (by omega) (by omega) (by simp)
  have e : endL w = gath (fun _ => true) (fun n => (endN (w.extract 0 (n + 1)) : Int)) 0 w.size := gath_shift _ _ _ _
  rw [e]
  exact h

theorem eqInt64S_eq {k : Nat} {a b : List Int} (ha : a.length ≤ 1048576) (hk : a.length < k) : laws_eqInt64S.f k a b = some (decide (a = b)) := by
  unfold laws_eqInt64S.f
  by_cases hl : a.length = b.length
  · rw [if_pos (by omega)]
    have h := find_gen (fun k i => laws_eqInt64S.l0 k a b i) a.length (fun i => !(rd a i == rd b i)) (fun _ => false) true 0
      (fun k i _ hi => by
        simp only [laws_eqInt64S.l0]
        rw [if_pos (by omega), if_pos (by omega), if_pos (by omega), w64 (by omega) (by omega)]
        by_cases h1 : rd a i = rd b i
        · rw [if_pos h1]; simp [h1]
        · rw [if_neg h1]; simp [h1])
      (fun k _ => by simp only [laws_eqInt64S.l0]; rw [if_neg (by omega)])
      a.length k 0 (by omega) (by omega)
    rw [show (0 : Int) = ((0 : Nat) : Int) from rfl, h]
    have rdn : ∀ (l : List Int) (i : Nat) (hi : i < l.length), rd l i = l[i] := fun l i hi => by unfold rd; simp [List.getD_eq_getElem?_getD, hi]
    cases hf : findE (fun i => !(rd a i == rd b i)) 0 a.length with
    | none =>
      have : a = b := List.ext_getElem hl fun i h1 h2 => by
        have := findE_none.mp hf i (Nat.zero_le _) (by omega)
        rw [rdn a i h1, rdn b i h2] at this
        simpa using this
      simp [this]
    | some j =>
      obtain ⟨_, h2, h3, _⟩ := findE_some hf
      have : a ≠ b := by rintro rfl; simp at h3
      simp [this]
  · rw [if_neg (by omega)]
    have : a ≠ b := fun e => hl (by rw [e])
    simp [this]
def marks (n : Nat) : List Int := (List.range n).map fun i : Nat => 1 + (i : Int)
theorem marks_succ (n : Nat) : marks (n + 1) = marks n ++ [1 + (n : Int)] := by unfold marks; rw [List.range_succ, List.map_append]; rfl
theorem marks_len (n : Nat) : (marks n).length = n := by unfold marks; simp
theorem markInt64S_l0 : ∀ (d i k : Nat) (x : List Int), x.length = i + d → x.length ≤ 1048576 → d < k → x.take i = marks i → laws_markInt64S.l0 k x (1 + (i : Int)) i = some (1 + ((i + d : Nat) : Int), marks (i + d))
  | 0, i, k, x, hx, hb, hk, ht => by
    obtain ⟨k, rfl⟩ := rounds_pos (show 0 < k by omega)
    simp only [laws_markInt64S.l0]
    have e : x = marks i := by rw [← ht, List.take_of_length_le (by omega)]
    rw [if_neg (by omega), e]
    simp
  | d + 1, i, k, x, hx, hb, hk, ht => by
    obtain ⟨k, rfl⟩ := rounds_pos (show 0 < k by omega)
    simp only [laws_markInt64S.l0]
    rw [if_pos (by omega), if_pos (by omega), w64 (by omega) (by omega), w64 (by omega) (by omega), Int.toNat_natCast]
    have := markInt64S_l0 d (i + 1) k (x.set i (1 + (i : Int))) (by rw [List.length_set]; omega) (by rw [List.length_set]; exact hb) (by omega) (by
      rw [marks_succ, ← ht, List.take_set, List.take_succ_eq_append_getElem (by omega)]
      rw [List.set_append_right _ _ (by rw [List.length_take]; omega)]
      simp [List.length_take, Nat.min_eq_left (show i ≤ x.length by omega)])
    rw [show (1 + (i : Int) + 1) = 1 + ((i + 1 : Nat) : Int) by omega, show ((i : Int) + 1) = ((i + 1 : Nat) : Int) by omega, this]
    rw [show i + 1 + d = i + (d + 1) by omega]
theorem markInt64S_eq {k : Nat} {l : List Int} (hl : l.length ≤ 1048576) (hk : l.length < k) : laws_markInt64S.f k l 1 = some (1 + (l.length : Int), marks l.length) := by
  have := markInt64S_l0 l.length 0 k l (by omega) hl hk (by simp [marks])
  unfold laws_markInt64S.f
  simpa using this
theorem heldInt64S_eq {k n : Nat} (hn : n ≤ 1048576) (hk : n < k) : laws_heldInt64S.f k (marks n) 1 = some (1 + (n : Int)) := by
  have hl := marks_len n
  have h : ∀ (d i k : Nat), i + d = n → d < k → laws_heldInt64S.l0 k (marks n) (1 + (i : Int)) i = some (1 + (n : Int)) := by
    intro d
    induction d with
    | zero =>
      intro i k hi hk
      obtain ⟨k, rfl⟩ := rounds_pos (show 0 < k by omega)
      simp only [laws_heldInt64S.l0]
      rw [if_neg (by omega), show i = n by omega]
    | succ d ih =>
      intro i k hi hk
      obtain ⟨k, rfl⟩ := rounds_pos (show 0 < k by omega)
      simp only [laws_heldInt64S.l0]
      have hr : rd (marks n) i = 1 + (i : Int) := by unfold rd marks; simp [List.getD_eq_getElem?_getD, show i < n by omega]
      rw [if_pos (by omega), if_pos (by omega), if_pos hr, w64 (by omega) (by omega), w64 (by omega) (by omega)]
      rw [show (1 + (i : Int) + 1) = 1 + ((i + 1 : Nat) : Int) by omega]
      exact ih (i + 1) k (by omega) (by omega)
  have := h n 0 k (by omega) hk
  unfold laws_heldInt64S.f
  simpa using this

theorem FnExactEndLengths : laws_FnExactEndLengths.Pure := by
  intro a0 h0
  by_cases hs : (a0.size : Int) > 1048576
  · exact ⟨0, by unfold laws_FnExactEndLengths.f; rw [if_pos hs]⟩
  · obtain ⟨K, hK⟩ : ∃ K : Nat, 10000000 ≤ K := ⟨_, Nat.le_refl _⟩
    refine ⟨K + 1 + 1, ?_⟩
    obtain ⟨r, hr⟩ : ∃ r, r = (if isW a0 then (endL a0, (0 : Int)) else ([], 1)) := ⟨_, rfl⟩
    have hl : r.1.length ≤ 100000 := by
      rw [hr]
      cases hw : isW a0
      · simp
      · have hz0 := isW_size hw
        have : (endL a0).length ≤ 100000 := by have := endL_len a0; omega
        simpa using this
    have e1 : ∀ m, 10000000 ≤ m → spec_EndLengths.f m a0 = some r := fun m hm => by
      rw [hr]; unfold spec_EndLengths.f
      rw [spec_l01Is_eq h0 (by omega)]
      cases hw : isW a0
      · simp
      · have hz := isW_size hw
        simpa using spec_EndLengths_eq hz (show 10000 ≤ m by omega)
    have e2 : ∀ m, 10000000 ≤ m → impl_EndLengths.f m a0 = some r := fun m hm => by
      rw [hr]; unfold impl_EndLengths.f
      rw [wordCode_1]
      cases hw : isW a0
      · simp
      · have hz := isW_size hw
        simpa using impl_EndLengths_eq hz (show 10000 ≤ m by omega)
    unfold laws_FnExactEndLengths.f
    rw [if_neg hs, e1 _ (by omega), e2 _ (by omega)]
    simp only [Option.bind_some]
    rw [eqInt64S_eq (by omega) (by omega)]
    simp only [Option.bind_some, decide_true, if_true, bne_self_eq_false, laws_FnExactEndLengths.j0, Bool.false_eq_true, if_false]
    rw [markInt64S_eq (by omega) (by omega)]
    simp only [Option.bind_some]
    rw [heldInt64S_eq (by omega) (by omega)]
    simp only [Option.bind_some]
    rw [if_neg (by omega), if_pos trivial, e2 _ (by omega)]
    simp only [Option.bind_some]
    rw [eqInt64S_eq (by omega) (by omega)]
    simp only [Option.bind_some, decide_true, if_true, bne_self_eq_false, laws_FnExactEndLengths.j1, Bool.false_eq_true, if_false]
    rw [heldInt64S_eq (by omega) (by omega)]
    simp only [Option.bind_some]
    rw [if_neg (by omega), if_pos trivial]

end Go.Proofs.Ytjnpobaampgakad.Pure
