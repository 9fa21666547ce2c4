/- The plain part of the law FnExactDirectedWord: for every input that the law takes, the printed function of the law answers true once it has rounds enough. Conditions: those that stand in the statement (sizes of strings and slices, kinds of numbers), no other. -/
import Derived.Test.YtjnpobaampgakacQx13
import Derived.Test.YtjnpobaampgakacMath
import Derived.Test.YtjnpobaampgakacMath4
namespace Go.Proofs.Ytjnpobaampgakac.Pure
open Go.RowKit Go.Proofs.Ytjnpobaampgakac.Q Go.Proofs.YtjnpobaampgakacW.PrintWords Go.Proofs.YtjnpobaampgakacW.PrintLast Go.Proofs.YtjnpobaampgakacW.PrintMore
set_option linter.unusedVariables false
set_option linter.unusedSimpArgs false

theorem spec_l01Is_eq {k : Nat} {w : ByteArray} (hw : w.size ≤ 140737488351232) (hk : w.size + 1 < k) : spec_l01Is.f k w = some (isW w) := by
  have h := find_gen (fun k i => spec_l01Is.l0 k w i) w.size (fun i => !okB (bt w i)) (fun _ => false) (decide ((w.size : Int) ≤ 60)) 0
    (fun k i _ hi => by
      simp only [spec_l01Is.l0]
      rw [if_pos (by omega), if_pos (by omega)]
      by_cases h1 : bt w i < 97
      · rw [if_pos h1]
        have : okB (bt w i) = false := by unfold okB; simp; omega
        simp [this]
      · rw [if_neg h1]
        by_cases h2 : bt w i > 101
        · rw [if_pos h2]
          have : okB (bt w i) = false := by unfold okB; simp; omega
          simp [this]
        · rw [if_neg h2, w64 (by omega) (by omega)]
          have : okB (bt w i) = true := by unfold okB; simp; omega
          simp [this])
    (fun k _ => by simp only [spec_l01Is.l0]; rw [if_neg (by omega)])
    w.size k 0 (by omega) (by omega)
  unfold spec_l01Is.f
  rw [show (0 : Int) = ((0 : Nat) : Int) from rfl, h]
  congr 1
  unfold isW
  cases hf : findE (fun i => !okB (bt w i)) 0 w.size with
  | some j =>
    obtain ⟨_, h1, h2, _⟩ := findE_some hf
    have : (bytesOf w).all okB = false := by
      rw [Bool.eq_false_iff]
      intro h3
      rw [List.all_eq_true] at h3
      have hj : j < (bytesOf w).length := by rw [bo_len]; omega
      have := h3 _ (List.getElem_mem hj)
      rw [bt_nat, getD_eq _ _ hj, this] at h2
      cases h2
    simp [this]
  | none =>
    have : (bytesOf w).all okB = true := by
      rw [List.all_eq_true]
      intro x hx
      obtain ⟨j, hj, rfl⟩ := List.mem_iff_getElem.mp hx
      have := findE_none.mp hf j (Nat.zero_le _) (by rw [bo_len] at hj; omega)
      rw [bt_nat, getD_eq _ _ hj] at this
      simpa using this
    simp only [this, Bool.and_true, decide_eq_decide]
    omega
theorem spec_not_word {w : ByteArray} (h : w.size > 60) : isW w = false := by unfold isW; simp; omega

theorem spec_l01Reversed_l0 (w : ByteArray) (hw : w.size ≤ 1048576) : ∀ (n k : Nat) (acc : List Int), n ≤ w.size → n + 1 < k → acc.length + n ≤ 1048576 →
    spec_l01Reversed.l0 k w acc ((n : Int) - 1) = some (strOfNums (acc ++ ((bytesOf w).take n).reverse))
  | 0, k, acc, hn, hk, ha => by
    obtain ⟨k, rfl⟩ := rounds_pos (show 0 < k by omega)
    simp only [spec_l01Reversed.l0]
    rw [if_neg (by omega)]
    simp
  | n + 1, k, acc, hn, hk, ha => by
    obtain ⟨k, rfl⟩ := rounds_pos (show 0 < k by omega)
    simp only [spec_l01Reversed.l0]
    rw [if_pos (by omega), if_pos (by omega), if_pos (by omega), if_pos (by omega)]
    have e1 : ((n + 1 : Nat) : Int) - 1 = (n : Int) := by omega
    rw [e1, w64 (by omega) (by omega), spec_l01Reversed_l0 w hw n k (acc ++ [bt w n]) (by omega) (by omega) (by simp; omega)]
    rw [take_bytes_snoc w n (by omega)]
    simp
theorem spec_l01Reversed_eq {k : Nat} {w : ByteArray} (hw : w.size ≤ 1048576) (hk : w.size + 1 < k) : spec_l01Reversed.f k w = some (revW w) := by
  unfold spec_l01Reversed.f
  rw [w64 (by omega) (by omega), spec_l01Reversed_l0 w hw w.size k [] (Nat.le_refl _) hk (by simpa using hw)]
  rw [← bo_len, List.take_length]
  rfl

theorem impl_reversed_eq {w : ByteArray} (h : w.size ≤ 1048576) : impl_reversed.f w = some (revW w) := by unfold impl_reversed.f; rw [if_pos (by omega)]

def isPal (w : ByteArray) : Bool := decide (w = revW w)
theorem impl_isPalindrome_eq {w : ByteArray} (h : w.size ≤ 1048576) : impl_isPalindrome.f w = some (isPal w) := by
  unfold impl_isPalindrome.f isPal
  rw [impl_reversed_eq h]
  simp [toList_beq]
theorem isPal_iff (w : ByteArray) : isPal w = true ↔ ∀ i, i < w.size → bt w i = bt w ((w.size - 1 - i : Nat) : Int) := by
  unfold isPal
  rw [decide_eq_true_iff]
  have h1 : w = revW w ↔ bytesOf w = (bytesOf w).reverse := by
    constructor
    · intro h; rw [← bo_rev, ← h]
    · intro h; apply bo_inj; rw [bo_rev]; exact h
  rw [h1]
  have hb : ∀ i, i < w.size → bt w ((w.size - 1 - i : Nat) : Int) = ((bytesOf w).reverse).getD i 0 := fun i hi => by
    rw [bt_nat, List.getD_eq_getElem?_getD, List.getD_eq_getElem?_getD, List.getElem?_reverse (by rw [bo_len]; exact hi), bo_len]
  constructor
  · intro h i hi
    rw [hb i hi, ← h, bt_nat]
  · intro h
    apply List.ext_getElem (by simp)
    intro i h2 h3
    have hi : i < w.size := by rw [bo_len] at h2; exact h2
    have := h i hi
    rw [hb i hi, bt_nat, getD_eq _ _ h2, getD_eq _ _ h3] at this
    exact this
theorem spec_l04Is_l0 (w : ByteArray) (hw : w.size ≤ 1048576) : ∀ (d i k : Nat), 2 * i + d = w.size → d < k → (∀ j, j < i → bt w j = bt w ((w.size - 1 - j : Nat) : Int)) →
    spec_l04Is.l0 k w i ((w.size : Int) - 1 - i) = some (isPal w)
  | 0, i, k, hd, hk, hp => by
    obtain ⟨k, rfl⟩ := rounds_pos (show 0 < k by omega)
    simp only [spec_l04Is.l0]
    rw [if_neg (by omega)]
    congr 1
    symm
    rw [isPal_iff]
    intro j hj
    by_cases h : j < i
    · exact hp j h
    · have := hp (w.size - 1 - j) (by omega)
      rw [this]; congr 1; omega
  | 1, i, k, hd, hk, hp => by
    obtain ⟨k, rfl⟩ := rounds_pos (show 0 < k by omega)
    simp only [spec_l04Is.l0]
    rw [if_neg (by omega)]
    congr 1
    symm
    rw [isPal_iff]
    intro j hj
    rcases Nat.lt_trichotomy j i with h | h | h
    · exact hp j h
    · congr 1; omega
    · have := hp (w.size - 1 - j) (by omega)
      rw [this]; congr 1; omega
  | d + 2, i, k, hd, hk, hp => by
    obtain ⟨k, rfl⟩ := rounds_pos (show 0 < k by omega)
    simp only [spec_l04Is.l0]
    rw [if_pos (by omega), if_pos (by omega), if_pos (by omega), if_pos (by omega), if_pos (by omega)]
    have e : (w.size : Int) - 1 - i = ((w.size - 1 - i : Nat) : Int) := by omega
    by_cases h : bt w i = bt w ((w.size : Int) - 1 - i)
    · rw [if_pos h, w64 (by omega) (by omega), w64 (by omega) (by omega)]
      have := spec_l04Is_l0 w hw d (i + 1) k (by omega) (by omega) (fun j hj => by
        by_cases e2 : j = i
        · subst e2; rw [h, e]
        · exact hp j (by omega))
      rw [← this]
      congr 1
      omega
    · rw [if_neg h]
      congr 1
      symm
      rw [Bool.eq_false_iff]
      intro h2
      rw [isPal_iff] at h2
      exact h (by rw [h2 i (by omega), e])
theorem spec_l04Is_eq {k : Nat} {w : ByteArray} (hw : w.size ≤ 1048576) (hk : w.size < k) : spec_l04Is.f k w = some (isPal w) := by
  unfold spec_l04Is.f
  rw [w64 (by omega) (by omega)]
  have := spec_l04Is_l0 w hw w.size 0 k (by omega) hk (fun j hj => absurd hj (Nat.not_lt_zero _))
  simpa using this

def endN (w : ByteArray) : Nat := match findE (fun i => isPal (w.extract i w.size)) 0 w.size with | some i => w.size - i | none => 0
theorem endN_le (w : ByteArray) : endN w ≤ w.size := by unfold endN; split <;> omega
theorem spec_l04End_eq {k : Nat} {w : ByteArray} (hw : w.size ≤ 1048576) (hk : 2 * w.size + 2 < k) : spec_l04End.f k w = some (endN w : Int) := by
  have h := find_gen (fun k i => spec_l04End.l0 k w i) w.size (fun i => isPal (w.extract i w.size)) (fun i => ((w.size - i : Nat) : Int)) 0 (w.size + 1)
    (fun k i hk hi => by
      simp only [spec_l04End.l0]
      rw [if_pos (by omega), if_pos (by omega), if_pos (by omega), Int.toNat_natCast, spec_l04Is_eq (by rw [ext_size]; omega) (by rw [ext_size]; omega), w64 (by omega) (by omega), w64 (by omega) (by omega)]
      simp only [Option.bind_some]
      rw [show (w.size : Int) - i = ((w.size - i : Nat) : Int) by omega]; rfl)
    (fun k hk => by simp only [spec_l04End.l0]; rw [if_neg (by omega)])
    w.size k 0 (by omega) (by omega)
  unfold spec_l04End.f endN
  rw [show (0 : Int) = ((0 : Nat) : Int) from rfl, h]
  cases findE (fun i => isPal (w.extract i w.size)) 0 w.size <;> rfl
theorem pal_empty (w : ByteArray) (h : w.size = 0) : isPal w = true := by
  rw [isPal_iff]; intro i hi; omega
theorem impl_ending_eq {k : Nat} {w : ByteArray} (hw : w.size ≤ 1048576) (hk : w.size + 1 < k) : impl_ending.f k w = some (endN w : Int) := by
  have h := until_gen (fun k i => impl_ending.l0 k w i) w.size (fun i => isPal (w.extract i w.size)) (fun i => ((w.size - i : Nat) : Int)) 0
    (fun k i hk hi => by
      simp only [impl_ending.l0]
      rw [if_pos (by omega), if_pos (by omega), Int.toNat_natCast, impl_isPalindrome_eq (by rw [ext_size]; omega), w64 (by omega) (by omega), w64 (by omega) (by omega)]
      simp only [Option.bind_some]
      rw [show (w.size : Int) - i = ((w.size - i : Nat) : Int) by omega]; rfl)
    (pal_empty _ (by rw [ext_size]; omega))
    w.size k 0 (by omega) (by omega)
  unfold impl_ending.f endN
  rw [show (0 : Int) = ((0 : Nat) : Int) from rfl, h]
  cases findE (fun i => isPal (w.extract i w.size)) 0 w.size with
  | some i => rfl
  | none => simp
def closW (w : ByteArray) : ByteArray := w ++ revW (w.extract 0 (w.size - endN w))
theorem ba_size_append (a b : ByteArray) : (a ++ b).size = a.size + b.size := by rw [← bo_len, bo_append, List.length_append, bo_len, bo_len]
theorem closW_size (w : ByteArray) : (closW w).size ≤ 2 * w.size := by
  unfold closW; rw [ba_size_append, revW_size, ext_size]; omega
theorem spec_l04Closure_eq {k : Nat} {w : ByteArray} (hw : w.size ≤ 1048576) (hk : 2 * w.size + 2 < k) (hR : ∀ u : ByteArray, u.size ≤ w.size → spec_l01Reversed.f k u = some (revW u)) : spec_l04Closure.f k w = some (closW w) := by
  unfold spec_l04Closure.f
  by_cases h : w.size = 0
  · rw [if_pos (str_empty h).2.2.1]
    congr 1
    symm
    apply size0
    have := closW_size w
    omega
  · rw [if_neg (str_nonempty h).2.2.1, spec_l04End_eq hw hk]
    have := endN_le w
    simp only [Option.bind_some]
    rw [w64 (by omega) (by omega), if_pos (by omega), if_pos (by omega), hR _ (by rw [ext_size]; omega)]
    simp only [Option.bind_some]
    rw [if_pos (by rw [revW_size, ext_size]; omega)]
    unfold closW
    rw [show ((w.size : Int) - (endN w : Int)).toNat = w.size - endN w by omega]
theorem impl_closure_eq {k : Nat} {w : ByteArray} (hw : w.size ≤ 1048576) (hk : w.size + 1 < k) : impl_closure.f k w = some (closW w) := by
  unfold impl_closure.f
  have := endN_le w
  rw [impl_ending_eq hw hk]
  simp only [Option.bind_some]
  rw [w64 (by omega) (by omega), if_pos (by omega), if_pos (by omega), impl_reversed_eq (by rw [ext_size]; omega)]
  simp only [Option.bind_some]
  rw [if_pos (by rw [revW_size, ext_size]; omega)]
  unfold closW
  rw [show ((w.size : Int) - (endN w : Int)).toNat = w.size - endN w by omega]

def dirL : List Int → ByteArray → ByteArray × Int
  | [], out => (out, 0)
  | c :: l, out => if (closW (out ++ strOfNums [c])).size > 60 then (⟨#[]⟩, 3) else dirL l (closW (out ++ strOfNums [c]))
theorem sn_one (w : ByteArray) (i : Nat) (h : i < w.size) : w.extract i (i + 1) = strOfNums [bt w i] := by
  apply bo_inj
  have hb := bo_range (s := w) (x := bt w i) (by rw [bt_nat, getD_eq _ _ (by rw [bo_len]; exact h)]; exact List.getElem_mem _)
  rw [bo_sn (by intro x hx; rw [List.mem_singleton] at hx; subst hx; exact hb), bo_extract]
  have : ((bytesOf w).take (i + 1)) = (bytesOf w).take i ++ [bt w i] := take_bytes_snoc w i h
  rw [this, List.drop_append_of_le_length (by rw [List.length_take, bo_len]; omega), List.drop_of_length_le (by rw [List.length_take]; omega)]
  rfl
theorem spec_Directed_l0 (w : ByteArray) (hw : w.size ≤ 60) : ∀ (d i k : Nat) (out : ByteArray), i + d = w.size → d + 1000 < k → out.size ≤ 60 → spec_DirectedWord.l0 k w out i = some (dirL ((bytesOf w).drop i) out)
  | 0, i, k, out, hi, hk, ho => by
    obtain ⟨k, rfl⟩ := rounds_pos (show 0 < k by omega)
    simp only [spec_DirectedWord.l0]
    rw [if_neg (by omega), List.drop_of_length_le (by rw [bo_len]; omega)]; rfl
  | d + 1, i, k, out, hi, hk, ho => by
    obtain ⟨k, rfl⟩ := rounds_pos (show 0 < k by omega)
    have hz : (strOfNums [bt w i]).size = 1 := by rw [sn_len]; rfl
    have hz2 : (out ++ strOfNums [bt w i]).size = out.size + 1 := by rw [ba_size_append, hz]
    simp only [spec_DirectedWord.l0]
    rw [if_pos (by omega), if_pos (by omega), w64 (by omega) (by omega), if_pos (by omega), if_pos (by omega), Int.toNat_natCast, show ((i : Int) + 1).toNat = i + 1 by omega, sn_one w i (by omega), if_pos (by omega)]
    rw [spec_l04Closure_eq (by omega) (by omega) (fun u hu => spec_l01Reversed_eq (by omega) (by omega))]
    simp only [Option.bind_some]
    have hd : (bytesOf w).drop i = bt w i :: (bytesOf w).drop (i + 1) := by
      rw [List.drop_eq_getElem_cons (by rw [bo_len]; omega), bt_nat, getD_eq _ _ (by rw [bo_len]; omega)]
    rw [hd]
    simp only [dirL]
    by_cases h : (closW (out ++ strOfNums [bt w i])).size > 60
    · rw [if_pos h, if_pos (by omega)]
    · rw [if_neg h, if_neg (by omega)]
      exact spec_Directed_l0 w hw d (i + 1) k _ (by omega) (by omega) (by omega)
theorem impl_Directed_d {k : Nat} (hk : 1000 < k) : ∀ (l : List Int) (out : ByteArray), out.size ≤ 60 → impl_DirectedWord.d k l out = some (dirL l out)
  | [], out, ho => rfl
  | c :: l, out, ho => by
    have hz : (strOfNums [c]).size = 1 := by rw [sn_len]; rfl
    have hz2 : (out ++ strOfNums [c]).size = out.size + 1 := by rw [ba_size_append, hz]
    simp only [impl_DirectedWord.d, dirL]
    rw [impl_closure_eq (by omega) (by omega)]
    simp only [Option.bind_some]
    by_cases h : (closW (out ++ strOfNums [c])).size > 60
    · rw [if_pos h, if_pos h]
    · rw [if_neg h, if_neg h]
      exact impl_Directed_d hk l _ (by omega)
theorem FnExactDirectedWord : laws_FnExactDirectedWord.Pure := by
  intro a0 h0
  by_cases hs : (a0.size : Int) > 1048576
  · exact ⟨0, by unfold laws_FnExactDirectedWord.f; rw [if_pos hs]⟩
  · refine ⟨1048600, ?_⟩
    have e : spec_DirectedWord.f 1048600 a0 = some (if isW a0 then dirL (bytesOf a0) ⟨#[]⟩ else (⟨#[]⟩, 1)) := by
      unfold spec_DirectedWord.f
      rw [spec_l01Is_eq h0 (by omega)]
      cases hw : isW a0
      · simp
      · simpa using spec_Directed_l0 a0 (isW_size hw) a0.size 0 1048600 ⟨#[]⟩ (by omega) (by have := isW_size hw; omega) (by decide)
    have e2 : impl_DirectedWord.f 1048600 a0 = some (if isW a0 then dirL (bytesOf a0) ⟨#[]⟩ else (⟨#[]⟩, 1)) := by
      unfold impl_DirectedWord.f
      cases hw : isW a0
      · simp
      · simpa using impl_Directed_d (by omega) (bytesOf a0) ⟨#[]⟩ (by decide)
    unfold laws_FnExactDirectedWord.f
    rw [if_neg hs, e, e2]
    simp

end Go.Proofs.Ytjnpobaampgakac.Pure
