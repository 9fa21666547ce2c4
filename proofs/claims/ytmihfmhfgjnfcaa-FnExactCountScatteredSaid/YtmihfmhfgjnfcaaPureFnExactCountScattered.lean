/- The plain part of the law FnExactCountScattered: for every input that the law takes, the printed function of the law answers true once it has rounds enough. Conditions: those that stand in the statement (sizes of strings and slices, kinds of numbers), no other. -/
import Derived.Test.YtmihfmhfgjnfcaaQx3
import Derived.Test.YtmihfmhfgjnfcaaMath
import Derived.Test.YtmihfmhfgjnfcaaMath4
namespace Go.Proofs.Ytmihfmhfgjnfcaa.Pure
open Go.RowKit Go.Proofs.Ytmihfmhfgjnfcaa.Q Go.Proofs.YtmihfmhfgjnfcaaW.PrintWords Go.Proofs.YtmihfmhfgjnfcaaW.PrintLast Go.Proofs.YtmihfmhfgjnfcaaW.PrintMore
set_option linter.unusedVariables false
set_option linter.unusedSimpArgs false

theorem spec_l01Is_eq {k : Nat} {w : ByteArray} (hw : w.size ≤ 140737488351232) (hk : w.size + 1 < k) : spec_l01Is.f k w = some (isW w) := by
  have h := find_gen (fun k i => spec_l01Is.l0 k w i) w.size (fun i => !okB (bt w i)) (fun _ => false) (decide ((w.size : Int) ≤ 60)) 0
    (fun k i _ hi => by
      simp only [spec_l01Is.l0]
      rw [if_pos (by omega), if_pos (by omega)]
      by_cases h1 : bt w i < 97
      · rw [if_pos h1]
        have : okB (bt w i) = false := by unfold okB; simp; omega
        simp [this]
      · rw [if_neg h1]
        by_cases h2 : bt w i > 101
        · rw [if_pos h2]
          have : okB (bt w i) = false := by unfold okB; simp; omega
          simp [this]
        · rw [if_neg h2, w64 (by omega) (by omega)]
          have : okB (bt w i) = true := by unfold okB; simp; omega
          simp [this])
    (fun k _ => by simp only [spec_l01Is.l0]; rw [if_neg (by omega)])
    w.size k 0 (by omega) (by omega)
  unfold spec_l01Is.f
  rw [show (0 : Int) = ((0 : Nat) : Int) from rfl, h]
  congr 1
  unfold isW
  cases hf : findE (fun i => !okB (bt w i)) 0 w.size with
  | some j =>
    obtain ⟨_, h1, h2, _⟩ := findE_some hf
    have : (bytesOf w).all okB = false := by
      rw [Bool.eq_false_iff]
      intro h3
      rw [List.all_eq_true] at h3
      have hj : j < (bytesOf w).length := by rw [bo_len]; omega
      have := h3 _ (List.getElem_mem hj)
      rw [bt_nat, getD_eq _ _ hj, this] at h2
      cases h2
    simp [this]
  | none =>
    have : (bytesOf w).all okB = true := by
      rw [List.all_eq_true]
      intro x hx
      obtain ⟨j, hj, rfl⟩ := List.mem_iff_getElem.mp hx
      have := findE_none.mp hf j (Nat.zero_le _) (by rw [bo_len] at hj; omega)
      rw [bt_nat, getD_eq _ _ hj] at this
      simpa using this
    simp only [this, Bool.and_true, decide_eq_decide]
    omega
theorem spec_not_word {w : ByteArray} (h : w.size > 60) : isW w = false := by unfold isW; simp; omega

theorem spec_cs_l1 {a b : ByteArray} (ha : a.size ≤ 60) (hb : b.size ≤ 60) {i : Nat} (hi : i < b.size) (k : Nat) : ∀ (j : Nat) (l : List Int), j ≤ a.size → l.length = a.size + 1 →
    spec_CountScattered.l1 (k + j + 1) a b l i j = spec_CountScattered.l0 k a b (scIn a (bt b i) j l) ((i + 1 : Nat) : Int)
  | 0, l, hj, hl => by
    simp only [spec_CountScattered.l1, scIn]
    rw [if_neg (by omega), w64 (by omega) (by omega)]; rfl
  | j + 1, l, hj, hl => by
    simp only [spec_CountScattered.l1, scIn]
    rw [w64 (x := ((j + 1 : Nat) : Int) - 1) (by omega) (by omega), show ((j + 1 : Nat) : Int) - 1 = (j : Int) by omega, if_pos (by omega), if_pos (by omega), if_pos (by omega), if_pos (by omega), if_pos (by omega)]
    by_cases h : bt a j = bt b i
    · rw [if_pos h, if_pos h, if_pos (by omega), if_pos (by omega), if_pos (by omega), Int.toNat_natCast]
      exact spec_cs_l1 ha hb hi k j _ (by omega) (by rw [List.length_set]; exact hl)
    · rw [if_neg h, if_neg h]
      exact spec_cs_l1 ha hb hi k j _ (by omega) hl
theorem spec_cs_l0 {a b : ByteArray} (ha : a.size ≤ 60) (hb : b.size ≤ 60) : ∀ (d i k : Nat) (l : List Int), i + d = b.size → l.length = a.size + 1 → d * 100 + 1 < k →
    spec_CountScattered.l0 k a b l i = some (rd (((bytesOf b).drop i).foldl (fun l c => scIn a c a.size l) l) a.size, 0)
  | 0, i, k, l, hi, hl, hk => by
    obtain ⟨k, rfl⟩ := rounds_pos (show 0 < k by omega)
    simp only [spec_CountScattered.l0]
    rw [if_neg (by omega), if_pos (by omega), if_pos (by omega), List.drop_of_length_le (by rw [bo_len]; omega)]; rfl
  | d + 1, i, k, l, hi, hl, hk => by
    obtain ⟨k, rfl⟩ : ∃ m, k = m + a.size + 1 + 1 := ⟨k - a.size - 1 - 1, by omega⟩
    simp only [spec_CountScattered.l0]
    rw [if_pos (by omega), spec_cs_l1 ha hb (by omega) k a.size l (Nat.le_refl _) hl]
    have hd : (bytesOf b).drop i = bt b i :: (bytesOf b).drop (i + 1) := by
      rw [List.drop_eq_getElem_cons (by rw [bo_len]; omega), bt_nat, getD_eq _ _ (by rw [bo_len]; omega)]
    rw [hd, List.foldl_cons]
    exact spec_cs_l0 ha hb d (i + 1) k _ (by omega) (by rw [scIn_len]; exact hl) (by omega)
def csR (a0 a1 : ByteArray) : Int × Int := if (isW a0 && isW a1) = true then (if (a0.size : Int) ≤ 6 then (rd (csW a0 a1) a0.size, 0) else (0, 2)) else (0, 1)
theorem spec_cs_j0t {k : Nat} {a b : ByteArray} : spec_CountScattered.j0 (k + 1) a b true = some (0, 1) := by
  simp only [spec_CountScattered.j0, if_true]
theorem spec_cs_j0 {k : Nat} {a b : ByteArray} (ha : a.size ≤ 60) (hb : b.size ≤ 60) (hk : 1000000 ≤ k) : spec_CountScattered.j0 (k + 1) a b false = some (if (a.size : Int) ≤ 6 then (rd (csW a b) a.size, 0) else (0, 2)) := by
  simp only [spec_CountScattered.j0, Bool.false_eq_true, if_false]
  by_cases h6 : (a.size : Int) ≤ 6
  · rw [if_neg (by omega), if_pos h6, w64 (by omega) (by omega), if_pos (by omega), if_pos (by omega), Option.bind_some, show ((a.size : Int) + 1).toNat = a.size + 1 by omega]
    rw [if_pos (by rw [List.length_replicate]; omega)]
    exact spec_cs_l0 ha hb b.size 0 k _ (by omega) (by rw [List.length_set, List.length_replicate]) (by omega)
  · rw [if_pos (by omega), if_neg h6]
theorem spec_CountScattered_eq {m : Nat} (hm : 2000000 ≤ m) {a0 a1 : ByteArray} (h0 : a0.size ≤ 140737488351232) (h1 : a1.size ≤ 140737488351232) (s0 : a0.size ≤ 1048576) (s1 : a1.size ≤ 1048576) : spec_CountScattered.f m a0 a1 = some (csR a0 a1) := by
  obtain ⟨k, rfl⟩ := rounds_pos (show 0 < m by omega)
  unfold spec_CountScattered.f csR
  rw [spec_l01Is_eq h0 (by omega), Option.bind_some]
  cases hw : isW a0
  · rw [if_neg (by decide), spec_cs_j0t]; rfl
  · rw [if_pos rfl, spec_l01Is_eq h1 (by omega), Option.bind_some]
    cases hu : isW a1
    · rw [Bool.not_false, spec_cs_j0t]; rfl
    · rw [Bool.not_true, spec_cs_j0 (isW_size hw) (isW_size hu) (by omega), Bool.and_self, if_pos rfl]
theorem impl_countScattered_eq {a0 a1 : ByteArray} (s0 : a0.size ≤ 60) (s1 : a1.size ≤ 60) : impl_countScattered.f a0 a1 = some (rd (csW a0 a1) a0.size) := by
  unfold impl_countScattered.f
  rw [if_pos ⟨by omega, by omega⟩]
theorem impl_CountScattered_eq (a0 a1 : ByteArray) : impl_CountScattered.f a0 a1 = some (csR a0 a1) := by
  unfold impl_CountScattered.f csR
  cases hw : isW a0
  · rfl
  · cases hu : isW a1
    · rfl
    · rw [Bool.and_self, if_pos rfl, if_pos rfl]
      by_cases h6 : (a0.size : Int) ≤ 6
      · rw [if_pos (decide_eq_true h6), if_pos h6, impl_countScattered_eq (isW_size hw) (isW_size hu), Option.bind_some]
      · rw [if_neg (by rw [decide_eq_false h6]; decide), if_neg h6]
theorem FnExactCountScattered : laws_FnExactCountScattered.Pure := by
  intro a0 a1 h0 h1
  by_cases hs : (a0.size : Int) > 1048576
  · exact ⟨0, by unfold laws_FnExactCountScattered.f; rw [if_pos hs]⟩
  by_cases hs' : (a1.size : Int) > 1048576
  · exact ⟨0, by unfold laws_FnExactCountScattered.f; rw [if_neg hs, if_pos hs']⟩
  · obtain ⟨K, hK⟩ : ∃ K : Nat, 2000000 ≤ K := ⟨_, Nat.le_refl _⟩
    refine ⟨K, ?_⟩
    unfold laws_FnExactCountScattered.f
    rw [if_neg hs, if_neg hs', spec_CountScattered_eq hK h0 h1 (by omega) (by omega), impl_CountScattered_eq]
    simp

end Go.Proofs.Ytmihfmhfgjnfcaa.Pure
