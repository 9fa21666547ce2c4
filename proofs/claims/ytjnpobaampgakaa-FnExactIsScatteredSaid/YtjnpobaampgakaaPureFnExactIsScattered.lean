/- The plain part of the law FnExactIsScattered: for every input that the law takes, the printed function of the law answers true once it has rounds enough. Conditions: those that stand in the statement (sizes of strings and slices, kinds of numbers), no other. -/
import Derived.Test.YtjnpobaampgakaaPFnExactIsScatteredx
import Derived.Test.YtjnpobaampgakaaMath
namespace Go.Proofs.Ytjnpobaampgakaa.Pure
open Go.RowKit Go.Proofs.Ytjnpobaampgakaa.PFnExactIsScattered Go.Proofs.YtjnpobaampgakaaW.PrintWords Go.Proofs.YtjnpobaampgakaaW.PrintLast Go.Proofs.YtjnpobaampgakaaW.PrintMore
set_option linter.unusedVariables false
set_option linter.unusedSimpArgs false

theorem spec_l01Is_eq {k : Nat} {w : ByteArray} (hw : w.size ≤ 140737488351232) (hk : w.size + 1 < k) : spec_l01Is.f k w = some (isW w) := by
  have h := find_gen (fun k i => spec_l01Is.l0 k w i) w.size (fun i => !okB (bt w i)) (fun _ => false) (decide ((w.size : Int) ≤ 60)) 0
    (fun k i _ hi => by
      simp only [spec_l01Is.l0]
      rw [if_pos (by omega), if_pos (by omega)]
      by_cases h1 : bt w i < 97
      · rw [if_pos h1]
        have : okB (bt w i) = false := by unfold okB; simp; omega
        simp [this]
      · rw [if_neg h1]
        by_cases h2 : bt w i > 101
        · rw [if_pos h2]
          have : okB (bt w i) = false := by unfold okB; simp; omega
          simp [this]
        · rw [if_neg h2, w64 (by omega) (by omega)]
          have : okB (bt w i) = true := by unfold okB; simp; omega
          simp [this])
    (fun k _ => by simp only [spec_l01Is.l0]; rw [if_neg (by omega)])
    w.size k 0 (by omega) (by omega)
  unfold spec_l01Is.f
  rw [show (0 : Int) = ((0 : Nat) : Int) from rfl, h]
  congr 1
  unfold isW
  cases hf : findE (fun i => !okB (bt w i)) 0 w.size with
  | some j =>
    obtain ⟨_, h1, h2, _⟩ := findE_some hf
    have : (bytesOf w).all okB = false := by
      rw [Bool.eq_false_iff]
      intro h3
      rw [List.all_eq_true] at h3
      have hj : j < (bytesOf w).length := by rw [bo_len]; omega
      have := h3 _ (List.getElem_mem hj)
      rw [bt_nat, getD_eq _ _ hj, this] at h2
      cases h2
    simp [this]
  | none =>
    have : (bytesOf w).all okB = true := by
      rw [List.all_eq_true]
      intro x hx
      obtain ⟨j, hj, rfl⟩ := List.mem_iff_getElem.mp hx
      have := findE_none.mp hf j (Nat.zero_le _) (by rw [bo_len] at hj; omega)
      rw [bt_nat, getD_eq _ _ hj] at this
      simpa using this
    simp only [this, Bool.and_true, decide_eq_decide]
    omega
theorem spec_not_word {w : ByteArray} (h : w.size > 60) : isW w = false := by unfold isW; simp; omega

theorem wordCode_1 (a : ByteArray) : impl_wordCode.f () [a] = some (if isW a then 0 else 1) := by unfold impl_wordCode.f; simp
theorem wordCode_2 (a b : ByteArray) : impl_wordCode.f () [a, b] = some (if isW a && isW b then 0 else 1) := by unfold impl_wordCode.f; simp

def scat (w u : ByteArray) : Bool := decide (((bytesOf u).foldl scatS w).size = 0)
theorem scat_done (w : ByteArray) (h : w.size = 0) : ∀ l : List Int, l.foldl scatS w = w
  | [] => rfl
  | c :: l => by
    have : scatS w c = w := by unfold scatS; simp [h]
    rw [List.foldl_cons, this]; exact scat_done w h l
theorem spec_IsScattered_l0 (w u : ByteArray) (hw : w.size ≤ 1048576) (hu : u.size ≤ 1048576) : ∀ (d i at_ k : Nat), i + d = u.size → at_ ≤ w.size → 2 * d + 1 < k →
    spec_IsScattered.l0 k w u at_ i = some (decide ((((bytesOf u).drop i).foldl scatS (w.extract at_ w.size)).size = 0), 0)
  | 0, i, at_, k, hd, ha, hk => by
    obtain ⟨k, rfl⟩ := rounds_pos (show 0 < k by omega)
    obtain ⟨k, rfl⟩ := rounds_pos (show 0 < k by omega)
    simp only [spec_IsScattered.l0]
    rw [if_neg (by omega)]
    simp only [spec_IsScattered.j2]
    rw [if_neg (by simp)]
    have : (bytesOf u).drop i = [] := List.drop_eq_nil_of_le (by rw [bo_len]; omega)
    rw [this]
    simp only [List.foldl_nil, ext_size]
    congr 2
    rw [Bool.eq_iff_iff]
    simp only [beq_iff_eq, decide_eq_true_eq]
    omega
  | d + 1, i, at_, k, hd, ha, hk => by
    obtain ⟨k, rfl⟩ := rounds_pos (show 0 < k by omega)
    obtain ⟨k, rfl⟩ := rounds_pos (show 0 < k by omega)
    have hi : i < (bytesOf u).length := by rw [bo_len]; omega
    have hdrop : (bytesOf u).drop i = bt u i :: (bytesOf u).drop (i + 1) := by
      rw [List.drop_eq_getElem_cons hi, bt_nat, getD_eq _ _ hi]
    simp only [spec_IsScattered.l0]
    rw [if_pos (by omega)]
    simp only [spec_IsScattered.j2]
    by_cases h1 : at_ < w.size
    · rw [if_pos (by simp; omega), if_pos (by omega), if_pos (by omega), if_pos (by omega), if_pos (by omega)]
      have hb : bt (w.extract at_ w.size) 0 = bt w at_ := by
        rw [show (0 : Int) = ((0 : Nat) : Int) from rfl, bt_nat, bt_nat, bo_extract, List.getD_eq_getElem?_getD, List.getD_eq_getElem?_getD, List.getElem?_drop, List.getElem?_take]
        simp [h1]
      have hsz : (w.extract at_ w.size).size ≠ 0 := by rw [ext_size]; omega
      by_cases h2 : bt u i = bt w at_
      · rw [if_pos h2, w64 (by omega) (by omega), w64 (by omega) (by omega)]
        have := spec_IsScattered_l0 w u hw hu d (i + 1) (at_ + 1) k (by omega) (by omega) (by omega)
        rw [show ((at_ : Int) + 1) = ((at_ + 1 : Nat) : Int) by omega, show ((i : Int) + 1) = ((i + 1 : Nat) : Int) by omega, this, hdrop, List.foldl_cons]
        have e : scatS (w.extract at_ w.size) (bt u i) = w.extract (at_ + 1) w.size := by
          unfold scatS
          rw [if_pos ⟨hsz, by rw [hb, h2]⟩]
          apply bo_inj
          rw [bo_extract, bo_extract, bo_extract, ext_size]
          rw [← bo_len, List.take_length, Nat.min_self]
          rw [List.take_of_length_le (by simp), List.drop_drop]
        rw [e]
      · rw [if_neg h2, w64 (by omega) (by omega)]
        have := spec_IsScattered_l0 w u hw hu d (i + 1) at_ k (by omega) (by omega) (by omega)
        rw [show ((i : Int) + 1) = ((i + 1 : Nat) : Int) by omega, this, hdrop, List.foldl_cons]
        have e : scatS (w.extract at_ w.size) (bt u i) = w.extract at_ w.size := by
          unfold scatS
          rw [if_neg (fun h => h2 (by rw [← h.2, hb]))]
        rw [e]
    · rw [if_neg (by simp; omega)]
      have hz : (w.extract at_ w.size).size = 0 := by rw [ext_size]; omega
      rw [scat_done _ hz, hz]
      have e : at_ = w.size := by omega
      rw [e]
      simp
theorem spec_IsScattered_eq {k : Nat} {w u : ByteArray} (h0 : w.size ≤ 140737488351232) (h1 : u.size ≤ 140737488351232) (hw : w.size ≤ 1048576) (hu : u.size ≤ 1048576) (hk : 3000000 ≤ k) :
    spec_IsScattered.f k w u = some (if isW w && isW u then (scat w u, 0) else (false, 1)) := by
  unfold spec_IsScattered.f
  rw [spec_l01Is_eq h0 (by omega), spec_l01Is_eq h1 (by omega)]
  obtain ⟨m, rfl⟩ := rounds_pos (show 0 < k by omega)
  cases isW w
  · simp [spec_IsScattered.j0]
  · cases isW u
    · simp [spec_IsScattered.j0]
    · simp only [Option.bind_some, if_true, Bool.not_true, Bool.and_self, spec_IsScattered.j0, Bool.false_eq_true, if_false]
      have := spec_IsScattered_l0 w u hw hu u.size 0 0 m (by omega) (by omega) (by omega)
      rw [show (0 : Int) = ((0 : Nat) : Int) from rfl, this, ext_all, List.drop_zero]
      rfl
theorem impl_IsScattered_eq {w u : ByteArray} (hw : w.size ≤ 1048576) (hu : u.size ≤ 1048576) : impl_IsScattered.f w u = some (if isW w && isW u then (scat w u, 0) else (false, 1)) := by
  unfold impl_IsScattered.f
  have e : impl_isScattered.f w u = some (scat w u) := by unfold impl_isScattered.f scat; rw [if_pos (by omega)]
  rw [wordCode_2, e]
  cases isW w <;> cases isW u <;> simp

theorem FnExactIsScattered : laws_FnExactIsScattered.Pure := by
  intro a0 a1 h0 h1
  by_cases hs : (a0.size : Int) > 1048576
  · exact ⟨0, by unfold laws_FnExactIsScattered.f; rw [if_pos hs]⟩
  · by_cases hs1 : (a1.size : Int) > 1048576
    · exact ⟨0, by unfold laws_FnExactIsScattered.f; rw [if_neg hs, if_pos hs1]⟩
    · refine ⟨3000000, ?_⟩
      rw [laws_FnExactIsScattered.f, if_neg hs, if_neg hs1, spec_IsScattered_eq h0 h1 (by omega) (by omega) (by omega), impl_IsScattered_eq (by omega) (by omega)]
      simp

end Go.Proofs.Ytjnpobaampgakaa.Pure
