/- The plain part of the law FnExactPowerOf: for every input that the law takes, the printed function of the law answers true once it has rounds enough. Conditions: those that stand in the statement (sizes of strings and slices, kinds of numbers), no other. -/
import Derived.Test.YtmihfmhfgjnfcaaQx11
import Derived.Test.YtmihfmhfgjnfcaaMath
import Derived.Test.YtmihfmhfgjnfcaaMath4
namespace Go.Proofs.Ytmihfmhfgjnfcaa.Pure
open Go.RowKit Go.Proofs.Ytmihfmhfgjnfcaa.Q Go.Proofs.YtmihfmhfgjnfcaaW.PrintWords Go.Proofs.YtmihfmhfgjnfcaaW.PrintLast Go.Proofs.YtmihfmhfgjnfcaaW.PrintMore
set_option linter.unusedVariables false
set_option linter.unusedSimpArgs false

theorem spec_l01Is_eq {k : Nat} {w : ByteArray} (hw : w.size ≤ 140737488351232) (hk : w.size + 1 < k) : spec_l01Is.f k w = some (isW w) := by
  have h := find_gen (fun k i => spec_l01Is.l0 k w i) w.size (fun i => !okB (bt w i)) (fun _ => false) (decide ((w.size : Int) ≤ 60)) 0
    (fun k i _ hi => by
      simp only [spec_l01Is.l0]
      rw [if_pos (by omega), if_pos (by omega)]
      by_cases h1 : bt w i < 97
      · rw [if_pos h1]
        have : okB (bt w i) = false := by unfold okB; simp; omega
        simp [this]
      · rw [if_neg h1]
        by_cases h2 : bt w i > 101
        · rw [if_pos h2]
          have : okB (bt w i) = false := by unfold okB; simp; omega
          simp [this]
        · rw [if_neg h2, w64 (by omega) (by omega)]
          have : okB (bt w i) = true := by unfold okB; simp; omega
          simp [this])
    (fun k _ => by simp only [spec_l01Is.l0]; rw [if_neg (by omega)])
    w.size k 0 (by omega) (by omega)
  unfold spec_l01Is.f
  rw [show (0 : Int) = ((0 : Nat) : Int) from rfl, h]
  congr 1
  unfold isW
  cases hf : findE (fun i => !okB (bt w i)) 0 w.size with
  | some j =>
    obtain ⟨_, h1, h2, _⟩ := findE_some hf
    have : (bytesOf w).all okB = false := by
      rw [Bool.eq_false_iff]
      intro h3
      rw [List.all_eq_true] at h3
      have hj : j < (bytesOf w).length := by rw [bo_len]; omega
      have := h3 _ (List.getElem_mem hj)
      rw [bt_nat, getD_eq _ _ hj, this] at h2
      cases h2
    simp [this]
  | none =>
    have : (bytesOf w).all okB = true := by
      rw [List.all_eq_true]
      intro x hx
      obtain ⟨j, hj, rfl⟩ := List.mem_iff_getElem.mp hx
      have := findE_none.mp hf j (Nat.zero_le _) (by rw [bo_len] at hj; omega)
      rw [bt_nat, getD_eq _ _ hj] at this
      simpa using this
    simp only [this, Bool.and_true, decide_eq_decide]
    omega
theorem spec_not_word {w : ByteArray} (h : w.size > 60) : isW w = false := by unfold isW; simp; omega

theorem spec_l01In_eq (n lo hi : Int) : spec_l01In.f n lo hi = some (inR n lo hi) := by
  unfold spec_l01In.f inR
  by_cases h : n ≥ lo
  · rw [if_pos h, decide_eq_true (show lo ≤ n from h)]; simp
  · rw [if_neg h, decide_eq_false (show ¬ lo ≤ n from h)]; simp

/-- a power of a word -/
def repW (w : ByteArray) : Nat → ByteArray
  | 0 => ⟨#[]⟩
  | n + 1 => w ++ repW w n
theorem ba_assoc (a b c : ByteArray) : a ++ b ++ c = a ++ (b ++ c) := bo_inj (by rw [bo_append, bo_append, bo_append, bo_append, List.append_assoc])
theorem ba_nil (a : ByteArray) : a ++ (⟨#[]⟩ : ByteArray) = a := bo_inj (by rw [bo_append, bo_empty, List.append_nil])
theorem nil_ba (a : ByteArray) : (⟨#[]⟩ : ByteArray) ++ a = a := bo_inj (by rw [bo_append, bo_empty, List.nil_append])
theorem repW_size (w : ByteArray) : ∀ n, (repW w n).size = n * w.size
  | 0 => by rw [Nat.zero_mul]; rfl
  | n + 1 => by
    unfold repW
    rw [← bo_len, bo_append, List.length_append, bo_len, bo_len, repW_size w n, Nat.succ_mul, Nat.add_comm]
theorem repW_nil : ∀ n, repW ⟨#[]⟩ n = ⟨#[]⟩
  | 0 => rfl
  | n + 1 => by unfold repW; rw [repW_nil n]; rfl

theorem repW_eq (w : ByteArray) : ∀ n, (⟨(Lib.repeatL w.data.toList n).toArray⟩ : ByteArray) = repW w n
  | 0 => rfl
  | n + 1 => by
    unfold repW
    rw [← repW_eq w n]
    apply ba_ext
    simp [Lib.repeatL, List.replicate_succ]
theorem spec_pow_l0 {w : ByteArray} (h0 : w.size ≠ 0) : ∀ (n k : Nat) (out : ByteArray), n < k → out.size + n * w.size ≤ 100000 → n ≤ 1000 → spec_PowerOf.l0 k w (n : Int) out = some (out ++ repW w n, 0)
  | 0, k, out, hk, hs, hn => by
    obtain ⟨k, rfl⟩ := rounds_pos (show 0 < k by omega)
    simp only [spec_PowerOf.l0]
    rw [if_neg (by omega), repW, ba_nil]
  | n + 1, k, out, hk, hs, hn => by
    obtain ⟨k, rfl⟩ := rounds_pos (show 0 < k by omega)
    rw [Nat.succ_mul] at hs
    simp only [spec_PowerOf.l0]
    rw [if_pos (by omega), if_neg (str_nonempty h0).2.2.1, if_pos (by omega), w64 (by omega) (by omega), show ((n + 1 : Nat) : Int) - 1 = (n : Int) by omega,
      spec_pow_l0 h0 n k _ (by omega) (by rw [← bo_len, bo_append, List.length_append, bo_len, bo_len]; omega) (by omega), ba_assoc]
    rfl
def powR (a0 : ByteArray) (a1 : Int) : ByteArray × Int := if isW a0 = true then (if inR a1 0 1000 = true then (if a0.size * a1.toNat > 60 then (⟨#[]⟩, 3) else (repW a0 a1.toNat, 0)) else (⟨#[]⟩, 2)) else (⟨#[]⟩, 1)
theorem spec_PowerOf_eq {m : Nat} (hm : 2000000 ≤ m) {a0 : ByteArray} {a1 : Int} (h0 : a0.size ≤ 140737488351232) (s0 : a0.size ≤ 1048576) : spec_PowerOf.f m a0 a1 = some (powR a0 a1) := by
  unfold spec_PowerOf.f powR
  rw [spec_l01Is_eq h0 (by omega), Option.bind_some]
  cases hw : isW a0
  · rfl
  · rw [if_pos rfl, if_pos rfl, spec_l01In_eq, Option.bind_some]
    cases hk : inR a1 0 1000
    · rfl
    · have hz := isW_size hw
      obtain ⟨m0, m1⟩ := inR_true hk
      obtain ⟨n, rfl⟩ : ∃ n : Nat, a1 = n := ⟨a1.toNat, by omega⟩
      have hmul : a0.size * n ≤ 60 * 1000 := Nat.mul_le_mul hz (by omega)
      have hmz : (a0.size : Int) * (n : Int) = ((a0.size * n : Nat) : Int) := by simp
      rw [if_pos rfl, if_pos rfl, hmz, w64 (by omega) (by omega), Int.toNat_natCast]
      by_cases hb : a0.size * n > 60
      · rw [if_pos (by omega), if_pos hb]
      · rw [if_neg (by omega), if_neg hb]
        by_cases hz0 : a0.size = 0
        · obtain rfl := size0 hz0
          obtain ⟨k, rfl⟩ := rounds_pos (show 0 < m by omega)
          simp only [spec_PowerOf.l0]
          rw [repW_nil, if_pos (str_empty (x := ⟨#[]⟩) rfl).2.2.1]
          split <;> rfl
        · rw [spec_pow_l0 hz0 n m ⟨#[]⟩ (by omega) (by rw [Nat.mul_comm]; show 0 + _ ≤ _; omega) (by omega), nil_ba]
theorem impl_PowerOf_eq (a0 : ByteArray) (a1 : Int) : impl_PowerOf.f a0 a1 = some (powR a0 a1) := by
  unfold impl_PowerOf.f powR
  rw [repW_eq]
theorem FnExactPowerOf : laws_FnExactPowerOf.Pure := by
  intro a0 a1 h0 _
  by_cases hs : (a0.size : Int) > 1048576
  · exact ⟨0, by unfold laws_FnExactPowerOf.f; rw [if_pos hs]⟩
  · obtain ⟨K, hK⟩ : ∃ K : Nat, 2000000 ≤ K := ⟨_, Nat.le_refl _⟩
    refine ⟨K, ?_⟩
    unfold laws_FnExactPowerOf.f
    rw [if_neg hs, spec_PowerOf_eq hK h0 (by omega), impl_PowerOf_eq]
    simp

end Go.Proofs.Ytmihfmhfgjnfcaa.Pure
