/- The plain part of the law FnExactWordOfLetters: for every input that the law takes, the printed function of the law answers true once it has rounds enough. Conditions: those that stand in the statement (sizes of strings and slices, kinds of numbers), no other. -/
import Derived.Test.YtjnpobaampgakabQx3
import Derived.Test.YtjnpobaampgakabMath
import Derived.Test.YtjnpobaampgakabMath4
namespace Go.Proofs.Ytjnpobaampgakab.Pure
open Go.RowKit Go.Proofs.Ytjnpobaampgakab.Q Go.Proofs.YtjnpobaampgakabW.PrintWords Go.Proofs.YtjnpobaampgakabW.PrintLast Go.Proofs.YtjnpobaampgakabW.PrintMore
set_option linter.unusedVariables false
set_option linter.unusedSimpArgs false

theorem spec_l01In_eq (n lo hi : Int) : spec_l01In.f n lo hi = some (inR n lo hi) := by
  unfold spec_l01In.f inR
  by_cases h : n ≥ lo
  · rw [if_pos h, decide_eq_true (show lo ≤ n from h)]; simp
  · rw [if_neg h, decide_eq_false (show ¬ lo ≤ n from h)]; simp

theorem eqInt64S_eq {k : Nat} {a b : List Int} (ha : a.length ≤ 1048576) (hk : a.length < k) : laws_eqInt64S.f k a b = some (decide (a = b)) := by
  unfold laws_eqInt64S.f
  by_cases hl : a.length = b.length
  · rw [if_pos (by omega)]
    have h := find_gen (fun k i => laws_eqInt64S.l0 k a b i) a.length (fun i => !(rd a i == rd b i)) (fun _ => false) true 0
      (fun k i _ hi => by
        simp only [laws_eqInt64S.l0]
        rw [if_pos (by omega), if_pos (by omega), if_pos (by omega), w64 (by omega) (by omega)]
        by_cases h1 : rd a i = rd b i
        · rw [if_pos h1]; simp [h1]
        · rw [if_neg h1]; simp [h1])
      (fun k _ => by simp only [laws_eqInt64S.l0]; rw [if_neg (by omega)])
      a.length k 0 (by omega) (by omega)
    rw [show (0 : Int) = ((0 : Nat) : Int) from rfl, h]
    have rdn : ∀ (l : List Int) (i : Nat) (hi : i < l.length), rd l i = l[i] := fun l i hi => by unfold rd; simp [List.getD_eq_getElem?_getD, hi]
    cases hf : findE (fun i => !(rd a i == rd b i)) 0 a.length with
    | none =>
      have : a = b := List.ext_getElem hl fun i h1 h2 => by
        have := findE_none.mp hf i (Nat.zero_le _) (by omega)
        rw [rdn a i h1, rdn b i h2] at this
        simpa using this
      simp [this]
    | some j =>
      obtain ⟨_, h2, h3, _⟩ := findE_some hf
      have : a ≠ b := by rintro rfl; simp at h3
      simp [this]
  · rw [if_neg (by omega)]
    have : a ≠ b := fun e => hl (by rw [e])
    simp [this]

theorem toInt64S_l0 (l : List Int) (hl : l.length ≤ 1048576) : ∀ (d i k : Nat) (x : List Int), i + d = l.length → d < k → x.length = l.length → x.take i = l.take i → laws_toInt64S.l0 k l x i = some l
  | 0, i, k, x, hi, hk, hx, ht => by
    obtain ⟨k, rfl⟩ := rounds_pos (show 0 < k by omega)
    simp only [laws_toInt64S.l0]
    rw [if_neg (by omega)]
    rw [List.take_of_length_le (by omega), List.take_of_length_le (by omega)] at ht
    rw [ht]
  | d + 1, i, k, x, hi, hk, hx, ht => by
    obtain ⟨k, rfl⟩ := rounds_pos (show 0 < k by omega)
    simp only [laws_toInt64S.l0]
    have hr : rd l i = l[i] := by unfold rd; simp [List.getD_eq_getElem?_getD, show i < l.length by omega]
    rw [if_pos (by omega), if_pos (by omega), if_pos (by omega), Int.toNat_natCast, hr, w64 (by omega) (by omega)]
    refine toInt64S_l0 l hl d (i + 1) k _ (by omega) (by omega) (by rw [List.length_set]; exact hx) ?_
    rw [List.take_set, List.take_succ_eq_append_getElem (show i < x.length by omega), List.take_succ_eq_append_getElem (show i < l.length by omega), List.set_append_right _ _ (by rw [List.length_take]; omega), ht]
    simp [List.length_take, Nat.min_eq_left (show i ≤ x.length by omega), Nat.min_eq_left (show i ≤ l.length by omega)]
theorem toInt64S_eq {k : Nat} {l : List Int} (hl : l.length ≤ 1048576) (hk : l.length < k) : laws_toInt64S.f k l = some l := by
  unfold laws_toInt64S.f
  rw [if_pos (by omega), if_pos (by omega), Int.toNat_natCast]
  exact toInt64S_l0 l hl l.length 0 k _ (by omega) hk (by simp) (by simp)
def ltrI (x : Int) : ByteArray := strOfNums [(wrap64 (97 + x)) % 256]
theorem ltrI_size (x : Int) : (ltrI x).size = 1 := by unfold ltrI; rw [sn_len]; rfl
theorem app_size (a b : ByteArray) : (a ++ b).size = a.size + b.size := by rw [← bo_len, bo_append, List.length_append, bo_len, bo_len]
def wolS (l : List Int) : ByteArray := loopS (fun i s => s ++ ltrI (rd l i)) 0 l.length ⟨#[]⟩
theorem spec_wol {k : Nat} {l : List Int} (hl : l.length ≤ 60) (hk : 100 ≤ k) : spec_WordOfLetters.l0 k l ⟨#[]⟩ 0 = some (wolS l, 0) :=
  fold_gen (fun k (s : ByteArray) i => spec_WordOfLetters.l0 k l s i) l.length (fun i s => s ++ ltrI (rd l i)) (fun s => (s, 0)) (fun i s => s.size = i) 0
    (fun k i s _ hi hs => by
      have h1 := ltrI_size (rd l i)
      simp only [spec_WordOfLetters.l0]
      rw [if_pos (by omega), if_pos (by omega)]
      rw [show spec_l01Letter.f (rd l i) = some (ltrI (rd l i)) from rfl, Option.bind_some, if_pos (by omega), w64 (by omega) (by omega)]; rfl)
    (fun i s hi hs => by rw [app_size, ltrI_size]; omega)
    (fun k s _ _ => by simp only [spec_WordOfLetters.l0]; rw [if_neg (by omega)])
    l.length k 0 ⟨#[]⟩ (by omega) (by omega) rfl
theorem impl_wol {k : Nat} {l : List Int} (hl : l.length ≤ 60) (hk : 100 ≤ k) : impl_wordOf.f k l = some (wolS l) :=
  fold_gen (fun k (s : ByteArray) i => impl_wordOf.l0 k s l l.length i) l.length (fun i s => s ++ ltrI (rd l i)) (fun s => s) (fun i s => s.size = i) 0
    (fun k i s _ hi hs => by
      have h1 := ltrI_size (rd l i)
      simp only [impl_wordOf.l0]
      rw [if_pos (by omega), if_pos (by omega), if_pos (by omega)]
      rw [show impl_letter.f (rd l i) = some (ltrI (rd l i)) from rfl, Option.bind_some, if_pos (by omega), w64 (by omega) (by omega)]; rfl)
    (fun i s hi hs => by rw [app_size, ltrI_size]; omega)
    (fun k s _ _ => by simp only [impl_wordOf.l0]; rw [if_neg (by omega)])
    l.length k 0 ⟨#[]⟩ (by omega) (by omega) rfl
theorem spec_l01Letters_eq {k : Nat} {l : List Int} (hl : l.length ≤ 1048576) (hk : l.length < k) : spec_l01Letters.f k l = some (l.all fun x => inR x 0 4) := by
  have h := find_gen (fun k i => spec_l01Letters.l0 k l i) l.length (fun i => !inR (rd l i) 0 4) (fun _ => false) true 0
    (fun k i _ hi => by
      simp only [spec_l01Letters.l0]
      rw [if_pos (by omega), if_pos (by omega), spec_l01In_eq, Option.bind_some, w64 (by omega) (by omega)]
      cases inR (rd l i) 0 4 <;> simp)
    (fun k _ => by simp only [spec_l01Letters.l0]; rw [if_neg (by omega)])
    l.length k 0 (by omega) (by omega)
  have h' : spec_l01Letters.l0 k l 0 = _ := h
  unfold spec_l01Letters.f
  rw [h']
  congr 1
  have rdn : ∀ (i : Nat) (hi : i < l.length), rd l i = l[i] := fun i hi => by unfold rd; simp [List.getD_eq_getElem?_getD, hi]
  cases hf : findE (fun i => !inR (rd l i) 0 4) 0 l.length with
  | some j =>
    obtain ⟨_, h1, h2, _⟩ := findE_some hf
    symm
    rw [Bool.eq_false_iff]
    intro h3
    rw [List.all_eq_true] at h3
    have := h3 _ (List.getElem_mem (show j < l.length by omega))
    rw [rdn j (by omega), this] at h2
    cases h2
  | none =>
    symm
    rw [List.all_eq_true]
    intro x hx
    obtain ⟨j, hj, rfl⟩ := List.mem_iff_getElem.mp hx
    have := findE_none.mp hf j (Nat.zero_le _) (by omega)
    rw [rdn j hj] at this
    simpa using this
theorem spec_wol_j0 {k : Nat} {l : List Int} (hl : l.length ≤ 60) (hk : 200 ≤ k) (x : Bool) : spec_WordOfLetters.j0 k l x = some (if x then (⟨#[]⟩, 2) else (wolS l, 0)) := by
  obtain ⟨k, rfl⟩ := rounds_pos (show 0 < k by omega)
  simp only [spec_WordOfLetters.j0]
  cases x
  · rw [if_neg (by decide), spec_wol hl (by omega)]; rfl
  · rfl
theorem FnExactWordOfLetters : laws_FnExactWordOfLetters.Pure := by
  intro l0 _ _ _
  by_cases hs : (l0.length : Int) > 1048576
  · exact ⟨0, by unfold laws_FnExactWordOfLetters.f; rw [if_pos hs]⟩
  · obtain ⟨K, hK⟩ : ∃ K : Nat, 10000000 ≤ K := ⟨_, Nat.le_refl _⟩
    refine ⟨K + 1, ?_⟩
    obtain ⟨r, hr⟩ : ∃ r : ByteArray × Int, r = (if l0.length ≤ 60 ∧ (l0.all fun x => inR x 0 4) = true then (wolS l0, (0 : Int)) else (⟨#[]⟩, 2)) := ⟨_, rfl⟩
    have e1 : spec_WordOfLetters.f (K + 1) l0 = some r := by
      rw [hr]; unfold spec_WordOfLetters.f
      by_cases h : l0.length ≤ 60
      · rw [if_neg (by omega), spec_l01Letters_eq (by omega) (by omega), Option.bind_some, spec_wol_j0 h (by omega)]
        cases (l0.all fun x => inR x 0 4) <;> simp [h]
      · rw [if_pos (by omega)]
        simp only [spec_WordOfLetters.j0]
        simp [h]
    have e2 : impl_WordOfLetters.f (K + 1) l0 = some r := by
      rw [hr]; unfold impl_WordOfLetters.f impl_areAll_int64.f
      by_cases h : l0.length ≤ 60
      · rw [if_neg (by omega), Option.bind_some, impl_wol h (by omega)]
        cases (l0.all fun x => inR x 0 4) <;> simp [h]
      · rw [if_pos (by omega)]
        simp [h]
    unfold laws_FnExactWordOfLetters.f
    rw [if_neg hs, toInt64S_eq (by omega) (by omega), Option.bind_some, e1, Option.bind_some, Option.bind_some, e2, Option.bind_some, if_pos rfl]
    simp only [laws_FnExactWordOfLetters.j0, bne_self_eq_false, Bool.false_eq_true, if_false]
    rw [toInt64S_eq (by omega) (by omega), Option.bind_some, eqInt64S_eq (by omega) (by omega), Option.bind_some, decide_eq_true rfl, if_pos rfl]

end Go.Proofs.Ytjnpobaampgakab.Pure
