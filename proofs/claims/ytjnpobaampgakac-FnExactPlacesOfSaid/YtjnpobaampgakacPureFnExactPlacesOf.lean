/- The plain part of the law FnExactPlacesOf: for every input that the law takes, the printed function of the law answers true once it has rounds enough. Conditions: those that stand in the statement (sizes of strings and slices, kinds of numbers), no other. -/
import Derived.Test.YtjnpobaampgakacQx7
import Derived.Test.YtjnpobaampgakacMath
import Derived.Test.YtjnpobaampgakacMath4
namespace Go.Proofs.Ytjnpobaampgakac.Pure
open Go.RowKit Go.Proofs.Ytjnpobaampgakac.Q Go.Proofs.YtjnpobaampgakacW.PrintWords Go.Proofs.YtjnpobaampgakacW.PrintLast Go.Proofs.YtjnpobaampgakacW.PrintMore
set_option linter.unusedVariables false
set_option linter.unusedSimpArgs false

theorem spec_l01Is_eq {k : Nat} {w : ByteArray} (hw : w.size ≤ 140737488351232) (hk : w.size + 1 < k) : spec_l01Is.f k w = some (isW w) := by
  have h := find_gen (fun k i => spec_l01Is.l0 k w i) w.size (fun i => !okB (bt w i)) (fun _ => false) (decide ((w.size : Int) ≤ 60)) 0
    (fun k i _ hi => by
      simp only [spec_l01Is.l0]
      rw [if_pos (by omega), if_pos (by omega)]
      by_cases h1 : bt w i < 97
      · rw [if_pos h1]
        have : okB (bt w i) = false := by unfold okB; simp; omega
        simp [this]
      · rw [if_neg h1]
        by_cases h2 : bt w i > 101
        · rw [if_pos h2]
          have : okB (bt w i) = false := by unfold okB; simp; omega
          simp [this]
        · rw [if_neg h2, w64 (by omega) (by omega)]
          have : okB (bt w i) = true := by unfold okB; simp; omega
          simp [this])
    (fun k _ => by simp only [spec_l01Is.l0]; rw [if_neg (by omega)])
    w.size k 0 (by omega) (by omega)
  unfold spec_l01Is.f
  rw [show (0 : Int) = ((0 : Nat) : Int) from rfl, h]
  congr 1
  unfold isW
  cases hf : findE (fun i => !okB (bt w i)) 0 w.size with
  | some j =>
    obtain ⟨_, h1, h2, _⟩ := findE_some hf
    have : (bytesOf w).all okB = false := by
      rw [Bool.eq_false_iff]
      intro h3
      rw [List.all_eq_true] at h3
      have hj : j < (bytesOf w).length := by rw [bo_len]; omega
      have := h3 _ (List.getElem_mem hj)
      rw [bt_nat, getD_eq _ _ hj, this] at h2
      cases h2
    simp [this]
  | none =>
    have : (bytesOf w).all okB = true := by
      rw [List.all_eq_true]
      intro x hx
      obtain ⟨j, hj, rfl⟩ := List.mem_iff_getElem.mp hx
      have := findE_none.mp hf j (Nat.zero_le _) (by rw [bo_len] at hj; omega)
      rw [bt_nat, getD_eq _ _ hj] at this
      simpa using this
    simp only [this, Bool.and_true, decide_eq_decide]
    omega
theorem spec_not_word {w : ByteArray} (h : w.size > 60) : isW w = false := by unfold isW; simp; omega

theorem wordCode_1 (a : ByteArray) : impl_wordCode.f () [a] = some (if isW a then 0 else 1) := by unfold impl_wordCode.f; simp
theorem wordCode_2 (a b : ByteArray) : impl_wordCode.f () [a, b] = some (if isW a && isW b then 0 else 1) := by unfold impl_wordCode.f; simp

def placeB (w u : ByteArray) (i : Nat) : Bool := decide (i + u.size ≤ w.size) && decide (w.extract i (i + u.size) = u)
def plL (w u : ByteArray) : List Int := gath (placeB w u) (fun i => (i : Int)) 0 (w.size + 1)
theorem plL_len (w u : ByteArray) : (plL w u).length ≤ w.size + 1 := gath_len _ _ _ _
theorem hasPrefix_eq {a b : ByteArray} : strings_HasPrefix.f a b = some (decide (b.size ≤ a.size) && decide (a.extract 0 b.size = b)) := by
  unfold strings_HasPrefix.f stringslite_HasPrefix.f
  by_cases h : b.size ≤ a.size
  · rw [if_pos (by omega), if_pos (by omega), if_pos (by omega), toList_beq]
    simp [h]
  · rw [if_neg (by omega)]; simp [h]
theorem impl_places_eq {k : Nat} {w u : ByteArray} (hw : w.size ≤ 1048576) (hk : w.size + 2 < k) : impl_places.f k w u = some (plL w u) := by
  have h := gather_gen (fun k acc i => impl_places.l0 k w u acc ((w.size + 1 : Nat) : Int) i) (w.size + 1) (placeB w u) (fun i => (i : Int)) (fun l => l) 0
    (fun k i acc _ hi ha => by
      simp only [impl_places.l0]
      rw [if_pos (by omega), if_pos (by omega), if_pos (by omega), hasPrefix_eq, w64 (by omega) (by omega), Int.toNat_natCast]
      have e : (decide (u.size ≤ (w.extract i w.size).size) && decide ((w.extract i w.size).extract 0 u.size = u)) = placeB w u i := by
        unfold placeB
        rw [ext_size]
        by_cases h : i + u.size ≤ w.size
        · rw [ext_ext _ h]
          rw [decide_eq_true (show u.size ≤ min w.size w.size - i by omega), decide_eq_true h]; rfl
        · rw [decide_eq_false h]
          by_cases h2 : u.size ≤ min w.size w.size - i
          · omega
          · rw [decide_eq_false h2]; rfl
      rw [e]
      cases placeB w u i
      · simp
      · simp; omega)
    (fun k acc _ => by simp only [impl_places.l0]; rw [if_neg (by omega)])
    (w.size + 1) k 0 [] (by omega) (by omega) (by simp)
  unfold impl_places.f
  rw [w64 (by omega) (by omega)]
  exact h

theorem spec_l01Places_eq {k : Nat} {w u : ByteArray} (hw : w.size ≤ 1048576) (hu : u.size ≤ 1048576) (hk : w.size + 2 < k) : spec_l01Places.f k w u = some (plL w u) := by
  have h := gather_gen (fun k acc i => spec_l01Places.l0 k w u acc i) (w.size + 1 - u.size) (placeB w u) (fun i => (i : Int)) (fun l => l) 0
    (fun k i acc _ hi ha => by
      simp only [spec_l01Places.l0]
      rw [w64 (x := (i : Int) + u.size) (by omega) (by omega), if_pos (by omega), if_pos (by omega), if_pos (by omega), w64 (by omega) (by omega), Int.toNat_natCast]
      rw [show ((i : Int) + u.size).toNat = i + u.size by omega]
      have hb : i + u.size ≤ w.size := by omega
      by_cases h1 : w.extract i (i + u.size) = u
      · have : placeB w u i = true := by unfold placeB; simp [h1, hb]
        rw [if_pos (toList_iff.mpr h1), if_pos (by omega), this]; rfl
      · have : placeB w u i = false := by unfold placeB; simp [h1]
        rw [if_neg (fun e => h1 (toList_iff.mp e)), this]; rfl)
    (fun k acc _ => by simp only [spec_l01Places.l0]; rw [w64 (by omega) (by omega), if_neg (by omega)])
    (w.size + 1 - u.size) k 0 [] (by omega) (by omega) (by simp)
  unfold spec_l01Places.f
  rw [show (0 : Int) = ((0 : Nat) : Int) from rfl, h]
  congr 1
  unfold plL
  rw [show w.size + 1 = (w.size + 1 - u.size) + (w.size + 1 - (w.size + 1 - u.size)) by omega, gath_add, gath_none _ _ (0 + (w.size + 1 - u.size))]
  · simp
  · intro m h1 h2
    unfold placeB
    rw [decide_eq_false (by omega)]; rfl

theorem eqInt64S_eq {k : Nat} {a b : List Int} (ha : a.length ≤ 1048576) (hk : a.length < k) : laws_eqInt64S.f k a b = some (decide (a = b)) := by
  unfold laws_eqInt64S.f
  by_cases hl : a.length = b.length
  · rw [if_pos (by omega)]
    have h := find_gen (fun k i => laws_eqInt64S.l0 k a b i) a.length (fun i => !(rd a i == rd b i)) (fun _ => false) true 0
      (fun k i _ hi => by
        simp only [laws_eqInt64S.l0]
        rw [if_pos (by omega), if_pos (by omega), if_pos (by omega), w64 (by omega) (by omega)]
        by_cases h1 : rd a i = rd b i
        · rw [if_pos h1]; simp [h1]
        · rw [if_neg h1]; simp [h1])
      (fun k _ => by simp only [laws_eqInt64S.l0]; rw [if_neg (by omega)])
      a.length k 0 (by omega) (by omega)
    rw [show (0 : Int) = ((0 : Nat) : Int) from rfl, h]
    have rdn : ∀ (l : List Int) (i : Nat) (hi : i < l.length), rd l i = l[i] := fun l i hi => by unfold rd; simp [List.getD_eq_getElem?_getD, hi]
    cases hf : findE (fun i => !(rd a i == rd b i)) 0 a.length with
    | none =>
      have : a = b := List.ext_getElem hl fun i h1 h2 => by
        have := findE_none.mp hf i (Nat.zero_le _) (by omega)
        rw [rdn a i h1, rdn b i h2] at this
        simpa using this
      simp [this]
    | some j =>
      obtain ⟨_, h2, h3, _⟩ := findE_some hf
      have : a ≠ b := by rintro rfl; simp at h3
      simp [this]
  · rw [if_neg (by omega)]
    have : a ≠ b := fun e => hl (by rw [e])
    simp [this]
def marks (n : Nat) : List Int := (List.range n).map fun i : Nat => 1 + (i : Int)
theorem marks_succ (n : Nat) : marks (n + 1) = marks n ++ [1 + (n : Int)] := by unfold marks; rw [List.range_succ, List.map_append]; rfl
theorem marks_len (n : Nat) : (marks n).length = n := by unfold marks; simp
theorem markInt64S_l0 : ∀ (d i k : Nat) (x : List Int), x.length = i + d → x.length ≤ 1048576 → d < k → x.take i = marks i → laws_markInt64S.l0 k x (1 + (i : Int)) i = some (1 + ((i + d : Nat) : Int), marks (i + d))
  | 0, i, k, x, hx, hb, hk, ht => by
    obtain ⟨k, rfl⟩ := rounds_pos (show 0 < k by omega)
    simp only [laws_markInt64S.l0]
    have e : x = marks i := by rw [← ht, List.take_of_length_le (by omega)]
    rw [if_neg (by omega), e]
    simp
  | d + 1, i, k, x, hx, hb, hk, ht => by
    obtain ⟨k, rfl⟩ := rounds_pos (show 0 < k by omega)
    simp only [laws_markInt64S.l0]
    rw [if_pos (by omega), if_pos (by omega), w64 (by omega) (by omega), w64 (by omega) (by omega), Int.toNat_natCast]
    have := markInt64S_l0 d (i + 1) k (x.set i (1 + (i : Int))) (by rw [List.length_set]; omega) (by rw [List.length_set]; exact hb) (by omega) (by
      rw [marks_succ, ← ht, List.take_set, List.take_succ_eq_append_getElem (by omega)]
      rw [List.set_append_right _ _ (by rw [List.length_take]; omega)]
      simp [List.length_take, Nat.min_eq_left (show i ≤ x.length by omega)])
    rw [show (1 + (i : Int) + 1) = 1 + ((i + 1 : Nat) : Int) by omega, show ((i : Int) + 1) = ((i + 1 : Nat) : Int) by omega, this]
    rw [show i + 1 + d = i + (d + 1) by omega]
theorem markInt64S_eq {k : Nat} {l : List Int} (hl : l.length ≤ 1048576) (hk : l.length < k) : laws_markInt64S.f k l 1 = some (1 + (l.length : Int), marks l.length) := by
  have := markInt64S_l0 l.length 0 k l (by omega) hl hk (by simp [marks])
  unfold laws_markInt64S.f
  simpa using this
theorem heldInt64S_eq {k n : Nat} (hn : n ≤ 1048576) (hk : n < k) : laws_heldInt64S.f k (marks n) 1 = some (1 + (n : Int)) := by
  have hl := marks_len n
  have h : ∀ (d i k : Nat), i + d = n → d < k → laws_heldInt64S.l0 k (marks n) (1 + (i : Int)) i = some (1 + (n : Int)) := by
    intro d
    induction d with
    | zero =>
      intro i k hi hk
      obtain ⟨k, rfl⟩ := rounds_pos (show 0 < k by omega)
      simp only [laws_heldInt64S.l0]
      rw [if_neg (by omega), show i = n by omega]
    | succ d ih =>
      intro i k hi hk
      obtain ⟨k, rfl⟩ := rounds_pos (show 0 < k by omega)
      simp only [laws_heldInt64S.l0]
      have hr : rd (marks n) i = 1 + (i : Int) := by unfold rd marks; simp [List.getD_eq_getElem?_getD, show i < n by omega]
      rw [if_pos (by omega), if_pos (by omega), if_pos hr, w64 (by omega) (by omega), w64 (by omega) (by omega)]
      rw [show (1 + (i : Int) + 1) = 1 + ((i + 1 : Nat) : Int) by omega]
      exact ih (i + 1) k (by omega) (by omega)
  have := h n 0 k (by omega) hk
  unfold laws_heldInt64S.f
  simpa using this

theorem FnExactPlacesOf : laws_FnExactPlacesOf.Pure := by
  intro a0 a1 h0 h0'
  by_cases hs : (a0.size : Int) > 1048576
  · exact ⟨0, by unfold laws_FnExactPlacesOf.f; rw [if_pos hs]⟩
  by_cases hs' : (a1.size : Int) > 1048576
  · exact ⟨0, by unfold laws_FnExactPlacesOf.f; rw [if_neg hs, if_pos hs']⟩
  · obtain ⟨K, hK⟩ : ∃ K : Nat, 1048600 ≤ K := ⟨_, Nat.le_refl _⟩
    refine ⟨K + 1 + 1, ?_⟩
    obtain ⟨r, hr⟩ : ∃ r, r = (if isW a0 && isW a1 then (plL a0 a1, (0 : Int)) else ([], 1)) := ⟨_, rfl⟩
    have hl : r.1.length ≤ 1048577 := by
      have := plL_len a0 a1
      rw [hr]; split <;> simp; omega
    have hl2 : r.1.length ≤ 1048576 := by
      rw [hr]
      cases hw : isW a0
      · simp
      · have := plL_len a0 a1
        have := isW_size hw
        split <;> simp; omega
    have e1 : ∀ m, 1048600 ≤ m → spec_PlacesOf.f m a0 a1 = some r := fun m hm => by
      rw [hr]; unfold spec_PlacesOf.f
      rw [spec_l01Is_eq h0 (by omega), spec_l01Is_eq h0' (by omega), spec_l01Places_eq (by omega) (by omega) (by omega)]
      cases isW a0 <;> cases isW a1 <;> simp
    have e2 : ∀ m, 1048600 ≤ m → impl_PlacesOf.f m a0 a1 = some r := fun m hm => by
      rw [hr]; unfold impl_PlacesOf.f
      rw [wordCode_2, impl_places_eq (by omega) (by omega)]
      cases isW a0 <;> cases isW a1 <;> simp
    unfold laws_FnExactPlacesOf.f
    rw [if_neg hs, if_neg hs', e1 _ (by omega), e2 _ (by omega)]
    simp only [Option.bind_some]
    rw [eqInt64S_eq hl2 (by omega)]
    simp only [Option.bind_some, decide_true, if_true, bne_self_eq_false, laws_FnExactPlacesOf.j0, Bool.false_eq_true, if_false]
    rw [markInt64S_eq hl2 (by omega)]
    simp only [Option.bind_some]
    rw [heldInt64S_eq hl2 (by omega)]
    simp only [Option.bind_some]
    rw [if_neg (by omega), if_pos trivial, e2 _ (by omega)]
    simp only [Option.bind_some]
    rw [eqInt64S_eq hl2 (by omega)]
    simp only [Option.bind_some, decide_true, if_true, bne_self_eq_false, laws_FnExactPlacesOf.j1, Bool.false_eq_true, if_false]
    rw [heldInt64S_eq hl2 (by omega)]
    simp only [Option.bind_some]
    rw [if_neg (by omega), if_pos trivial]

end Go.Proofs.Ytjnpobaampgakac.Pure
