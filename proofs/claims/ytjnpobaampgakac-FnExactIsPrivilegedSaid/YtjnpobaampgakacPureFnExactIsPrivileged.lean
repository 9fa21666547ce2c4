/- The plain part of the law FnExactIsPrivileged: for every input that the law takes, the printed function of the law answers true once it has rounds enough. Conditions: those that stand in the statement (sizes of strings and slices, kinds of numbers), no other. -/
import Derived.Test.YtjnpobaampgakacQx3
import Derived.Test.YtjnpobaampgakacMath
import Derived.Test.YtjnpobaampgakacMath4
namespace Go.Proofs.Ytjnpobaampgakac.Pure
open Go.RowKit Go.Proofs.Ytjnpobaampgakac.Q Go.Proofs.YtjnpobaampgakacW.PrintWords Go.Proofs.YtjnpobaampgakacW.PrintLast Go.Proofs.YtjnpobaampgakacW.PrintMore
set_option linter.unusedVariables false
set_option linter.unusedSimpArgs false

theorem spec_l01Is_eq {k : Nat} {w : ByteArray} (hw : w.size ≤ 140737488351232) (hk : w.size + 1 < k) : spec_l01Is.f k w = some (isW w) := by
  have h := find_gen (fun k i => spec_l01Is.l0 k w i) w.size (fun i => !okB (bt w i)) (fun _ => false) (decide ((w.size : Int) ≤ 60)) 0
    (fun k i _ hi => by
      simp only [spec_l01Is.l0]
      rw [if_pos (by omega), if_pos (by omega)]
      by_cases h1 : bt w i < 97
      · rw [if_pos h1]
        have : okB (bt w i) = false := by unfold okB; simp; omega
        simp [this]
      · rw [if_neg h1]
        by_cases h2 : bt w i > 101
        · rw [if_pos h2]
          have : okB (bt w i) = false := by unfold okB; simp; omega
          simp [this]
        · rw [if_neg h2, w64 (by omega) (by omega)]
          have : okB (bt w i) = true := by unfold okB; simp; omega
          simp [this])
    (fun k _ => by simp only [spec_l01Is.l0]; rw [if_neg (by omega)])
    w.size k 0 (by omega) (by omega)
  unfold spec_l01Is.f
  rw [show (0 : Int) = ((0 : Nat) : Int) from rfl, h]
  congr 1
  unfold isW
  cases hf : findE (fun i => !okB (bt w i)) 0 w.size with
  | some j =>
    obtain ⟨_, h1, h2, _⟩ := findE_some hf
    have : (bytesOf w).all okB = false := by
      rw [Bool.eq_false_iff]
      intro h3
      rw [List.all_eq_true] at h3
      have hj : j < (bytesOf w).length := by rw [bo_len]; omega
      have := h3 _ (List.getElem_mem hj)
      rw [bt_nat, getD_eq _ _ hj, this] at h2
      cases h2
    simp [this]
  | none =>
    have : (bytesOf w).all okB = true := by
      rw [List.all_eq_true]
      intro x hx
      obtain ⟨j, hj, rfl⟩ := List.mem_iff_getElem.mp hx
      have := findE_none.mp hf j (Nat.zero_le _) (by rw [bo_len] at hj; omega)
      rw [bt_nat, getD_eq _ _ hj] at this
      simpa using this
    simp only [this, Bool.and_true, decide_eq_decide]
    omega
theorem spec_not_word {w : ByteArray} (h : w.size > 60) : isW w = false := by unfold isW; simp; omega

theorem wordCode_1 (a : ByteArray) : impl_wordCode.f () [a] = some (if isW a then 0 else 1) := by unfold impl_wordCode.f; simp
theorem wordCode_2 (a b : ByteArray) : impl_wordCode.f () [a, b] = some (if isW a && isW b then 0 else 1) := by unfold impl_wordCode.f; simp

def placeB (w u : ByteArray) (i : Nat) : Bool := decide (i + u.size ≤ w.size) && decide (w.extract i (i + u.size) = u)
def plL (w u : ByteArray) : List Int := gath (placeB w u) (fun i => (i : Int)) 0 (w.size + 1)
theorem plL_len (w u : ByteArray) : (plL w u).length ≤ w.size + 1 := gath_len _ _ _ _
theorem hasPrefix_eq {a b : ByteArray} : strings_HasPrefix.f a b = some (decide (b.size ≤ a.size) && decide (a.extract 0 b.size = b)) := by
  unfold strings_HasPrefix.f stringslite_HasPrefix.f
  by_cases h : b.size ≤ a.size
  · rw [if_pos (by omega), if_pos (by omega), if_pos (by omega), toList_beq]
    simp [h]
  · rw [if_neg (by omega)]; simp [h]
theorem impl_places_eq {k : Nat} {w u : ByteArray} (hw : w.size ≤ 1048576) (hk : w.size + 2 < k) : impl_places.f k w u = some (plL w u) := by
  have h := gather_gen (fun k acc i => impl_places.l0 k w u acc ((w.size + 1 : Nat) : Int) i) (w.size + 1) (placeB w u) (fun i => (i : Int)) (fun l => l) 0
    (fun k i acc _ hi ha => by
      simp only [impl_places.l0]
      rw [if_pos (by omega), if_pos (by omega), if_pos (by omega), hasPrefix_eq, w64 (by omega) (by omega), Int.toNat_natCast]
      have e : (decide (u.size ≤ (w.extract i w.size).size) && decide ((w.extract i w.size).extract 0 u.size = u)) = placeB w u i := by
        unfold placeB
        rw [ext_size]
        by_cases h : i + u.size ≤ w.size
        · rw [ext_ext _ h]
          rw [decide_eq_true (show u.size ≤ min w.size w.size - i by omega), decide_eq_true h]; rfl
        · rw [decide_eq_false h]
          by_cases h2 : u.size ≤ min w.size w.size - i
          · omega
          · rw [decide_eq_false h2]; rfl
      rw [e]
      cases placeB w u i
      · simp
      · simp; omega)
    (fun k acc _ => by simp only [impl_places.l0]; rw [if_neg (by omega)])
    (w.size + 1) k 0 [] (by omega) (by omega) (by simp)
  unfold impl_places.f
  rw [w64 (by omega) (by omega)]
  exact h

/-- no further place inside -/
def twB (w : ByteArray) (b : Nat) : Bool := (findE (fun i => decide (w.extract i (i + b) = w.extract 0 b)) 1 (w.size - b - 1)).isNone
def bordB (w : ByteArray) (b : Nat) : Bool := decide (w.extract 0 b = w.extract (w.size - b) w.size)
theorem spec_l04Twice_eq {k : Nat} {w : ByteArray} {b : Nat} (hw : w.size ≤ 60) (h0 : 0 < b) (hb : b < w.size) (hk : 1000 ≤ k) : spec_l04Twice.f k w b = some (twB w b) := by
  have h := find_gen (fun k i => spec_l04Twice.l0 k w b i) (w.size - b) (fun i => decide (w.extract i (i + b) = w.extract 0 b)) (fun _ => false) true 0
    (fun k i _ hi => by
      simp only [spec_l04Twice.l0]
      rw [w64 (x := (i : Int) + b) (by omega) (by omega), if_pos (by omega), if_pos (by omega), if_pos (by omega), if_pos (by omega), if_pos (by omega), if_pos (by omega), w64 (by omega) (by omega)]
      rw [show ((i : Int) + b).toNat = i + b by omega, Int.toNat_natCast, Int.toNat_natCast]
      by_cases h1 : w.extract i (i + b) = w.extract 0 b
      · rw [if_pos (toList_iff.mpr h1), if_pos (by simpa using h1)]
      · rw [if_neg (fun e => h1 (toList_iff.mp e)), if_neg (by simpa using h1)]; rfl)
    (fun k _ => by simp only [spec_l04Twice.l0]; rw [w64 (by omega) (by omega), if_neg (by omega)])
    (w.size - b - 1) k 1 (by omega) (by omega)
  unfold spec_l04Twice.f twB
  rw [show (1 : Int) = ((1 : Nat) : Int) from rfl, h]
  cases findE (fun i => decide (w.extract i (i + b) = w.extract 0 b)) 1 (w.size - b - 1) <;> rfl
theorem pl_two {w : ByteArray} {b : Nat} (h0 : 0 < b) (hb : b < w.size) (hx : bordB w b = true) : decide (((plL w (w.extract 0 b)).length : Int) = 2) = twB w b := by
  have hz : (w.extract 0 b).size = b := by rw [ext_size]; omega
  have hp : ∀ i, placeB w (w.extract 0 b) i = (decide (i + b ≤ w.size) && decide (w.extract i (i + b) = w.extract 0 b)) := fun i => by unfold placeB; rw [hz]
  have e0 : placeB w (w.extract 0 b) 0 = true := by rw [hp, decide_eq_true (by omega), Nat.zero_add, decide_eq_true rfl]; rfl
  have e1 : placeB w (w.extract 0 b) (w.size - b) = true := by
    rw [hp, decide_eq_true (by omega)]
    unfold bordB at hx
    rw [decide_eq_true_iff] at hx
    rw [show w.size - b + b = w.size by omega, hx, decide_eq_true rfl]; rfl
  have e2 : gath (placeB w (w.extract 0 b)) (fun i => (i : Int)) (w.size - b + 1) b = [] := gath_none _ _ _ _ fun m h1 h2 => by rw [hp, decide_eq_false (by omega)]; rfl
  have hl : plL w (w.extract 0 b) = [0] ++ gath (placeB w (w.extract 0 b)) (fun i => (i : Int)) 1 (w.size - b - 1) ++ [((w.size - b : Nat) : Int)] := by
    unfold plL
    rw [show w.size + 1 = 1 + ((w.size - b - 1) + (1 + b)) by omega, gath_add, gath_add, gath_add]
    rw [show 0 + 1 + (w.size - b - 1) = w.size - b by omega, e2]
    rw [show gath (placeB w (w.extract 0 b)) (fun i => (i : Int)) 0 1 = [0] by rw [gath_succ, e0]; rfl, show gath (placeB w (w.extract 0 b)) (fun i => (i : Int)) (w.size - b) 1 = [((w.size - b : Nat) : Int)] by rw [gath_succ, e1]; rfl]
    simp
  rw [hl, Bool.eq_iff_iff, decide_eq_true_iff]
  unfold twB
  rw [Option.isNone_iff_eq_none, findE_none]
  simp only [List.length_append, List.length_cons, List.length_nil]
  constructor
  · intro h m h1 h2
    have : gath (placeB w (w.extract 0 b)) (fun i => (i : Int)) 1 (w.size - b - 1) = [] := List.length_eq_zero_iff.mp (by omega)
    have := gath_nil.mp this m h1 h2
    rw [hp, decide_eq_true (show m + b ≤ w.size by omega)] at this
    simpa using this
  · intro h
    rw [gath_none _ _ _ _ (fun m h1 h2 => by rw [hp, h m h1 h2, Bool.and_false])]
    simp
/-- the words with which a word begins and ends and that stand nowhere else in it -/
def retB (w : ByteArray) (b : Nat) : Bool := bordB w b && twB w b
def retL (w : ByteArray) : List ByteArray := gath (retB w) (fun b => w.extract 0 b) 1 (w.size - 1)
theorem impl_returns_eq {k : Nat} {w : ByteArray} (hw : w.size ≤ 60) (hk : 1000 ≤ k) : impl_returns.f k w = some (retL w) := by
  unfold impl_returns.f
  rcases Nat.eq_zero_or_pos w.size with hz | hz
  · obtain ⟨k, rfl⟩ := rounds_pos (show 0 < k by omega)
    simp only [impl_returns.l0]
    rw [if_neg (by omega)]
    unfold retL gath
    rw [hz]; rfl
  have h := gather_from (fun k acc i => impl_returns.l0 k w acc i) w.size 1 (retB w) (fun b => w.extract 0 b) (fun l => l) 200
    (fun k i acc hk hl hi ha => by
      simp only [impl_returns.l0]
      rw [if_pos (by omega), if_pos (by omega), if_pos (by omega), w64 (by omega) (by omega), if_pos (by omega), if_pos (by omega), w64 (by omega) (by omega)]
      rw [show ((w.size : Int) - i).toNat = w.size - i by omega, Int.toNat_natCast]
      unfold retB
      by_cases h1 : w.extract (w.size - i) w.size = w.extract 0 i
      · have hx : bordB w i = true := by unfold bordB; simp [h1]
        rw [if_pos (toList_iff.mpr h1), impl_places_eq (by omega) (by omega), hx, Bool.true_and, ← pl_two (by omega) hi hx]
        simp only [Option.bind_some]
        by_cases h2 : ((plL w (w.extract 0 i)).length : Int) = 2
        · rw [if_pos h2, if_pos (by omega), if_pos (by simpa using h2)]; rfl
        · rw [if_neg h2, if_neg (by simpa using h2)]; rfl
      · have hx : bordB w i = false := by unfold bordB; simp; exact fun e => h1 e.symm
        rw [if_neg (fun e => h1 (toList_iff.mp e)), hx, Bool.false_and, if_neg (by simp)]; rfl)
    (fun k acc _ => by simp only [impl_returns.l0]; rw [if_neg (by omega)])
    (w.size - 1) k 1 [] (by omega) (by omega) (by omega) (by simp)
  rw [show (1 : Int) = ((1 : Nat) : Int) from rfl, h]
  rfl

def privF : Nat → ByteArray → Bool
  | 0, _ => true
  | n + 1, w => decide (w.size < 2) || (findE (fun b => retB w b && privF n (w.extract 0 b)) 1 (w.size - 1)).isSome
theorem spec_l04Closed_true : ∀ (n : Nat) (w : ByteArray) (k : Nat), w.size ≤ n → n ≤ 60 → 3000 + 100 * n < k → spec_l04Closed.f k w true = some (privF n w)
  | 0, w, k, hn, h60, hk => by
    obtain ⟨k, rfl⟩ := rounds_pos (show 0 < k by omega)
    simp only [spec_l04Closed.f]
    rw [if_pos (by omega)]; rfl
  | n + 1, w, k, hn, h60, hk => by
    obtain ⟨k, rfl⟩ := rounds_pos (show 0 < k by omega)
    simp only [spec_l04Closed.f, privF]
    by_cases hz : w.size < 2
    · rw [if_pos (by omega), decide_eq_true hz]; rfl
    · rw [if_neg (by omega), decide_eq_false hz, Bool.false_or]
      have h := find_from (fun k i => spec_l04Closed.l0 k w true i) w.size 1 (fun b => retB w b && privF n (w.extract 0 b)) (fun _ => true) false (3001 + 100 * n)
        (fun k i hk hl hi => by
          simp only [spec_l04Closed.l0]
          rw [if_pos (by omega), if_pos (by omega), if_pos (by omega), w64 (by omega) (by omega), if_pos (by omega), if_pos (by omega), w64 (by omega) (by omega)]
          rw [show ((w.size : Int) - i).toNat = w.size - i by omega, Int.toNat_natCast]
          unfold retB
          by_cases h1 : w.extract 0 i = w.extract (w.size - i) w.size
          · have hx : bordB w i = true := by unfold bordB; simp [h1]
            rw [if_pos (toList_iff.mpr h1), spec_l04Twice_eq (by omega) (by omega) hi (by omega), hx, Bool.true_and, Option.bind_some]
            rw [spec_l04Closed_true n (w.extract 0 i) k (by rw [ext_size]; omega) (by omega) (by omega), Option.bind_some]
            cases twB w i <;> cases privF n (w.extract 0 i) <;> simp
          · have hx : bordB w i = false := by unfold bordB; simp [h1]
            rw [if_neg (fun e => h1 (toList_iff.mp e)), hx, Bool.false_and, Bool.false_and, if_neg (by decide)]; rfl)
        (fun k _ => by simp only [spec_l04Closed.l0]; rw [if_neg (by omega)])
        (w.size - 1) k 1 (by omega) (by omega) (by omega)
      rw [show (1 : Int) = ((1 : Nat) : Int) from rfl, h]
      cases findE (fun b => retB w b && privF n (w.extract 0 b)) 1 (w.size - 1) <;> rfl
theorem anyO_eq {f : ByteArray → Option Bool} {g : ByteArray → Bool} : ∀ {l : List ByteArray}, (∀ x ∈ l, f x = some (g x)) → anyO f l = some (l.any g)
  | [], _ => rfl
  | x :: l, h => by
    simp only [anyO]
    rw [h x (List.mem_cons_self ..), Option.bind_some, anyO_eq (fun y hy => h y (List.mem_cons_of_mem _ hy)), Option.bind_some, List.any_cons]
theorem impl_isPrivileged_eq : ∀ (n : Nat) (w : ByteArray) (k : Nat), w.size ≤ n → n ≤ 60 → 3000 + 100 * n < k → impl_isPrivileged.f k w = some (privF n w)
  | 0, w, k, hn, h60, hk => by
    obtain ⟨k, rfl⟩ := rounds_pos (show 0 < k by omega)
    simp only [impl_isPrivileged.f]
    rw [if_pos (by omega)]; rfl
  | n + 1, w, k, hn, h60, hk => by
    obtain ⟨k, rfl⟩ := rounds_pos (show 0 < k by omega)
    simp only [impl_isPrivileged.f, privF]
    by_cases hz : w.size < 2
    · rw [if_pos (by omega), decide_eq_true hz]; rfl
    · rw [if_neg (by omega), decide_eq_false hz, Bool.false_or, impl_returns_eq (by omega) (by omega), Option.bind_some]
      rw [anyO_eq (g := privF n) (fun x hx => by
        obtain ⟨m, h1, h2, _, rfl⟩ := gath_mem.mp hx
        exact impl_isPrivileged_eq n _ k (by rw [ext_size]; omega) (by omega) (by omega))]
      congr 1
      rw [Bool.eq_iff_iff, List.any_eq_true]
      constructor
      · rintro ⟨x, hx, hp⟩
        obtain ⟨m, h1, h2, h3, rfl⟩ := gath_mem.mp hx
        cases hf : findE (fun b => retB w b && privF n (w.extract 0 b)) 1 (w.size - 1) with
        | some j => rfl
        | none =>
          have := findE_none.mp hf m h1 h2
          simp [h3, hp] at this
      · intro h
        cases hf : findE (fun b => retB w b && privF n (w.extract 0 b)) 1 (w.size - 1) with
        | none => rw [hf] at h; cases h
        | some j =>
          obtain ⟨h1, h2, h3, _⟩ := findE_some hf
          rw [Bool.and_eq_true] at h3
          exact ⟨_, gath_mem.mpr ⟨j, h1, h2, h3.1, rfl⟩, h3.2⟩
theorem FnExactIsPrivileged : laws_FnExactIsPrivileged.Pure := by
  intro a0 h0
  by_cases hs : (a0.size : Int) > 1048576
  · exact ⟨0, by unfold laws_FnExactIsPrivileged.f; rw [if_pos hs]⟩
  · refine ⟨1048600, ?_⟩
    have e : spec_IsPrivileged.f 1048600 a0 = some (if isW a0 then (privF 60 a0, 0) else (false, 1)) := by
      unfold spec_IsPrivileged.f
      rw [spec_l01Is_eq h0 (by omega)]
      cases hw : isW a0
      · simp
      · simp [spec_l04Closed_true 60 a0 1048600 (isW_size hw) (by omega) (by omega)]
    have e2 : impl_IsPrivileged.f 1048600 a0 = some (if isW a0 then (privF 60 a0, 0) else (false, 1)) := by
      unfold impl_IsPrivileged.f
      rw [wordCode_1]
      cases hw : isW a0
      · simp
      · simp [impl_isPrivileged_eq 60 a0 1048600 (isW_size hw) (by omega) (by omega)]
    unfold laws_FnExactIsPrivileged.f
    rw [if_neg hs, e, e2]
    simp

end Go.Proofs.Ytjnpobaampgakac.Pure
