/- The plain part of the law FnExactDoubleWord: for every input that the law takes, the printed function of the law answers true once it has rounds enough. Conditions: those that stand in the statement (sizes of strings and slices, kinds of numbers), no other. -/
import Derived.Test.YtmihfmhfgjnfcaaQx6
import Derived.Test.YtmihfmhfgjnfcaaMath
namespace Go.Proofs.Ytmihfmhfgjnfcaa.Pure
open Go.RowKit Go.Proofs.Ytmihfmhfgjnfcaa.Q Go.Proofs.YtmihfmhfgjnfcaaW.PrintWords Go.Proofs.YtmihfmhfgjnfcaaW.PrintLast Go.Proofs.YtmihfmhfgjnfcaaW.PrintMore
set_option linter.unusedVariables false
set_option linter.unusedSimpArgs false

/-- a marking of the places 0..n-1 by numbers -/
structure MInv (n p q : Nat) (L : List Int) : Prop where
  len : L.length = n
  val : ∀ j : Nat, j < n → 0 ≤ rd L j ∧ rd L j < n
  least : ∀ g : Nat → Int, (∀ i, i + p < n → g i = g (i + p)) → (∀ i, i + q < n → g i = g (i + q)) → ∀ i j : Nat, i < n → j < n → rd L i = rd L j → g i = g j
structure MGood (n p q : Nat) (L : List Int) : Prop extends MInv n p q L where
  hp : ∀ i : Nat, i + p < n → rd L i = rd L (i + p : Nat)
  hq : ∀ i : Nat, i + q < n → rd L i = rd L (i + q : Nat)
theorem MGood.same {n p q : Nat} {L M : List Int} (a : MGood n p q L) (b : MGood n p q M) {i j : Nat} (hi : i < n) (hj : j < n) : rd L i = rd L j ↔ rd M i = rd M j :=
  ⟨fun h => a.least (fun t => rd M t) b.hp b.hq i j hi hj h, fun h => b.least (fun t => rd L t) a.hp a.hq i j hi hj h⟩
/-- L' is L with every b turned into a -/
def Merged (n : Nat) (a b : Int) (L L' : List Int) : Prop := L'.length = n ∧ ∀ j : Nat, j < n → rd L' j = if rd L j = b then a else rd L j
theorem MInv.merge {n p q : Nat} {L L' : List Int} {a b : Int} {x y : Nat} (h : MInv n p q L) (hx : x < n) (hy : y < n) (hxy : y = x + p ∨ y = x + q) (hab : (a = rd L x ∧ b = rd L y) ∨ (a = rd L y ∧ b = rd L x)) (hm : Merged n a b L L') :
    MInv n p q L' ∧ (∀ i j : Nat, i < n → j < n → rd L i = rd L j → rd L' i = rd L' j) ∧ rd L' x = rd L' y := by
  obtain ⟨hl, hm⟩ := hm
  refine ⟨⟨hl, ?_, ?_⟩, ?_, ?_⟩
  · intro j hj
    rw [hm j hj]
    split
    · rcases hab with ⟨rfl, _⟩ | ⟨rfl, _⟩
      · exact h.val x hx
      · exact h.val y hy
    · exact h.val j hj
  · intro g g1 g2 i j hi hj e
    have K := h.least g g1 g2
    have hg : g x = g y := by rcases hxy with rfl | rfl; exact g1 x hy; exact g2 x hy
    rw [hm i hi, hm j hj] at e
    rcases hab with ⟨ha, hb⟩ | ⟨ha, hb⟩
    · by_cases ci : rd L i = b
      · by_cases cj : rd L j = b
        · exact K i j hi hj (ci.trans cj.symm)
        · rw [if_pos ci, if_neg cj] at e
          rw [K i y hi hy (ci.trans hb), ← hg]; exact K x j hx hj (ha.symm.trans e)
      · by_cases cj : rd L j = b
        · rw [if_neg ci, if_pos cj] at e
          rw [K j y hj hy (cj.trans hb), ← hg]; exact K i x hi hx (e.trans ha)
        · rw [if_neg ci, if_neg cj] at e
          exact K i j hi hj e
    · by_cases ci : rd L i = b
      · by_cases cj : rd L j = b
        · exact K i j hi hj (ci.trans cj.symm)
        · rw [if_pos ci, if_neg cj] at e
          rw [K i x hi hx (ci.trans hb), hg]; exact K y j hy hj (ha.symm.trans e)
      · by_cases cj : rd L j = b
        · rw [if_neg ci, if_pos cj] at e
          rw [K j x hj hx (cj.trans hb), hg]; exact K i y hi hy (e.trans ha)
        · rw [if_neg ci, if_neg cj] at e
          exact K i j hi hj e
  · intro i j hi hj e
    rw [hm i hi, hm j hj, e]
  · rw [hm x hx, hm y hy]
    rcases hab with ⟨rfl, rfl⟩ | ⟨rfl, rfl⟩
    · rw [if_pos rfl]; split <;> rfl
    · rw [if_pos rfl]; split <;> rfl
theorem rd_setI {L : List Int} {k : Nat} {v : Int} (hk : k < L.length) (j : Nat) : rd (L.set k v) (j : Int) = if j = k then v else rd L j := by
  unfold rd
  simp only [Int.toNat_natCast, List.getD_eq_getElem?_getD]
  by_cases h : j = k
  · subst h; rw [if_pos rfl]; simp [hk]
  · rw [if_neg h, List.getElem?_set_ne (fun e => h e.symm)]
/-- the first k places of L are merged already -/
def MergedTo (n k : Nat) (a b : Int) (L L' : List Int) : Prop := L'.length = n ∧ ∀ j : Nat, j < n → rd L' j = if j < k then (if rd L j = b then a else rd L j) else rd L j
theorem MergedTo.done {n : Nat} {a b : Int} {L L' : List Int} (h : MergedTo n n a b L L') : Merged n a b L L' := ⟨h.1, fun j hj => by rw [h.2 j hj, if_pos hj]⟩
theorem MergedTo.start {n : Nat} {a b : Int} {L : List Int} (h : L.length = n) : MergedTo n 0 a b L L := ⟨h, fun j hj => by rw [if_neg (by omega)]⟩
theorem MergedTo.step {n k : Nat} {a b : Int} {L L' : List Int} (h : MergedTo n k a b L L') (hk : k < n) :
    MergedTo n (k + 1) a b L (if rd L' k = b then L'.set k a else L') := by
  have hkk := h.2 k hk
  rw [if_neg (by omega)] at hkk
  by_cases e : rd L' k = b
  · rw [if_pos e]
    refine ⟨by rw [List.length_set]; exact h.1, fun j hj => ?_⟩
    rw [rd_setI (by rw [h.1]; exact hk)]
    by_cases ej : j = k
    · subst ej; rw [if_pos rfl, if_pos (show j < j + 1 by omega), if_pos (hkk ▸ e)]
    · rw [if_neg ej, h.2 j hj]
      by_cases hlt : j < k
      · rw [if_pos hlt, if_pos (show j < k + 1 by omega)]
      · rw [if_neg hlt, if_neg (by omega)]
  · rw [if_neg e]
    refine ⟨h.1, fun j hj => ?_⟩
    by_cases ej : j = k
    · subst ej; rw [if_pos (show j < j + 1 by omega), if_neg (hkk ▸ e), hkk]
    · rw [h.2 j hj]
      by_cases hlt : j < k
      · rw [if_pos hlt, if_pos (show j < k + 1 by omega)]
      · rw [if_neg hlt, if_neg (by omega)]
/-- the letters, of equal places -/
def fstL (e : Nat → Nat → Bool) (out : List Int) (i : Nat) : Nat → Nat → Int
  | 0, _ => 0
  | d + 1, j => if e j i = true then rd out j else fstL e out i d (j + 1)
def dwG (e : Nat → Nat → Bool) : Nat → Nat → List Int → Nat → ByteArray × Int
  | 0, _, out, _ => (strOfNums out, 0)
  | d + 1, i, out, next => if fstL e out i i 0 = 0 then (if next = 5 then (⟨#[]⟩, 3) else dwG e d (i + 1) (out ++ [97 + (next : Int)]) (next + 1)) else dwG e d (i + 1) (out ++ [fstL e out i i 0]) next
theorem fstL_same {e e' : Nat → Nat → Bool} {n i : Nat} (h : ∀ j, j < i → e j i = e' j i) (out : List Int) : ∀ (d j : Nat), j + d = i → fstL e out i d j = fstL e' out i d j
  | 0, j, _ => rfl
  | d + 1, j, hj => by unfold fstL; rw [h j (by omega), fstL_same (n := n) h out d (j + 1) (by omega)]
theorem dwG_same {e e' : Nat → Nat → Bool} {n : Nat} (h : ∀ j i, j < i → i < n → e j i = e' j i) : ∀ (d i next : Nat) (out : List Int), i + d = n → dwG e d i out next = dwG e' d i out next
  | 0, i, next, out, _ => rfl
  | d + 1, i, next, out, hi => by
    unfold dwG
    rw [fstL_same (n := n) (fun j hj => h j i hj (by omega)) out i 0 (by omega)]
    rw [dwG_same h d (i + 1) _ _ (by omega), dwG_same h d (i + 1) _ _ (by omega)]
def eqR (L : List Int) (j i : Nat) : Bool := rd L j == rd L i
/-- the result that both programs give -/
def dwOf (n : Nat) (L : List Int) : ByteArray × Int := dwG (eqR L) n 0 [] 0
theorem dwOf_same {n p q : Nat} {L M : List Int} (a : MGood n p q L) (b : MGood n p q M) : dwOf n L = dwOf n M :=
  dwG_same (n := n) (fun j i hj hi => by unfold eqR; rw [Bool.eq_iff_iff, beq_iff_eq, beq_iff_eq]; exact a.same b (by omega) hi) n 0 0 [] (by omega)

theorem spec_l01In_eq (n lo hi : Int) : spec_l01In.f n lo hi = some (inR n lo hi) := by
  unfold spec_l01In.f inR
  by_cases h : n ≥ lo
  · rw [if_pos h, decide_eq_true (show lo ≤ n from h)]; simp
  · rw [if_neg h, decide_eq_false (show ¬ lo ≤ n from h)]; simp

theorem spec_l02Gcd_l0 : ∀ (b : Nat) (k a : Nat), b < k → spec_l02Gcd.l0 k (a : Int) (b : Int) = some ((Nat.gcd a b : Nat) : Int)
  | b, k, a, hk => by
    obtain ⟨k, rfl⟩ := rounds_pos (show 0 < k by omega)
    simp only [spec_l02Gcd.l0]
    rcases Nat.eq_zero_or_pos b with h0 | h0
    · subst h0
      rw [if_neg (by omega)]
      simp
    · rw [if_pos (by omega), if_neg (by omega), gcd_step a b]
      have hm := Nat.mod_lt a h0
      rw [show Int.tmod (a : Int) (b : Int) = ((a % b : Nat) : Int) from rfl]
      exact spec_l02Gcd_l0 (a % b) k b (by omega)
theorem spec_l02Gcd_eq {k : Nat} {a b : Int} (ha : 0 ≤ a) (hb : 0 ≤ b) (hk : b < k) : spec_l02Gcd.f k a b = some (gcdI a b) := by
  obtain ⟨a, rfl⟩ := Int.eq_ofNat_of_zero_le ha
  obtain ⟨b, rfl⟩ := Int.eq_ofNat_of_zero_le hb
  unfold spec_l02Gcd.f gcdI
  exact spec_l02Gcd_l0 b k a (by omega)

theorem impl_divisor_l0 : ∀ (b : Nat) (k a : Nat), b < k → impl_divisor.l0 k (a : Int) (b : Int) = some ((Nat.gcd a b : Nat) : Int)
  | b, k, a, hk => by
    obtain ⟨k, rfl⟩ := rounds_pos (show 0 < k by omega)
    simp only [impl_divisor.l0]
    rcases Nat.eq_zero_or_pos b with h0 | h0
    · subst h0
      rw [if_pos (by simp)]
      simp
    · rw [if_neg (by omega), gcd_step a b]
      have hm := Nat.mod_lt a h0
      rw [show Int.tmod (a : Int) (b : Int) = ((a % b : Nat) : Int) from rfl]
      exact impl_divisor_l0 (a % b) k b (by omega)
theorem impl_divisor_eq {k : Nat} {a b : Int} (ha : 0 ≤ a) (hb : 0 ≤ b) (hk : b < k) : impl_divisor.f k a b = some (gcdI a b) := by
  obtain ⟨a, rfl⟩ := Int.eq_ofNat_of_zero_le ha
  obtain ⟨b, rfl⟩ := Int.eq_ofNat_of_zero_le hb
  unfold impl_divisor.f gcdI
  exact impl_divisor_l0 b k a (by omega)

def dblLen (p q : Int) : Int := wrap64 ((wrap64 ((wrap64 (p + q)) - gcdI p q)) - 1)
theorem impl_doubleLength_eq {k : Nat} {p q : Int} (hp : 0 ≤ p) (hq : 0 ≤ q) (hk : q < k) : impl_doubleLength.f k p q = some (dblLen p q) := by
  unfold impl_doubleLength.f
  rw [impl_divisor_eq hp hq hk]; rfl

theorem spec_dw_l3 {n : Nat} {p q x : Int} {a b : Int} {L : List Int} {F : List Int} {u v : Int} {z : ByteArray × Int} (hn : n ≤ 60) {r0 : Nat} (H : ∀ L' r, r0 ≤ r → Merged n a b L L' → spec_DoubleWord.l2 r p q n L' x F u (wrap64 (v + 1)) = some z) : ∀ (d k r : Nat) (L' : List Int), k + d = n → MergedTo n k a b L L' → r0 + d < r → spec_DoubleWord.l3 r p q n L' x a b (k : Int) F u v = some z
  | 0, k, r, L', hk, hm, hr => by
    obtain ⟨r, rfl⟩ := rounds_pos (show 0 < r by omega)
    simp only [spec_DoubleWord.l3]
    rw [if_neg (by omega)]
    obtain rfl : k = n := by omega
    exact H L' r (by omega) hm.done
  | d + 1, k, r, L', hk, hm, hr => by
    obtain ⟨r, rfl⟩ := rounds_pos (show 0 < r by omega)
    simp only [spec_DoubleWord.l3]
    have hl := hm.1
    rw [if_pos (by omega), if_pos (by omega), if_pos (by omega), w64 (by omega) (by omega), Int.toNat_natCast]
    have h1 := hm.step (show k < n by omega)
    have h2 := spec_dw_l3 hn H d (k + 1) r _ (by omega) h1 (by omega)
    rw [show (k : Int) + 1 = ((k + 1 : Nat) : Int) by omega]
    by_cases e : rd L' k = b
    · rw [if_pos e] at h2 ⊢; exact h2
    · rw [if_neg e] at h2 ⊢; exact h2
/-- one far place: the walk goes on with the marking that has i and i + s together -/
theorem spec_dw_one {n p q s i : Nat} {u v : Int} {F : List Int} {L : List Int} {z : ByteArray × Int} (hn : n ≤ 60) (hi : i < n) (hs : 1 ≤ s ∧ s ≤ 60) (hpq : s = p ∨ s = q) (h0 : 0 ≤ v) (h1 : v < u) (hF : (F.length : Int) = u) (hv : rd F v = s) (hL : MInv n p q L) {r0 : Nat} (H : ∀ L' r, r0 ≤ r → MInv n p q L' → (∀ x y : Nat, x < n → y < n → rd L x = rd L y → rd L' x = rd L' y) → (i + s < n → rd L' i = rd L' (i + s : Nat)) → spec_DoubleWord.l2 r p q n L' i F u (wrap64 (v + 1)) = some z) (r : Nat) (hr : r0 + 100 < r) : spec_DoubleWord.l2 r p q n L i F u v = some z := by
  obtain ⟨r, rfl⟩ := rounds_pos (show 0 < r by omega)
  obtain ⟨r, rfl⟩ := rounds_pos (show 0 < r by omega)
  have hl := hL.len
  simp only [spec_DoubleWord.l2]
  rw [if_pos h1, if_pos h0, if_pos (by omega), hv, w64 (x := (i : Int) + s) (by omega) (by omega), show (i : Int) + (s : Int) = ((i + s : Nat) : Int) by omega]
  by_cases c : i + s < n
  · rw [if_neg (by omega), if_pos (by omega), if_pos (by omega), if_pos (by omega), if_pos (by omega)]
    simp only [spec_DoubleWord.j4]
    by_cases e : rd L i = rd L (i + s : Nat)
    · rw [e, beq_self_eq_true, if_pos rfl]
      exact H L r (by omega) hL (fun x y _ _ e => e) fun _ => e
    · rw [beq_eq_false_iff_ne.mpr e, if_neg (by decide), if_pos (by omega), if_pos (by omega), w64 (x := (i : Int) + s) (by omega) (by omega), show (i : Int) + (s : Int) = ((i + s : Nat) : Int) by omega, if_pos (by omega), if_pos (by omega)]
      refine spec_dw_l3 (L := L) (r0 := r0) hn (fun L' r' hr' hm => ?_) n 0 r L (by omega) (MergedTo.start hl) (by omega)
      obtain ⟨i1, i2, i3⟩ := hL.merge (x := i) (y := i + s) hi c (by rcases hpq with rfl | rfl; left; rfl; right; rfl) (Or.inl ⟨rfl, rfl⟩) hm
      exact H L' r' hr' i1 i2 fun _ => i3
  · rw [if_pos (by omega)]
    simp only [spec_DoubleWord.j4]
    exact H L r (by omega) hL (fun x y _ _ e => e) fun h => absurd h c
set_option maxRecDepth 20000 in
theorem spec_dw_l1 {n p q : Nat} {z : ByteArray × Int} (hn : n ≤ 60) (hp : 1 ≤ p ∧ p ≤ 60) (hq : 1 ≤ q ∧ q ≤ 60) {r0 : Nat} (H : ∀ L' r, r0 ≤ r → MGood n p q L' → spec_DoubleWord.l4 r L' [] 0 0 = some z) : ∀ (d i r : Nat) (L : List Int), i + d = n → MInv n p q L → (∀ t : Nat, t < i → t + p < n → rd L t = rd L (t + p : Nat)) → (∀ t : Nat, t < i → t + q < n → rd L t = rd L (t + q : Nat)) → r0 + d * 300 < r → spec_DoubleWord.l1 r p q n L i = some z
  | 0, i, r, L, hd, hL, h1, h2, hr => by
    obtain ⟨r, rfl⟩ := rounds_pos (show 0 < r by omega)
    simp only [spec_DoubleWord.l1]
    rw [if_neg (by omega)]
    exact H L r (by omega) ⟨hL, fun t ht => h1 t (by omega) ht, fun t ht => h2 t (by omega) ht⟩
  | d + 1, i, r, L, hd, hL, h1, h2, hr => by
    obtain ⟨r, rfl⟩ := rounds_pos (show 0 < r by omega)
    simp only [spec_DoubleWord.l1]
    rw [if_pos (by omega), Option.bind_some]
    have hF : (([(p : Int), (q : Int)] : List Int).length : Int) = 2 := rfl
    rw [hF]
    refine spec_dw_one (s := p) (r0 := r0 + d * 300 + 150) hn (by omega) hp (Or.inl rfl) (by omega) (by omega) rfl rfl hL (fun L1 r1 hr1 k1 k2 k3 => ?_) r (by omega)
    rw [show wrap64 (0 + 1) = 1 from w64 (by omega) (by omega)]
    refine spec_dw_one (s := q) (r0 := r0 + d * 300 + 10) hn (by omega) hq (Or.inr rfl) (by omega) (by omega) rfl rfl k1 (fun L2 r2 hr2 m1 m2 m3 => ?_) r1 (by omega)
    obtain ⟨r2, rfl⟩ := rounds_pos (show 0 < r2 by omega)
    rw [show wrap64 (1 + 1) = 2 from w64 (by omega) (by omega)]
    simp only [spec_DoubleWord.l2]
    rw [if_neg (by omega), w64 (by omega) (by omega), show (i : Int) + 1 = ((i + 1 : Nat) : Int) by omega]
    refine spec_dw_l1 hn hp hq H d (i + 1) r2 L2 (by omega) m1 (fun t h3 h4 => ?_) (fun t h3 h4 => ?_) (by omega)
    · by_cases e : t = i
      · subst e; exact m2 _ _ (by omega) h4 (k3 h4)
      · exact m2 _ _ (by omega) h4 (k2 _ _ (by omega) h4 (h1 t (by omega) h4))
    · by_cases e : t = i
      · subst e; exact m3 h4
      · exact m2 _ _ (by omega) h4 (k2 _ _ (by omega) h4 (h2 t (by omega) h4))
theorem spec_dw_l0 {n p q : Nat} {z : ByteArray × Int} (hn : n ≤ 60) {r0 : Nat} (H : ∀ L' r, r0 ≤ r → MInv n p q L' → spec_DoubleWord.l1 r p q n L' 0 = some z) : ∀ (d k r : Nat) (L : List Int), k + d = n → L.length = k → (∀ j : Nat, j < k → rd L j = j) → r0 + d < r → spec_DoubleWord.l0 r p q n L k = some z
  | 0, k, r, L, hk, hl, hm, hr => by
    obtain ⟨r, rfl⟩ := rounds_pos (show 0 < r by omega)
    simp only [spec_DoubleWord.l0]
    rw [if_neg (by omega)]
    obtain rfl : k = n := by omega
    refine H L r (by omega) ⟨hl, fun j hj => by rw [hm j hj]; omega, fun g _ _ i j hi hj e => ?_⟩
    rw [hm i hi, hm j hj] at e
    have e2 : i = j := by omega
    rw [e2]
  | d + 1, k, r, L, hk, hl, hm, hr => by
    obtain ⟨r, rfl⟩ := rounds_pos (show 0 < r by omega)
    simp only [spec_DoubleWord.l0]
    rw [if_pos (by omega), if_pos (by omega), w64 (by omega) (by omega), show (k : Int) + 1 = ((k + 1 : Nat) : Int) by omega]
    refine spec_dw_l0 hn H d (k + 1) r _ (by omega) (by simp [hl]) (fun j hj => ?_) (by omega)
    by_cases e : j = k
    · subst e; unfold rd; simp [hl, List.getD_eq_getElem?_getD]
    · have := hm j (by omega)
      unfold rd at this ⊢
      simp only [Int.toNat_natCast, List.getD_eq_getElem?_getD] at this ⊢
      rw [List.getElem?_append_left (by omega)]; exact this
/-- the letters of the places before i are in out -/
def LetOk (out : List Int) (i next : Nat) : Prop := out.length = i ∧ next ≤ 5 ∧ ∀ j : Nat, j < i → 97 ≤ rd out j ∧ rd out j < 97 + next
theorem LetOk.push {out : List Int} {i next m : Nat} {v : Int} (h : LetOk out i next) (hm : next ≤ m) (h5 : m ≤ 5) (hv : 97 ≤ v ∧ v < 97 + m) : LetOk (out ++ [v]) (i + 1) m := by
  obtain ⟨h1, h2, h3⟩ := h
  refine ⟨by simp [h1], h5, fun j hj => ?_⟩
  unfold rd
  simp only [Int.toNat_natCast, List.getD_eq_getElem?_getD]
  by_cases e : j = i
  · subst e; simp [← h1, hv.1, hv.2]
  · rw [List.getElem?_append_left (by omega)]
    have := h3 j (by omega)
    unfold rd at this
    simp only [Int.toNat_natCast, List.getD_eq_getElem?_getD] at this
    omega
theorem fstL_range {e : Nat → Nat → Bool} {out : List Int} {i next : Nat} (h : LetOk out i next) : ∀ (d j : Nat), j + d ≤ i → fstL e out i d j = 0 ∨ (97 ≤ fstL e out i d j ∧ fstL e out i d j < 97 + next)
  | 0, j, _ => Or.inl rfl
  | d + 1, j, hj => by
    unfold fstL
    split
    · exact Or.inr (h.2.2 j (by omega))
    · exact fstL_range h d (j + 1) (by omega)
/-- the end of the search for a letter -/
def dwEnd (L out : List Int) (n i next : Nat) (l : Int) : ByteArray × Int := if l = 0 then (if next = 5 then (⟨#[]⟩, 3) else dwG (eqR L) (n - (i + 1)) (i + 1) (out ++ [97 + (next : Int)]) (next + 1)) else dwG (eqR L) (n - (i + 1)) (i + 1) (out ++ [l]) next
theorem spec_dw_end {n R : Nat} {L : List Int} (hn : n ≤ 60) (hl : L.length = n) (d i next : Nat) (out : List Int) (hd : i + (d + 1) = n) (ho : LetOk out i next) (H : ∀ (next r : Nat) (out : List Int), LetOk out (i + 1) next → d * R < r → spec_DoubleWord.l4 r L out next ((i + 1 : Nat) : Int) = some (dwG (eqR L) d (i + 1) out next)) (r : Nat) (l j : Int) (hll : l = 0 ∨ (97 ≤ l ∧ l < 97 + next)) (hr : d * R + 1 < r) : spec_DoubleWord.j8 r L out next i l j false = some (dwEnd L out n i next l) := by
    obtain ⟨r, rfl⟩ := rounds_pos (show 0 < r by omega)
    simp only [spec_DoubleWord.j8]
    obtain ⟨o1, o2, o3⟩ := id ho
    unfold dwEnd
    rw [if_neg (by decide), show n - (i + 1) = d by omega]
    by_cases c : l = 0
    · rw [if_pos c, if_pos c]
      by_cases c5 : next = 5
      · rw [if_pos (by omega), if_pos c5]
      · rw [if_neg (by omega), if_neg c5, if_pos (by omega), w64 (by omega) (by omega), w64 (by omega) (by omega), w64 (by omega) (by omega), Int.emod_eq_of_lt (by omega) (by omega)]
        rw [show (next : Int) + 1 = ((next + 1 : Nat) : Int) by omega, show (i : Int) + 1 = ((i + 1 : Nat) : Int) by omega]
        exact H (next + 1) r _ (ho.push (by omega) (by omega) (by omega)) (by omega)
    · rw [if_neg c, if_neg c, if_pos (by omega), w64 (by omega) (by omega), show (i : Int) + 1 = ((i + 1 : Nat) : Int) by omega]
      exact H next r _ (ho.push (by omega) (by omega) (by omega)) (by omega)
theorem spec_dw_l5 {n R : Nat} {L : List Int} (hn : n ≤ 60) (hl : L.length = n) (d i next : Nat) (out : List Int) (hd : i + (d + 1) = n) (ho : LetOk out i next) (H : ∀ (next r : Nat) (out : List Int), LetOk out (i + 1) next → d * R < r → spec_DoubleWord.l4 r L out next ((i + 1 : Nat) : Int) = some (dwG (eqR L) d (i + 1) out next)) : ∀ (e j r : Nat), j + e = i → d * R + 10 + e * 3 < r → spec_DoubleWord.l5 r L out next i 0 j = some (dwEnd L out n i next (fstL (eqR L) out i e j))
  | 0, j, r, hj, hr => by
    obtain ⟨r, rfl⟩ := rounds_pos (show 0 < r by omega)
    simp only [spec_DoubleWord.l5]
    rw [if_neg (by omega)]
    exact spec_dw_end hn hl d i next out hd ho H r _ _ (Or.inl rfl) (by omega)
  | e + 1, j, r, hj, hr => by
    obtain ⟨r, rfl⟩ := rounds_pos (show 0 < r by omega)
    obtain ⟨r, rfl⟩ := rounds_pos (show 0 < r by omega)
    simp only [spec_DoubleWord.l5]
    have o1 := ho.1
    rw [if_pos (by omega), beq_self_eq_true]
    simp only [spec_DoubleWord.j8]
    rw [if_pos trivial, if_pos (by omega), if_pos (by omega), if_pos (by omega), if_pos (by omega), w64 (by omega) (by omega), fstL]
    have hq : (eqR L j i = true) = (rd L j = rd L i) := by unfold eqR; rw [beq_iff_eq]
    by_cases c : rd L j = rd L i
    · rw [if_pos c, if_pos (by omega), if_pos (hq ▸ c)]
      obtain ⟨r, rfl⟩ := rounds_pos (show 0 < r by omega)
      have hv := ho.2.2 j (by omega)
      simp only [spec_DoubleWord.l5]
      rw [beq_eq_false_iff_ne.mpr (show rd out j ≠ 0 by omega), ite_self]
      exact spec_dw_end hn hl d i next out hd ho H r _ _ (Or.inr hv) (by omega)
    · rw [if_neg c, if_neg (hq ▸ c), show (j : Int) + 1 = ((j + 1 : Nat) : Int) by omega]
      exact spec_dw_l5 hn hl d i next out hd ho H e (j + 1) r (by omega) (by omega)
theorem spec_dw_l4 {n R : Nat} (hR : 400 ≤ R) {L : List Int} (hn : n ≤ 60) (hl : L.length = n) : ∀ (d i r next : Nat) (out : List Int), i + d = n → LetOk out i next → d * R < r → spec_DoubleWord.l4 r L out next i = some (dwG (eqR L) d i out next)
  | 0, i, r, next, out, hd, ho, hr => by
    obtain ⟨r, rfl⟩ := rounds_pos (show 0 < r by omega)
    simp only [spec_DoubleWord.l4]
    rw [if_neg (by omega)]; rfl
  | d + 1, i, r, next, out, hd, ho, hr => by
    obtain ⟨r, rfl⟩ := rounds_pos (show 0 < r by omega)
    simp only [spec_DoubleWord.l4]
    rw [if_pos (by omega)]
    rw [Nat.succ_mul] at hr
    have h := spec_dw_l5 hn hl d i next out hd ho (fun next r out ho hr => spec_dw_l4 hR hn hl d (i + 1) r next out (by omega) ho hr) i 0 r (by omega) (by omega)
    rw [show ((0 : Nat) : Int) = 0 from rfl] at h
    rw [h, dwG, dwEnd, show n - (i + 1) = d by omega]
theorem spec_dw_run {k n p q : Nat} {M : List Int} (hn : n ≤ 60) (hp : 1 ≤ p ∧ p ≤ 60) (hq : 1 ≤ q ∧ q ≤ 60) (hM : MGood n p q M) (hk : 200000 ≤ k) : spec_DoubleWord.l0 k p q n [] 0 = some (dwOf n M) := by
  refine spec_dw_l0 (n := n) (p := p) (q := q) (r0 := 100000) hn (fun L r hr hL => ?_) n 0 k [] (by omega) rfl (fun j hj => by omega) (by omega)
  refine spec_dw_l1 hn hp hq (r0 := 50000) (fun L' r' hr' hL' => ?_) n 0 r L (by omega) hL (fun t ht => by omega) (fun t ht => by omega) (by omega)
  rw [dwOf_same hM hL']
  exact spec_dw_l4 (R := 400) (by omega) hn hL'.len n 0 r' 0 [] (by omega) ⟨rfl, by omega, fun j hj => by omega⟩ (by omega)

theorem impl_cls_l3 {n : Nat} {a b : Int} {L : List Int} {s i : Int} {F : List Int} {u v : Int} (hn : n ≤ 60) {res : List Int → Prop} {r0 : Nat} (H : ∀ L' r, r0 ≤ r → Merged n a b L L' → ∃ C, impl_classes.l2 r n L' s (wrap64 (i + 1)) F u v = some C ∧ res C) : ∀ (d k r : Nat) (L' : List Int), k + d = n → MergedTo n k a b L L' → r0 + d < r → ∃ C, impl_classes.l3 r n L' s i a b F u v (n : Int) (k : Int) = some C ∧ res C
  | 0, k, r, L', hk, hm, hr => by
    obtain ⟨r, rfl⟩ := rounds_pos (show 0 < r by omega)
    simp only [impl_classes.l3]
    rw [if_neg (by omega)]
    obtain rfl : k = n := by omega
    exact H L' r (by omega) hm.done
  | d + 1, k, r, L', hk, hm, hr => by
    obtain ⟨r, rfl⟩ := rounds_pos (show 0 < r by omega)
    simp only [impl_classes.l3]
    have hl := hm.1
    rw [if_pos (by omega), if_pos (by omega), if_pos (by omega), w64 (by omega) (by omega), Int.toNat_natCast]
    have h1 := hm.step (show k < n by omega)
    have h2 := impl_cls_l3 hn H d (k + 1) r _ (by omega) h1 (by omega)
    rw [show (k : Int) + 1 = ((k + 1 : Nat) : Int) by omega]
    by_cases e : rd L' k = b
    · rw [if_pos e] at h2 ⊢; exact h2
    · rw [if_neg e] at h2 ⊢; exact h2
theorem impl_cls_l2 {n p q s : Nat} {F : List Int} {u v : Int} (hn : n ≤ 60) (hs : 1 ≤ s ∧ s ≤ 60) (hpq : s = p ∨ s = q) {E : Nat → Nat → Prop} {res : List Int → Prop} {r0 : Nat} (H : ∀ L' r, r0 ≤ r → MInv n p q L' → (∀ i j : Nat, i < n → j < n → E i j → rd L' i = rd L' j) → (∀ i : Nat, i + s < n → rd L' i = rd L' (i + s : Nat)) → ∃ C, impl_classes.l1 r n L' F u (wrap64 (v + 1)) = some C ∧ res C) : ∀ (d i r : Nat) (L : List Int), (d = n - i) → s ≤ i → MInv n p q L → (∀ i j : Nat, i < n → j < n → E i j → rd L i = rd L j) → (∀ t : Nat, t + s < i → t + s < n → rd L t = rd L (t + s : Nat)) → r0 + d * 100 < r → ∃ C, impl_classes.l2 r n L s (i : Int) F u v = some C ∧ res C
  | 0, i, r, L, hd, hi, hL, hE, hS, hr => by
    obtain ⟨r, rfl⟩ := rounds_pos (show 0 < r by omega)
    simp only [impl_classes.l2]
    rw [if_neg (by omega)]
    exact H L r (by omega) hL hE fun t ht => hS t (by omega) ht
  | d + 1, i, r, L, hd, hi, hL, hE, hS, hr => by
    obtain ⟨r, rfl⟩ := rounds_pos (show 0 < r by omega)
    simp only [impl_classes.l2]
    have hl := hL.len
    rw [if_pos (by omega), if_pos (by omega), if_pos (by omega), w64 (by omega) (by omega), if_pos (by omega), if_pos (by omega)]
    rw [show (i : Int) - (s : Int) = ((i - s : Nat) : Int) by omega, hl]
    obtain ⟨a, ha⟩ : ∃ a, a = mn (rd L i) (rd L (i - s : Nat)) := ⟨_, rfl⟩
    obtain ⟨b, hb⟩ : ∃ b, b = mx (rd L i) (rd L (i - s : Nat)) := ⟨_, rfl⟩
    rw [← ha, ← hb]
    have hab : (a = rd L (i - s : Nat) ∧ b = rd L i) ∨ (a = rd L i ∧ b = rd L (i - s : Nat)) := by
      unfold mn at ha; unfold mx at hb
      split at ha <;> split at hb <;> first | exact Or.inl ⟨ha, hb⟩ | exact Or.inr ⟨ha, hb⟩ | exact Or.inl ⟨by omega, by omega⟩
    refine impl_cls_l3 (L := L) (r0 := r0 + d * 100 + 1) hn (fun L' r' hr' hm => ?_) n 0 r L (by omega) (MergedTo.start hl) (by omega)
    obtain ⟨i1, i2, i3⟩ := hL.merge (x := i - s) (y := i) (by omega) (by omega) (by rcases hpq with rfl | rfl; left; omega; right; omega) hab hm
    rw [w64 (by omega) (by omega)]
    refine impl_cls_l2 hn hs hpq H d (i + 1) r' L' (by omega) (by omega) i1 (fun x y hx hy e => i2 x y hx hy (hE x y hx hy e)) (fun t h1 h2 => ?_) (by omega)
    by_cases ht : t + s = i
    · obtain rfl : t = i - s := by omega
      rw [i3, ht]
    · exact i2 _ _ (by omega) h2 (hS t (by omega) h2)
theorem impl_cls_l0 {n p q : Nat} (hn : n ≤ 60) {res : List Int → Prop} {r0 : Nat} (H : ∀ L r, r0 ≤ r → L.length = n → (∀ j : Nat, j < n → rd L j = j) → ∃ C, impl_classes.l1 r n L [(p : Int), (q : Int)] 2 0 = some C ∧ res C) : ∀ (d k r : Nat) (L : List Int), k + d = n → L.length = n → (∀ j : Nat, j < k → rd L j = j) → r0 + d < r → ∃ C, impl_classes.l0 r n p q L n k = some C ∧ res C
  | 0, k, r, L, hk, hl, hm, hr => by
    obtain ⟨r, rfl⟩ := rounds_pos (show 0 < r by omega)
    simp only [impl_classes.l0]
    rw [if_neg (by omega)]
    obtain rfl : k = n := by omega
    exact H L r (by omega) hl hm
  | d + 1, k, r, L, hk, hl, hm, hr => by
    obtain ⟨r, rfl⟩ := rounds_pos (show 0 < r by omega)
    simp only [impl_classes.l0]
    rw [if_pos (by omega), if_pos (by omega), if_pos (by omega), w64 (by omega) (by omega), Int.toNat_natCast, show (k : Int) + 1 = ((k + 1 : Nat) : Int) by omega]
    refine impl_cls_l0 hn H d (k + 1) r _ (by omega) (by rw [List.length_set]; exact hl) (fun j hj => ?_) (by omega)
    rw [rd_setI (by omega)]
    by_cases e : j = k
    · rw [if_pos e, e]
    · rw [if_neg e]; exact hm j (by omega)
theorem MInv.start {n p q : Nat} {L : List Int} (hl : L.length = n) (h : ∀ j : Nat, j < n → rd L j = j) : MInv n p q L :=
  ⟨hl, fun j hj => by rw [h j hj]; omega, fun g _ _ i j hi hj e => by rw [h i hi, h j hj] at e; rw [show i = j by omega]⟩
theorem impl_classes_eq {k n p q : Nat} (hn : n ≤ 60) (hp : 1 ≤ p ∧ p ≤ 60) (hq : 1 ≤ q ∧ q ≤ 60) (hk : 100000 ≤ k) : ∃ C, impl_classes.f k n p q = some C ∧ MGood n p q C := by
  unfold impl_classes.f
  rw [if_pos (by omega), if_pos (by omega), Option.bind_some, List.length_replicate, Int.toNat_natCast]
  refine impl_cls_l0 (p := p) (q := q) (r0 := 50000) hn (fun L r hr hl hm => ?_) n 0 k _ (by omega) (by simp) (fun j hj => by omega) (by omega)
  have h0 := MInv.start (p := p) (q := q) hl hm
  obtain ⟨r, rfl⟩ := rounds_pos (show 0 < r by omega)
  simp only [impl_classes.l1]
  rw [if_pos (by omega), if_pos (by omega), if_pos (by simp)]
  rw [show rd [(p : Int), (q : Int)] 0 = (p : Int) from rfl]
  refine impl_cls_l2 (q := q) (E := fun _ _ => False) (r0 := 20000) hn hp (Or.inl rfl) (fun L1 r1 hr1 hL1 _ hS1 => ?_) (n - p) p r L rfl (by omega) h0 (fun _ _ _ _ f => f.elim) (fun t h1 h2 => by omega) (by omega)
  obtain ⟨r1, rfl⟩ := rounds_pos (show 0 < r1 by omega)
  rw [show wrap64 (0 + 1) = 1 from w64 (by omega) (by omega)]
  simp only [impl_classes.l1]
  rw [if_pos (by omega), if_pos (by omega), if_pos (by simp)]
  rw [show rd [(p : Int), (q : Int)] 1 = (q : Int) from rfl]
  refine impl_cls_l2 (p := p) (E := fun x y => y = x + p) (r0 := 100) hn hq (Or.inr rfl) (fun L2 r2 hr2 hL2 hE2 hS2 => ?_) (n - q) q r1 L1 rfl (by omega) hL1 (fun x y hx hy e => by subst e; exact hS1 x hy) (fun t h1 h2 => by omega) (by omega)
  obtain ⟨r2, rfl⟩ := rounds_pos (show 0 < r2 by omega)
  rw [show wrap64 (1 + 1) = 2 from w64 (by omega) (by omega)]
  simp only [impl_classes.l1]
  rw [if_neg (by omega)]
  exact ⟨L2, rfl, hL2, fun i hi => hE2 i (i + p) (by omega) hi rfl, hS2⟩

theorem sn_app (l m : List Int) : strOfNums l ++ strOfNums m = strOfNums (l ++ m) := by
  apply ByteArray.ext
  rw [ByteArray.data_append]
  simp [strOfNums]
theorem ownOf_range : ∀ (s : List Int) (x : Int), s.contains x = true → 0 ≤ ownOf s x ∧ ownOf s x < s.length
  | [], x, h => by simp at h
  | y :: r, x, h => by
    unfold ownOf
    by_cases e : y = x
    · rw [if_pos e]; simp only [List.length_cons]; omega
    · rw [if_neg e]
      have := ownOf_range r x (by
        rw [List.contains_cons] at h
        have : (x == y) = false := beq_eq_false_iff_ne.mpr (fun e2 => e e2.symm)
        rw [this] at h
        simpa using h)
      simp only [List.length_cons]; omega
theorem eqR_iff (C : List Int) (j i : Nat) : (eqR C j i = true) = (rd C j = rd C i) := by unfold eqR; rw [beq_iff_eq]
theorem fst_hit {C s out : List Int} {i : Nat} (h : ∀ j : Nat, j < i → rd out j = 97 + ownOf s (rd C j)) : ∀ (e j : Nat), j + e = i → (∃ t : Nat, j ≤ t ∧ t < i ∧ rd C t = rd C i) → fstL (eqR C) out i e j = 97 + ownOf s (rd C i)
  | 0, j, hj, ht => by obtain ⟨t, h1, h2, _⟩ := ht; omega
  | e + 1, j, hj, ht => by
    unfold fstL
    by_cases c : rd C j = rd C i
    · rw [if_pos ((eqR_iff C j i) ▸ c), h j (by omega), c]
    · rw [if_neg ((eqR_iff C j i) ▸ c)]
      obtain ⟨t, h1, h2, h3⟩ := ht
      have hne : t ≠ j := fun e => c (e ▸ h3)
      exact fst_hit h e (j + 1) (by omega) ⟨t, by omega, h2, h3⟩
theorem fst_miss {C out : List Int} {i : Nat} (h : ∀ j : Nat, j < i → rd C j ≠ rd C i) : ∀ (e j : Nat), j + e = i → fstL (eqR C) out i e j = 0
  | 0, j, hj => rfl
  | e + 1, j, hj => by
    unfold fstL
    rw [if_neg ((eqR_iff C j i) ▸ h j (by omega))]
    exact fst_miss h e (j + 1) (by omega)
theorem impl_letter_eq {v : Int} (h : 0 ≤ v ∧ v ≤ 10) : impl_letter.f v = some (strOfNums [97 + v]) := by
  unfold impl_letter.f
  rw [w64 (by omega) (by omega), Int.emod_eq_of_lt (by omega) (by omega)]
theorem rd_push {out : List Int} {v : Int} {i j : Nat} (h : out.length = i) : rd (out ++ [v]) j = if j = i then v else rd out j := by
  unfold rd
  simp only [Int.toNat_natCast, List.getD_eq_getElem?_getD]
  by_cases e : j = i
  · subst e; simp [← h]
  · rw [if_neg e]
    by_cases hj : j < i
    · rw [List.getElem?_append_left (by omega)]
    · rw [List.getElem?_eq_none (by simp; omega), List.getElem?_eq_none (by omega)]
theorem dwL_eq {n : Nat} {C : List Int} (hl : C.length = n) (hn : n ≤ 60) (hv : ∀ j : Nat, j < n → 0 ≤ rd C j ∧ rd C j < n) : ∀ (d i : Nat) (s out : List Int), i + d = n → LetOk out i s.length → (∀ j : Nat, j < i → s.contains (rd C j) = true ∧ rd out j = 97 + ownOf s (rd C j)) → (∀ x : Int, s.contains x = true → ∃ j : Nat, j < i ∧ rd C j = x) → dwL (C.drop i) s (strOfNums out) = some (dwG (eqR C) d i out s.length)
  | 0, i, s, out, hd, ho, h1, h2 => by
    rw [List.drop_of_length_le (by omega)]; rfl
  | d + 1, i, s, out, hd, ho, h1, h2 => by
    have hlt : i < C.length := by omega
    have hx : C[i] = rd C (i : Int) := by unfold rd; simp [List.getD_eq_getElem?_getD, hlt]
    rw [List.drop_eq_getElem_cons hlt, hx]
    simp only [dwL]
    have hvi := hv i (by omega)
    rw [if_pos (show inR (rd C i) (-1000000) 1000000 = true by unfold inR; simp; omega)]
    have o1 := ho.1
    have o2 := ho.2.1
    have hsz : ∀ v : Int, (strOfNums out).size + (strOfNums [v]).size ≤ 9223372036854775807 := fun v => by rw [sn_len, sn_len, o1]; simp; omega
    unfold dwG
    cases hc : s.contains (rd C i) with
    | true =>
      rw [if_pos rfl]
      have hr := ownOf_range s _ hc
      have hf := fst_hit (fun j hj => (h1 j hj).2) i 0 (by omega) (by obtain ⟨t, h3, h4⟩ := h2 _ hc; exact ⟨t, Nat.zero_le _, h3, h4⟩)
      rw [if_neg (by omega), impl_letter_eq (by omega), Option.bind_some, if_pos (hsz _), sn_app, hf, if_neg (by omega)]
      refine dwL_eq hl hn hv d (i + 1) s _ (by omega) (ho.push (Nat.le_refl _) o2 (by omega)) (fun j hj => ?_) (fun x hx => ?_)
      · rw [rd_push o1]
        by_cases e : j = i
        · subst e; rw [if_pos rfl]; exact ⟨hc, rfl⟩
        · rw [if_neg e]; exact h1 j (by omega)
      · obtain ⟨j, h3, h4⟩ := h2 x hx
        exact ⟨j, by omega, h4⟩
    | false =>
      rw [if_neg (by decide)]
      have hf := fst_miss (C := C) (out := out) (i := i) (fun j hj e => by have := (h1 j hj).1; rw [e, hc] at this; cases this) i 0 (by omega)
      rw [hf, if_pos rfl]
      by_cases c5 : s.length = 5
      · rw [if_pos (by omega), if_pos c5]
      · rw [if_neg (by omega), if_neg c5, impl_letter_eq (by omega), Option.bind_some, if_pos (hsz _), sn_app]
        refine dwL_eq hl hn hv d (i + 1) (rd C i :: s) _ (by omega) (ho.push (Nat.le_succ _) (by simp only [List.length_cons]; omega) (by simp only [List.length_cons]; omega)) (fun j hj => ?_) (fun x hx => ?_)
        · rw [rd_push o1]
          by_cases e : j = i
          · subst e; rw [if_pos rfl]; refine ⟨by simp, ?_⟩; unfold ownOf; rw [if_pos rfl]
          · rw [if_neg e]
            obtain ⟨h3, h4⟩ := h1 j (by omega)
            refine ⟨by rw [List.contains_cons, h3, Bool.or_true], ?_⟩
            unfold ownOf
            rw [if_neg (fun e => by rw [← e, hc] at h3; cases h3)]; exact h4
        · rw [List.contains_cons] at hx
          by_cases e : x = rd C i
          · exact ⟨i, by omega, e.symm⟩
          · rw [beq_eq_false_iff_ne.mpr e, Bool.false_or] at hx
            obtain ⟨j, h3, h4⟩ := h2 x hx
            exact ⟨j, by omega, h4⟩
theorem dblLen_nat {p q : Nat} (hp : 1 ≤ p ∧ p ≤ 60) (hq : 1 ≤ q ∧ q ≤ 60) : ∃ n : Nat, dblLen p q = n ∧ wrap64 ((wrap64 ((wrap64 ((p : Int) + q)) - gcdI p q)) - 1) = n ∧ n + 1 + Nat.gcd p q = p + q := by
  have h1 : Nat.gcd p q ≤ p := Nat.le_of_dvd (by omega) (Nat.gcd_dvd_left p q)
  have h2 : gcdI (p : Int) (q : Int) = ((Nat.gcd p q : Nat) : Int) := rfl
  refine ⟨p + q - Nat.gcd p q - 1, ?_, ?_, by omega⟩
  · unfold dblLen; rw [h2, w64 (x := (p : Int) + q) (by omega) (by omega), w64 (x := (p : Int) + q - _) (by omega) (by omega), w64 (by omega) (by omega)]; omega
  · rw [h2, w64 (x := (p : Int) + q) (by omega) (by omega), w64 (x := (p : Int) + q - _) (by omega) (by omega), w64 (by omega) (by omega)]; omega
theorem dw_both {m : Nat} (hm : 300000 ≤ m) (a0 a1 : Int) : ∃ r, impl_DoubleWord.f m a0 a1 = some r ∧ spec_DoubleWord.f m a0 a1 = some r := by
  obtain ⟨m, rfl⟩ := rounds_pos (show 0 < m by omega)
  unfold impl_DoubleWord.f spec_DoubleWord.f
  rw [spec_l01In_eq, spec_l01In_eq, Option.bind_some, Option.bind_some]
  cases h0 : inR a0 1 60
  · refine ⟨_, by rw [if_neg (by simp)], ?_⟩
    rw [if_neg (by decide)]; simp only [spec_DoubleWord.j0]; rfl
  · cases h1 : inR a1 1 60
    · refine ⟨_, by rw [if_neg (by simp)], ?_⟩
      rw [if_pos rfl]; simp only [spec_DoubleWord.j0]; rfl
    · obtain ⟨x1, x2⟩ := inR_true h0
      obtain ⟨y1, y2⟩ := inR_true h1
      obtain ⟨p, rfl⟩ := Int.eq_ofNat_of_zero_le (show 0 ≤ a0 by omega)
      obtain ⟨q, rfl⟩ := Int.eq_ofNat_of_zero_le (show 0 ≤ a1 by omega)
      have hp : 1 ≤ p ∧ p ≤ 60 := by omega
      have hq : 1 ≤ q ∧ q ≤ 60 := by omega
      obtain ⟨n, n1, n2, n3⟩ := dblLen_nat hp hq
      rw [if_pos (by decide), if_pos rfl, impl_doubleLength_eq (by omega) (by omega) (by omega), Option.bind_some, n1]
      simp only [spec_DoubleWord.j0]
      rw [if_neg (show ¬ (!true) = true by decide), spec_l02Gcd_eq (by omega) (by omega) (by omega), Option.bind_some, n2]
      by_cases hb : n > 60
      · exact ⟨_, if_pos (by omega), if_pos (by omega)⟩
      · obtain ⟨C, c1, c2⟩ := impl_classes_eq (k := m + 1) (n := n) (by omega) hp hq (by omega)
        have hcl := c2.len
        refine ⟨dwOf n C, ?_, ?_⟩
        · rw [if_neg (by omega), c1, Option.bind_some, if_pos (by omega)]
          have := dwL_eq hcl (by omega) c2.val n 0 [] [] (by omega) ⟨rfl, by simp, fun j hj => by omega⟩ (fun j hj => by omega) (fun x hx => by simp at hx)
          rw [List.drop_zero] at this
          exact this
        · rw [if_neg (by omega)]
          exact spec_dw_run (by omega) hp hq c2 (by omega)
theorem FnExactDoubleWord : laws_FnExactDoubleWord.Pure := by
  intro p q _ _
  obtain ⟨K, hK⟩ : ∃ K : Nat, 1000000 ≤ K := ⟨_, Nat.le_refl _⟩
  obtain ⟨r, h1, h2⟩ := dw_both (m := K) (by omega) p q
  refine ⟨K, ?_⟩
  unfold laws_FnExactDoubleWord.f
  rw [h2, h1]
  simp

end Go.Proofs.Ytmihfmhfgjnfcaa.Pure
