/- The plain part of the law FnDoubleWords: for every input that the law takes, the printed function of the law answers true once it has rounds enough. Conditions: those that stand in the statement (sizes of strings and slices, kinds of numbers), no other. -/
import Derived.Test.YtmihfmhfgjnfcabMxFnDoubleWords2
import Derived.Test.YtmihfmhfgjnfcabMath
import Derived.Test.YtmihfmhfgjnfcabMath2
import Derived.Test.YtmihfmhfgjnfcabMath3
import Derived.Test.YtmihfmhfgjnfcabMath4
namespace Go.Proofs.Ytmihfmhfgjnfcab.Pure
open Go.RowKit Go.Proofs.Ytmihfmhfgjnfcab.Q Go.Proofs.YtmihfmhfgjnfcabW.PrintWords Go.Proofs.YtmihfmhfgjnfcabW.PrintLast Go.Proofs.YtmihfmhfgjnfcabW.PrintMore
set_option linter.unusedVariables false
set_option linter.unusedSimpArgs false

theorem spec_l01Reversed_l0 (w : ByteArray) (hw : w.size ≤ 1048576) : ∀ (n k : Nat) (acc : List Int), n ≤ w.size → n + 1 < k → acc.length + n ≤ 1048576 →
    spec_l01Reversed.l0 k w acc ((n : Int) - 1) = some (strOfNums (acc ++ ((bytesOf w).take n).reverse))
  | 0, k, acc, hn, hk, ha => by
    obtain ⟨k, rfl⟩ := rounds_pos (show 0 < k by omega)
    simp only [spec_l01Reversed.l0]
    rw [if_neg (by omega)]
    simp
  | n + 1, k, acc, hn, hk, ha => by
    obtain ⟨k, rfl⟩ := rounds_pos (show 0 < k by omega)
    simp only [spec_l01Reversed.l0]
    rw [if_pos (by omega), if_pos (by omega), if_pos (by omega), if_pos (by omega)]
    have e1 : ((n + 1 : Nat) : Int) - 1 = (n : Int) := by omega
    rw [e1, w64 (by omega) (by omega), spec_l01Reversed_l0 w hw n k (acc ++ [bt w n]) (by omega) (by omega) (by simp; omega)]
    rw [take_bytes_snoc w n (by omega)]
    simp
theorem spec_l01Reversed_eq {k : Nat} {w : ByteArray} (hw : w.size ≤ 1048576) (hk : w.size + 1 < k) : spec_l01Reversed.f k w = some (revW w) := by
  unfold spec_l01Reversed.f
  rw [w64 (by omega) (by omega), spec_l01Reversed_l0 w hw w.size k [] (Nat.le_refl _) hk (by simpa using hw)]
  rw [← bo_len, List.take_length]
  rfl

/-- a code whose numbers are bytes, and a place in it -/
def OkC (l : List Int) : Prop := l.length ≤ 4096 ∧ ∀ j : Nat, j < l.length → 0 ≤ rd l j ∧ rd l j ≤ 255
def Gives {α : Type} (o : Option (α × Int × Int)) (l : List Int) (P : α → Prop) : Prop := ∃ (r : α) (t h : Int), o = some (r, t, h) ∧ (0 ≤ t ∧ t ≤ (l.length : Int)) ∧ P r
theorem leO_far {α : Type} {f : Nat → Option α} (h : ∀ k, LeO (f k) (f (k + 1))) {r : α} {a : Nat} (ha : f a = some r) : ∀ d, f (a + d) = some r
  | 0 => ha
  | d + 1 => h (a + d) r (leO_far h ha d)
theorem u64_rng (x : Int) : 0 ≤ IntKind.u64.wrap x ∧ IntKind.u64.wrap x < 18446744073709551616 := by
  have e : IntKind.u64.wrap x = x % 18446744073709551616 := rfl
  rw [e]; omega
theorem and24 (x : Int) : 0 ≤ Go.bits .and .u64 (IntKind.u64.wrap x / 8589934592) 16777215 ∧ Go.bits .and .u64 (IntKind.u64.wrap x / 8589934592) 16777215 ≤ 16777215 := by
  have h := u64_rng x
  obtain ⟨n, hn⟩ := Int.eq_ofNat_of_zero_le (show 0 ≤ IntKind.u64.wrap x / 8589934592 by omega)
  rw [hn]
  have e : Go.bits .and .u64 (n : Int) 16777215 = ((n &&& 16777215 : Nat) : Int) := Go.bits_and_u64_nat n 16777215 (by omega) (by omega)
  rw [e]
  have : n &&& 16777215 ≤ 16777215 := Nat.and_le_right
  omega
theorem l01Next_ok {l : List Int} {t h n : Int} (hl : OkC l) (ht : 0 ≤ t ∧ t ≤ (l.length : Int)) (hn : 1 ≤ n ∧ n ≤ 4000000) : Gives (spec_l01Next.f l t h n) l fun r => 0 ≤ r ∧ r < n := by
  have hb := hl.1
  unfold spec_l01Next.f
  obtain ⟨y, hy⟩ : ∃ y, y = (IntKind.u64.wrap (h * 6364136223846793005)) + 1442695040888963407 := ⟨_, rfl⟩
  have ha := and24 y
  rw [← hy]
  obtain ⟨z, hz⟩ : ∃ z, z = Go.bits .and .u64 (IntKind.u64.wrap y / 8589934592) 16777215 := ⟨_, rfl⟩
  rw [← hz] at ha ⊢
  rw [if_neg (by omega), w64 (x := z) (by omega) (by omega)]
  by_cases c : t < (l.length : Int)
  · have hr := hl.2 t.toNat (by omega)
    rw [show ((t.toNat : Nat) : Int) = t by omega] at hr
    rw [if_pos c, if_pos ht.1, if_neg (by omega), w64 (x := rd l t) (by omega) (by omega), w64 (x := z + rd l t) (by omega) (by omega), w64 (x := t + 1) (by omega) (by omega)]
    exact ⟨_, _, _, rfl, ⟨by omega, by omega⟩, Int.tmod_nonneg _ (by omega), Int.tmod_lt_of_pos _ (by omega)⟩
  · rw [if_neg c, if_neg (by omega)]
    exact ⟨_, _, _, rfl, ht, Int.tmod_nonneg _ (by omega), Int.tmod_lt_of_pos _ (by omega)⟩
theorem rd_mem {L : List Int} {j : Int} (h0 : 0 ≤ j) (h1 : j < (L.length : Int)) : rd L j ∈ L := by
  unfold rd
  have : j.toNat < L.length := by omega
  simp [List.getD_eq_getElem?_getD, this]
theorem l01Pick_ok {l : List Int} {t h : Int} (L : List Int) {P : Int → Prop} (hl : OkC l) (ht : 0 ≤ t ∧ t ≤ (l.length : Int)) (hL : 1 ≤ L.length ∧ L.length ≤ 1000) (hP : ∀ x ∈ L, P x) : Gives (spec_l01Pick.f l t h L) l P := by
  obtain ⟨r, t1, h1, e1, ht1, r0, r1⟩ := l01Next_ok (h := h) hl ht (n := (L.length : Int)) (by omega)
  unfold spec_l01Pick.f
  rw [e1, Option.bind_some, if_pos r0, if_pos r1]
  exact ⟨_, _, _, rfl, ht1, hP _ (rd_mem r0 r1)⟩
theorem l01DrawOf_l0 {l : List Int} (hl : OkC l) {n kk : Int} (hn : n ≤ 100) (hk : 1 ≤ kk ∧ kk ≤ 100) : ∀ (d k i : Nat) (u : ByteArray) (t h : Int), (i : Int) + d = n → u.size = i → d < k → 0 ≤ t ∧ t ≤ (l.length : Int) → Gives (spec_l01DrawOf.l0 k n kk u i l t h) l fun u => (u.size : Int) = n
  | 0, k, i, u, t, h, hi, hu, hd, ht => by
    obtain ⟨k, rfl⟩ := rounds_pos (show 0 < k by omega)
    simp only [spec_l01DrawOf.l0]
    rw [if_neg (by omega)]
    exact ⟨_, _, _, rfl, ht, by omega⟩
  | d + 1, k, i, u, t, h, hi, hu, hd, ht => by
    obtain ⟨k, rfl⟩ := rounds_pos (show 0 < k by omega)
    simp only [spec_l01DrawOf.l0]
    obtain ⟨r, t1, h1, e1, ht1, r0, r1⟩ := l01Next_ok (h := h) hl ht (n := kk) (by omega)
    rw [if_pos (by omega), e1, Option.bind_some]
    unfold spec_l01Letter.f
    rw [Option.bind_some, if_pos (by rw [sn_len]; simp; omega), w64 (x := (i : Int) + 1) (by omega) (by omega), show (i : Int) + 1 = ((i + 1 : Nat) : Int) by omega]
    exact l01DrawOf_l0 hl hn hk d k (i + 1) _ t1 h1 (by omega) (by rw [ByteArray.size_append, sn_len, hu]; rfl) (by omega) ht1
theorem l01DrawOf_ok {l : List Int} {t h n kk : Int} {k : Nat} (hl : OkC l) (ht : 0 ≤ t ∧ t ≤ (l.length : Int)) (hn : 0 ≤ n ∧ n ≤ 100) (hk : 1 ≤ kk ∧ kk ≤ 100) (hf : 200 ≤ k) : Gives (spec_l01DrawOf.f k l t h n kk) l fun u => (u.size : Int) = n := by
  unfold spec_l01DrawOf.f
  exact l01DrawOf_l0 hl hn.2 hk n.toNat k 0 _ t h (by omega) rfl (by omega) ht
theorem l01Small_ok {l : List Int} {t h : Int} {k : Nat} (hl : OkC l) (ht : 0 ≤ t ∧ t ≤ (l.length : Int)) (hf : 200 ≤ k) : Gives (spec_l01Small.f k l t h) l fun u => u.size ≤ 10 := by
  unfold spec_l01Small.f
  obtain ⟨r, t1, h1, e1, ht1, r0, r1⟩ := l01Next_ok (h := h) hl ht (n := 11) (by omega)
  obtain ⟨x, t2, h2, e2, ht2, x0⟩ := l01Pick_ok (h := h1) [1, 2, 2, 2, 3, 5] (P := fun r => 1 ≤ r ∧ r ≤ 100) hl ht1 (by decide) (by decide)
  obtain ⟨u, t3, h3, e3, ht3, u0⟩ := l01DrawOf_ok (h := h2) (k := k) hl ht2 (n := r) (kk := x) (by omega) x0 hf
  rw [e1, Option.bind_some, e2, Option.bind_some, e3, Option.bind_some]
  exact ⟨_, _, _, rfl, ht3, show u.size ≤ 10 by omega⟩
theorem named_all : ∀ j : Fin 4, ∀ m : Fin 61, ((spec_l01Named.f 600 (rdOf ByteArray.empty [(⟨#[102, 105, 98, 111, 110, 97, 99, 99, 105]⟩ : ByteArray), (⟨#[116, 104, 117, 101]⟩ : ByteArray), (⟨#[100, 111, 117, 98, 108, 105, 110, 103]⟩ : ByteArray), (⟨#[116, 114, 105, 112, 108, 101]⟩ : ByteArray)] (j.val : Int)) (m.val : Int)).elim false fun r => decide (r.1.size ≤ 60)) = true := by
  decide +kernel
theorem l01Named_ok {j m : Int} {k : Nat} (hj : 0 ≤ j ∧ j < 4) (hm : 0 ≤ m ∧ m ≤ 60) (hf : 600 ≤ k) : ∃ w b, spec_l01Named.f k (rdOf ByteArray.empty [(⟨#[102, 105, 98, 111, 110, 97, 99, 99, 105]⟩ : ByteArray), (⟨#[116, 104, 117, 101]⟩ : ByteArray), (⟨#[100, 111, 117, 98, 108, 105, 110, 103]⟩ : ByteArray), (⟨#[116, 114, 105, 112, 108, 101]⟩ : ByteArray)] j) m = some (w, b) ∧ w.size ≤ 60 := by
  obtain ⟨j, rfl⟩ := Int.eq_ofNat_of_zero_le hj.1
  obtain ⟨m, rfl⟩ := Int.eq_ofNat_of_zero_le hm.1
  have h := named_all ⟨j, by omega⟩ ⟨m, by omega⟩
  simp only at h
  revert h
  cases e : spec_l01Named.f 600 (rdOf ByteArray.empty [(⟨#[102, 105, 98, 111, 110, 97, 99, 99, 105]⟩ : ByteArray), (⟨#[116, 104, 117, 101]⟩ : ByteArray), (⟨#[100, 111, 117, 98, 108, 105, 110, 103]⟩ : ByteArray), (⟨#[116, 114, 105, 112, 108, 101]⟩ : ByteArray)] (j : Int)) (m : Int) with
  | none => intro h; cases h
  | some r =>
    intro h
    have h2 := leO_far (fun k => spec_l01Named.mono _ _ k) e (k - 600)
    rw [show 600 + (k - 600) = k by omega] at h2
    exact ⟨r.1, r.2, h2, of_decide_eq_true h⟩
theorem l01Draw_l0 {l : List Int} (hl : OkC l) (u : ByteArray) (hu : 1 ≤ u.size ∧ u.size ≤ 6) : ∀ (d k : Nat) (w : ByteArray) (t h : Int), d ≤ 4 → d < k → w.size + d * 6 ≤ 24 → 0 ≤ t ∧ t ≤ (l.length : Int) → Gives (spec_l01Draw.l0 k u w (d : Int) l t h) l fun w => w.size ≤ 60
  | 0, k, w, t, h, hd, hk, hw, ht => by
    obtain ⟨k, rfl⟩ := rounds_pos (show 0 < k by omega)
    simp only [spec_l01Draw.l0]
    obtain ⟨r, t1, h1, e1, ht1, r0, r1⟩ := l01Next_ok (h := h) hl ht (n := (u.size : Int)) (by omega)
    have hz : (u.extract 0 r.toNat).size ≤ 6 := by rw [ByteArray.size_extract]; omega
    rw [if_neg (by omega), e1, Option.bind_some]
    dsimp only
    rw [if_pos (by omega), if_pos (by omega), if_pos (by omega)]
    exact ⟨_, _, _, rfl, ht1, by dsimp only; rw [ByteArray.size_append]; omega⟩
  | d + 1, k, w, t, h, hd, hk, hw, ht => by
    obtain ⟨k, rfl⟩ := rounds_pos (show 0 < k by omega)
    simp only [spec_l01Draw.l0]
    rw [if_pos (by omega), if_pos (by omega), w64 (by omega) (by omega), show ((d + 1 : Nat) : Int) - 1 = (d : Int) by omega]
    exact l01Draw_l0 hl u hu d k _ t h (by omega) (by omega) (by rw [ByteArray.size_append]; omega) ht
theorem revW_size (w : ByteArray) : (revW w).size = w.size := by unfold revW; rw [sn_len, List.length_reverse, bo_len]
theorem l01Draw_ok {l : List Int} {t h : Int} {k : Nat} (hl : OkC l) (ht : 0 ≤ t ∧ t ≤ (l.length : Int)) (hf : 1000 ≤ k) : Gives (spec_l01Draw.f k l t h) l fun u => u.size ≤ 60 := by
  unfold spec_l01Draw.f
  obtain ⟨r, t1, h1, e1, ht1, r0, r1⟩ := l01Next_ok (h := h) hl ht (n := 6) (by omega)
  rw [e1, Option.bind_some]
  by_cases c0 : r = 0
  · rw [if_pos c0]
    unfold spec_l01Names.f
    obtain ⟨j, t2, h2, e2, ht2, j0, j1⟩ := l01Next_ok (h := h1) hl ht1 (n := 4) (by omega)
    obtain ⟨x, t3, h3, e3, ht3, x0⟩ := l01Pick_ok (h := h2) [12, 30, 61] (P := fun r => 1 ≤ r ∧ r ≤ 61) hl ht2 (by decide) (by decide)
    obtain ⟨m, t4, h4, e4, ht4, m0, m1⟩ := l01Next_ok (h := h3) hl ht3 (n := x) (by omega)
    obtain ⟨w, b, e5, hw⟩ := l01Named_ok (j := j) (m := m) (k := k) ⟨j0, j1⟩ (by omega) (by omega)
    rw [Option.bind_some, e2, Option.bind_some, if_pos j0, if_pos (by simpa using j1), e3, Option.bind_some, e4, Option.bind_some, e5, Option.bind_some]
    exact ⟨_, _, _, rfl, ht4, hw⟩
  rw [if_neg c0]
  by_cases c1 : r = 1
  · rw [if_pos c1]
    obtain ⟨j, t2, h2, e2, ht2, j0, j1⟩ := l01Next_ok (h := h1) hl ht1 (n := 6) (by omega)
    obtain ⟨x, t3, h3, e3, ht3, x0⟩ := l01Pick_ok (h := h2) [2, 2, 3] (P := fun r => 1 ≤ r ∧ r ≤ 61) hl ht2 (by decide) (by decide)
    obtain ⟨u, t4, h4, e4, ht4, u0⟩ := l01DrawOf_ok (h := h3) (k := k) hl ht3 (n := 1 + j) (kk := x) (by omega) (by omega) (by omega)
    obtain ⟨m, t5, h5, e5, ht5, m0, m1⟩ := l01Next_ok (h := h4) hl ht4 (n := 4) (by omega)
    rw [e2, Option.bind_some, e3, Option.bind_some, w64 (by omega) (by omega), e4, Option.bind_some, e5, Option.bind_some, w64 (by omega) (by omega)]
    have := l01Draw_l0 hl u (by omega) (1 + m).toNat k ⟨#[]⟩ t5 h5 (by omega) (by omega) (by show 0 + _ ≤ _; omega) ht5
    rw [show (((1 + m).toNat : Nat) : Int) = 1 + m by omega] at this
    exact this
  rw [if_neg c1]
  by_cases c2 : r = 2
  · rw [if_pos c2]
    obtain ⟨j, t2, h2, e2, ht2, j0, j1⟩ := l01Next_ok (h := h1) hl ht1 (n := 12) (by omega)
    obtain ⟨x, t3, h3, e3, ht3, x0⟩ := l01Pick_ok (h := h2) [2, 2, 3] (P := fun r => 1 ≤ r ∧ r ≤ 61) hl ht2 (by decide) (by decide)
    obtain ⟨u, t4, h4, e4, ht4, u0⟩ := l01DrawOf_ok (h := h3) (k := k) hl ht3 (n := j) (kk := x) (by omega) (by omega) (by omega)
    obtain ⟨m, t5, h5, e5, ht5, m0, m1⟩ := l01Next_ok (h := h4) hl ht4 (n := 2) (by omega)
    obtain ⟨v, t6, h6, e6, ht6, v0⟩ := l01DrawOf_ok (h := h5) (k := k) hl ht5 (n := m) (kk := 2) (by omega) (by omega) (by omega)
    rw [e2, Option.bind_some, e3, Option.bind_some, e4, Option.bind_some, e5, Option.bind_some, e6, Option.bind_some]
    dsimp only
    rw [if_pos (by omega), spec_l01Reversed_eq (by omega) (by omega), Option.bind_some, if_pos (by rw [ByteArray.size_append, revW_size]; omega)]
    exact ⟨_, _, _, rfl, ht6, by dsimp only; rw [ByteArray.size_append, ByteArray.size_append, revW_size]; omega⟩
  rw [if_neg c2]
  by_cases c3 : r = 3
  · rw [if_pos c3]
    obtain ⟨x, t3, h3, e3, ht3, x0⟩ := l01Pick_ok (h := h1) [20, 40, 61] (P := fun r => 1 ≤ r ∧ r ≤ 61) hl ht1 (by decide) (by decide)
    obtain ⟨m, t4, h4, e4, ht4, m0, m1⟩ := l01Next_ok (h := h3) hl ht3 (n := x) (by omega)
    obtain ⟨y, t5, h5, e5, ht5, y0⟩ := l01Pick_ok (h := h4) [1, 2, 2, 3, 3, 4, 5] (P := fun r => 1 ≤ r ∧ r ≤ 61) hl ht4 (by decide) (by decide)
    obtain ⟨v, t6, h6, e6, ht6, v0⟩ := l01DrawOf_ok (h := h5) (k := k) hl ht5 (n := m) (kk := y) (by omega) (by omega) (by omega)
    rw [e3, Option.bind_some, e4, Option.bind_some, e5, Option.bind_some, e6, Option.bind_some]
    exact ⟨_, _, _, rfl, ht6, show v.size ≤ 60 by omega⟩
  rw [if_neg c3]
  obtain ⟨u, t2, h2, e2, ht2, u0⟩ := l01Small_ok (h := h1) (k := k) hl ht1 (by omega)
  rw [e2, Option.bind_some]
  exact ⟨_, _, _, rfl, ht2, show u.size ≤ 60 by omega⟩
theorem l01Damage_ok {l : List Int} {t h : Int} {w : ByteArray} (hl : OkC l) (ht : 0 ≤ t ∧ t ≤ (l.length : Int)) (hw : w.size ≤ 60) : Gives (spec_l01Damage.f l t h w) l fun u => u.size ≤ 61 := by
  unfold spec_l01Damage.f
  rw [Option.bind_some]
  obtain ⟨L, hL⟩ : ∃ L, L = ([(⟨#[97]⟩ : ByteArray), (⟨#[98]⟩ : ByteArray), (⟨#[99]⟩ : ByteArray), (⟨#[101]⟩ : ByteArray), (⟨#[102]⟩ : ByteArray), (⟨#[65]⟩ : ByteArray), (⟨#[32]⟩ : ByteArray), (⟨#[44]⟩ : ByteArray), (⟨#[48]⟩ : ByteArray), (⟨#[10]⟩ : ByteArray)] : List ByteArray) := ⟨_, rfl⟩
  have hLl : L.length = 10 := by rw [hL]; rfl
  have hLs : ∀ x ∈ L, x.size = 1 := by rw [hL]; decide
  rw [← hL]
  obtain ⟨r, t1, h1, e1, ht1, r0, r1⟩ := l01Next_ok (h := h) hl ht (n := (L.length : Int)) (by omega)
  rw [e1, Option.bind_some, if_pos r0, if_pos r1]
  obtain ⟨c, hc⟩ : ∃ c, c = rdOf ByteArray.empty L r := ⟨_, rfl⟩
  have hcs : c.size = 1 := by
    refine hLs c ?_
    rw [hc]; unfold rdOf
    have : r.toNat < L.length := by omega
    simp [List.getD_eq_getElem?_getD, this]
  rw [← hc]
  by_cases cz : (w.size : Int) = 0
  · rw [if_pos cz]; exact ⟨_, _, _, rfl, ht1, show c.size ≤ 61 by omega⟩
  rw [if_neg cz]
  obtain ⟨x, t2, h2, e2, ht2, x0, x1⟩ := l01Next_ok (h := h1) hl ht1 (n := (w.size : Int)) (by omega)
  obtain ⟨y, t3, h3, e3, ht3, y0, y1⟩ := l01Next_ok (h := h2) hl ht2 (n := 3) (by omega)
  rw [e2, Option.bind_some, e3, Option.bind_some]
  dsimp only
  rw [w64 (by omega) (by omega)]
  have z1 : (w.extract 0 x.toNat).size ≤ x.toNat := by rw [ByteArray.size_extract]; omega
  have z2 : (w.extract (x + 1).toNat w.size).size + (x.toNat + 1) = w.size := by rw [ByteArray.size_extract]; omega
  have z3 : (w.extract x.toNat w.size).size + x.toNat = w.size := by rw [ByteArray.size_extract]; omega
  have q0 : 0 ≤ x := x0
  have q1 : x ≤ (w.size : Int) := by omega
  have q2 : 0 ≤ x + 1 := by omega
  have q3 : x + 1 ≤ (w.size : Int) := by omega
  by_cases c0 : y = 0
  · rw [if_pos c0, if_pos q0, if_pos q1, if_pos (by omega), if_pos q2, if_pos q3, if_pos (by rw [ByteArray.size_append]; omega)]
    exact ⟨_, _, _, rfl, ht3, by dsimp only; rw [ByteArray.size_append, ByteArray.size_append]; omega⟩
  rw [if_neg c0]
  by_cases c1 : y = 1
  · rw [if_pos c1, if_pos q0, if_pos q1, if_pos q2, if_pos q3, if_pos (by omega)]
    exact ⟨_, _, _, rfl, ht3, by dsimp only; rw [ByteArray.size_append]; omega⟩
  rw [if_neg c1, if_pos q0, if_pos q1, if_pos (by omega), if_pos (by rw [ByteArray.size_append]; omega)]
  exact ⟨_, _, _, rfl, ht3, by dsimp only; rw [ByteArray.size_append, ByteArray.size_append]; omega⟩
theorem l01Bad_l0 {l : List Int} {t h : Int} (ht : 0 ≤ t ∧ t ≤ (l.length : Int)) : ∀ (d k : Nat) (w : ByteArray), w.size ≤ 62 → 62 - w.size ≤ d → d < k → Gives (spec_l01Bad.l0 k w l t h) l fun u => u.size ≤ 62
  | 0, k, w, hw, hd, hk => by
    obtain ⟨k, rfl⟩ := rounds_pos (show 0 < k by omega)
    simp only [spec_l01Bad.l0]
    rw [if_neg (by omega)]
    exact ⟨_, _, _, rfl, ht, hw⟩
  | d + 1, k, w, hw, hd, hk => by
    obtain ⟨k, rfl⟩ := rounds_pos (show 0 < k by omega)
    simp only [spec_l01Bad.l0]
    by_cases c : (w.size : Int) ≤ 60
    · rw [if_pos c, if_pos (by omega)]
      have hz : (w ++ (⟨#[97, 98]⟩ : ByteArray)).size = w.size + 2 := by rw [ByteArray.size_append]; rfl
      exact l01Bad_l0 ht d k _ (by omega) (by omega) (by omega)
    · rw [if_neg c]
      exact ⟨_, _, _, rfl, ht, hw⟩
theorem l01Bad_ok {l : List Int} {t h : Int} {k : Nat} {w : ByteArray} (hl : OkC l) (ht : 0 ≤ t ∧ t ≤ (l.length : Int)) (hw : w.size ≤ 60) (hf : 1000 ≤ k) : Gives (spec_l01Bad.f k l t h w) l fun u => u.size ≤ 62 := by
  unfold spec_l01Bad.f
  obtain ⟨r, t1, h1, e1, ht1, r0, r1⟩ := l01Next_ok (h := h) hl ht (n := 50) (by omega)
  rw [e1, Option.bind_some]
  by_cases c0 : r = 0
  · rw [if_pos c0, if_pos (by omega)]
    exact ⟨_, _, _, rfl, ht1, by dsimp only; rw [ByteArray.size_append]; show _ + 1 ≤ 62; omega⟩
  rw [if_neg c0]
  by_cases c1 : r = 1
  · rw [if_pos c1]
    obtain ⟨u, t2, h2, e2, ht2, u0⟩ := l01Damage_ok (h := h1) hl ht1 hw
    rw [e2, Option.bind_some]
    exact ⟨_, _, _, rfl, ht2, show u.size ≤ 62 by omega⟩
  rw [if_neg c1]
  by_cases c2 : r = 2
  · rw [if_pos c2]
    exact l01Bad_l0 ht1 62 k w (by omega) (by omega) (by omega)
  rw [if_neg c2]
  exact ⟨_, _, _, rfl, ht1, show w.size ≤ 62 by omega⟩
theorem l01Spoil_ok {l : List Int} {t h : Int} {k : Nat} (hl : OkC l) (ht : 0 ≤ t ∧ t ≤ (l.length : Int)) (hf : 1000 ≤ k) : Gives (spec_l01Spoil.f k l t h) l fun u => u.size ≤ 62 := by
  unfold spec_l01Spoil.f
  obtain ⟨u, t2, h2, e2, ht2, u0⟩ := l01Draw_ok (h := h) (k := k) hl ht hf
  obtain ⟨v, t3, h3, e3, ht3, v0⟩ := l01Bad_ok (h := h2) (k := k) hl ht2 u0 hf
  rw [e2, Option.bind_some, e3, Option.bind_some]
  exact ⟨_, _, _, rfl, ht3, v0⟩
theorem l01From_l0 {l : List Int} (hl : l.length ≤ 4096) : ∀ (d k i : Nat) (h : Int), i + d = l.length → d < k → ∃ h', spec_l01From.l0 k l i l 0 h = some (l, 0, h')
  | 0, k, i, h, hi, hk => by
    obtain ⟨k, rfl⟩ := rounds_pos (show 0 < k by omega)
    simp only [spec_l01From.l0]
    rw [if_neg (by omega)]
    exact ⟨_, rfl⟩
  | d + 1, k, i, h, hi, hk => by
    obtain ⟨k, rfl⟩ := rounds_pos (show 0 < k by omega)
    simp only [spec_l01From.l0]
    rw [if_pos (by omega), if_pos (by omega), if_pos (by omega), w64 (x := (i : Int) + 1) (by omega) (by omega), show (i : Int) + 1 = ((i + 1 : Nat) : Int) by omega]
    exact l01From_l0 hl d k (i + 1) _ (by omega) (by omega)
theorem l01From_ok {l : List Int} {k : Nat} (hl : OkC l) (hf : 5000 ≤ k) : ∃ h, spec_l01From.f k l = some (l, 0, h) := by
  have := hl.1
  unfold spec_l01From.f
  exact l01From_l0 hl.1 l.length k 0 _ (by omega) (by omega)
theorem okC_of {l : List Int} (h : l.length ≤ 4096) (hw : ∀ x ∈ l, (Lit.int .u8 x).wf = true) : OkC l := by
  refine ⟨h, fun j hj => ?_⟩
  have := hw (rd l j) (rd_mem (by omega) (by omega))
  have t : IntKind.u8.min ≤ rd l j ∧ rd l j ≤ IntKind.u8.max := by simpa [Lit.wf] using this
  exact t
theorem zero_ok {l : List Int} : 0 ≤ (0 : Int) ∧ (0 : Int) ≤ (l.length : Int) := by omega

theorem l01Near_ok {l : List Int} {t h a : Int} (hl : OkC l) (ht : 0 ≤ t ∧ t ≤ (l.length : Int)) (ha : 0 ≤ a ∧ a ≤ 1000000) : Gives (spec_l01Near.f l t h a) l fun r => -4611686018427387904 ≤ r ∧ r ≤ 1099511627776 := by
  obtain ⟨r, t1, h1, e1, ht1, r0, r1⟩ := l01Next_ok (h := h) hl ht (n := 14) (by omega)
  unfold spec_l01Near.f
  rw [e1, Option.bind_some, w64 (by omega) (by omega)]
  by_cases c : r = 0
  · rw [if_pos c]
    obtain ⟨x, t2, h2, e2, ht2, x0⟩ := l01Pick_ok (h := h1) [-1, a + 1, 1099511627776, -4611686018427387904] (P := fun r => -4611686018427387904 ≤ r ∧ r ≤ 1099511627776) hl ht1 ⟨by simp, by simp⟩ (by
      intro x hx
      simp only [List.mem_cons, List.mem_nil_iff, or_false] at hx
      omega)
    rw [e2]; exact ⟨_, _, _, rfl, ht2, x0⟩
  · rw [if_neg c]
    obtain ⟨x, t2, h2, e2, ht2, x0, x1⟩ := l01Next_ok (h := h1) hl ht1 (n := a + 1) (by omega)
    rw [e2]; exact ⟨_, _, _, rfl, ht2, by omega, by omega⟩

/-- a marking of the places 0..n-1 by numbers -/
structure MInv (n p q : Nat) (L : List Int) : Prop where
  len : L.length = n
  val : ∀ j : Nat, j < n → 0 ≤ rd L j ∧ rd L j < n
  least : ∀ g : Nat → Int, (∀ i, i + p < n → g i = g (i + p)) → (∀ i, i + q < n → g i = g (i + q)) → ∀ i j : Nat, i < n → j < n → rd L i = rd L j → g i = g j
structure MGood (n p q : Nat) (L : List Int) : Prop extends MInv n p q L where
  hp : ∀ i : Nat, i + p < n → rd L i = rd L (i + p : Nat)
  hq : ∀ i : Nat, i + q < n → rd L i = rd L (i + q : Nat)
theorem MGood.same {n p q : Nat} {L M : List Int} (a : MGood n p q L) (b : MGood n p q M) {i j : Nat} (hi : i < n) (hj : j < n) : rd L i = rd L j ↔ rd M i = rd M j :=
  ⟨fun h => a.least (fun t => rd M t) b.hp b.hq i j hi hj h, fun h => b.least (fun t => rd L t) a.hp a.hq i j hi hj h⟩
/-- L' is L with every b turned into a -/
def Merged (n : Nat) (a b : Int) (L L' : List Int) : Prop := L'.length = n ∧ ∀ j : Nat, j < n → rd L' j = if rd L j = b then a else rd L j
theorem MInv.merge {n p q : Nat} {L L' : List Int} {a b : Int} {x y : Nat} (h : MInv n p q L) (hx : x < n) (hy : y < n) (hxy : y = x + p ∨ y = x + q) (hab : (a = rd L x ∧ b = rd L y) ∨ (a = rd L y ∧ b = rd L x)) (hm : Merged n a b L L') :
    MInv n p q L' ∧ (∀ i j : Nat, i < n → j < n → rd L i = rd L j → rd L' i = rd L' j) ∧ rd L' x = rd L' y := by
  obtain ⟨hl, hm⟩ := hm
  refine ⟨⟨hl, ?_, ?_⟩, ?_, ?_⟩
  · intro j hj
    rw [hm j hj]
    split
    · rcases hab with ⟨rfl, _⟩ | ⟨rfl, _⟩
      · exact h.val x hx
      · exact h.val y hy
    · exact h.val j hj
  · intro g g1 g2 i j hi hj e
    have K := h.least g g1 g2
    have hg : g x = g y := by rcases hxy with rfl | rfl; exact g1 x hy; exact g2 x hy
    rw [hm i hi, hm j hj] at e
    rcases hab with ⟨ha, hb⟩ | ⟨ha, hb⟩
    · by_cases ci : rd L i = b
      · by_cases cj : rd L j = b
        · exact K i j hi hj (ci.trans cj.symm)
        · rw [if_pos ci, if_neg cj] at e
          rw [K i y hi hy (ci.trans hb), ← hg]; exact K x j hx hj (ha.symm.trans e)
      · by_cases cj : rd L j = b
        · rw [if_neg ci, if_pos cj] at e
          rw [K j y hj hy (cj.trans hb), ← hg]; exact K i x hi hx (e.trans ha)
        · rw [if_neg ci, if_neg cj] at e
          exact K i j hi hj e
    · by_cases ci : rd L i = b
      · by_cases cj : rd L j = b
        · exact K i j hi hj (ci.trans cj.symm)
        · rw [if_pos ci, if_neg cj] at e
          rw [K i x hi hx (ci.trans hb), hg]; exact K y j hy hj (ha.symm.trans e)
      · by_cases cj : rd L j = b
        · rw [if_neg ci, if_pos cj] at e
          rw [K j x hj hx (cj.trans hb), hg]; exact K i y hi hy (e.trans ha)
        · rw [if_neg ci, if_neg cj] at e
          exact K i j hi hj e
  · intro i j hi hj e
    rw [hm i hi, hm j hj, e]
  · rw [hm x hx, hm y hy]
    rcases hab with ⟨rfl, rfl⟩ | ⟨rfl, rfl⟩
    · rw [if_pos rfl]; split <;> rfl
    · rw [if_pos rfl]; split <;> rfl
theorem rd_setI {L : List Int} {k : Nat} {v : Int} (hk : k < L.length) (j : Nat) : rd (L.set k v) (j : Int) = if j = k then v else rd L j := by
  unfold rd
  simp only [Int.toNat_natCast, List.getD_eq_getElem?_getD]
  by_cases h : j = k
  · subst h; rw [if_pos rfl]; simp [hk]
  · rw [if_neg h, List.getElem?_set_ne (fun e => h e.symm)]
/-- the first k places of L are merged already -/
def MergedTo (n k : Nat) (a b : Int) (L L' : List Int) : Prop := L'.length = n ∧ ∀ j : Nat, j < n → rd L' j = if j < k then (if rd L j = b then a else rd L j) else rd L j
theorem MergedTo.done {n : Nat} {a b : Int} {L L' : List Int} (h : MergedTo n n a b L L') : Merged n a b L L' := ⟨h.1, fun j hj => by rw [h.2 j hj, if_pos hj]⟩
theorem MergedTo.start {n : Nat} {a b : Int} {L : List Int} (h : L.length = n) : MergedTo n 0 a b L L := ⟨h, fun j hj => by rw [if_neg (by omega)]⟩
theorem MergedTo.step {n k : Nat} {a b : Int} {L L' : List Int} (h : MergedTo n k a b L L') (hk : k < n) :
    MergedTo n (k + 1) a b L (if rd L' k = b then L'.set k a else L') := by
  have hkk := h.2 k hk
  rw [if_neg (by omega)] at hkk
  by_cases e : rd L' k = b
  · rw [if_pos e]
    refine ⟨by rw [List.length_set]; exact h.1, fun j hj => ?_⟩
    rw [rd_setI (by rw [h.1]; exact hk)]
    by_cases ej : j = k
    · subst ej; rw [if_pos rfl, if_pos (show j < j + 1 by omega), if_pos (hkk ▸ e)]
    · rw [if_neg ej, h.2 j hj]
      by_cases hlt : j < k
      · rw [if_pos hlt, if_pos (show j < k + 1 by omega)]
      · rw [if_neg hlt, if_neg (by omega)]
  · rw [if_neg e]
    refine ⟨h.1, fun j hj => ?_⟩
    by_cases ej : j = k
    · subst ej; rw [if_pos (show j < j + 1 by omega), if_neg (hkk ▸ e), hkk]
    · rw [h.2 j hj]
      by_cases hlt : j < k
      · rw [if_pos hlt, if_pos (show j < k + 1 by omega)]
      · rw [if_neg hlt, if_neg (by omega)]
/-- the letters, of equal places -/
def fstL (e : Nat → Nat → Bool) (out : List Int) (i : Nat) : Nat → Nat → Int
  | 0, _ => 0
  | d + 1, j => if e j i = true then rd out j else fstL e out i d (j + 1)
def dwG (e : Nat → Nat → Bool) : Nat → Nat → List Int → Nat → ByteArray × Int
  | 0, _, out, _ => (strOfNums out, 0)
  | d + 1, i, out, next => if fstL e out i i 0 = 0 then (if next = 5 then (⟨#[]⟩, 3) else dwG e d (i + 1) (out ++ [97 + (next : Int)]) (next + 1)) else dwG e d (i + 1) (out ++ [fstL e out i i 0]) next
theorem fstL_same {e e' : Nat → Nat → Bool} {n i : Nat} (h : ∀ j, j < i → e j i = e' j i) (out : List Int) : ∀ (d j : Nat), j + d = i → fstL e out i d j = fstL e' out i d j
  | 0, j, _ => rfl
  | d + 1, j, hj => by unfold fstL; rw [h j (by omega), fstL_same (n := n) h out d (j + 1) (by omega)]
theorem dwG_same {e e' : Nat → Nat → Bool} {n : Nat} (h : ∀ j i, j < i → i < n → e j i = e' j i) : ∀ (d i next : Nat) (out : List Int), i + d = n → dwG e d i out next = dwG e' d i out next
  | 0, i, next, out, _ => rfl
  | d + 1, i, next, out, hi => by
    unfold dwG
    rw [fstL_same (n := n) (fun j hj => h j i hj (by omega)) out i 0 (by omega)]
    rw [dwG_same h d (i + 1) _ _ (by omega), dwG_same h d (i + 1) _ _ (by omega)]
def eqR (L : List Int) (j i : Nat) : Bool := rd L j == rd L i
/-- the result that both programs give -/
def dwOf (n : Nat) (L : List Int) : ByteArray × Int := dwG (eqR L) n 0 [] 0
theorem dwOf_same {n p q : Nat} {L M : List Int} (a : MGood n p q L) (b : MGood n p q M) : dwOf n L = dwOf n M :=
  dwG_same (n := n) (fun j i hj hi => by unfold eqR; rw [Bool.eq_iff_iff, beq_iff_eq, beq_iff_eq]; exact a.same b (by omega) hi) n 0 0 [] (by omega)

theorem spec_l01In_eq (n lo hi : Int) : spec_l01In.f n lo hi = some (inR n lo hi) := by
  unfold spec_l01In.f inR
  by_cases h : n ≥ lo
  · rw [if_pos h, decide_eq_true (show lo ≤ n from h)]; simp
  · rw [if_neg h, decide_eq_false (show ¬ lo ≤ n from h)]; simp

theorem spec_l02Gcd_l0 : ∀ (b : Nat) (k a : Nat), b < k → spec_l02Gcd.l0 k (a : Int) (b : Int) = some ((Nat.gcd a b : Nat) : Int)
  | b, k, a, hk => by
    obtain ⟨k, rfl⟩ := rounds_pos (show 0 < k by omega)
    simp only [spec_l02Gcd.l0]
    rcases Nat.eq_zero_or_pos b with h0 | h0
    · subst h0
      rw [if_neg (by omega)]
      simp
    · rw [if_pos (by omega), if_neg (by omega), gcd_step a b]
      have hm := Nat.mod_lt a h0
      rw [show Int.tmod (a : Int) (b : Int) = ((a % b : Nat) : Int) from rfl]
      exact spec_l02Gcd_l0 (a % b) k b (by omega)
theorem spec_l02Gcd_eq {k : Nat} {a b : Int} (ha : 0 ≤ a) (hb : 0 ≤ b) (hk : b < k) : spec_l02Gcd.f k a b = some (gcdI a b) := by
  obtain ⟨a, rfl⟩ := Int.eq_ofNat_of_zero_le ha
  obtain ⟨b, rfl⟩ := Int.eq_ofNat_of_zero_le hb
  unfold spec_l02Gcd.f gcdI
  exact spec_l02Gcd_l0 b k a (by omega)

theorem impl_divisor_l0 : ∀ (b : Nat) (k a : Nat), b < k → impl_divisor.l0 k (a : Int) (b : Int) = some ((Nat.gcd a b : Nat) : Int)
  | b, k, a, hk => by
    obtain ⟨k, rfl⟩ := rounds_pos (show 0 < k by omega)
    simp only [impl_divisor.l0]
    rcases Nat.eq_zero_or_pos b with h0 | h0
    · subst h0
      rw [if_pos (by simp)]
      simp
    · rw [if_neg (by omega), gcd_step a b]
      have hm := Nat.mod_lt a h0
      rw [show Int.tmod (a : Int) (b : Int) = ((a % b : Nat) : Int) from rfl]
      exact impl_divisor_l0 (a % b) k b (by omega)
theorem impl_divisor_eq {k : Nat} {a b : Int} (ha : 0 ≤ a) (hb : 0 ≤ b) (hk : b < k) : impl_divisor.f k a b = some (gcdI a b) := by
  obtain ⟨a, rfl⟩ := Int.eq_ofNat_of_zero_le ha
  obtain ⟨b, rfl⟩ := Int.eq_ofNat_of_zero_le hb
  unfold impl_divisor.f gcdI
  exact impl_divisor_l0 b k a (by omega)

def dblLen (p q : Int) : Int := wrap64 ((wrap64 ((wrap64 (p + q)) - gcdI p q)) - 1)
theorem impl_doubleLength_eq {k : Nat} {p q : Int} (hp : 0 ≤ p) (hq : 0 ≤ q) (hk : q < k) : impl_doubleLength.f k p q = some (dblLen p q) := by
  unfold impl_doubleLength.f
  rw [impl_divisor_eq hp hq hk]; rfl

theorem spec_dw_l3 {n : Nat} {p q x : Int} {a b : Int} {L : List Int} {F : List Int} {u v : Int} {z : ByteArray × Int} (hn : n ≤ 60) {r0 : Nat} (H : ∀ L' r, r0 ≤ r → Merged n a b L L' → spec_DoubleWord.l2 r p q n L' x F u (wrap64 (v + 1)) = some z) : ∀ (d k r : Nat) (L' : List Int), k + d = n → MergedTo n k a b L L' → r0 + d < r → spec_DoubleWord.l3 r p q n L' x a b (k : Int) F u v = some z
  | 0, k, r, L', hk, hm, hr => by
    obtain ⟨r, rfl⟩ := rounds_pos (show 0 < r by omega)
    simp only [spec_DoubleWord.l3]
    rw [if_neg (by omega)]
    obtain rfl : k = n := by omega
    exact H L' r (by omega) hm.done
  | d + 1, k, r, L', hk, hm, hr => by
    obtain ⟨r, rfl⟩ := rounds_pos (show 0 < r by omega)
    simp only [spec_DoubleWord.l3]
    have hl := hm.1
    rw [if_pos (by omega), if_pos (by omega), if_pos (by omega), w64 (by omega) (by omega), Int.toNat_natCast]
    have h1 := hm.step (show k < n by omega)
    have h2 := spec_dw_l3 hn H d (k + 1) r _ (by omega) h1 (by omega)
    rw [show (k : Int) + 1 = ((k + 1 : Nat) : Int) by omega]
    by_cases e : rd L' k = b
    · rw [if_pos e] at h2 ⊢; exact h2
    · rw [if_neg e] at h2 ⊢; exact h2
/-- one far place: the walk goes on with the marking that has i and i + s together -/
theorem spec_dw_one {n p q s i : Nat} {u v : Int} {F : List Int} {L : List Int} {z : ByteArray × Int} (hn : n ≤ 60) (hi : i < n) (hs : 1 ≤ s ∧ s ≤ 60) (hpq : s = p ∨ s = q) (h0 : 0 ≤ v) (h1 : v < u) (hF : (F.length : Int) = u) (hv : rd F v = s) (hL : MInv n p q L) {r0 : Nat} (H : ∀ L' r, r0 ≤ r → MInv n p q L' → (∀ x y : Nat, x < n → y < n → rd L x = rd L y → rd L' x = rd L' y) → (i + s < n → rd L' i = rd L' (i + s : Nat)) → spec_DoubleWord.l2 r p q n L' i F u (wrap64 (v + 1)) = some z) (r : Nat) (hr : r0 + 100 < r) : spec_DoubleWord.l2 r p q n L i F u v = some z := by
  obtain ⟨r, rfl⟩ := rounds_pos (show 0 < r by omega)
  obtain ⟨r, rfl⟩ := rounds_pos (show 0 < r by omega)
  have hl := hL.len
  simp only [spec_DoubleWord.l2]
  rw [if_pos h1, if_pos h0, if_pos (by omega), hv, w64 (x := (i : Int) + s) (by omega) (by omega), show (i : Int) + (s : Int) = ((i + s : Nat) : Int) by omega]
  by_cases c : i + s < n
  · rw [if_neg (by omega), if_pos (by omega), if_pos (by omega), if_pos (by omega), if_pos (by omega)]
    simp only [spec_DoubleWord.j4]
    by_cases e : rd L i = rd L (i + s : Nat)
    · rw [e, beq_self_eq_true, if_pos rfl]
      exact H L r (by omega) hL (fun x y _ _ e => e) fun _ => e
    · rw [beq_eq_false_iff_ne.mpr e, if_neg (by decide), if_pos (by omega), if_pos (by omega), w64 (x := (i : Int) + s) (by omega) (by omega), show (i : Int) + (s : Int) = ((i + s : Nat) : Int) by omega, if_pos (by omega), if_pos (by omega)]
      refine spec_dw_l3 (L := L) (r0 := r0) hn (fun L' r' hr' hm => ?_) n 0 r L (by omega) (MergedTo.start hl) (by omega)
      obtain ⟨i1, i2, i3⟩ := hL.merge (x := i) (y := i + s) hi c (by rcases hpq with rfl | rfl; left; rfl; right; rfl) (Or.inl ⟨rfl, rfl⟩) hm
      exact H L' r' hr' i1 i2 fun _ => i3
  · rw [if_pos (by omega)]
    simp only [spec_DoubleWord.j4]
    exact H L r (by omega) hL (fun x y _ _ e => e) fun h => absurd h c
set_option maxRecDepth 20000 in
theorem spec_dw_l1 {n p q : Nat} {z : ByteArray × Int} (hn : n ≤ 60) (hp : 1 ≤ p ∧ p ≤ 60) (hq : 1 ≤ q ∧ q ≤ 60) {r0 : Nat} (H : ∀ L' r, r0 ≤ r → MGood n p q L' → spec_DoubleWord.l4 r L' [] 0 0 = some z) : ∀ (d i r : Nat) (L : List Int), i + d = n → MInv n p q L → (∀ t : Nat, t < i → t + p < n → rd L t = rd L (t + p : Nat)) → (∀ t : Nat, t < i → t + q < n → rd L t = rd L (t + q : Nat)) → r0 + d * 300 < r → spec_DoubleWord.l1 r p q n L i = some z
  | 0, i, r, L, hd, hL, h1, h2, hr => by
    obtain ⟨r, rfl⟩ := rounds_pos (show 0 < r by omega)
    simp only [spec_DoubleWord.l1]
    rw [if_neg (by omega)]
    exact H L r (by omega) ⟨hL, fun t ht => h1 t (by omega) ht, fun t ht => h2 t (by omega) ht⟩
  | d + 1, i, r, L, hd, hL, h1, h2, hr => by
    obtain ⟨r, rfl⟩ := rounds_pos (show 0 < r by omega)
    simp only [spec_DoubleWord.l1]
    rw [if_pos (by omega), Option.bind_some]
    have hF : (([(p : Int), (q : Int)] : List Int).length : Int) = 2 := rfl
    rw [hF]
    refine spec_dw_one (s := p) (r0 := r0 + d * 300 + 150) hn (by omega) hp (Or.inl rfl) (by omega) (by omega) rfl rfl hL (fun L1 r1 hr1 k1 k2 k3 => ?_) r (by omega)
    rw [show wrap64 (0 + 1) = 1 from w64 (by omega) (by omega)]
    refine spec_dw_one (s := q) (r0 := r0 + d * 300 + 10) hn (by omega) hq (Or.inr rfl) (by omega) (by omega) rfl rfl k1 (fun L2 r2 hr2 m1 m2 m3 => ?_) r1 (by omega)
    obtain ⟨r2, rfl⟩ := rounds_pos (show 0 < r2 by omega)
    rw [show wrap64 (1 + 1) = 2 from w64 (by omega) (by omega)]
    simp only [spec_DoubleWord.l2]
    rw [if_neg (by omega), w64 (by omega) (by omega), show (i : Int) + 1 = ((i + 1 : Nat) : Int) by omega]
    refine spec_dw_l1 hn hp hq H d (i + 1) r2 L2 (by omega) m1 (fun t h3 h4 => ?_) (fun t h3 h4 => ?_) (by omega)
    · by_cases e : t = i
      · subst e; exact m2 _ _ (by omega) h4 (k3 h4)
      · exact m2 _ _ (by omega) h4 (k2 _ _ (by omega) h4 (h1 t (by omega) h4))
    · by_cases e : t = i
      · subst e; exact m3 h4
      · exact m2 _ _ (by omega) h4 (k2 _ _ (by omega) h4 (h2 t (by omega) h4))
theorem spec_dw_l0 {n p q : Nat} {z : ByteArray × Int} (hn : n ≤ 60) {r0 : Nat} (H : ∀ L' r, r0 ≤ r → MInv n p q L' → spec_DoubleWord.l1 r p q n L' 0 = some z) : ∀ (d k r : Nat) (L : List Int), k + d = n → L.length = k → (∀ j : Nat, j < k → rd L j = j) → r0 + d < r → spec_DoubleWord.l0 r p q n L k = some z
  | 0, k, r, L, hk, hl, hm, hr => by
    obtain ⟨r, rfl⟩ := rounds_pos (show 0 < r by omega)
    simp only [spec_DoubleWord.l0]
    rw [if_neg (by omega)]
    obtain rfl : k = n := by omega
    refine H L r (by omega) ⟨hl, fun j hj => by rw [hm j hj]; omega, fun g _ _ i j hi hj e => ?_⟩
    rw [hm i hi, hm j hj] at e
    have e2 : i = j := by omega
    rw [e2]
  | d + 1, k, r, L, hk, hl, hm, hr => by
    obtain ⟨r, rfl⟩ := rounds_pos (show 0 < r by omega)
    simp only [spec_DoubleWord.l0]
    rw [if_pos (by omega), if_pos (by omega), w64 (by omega) (by omega), show (k : Int) + 1 = ((k + 1 : Nat) : Int) by omega]
    refine spec_dw_l0 hn H d (k + 1) r _ (by omega) (by simp [hl]) (fun j hj => ?_) (by omega)
    by_cases e : j = k
    · subst e; unfold rd; simp [hl, List.getD_eq_getElem?_getD]
    · have := hm j (by omega)
      unfold rd at this ⊢
      simp only [Int.toNat_natCast, List.getD_eq_getElem?_getD] at this ⊢
      rw [List.getElem?_append_left (by omega)]; exact this
/-- the letters of the places before i are in out -/
def LetOk (out : List Int) (i next : Nat) : Prop := out.length = i ∧ next ≤ 5 ∧ ∀ j : Nat, j < i → 97 ≤ rd out j ∧ rd out j < 97 + next
theorem LetOk.push {out : List Int} {i next m : Nat} {v : Int} (h : LetOk out i next) (hm : next ≤ m) (h5 : m ≤ 5) (hv : 97 ≤ v ∧ v < 97 + m) : LetOk (out ++ [v]) (i + 1) m := by
  obtain ⟨h1, h2, h3⟩ := h
  refine ⟨by simp [h1], h5, fun j hj => ?_⟩
  unfold rd
  simp only [Int.toNat_natCast, List.getD_eq_getElem?_getD]
  by_cases e : j = i
  · subst e; simp [← h1, hv.1, hv.2]
  · rw [List.getElem?_append_left (by omega)]
    have := h3 j (by omega)
    unfold rd at this
    simp only [Int.toNat_natCast, List.getD_eq_getElem?_getD] at this
    omega
theorem fstL_range {e : Nat → Nat → Bool} {out : List Int} {i next : Nat} (h : LetOk out i next) : ∀ (d j : Nat), j + d ≤ i → fstL e out i d j = 0 ∨ (97 ≤ fstL e out i d j ∧ fstL e out i d j < 97 + next)
  | 0, j, _ => Or.inl rfl
  | d + 1, j, hj => by
    unfold fstL
    split
    · exact Or.inr (h.2.2 j (by omega))
    · exact fstL_range h d (j + 1) (by omega)
/-- the end of the search for a letter -/
def dwEnd (L out : List Int) (n i next : Nat) (l : Int) : ByteArray × Int := if l = 0 then (if next = 5 then (⟨#[]⟩, 3) else dwG (eqR L) (n - (i + 1)) (i + 1) (out ++ [97 + (next : Int)]) (next + 1)) else dwG (eqR L) (n - (i + 1)) (i + 1) (out ++ [l]) next
theorem spec_dw_end {n R : Nat} {L : List Int} (hn : n ≤ 60) (hl : L.length = n) (d i next : Nat) (out : List Int) (hd : i + (d + 1) = n) (ho : LetOk out i next) (H : ∀ (next r : Nat) (out : List Int), LetOk out (i + 1) next → d * R < r → spec_DoubleWord.l4 r L out next ((i + 1 : Nat) : Int) = some (dwG (eqR L) d (i + 1) out next)) (r : Nat) (l j : Int) (hll : l = 0 ∨ (97 ≤ l ∧ l < 97 + next)) (hr : d * R + 1 < r) : spec_DoubleWord.j8 r L out next i l j false = some (dwEnd L out n i next l) := by
    obtain ⟨r, rfl⟩ := rounds_pos (show 0 < r by omega)
    simp only [spec_DoubleWord.j8]
    obtain ⟨o1, o2, o3⟩ := id ho
    unfold dwEnd
    rw [if_neg (by decide), show n - (i + 1) = d by omega]
    by_cases c : l = 0
    · rw [if_pos c, if_pos c]
      by_cases c5 : next = 5
      · rw [if_pos (by omega), if_pos c5]
      · rw [if_neg (by omega), if_neg c5, if_pos (by omega), w64 (by omega) (by omega), w64 (by omega) (by omega), w64 (by omega) (by omega), Int.emod_eq_of_lt (by omega) (by omega)]
        rw [show (next : Int) + 1 = ((next + 1 : Nat) : Int) by omega, show (i : Int) + 1 = ((i + 1 : Nat) : Int) by omega]
        exact H (next + 1) r _ (ho.push (by omega) (by omega) (by omega)) (by omega)
    · rw [if_neg c, if_neg c, if_pos (by omega), w64 (by omega) (by omega), show (i : Int) + 1 = ((i + 1 : Nat) : Int) by omega]
      exact H next r _ (ho.push (by omega) (by omega) (by omega)) (by omega)
theorem spec_dw_l5 {n R : Nat} {L : List Int} (hn : n ≤ 60) (hl : L.length = n) (d i next : Nat) (out : List Int) (hd : i + (d + 1) = n) (ho : LetOk out i next) (H : ∀ (next r : Nat) (out : List Int), LetOk out (i + 1) next → d * R < r → spec_DoubleWord.l4 r L out next ((i + 1 : Nat) : Int) = some (dwG (eqR L) d (i + 1) out next)) : ∀ (e j r : Nat), j + e = i → d * R + 10 + e * 3 < r → spec_DoubleWord.l5 r L out next i 0 j = some (dwEnd L out n i next (fstL (eqR L) out i e j))
  | 0, j, r, hj, hr => by
    obtain ⟨r, rfl⟩ := rounds_pos (show 0 < r by omega)
    simp only [spec_DoubleWord.l5]
    rw [if_neg (by omega)]
    exact spec_dw_end hn hl d i next out hd ho H r _ _ (Or.inl rfl) (by omega)
  | e + 1, j, r, hj, hr => by
    obtain ⟨r, rfl⟩ := rounds_pos (show 0 < r by omega)
    obtain ⟨r, rfl⟩ := rounds_pos (show 0 < r by omega)
    simp only [spec_DoubleWord.l5]
    have o1 := ho.1
    rw [if_pos (by omega), beq_self_eq_true]
    simp only [spec_DoubleWord.j8]
    rw [if_pos trivial, if_pos (by omega), if_pos (by omega), if_pos (by omega), if_pos (by omega), w64 (by omega) (by omega), fstL]
    have hq : (eqR L j i = true) = (rd L j = rd L i) := by unfold eqR; rw [beq_iff_eq]
    by_cases c : rd L j = rd L i
    · rw [if_pos c, if_pos (by omega), if_pos (hq ▸ c)]
      obtain ⟨r, rfl⟩ := rounds_pos (show 0 < r by omega)
      have hv := ho.2.2 j (by omega)
      simp only [spec_DoubleWord.l5]
      rw [beq_eq_false_iff_ne.mpr (show rd out j ≠ 0 by omega), ite_self]
      exact spec_dw_end hn hl d i next out hd ho H r _ _ (Or.inr hv) (by omega)
    · rw [if_neg c, if_neg (hq ▸ c), show (j : Int) + 1 = ((j + 1 : Nat) : Int) by omega]
      exact spec_dw_l5 hn hl d i next out hd ho H e (j + 1) r (by omega) (by omega)
theorem spec_dw_l4 {n R : Nat} (hR : 400 ≤ R) {L : List Int} (hn : n ≤ 60) (hl : L.length = n) : ∀ (d i r next : Nat) (out : List Int), i + d = n → LetOk out i next → d * R < r → spec_DoubleWord.l4 r L out next i = some (dwG (eqR L) d i out next)
  | 0, i, r, next, out, hd, ho, hr => by
    obtain ⟨r, rfl⟩ := rounds_pos (show 0 < r by omega)
    simp only [spec_DoubleWord.l4]
    rw [if_neg (by omega)]; rfl
  | d + 1, i, r, next, out, hd, ho, hr => by
    obtain ⟨r, rfl⟩ := rounds_pos (show 0 < r by omega)
    simp only [spec_DoubleWord.l4]
    rw [if_pos (by omega)]
    rw [Nat.succ_mul] at hr
    have h := spec_dw_l5 hn hl d i next out hd ho (fun next r out ho hr => spec_dw_l4 hR hn hl d (i + 1) r next out (by omega) ho hr) i 0 r (by omega) (by omega)
    rw [show ((0 : Nat) : Int) = 0 from rfl] at h
    rw [h, dwG, dwEnd, show n - (i + 1) = d by omega]
theorem spec_dw_run {k n p q : Nat} {M : List Int} (hn : n ≤ 60) (hp : 1 ≤ p ∧ p ≤ 60) (hq : 1 ≤ q ∧ q ≤ 60) (hM : MGood n p q M) (hk : 200000 ≤ k) : spec_DoubleWord.l0 k p q n [] 0 = some (dwOf n M) := by
  refine spec_dw_l0 (n := n) (p := p) (q := q) (r0 := 100000) hn (fun L r hr hL => ?_) n 0 k [] (by omega) rfl (fun j hj => by omega) (by omega)
  refine spec_dw_l1 hn hp hq (r0 := 50000) (fun L' r' hr' hL' => ?_) n 0 r L (by omega) hL (fun t ht => by omega) (fun t ht => by omega) (by omega)
  rw [dwOf_same hM hL']
  exact spec_dw_l4 (R := 400) (by omega) hn hL'.len n 0 r' 0 [] (by omega) ⟨rfl, by omega, fun j hj => by omega⟩ (by omega)

theorem impl_cls_l3 {n : Nat} {a b : Int} {L : List Int} {s i : Int} {F : List Int} {u v : Int} (hn : n ≤ 60) {res : List Int → Prop} {r0 : Nat} (H : ∀ L' r, r0 ≤ r → Merged n a b L L' → ∃ C, impl_classes.l2 r n L' s (wrap64 (i + 1)) F u v = some C ∧ res C) : ∀ (d k r : Nat) (L' : List Int), k + d = n → MergedTo n k a b L L' → r0 + d < r → ∃ C, impl_classes.l3 r n L' s i a b F u v (n : Int) (k : Int) = some C ∧ res C
  | 0, k, r, L', hk, hm, hr => by
    obtain ⟨r, rfl⟩ := rounds_pos (show 0 < r by omega)
    simp only [impl_classes.l3]
    rw [if_neg (by omega)]
    obtain rfl : k = n := by omega
    exact H L' r (by omega) hm.done
  | d + 1, k, r, L', hk, hm, hr => by
    obtain ⟨r, rfl⟩ := rounds_pos (show 0 < r by omega)
    simp only [impl_classes.l3]
    have hl := hm.1
    rw [if_pos (by omega), if_pos (by omega), if_pos (by omega), w64 (by omega) (by omega), Int.toNat_natCast]
    have h1 := hm.step (show k < n by omega)
    have h2 := impl_cls_l3 hn H d (k + 1) r _ (by omega) h1 (by omega)
    rw [show (k : Int) + 1 = ((k + 1 : Nat) : Int) by omega]
    by_cases e : rd L' k = b
    · rw [if_pos e] at h2 ⊢; exact h2
    · rw [if_neg e] at h2 ⊢; exact h2
theorem impl_cls_l2 {n p q s : Nat} {F : List Int} {u v : Int} (hn : n ≤ 60) (hs : 1 ≤ s ∧ s ≤ 60) (hpq : s = p ∨ s = q) {E : Nat → Nat → Prop} {res : List Int → Prop} {r0 : Nat} (H : ∀ L' r, r0 ≤ r → MInv n p q L' → (∀ i j : Nat, i < n → j < n → E i j → rd L' i = rd L' j) → (∀ i : Nat, i + s < n → rd L' i = rd L' (i + s : Nat)) → ∃ C, impl_classes.l1 r n L' F u (wrap64 (v + 1)) = some C ∧ res C) : ∀ (d i r : Nat) (L : List Int), (d = n - i) → s ≤ i → MInv n p q L → (∀ i j : Nat, i < n → j < n → E i j → rd L i = rd L j) → (∀ t : Nat, t + s < i → t + s < n → rd L t = rd L (t + s : Nat)) → r0 + d * 100 < r → ∃ C, impl_classes.l2 r n L s (i : Int) F u v = some C ∧ res C
  | 0, i, r, L, hd, hi, hL, hE, hS, hr => by
    obtain ⟨r, rfl⟩ := rounds_pos (show 0 < r by omega)
    simp only [impl_classes.l2]
    rw [if_neg (by omega)]
    exact H L r (by omega) hL hE fun t ht => hS t (by omega) ht
  | d + 1, i, r, L, hd, hi, hL, hE, hS, hr => by
    obtain ⟨r, rfl⟩ := rounds_pos (show 0 < r by omega)
    simp only [impl_classes.l2]
    have hl := hL.len
    rw [if_pos (by omega), if_pos (by omega), if_pos (by omega), w64 (by omega) (by omega), if_pos (by omega), if_pos (by omega)]
    rw [show (i : Int) - (s : Int) = ((i - s : Nat) : Int) by omega, hl]
    obtain ⟨a, ha⟩ : ∃ a, a = mn (rd L i) (rd L (i - s : Nat)) := ⟨_, rfl⟩
    obtain ⟨b, hb⟩ : ∃ b, b = mx (rd L i) (rd L (i - s : Nat)) := ⟨_, rfl⟩
    rw [← ha, ← hb]
    have hab : (a = rd L (i - s : Nat) ∧ b = rd L i) ∨ (a = rd L i ∧ b = rd L (i - s : Nat)) := by
      unfold mn at ha; unfold mx at hb
      split at ha <;> split at hb <;> first | exact Or.inl ⟨ha, hb⟩ | exact Or.inr ⟨ha, hb⟩ | exact Or.inl ⟨by omega, by omega⟩
    refine impl_cls_l3 (L := L) (r0 := r0 + d * 100 + 1) hn (fun L' r' hr' hm => ?_) n 0 r L (by omega) (MergedTo.start hl) (by omega)
    obtain ⟨i1, i2, i3⟩ := hL.merge (x := i - s) (y := i) (by omega) (by omega) (by rcases hpq with rfl | rfl; left; omega; right; omega) hab hm
    rw [w64 (by omega) (by omega)]
    refine impl_cls_l2 hn hs hpq H d (i + 1) r' L' (by omega) (by omega) i1 (fun x y hx hy e => i2 x y hx hy (hE x y hx hy e)) (fun t h1 h2 => ?_) (by omega)
    by_cases ht : t + s = i
    · obtain rfl : t = i - s := by omega
      rw [i3, ht]
    · exact i2 _ _ (by omega) h2 (hS t (by omega) h2)
theorem impl_cls_l0 {n p q : Nat} (hn : n ≤ 60) {res : List Int → Prop} {r0 : Nat} (H : ∀ L r, r0 ≤ r → L.length = n → (∀ j : Nat, j < n → rd L j = j) → ∃ C, impl_classes.l1 r n L [(p : Int), (q : Int)] 2 0 = some C ∧ res C) : ∀ (d k r : Nat) (L : List Int), k + d = n → L.length = n → (∀ j : Nat, j < k → rd L j = j) → r0 + d < r → ∃ C, impl_classes.l0 r n p q L n k = some C ∧ res C
  | 0, k, r, L, hk, hl, hm, hr => by
    obtain ⟨r, rfl⟩ := rounds_pos (show 0 < r by omega)
    simp only [impl_classes.l0]
    rw [if_neg (by omega)]
    obtain rfl : k = n := by omega
    exact H L r (by omega) hl hm
  | d + 1, k, r, L, hk, hl, hm, hr => by
    obtain ⟨r, rfl⟩ := rounds_pos (show 0 < r by omega)
    simp only [impl_classes.l0]
    rw [if_pos (by omega), if_pos (by omega), if_pos (by omega), w64 (by omega) (by omega), Int.toNat_natCast, show (k : Int) + 1 = ((k + 1 : Nat) : Int) by omega]
    refine impl_cls_l0 hn H d (k + 1) r _ (by omega) (by rw [List.length_set]; exact hl) (fun j hj => ?_) (by omega)
    rw [rd_setI (by omega)]
    by_cases e : j = k
    · rw [if_pos e, e]
    · rw [if_neg e]; exact hm j (by omega)
theorem MInv.start {n p q : Nat} {L : List Int} (hl : L.length = n) (h : ∀ j : Nat, j < n → rd L j = j) : MInv n p q L :=
  ⟨hl, fun j hj => by rw [h j hj]; omega, fun g _ _ i j hi hj e => by rw [h i hi, h j hj] at e; rw [show i = j by omega]⟩
theorem impl_classes_eq {k n p q : Nat} (hn : n ≤ 60) (hp : 1 ≤ p ∧ p ≤ 60) (hq : 1 ≤ q ∧ q ≤ 60) (hk : 100000 ≤ k) : ∃ C, impl_classes.f k n p q = some C ∧ MGood n p q C := by
  unfold impl_classes.f
  rw [if_pos (by omega), if_pos (by omega), Option.bind_some, List.length_replicate, Int.toNat_natCast]
  refine impl_cls_l0 (p := p) (q := q) (r0 := 50000) hn (fun L r hr hl hm => ?_) n 0 k _ (by omega) (by simp) (fun j hj => by omega) (by omega)
  have h0 := MInv.start (p := p) (q := q) hl hm
  obtain ⟨r, rfl⟩ := rounds_pos (show 0 < r by omega)
  simp only [impl_classes.l1]
  rw [if_pos (by omega), if_pos (by omega), if_pos (by simp)]
  rw [show rd [(p : Int), (q : Int)] 0 = (p : Int) from rfl]
  refine impl_cls_l2 (q := q) (E := fun _ _ => False) (r0 := 20000) hn hp (Or.inl rfl) (fun L1 r1 hr1 hL1 _ hS1 => ?_) (n - p) p r L rfl (by omega) h0 (fun _ _ _ _ f => f.elim) (fun t h1 h2 => by omega) (by omega)
  obtain ⟨r1, rfl⟩ := rounds_pos (show 0 < r1 by omega)
  rw [show wrap64 (0 + 1) = 1 from w64 (by omega) (by omega)]
  simp only [impl_classes.l1]
  rw [if_pos (by omega), if_pos (by omega), if_pos (by simp)]
  rw [show rd [(p : Int), (q : Int)] 1 = (q : Int) from rfl]
  refine impl_cls_l2 (p := p) (E := fun x y => y = x + p) (r0 := 100) hn hq (Or.inr rfl) (fun L2 r2 hr2 hL2 hE2 hS2 => ?_) (n - q) q r1 L1 rfl (by omega) hL1 (fun x y hx hy e => by subst e; exact hS1 x hy) (fun t h1 h2 => by omega) (by omega)
  obtain ⟨r2, rfl⟩ := rounds_pos (show 0 < r2 by omega)
  rw [show wrap64 (1 + 1) = 2 from w64 (by omega) (by omega)]
  simp only [impl_classes.l1]
  rw [if_neg (by omega)]
  exact ⟨L2, rfl, hL2, fun i hi => hE2 i (i + p) (by omega) hi rfl, hS2⟩

theorem sn_app (l m : List Int) : strOfNums l ++ strOfNums m = strOfNums (l ++ m) := by
  apply ByteArray.ext
  rw [ByteArray.data_append]
  simp [strOfNums]
theorem ownOf_range : ∀ (s : List Int) (x : Int), s.contains x = true → 0 ≤ ownOf s x ∧ ownOf s x < s.length
  | [], x, h => by simp at h
  | y :: r, x, h => by
    unfold ownOf
    by_cases e : y = x
    · rw [if_pos e]; simp only [List.length_cons]; omega
    · rw [if_neg e]
      have := ownOf_range r x (by
        rw [List.contains_cons] at h
        have : (x == y) = false := beq_eq_false_iff_ne.mpr (fun e2 => e e2.symm)
        rw [this] at h
        simpa using h)
      simp only [List.length_cons]; omega
theorem eqR_iff (C : List Int) (j i : Nat) : (eqR C j i = true) = (rd C j = rd C i) := by unfold eqR; rw [beq_iff_eq]
theorem fst_hit {C s out : List Int} {i : Nat} (h : ∀ j : Nat, j < i → rd out j = 97 + ownOf s (rd C j)) : ∀ (e j : Nat), j + e = i → (∃ t : Nat, j ≤ t ∧ t < i ∧ rd C t = rd C i) → fstL (eqR C) out i e j = 97 + ownOf s (rd C i)
  | 0, j, hj, ht => by obtain ⟨t, h1, h2, _⟩ := ht; omega
  | e + 1, j, hj, ht => by
    unfold fstL
    by_cases c : rd C j = rd C i
    · rw [if_pos ((eqR_iff C j i) ▸ c), h j (by omega), c]
    · rw [if_neg ((eqR_iff C j i) ▸ c)]
      obtain ⟨t, h1, h2, h3⟩ := ht
      have hne : t ≠ j := fun e => c (e ▸ h3)
      exact fst_hit h e (j + 1) (by omega) ⟨t, by omega, h2, h3⟩
theorem fst_miss {C out : List Int} {i : Nat} (h : ∀ j : Nat, j < i → rd C j ≠ rd C i) : ∀ (e j : Nat), j + e = i → fstL (eqR C) out i e j = 0
  | 0, j, hj => rfl
  | e + 1, j, hj => by
    unfold fstL
    rw [if_neg ((eqR_iff C j i) ▸ h j (by omega))]
    exact fst_miss h e (j + 1) (by omega)
theorem impl_letter_eq {v : Int} (h : 0 ≤ v ∧ v ≤ 10) : impl_letter.f v = some (strOfNums [97 + v]) := by
  unfold impl_letter.f
  rw [w64 (by omega) (by omega), Int.emod_eq_of_lt (by omega) (by omega)]
theorem rd_push {out : List Int} {v : Int} {i j : Nat} (h : out.length = i) : rd (out ++ [v]) j = if j = i then v else rd out j := by
  unfold rd
  simp only [Int.toNat_natCast, List.getD_eq_getElem?_getD]
  by_cases e : j = i
  · subst e; simp [← h]
  · rw [if_neg e]
    by_cases hj : j < i
    · rw [List.getElem?_append_left (by omega)]
    · rw [List.getElem?_eq_none (by simp; omega), List.getElem?_eq_none (by omega)]
theorem dwL_eq {n : Nat} {C : List Int} (hl : C.length = n) (hn : n ≤ 60) (hv : ∀ j : Nat, j < n → 0 ≤ rd C j ∧ rd C j < n) : ∀ (d i : Nat) (s out : List Int), i + d = n → LetOk out i s.length → (∀ j : Nat, j < i → s.contains (rd C j) = true ∧ rd out j = 97 + ownOf s (rd C j)) → (∀ x : Int, s.contains x = true → ∃ j : Nat, j < i ∧ rd C j = x) → dwL (C.drop i) s (strOfNums out) = some (dwG (eqR C) d i out s.length)
  | 0, i, s, out, hd, ho, h1, h2 => by
    rw [List.drop_of_length_le (by omega)]; rfl
  | d + 1, i, s, out, hd, ho, h1, h2 => by
    have hlt : i < C.length := by omega
    have hx : C[i] = rd C (i : Int) := by unfold rd; simp [List.getD_eq_getElem?_getD, hlt]
    rw [List.drop_eq_getElem_cons hlt, hx]
    simp only [dwL]
    have hvi := hv i (by omega)
    rw [if_pos (show inR (rd C i) (-1000000) 1000000 = true by unfold inR; simp; omega)]
    have o1 := ho.1
    have o2 := ho.2.1
    have hsz : ∀ v : Int, (strOfNums out).size + (strOfNums [v]).size ≤ 9223372036854775807 := fun v => by rw [sn_len, sn_len, o1]; simp; omega
    unfold dwG
    cases hc : s.contains (rd C i) with
    | true =>
      rw [if_pos rfl]
      have hr := ownOf_range s _ hc
      have hf := fst_hit (fun j hj => (h1 j hj).2) i 0 (by omega) (by obtain ⟨t, h3, h4⟩ := h2 _ hc; exact ⟨t, Nat.zero_le _, h3, h4⟩)
      rw [if_neg (by omega), impl_letter_eq (by omega), Option.bind_some, if_pos (hsz _), sn_app, hf, if_neg (by omega)]
      refine dwL_eq hl hn hv d (i + 1) s _ (by omega) (ho.push (Nat.le_refl _) o2 (by omega)) (fun j hj => ?_) (fun x hx => ?_)
      · rw [rd_push o1]
        by_cases e : j = i
        · subst e; rw [if_pos rfl]; exact ⟨hc, rfl⟩
        · rw [if_neg e]; exact h1 j (by omega)
      · obtain ⟨j, h3, h4⟩ := h2 x hx
        exact ⟨j, by omega, h4⟩
    | false =>
      rw [if_neg (by decide)]
      have hf := fst_miss (C := C) (out := out) (i := i) (fun j hj e => by have := (h1 j hj).1; rw [e, hc] at this; cases this) i 0 (by omega)
      rw [hf, if_pos rfl]
      by_cases c5 : s.length = 5
      · rw [if_pos (by omega), if_pos c5]
      · rw [if_neg (by omega), if_neg c5, impl_letter_eq (by omega), Option.bind_some, if_pos (hsz _), sn_app]
        refine dwL_eq hl hn hv d (i + 1) (rd C i :: s) _ (by omega) (ho.push (Nat.le_succ _) (by simp only [List.length_cons]; omega) (by simp only [List.length_cons]; omega)) (fun j hj => ?_) (fun x hx => ?_)
        · rw [rd_push o1]
          by_cases e : j = i
          · subst e; rw [if_pos rfl]; refine ⟨by simp, ?_⟩; unfold ownOf; rw [if_pos rfl]
          · rw [if_neg e]
            obtain ⟨h3, h4⟩ := h1 j (by omega)
            refine ⟨by rw [List.contains_cons, h3, Bool.or_true], ?_⟩
            unfold ownOf
            rw [if_neg (fun e => by rw [← e, hc] at h3; cases h3)]; exact h4
        · rw [List.contains_cons] at hx
          by_cases e : x = rd C i
          · exact ⟨i, by omega, e.symm⟩
          · rw [beq_eq_false_iff_ne.mpr e, Bool.false_or] at hx
            obtain ⟨j, h3, h4⟩ := h2 x hx
            exact ⟨j, by omega, h4⟩
theorem dblLen_nat {p q : Nat} (hp : 1 ≤ p ∧ p ≤ 60) (hq : 1 ≤ q ∧ q ≤ 60) : ∃ n : Nat, dblLen p q = n ∧ wrap64 ((wrap64 ((wrap64 ((p : Int) + q)) - gcdI p q)) - 1) = n ∧ n + 1 + Nat.gcd p q = p + q := by
  have h1 : Nat.gcd p q ≤ p := Nat.le_of_dvd (by omega) (Nat.gcd_dvd_left p q)
  have h2 : gcdI (p : Int) (q : Int) = ((Nat.gcd p q : Nat) : Int) := rfl
  refine ⟨p + q - Nat.gcd p q - 1, ?_, ?_, by omega⟩
  · unfold dblLen; rw [h2, w64 (x := (p : Int) + q) (by omega) (by omega), w64 (x := (p : Int) + q - _) (by omega) (by omega), w64 (by omega) (by omega)]; omega
  · rw [h2, w64 (x := (p : Int) + q) (by omega) (by omega), w64 (x := (p : Int) + q - _) (by omega) (by omega), w64 (by omega) (by omega)]; omega
theorem dw_both {m : Nat} (hm : 300000 ≤ m) (a0 a1 : Int) : ∃ r, impl_DoubleWord.f m a0 a1 = some r ∧ spec_DoubleWord.f m a0 a1 = some r := by
  obtain ⟨m, rfl⟩ := rounds_pos (show 0 < m by omega)
  unfold impl_DoubleWord.f spec_DoubleWord.f
  rw [spec_l01In_eq, spec_l01In_eq, Option.bind_some, Option.bind_some]
  cases h0 : inR a0 1 60
  · refine ⟨_, by rw [if_neg (by simp)], ?_⟩
    rw [if_neg (by decide)]; simp only [spec_DoubleWord.j0]; rfl
  · cases h1 : inR a1 1 60
    · refine ⟨_, by rw [if_neg (by simp)], ?_⟩
      rw [if_pos rfl]; simp only [spec_DoubleWord.j0]; rfl
    · obtain ⟨x1, x2⟩ := inR_true h0
      obtain ⟨y1, y2⟩ := inR_true h1
      obtain ⟨p, rfl⟩ := Int.eq_ofNat_of_zero_le (show 0 ≤ a0 by omega)
      obtain ⟨q, rfl⟩ := Int.eq_ofNat_of_zero_le (show 0 ≤ a1 by omega)
      have hp : 1 ≤ p ∧ p ≤ 60 := by omega
      have hq : 1 ≤ q ∧ q ≤ 60 := by omega
      obtain ⟨n, n1, n2, n3⟩ := dblLen_nat hp hq
      rw [if_pos (by decide), if_pos rfl, impl_doubleLength_eq (by omega) (by omega) (by omega), Option.bind_some, n1]
      simp only [spec_DoubleWord.j0]
      rw [if_neg (show ¬ (!true) = true by decide), spec_l02Gcd_eq (by omega) (by omega) (by omega), Option.bind_some, n2]
      by_cases hb : n > 60
      · exact ⟨_, if_pos (by omega), if_pos (by omega)⟩
      · obtain ⟨C, c1, c2⟩ := impl_classes_eq (k := m + 1) (n := n) (by omega) hp hq (by omega)
        have hcl := c2.len
        refine ⟨dwOf n C, ?_, ?_⟩
        · rw [if_neg (by omega), c1, Option.bind_some, if_pos (by omega)]
          have := dwL_eq hcl (by omega) c2.val n 0 [] [] (by omega) ⟨rfl, by simp, fun j hj => by omega⟩ (fun j hj => by omega) (fun x hx => by simp at hx)
          rw [List.drop_zero] at this
          exact this
        · rw [if_neg (by omega)]
          exact spec_dw_run (by omega) hp hq c2 (by omega)

theorem impl_within_eq (n lo hi : Int) : impl_within.f n lo hi = some (inR n lo hi) := by
  unfold impl_within.f inR
  by_cases h : lo ≤ n
  · rw [if_pos h, decide_eq_true h]; simp
  · rw [if_neg h, decide_eq_false h]; simp

theorem spec_DoubleLength_eq {k : Nat} (p q : Int) (hk : 1000001 ≤ k) : spec_DoubleLength.f k p q = some (if inR p 1 1000000 && inR q 1 1000000 then (dblLen p q, 0) else (0, 2)) := by
  unfold spec_DoubleLength.f
  rw [spec_l01In_eq, spec_l01In_eq]
  cases h1 : inR p 1 1000000 <;> cases h2 : inR q 1 1000000 <;> simp
  have := inR_true h1
  have := inR_true h2
  rw [spec_l02Gcd_eq (by omega) (by omega) (by omega)]
  rfl
theorem impl_DoubleLength_eq {k : Nat} (p q : Int) (hk : 1000001 ≤ k) : impl_DoubleLength.f k p q = some (if inR p 1 1000000 && inR q 1 1000000 then (dblLen p q, 0) else (0, 2)) := by
  unfold impl_DoubleLength.f
  rw [impl_within_eq, impl_within_eq]
  cases h1 : inR p 1 1000000 <;> cases h2 : inR q 1 1000000 <;> simp
  have := inR_true h1
  have := inR_true h2
  rw [impl_doubleLength_eq (by omega) (by omega) (by omega)]
  rfl

def SameTo (L out : List Int) (i : Nat) : Prop := ∀ j t : Nat, j < i → t < i → rd L j = rd L t → rd out j = rd out t
theorem fst_some {L out : List Int} {i : Nat} : ∀ (e j : Nat), j + e = i → fstL (eqR L) out i e j ≠ 0 → ∃ t : Nat, j ≤ t ∧ t < i ∧ rd L t = rd L i ∧ fstL (eqR L) out i e j = rd out t
  | 0, j, _, h => absurd rfl h
  | e + 1, j, hj, h => by
    unfold fstL at h ⊢
    by_cases c : rd L j = rd L i
    · rw [if_pos ((eqR_iff L j i) ▸ c)]
      exact ⟨j, Nat.le_refl _, by omega, c, rfl⟩
    · rw [if_neg ((eqR_iff L j i) ▸ c)] at h ⊢
      obtain ⟨t, h1, h2, h3, h4⟩ := fst_some e (j + 1) (by omega) h
      exact ⟨t, by omega, h2, h3, h4⟩
theorem fst_zero {L out : List Int} {i next : Nat} (ho : LetOk out i next) : ∀ (e j : Nat), j + e = i → fstL (eqR L) out i e j = 0 → ∀ t : Nat, j ≤ t → t < i → rd L t ≠ rd L i
  | 0, j, hj, _, t, h1, h2 => by omega
  | e + 1, j, hj, h, t, h1, h2 => by
    unfold fstL at h
    by_cases c : rd L j = rd L i
    · rw [if_pos ((eqR_iff L j i) ▸ c)] at h
      have := ho.2.2 j (by omega)
      omega
    · rw [if_neg ((eqR_iff L j i) ▸ c)] at h
      by_cases e2 : t = j
      · rw [e2]; exact c
      · exact fst_zero ho e (j + 1) (by omega) h t (by omega) h2
theorem same_push {L out : List Int} {i : Nat} {v : Int} (hl : out.length = i) (hs : SameTo L out i) (hv : ∀ t : Nat, t < i → rd L t = rd L i → rd out t = v) : SameTo L (out ++ [v]) (i + 1) := by
  intro j t hj ht h
  rw [rd_push hl, rd_push hl]
  by_cases e1 : j = i
  · subst e1
    rw [if_pos rfl]
    by_cases e2 : t = j
    · rw [if_pos e2]
    · rw [if_neg e2]; exact (hv t (by omega) h.symm).symm
  · rw [if_neg e1]
    by_cases e2 : t = i
    · subst e2; rw [if_pos rfl]; exact hv j (by omega) h
    · rw [if_neg e2]; exact hs j t (by omega) (by omega) h
theorem dwG_out {n : Nat} {L : List Int} : ∀ (d i next : Nat) (out : List Int), i + d = n → LetOk out i next → SameTo L out i → dwG (eqR L) d i out next = (⟨#[]⟩, 3) ∨ ∃ out', dwG (eqR L) d i out next = (strOfNums out', 0) ∧ LetOk out' n 5 ∧ SameTo L out' n
  | 0, i, next, out, hi, ho, hs => by
    obtain rfl : i = n := by omega
    refine Or.inr ⟨out, rfl, ⟨ho.1, by omega, fun j hj => ?_⟩, hs⟩
    have := ho.2.2 j hj
    have := ho.2.1
    omega
  | d + 1, i, next, out, hi, ho, hs => by
    unfold dwG
    by_cases c : fstL (eqR L) out i i 0 = 0
    · rw [if_pos c]
      by_cases c5 : next = 5
      · rw [if_pos c5]; exact Or.inl rfl
      · rw [if_neg c5]
        have := ho.2.1
        exact dwG_out d (i + 1) (next + 1) _ (by omega) (ho.push (by omega) (by omega) (by omega)) (same_push ho.1 hs fun t ht h => absurd h (fst_zero ho i 0 (by omega) c t (by omega) ht))
    · rw [if_neg c]
      obtain ⟨t, t1, t2, t3, t4⟩ := fst_some i 0 (by omega) c
      have hv := ho.2.2 t t2
      rw [t4]
      exact dwG_out d (i + 1) next _ (by omega) (ho.push (Nat.le_refl _) ho.2.1 (by omega)) (same_push ho.1 hs fun x hx h => hs x t hx t2 (h.trans t3.symm))
theorem dwOf_out {n p q : Nat} {L : List Int} (hL : MGood n p q L) : dwOf n L = (⟨#[]⟩, 3) ∨ ∃ w : ByteArray, dwOf n L = (w, 0) ∧ w.size = n ∧ (∀ i : Nat, i + p < n → bt w i = bt w (i + p : Nat)) ∧ ∀ i : Nat, i + q < n → bt w i = bt w (i + q : Nat) := by
  rcases dwG_out (n := n) (L := L) n 0 0 [] (by omega) ⟨rfl, by omega, fun j hj => by omega⟩ (fun j t hj => by omega) with h | ⟨o, h1, h2, h3⟩
  · exact Or.inl h
  · refine Or.inr ⟨strOfNums o, h1, by rw [sn_len]; exact h2.1, ?_, ?_⟩
    all_goals
      intro i hi
      have e : ∀ j : Nat, j < n → bt (strOfNums o) j = rd o j := fun j hj => by
        rw [bt_nat, bo_sn (fun x hx => ?_)]
        · unfold rd; rw [Int.toNat_natCast]
        · obtain ⟨t, ht, rfl⟩ := List.getElem_of_mem hx
          have hr := h2.2.2 t (by rw [← h2.1]; exact ht)
          unfold rd at hr
          rw [Int.toNat_natCast, getD_eq _ _ ht] at hr
          omega
      rw [e _ (by omega), e _ hi]
    · exact h3 _ _ (by omega) hi (hL.hp i hi)
    · exact h3 _ _ (by omega) hi (hL.hq i hi)
theorem dw_law {m : Nat} (hm : 2000000 ≤ m) (a0 a1 : Int) : ∃ (w : ByteArray) (c : Int), impl_DoubleWord.f m a0 a1 = some (w, c) ∧ spec_DoubleWord.f m a0 a1 = some (w, c) ∧
    ((c ≠ 0 ∧ w = ⟨#[]⟩) ∨ (c = 0 ∧ impl_DoubleLength.f m a0 a1 = some ((w.size : Int), 0) ∧ w.size ≤ 1000 ∧ (1 ≤ a0 ∧ a0 ≤ 1000 ∧ 1 ≤ a1 ∧ a1 ≤ 1000) ∧ (∀ i : Nat, i < w.size → a0 ≤ (i : Int) → bt w ((i : Int) - a0) = bt w i) ∧ (∀ i : Nat, i < w.size → a1 ≤ (i : Int) → bt w ((i : Int) - a1) = bt w i))) := by
  have hDL := impl_DoubleLength_eq (k := m) a0 a1 (by omega)
  obtain ⟨m, rfl⟩ := rounds_pos (show 0 < m by omega)
  unfold impl_DoubleWord.f spec_DoubleWord.f
  rw [spec_l01In_eq, spec_l01In_eq, Option.bind_some, Option.bind_some]
  cases h0 : inR a0 1 60
  · refine ⟨⟨#[]⟩, 2, by rw [if_neg (by simp)], ?_, Or.inl ⟨by decide, rfl⟩⟩
    rw [if_neg (by decide)]; simp only [spec_DoubleWord.j0]; rfl
  · cases h1 : inR a1 1 60
    · refine ⟨⟨#[]⟩, 2, by rw [if_neg (by simp)], ?_, Or.inl ⟨by decide, rfl⟩⟩
      rw [if_pos rfl]; simp only [spec_DoubleWord.j0]; rfl
    · obtain ⟨x1, x2⟩ := inR_true h0
      obtain ⟨y1, y2⟩ := inR_true h1
      obtain ⟨p, rfl⟩ := Int.eq_ofNat_of_zero_le (show 0 ≤ a0 by omega)
      obtain ⟨q, rfl⟩ := Int.eq_ofNat_of_zero_le (show 0 ≤ a1 by omega)
      have hp : 1 ≤ p ∧ p ≤ 60 := by omega
      have hq : 1 ≤ q ∧ q ≤ 60 := by omega
      obtain ⟨n, n1, n2, n3⟩ := dblLen_nat hp hq
      have g0 : inR (p : Int) 1 1000000 = true := by unfold inR; simp; omega
      have g1 : inR (q : Int) 1 1000000 = true := by unfold inR; simp; omega
      rw [g0, g1, n1] at hDL
      rw [if_pos (by decide), if_pos rfl, impl_doubleLength_eq (by omega) (by omega) (by omega), Option.bind_some, n1]
      simp only [spec_DoubleWord.j0]
      rw [if_neg (show ¬ (!true) = true by decide), spec_l02Gcd_eq (by omega) (by omega) (by omega), Option.bind_some, n2]
      by_cases hb : n > 60
      · exact ⟨⟨#[]⟩, 3, if_pos (by omega), if_pos (by omega), Or.inl ⟨by decide, rfl⟩⟩
      · obtain ⟨C, c1, c2⟩ := impl_classes_eq (k := m + 1) (n := n) (by omega) hp hq (by omega)
        have hcl := c2.len
        refine ⟨(dwOf n C).1, (dwOf n C).2, ?_, ?_, ?_⟩
        · rw [if_neg (by omega), c1, Option.bind_some, if_pos (by omega)]
          have := dwL_eq hcl (by omega) c2.val n 0 [] [] (by omega) ⟨rfl, by simp, fun j hj => by omega⟩ (fun j hj => by omega) (fun x hx => by simp at hx)
          rw [List.drop_zero] at this
          exact this
        · rw [if_neg (by omega)]
          exact spec_dw_run (by omega) hp hq c2 (by omega)
        · rcases dwOf_out c2 with h | ⟨w, h, hz, h2, h3⟩
          · rw [h]; exact Or.inl ⟨by decide, rfl⟩
          · rw [h]
            refine Or.inr ⟨rfl, by rw [hDL, hz]; rfl, by show w.size ≤ 1000; omega, by omega, fun i hi hle => ?_, fun i hi hle => ?_⟩
            · have := h2 (i - p) (by show _ < n; have : i < w.size := hi; omega)
              rw [show i - p + p = i by omega, show ((i - p : Nat) : Int) = (i : Int) - p by omega] at this
              exact this
            · have := h3 (i - q) (by show _ < n; have : i < w.size := hi; omega)
              rw [show i - q + q = i by omega, show ((i - q : Nat) : Int) = (i : Int) - q by omega] at this
              exact this

theorem spec_l02Lyndon_eq {k : Nat} {w : ByteArray} (hw : w.size ≤ 1048576) (hk : w.size + 1 < k) : spec_l02Lyndon.f k w = some (lynB w) := by
  rcases Nat.eq_zero_or_pos w.size with h0 | h0
  · obtain ⟨k, rfl⟩ := rounds_pos (show 0 < k by omega)
    unfold spec_l02Lyndon.f
    simp only [spec_l02Lyndon.l0]
    rw [if_neg (by omega)]
    unfold lynB
    rw [h0]
    rfl
  have h := find_gen (fun k i => spec_l02Lyndon.l0 k w i) w.size (fun i => !lessI (bytesOf w) ((bytesOf w).drop i)) (fun _ => false) true 0
    (fun k i _ hi => by
      simp only [spec_l02Lyndon.l0]
      rw [if_pos (by omega), if_pos (by omega), if_pos (by omega), w64 (by omega) (by omega)]
      rw [less_bo, bo_extract, Int.toNat_natCast, ← bo_len, List.take_length]
      cases lessI (bytesOf w) ((bytesOf w).drop i) <;> simp)
    (fun k _ => by simp only [spec_l02Lyndon.l0]; rw [if_neg (by omega), decide_eq_true (by omega)])
    (w.size - 1) k 1 (by omega) (by omega)
  unfold spec_l02Lyndon.f
  rw [show (1 : Int) = ((1 : Nat) : Int) from rfl, h]
  unfold lynB
  rw [decide_eq_true h0]
  cases findE (fun i => !lessI (bytesOf w) ((bytesOf w).drop i)) 1 (w.size - 1) <;> rfl

theorem impl_isLyndon_eq {k : Nat} {w : ByteArray} (hw : w.size ≤ 1048576) (hk : w.size + 1 < k) : impl_isLyndon.f k w = some (lynB w) := by
  rcases Nat.eq_zero_or_pos w.size with h0 | h0
  · obtain ⟨k, rfl⟩ := rounds_pos (show 0 < k by omega)
    unfold impl_isLyndon.f
    simp only [impl_isLyndon.l0]
    rw [if_neg (by omega), (str_empty h0).1]
    unfold lynB
    rw [h0]
    rfl
  have h := find_gen (fun k i => impl_isLyndon.l0 k w i) w.size (fun i => !lessI (bytesOf w) ((bytesOf w).drop i ++ (bytesOf w).take i)) (fun _ => false) true 0
    (fun k i _ hi => by
      simp only [impl_isLyndon.l0]
      rw [if_pos (by omega), if_pos (by omega), if_pos (by omega), if_pos (by rw [ext_size, ext_size]; omega), w64 (by omega) (by omega)]
      rw [less_bo, bo_append, bo_extract, bo_extract, Int.toNat_natCast, List.drop_zero, ← bo_len, List.take_length]
      cases lessI (bytesOf w) ((bytesOf w).drop i ++ (bytesOf w).take i) <;> simp)
    (fun k _ => by simp only [impl_isLyndon.l0]; rw [if_neg (by omega), (str_nonempty (by omega)).1]; rfl)
    (w.size - 1) k 1 (by omega) (by omega)
  unfold impl_isLyndon.f
  rw [show (1 : Int) = ((1 : Nat) : Int) from rfl, h]
  cases hf : findE (fun i => !lessI (bytesOf w) ((bytesOf w).drop i ++ (bytesOf w).take i)) 1 (w.size - 1) with
  | none =>
    have : lynB w = true := by
      rw [lynB_iff, lyn_iff]
      refine ⟨fun k h1 h2 => ?_, h0⟩
      have := findE_none.mp hf k (by omega) (by rw [bo_len] at h2; omega)
      simpa using this
    rw [this]
  | some j =>
    obtain ⟨h1, h2, h3, _⟩ := findE_some hf
    have : lynB w = false := by
      rw [Bool.eq_false_iff, ne_eq, lynB_iff, lyn_iff]
      rintro ⟨h4, _⟩
      have := h4 j (by omega) (by rw [bo_len]; omega)
      rw [this] at h3; cases h3
    rw [this]

def lynD (w : ByteArray) : Nat → Nat
  | 0 => 0
  | n + 1 => if lynB (w.extract 0 (n + 1)) = true then n + 1 else lynD w n
theorem lyn_one {w : ByteArray} (h : w.size = 1) : lynB w = true := by
  rw [lynB_iff]
  refine ⟨fun k h1 h2 => ?_, by omega⟩
  rw [bo_len] at h2; omega
theorem lynD_one {w : ByteArray} (h : 0 < w.size) : lynD w 1 = 1 := by
  simp only [lynD]
  rw [if_pos (lyn_one (by rw [ext_size]; omega))]
theorem lynD_le {w : ByteArray} (h : 0 < w.size) : ∀ n, 1 ≤ n → 1 ≤ lynD w n ∧ lynD w n ≤ n
  | 0, h1 => by omega
  | 1, _ => by rw [lynD_one h]; omega
  | n + 2, _ => by
    have := lynD_le h (n + 1) (by omega)
    rw [lynD]
    split <;> omega
theorem lynD_fold (w : ByteArray) : ∀ c i, loopS (fun n s => if lynB (w.extract 0 n) = true then n else s) (i + 1) c (lynD w i) = lynD w (i + c)
  | 0, i => rfl
  | c + 1, i => by
    simp only [loopS]
    rw [show i + (c + 1) = (i + 1) + c by omega, ← lynD_fold w c (i + 1)]
    rfl
def partF : Nat → ByteArray → List ByteArray
  | 0, _ => []
  | f + 1, w => if w.size = 0 then [] else w.extract 0 (lynD w w.size) :: partF f (w.extract (lynD w w.size) w.size)
def partL (w : ByteArray) : List ByteArray := partF w.size w
theorem partF_len : ∀ f w, (partF f w).length ≤ f
  | 0, _ => Nat.le_refl _
  | f + 1, w => by
    simp only [partF]
    split
    · simp
    · have := partF_len f (w.extract (lynD w w.size) w.size)
      simp; omega
theorem partL_len (w : ByteArray) : (partL w).length ≤ w.size := partF_len _ _
theorem spec_Lyn_l1 {k : Nat} {w : ByteArray} (hw : w.size ≤ 60) (h0 : 0 < w.size) (acc : List ByteArray) (ha : acc.length ≤ 1000) (hk : 1000 ≤ k) :
    spec_LyndonParts.l1 (k + (w.size - 1) + 1) w acc 1 2 = spec_LyndonParts.l0 k (w.extract (lynD w w.size) w.size) (acc ++ [w.extract 0 (lynD w w.size)]) := by
  have h := fold_on (fun k (s : Nat) i => spec_LyndonParts.l1 k w acc s i) (fun k s => spec_LyndonParts.l0 k (w.extract s w.size) (acc ++ [w.extract 0 s])) (w.size + 1) (fun n s => if lynB (w.extract 0 n) = true then n else s) (fun _ s => s ≤ w.size) 1000
    (fun k i s hk hi hs => by
      simp only [spec_LyndonParts.l1]
      rw [if_pos (by omega), if_pos (by omega), Int.toNat_natCast, spec_l02Lyndon_eq (by rw [ext_size]; omega) (by rw [ext_size]; omega), w64 (by omega) (by omega)]
      simp only [Option.bind_some]
      cases lynB (w.extract 0 i) <;> simp)
    (fun i s hi hs => by
      by_cases h : lynB (w.extract 0 i) = true
      · simp only [h, if_true]; omega
      · simp only [h, if_false]; exact hs)
    (fun k s hk hs => by
      simp only [spec_LyndonParts.l1]
      rw [if_neg (by omega), if_pos (by omega), if_pos (by omega), if_pos (by omega), Int.toNat_natCast])
    (w.size - 1) k 2 1 (by omega) hk (by omega)
  have e := lynD_fold w (w.size - 1) 1
  rw [lynD_one h0, show 1 + (w.size - 1) = w.size by omega] at e
  rw [e] at h
  exact h.1
theorem spec_Lyn_l0 : ∀ (f : Nat) (w : ByteArray) (acc : List ByteArray) (k : Nat), w.size ≤ f → f ≤ 60 → acc.length + f ≤ 1000 → f * 100 + 1000 < k → spec_LyndonParts.l0 k w acc = some (acc ++ partF f w, 0)
  | 0, w, acc, k, hf, _, _, hk => by
    obtain ⟨k, rfl⟩ := rounds_pos (show 0 < k by omega)
    simp only [spec_LyndonParts.l0, partF]
    rw [if_neg (by omega), List.append_nil]
  | f + 1, w, acc, k, hf, h60, ha, hk => by
    simp only [partF]
    by_cases hz : w.size = 0
    · obtain ⟨k, rfl⟩ := rounds_pos (show 0 < k by omega)
      simp only [spec_LyndonParts.l0]
      rw [if_neg (by omega), if_pos hz, List.append_nil]
    · obtain ⟨l1, l2⟩ := lynD_le (w := w) (by omega) w.size (by omega)
      obtain ⟨k, rfl⟩ : ∃ m, k = m + (w.size - 1) + 1 + 1 := ⟨k - (w.size - 1) - 1 - 1, by omega⟩
      simp only [spec_LyndonParts.l0]
      rw [if_pos (by omega), spec_Lyn_l1 (by omega) (by omega) acc (by omega) (by omega), if_neg hz]
      rw [spec_Lyn_l0 f _ _ k (by rw [ext_size]; omega) (by omega) (by simp; omega) (by omega)]
      simp
theorem spec_Lyn_eq {k : Nat} {w : ByteArray} (hw : w.size ≤ 60) (hk : 100000 ≤ k) : spec_LyndonParts.l0 k w [] = some (partL w, 0) := by
  have := spec_Lyn_l0 w.size w [] k (Nat.le_refl _) hw (by simp; omega) (by omega)
  simpa [partL] using this
theorem impl_Lyn_l1 {w : ByteArray} (hw : w.size ≤ 60) (h0 : 0 < w.size) (acc : List ByteArray) (ha : acc.length ≤ 1000) : ∀ n, 1 ≤ n → n ≤ w.size →
    ∃ c', c' ≤ n ∧ ∀ k, 1000 ≤ k → impl_LyndonParts.l1 (k + c') w acc n = impl_LyndonParts.l0 k (w.extract (lynD w n) w.size) (acc ++ [w.extract 0 (lynD w n)])
  | 0, h, _ => by omega
  | n + 1, h, h' => by
    have hs : ∀ k, 1000 ≤ k → impl_LyndonParts.l1 (k + 1) w acc ((n + 1 : Nat) : Int) = if lynB (w.extract 0 (n + 1)) = true then impl_LyndonParts.l0 k (w.extract (n + 1) w.size) (acc ++ [w.extract 0 (n + 1)]) else impl_LyndonParts.l1 k w acc (n : Int) := fun k hk => by
      simp only [impl_LyndonParts.l1]
      rw [if_pos (by omega), if_pos (by omega), Int.toNat_natCast, impl_isLyndon_eq (by rw [ext_size]; omega) (by rw [ext_size]; omega)]
      simp only [Option.bind_some]
      rw [w64 (by omega) (by omega), show ((n + 1 : Nat) : Int) - 1 = (n : Int) by omega]
      by_cases hg : lynB (w.extract 0 (n + 1)) = true
      · rw [if_pos hg, if_pos hg, if_pos (by omega)]
      · rw [if_neg hg, if_neg hg]
    simp only [lynD]
    by_cases hg : lynB (w.extract 0 (n + 1)) = true
    · refine ⟨1, by omega, fun k hk => ?_⟩
      rw [hs k hk, if_pos hg, if_pos hg]
    · rcases Nat.eq_zero_or_pos n with hn | hn
      · subst hn
        exact absurd (lyn_one (by rw [ext_size]; omega)) hg
      · obtain ⟨c', h1, h2⟩ := impl_Lyn_l1 hw h0 acc ha n hn (by omega)
        refine ⟨c' + 1, by omega, fun k hk => ?_⟩
        rw [show k + (c' + 1) = (k + c') + 1 by omega, hs _ (by omega), if_neg hg, if_neg hg, h2 k hk]
theorem impl_Lyn_l0 : ∀ (f : Nat) (w : ByteArray) (acc : List ByteArray) (k : Nat), w.size ≤ f → f ≤ 60 → acc.length + f ≤ 1000 → f * 100 + 2000 < k → impl_LyndonParts.l0 k w acc = some (acc ++ partF f w, 0)
  | 0, w, acc, k, hf, _, _, hk => by
    obtain ⟨k, rfl⟩ := rounds_pos (show 0 < k by omega)
    simp only [impl_LyndonParts.l0, partF]
    rw [if_pos (str_empty (by omega)).2.2.1, List.append_nil]
  | f + 1, w, acc, k, hf, h60, ha, hk => by
    simp only [partF]
    by_cases hz : w.size = 0
    · obtain ⟨k, rfl⟩ := rounds_pos (show 0 < k by omega)
      simp only [impl_LyndonParts.l0]
      rw [if_pos (str_empty hz).2.2.1, if_pos hz, List.append_nil]
    · obtain ⟨l1, l2⟩ := lynD_le (w := w) (by omega) w.size (by omega)
      obtain ⟨c', h1, h2⟩ := impl_Lyn_l1 (w := w) (by omega) (by omega) acc (by omega) w.size (by omega) (Nat.le_refl _)
      obtain ⟨k, rfl⟩ : ∃ m, k = m + c' + 1 := ⟨k - c' - 1, by omega⟩
      simp only [impl_LyndonParts.l0]
      rw [if_neg (str_nonempty hz).2.2.1, h2 k (by omega), if_neg hz]
      rw [impl_Lyn_l0 f _ _ k (by rw [ext_size]; omega) (by omega) (by simp; omega) (by omega)]
      simp
theorem impl_Lyn_eq {k : Nat} {w : ByteArray} (hw : w.size ≤ 60) (hk : 100000 ≤ k) : impl_LyndonParts.l0 k w [] = some (partL w, 0) := by
  have := impl_Lyn_l0 w.size w [] k (Nat.le_refl _) hw (by simp; omega) (by omega)
  simpa [partL] using this

theorem lyn_concat {u v : List Int} (hu : lynS u) (hv : lynS v) (hu0 : u ≠ []) (hv0 : v ≠ []) (h : lessI u v = true) : lynS (u ++ v) := by
  have hup : 0 < u.length := List.length_pos_iff.mpr hu0
  have hvp : 0 < v.length := List.length_pos_iff.mpr hv0
  have key : lessI (u ++ v) v = true := by
    by_cases hp : u <+: v
    · obtain ⟨t, rfl⟩ := hp
      have ht : t ≠ [] := fun e => by rw [e, List.append_nil, lessI_irrefl] at h; cases h
      have htp : 0 < t.length := List.length_pos_iff.mpr ht
      rw [lessI_left]
      have := hv u.length hup (by rw [List.length_append]; omega)
      rw [List.drop_left] at this
      exact this
    · have := lessI_more v [] h hp
      rw [List.append_nil] at this
      exact this
  intro k k0 k1
  rw [List.length_append] at k1
  by_cases c : k < u.length
  · rw [List.drop_append_of_le_length (by omega)]
    refine lessI_more v v (hu k k0 c) fun hp => ?_
    have := hp.length_le
    rw [List.length_drop] at this; omega
  · rw [List.drop_append, List.drop_of_length_le (by omega), List.nil_append]
    by_cases e : k - u.length = 0
    · rw [e, List.drop_zero]; exact key
    · exact lessI_trans key (hv (k - u.length) (by omega) (by omega))
theorem lynD_lyn {w : ByteArray} (h : 0 < w.size) : ∀ n, 1 ≤ n → n ≤ w.size → lynB (w.extract 0 (lynD w n)) = true ∧ ∀ m, lynD w n < m → m ≤ n → lynB (w.extract 0 m) = false
  | 0, h1, _ => by omega
  | n + 1, _, h2 => by
    rw [lynD]
    by_cases c : lynB (w.extract 0 (n + 1)) = true
    · rw [if_pos c]; exact ⟨c, fun m m1 m2 => by omega⟩
    · rw [if_neg c]
      by_cases hn : n = 0
      · subst hn
        exact absurd (lyn_one (by rw [ext_size]; omega)) c
      · obtain ⟨i1, i2⟩ := lynD_lyn h n (by omega) (by omega)
        refine ⟨i1, fun m m1 m2 => ?_⟩
        by_cases e : m = n + 1
        · rw [e]; simpa using c
        · exact i2 m m1 (by omega)
def catL : List ByteArray → ByteArray
  | [] => ⟨#[]⟩
  | x :: l => x ++ catL l
theorem bo_emp : bytesOf (⟨#[]⟩ : ByteArray) = [] := rfl
theorem part_cat : ∀ (f : Nat) (w : ByteArray), w.size ≤ f → catL (partF f w) = w
  | 0, w, h => bo_inj (by
      have : (bytesOf w).length = 0 := by rw [bo_len]; omega
      rw [List.eq_nil_of_length_eq_zero this]; rfl)
  | f + 1, w, h => by
    simp only [partF]
    by_cases c : w.size = 0
    · rw [if_pos c]
      exact bo_inj (by
        have : (bytesOf w).length = 0 := by rw [bo_len]; omega
        rw [List.eq_nil_of_length_eq_zero this]; rfl)
    · rw [if_neg c]
      obtain ⟨d1, d2⟩ := lynD_le (w := w) (by omega) w.size (by omega)
      unfold catL
      rw [part_cat f _ (by rw [ext_size]; omega)]
      apply bo_inj
      rw [bo_append, bo_extract, bo_extract, List.drop_zero, show List.take w.size (bytesOf w) = bytesOf w by rw [← bo_len, List.take_length], List.take_append_drop]
theorem part_facts : ∀ (f : Nat) (w : ByteArray), w.size ≤ f → (∀ x ∈ partF f w, lynB x = true ∧ (isW w = true → isW x = true)) ∧ ∀ j : Nat, j + 1 < (partF f w).length → lessI (bytesOf ((partF f w).getD j ByteArray.empty)) (bytesOf ((partF f w).getD (j + 1) ByteArray.empty)) = false
  | 0, w, h => ⟨fun x hx => by simp [partF] at hx, fun j hj => by simp [partF] at hj⟩
  | f + 1, w, h => by
    simp only [partF]
    by_cases c : w.size = 0
    · rw [if_pos c]
      exact ⟨fun x hx => by simp at hx, fun j hj => by simp at hj⟩
    · rw [if_neg c]
      obtain ⟨d1, d2⟩ := lynD_le (w := w) (by omega) w.size (by omega)
      obtain ⟨l1, l2⟩ := lynD_lyn (w := w) (by omega) w.size (by omega) (Nat.le_refl _)
      obtain ⟨D, hD⟩ : ∃ D, D = lynD w w.size := ⟨_, rfl⟩
      rw [← hD] at d1 d2 l1 l2 ⊢
      have hrs : (w.extract D w.size).size = w.size - D := by rw [ext_size]; omega
      obtain ⟨i1, i2⟩ := part_facts f (w.extract D w.size) (by omega)
      have hwx : ∀ i j : Nat, isW w = true → isW (w.extract i j) = true := fun i j hw => by
        rw [isW_iff] at hw ⊢
        refine ⟨by rw [ext_size]; omega, fun x hx => hw.2 x ?_⟩
        rw [bo_extract] at hx
        exact List.mem_of_mem_take (List.mem_of_mem_drop hx)
      refine ⟨fun x hx => ?_, fun j hj => ?_⟩
      · rw [List.mem_cons] at hx
        rcases hx with rfl | hx
        · exact ⟨l1, hwx 0 D⟩
        · obtain ⟨a, b⟩ := i1 x hx
          exact ⟨a, fun hw => b (hwx D w.size hw)⟩
      · cases j with
        | succ j =>
          simp only [List.length_cons] at hj
          have := i2 j (by omega)
          simpa using this
        | zero =>
          simp only [List.length_cons] at hj
          cases hb : lessI (bytesOf ((w.extract 0 D :: partF f (w.extract D w.size)).getD 0 ByteArray.empty)) (bytesOf ((w.extract 0 D :: partF f (w.extract D w.size)).getD (0 + 1) ByteArray.empty)) with
          | false => rfl
          | true =>
            exfalso
            cases f with
            | zero => simp [partF] at hj
            | succ f =>
              by_cases c2 : (w.extract D w.size).size = 0
              · simp [partF, c2] at hj
              · have hd2 := lynD_le (w := w.extract D w.size) (by omega) (w.extract D w.size).size (by omega)
                have hl2 := (lynD_lyn (w := w.extract D w.size) (by omega) (w.extract D w.size).size (by omega) (Nat.le_refl _)).1
                simp only [partF, if_neg c2, List.getD_cons_zero, List.getD_cons_succ, Nat.zero_add] at hb
                obtain ⟨E, hE⟩ : ∃ E, E = lynD (w.extract D w.size) (w.extract D w.size).size := ⟨_, rfl⟩
                rw [← hE] at hd2 hl2
                have hb2 : lessI (bytesOf (w.extract 0 D)) (bytesOf ((w.extract D w.size).extract 0 E)) = true := by
                  rw [← hE] at hb
                  simpa using hb
                have he : bytesOf (w.extract 0 (D + E)) = bytesOf (w.extract 0 D) ++ bytesOf ((w.extract D w.size).extract 0 E) := by
                  rw [bo_extract, bo_extract, bo_extract, bo_extract, List.drop_zero, List.drop_zero, List.drop_zero, show List.take w.size (bytesOf w) = bytesOf w by rw [← bo_len, List.take_length], List.take_add]
                obtain ⟨u1, u2⟩ := (lynB_iff _).mp l1
                obtain ⟨v1, v2⟩ := (lynB_iff _).mp hl2
                have hn : ∀ x : ByteArray, x.size > 0 → bytesOf x ≠ [] := fun x hx e => by
                  have h9 := congrArg List.length e
                  rw [bo_len] at h9
                  have h8 : x.size = 0 := h9
                  omega
                have := lyn_concat u1 v1 (hn _ u2) (hn _ v2) hb2
                have h3 : lynB (w.extract 0 (D + E)) = true := (lynB_iff _).mpr ⟨by rw [he]; exact this, by rw [ext_size]; omega⟩
                rw [l2 (D + E) (by omega) (by omega)] at h3
                cases h3

theorem words9_l0 {a : List ByteArray} (ha : a.length ≤ 1048576) : ∀ (d i k : Nat), i + d = a.length → d < k → laws_words9.l0 k a a i = some true
  | 0, i, k, hi, hk => by
    obtain ⟨k, rfl⟩ := rounds_pos (show 0 < k by omega)
    simp only [laws_words9.l0]
    rw [if_neg (by omega)]
  | d + 1, i, k, hi, hk => by
    obtain ⟨k, rfl⟩ := rounds_pos (show 0 < k by omega)
    simp only [laws_words9.l0]
    rw [if_pos (by omega), if_pos (by omega), if_pos (by omega), if_pos trivial, w64 (by omega) (by omega), show (i : Int) + 1 = ((i + 1 : Nat) : Int) by omega]
    exact words9_l0 ha d (i + 1) k (by omega) (by omega)
theorem words9_eq {k : Nat} {a : List ByteArray} (ha : a.length ≤ 1048576) (hk : a.length < k) : laws_words9.f k a a = some true := by
  unfold laws_words9.f
  rw [if_pos rfl]
  exact words9_l0 ha a.length 0 k (by omega) (by omega)
theorem joined9_l0 {a : List ByteArray} (ha : a.length ≤ 1048576) : ∀ (d i k : Nat) (acc : ByteArray), i + d = a.length → d < k → acc.size + (catL (a.drop i)).size ≤ 1000 → laws_joined9.l0 k a acc i = some (acc ++ catL (a.drop i))
  | 0, i, k, acc, hi, hk, hz => by
    obtain ⟨k, rfl⟩ := rounds_pos (show 0 < k by omega)
    simp only [laws_joined9.l0]
    rw [if_neg (by omega), List.drop_of_length_le (by omega)]
    congr 1
    exact (bo_inj (by rw [bo_append]; show bytesOf acc ++ [] = _; rw [List.append_nil])).symm
  | d + 1, i, k, acc, hi, hk, hz => by
    obtain ⟨k, rfl⟩ := rounds_pos (show 0 < k by omega)
    have hlt : i < a.length := by omega
    have hx : rdOf ByteArray.empty a (i : Int) = a[i] := by unfold rdOf; simp [List.getD_eq_getElem?_getD, hlt]
    rw [List.drop_eq_getElem_cons hlt] at hz ⊢
    simp only [laws_joined9.l0]
    unfold catL at hz ⊢
    rw [ByteArray.size_append] at hz
    rw [if_pos (by omega), if_pos (by omega), hx, if_pos (by omega), w64 (by omega) (by omega), show (i : Int) + 1 = ((i + 1 : Nat) : Int) by omega]
    rw [joined9_l0 ha d (i + 1) k _ (by omega) (by omega) (by rw [ByteArray.size_append]; omega)]
    congr 1
    exact bo_inj (by rw [bo_append, bo_append, bo_append, bo_append, List.append_assoc])
theorem joined9_eq {k : Nat} {a : List ByteArray} (ha : a.length ≤ 1048576) (hk : a.length < k) (hz : (catL a).size ≤ 1000) : laws_joined9.f k a = some (catL a) := by
  unfold laws_joined9.f
  have := joined9_l0 ha a.length 0 k ⟨#[]⟩ (by omega) hk (by rw [List.drop_zero]; show 0 + _ ≤ _; omega)
  rw [List.drop_zero] at this
  rw [show (0 : Int) = ((0 : Nat) : Int) from rfl, this]
  congr 1

theorem spec_l01Is_eq {k : Nat} {w : ByteArray} (hw : w.size ≤ 140737488351232) (hk : w.size + 1 < k) : spec_l01Is.f k w = some (isW w) := by
  have h := find_gen (fun k i => spec_l01Is.l0 k w i) w.size (fun i => !okB (bt w i)) (fun _ => false) (decide ((w.size : Int) ≤ 60)) 0
    (fun k i _ hi => by
      simp only [spec_l01Is.l0]
      rw [if_pos (by omega), if_pos (by omega)]
      by_cases h1 : bt w i < 97
      · rw [if_pos h1]
        have : okB (bt w i) = false := by unfold okB; simp; omega
        simp [this]
      · rw [if_neg h1]
        by_cases h2 : bt w i > 101
        · rw [if_pos h2]
          have : okB (bt w i) = false := by unfold okB; simp; omega
          simp [this]
        · rw [if_neg h2, w64 (by omega) (by omega)]
          have : okB (bt w i) = true := by unfold okB; simp; omega
          simp [this])
    (fun k _ => by simp only [spec_l01Is.l0]; rw [if_neg (by omega)])
    w.size k 0 (by omega) (by omega)
  unfold spec_l01Is.f
  rw [show (0 : Int) = ((0 : Nat) : Int) from rfl, h]
  congr 1
  unfold isW
  cases hf : findE (fun i => !okB (bt w i)) 0 w.size with
  | some j =>
    obtain ⟨_, h1, h2, _⟩ := findE_some hf
    have : (bytesOf w).all okB = false := by
      rw [Bool.eq_false_iff]
      intro h3
      rw [List.all_eq_true] at h3
      have hj : j < (bytesOf w).length := by rw [bo_len]; omega
      have := h3 _ (List.getElem_mem hj)
      rw [bt_nat, getD_eq _ _ hj, this] at h2
      cases h2
    simp [this]
  | none =>
    have : (bytesOf w).all okB = true := by
      rw [List.all_eq_true]
      intro x hx
      obtain ⟨j, hj, rfl⟩ := List.mem_iff_getElem.mp hx
      have := findE_none.mp hf j (Nat.zero_le _) (by rw [bo_len] at hj; omega)
      rw [bt_nat, getD_eq _ _ hj] at this
      simpa using this
    simp only [this, Bool.and_true, decide_eq_decide]
    omega
theorem spec_not_word {w : ByteArray} (h : w.size > 60) : isW w = false := by unfold isW; simp; omega

theorem wordCode_1 (a : ByteArray) : impl_wordCode.f () [a] = some (if isW a then 0 else 1) := by unfold impl_wordCode.f; simp
theorem wordCode_2 (a b : ByteArray) : impl_wordCode.f () [a, b] = some (if isW a && isW b then 0 else 1) := by unfold impl_wordCode.f; simp

def lynR (a0 : ByteArray) : Bool × Int := if isW a0 then (lynB a0, 0) else (false, 1)
theorem spec_IsLyndon_eq {k : Nat} {a0 : ByteArray} (h0 : a0.size ≤ 1048576) (hk : 1048600 ≤ k) : spec_IsLyndon.f k a0 = some (lynR a0) := by
  unfold spec_IsLyndon.f lynR
  rw [spec_l01Is_eq (by omega) (by omega), spec_l02Lyndon_eq (by omega) (by omega)]
  cases isW a0 <;> simp
theorem impl_IsLyndon_eq {k : Nat} {a0 : ByteArray} (h0 : a0.size ≤ 1048576) (hk : 1048600 ≤ k) : impl_IsLyndon.f k a0 = some (lynR a0) := by
  unfold impl_IsLyndon.f lynR
  rw [wordCode_1, impl_isLyndon_eq (by omega) (by omega)]
  cases isW a0 <;> simp
def partR (a0 : ByteArray) : List ByteArray × Int := if isW a0 then (partL a0, (0 : Int)) else ([], 1)
theorem spec_LyndonParts_eq {m : Nat} {a0 : ByteArray} (h0 : a0.size ≤ 1048576) (hm : 10000000 ≤ m) : spec_LyndonParts.f m a0 = some (partR a0) := by
  unfold spec_LyndonParts.f partR
  rw [spec_l01Is_eq (by omega) (by omega)]
  cases hw : isW a0
  · simp
  · have hz := isW_size hw
    simpa using spec_Lyn_eq hz (show 100000 ≤ m by omega)
theorem impl_LyndonParts_eq {m : Nat} {a0 : ByteArray} (h0 : a0.size ≤ 1048576) (hm : 10000000 ≤ m) : impl_LyndonParts.f m a0 = some (partR a0) := by
  unfold impl_LyndonParts.f partR
  rw [wordCode_1]
  cases hw : isW a0
  · simp
  · have hz := isW_size hw
    simpa using impl_Lyn_eq hz (show 100000 ≤ m by omega)

def turnW (w : ByteArray) (k : Nat) : ByteArray := w.extract k w.size ++ w.extract 0 k
def lstG (w : ByteArray) (k : Nat) (s : ByteArray × Nat) : ByteArray × Nat := if lessI (bytesOf (turnW w k)) (bytesOf s.1) = true then (turnW w k, k) else s
def lstW (w : ByteArray) : ByteArray × Nat := loopS (lstG w) 1 (w.size - 1) (w, 0)
theorem turnW_0 (w : ByteArray) : turnW w 0 = w := by
  apply bo_inj
  unfold turnW
  rw [bo_append, bo_extract, bo_extract, ← bo_len, List.take_length]
  simp
theorem spec_l01Turned_eq {w : ByteArray} {k : Int} (h0 : 0 ≤ k) (h1 : k ≤ w.size) (hs : w.size ≤ 1048576) : spec_l01Turned.f w k = some (turnW w k.toNat) := by
  unfold spec_l01Turned.f
  rw [if_pos h0, if_pos h1, if_pos (by rw [ext_size, ext_size]; omega)]; rfl
theorem spec_l02Least_eq {k : Nat} {w : ByteArray} (hw : w.size ≤ 1048576) (hk : w.size + 1 < k) : spec_l02Least.f k w = some ((lstW w).1, ((lstW w).2 : Int)) := by
  unfold spec_l02Least.f
  by_cases hz : w.size = 0
  · obtain ⟨k, rfl⟩ := rounds_pos (show 0 < k by omega)
    simp only [spec_l02Least.l0]
    rw [if_neg (by omega)]
    unfold lstW
    rw [hz]; rfl
  exact fold_gen (fun k (s : ByteArray × Nat) i => spec_l02Least.l0 k w s.1 s.2 i) w.size (lstG w) (fun s => (s.1, (s.2 : Int))) (fun _ _ => True) 0
    (fun k i s _ hi _ => by
      simp only [spec_l02Least.l0]
      rw [if_pos (by omega), spec_l01Turned_eq (by omega) (by omega) hw, Int.toNat_natCast, w64 (by omega) (by omega)]
      simp only [Option.bind_some]
      rw [less_bo]
      unfold lstG
      by_cases h : lessI (bytesOf (turnW w i)) (bytesOf s.1) = true
      · rw [if_pos h, if_pos h]; rfl
      · rw [if_neg h, if_neg h]; rfl)
    (fun _ _ _ _ => trivial)
    (fun k s _ _ => by simp only [spec_l02Least.l0]; rw [if_neg (by omega)])
    (w.size - 1) k 1 (w, 0) (by omega) (by omega) trivial
theorem impl_leastTurned_eq {k : Nat} {w : ByteArray} (hw : w.size ≤ 1048576) (hk : w.size + 1 < k) : impl_leastTurned.f k w = some ((lstW w).1, ((lstW w).2 : Int)) := by
  unfold impl_leastTurned.f
  have h := fold_gen (fun k (s : ByteArray × Nat) i => impl_leastTurned.l0 k w s.1 s.2 w.size i) w.size (lstG w) (fun s => (s.1, (s.2 : Int))) (fun _ _ => True) 0
    (fun k i s _ hi _ => by
      simp only [impl_leastTurned.l0]
      rw [if_pos (by omega), if_pos (by omega), if_pos (by omega), Int.toNat_natCast, if_pos (by rw [ext_size, ext_size]; omega), w64 (by omega) (by omega), less_bo]
      unfold lstG
      by_cases h : lessI (bytesOf (turnW w i)) (bytesOf s.1) = true
      · rw [if_pos h]; unfold turnW at h ⊢; rw [if_pos h]; rfl
      · rw [if_neg h]; unfold turnW at h; rw [if_neg h]; rfl)
    (fun _ _ _ _ => trivial)
    (fun k s _ _ => by simp only [impl_leastTurned.l0]; rw [if_neg (by omega)])
    w.size k 0 (w, 0) (by omega) (by omega) trivial
  have e : loopS (lstG w) 0 w.size (w, 0) = lstW w := by
    unfold lstW
    by_cases hz : w.size = 0
    · rw [hz]; rfl
    · rw [show w.size = (w.size - 1) + 1 by omega]
      simp only [loopS, Nat.add_sub_cancel]
      have : lstG w 0 (w, 0) = (w, 0) := by
        unfold lstG
        rw [turnW_0, lessI_irrefl, if_neg (by simp)]
      rw [this]
  rw [e] at h
  exact h

def leastR (a0 : ByteArray) : ByteArray × Int × Int := if isW a0 then ((lstW a0).1, ((lstW a0).2 : Int), 0) else (⟨#[]⟩, 0, 1)
theorem impl_LeastTurned_eq {k : Nat} {a0 : ByteArray} (h0 : a0.size ≤ 1048576) (hk : 1048600 ≤ k) : impl_LeastTurned.f k a0 = some (leastR a0) := by
  unfold impl_LeastTurned.f leastR
  rw [wordCode_1, impl_leastTurned_eq (by omega) (by omega)]
  cases isW a0 <;> simp

theorem impl_hasPeriod_eq {w : ByteArray} {p : Int} (h0 : 0 ≤ p) (h1 : p ≤ w.size) (hw : w.size ≤ 1048576) : impl_hasPeriod.f w p = some (hasP w p.toNat) := by
  unfold impl_hasPeriod.f
  rw [if_pos h0, if_pos h1, w64 (by omega) (by omega), if_pos (by omega), if_pos (by omega), toList_beq]
  unfold hasP
  rw [show ((w.size : Int) - p).toNat = w.size - p.toNat by omega]

theorem impl_period_eq {k : Nat} {w : ByteArray} (hw : w.size ≤ 1048576) (h0 : 0 < w.size) (hk : w.size < k) : impl_period.f k w = some (leastP w : Int) := by
  have h := until_gen (fun k i => impl_period.l0 k w i) w.size (hasP w) (fun j => (j : Int)) 0
    (fun k i _ hi => by
      simp only [impl_period.l0]
      rw [impl_hasPeriod_eq (by omega) (by omega) hw, w64 (by omega) (by omega)]
      rfl)
    (hasP_all w) (w.size - 1) k 1 (by omega) (by omega)
  unfold impl_period.f
  rw [show (1 : Int) = ((1 : Nat) : Int) from rfl, h]
  rfl

def rootW (w : ByteArray) : ByteArray := if w.size % leastP w = 0 then w.extract 0 (leastP w) else w
theorem impl_root_eq {k : Nat} {w : ByteArray} (hw : w.size ≤ 1048576) (h0 : 0 < w.size) (hk : w.size + 1 < k) : impl_root.f k w = some (rootW w) := by
  unfold impl_root.f
  obtain ⟨a1, a2, _, _⟩ := leastP_spec h0
  rw [impl_period_eq hw h0 (by omega)]
  simp only [Option.bind_some]
  rw [if_neg (by omega)]
  unfold rootW
  by_cases h : w.size % leastP w = 0
  · rw [if_pos h, if_pos (by omega), if_pos (by omega), if_pos (by omega)]; rfl
  · rw [if_neg h, if_neg (by omega)]
theorem rootW_size {w : ByteArray} (h0 : 0 < w.size) : 0 < (rootW w).size ∧ (rootW w).size ≤ w.size := by
  obtain ⟨a1, a2, _, _⟩ := leastP_spec h0
  unfold rootW
  split
  · rw [ext_size]; omega
  · omega

def cntTR (a0 : ByteArray) : Int × Int := if isW a0 then (if a0.size = 0 then (1, 0) else (((rootW a0).size : Int), 0)) else (0, 1)
theorem impl_CountTurned_eq {k : Nat} {a0 : ByteArray} (h0 : a0.size ≤ 1048576) (hk : 1048600 ≤ k) : impl_CountTurned.f k a0 = some (cntTR a0) := by
  unfold impl_CountTurned.f impl_size.f cntTR
  rw [wordCode_1]
  cases isW a0
  · simp
  · by_cases h : a0.size = 0
    · simp [h, (str_empty h).2.2.1]
    · simp [h, (str_nonempty h).2.2.1, impl_root_eq (show a0.size ≤ 1048576 by omega) (show 0 < a0.size by omega) (show a0.size + 1 < k by omega)]

theorem ext_all (w : ByteArray) : w.extract 0 w.size = w := bo_inj (by rw [bo_extract, List.drop_zero, ← bo_len, List.take_length])
theorem lst_inv {w : ByteArray} (h0 : 0 < w.size) : ∀ (c i : Nat) (s : ByteArray × Nat), i + c ≤ w.size → s.1 = turnW w s.2 ∧ s.2 < w.size → (loopS (lstG w) i c s).1 = turnW w (loopS (lstG w) i c s).2 ∧ (loopS (lstG w) i c s).2 < w.size
  | 0, i, s, _, h => h
  | c + 1, i, s, hi, h => by
    simp only [loopS]
    refine lst_inv h0 c (i + 1) _ (by omega) ?_
    unfold lstG
    split
    · exact ⟨rfl, by show i < w.size; omega⟩
    · exact h
theorem lstW_turn {w : ByteArray} (h0 : 0 < w.size) : (lstW w).1 = turnW w (lstW w).2 ∧ (lstW w).2 < w.size :=
  lst_inv h0 (w.size - 1) 1 (w, 0) (by omega) ⟨(turnW_0 w).symm, h0⟩
theorem lstW_zero {w : ByteArray} (h0 : w.size = 0) : lstW w = (w, 0) := by unfold lstW; rw [h0]; rfl

theorem drawDW_ok {l : List Int} {k : Nat} (hl : OkC l) (hk : 10000 ≤ k) : ∃ p q, spec_DrawDoubleWord.f k l = some (p, q) := by
  obtain ⟨h, e⟩ := l01From_ok (k := k) hl (by omega)
  unfold spec_DrawDoubleWord.f
  obtain ⟨x, t1, h1, e1, ht1, x0⟩ := l01Pick_ok (t := 0) (h := h) [9, 12, 30, 60] (P := fun r => 0 ≤ r ∧ r ≤ 1000000) hl zero_ok (by decide) (by decide)
  obtain ⟨p, t2, h2, e2, ht2, p0⟩ := l01Near_ok (h := h1) hl ht1 x0
  obtain ⟨y, t3, h3, e3, ht3, y0⟩ := l01Pick_ok (h := h2) [9, 12, 30] (P := fun r => 0 ≤ r ∧ r ≤ 1000000) hl ht2 (by decide) (by decide)
  obtain ⟨q, t4, h4, e4, ht4, q0⟩ := l01Near_ok (h := h3) hl ht3 y0
  rw [e, Option.bind_some]
  dsimp only
  rw [e1, Option.bind_some, e2, Option.bind_some, e3, Option.bind_some, e4, Option.bind_some]
  exact ⟨_, _, rfl⟩
theorem drawDL_ok {l : List Int} {k : Nat} (hl : OkC l) (hk : 10000 ≤ k) : ∃ p q, spec_DrawDoubleLength.f k l = some (p, q) := by
  obtain ⟨h, e⟩ := l01From_ok (k := k) hl (by omega)
  unfold spec_DrawDoubleLength.f
  obtain ⟨x, t1, h1, e1, ht1, x0⟩ := l01Pick_ok (t := 0) (h := h) [12, 60, 1000000] (P := fun r => 0 ≤ r ∧ r ≤ 1000000) hl zero_ok (by decide) (by decide)
  obtain ⟨p, t2, h2, e2, ht2, p0⟩ := l01Near_ok (h := h1) hl ht1 x0
  obtain ⟨y, t3, h3, e3, ht3, y0⟩ := l01Pick_ok (h := h2) [12, 60, 1000000] (P := fun r => 0 ≤ r ∧ r ≤ 1000000) hl ht2 (by decide) (by decide)
  obtain ⟨q, t4, h4, e4, ht4, q0⟩ := l01Near_ok (h := h3) hl ht3 y0
  rw [e, Option.bind_some]
  dsimp only
  rw [e1, Option.bind_some, e2, Option.bind_some, e3, Option.bind_some, e4, Option.bind_some]
  exact ⟨_, _, rfl⟩
theorem drawLP_ok {l : List Int} {k : Nat} (hl : OkC l) (hk : 10000 ≤ k) : ∃ a, spec_DrawLyndonParts.f k l = some a ∧ a.size ≤ 62 := by
  obtain ⟨h, e⟩ := l01From_ok (k := k) hl (by omega)
  obtain ⟨a, t1, h1, e1, ht1, a0⟩ := l01Spoil_ok (t := 0) (h := h) (k := k) hl zero_ok (by omega)
  unfold spec_DrawLyndonParts.f
  rw [e, Option.bind_some]
  dsimp only
  rw [e1, Option.bind_some]
  exact ⟨_, rfl, a0⟩
theorem drawIL_ok {l : List Int} {k : Nat} (hl : OkC l) (hk : 10000 ≤ k) : ∃ a, spec_DrawIsLyndon.f k l = some a ∧ a.size ≤ 62 := by
  obtain ⟨h, e⟩ := l01From_ok (k := k) hl (by omega)
  unfold spec_DrawIsLyndon.f
  rw [e, Option.bind_some]
  dsimp only
  obtain ⟨r, t1, h1, e1, ht1, r0, r1⟩ := l01Next_ok (t := 0) (h := h) hl zero_ok (n := 2) (by omega)
  rw [e1, Option.bind_some]
  dsimp only
  by_cases c : r = 0
  · rw [if_pos c]
    obtain ⟨j, t2, h2, e2, ht2, j0, j1⟩ := l01Next_ok (h := h1) hl ht1 (n := 12) (by omega)
    obtain ⟨x, t3, h3, e3, ht3, x0⟩ := l01Pick_ok (h := h2) [2, 3] (P := fun r => 1 ≤ r ∧ r ≤ 61) hl ht2 (by decide) (by decide)
    obtain ⟨u, t4, h4, e4, ht4, u0⟩ := l01DrawOf_ok (h := h3) (k := k) hl ht3 (n := 1 + j) (kk := x) (by omega) (by omega) (by omega)
    rw [e2, Option.bind_some, e3, Option.bind_some, w64 (by omega) (by omega), e4, Option.bind_some]
    dsimp only
    have hu : 0 < u.size := by omega
    have hz : (lstW u).1.size ≤ 60 := by
      obtain ⟨g1, g2⟩ := lstW_turn hu
      rw [g1]; unfold turnW
      rw [ByteArray.size_append, ext_size, ext_size]; omega
    obtain ⟨v, t5, h5, e5, ht5, v0⟩ := l01Bad_ok (h := h4) (k := k) (w := (lstW u).1) hl ht4 hz (by omega)
    rw [spec_l02Least_eq (by omega) (by omega), Option.bind_some]
    dsimp only
    rw [e5, Option.bind_some]
    exact ⟨_, rfl, v0⟩
  · rw [if_neg c]
    obtain ⟨a, t2, h2, e2, ht2, a0⟩ := l01Spoil_ok (h := h1) (k := k) hl ht1 (by omega)
    rw [e2, Option.bind_some]
    exact ⟨_, rfl, a0⟩
theorem lst_stay {w : ByteArray} (h : lynT (bytesOf w)) : ∀ (c i : Nat), 1 ≤ i → i + c ≤ w.size → loopS (lstG w) i c (w, 0) = (w, 0)
  | 0, i, _, _ => rfl
  | c + 1, i, h1, h2 => by
    simp only [loopS]
    have e : lstG w i (w, 0) = (w, 0) := by
      unfold lstG
      have := h i (by omega) (by rw [bo_len]; omega)
      have ht : bytesOf (turnW w i) = (bytesOf w).drop i ++ (bytesOf w).take i := by
        unfold turnW
        rw [bo_append, bo_extract, bo_extract, List.drop_zero, show List.take w.size (bytesOf w) = bytesOf w by rw [← bo_len, List.take_length]]
      rw [ht, lessI_asymm this, if_neg (by simp)]
    rw [e]
    exact lst_stay h c (i + 1) (by omega) (by omega)
theorem lyn_least {w : ByteArray} (h : lynB w = true) : lstW w = (w, 0) ∧ rootW w = w := by
  obtain ⟨h1, h2⟩ := (lynB_iff w).mp h
  refine ⟨?_, ?_⟩
  · unfold lstW
    exact lst_stay ((lyn_iff _).mp h1) (w.size - 1) 1 (by omega) (by omega)
  · obtain ⟨p1, p2, p3, p4⟩ := leastP_spec (w := w) h2
    have hp : leastP w = w.size := by
      refine Nat.le_antisymm p2 (Nat.le_of_not_lt fun hlt => ?_)
      have hs := h1 (leastP w) (by omega) (by rw [bo_len]; exact hlt)
      have e : w.extract (leastP w) w.size = w.extract 0 (w.size - leastP w) := of_decide_eq_true p3
      have e := congrArg bytesOf e
      rw [bo_extract, bo_extract, List.drop_zero, show List.take w.size (bytesOf w) = bytesOf w by rw [← bo_len, List.take_length]] at e
      rw [e] at hs
      have hne : (bytesOf w).take (w.size - leastP w) ≠ bytesOf w := fun e2 => by
        have := congrArg List.length e2
        rw [List.length_take, bo_len] at this
        omega
      have := lessI_prefix (List.take_prefix _ _) hne
      rw [lessI_asymm hs] at this
      cases this
    unfold rootW
    rw [hp, Nat.mod_self, if_pos rfl, ext_all]
theorem FnDoubleWords : laws_FnDoubleWords.Pure := by
  intro l0 _ _ hw
  by_cases hb : l0.length > 4096
  · exact Or.inl hb
  refine Or.inr ⟨by omega, ?_⟩
  have hl := okC_of (by omega) hw
  obtain ⟨k, hk⟩ : ∃ k : Nat, 20000000 ≤ k := ⟨_, Nat.le_refl _⟩
  obtain ⟨p, q, d1⟩ := drawDW_ok (k := k) hl (by omega)
  obtain ⟨ap, bp, d2⟩ := drawDL_ok (k := k) hl (by omega)
  obtain ⟨a, d3, az⟩ := drawLP_ok (k := k) hl (by omega)
  obtain ⟨u, d4, uz⟩ := drawIL_ok (k := k) hl (by omega)
  obtain ⟨w, c, w1, w2, w3⟩ := dw_law (m := k) (by omega) p q
  have e1 := impl_DoubleLength_eq (k := k) ap bp (by omega)
  have e2 := spec_DoubleLength_eq (k := k) ap bp (by omega)
  have e3 := impl_LyndonParts_eq (m := k) (a0 := a) (by omega) (by omega)
  have e4 := spec_LyndonParts_eq (m := k) (a0 := a) (by omega) (by omega)
  have e5 := impl_IsLyndon_eq (k := k) (a0 := u) (by omega) (by omega)
  have e6 := spec_IsLyndon_eq (k := k) (a0 := u) (by omega) (by omega)
  have hpl := partL_len a
  have hpr : (partR a).1.length ≤ 1000 := by
    unfold partR
    cases isW a
    · simp
    · simp only [if_true]; omega
  refine ⟨k, w, a, u, p, q, ap, bp, _, (partR a).1, (lynR u).1, c, _, (partR a).2, (lynR u).2, d1, w1, w2, d2, e1, e2, d3, e3, e4, words9_eq (by omega) (by omega), d4, e5, e6, ?_, ?_, w3⟩
  · unfold lynR
    cases hW : isW u with
    | false => exact Or.inl (by simp)
    | true =>
      rw [if_pos rfl]
      cases hy : lynB u with
      | false => exact Or.inr (Or.inl ⟨rfl, rfl⟩)
      | true =>
        obtain ⟨g1, g2⟩ := lyn_least hy
        have hz := ((lynB_iff u).mp hy).2
        refine Or.inr (Or.inr ⟨rfl, rfl, ?_, ?_⟩)
        · rw [impl_LeastTurned_eq (by omega) (by omega)]
          unfold leastR
          rw [hW, if_pos rfl, g1]; rfl
        · rw [impl_CountTurned_eq (by omega) (by omega)]
          unfold cntTR
          rw [hW, if_pos rfl, if_neg (by omega), g2]
  · unfold partR
    cases hW : isW a with
    | false => exact Or.inl (by simp)
    | true =>
      rw [if_pos rfl]
      have hz := isW_size hW
      have hcat := part_cat a.size a (Nat.le_refl _)
      obtain ⟨f1, f2⟩ := part_facts a.size a (Nat.le_refl _)
      have hj := joined9_eq (k := k) (a := partL a) (by omega) (by omega) (by unfold partL; rw [hcat]; omega)
      rw [show catL (partL a) = a from hcat] at hj
      have hrd : ∀ j : Nat, rdOf ByteArray.empty (partL a) (j : Int) = (partL a).getD j ByteArray.empty := fun j => by unfold rdOf; rw [Int.toNat_natCast]
      refine Or.inr ⟨rfl, hj, by show (partL a).length ≤ 1000; omega, fun j hj => ?_, fun j hj => ?_⟩
      · have hj : j < (partL a).length := hj
        have hx : rdOf ByteArray.empty (partL a) (j : Int) ∈ partL a := by
          rw [hrd, List.getD_eq_getElem?_getD, List.getElem?_eq_getElem hj]
          exact List.getElem_mem hj
        obtain ⟨x1, x2⟩ := f1 _ hx
        have hxz := isW_size (x2 hW)
        show impl_IsLyndon.f k (rdOf ByteArray.empty (partL a) (j : Int)) = _
        rw [impl_IsLyndon_eq (by omega) (by omega)]
        unfold lynR
        rw [x2 hW, if_pos rfl, x1]
      · show Op.bytesLess (rdOf ByteArray.empty (partL a) (j : Int)).toList (rdOf ByteArray.empty (partL a) ((j + 1 : Nat) : Int)).toList = false
        rw [less_bo, hrd, hrd]
        exact f2 j hj

end Go.Proofs.Ytmihfmhfgjnfcab.Pure
