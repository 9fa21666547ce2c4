/- The plain part of the law FnPeriods: for every input that the law takes, the printed function of the law answers true once it has rounds enough. Conditions: those that stand in the statement (sizes of strings and slices, kinds of numbers), no other. -/
import Derived.Test.YtmihfmhfgjnfcabMxFnPeriods2
import Derived.Test.YtmihfmhfgjnfcabMath
import Derived.Test.YtmihfmhfgjnfcabMath3
import Derived.Test.YtmihfmhfgjnfcabMath4
namespace Go.Proofs.Ytmihfmhfgjnfcab.Pure
open Go.RowKit Go.Proofs.Ytmihfmhfgjnfcab.Q Go.Proofs.YtmihfmhfgjnfcabW.PrintWords Go.Proofs.YtmihfmhfgjnfcabW.PrintLast Go.Proofs.YtmihfmhfgjnfcabW.PrintMore
set_option linter.unusedVariables false
set_option linter.unusedSimpArgs false

theorem spec_l01Reversed_l0 (w : ByteArray) (hw : w.size ≤ 1048576) : ∀ (n k : Nat) (acc : List Int), n ≤ w.size → n + 1 < k → acc.length + n ≤ 1048576 →
    spec_l01Reversed.l0 k w acc ((n : Int) - 1) = some (strOfNums (acc ++ ((bytesOf w).take n).reverse))
  | 0, k, acc, hn, hk, ha => by
    obtain ⟨k, rfl⟩ := rounds_pos (show 0 < k by omega)
    simp only [spec_l01Reversed.l0]
    rw [if_neg (by omega)]
    simp
  | n + 1, k, acc, hn, hk, ha => by
    obtain ⟨k, rfl⟩ := rounds_pos (show 0 < k by omega)
    simp only [spec_l01Reversed.l0]
    rw [if_pos (by omega), if_pos (by omega), if_pos (by omega), if_pos (by omega)]
    have e1 : ((n + 1 : Nat) : Int) - 1 = (n : Int) := by omega
    rw [e1, w64 (by omega) (by omega), spec_l01Reversed_l0 w hw n k (acc ++ [bt w n]) (by omega) (by omega) (by simp; omega)]
    rw [take_bytes_snoc w n (by omega)]
    simp
theorem spec_l01Reversed_eq {k : Nat} {w : ByteArray} (hw : w.size ≤ 1048576) (hk : w.size + 1 < k) : spec_l01Reversed.f k w = some (revW w) := by
  unfold spec_l01Reversed.f
  rw [w64 (by omega) (by omega), spec_l01Reversed_l0 w hw w.size k [] (Nat.le_refl _) hk (by simpa using hw)]
  rw [← bo_len, List.take_length]
  rfl

/-- a code whose numbers are bytes, and a place in it -/
def OkC (l : List Int) : Prop := l.length ≤ 4096 ∧ ∀ j : Nat, j < l.length → 0 ≤ rd l j ∧ rd l j ≤ 255
def Gives {α : Type} (o : Option (α × Int × Int)) (l : List Int) (P : α → Prop) : Prop := ∃ (r : α) (t h : Int), o = some (r, t, h) ∧ (0 ≤ t ∧ t ≤ (l.length : Int)) ∧ P r
theorem leO_far {α : Type} {f : Nat → Option α} (h : ∀ k, LeO (f k) (f (k + 1))) {r : α} {a : Nat} (ha : f a = some r) : ∀ d, f (a + d) = some r
  | 0 => ha
  | d + 1 => h (a + d) r (leO_far h ha d)
theorem u64_rng (x : Int) : 0 ≤ IntKind.u64.wrap x ∧ IntKind.u64.wrap x < 18446744073709551616 := by
  have e : IntKind.u64.wrap x = x % 18446744073709551616 := rfl
  rw [e]; omega
theorem and24 (x : Int) : 0 ≤ Go.bits .and .u64 (IntKind.u64.wrap x / 8589934592) 16777215 ∧ Go.bits .and .u64 (IntKind.u64.wrap x / 8589934592) 16777215 ≤ 16777215 := by
  have h := u64_rng x
  obtain ⟨n, hn⟩ := Int.eq_ofNat_of_zero_le (show 0 ≤ IntKind.u64.wrap x / 8589934592 by omega)
  rw [hn]
  have e : Go.bits .and .u64 (n : Int) 16777215 = ((n &&& 16777215 : Nat) : Int) := Go.bits_and_u64_nat n 16777215 (by omega) (by omega)
  rw [e]
  have : n &&& 16777215 ≤ 16777215 := Nat.and_le_right
  omega
theorem l01Next_ok {l : List Int} {t h n : Int} (hl : OkC l) (ht : 0 ≤ t ∧ t ≤ (l.length : Int)) (hn : 1 ≤ n ∧ n ≤ 1000000) : Gives (spec_l01Next.f l t h n) l fun r => 0 ≤ r ∧ r < n := by
  have hb := hl.1
  unfold spec_l01Next.f
  obtain ⟨y, hy⟩ : ∃ y, y = (IntKind.u64.wrap (h * 6364136223846793005)) + 1442695040888963407 := ⟨_, rfl⟩
  have ha := and24 y
  rw [← hy]
  obtain ⟨z, hz⟩ : ∃ z, z = Go.bits .and .u64 (IntKind.u64.wrap y / 8589934592) 16777215 := ⟨_, rfl⟩
  rw [← hz] at ha ⊢
  rw [if_neg (by omega), w64 (x := z) (by omega) (by omega)]
  by_cases c : t < (l.length : Int)
  · have hr := hl.2 t.toNat (by omega)
    rw [show ((t.toNat : Nat) : Int) = t by omega] at hr
    rw [if_pos c, if_pos ht.1, if_neg (by omega), w64 (x := rd l t) (by omega) (by omega), w64 (x := z + rd l t) (by omega) (by omega), w64 (x := t + 1) (by omega) (by omega)]
    exact ⟨_, _, _, rfl, ⟨by omega, by omega⟩, Int.tmod_nonneg _ (by omega), Int.tmod_lt_of_pos _ (by omega)⟩
  · rw [if_neg c, if_neg (by omega)]
    exact ⟨_, _, _, rfl, ht, Int.tmod_nonneg _ (by omega), Int.tmod_lt_of_pos _ (by omega)⟩
theorem rd_mem {L : List Int} {j : Int} (h0 : 0 ≤ j) (h1 : j < (L.length : Int)) : rd L j ∈ L := by
  unfold rd
  have : j.toNat < L.length := by omega
  simp [List.getD_eq_getElem?_getD, this]
theorem l01Pick_ok {l : List Int} {t h : Int} (L : List Int) {P : Int → Prop} (hl : OkC l) (ht : 0 ≤ t ∧ t ≤ (l.length : Int)) (hL : 1 ≤ L.length ∧ L.length ≤ 1000) (hP : ∀ x ∈ L, P x) : Gives (spec_l01Pick.f l t h L) l P := by
  obtain ⟨r, t1, h1, e1, ht1, r0, r1⟩ := l01Next_ok (h := h) hl ht (n := (L.length : Int)) (by omega)
  unfold spec_l01Pick.f
  rw [e1, Option.bind_some, if_pos r0, if_pos r1]
  exact ⟨_, _, _, rfl, ht1, hP _ (rd_mem r0 r1)⟩
theorem l01DrawOf_l0 {l : List Int} (hl : OkC l) {n kk : Int} (hn : n ≤ 100) (hk : 1 ≤ kk ∧ kk ≤ 100) : ∀ (d k i : Nat) (u : ByteArray) (t h : Int), (i : Int) + d = n → u.size = i → d < k → 0 ≤ t ∧ t ≤ (l.length : Int) → Gives (spec_l01DrawOf.l0 k n kk u i l t h) l fun u => (u.size : Int) = n
  | 0, k, i, u, t, h, hi, hu, hd, ht => by
    obtain ⟨k, rfl⟩ := rounds_pos (show 0 < k by omega)
    simp only [spec_l01DrawOf.l0]
    rw [if_neg (by omega)]
    exact ⟨_, _, _, rfl, ht, by omega⟩
  | d + 1, k, i, u, t, h, hi, hu, hd, ht => by
    obtain ⟨k, rfl⟩ := rounds_pos (show 0 < k by omega)
    simp only [spec_l01DrawOf.l0]
    obtain ⟨r, t1, h1, e1, ht1, r0, r1⟩ := l01Next_ok (h := h) hl ht (n := kk) (by omega)
    rw [if_pos (by omega), e1, Option.bind_some]
    unfold spec_l01Letter.f
    rw [Option.bind_some, if_pos (by rw [sn_len]; simp; omega), w64 (x := (i : Int) + 1) (by omega) (by omega), show (i : Int) + 1 = ((i + 1 : Nat) : Int) by omega]
    exact l01DrawOf_l0 hl hn hk d k (i + 1) _ t1 h1 (by omega) (by rw [ByteArray.size_append, sn_len, hu]; rfl) (by omega) ht1
theorem l01DrawOf_ok {l : List Int} {t h n kk : Int} {k : Nat} (hl : OkC l) (ht : 0 ≤ t ∧ t ≤ (l.length : Int)) (hn : 0 ≤ n ∧ n ≤ 100) (hk : 1 ≤ kk ∧ kk ≤ 100) (hf : 200 ≤ k) : Gives (spec_l01DrawOf.f k l t h n kk) l fun u => (u.size : Int) = n := by
  unfold spec_l01DrawOf.f
  exact l01DrawOf_l0 hl hn.2 hk n.toNat k 0 _ t h (by omega) rfl (by omega) ht
theorem l01Small_ok {l : List Int} {t h : Int} {k : Nat} (hl : OkC l) (ht : 0 ≤ t ∧ t ≤ (l.length : Int)) (hf : 200 ≤ k) : Gives (spec_l01Small.f k l t h) l fun u => u.size ≤ 10 := by
  unfold spec_l01Small.f
  obtain ⟨r, t1, h1, e1, ht1, r0, r1⟩ := l01Next_ok (h := h) hl ht (n := 11) (by omega)
  obtain ⟨x, t2, h2, e2, ht2, x0⟩ := l01Pick_ok (h := h1) [1, 2, 2, 2, 3, 5] (P := fun r => 1 ≤ r ∧ r ≤ 100) hl ht1 (by decide) (by decide)
  obtain ⟨u, t3, h3, e3, ht3, u0⟩ := l01DrawOf_ok (h := h2) (k := k) hl ht2 (n := r) (kk := x) (by omega) x0 hf
  rw [e1, Option.bind_some, e2, Option.bind_some, e3, Option.bind_some]
  exact ⟨_, _, _, rfl, ht3, show u.size ≤ 10 by omega⟩
theorem named_all : ∀ j : Fin 4, ∀ m : Fin 61, ((spec_l01Named.f 600 (rdOf ByteArray.empty [(⟨#[102, 105, 98, 111, 110, 97, 99, 99, 105]⟩ : ByteArray), (⟨#[116, 104, 117, 101]⟩ : ByteArray), (⟨#[100, 111, 117, 98, 108, 105, 110, 103]⟩ : ByteArray), (⟨#[116, 114, 105, 112, 108, 101]⟩ : ByteArray)] (j.val : Int)) (m.val : Int)).elim false fun r => decide (r.1.size ≤ 60)) = true := by
  decide +kernel
theorem l01Named_ok {j m : Int} {k : Nat} (hj : 0 ≤ j ∧ j < 4) (hm : 0 ≤ m ∧ m ≤ 60) (hf : 600 ≤ k) : ∃ w b, spec_l01Named.f k (rdOf ByteArray.empty [(⟨#[102, 105, 98, 111, 110, 97, 99, 99, 105]⟩ : ByteArray), (⟨#[116, 104, 117, 101]⟩ : ByteArray), (⟨#[100, 111, 117, 98, 108, 105, 110, 103]⟩ : ByteArray), (⟨#[116, 114, 105, 112, 108, 101]⟩ : ByteArray)] j) m = some (w, b) ∧ w.size ≤ 60 := by
  obtain ⟨j, rfl⟩ := Int.eq_ofNat_of_zero_le hj.1
  obtain ⟨m, rfl⟩ := Int.eq_ofNat_of_zero_le hm.1
  have h := named_all ⟨j, by omega⟩ ⟨m, by omega⟩
  simp only at h
  revert h
  cases e : spec_l01Named.f 600 (rdOf ByteArray.empty [(⟨#[102, 105, 98, 111, 110, 97, 99, 99, 105]⟩ : ByteArray), (⟨#[116, 104, 117, 101]⟩ : ByteArray), (⟨#[100, 111, 117, 98, 108, 105, 110, 103]⟩ : ByteArray), (⟨#[116, 114, 105, 112, 108, 101]⟩ : ByteArray)] (j : Int)) (m : Int) with
  | none => intro h; cases h
  | some r =>
    intro h
    have h2 := leO_far (fun k => spec_l01Named.mono _ _ k) e (k - 600)
    rw [show 600 + (k - 600) = k by omega] at h2
    exact ⟨r.1, r.2, h2, of_decide_eq_true h⟩
theorem l01Draw_l0 {l : List Int} (hl : OkC l) (u : ByteArray) (hu : 1 ≤ u.size ∧ u.size ≤ 6) : ∀ (d k : Nat) (w : ByteArray) (t h : Int), d ≤ 4 → d < k → w.size + d * 6 ≤ 24 → 0 ≤ t ∧ t ≤ (l.length : Int) → Gives (spec_l01Draw.l0 k u w (d : Int) l t h) l fun w => w.size ≤ 60
  | 0, k, w, t, h, hd, hk, hw, ht => by
    obtain ⟨k, rfl⟩ := rounds_pos (show 0 < k by omega)
    simp only [spec_l01Draw.l0]
    obtain ⟨r, t1, h1, e1, ht1, r0, r1⟩ := l01Next_ok (h := h) hl ht (n := (u.size : Int)) (by omega)
    have hz : (u.extract 0 r.toNat).size ≤ 6 := by rw [ByteArray.size_extract]; omega
    rw [if_neg (by omega), e1, Option.bind_some]
    dsimp only
    rw [if_pos (by omega), if_pos (by omega), if_pos (by omega)]
    exact ⟨_, _, _, rfl, ht1, by dsimp only; rw [ByteArray.size_append]; omega⟩
  | d + 1, k, w, t, h, hd, hk, hw, ht => by
    obtain ⟨k, rfl⟩ := rounds_pos (show 0 < k by omega)
    simp only [spec_l01Draw.l0]
    rw [if_pos (by omega), if_pos (by omega), w64 (by omega) (by omega), show ((d + 1 : Nat) : Int) - 1 = (d : Int) by omega]
    exact l01Draw_l0 hl u hu d k _ t h (by omega) (by omega) (by rw [ByteArray.size_append]; omega) ht
theorem revW_size (w : ByteArray) : (revW w).size = w.size := by unfold revW; rw [sn_len, List.length_reverse, bo_len]
theorem l01Draw_ok {l : List Int} {t h : Int} {k : Nat} (hl : OkC l) (ht : 0 ≤ t ∧ t ≤ (l.length : Int)) (hf : 1000 ≤ k) : Gives (spec_l01Draw.f k l t h) l fun u => u.size ≤ 60 := by
  unfold spec_l01Draw.f
  obtain ⟨r, t1, h1, e1, ht1, r0, r1⟩ := l01Next_ok (h := h) hl ht (n := 6) (by omega)
  rw [e1, Option.bind_some]
  by_cases c0 : r = 0
  · rw [if_pos c0]
    unfold spec_l01Names.f
    obtain ⟨j, t2, h2, e2, ht2, j0, j1⟩ := l01Next_ok (h := h1) hl ht1 (n := 4) (by omega)
    obtain ⟨x, t3, h3, e3, ht3, x0⟩ := l01Pick_ok (h := h2) [12, 30, 61] (P := fun r => 1 ≤ r ∧ r ≤ 61) hl ht2 (by decide) (by decide)
    obtain ⟨m, t4, h4, e4, ht4, m0, m1⟩ := l01Next_ok (h := h3) hl ht3 (n := x) (by omega)
    obtain ⟨w, b, e5, hw⟩ := l01Named_ok (j := j) (m := m) (k := k) ⟨j0, j1⟩ (by omega) (by omega)
    rw [Option.bind_some, e2, Option.bind_some, if_pos j0, if_pos (by simpa using j1), e3, Option.bind_some, e4, Option.bind_some, e5, Option.bind_some]
    exact ⟨_, _, _, rfl, ht4, hw⟩
  rw [if_neg c0]
  by_cases c1 : r = 1
  · rw [if_pos c1]
    obtain ⟨j, t2, h2, e2, ht2, j0, j1⟩ := l01Next_ok (h := h1) hl ht1 (n := 6) (by omega)
    obtain ⟨x, t3, h3, e3, ht3, x0⟩ := l01Pick_ok (h := h2) [2, 2, 3] (P := fun r => 1 ≤ r ∧ r ≤ 61) hl ht2 (by decide) (by decide)
    obtain ⟨u, t4, h4, e4, ht4, u0⟩ := l01DrawOf_ok (h := h3) (k := k) hl ht3 (n := 1 + j) (kk := x) (by omega) (by omega) (by omega)
    obtain ⟨m, t5, h5, e5, ht5, m0, m1⟩ := l01Next_ok (h := h4) hl ht4 (n := 4) (by omega)
    rw [e2, Option.bind_some, e3, Option.bind_some, w64 (by omega) (by omega), e4, Option.bind_some, e5, Option.bind_some, w64 (by omega) (by omega)]
    have := l01Draw_l0 hl u (by omega) (1 + m).toNat k ⟨#[]⟩ t5 h5 (by omega) (by omega) (by show 0 + _ ≤ _; omega) ht5
    rw [show (((1 + m).toNat : Nat) : Int) = 1 + m by omega] at this
    exact this
  rw [if_neg c1]
  by_cases c2 : r = 2
  · rw [if_pos c2]
    obtain ⟨j, t2, h2, e2, ht2, j0, j1⟩ := l01Next_ok (h := h1) hl ht1 (n := 12) (by omega)
    obtain ⟨x, t3, h3, e3, ht3, x0⟩ := l01Pick_ok (h := h2) [2, 2, 3] (P := fun r => 1 ≤ r ∧ r ≤ 61) hl ht2 (by decide) (by decide)
    obtain ⟨u, t4, h4, e4, ht4, u0⟩ := l01DrawOf_ok (h := h3) (k := k) hl ht3 (n := j) (kk := x) (by omega) (by omega) (by omega)
    obtain ⟨m, t5, h5, e5, ht5, m0, m1⟩ := l01Next_ok (h := h4) hl ht4 (n := 2) (by omega)
    obtain ⟨v, t6, h6, e6, ht6, v0⟩ := l01DrawOf_ok (h := h5) (k := k) hl ht5 (n := m) (kk := 2) (by omega) (by omega) (by omega)
    rw [e2, Option.bind_some, e3, Option.bind_some, e4, Option.bind_some, e5, Option.bind_some, e6, Option.bind_some]
    dsimp only
    rw [if_pos (by omega), spec_l01Reversed_eq (by omega) (by omega), Option.bind_some, if_pos (by rw [ByteArray.size_append, revW_size]; omega)]
    exact ⟨_, _, _, rfl, ht6, by dsimp only; rw [ByteArray.size_append, ByteArray.size_append, revW_size]; omega⟩
  rw [if_neg c2]
  by_cases c3 : r = 3
  · rw [if_pos c3]
    obtain ⟨x, t3, h3, e3, ht3, x0⟩ := l01Pick_ok (h := h1) [20, 40, 61] (P := fun r => 1 ≤ r ∧ r ≤ 61) hl ht1 (by decide) (by decide)
    obtain ⟨m, t4, h4, e4, ht4, m0, m1⟩ := l01Next_ok (h := h3) hl ht3 (n := x) (by omega)
    obtain ⟨y, t5, h5, e5, ht5, y0⟩ := l01Pick_ok (h := h4) [1, 2, 2, 3, 3, 4, 5] (P := fun r => 1 ≤ r ∧ r ≤ 61) hl ht4 (by decide) (by decide)
    obtain ⟨v, t6, h6, e6, ht6, v0⟩ := l01DrawOf_ok (h := h5) (k := k) hl ht5 (n := m) (kk := y) (by omega) (by omega) (by omega)
    rw [e3, Option.bind_some, e4, Option.bind_some, e5, Option.bind_some, e6, Option.bind_some]
    exact ⟨_, _, _, rfl, ht6, show v.size ≤ 60 by omega⟩
  rw [if_neg c3]
  obtain ⟨u, t2, h2, e2, ht2, u0⟩ := l01Small_ok (h := h1) (k := k) hl ht1 (by omega)
  rw [e2, Option.bind_some]
  exact ⟨_, _, _, rfl, ht2, show u.size ≤ 60 by omega⟩
theorem l01Damage_ok {l : List Int} {t h : Int} {w : ByteArray} (hl : OkC l) (ht : 0 ≤ t ∧ t ≤ (l.length : Int)) (hw : w.size ≤ 60) : Gives (spec_l01Damage.f l t h w) l fun u => u.size ≤ 61 := by
  unfold spec_l01Damage.f
  rw [Option.bind_some]
  obtain ⟨L, hL⟩ : ∃ L, L = ([(⟨#[97]⟩ : ByteArray), (⟨#[98]⟩ : ByteArray), (⟨#[99]⟩ : ByteArray), (⟨#[101]⟩ : ByteArray), (⟨#[102]⟩ : ByteArray), (⟨#[65]⟩ : ByteArray), (⟨#[32]⟩ : ByteArray), (⟨#[44]⟩ : ByteArray), (⟨#[48]⟩ : ByteArray), (⟨#[10]⟩ : ByteArray)] : List ByteArray) := ⟨_, rfl⟩
  have hLl : L.length = 10 := by rw [hL]; rfl
  have hLs : ∀ x ∈ L, x.size = 1 := by rw [hL]; decide
  rw [← hL]
  obtain ⟨r, t1, h1, e1, ht1, r0, r1⟩ := l01Next_ok (h := h) hl ht (n := (L.length : Int)) (by omega)
  rw [e1, Option.bind_some, if_pos r0, if_pos r1]
  obtain ⟨c, hc⟩ : ∃ c, c = rdOf ByteArray.empty L r := ⟨_, rfl⟩
  have hcs : c.size = 1 := by
    refine hLs c ?_
    rw [hc]; unfold rdOf
    have : r.toNat < L.length := by omega
    simp [List.getD_eq_getElem?_getD, this]
  rw [← hc]
  by_cases cz : (w.size : Int) = 0
  · rw [if_pos cz]; exact ⟨_, _, _, rfl, ht1, show c.size ≤ 61 by omega⟩
  rw [if_neg cz]
  obtain ⟨x, t2, h2, e2, ht2, x0, x1⟩ := l01Next_ok (h := h1) hl ht1 (n := (w.size : Int)) (by omega)
  obtain ⟨y, t3, h3, e3, ht3, y0, y1⟩ := l01Next_ok (h := h2) hl ht2 (n := 3) (by omega)
  rw [e2, Option.bind_some, e3, Option.bind_some]
  dsimp only
  rw [w64 (by omega) (by omega)]
  have z1 : (w.extract 0 x.toNat).size ≤ x.toNat := by rw [ByteArray.size_extract]; omega
  have z2 : (w.extract (x + 1).toNat w.size).size + (x.toNat + 1) = w.size := by rw [ByteArray.size_extract]; omega
  have z3 : (w.extract x.toNat w.size).size + x.toNat = w.size := by rw [ByteArray.size_extract]; omega
  have q0 : 0 ≤ x := x0
  have q1 : x ≤ (w.size : Int) := by omega
  have q2 : 0 ≤ x + 1 := by omega
  have q3 : x + 1 ≤ (w.size : Int) := by omega
  by_cases c0 : y = 0
  · rw [if_pos c0, if_pos q0, if_pos q1, if_pos (by omega), if_pos q2, if_pos q3, if_pos (by rw [ByteArray.size_append]; omega)]
    exact ⟨_, _, _, rfl, ht3, by dsimp only; rw [ByteArray.size_append, ByteArray.size_append]; omega⟩
  rw [if_neg c0]
  by_cases c1 : y = 1
  · rw [if_pos c1, if_pos q0, if_pos q1, if_pos q2, if_pos q3, if_pos (by omega)]
    exact ⟨_, _, _, rfl, ht3, by dsimp only; rw [ByteArray.size_append]; omega⟩
  rw [if_neg c1, if_pos q0, if_pos q1, if_pos (by omega), if_pos (by rw [ByteArray.size_append]; omega)]
  exact ⟨_, _, _, rfl, ht3, by dsimp only; rw [ByteArray.size_append, ByteArray.size_append]; omega⟩
theorem l01Bad_l0 {l : List Int} {t h : Int} (ht : 0 ≤ t ∧ t ≤ (l.length : Int)) : ∀ (d k : Nat) (w : ByteArray), w.size ≤ 62 → 62 - w.size ≤ d → d < k → Gives (spec_l01Bad.l0 k w l t h) l fun u => u.size ≤ 62
  | 0, k, w, hw, hd, hk => by
    obtain ⟨k, rfl⟩ := rounds_pos (show 0 < k by omega)
    simp only [spec_l01Bad.l0]
    rw [if_neg (by omega)]
    exact ⟨_, _, _, rfl, ht, hw⟩
  | d + 1, k, w, hw, hd, hk => by
    obtain ⟨k, rfl⟩ := rounds_pos (show 0 < k by omega)
    simp only [spec_l01Bad.l0]
    by_cases c : (w.size : Int) ≤ 60
    · rw [if_pos c, if_pos (by omega)]
      have hz : (w ++ (⟨#[97, 98]⟩ : ByteArray)).size = w.size + 2 := by rw [ByteArray.size_append]; rfl
      exact l01Bad_l0 ht d k _ (by omega) (by omega) (by omega)
    · rw [if_neg c]
      exact ⟨_, _, _, rfl, ht, hw⟩
theorem l01Bad_ok {l : List Int} {t h : Int} {k : Nat} {w : ByteArray} (hl : OkC l) (ht : 0 ≤ t ∧ t ≤ (l.length : Int)) (hw : w.size ≤ 60) (hf : 1000 ≤ k) : Gives (spec_l01Bad.f k l t h w) l fun u => u.size ≤ 62 := by
  unfold spec_l01Bad.f
  obtain ⟨r, t1, h1, e1, ht1, r0, r1⟩ := l01Next_ok (h := h) hl ht (n := 50) (by omega)
  rw [e1, Option.bind_some]
  by_cases c0 : r = 0
  · rw [if_pos c0, if_pos (by omega)]
    exact ⟨_, _, _, rfl, ht1, by dsimp only; rw [ByteArray.size_append]; show _ + 1 ≤ 62; omega⟩
  rw [if_neg c0]
  by_cases c1 : r = 1
  · rw [if_pos c1]
    obtain ⟨u, t2, h2, e2, ht2, u0⟩ := l01Damage_ok (h := h1) hl ht1 hw
    rw [e2, Option.bind_some]
    exact ⟨_, _, _, rfl, ht2, show u.size ≤ 62 by omega⟩
  rw [if_neg c1]
  by_cases c2 : r = 2
  · rw [if_pos c2]
    exact l01Bad_l0 ht1 62 k w (by omega) (by omega) (by omega)
  rw [if_neg c2]
  exact ⟨_, _, _, rfl, ht1, show w.size ≤ 62 by omega⟩
theorem l01Spoil_ok {l : List Int} {t h : Int} {k : Nat} (hl : OkC l) (ht : 0 ≤ t ∧ t ≤ (l.length : Int)) (hf : 1000 ≤ k) : Gives (spec_l01Spoil.f k l t h) l fun u => u.size ≤ 62 := by
  unfold spec_l01Spoil.f
  obtain ⟨u, t2, h2, e2, ht2, u0⟩ := l01Draw_ok (h := h) (k := k) hl ht hf
  obtain ⟨v, t3, h3, e3, ht3, v0⟩ := l01Bad_ok (h := h2) (k := k) hl ht2 u0 hf
  rw [e2, Option.bind_some, e3, Option.bind_some]
  exact ⟨_, _, _, rfl, ht3, v0⟩
theorem l01From_l0 {l : List Int} (hl : l.length ≤ 4096) : ∀ (d k i : Nat) (h : Int), i + d = l.length → d < k → ∃ h', spec_l01From.l0 k l i l 0 h = some (l, 0, h')
  | 0, k, i, h, hi, hk => by
    obtain ⟨k, rfl⟩ := rounds_pos (show 0 < k by omega)
    simp only [spec_l01From.l0]
    rw [if_neg (by omega)]
    exact ⟨_, rfl⟩
  | d + 1, k, i, h, hi, hk => by
    obtain ⟨k, rfl⟩ := rounds_pos (show 0 < k by omega)
    simp only [spec_l01From.l0]
    rw [if_pos (by omega), if_pos (by omega), if_pos (by omega), w64 (x := (i : Int) + 1) (by omega) (by omega), show (i : Int) + 1 = ((i + 1 : Nat) : Int) by omega]
    exact l01From_l0 hl d k (i + 1) _ (by omega) (by omega)
theorem l01From_ok {l : List Int} {k : Nat} (hl : OkC l) (hf : 5000 ≤ k) : ∃ h, spec_l01From.f k l = some (l, 0, h) := by
  have := hl.1
  unfold spec_l01From.f
  exact l01From_l0 hl.1 l.length k 0 _ (by omega) (by omega)
theorem okC_of {l : List Int} (h : l.length ≤ 4096) (hw : ∀ x ∈ l, (Lit.int .u8 x).wf = true) : OkC l := by
  refine ⟨h, fun j hj => ?_⟩
  have := hw (rd l j) (rd_mem (by omega) (by omega))
  have t : IntKind.u8.min ≤ rd l j ∧ rd l j ≤ IntKind.u8.max := by simpa [Lit.wf] using this
  exact t
theorem zero_ok {l : List Int} : 0 ≤ (0 : Int) ∧ (0 : Int) ≤ (l.length : Int) := by omega

theorem spec_l01Is_eq {k : Nat} {w : ByteArray} (hw : w.size ≤ 140737488351232) (hk : w.size + 1 < k) : spec_l01Is.f k w = some (isW w) := by
  have h := find_gen (fun k i => spec_l01Is.l0 k w i) w.size (fun i => !okB (bt w i)) (fun _ => false) (decide ((w.size : Int) ≤ 60)) 0
    (fun k i _ hi => by
      simp only [spec_l01Is.l0]
      rw [if_pos (by omega), if_pos (by omega)]
      by_cases h1 : bt w i < 97
      · rw [if_pos h1]
        have : okB (bt w i) = false := by unfold okB; simp; omega
        simp [this]
      · rw [if_neg h1]
        by_cases h2 : bt w i > 101
        · rw [if_pos h2]
          have : okB (bt w i) = false := by unfold okB; simp; omega
          simp [this]
        · rw [if_neg h2, w64 (by omega) (by omega)]
          have : okB (bt w i) = true := by unfold okB; simp; omega
          simp [this])
    (fun k _ => by simp only [spec_l01Is.l0]; rw [if_neg (by omega)])
    w.size k 0 (by omega) (by omega)
  unfold spec_l01Is.f
  rw [show (0 : Int) = ((0 : Nat) : Int) from rfl, h]
  congr 1
  unfold isW
  cases hf : findE (fun i => !okB (bt w i)) 0 w.size with
  | some j =>
    obtain ⟨_, h1, h2, _⟩ := findE_some hf
    have : (bytesOf w).all okB = false := by
      rw [Bool.eq_false_iff]
      intro h3
      rw [List.all_eq_true] at h3
      have hj : j < (bytesOf w).length := by rw [bo_len]; omega
      have := h3 _ (List.getElem_mem hj)
      rw [bt_nat, getD_eq _ _ hj, this] at h2
      cases h2
    simp [this]
  | none =>
    have : (bytesOf w).all okB = true := by
      rw [List.all_eq_true]
      intro x hx
      obtain ⟨j, hj, rfl⟩ := List.mem_iff_getElem.mp hx
      have := findE_none.mp hf j (Nat.zero_le _) (by rw [bo_len] at hj; omega)
      rw [bt_nat, getD_eq _ _ hj] at this
      simpa using this
    simp only [this, Bool.and_true, decide_eq_decide]
    omega
theorem spec_not_word {w : ByteArray} (h : w.size > 60) : isW w = false := by unfold isW; simp; omega

theorem wordCode_1 (a : ByteArray) : impl_wordCode.f () [a] = some (if isW a then 0 else 1) := by unfold impl_wordCode.f; simp
theorem wordCode_2 (a b : ByteArray) : impl_wordCode.f () [a, b] = some (if isW a && isW b then 0 else 1) := by unfold impl_wordCode.f; simp

theorem filled_spec {k : Nat} {w : ByteArray} (h0 : w.size ≤ 140737488351232) (hk : w.size + 1 < k) (hI : spec_l01Is.f k w = some (isW w)) : spec_l02Given.f k w = some (if isW w then (if w.size = 0 then 5 else 0) else 1) := by
  unfold spec_l02Given.f
  rw [hI]
  cases isW w
  · simp
  · by_cases h : w.size = 0
    · have := (str_empty h).2.2.1; simp [h, this]
    · have := (str_nonempty h).2.2.1; simp [h, this]
theorem filled_impl (w : ByteArray) : impl_filledCode.f w = some (if isW w then (if w.size = 0 then 5 else 0) else 1) := by
  unfold impl_filledCode.f
  rw [wordCode_1]
  cases isW w
  · simp
  · by_cases h : w.size = 0
    · have := (str_empty h).2.2.1; simp [h, this]
    · have := (str_nonempty h).2.2.1; simp [h, this]

theorem spec_l02Periods_eq {k : Nat} {w : ByteArray} (hw : w.size ≤ 1048576) (hk : w.size + 1 < k) : spec_l02Periods.f k w = some (perL w) := by
  have h := gather_gen (fun k acc i => spec_l02Periods.l0 k w acc i) (w.size + 1) (hasP w) (fun p => (p : Int)) (fun l => l) 0
    (fun k i acc _ hi ha => by
      simp only [spec_l02Periods.l0]
      rw [if_pos (by omega), if_pos (by omega), w64 (x := (w.size : Int) - i) (by omega) (by omega), if_pos (by omega), if_pos (by omega), w64 (x := (i : Int) + 1) (by omega) (by omega)]
      rw [show ((w.size : Int) - i).toNat = w.size - i by omega, Int.toNat_natCast]
      by_cases h1 : w.extract i w.size = w.extract 0 (w.size - i)
      · have : hasP w i = true := by unfold hasP; simpa using h1
        rw [if_pos (toList_iff.mpr h1), if_pos (by omega), this]; rfl
      · have : hasP w i = false := by unfold hasP; simpa using h1
        rw [if_neg (fun e => h1 (toList_iff.mp e)), this]; rfl)
    (fun k acc _ => by simp only [spec_l02Periods.l0]; rw [if_neg (by omega)])
    w.size k 1 [] (by omega) (by omega) (by simp)
  unfold spec_l02Periods.f
  rw [show (1 : Int) = ((1 : Nat) : Int) from rfl, h]
  rfl

theorem impl_hasPeriod_eq {w : ByteArray} {p : Int} (h0 : 0 ≤ p) (h1 : p ≤ w.size) (hw : w.size ≤ 1048576) : impl_hasPeriod.f w p = some (hasP w p.toNat) := by
  unfold impl_hasPeriod.f
  rw [if_pos h0, if_pos h1, w64 (by omega) (by omega), if_pos (by omega), if_pos (by omega), toList_beq]
  unfold hasP
  rw [show ((w.size : Int) - p).toNat = w.size - p.toNat by omega]

theorem impl_period_eq {k : Nat} {w : ByteArray} (hw : w.size ≤ 1048576) (h0 : 0 < w.size) (hk : w.size < k) : impl_period.f k w = some (leastP w : Int) := by
  have h := until_gen (fun k i => impl_period.l0 k w i) w.size (hasP w) (fun j => (j : Int)) 0
    (fun k i _ hi => by
      simp only [impl_period.l0]
      rw [impl_hasPeriod_eq (by omega) (by omega) hw, w64 (by omega) (by omega)]
      rfl)
    (hasP_all w) (w.size - 1) k 1 (by omega) (by omega)
  unfold impl_period.f
  rw [show (1 : Int) = ((1 : Nat) : Int) from rfl, h]
  rfl

def rootW (w : ByteArray) : ByteArray := if w.size % leastP w = 0 then w.extract 0 (leastP w) else w
theorem spec_l02Root_eq {k : Nat} {w : ByteArray} (hw : w.size ≤ 1048576) (h0 : 0 < w.size) (hk : w.size + 1 < k) : spec_l02Root.f k w = some (rootW w) := by
  unfold spec_l02Root.f
  obtain ⟨a1, a2, _, _⟩ := leastP_spec h0
  have := perL_pos h0
  rw [spec_l02Periods_eq hw hk]
  simp only [Option.bind_some]
  rw [if_pos (by omega), perL_rd h0, if_neg (by omega)]
  unfold rootW
  by_cases h : w.size % leastP w = 0
  · rw [if_pos h, if_pos (by omega), if_pos (by omega), if_pos (by omega)]; rfl
  · rw [if_neg h, if_neg (by omega)]
theorem impl_root_eq {k : Nat} {w : ByteArray} (hw : w.size ≤ 1048576) (h0 : 0 < w.size) (hk : w.size + 1 < k) : impl_root.f k w = some (rootW w) := by
  unfold impl_root.f
  obtain ⟨a1, a2, _, _⟩ := leastP_spec h0
  rw [impl_period_eq hw h0 (by omega)]
  simp only [Option.bind_some]
  rw [if_neg (by omega)]
  unfold rootW
  by_cases h : w.size % leastP w = 0
  · rw [if_pos h, if_pos (by omega), if_pos (by omega), if_pos (by omega)]; rfl
  · rw [if_neg h, if_neg (by omega)]
theorem rootW_size {w : ByteArray} (h0 : 0 < w.size) : 0 < (rootW w).size ∧ (rootW w).size ≤ w.size := by
  obtain ⟨a1, a2, _, _⟩ := leastP_spec h0
  unfold rootW
  split
  · rw [ext_size]; omega
  · omega

theorem spec_RootOf_eq {k : Nat} {w : ByteArray} (h0 : w.size ≤ 1048576) (hk : w.size + 1 < k) : spec_RootOf.f k w = some (if isW w then (if w.size = 0 then (⟨#[]⟩, 0, 5) else (rootW w, (w.size : Int) / (rootW w).size, 0)) else (⟨#[]⟩, 0, 1)) := by
  unfold spec_RootOf.f
  rw [filled_spec (by omega) hk (spec_l01Is_eq (by omega) hk)]
  cases isW w
  · simp
  · by_cases h : w.size = 0
    · simp [h]
    · obtain ⟨b1, b2⟩ := rootW_size (show 0 < w.size by omega)
      have hd := div_small (a := w.size) (b := (rootW w).size) h0 b1
      simp only [h, if_true, if_false, Option.bind_some, spec_l02Root_eq h0 (show 0 < w.size by omega) hk]
      rw [if_neg (by omega), w64 (by omega) (by omega)]
theorem impl_RootOf_eq {k : Nat} {w : ByteArray} (h0 : w.size ≤ 1048576) (hk : w.size + 1 < k) : impl_RootOf.f k w = some (if isW w then (if w.size = 0 then (⟨#[]⟩, 0, 5) else (rootW w, (w.size : Int) / (rootW w).size, 0)) else (⟨#[]⟩, 0, 1)) := by
  unfold impl_RootOf.f impl_size.f
  rw [filled_impl]
  cases isW w
  · simp
  · by_cases h : w.size = 0
    · simp [h]
    · obtain ⟨b1, b2⟩ := rootW_size (show 0 < w.size by omega)
      have hd := div_small (a := w.size) (b := (rootW w).size) h0 b1
      simp only [h, if_true, if_false, Option.bind_some, impl_root_eq h0 (show 0 < w.size by omega) hk]
      rw [if_neg (by omega), Int.tdiv_eq_ediv_of_nonneg (by omega), w64 (by omega) (by omega)]

theorem spec_PeriodsOf_eq {k : Nat} {w : ByteArray} (h0 : w.size ≤ 1048576) (hk : w.size + 1 < k) : spec_PeriodsOf.f k w = some (if isW w then (perL w, 0) else ([], 1)) := by
  unfold spec_PeriodsOf.f
  rw [spec_l01Is_eq (by omega) hk, spec_l02Periods_eq h0 hk]
  cases isW w <;> simp

theorem impl_periods_eq {k : Nat} {w : ByteArray} (hw : w.size ≤ 1048576) (hk : w.size + 1 < k) : impl_periods.f k w = some (perL w) := by
  have h := gather_gen (fun k acc i => impl_periods.l0 k w acc i) (w.size + 1) (hasP w) (fun p => (p : Int)) (fun l => l) 0
    (fun k i acc _ hi ha => by
      simp only [impl_periods.l0]
      rw [if_pos (by omega), impl_hasPeriod_eq (by omega) (by omega) hw, w64 (by omega) (by omega)]
      rw [Int.toNat_natCast]
      cases hasP w i
      · simp
      · simp; omega)
    (fun k acc _ => by simp only [impl_periods.l0]; rw [if_neg (by omega)])
    w.size k 1 [] (by omega) (by omega) (by simp)
  unfold impl_periods.f
  rw [show (1 : Int) = ((1 : Nat) : Int) from rfl, h]
  rfl

theorem impl_PeriodsOf_eq {k : Nat} {w : ByteArray} (h0 : w.size ≤ 1048576) (hk : w.size + 1 < k) : impl_PeriodsOf.f k w = some (if isW w then (perL w, 0) else ([], 1)) := by
  unfold impl_PeriodsOf.f
  rw [wordCode_1, impl_periods_eq h0 hk]
  cases isW w <;> simp

def bordL (w : ByteArray) : List Int := ((perL w).map fun p => (w.size : Int) - p).reverse
theorem bordL_len (w : ByteArray) : (bordL w).length ≤ w.size := by
  have := perL_len w
  unfold bordL; simpa using this
theorem perL_mem (w : ByteArray) : ∀ x ∈ perL w, 0 ≤ x ∧ x ≤ w.size := fun x hx => by
  obtain ⟨m, h1, h2, _, rfl⟩ := gath_mem.mp hx
  omega
theorem bord_cur {w : ByteArray} (hw : w.size ≤ 60) : (bordCur w.size (perL w) (perL w).length).reverse = bordL w := by
  unfold bordCur bordL
  rw [List.take_length, List.drop_length, List.append_nil]
  congr 1
  apply List.map_congr_left
  intro x hx
  have := perL_mem w x hx
  rw [w64 (by omega) (by omega)]

theorem spec_Borders_l0 (w : ByteArray) (hw : w.size ≤ 60) (l : List Int) (hl : ∀ x ∈ l, 0 ≤ x ∧ x ≤ w.size) : ∀ (n k : Nat) (acc : List Int), n ≤ l.length → n < k → acc.length + n ≤ 1000000 →
    spec_BordersOf.l0 k w l acc ((n : Int) - 1) = some (acc ++ ((l.take n).map fun p => (w.size : Int) - p).reverse, 0)
  | 0, k, acc, hn, hk, ha => by
    obtain ⟨k, rfl⟩ := rounds_pos (show 0 < k by omega)
    simp only [spec_BordersOf.l0]
    rw [if_neg (by omega)]
    simp
  | n + 1, k, acc, hn, hk, ha => by
    obtain ⟨k, rfl⟩ := rounds_pos (show 0 < k by omega)
    simp only [spec_BordersOf.l0]
    have e1 : ((n + 1 : Nat) : Int) - 1 = (n : Int) := by omega
    have hr : rd l n = l[n] := by unfold rd; simp [List.getD_eq_getElem?_getD, show n < l.length by omega]
    have hm := hl l[n] (List.getElem_mem _)
    rw [e1, if_pos (by omega), if_pos (by omega), if_pos (by omega), if_pos (by omega), hr, w64 (by omega) (by omega), w64 (by omega) (by omega)]
    rw [spec_Borders_l0 w hw l hl n k _ (by omega) (by omega) (by simp; omega)]
    rw [List.take_succ_eq_append_getElem (show n < l.length by omega), List.map_append, List.reverse_append, List.append_assoc]
    rfl

def bordR (w : ByteArray) : List Int × Int := if isW w then (bordL w, 0) else ([], 1)
theorem impl_BordersOf_eq {m : Nat} {a0 : ByteArray} (h0 : a0.size ≤ 1048576) (hm : 10000000 ≤ m) : impl_BordersOf.f m a0 = some (bordR a0) := by
  unfold bordR impl_BordersOf.f impl_PeriodsOf.f
  rw [wordCode_1, impl_periods_eq (by omega) (by omega)]
  cases hw : isW a0
  · simp
  · have hz := isW_size hw
    have := perL_len a0
    simp only [if_true, Option.bind_some]
    rw [if_pos (by omega), bord_cur hz]

theorem spec_BordersOf_eq {m : Nat} {a0 : ByteArray} (h0 : a0.size ≤ 1048576) (hm : 10000000 ≤ m) : spec_BordersOf.f m a0 = some (bordR a0) := by
  unfold bordR spec_BordersOf.f
  rw [spec_l01Is_eq (by omega) (by omega)]
  cases hw : isW a0
  · simp
  · have hz := isW_size hw
    have := perL_len a0
    rw [Option.bind_some, if_pos rfl, spec_l02Periods_eq (by omega) (by omega), Option.bind_some, w64 (by omega) (by omega), spec_Borders_l0 a0 (by omega) (perL a0) (perL_mem a0) (perL a0).length m [] (Nat.le_refl _) (by omega) (by simp; omega)]
    rw [List.take_length]; rfl

theorem spec_l02Gcd_l0 : ∀ (b : Nat) (k a : Nat), b < k → spec_l02Gcd.l0 k (a : Int) (b : Int) = some ((Nat.gcd a b : Nat) : Int)
  | b, k, a, hk => by
    obtain ⟨k, rfl⟩ := rounds_pos (show 0 < k by omega)
    simp only [spec_l02Gcd.l0]
    rcases Nat.eq_zero_or_pos b with h0 | h0
    · subst h0
      rw [if_neg (by omega)]
      simp
    · rw [if_pos (by omega), if_neg (by omega), gcd_step a b]
      have hm := Nat.mod_lt a h0
      rw [show Int.tmod (a : Int) (b : Int) = ((a % b : Nat) : Int) from rfl]
      exact spec_l02Gcd_l0 (a % b) k b (by omega)
theorem spec_l02Gcd_eq {k : Nat} {a b : Int} (ha : 0 ≤ a) (hb : 0 ≤ b) (hk : b < k) : spec_l02Gcd.f k a b = some (gcdI a b) := by
  obtain ⟨a, rfl⟩ := Int.eq_ofNat_of_zero_le ha
  obtain ⟨b, rfl⟩ := Int.eq_ofNat_of_zero_le hb
  unfold spec_l02Gcd.f gcdI
  exact spec_l02Gcd_l0 b k a (by omega)

theorem impl_divisor_l0 : ∀ (b : Nat) (k a : Nat), b < k → impl_divisor.l0 k (a : Int) (b : Int) = some ((Nat.gcd a b : Nat) : Int)
  | b, k, a, hk => by
    obtain ⟨k, rfl⟩ := rounds_pos (show 0 < k by omega)
    simp only [impl_divisor.l0]
    rcases Nat.eq_zero_or_pos b with h0 | h0
    · subst h0
      rw [if_pos (by simp)]
      simp
    · rw [if_neg (by omega), gcd_step a b]
      have hm := Nat.mod_lt a h0
      rw [show Int.tmod (a : Int) (b : Int) = ((a % b : Nat) : Int) from rfl]
      exact impl_divisor_l0 (a % b) k b (by omega)
theorem impl_divisor_eq {k : Nat} {a b : Int} (ha : 0 ≤ a) (hb : 0 ≤ b) (hk : b < k) : impl_divisor.f k a b = some (gcdI a b) := by
  obtain ⟨a, rfl⟩ := Int.eq_ofNat_of_zero_le ha
  obtain ⟨b, rfl⟩ := Int.eq_ofNat_of_zero_le hb
  unfold impl_divisor.f gcdI
  exact impl_divisor_l0 b k a (by omega)

def lowN (a b : Int) : Int × Int := (wrap64 (Int.tdiv a (gcdI a b)), wrap64 (Int.tdiv b (gcdI a b)))
theorem gcdI_pos {a b : Int} (h : 0 < a) : 0 < gcdI a b := by
  unfold gcdI
  have := Nat.gcd_pos_of_pos_left b.toNat (show 0 < a.toNat by omega)
  omega
theorem impl_lowest_eq {k : Nat} {a b : Int} (ha : 0 < a) (hb : 0 ≤ b) (hk : b < k) : impl_lowest.f k a b = some (lowN a b) := by
  unfold impl_lowest.f
  rw [impl_divisor_eq (by omega) hb hk]
  simp only [Option.bind_some]
  have := gcdI_pos (b := b) ha
  rw [if_neg (by omega)]; rfl

def expoW (w : ByteArray) : Int × Int × Int := if isW w then (if w.size = 0 then (0, 0, 5) else ((lowN w.size (leastP w)).1, (lowN w.size (leastP w)).2, 0)) else (0, 0, 1)
theorem spec_ExponentOf_eq {k : Nat} {w : ByteArray} (h0 : w.size ≤ 1048576) (hk : 1048600 ≤ k) : spec_ExponentOf.f k w = some (expoW w) := by
  unfold spec_ExponentOf.f expoW
  rw [filled_spec (by omega) (by omega) (spec_l01Is_eq (by omega) (by omega))]
  cases hw : isW w
  · simp
  · by_cases h : w.size = 0
    · simp [h]
    · obtain ⟨a1, a2, _, _⟩ := leastP_spec (w := w) (by omega)
      have := perL_pos (w := w) (by omega)
      have hg := gcdI_pos (a := w.size) (b := (leastP w : Int)) (by omega)
      simp only [h, if_true, if_false, Option.bind_some, spec_l02Periods_eq h0 (show w.size + 1 < k by omega)]
      rw [if_pos (by omega), perL_rd (by omega), spec_l02Gcd_eq (by omega) (by omega) (by omega)]
      simp only [Option.bind_some]
      rw [if_neg (by omega)]; rfl
theorem impl_ExponentOf_eq {k : Nat} {w : ByteArray} (h0 : w.size ≤ 1048576) (hk : 1048600 ≤ k) : impl_ExponentOf.f k w = some (expoW w) := by
  unfold impl_ExponentOf.f impl_size.f expoW
  rw [filled_impl]
  cases hw : isW w
  · simp
  · by_cases h : w.size = 0
    · simp [h]
    · obtain ⟨a1, a2, _, _⟩ := leastP_spec (w := w) (by omega)
      simp only [h, if_true, if_false, Option.bind_some, impl_period_eq h0 (show 0 < w.size by omega) (show w.size < k by omega)]
      rw [impl_lowest_eq (by omega) (by omega) (by omega)]; rfl

def turnW (w : ByteArray) (k : Nat) : ByteArray := w.extract k w.size ++ w.extract 0 k
def lstG (w : ByteArray) (k : Nat) (s : ByteArray × Nat) : ByteArray × Nat := if lessI (bytesOf (turnW w k)) (bytesOf s.1) = true then (turnW w k, k) else s
def lstW (w : ByteArray) : ByteArray × Nat := loopS (lstG w) 1 (w.size - 1) (w, 0)
theorem turnW_0 (w : ByteArray) : turnW w 0 = w := by
  apply bo_inj
  unfold turnW
  rw [bo_append, bo_extract, bo_extract, ← bo_len, List.take_length]
  simp
theorem spec_l01Turned_eq {w : ByteArray} {k : Int} (h0 : 0 ≤ k) (h1 : k ≤ w.size) (hs : w.size ≤ 1048576) : spec_l01Turned.f w k = some (turnW w k.toNat) := by
  unfold spec_l01Turned.f
  rw [if_pos h0, if_pos h1, if_pos (by rw [ext_size, ext_size]; omega)]; rfl
theorem spec_l02Least_eq {k : Nat} {w : ByteArray} (hw : w.size ≤ 1048576) (hk : w.size + 1 < k) : spec_l02Least.f k w = some ((lstW w).1, ((lstW w).2 : Int)) := by
  unfold spec_l02Least.f
  by_cases hz : w.size = 0
  · obtain ⟨k, rfl⟩ := rounds_pos (show 0 < k by omega)
    simp only [spec_l02Least.l0]
    rw [if_neg (by omega)]
    unfold lstW
    rw [hz]; rfl
  exact fold_gen (fun k (s : ByteArray × Nat) i => spec_l02Least.l0 k w s.1 s.2 i) w.size (lstG w) (fun s => (s.1, (s.2 : Int))) (fun _ _ => True) 0
    (fun k i s _ hi _ => by
      simp only [spec_l02Least.l0]
      rw [if_pos (by omega), spec_l01Turned_eq (by omega) (by omega) hw, Int.toNat_natCast, w64 (by omega) (by omega)]
      simp only [Option.bind_some]
      rw [less_bo]
      unfold lstG
      by_cases h : lessI (bytesOf (turnW w i)) (bytesOf s.1) = true
      · rw [if_pos h, if_pos h]; rfl
      · rw [if_neg h, if_neg h]; rfl)
    (fun _ _ _ _ => trivial)
    (fun k s _ _ => by simp only [spec_l02Least.l0]; rw [if_neg (by omega)])
    (w.size - 1) k 1 (w, 0) (by omega) (by omega) trivial
theorem impl_leastTurned_eq {k : Nat} {w : ByteArray} (hw : w.size ≤ 1048576) (hk : w.size + 1 < k) : impl_leastTurned.f k w = some ((lstW w).1, ((lstW w).2 : Int)) := by
  unfold impl_leastTurned.f
  have h := fold_gen (fun k (s : ByteArray × Nat) i => impl_leastTurned.l0 k w s.1 s.2 w.size i) w.size (lstG w) (fun s => (s.1, (s.2 : Int))) (fun _ _ => True) 0
    (fun k i s _ hi _ => by
      simp only [impl_leastTurned.l0]
      rw [if_pos (by omega), if_pos (by omega), if_pos (by omega), Int.toNat_natCast, if_pos (by rw [ext_size, ext_size]; omega), w64 (by omega) (by omega), less_bo]
      unfold lstG
      by_cases h : lessI (bytesOf (turnW w i)) (bytesOf s.1) = true
      · rw [if_pos h]; unfold turnW at h ⊢; rw [if_pos h]; rfl
      · rw [if_neg h]; unfold turnW at h; rw [if_neg h]; rfl)
    (fun _ _ _ _ => trivial)
    (fun k s _ _ => by simp only [impl_leastTurned.l0]; rw [if_neg (by omega)])
    w.size k 0 (w, 0) (by omega) (by omega) trivial
  have e : loopS (lstG w) 0 w.size (w, 0) = lstW w := by
    unfold lstW
    by_cases hz : w.size = 0
    · rw [hz]; rfl
    · rw [show w.size = (w.size - 1) + 1 by omega]
      simp only [loopS, Nat.add_sub_cancel]
      have : lstG w 0 (w, 0) = (w, 0) := by
        unfold lstG
        rw [turnW_0, lessI_irrefl, if_neg (by simp)]
      rw [this]
  rw [e] at h
  exact h

def leastR (a0 : ByteArray) : ByteArray × Int × Int := if isW a0 then ((lstW a0).1, ((lstW a0).2 : Int), 0) else (⟨#[]⟩, 0, 1)
theorem spec_LeastTurned_eq {k : Nat} {a0 : ByteArray} (h0 : a0.size ≤ 1048576) (hk : 1048600 ≤ k) : spec_LeastTurned.f k a0 = some (leastR a0) := by
  unfold spec_LeastTurned.f leastR
  rw [spec_l01Is_eq (by omega) (by omega), spec_l02Least_eq (by omega) (by omega)]
  cases isW a0 <;> simp
theorem impl_LeastTurned_eq {k : Nat} {a0 : ByteArray} (h0 : a0.size ≤ 1048576) (hk : 1048600 ≤ k) : impl_LeastTurned.f k a0 = some (leastR a0) := by
  unfold impl_LeastTurned.f leastR
  rw [wordCode_1, impl_leastTurned_eq (by omega) (by omega)]
  cases isW a0 <;> simp

def cntTR (a0 : ByteArray) : Int × Int := if isW a0 then (if a0.size = 0 then (1, 0) else (((rootW a0).size : Int), 0)) else (0, 1)
theorem spec_CountTurned_eq {k : Nat} {a0 : ByteArray} (h0 : a0.size ≤ 1048576) (hk : 1048600 ≤ k) : spec_CountTurned.f k a0 = some (cntTR a0) := by
  unfold spec_CountTurned.f cntTR
  rw [spec_l01Is_eq (by omega) (by omega)]
  cases isW a0
  · simp
  · by_cases h : a0.size = 0
    · simp [h, (str_empty h).2.2.1]
    · simp [h, (str_nonempty h).2.2.1, spec_l02Root_eq (show a0.size ≤ 1048576 by omega) (show 0 < a0.size by omega) (show a0.size + 1 < k by omega)]
theorem impl_CountTurned_eq {k : Nat} {a0 : ByteArray} (h0 : a0.size ≤ 1048576) (hk : 1048600 ≤ k) : impl_CountTurned.f k a0 = some (cntTR a0) := by
  unfold impl_CountTurned.f impl_size.f cntTR
  rw [wordCode_1]
  cases isW a0
  · simp
  · by_cases h : a0.size = 0
    · simp [h, (str_empty h).2.2.1]
    · simp [h, (str_nonempty h).2.2.1, impl_root_eq (show a0.size ≤ 1048576 by omega) (show 0 < a0.size by omega) (show a0.size + 1 < k by omega)]

/-- a power of a word -/
def repW (w : ByteArray) : Nat → ByteArray
  | 0 => ⟨#[]⟩
  | n + 1 => w ++ repW w n
theorem ba_assoc (a b c : ByteArray) : a ++ b ++ c = a ++ (b ++ c) := bo_inj (by rw [bo_append, bo_append, bo_append, bo_append, List.append_assoc])
theorem ba_nil (a : ByteArray) : a ++ (⟨#[]⟩ : ByteArray) = a := bo_inj (by rw [bo_append, bo_empty, List.append_nil])
theorem nil_ba (a : ByteArray) : (⟨#[]⟩ : ByteArray) ++ a = a := bo_inj (by rw [bo_append, bo_empty, List.nil_append])
theorem repW_size (w : ByteArray) : ∀ n, (repW w n).size = n * w.size
  | 0 => by rw [Nat.zero_mul]; rfl
  | n + 1 => by
    unfold repW
    rw [← bo_len, bo_append, List.length_append, bo_len, bo_len, repW_size w n, Nat.succ_mul, Nat.add_comm]
theorem repW_nil : ∀ n, repW ⟨#[]⟩ n = ⟨#[]⟩
  | 0 => rfl
  | n + 1 => by unfold repW; rw [repW_nil n]; rfl

theorem repW_eq (w : ByteArray) : ∀ n, (⟨(Lib.repeatL w.data.toList n).toArray⟩ : ByteArray) = repW w n
  | 0 => rfl
  | n + 1 => by
    unfold repW
    rw [← repW_eq w n]
    apply ba_ext
    simp [Lib.repeatL, List.replicate_succ]
def powR (a0 : ByteArray) (a1 : Int) : ByteArray × Int := if isW a0 = true then (if inR a1 0 1000 = true then (if a0.size * a1.toNat > 60 then (⟨#[]⟩, 3) else (repW a0 a1.toNat, 0)) else (⟨#[]⟩, 2)) else (⟨#[]⟩, 1)
theorem impl_PowerOf_eq (a0 : ByteArray) (a1 : Int) : impl_PowerOf.f a0 a1 = some (powR a0 a1) := by
  unfold impl_PowerOf.f powR
  rw [repW_eq]

theorem isW_ext {w : ByteArray} {i j : Nat} (h : isW w = true) : isW (w.extract i j) = true := by
  rw [isW_iff] at h ⊢
  refine ⟨by rw [ext_size]; omega, fun x hx => h.2 x ?_⟩
  rw [bo_extract] at hx
  exact List.mem_of_mem_take (List.mem_of_mem_drop hx)
theorem per_rep {w : ByteArray} {p : Nat} (hp : hasP w p = true) : ∀ n, n * p ≤ w.size → repW (w.extract 0 p) n = w.extract 0 (n * p)
  | 0, _ => by rw [Nat.zero_mul]; apply bo_inj; rw [bo_extract]; rfl
  | n + 1, h => by
    rw [Nat.succ_mul] at h ⊢
    unfold repW
    rw [per_rep hp n (by omega)]
    have e : w.extract p w.size = w.extract 0 (w.size - p) := of_decide_eq_true hp
    have e := congrArg bytesOf e
    apply bo_inj
    rw [bo_extract, bo_extract, ← bo_len, List.take_length, List.drop_zero] at e
    rw [bo_append, bo_extract, bo_extract, bo_extract, List.drop_zero, List.drop_zero, List.drop_zero, Nat.add_comm (n * p) p, List.take_add, e, List.take_take, bo_len, Nat.min_eq_left (by omega)]
theorem ext_all (w : ByteArray) : w.extract 0 w.size = w := bo_inj (by rw [bo_extract, List.drop_zero, ← bo_len, List.take_length])
theorem root_rep {w : ByteArray} (h0 : 0 < w.size) : repW (rootW w) (w.size / (rootW w).size) = w ∧ (w.size / (rootW w).size) * (rootW w).size = w.size := by
  obtain ⟨p1, p2, p3, p4⟩ := leastP_spec h0
  unfold rootW
  by_cases c : w.size % leastP w = 0
  · have hz : (w.extract 0 (leastP w)).size = leastP w := by rw [ext_size]; omega
    have hd : w.size / leastP w * leastP w = w.size := Nat.div_mul_cancel (Nat.dvd_of_mod_eq_zero c)
    rw [if_pos c, hz]
    refine ⟨?_, hd⟩
    rw [per_rep p3 _ (by omega), hd, ext_all]
  · rw [if_neg c, Nat.div_self h0]
    exact ⟨by unfold repW repW; exact ba_nil w, by omega⟩
theorem low_mul {a b : Nat} (ha : 0 < a) (ha2 : a ≤ 1000) (hb : b ≤ 1000) : wrap64 ((lowN a b).1 * b) = wrap64 ((lowN a b).2 * (a : Int)) := by
  have hg : 0 < Nat.gcd a b := Nat.gcd_pos_of_pos_left _ ha
  obtain ⟨x, hx⟩ := Nat.gcd_dvd_left a b
  obtain ⟨y, hy⟩ := Nat.gcd_dvd_right a b
  have e1 : gcdI (a : Int) (b : Int) = ((Nat.gcd a b : Nat) : Int) := rfl
  have q1 : a / Nat.gcd a b = x := by
    have : Nat.gcd a b * x / Nat.gcd a b = x := Nat.mul_div_cancel_left x hg
    rw [← hx] at this; exact this
  have q2 : b / Nat.gcd a b = y := by
    have : Nat.gcd a b * y / Nat.gcd a b = y := Nat.mul_div_cancel_left y hg
    rw [← hy] at this; exact this
  have t1 : Int.tdiv (a : Int) ((Nat.gcd a b : Nat) : Int) = (x : Int) := by rw [← q1]; rfl
  have t2 : Int.tdiv (b : Int) ((Nat.gcd a b : Nat) : Int) = (y : Int) := by rw [← q2]; rfl
  have b1 : x ≤ a := by rw [← q1]; exact Nat.div_le_self _ _
  have b2 : y ≤ b := by rw [← q2]; exact Nat.div_le_self _ _
  unfold lowN
  rw [e1, t1, t2]
  dsimp only
  have b3 : (x : Int) ≤ 1000 := by have := Nat.le_trans b1 ha2; clear hx hy q1 q2; omega
  have b4 : (y : Int) ≤ 1000 := by have := Nat.le_trans b2 hb; clear hx hy q1 q2; omega
  rw [w64 (x := (x : Int)) (by omega) (by omega), w64 (x := (y : Int)) (by omega) (by omega)]
  congr 1
  have : x * b = y * a := by
    calc x * b = x * (Nat.gcd a b * y) := by rw [← hy]
      _ = y * (Nat.gcd a b * x) := by rw [← Nat.mul_assoc, ← Nat.mul_assoc, Nat.mul_comm x, Nat.mul_comm y, Nat.mul_assoc, Nat.mul_assoc, Nat.mul_comm x y]
      _ = y * a := by rw [← hx]
  exact_mod_cast this
theorem lst_inv {w : ByteArray} (h0 : 0 < w.size) : ∀ (c i : Nat) (s : ByteArray × Nat), i + c ≤ w.size → s.1 = turnW w s.2 ∧ s.2 < w.size → (loopS (lstG w) i c s).1 = turnW w (loopS (lstG w) i c s).2 ∧ (loopS (lstG w) i c s).2 < w.size
  | 0, i, s, _, h => h
  | c + 1, i, s, hi, h => by
    simp only [loopS]
    refine lst_inv h0 c (i + 1) _ (by omega) ?_
    unfold lstG
    split
    · exact ⟨rfl, by show i < w.size; omega⟩
    · exact h
theorem lstW_turn {w : ByteArray} (h0 : 0 < w.size) : (lstW w).1 = turnW w (lstW w).2 ∧ (lstW w).2 < w.size :=
  lst_inv h0 (w.size - 1) 1 (w, 0) (by omega) ⟨(turnW_0 w).symm, h0⟩
theorem lstW_zero {w : ByteArray} (h0 : w.size = 0) : lstW w = (w, 0) := by unfold lstW; rw [h0]; rfl

theorem bord_sum {w : ByteArray} {j : Nat} (hj : j < (perL w).length) : (bordL w).length = (perL w).length ∧ rd (bordL w) ((bordL w).length - 1 - j : Nat) = (w.size : Int) - rd (perL w) j := by
  have hl : (bordL w).length = (perL w).length := by unfold bordL; rw [List.length_reverse, List.length_map]
  refine ⟨hl, ?_⟩
  rw [hl]
  unfold rd
  rw [Int.toNat_natCast, Int.toNat_natCast]
  unfold bordL
  rw [List.getD_eq_getElem?_getD, List.getD_eq_getElem?_getD, List.getElem?_reverse (by rw [List.length_map]; omega), List.length_map, List.getElem?_map, show (perL w).length - 1 - ((perL w).length - 1 - j) = j by omega, List.getElem?_eq_getElem hj]
  rfl

theorem likeInts_l0 {a : List Int} (ha : a.length ≤ 1048576) : ∀ (d i k : Nat), i + d = a.length → d < k → laws_likeInts.l0 k a a i = some true
  | 0, i, k, hi, hk => by
    obtain ⟨k, rfl⟩ := rounds_pos (show 0 < k by omega)
    simp only [laws_likeInts.l0]
    rw [if_neg (by omega)]
  | d + 1, i, k, hi, hk => by
    obtain ⟨k, rfl⟩ := rounds_pos (show 0 < k by omega)
    simp only [laws_likeInts.l0]
    rw [if_pos (by omega), if_pos (by omega), if_pos (by omega), if_pos trivial, w64 (by omega) (by omega), show (i : Int) + 1 = ((i + 1 : Nat) : Int) by omega]
    exact likeInts_l0 ha d (i + 1) k (by omega) (by omega)
theorem likeInts_eq {k : Nat} {a : List Int} (ha : a.length ≤ 1048576) (hk : a.length < k) : laws_likeInts.f k a a = some true := by
  unfold laws_likeInts.f
  rw [if_pos rfl]
  exact likeInts_l0 ha a.length 0 k (by omega) (by omega)

theorem drawRoot_l0 {l : List Int} (hl : OkC l) (u : ByteArray) (hu : u.size ≤ 6) {t h : Int} (ht : 0 ≤ t ∧ t ≤ (l.length : Int)) : ∀ (d k : Nat) (w : ByteArray), d ≤ 6 → d + 2000 < k → w.size + d * 6 ≤ 36 → ∃ r, spec_DrawRootOf.l0 k u w (d : Int) l t h = some r ∧ r.size ≤ 62
  | 0, k, w, hd, hk, hw => by
    obtain ⟨k, rfl⟩ := rounds_pos (show 0 < k by omega)
    simp only [spec_DrawRootOf.l0]
    obtain ⟨r, t1, h1, e1, ht1, r0⟩ := l01Bad_ok (h := h) (k := k) (w := w) hl ht (by omega) (by omega)
    rw [if_neg (by omega), e1, Option.bind_some]
    exact ⟨_, rfl, r0⟩
  | d + 1, k, w, hd, hk, hw => by
    obtain ⟨k, rfl⟩ := rounds_pos (show 0 < k by omega)
    simp only [spec_DrawRootOf.l0]
    rw [if_pos (by omega), if_pos (by omega), w64 (by omega) (by omega), show ((d + 1 : Nat) : Int) - 1 = (d : Int) by omega]
    exact drawRoot_l0 hl u hu ht d k _ (by omega) (by omega) (by rw [ByteArray.size_append]; omega)
theorem drawRoot_ok {l : List Int} {k : Nat} (hl : OkC l) (hk : 10000 ≤ k) : ∃ a, spec_DrawRootOf.f k l = some a ∧ a.size ≤ 62 := by
  obtain ⟨h, e⟩ := l01From_ok (k := k) hl (by omega)
  unfold spec_DrawRootOf.f
  rw [e, Option.bind_some]
  dsimp only
  obtain ⟨r, t1, h1, e1, ht1, r0, r1⟩ := l01Next_ok (t := 0) (h := h) hl zero_ok (n := 2) (by omega)
  rw [e1, Option.bind_some]
  dsimp only
  by_cases c : r = 0
  · rw [if_pos c]
    obtain ⟨j, t2, h2, e2, ht2, j0, j1⟩ := l01Next_ok (h := h1) hl ht1 (n := 6) (by omega)
    obtain ⟨x, t3, h3, e3, ht3, x0⟩ := l01Pick_ok (h := h2) [2, 2, 3] (P := fun r => 1 ≤ r ∧ r ≤ 61) hl ht2 (by decide) (by decide)
    obtain ⟨u, t4, h4, e4, ht4, u0⟩ := l01DrawOf_ok (h := h3) (k := k) hl ht3 (n := 1 + j) (kk := x) (by omega) (by omega) (by omega)
    obtain ⟨m, t5, h5, e5, ht5, m0, m1⟩ := l01Next_ok (h := h4) hl ht4 (n := 6) (by omega)
    rw [e2, Option.bind_some, e3, Option.bind_some, w64 (by omega) (by omega), e4, Option.bind_some, e5, Option.bind_some, w64 (by omega) (by omega)]
    have := drawRoot_l0 hl u (by omega) (h := h5) ht5 (1 + m).toNat k ⟨#[]⟩ (by omega) (by omega) (by show 0 + _ ≤ _; omega)
    rw [show (((1 + m).toNat : Nat) : Int) = 1 + m by omega] at this
    exact this
  · rw [if_neg c]
    obtain ⟨a, t2, h2, e2, ht2, a0⟩ := l01Spoil_ok (h := h1) (k := k) hl ht1 (by omega)
    rw [e2, Option.bind_some]
    exact ⟨_, rfl, a0⟩
theorem FnPeriods : laws_FnPeriods.Pure := by
  intro l0 _ _ hw
  by_cases hb : l0.length > 4096
  · exact Or.inl hb
  refine Or.inr ⟨by omega, ?_⟩
  have hl := okC_of (by omega) hw
  obtain ⟨k, hk⟩ : ∃ k : Nat, 20000000 ≤ k := ⟨_, Nat.le_refl _⟩
  obtain ⟨a, d1, az⟩ := drawRoot_ok (k := k) hl (by omega)
  have hpl := perL_len a
  have hbl := bordL_len a
  have q1 := spec_RootOf_eq (k := k) (w := a) (by omega) (by omega)
  have q2 := impl_RootOf_eq (k := k) (w := a) (by omega) (by omega)
  have q3 := spec_PeriodsOf_eq (k := k) (w := a) (by omega) (by omega)
  have q4 := impl_PeriodsOf_eq (k := k) (w := a) (by omega) (by omega)
  have q5 := spec_BordersOf_eq (m := k) (a0 := a) (by omega) (by omega)
  have q6 := impl_BordersOf_eq (m := k) (a0 := a) (by omega) (by omega)
  have q7 := spec_ExponentOf_eq (k := k) (w := a) (by omega) (by omega)
  have q8 := impl_ExponentOf_eq (k := k) (w := a) (by omega) (by omega)
  have q9 := spec_LeastTurned_eq (k := k) (a0 := a) (by omega) (by omega)
  have q10 := impl_LeastTurned_eq (k := k) (a0 := a) (by omega) (by omega)
  have q11 := spec_CountTurned_eq (k := k) (a0 := a) (by omega) (by omega)
  have q12 := impl_CountTurned_eq (k := k) (a0 := a) (by omega) (by omega)
  unfold bordR at q5 q6
  unfold expoW at q7 q8
  unfold leastR at q9 q10
  unfold cntTR at q11 q12
  cases hW : isW a with
  | false =>
    rw [hW] at q1 q2 q3 q4 q5 q6 q7 q8 q9 q10 q11 q12
    exact ⟨k, a, ⟨#[]⟩, ⟨#[]⟩, 0, 0, 0, 0, 0, 0, 1, 1, 1, 1, 1, [], [], d1, q2, q1, q4, q3, q6, q5, q8, q7, q10, q9, q12, q11, likeInts_eq (by simp) (by simp; omega), likeInts_eq (by simp) (by simp; omega), Or.inl ⟨by decide, rfl⟩⟩
  | true =>
    have hz := isW_size hW
    rw [hW, if_pos rfl] at q1 q2 q3 q4 q5 q6 q7 q8 q9 q10 q11 q12
    have hL := likeInts_eq (k := k) (a := perL a) (by omega) (by omega)
    have hM := likeInts_eq (k := k) (a := bordL a) (by omega) (by omega)
    by_cases h0 : a.size = 0
    · rw [if_pos h0] at q1 q2 q7 q8 q11 q12
      exact ⟨k, a, ⟨#[]⟩, (lstW a).1, 0, 0, 0, ((lstW a).2 : Int), 1, 0, 5, 0, 0, 0, 0, perL a, bordL a, d1, q2, q1, q4, q3, q6, q5, q8, q7, q10, q9, q12, q11, hL, hM, Or.inl ⟨by decide, rfl⟩⟩
    · rw [if_neg h0] at q1 q2 q7 q8 q11 q12
      obtain ⟨p1, p2, p3, p4⟩ := leastP_spec (w := a) (by omega)
      obtain ⟨r1, r2⟩ := rootW_size (w := a) (by omega)
      obtain ⟨s1, s2⟩ := root_rep (w := a) (by omega)
      obtain ⟨t1, t2⟩ := lstW_turn (w := a) (by omega)
      have hpp := perL_pos (w := a) (by omega)
      have hwr : isW (rootW a) = true := by
        unfold rootW
        split
        · exact isW_ext hW
        · exact hW
      have hdv : (a.size : Int) / ((rootW a).size : Int) = ((a.size / (rootW a).size : Nat) : Int) := rfl
      have hle : a.size / (rootW a).size ≤ a.size := Nat.div_le_self _ _
      refine ⟨k, a, rootW a, (lstW a).1, (a.size : Int) / (rootW a).size, (lowN a.size (leastP a)).1, (lowN a.size (leastP a)).2, ((lstW a).2 : Int), ((rootW a).size : Int), (leastP a : Int), 0, 0, 0, 0, 0, perL a, bordL a, d1, q2, q1, q4, q3, q6, q5, q8, q7, q10, q9, q12, q11, hL, hM, Or.inr ⟨rfl, rfl, rfl, rfl, rfl, hpp, (bord_sum hpp).1.symm, by omega, perL_rd (by omega), low_mul (by omega) (by omega) (by omega), fun j hj => ?_, ?_, ?_, rfl⟩⟩
      · obtain ⟨_, b2⟩ := bord_sum hj
        have hm := perL_mem a _ (rd_mem (L := perL a) (j := (j : Int)) (by omega) (by omega))
        rw [b2, w64 (by omega) (by omega)]; omega
      · rw [impl_PowerOf_eq]
        unfold powR
        rw [hdv]
        obtain ⟨m, hm⟩ : ∃ m, m = a.size / (rootW a).size := ⟨_, rfl⟩
        rw [← hm] at s1 s2 hle ⊢
        clear hm hdv
        have hin : inR (m : Int) 0 1000 = true := by unfold inR; simp; omega
        rw [hwr, if_pos rfl, hin, if_pos rfl, Int.toNat_natCast, if_neg (by rw [Nat.mul_comm, s2]; omega), s1]
      · unfold impl_TurnWord.f
        have hin : inR ((lstW a).2 : Int) 0 (a.size : Int) = true := by unfold inR; simp; omega
        rw [hW, if_pos rfl, hin, if_pos rfl, Int.toNat_natCast, t1]; rfl

end Go.Proofs.Ytmihfmhfgjnfcab.Pure
