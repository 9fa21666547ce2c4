/- The plain part of the law FnRepeats: for every input that the law takes, the printed function of the law answers true once it has rounds enough. Conditions: those that stand in the statement (sizes of strings and slices, kinds of numbers), no other. -/
import Derived.Test.YteakipdmpjlhiabGreatMxFnRepeats4
import Derived.Test.YteakipdmpjlhiabGreatMath
import Derived.Test.YteakipdmpjlhiabGreatMath3
import Derived.Test.YteakipdmpjlhiabGreatMath4
namespace Go.Proofs.YteakipdmpjlhiabGreat.Pure
open Go.RowKit Go.Proofs.YteakipdmpjlhiabGreat.Q Go.Proofs.YteakipdmpjlhiabGreatW.PrintWords Go.Proofs.YteakipdmpjlhiabGreatW.PrintLast Go.Proofs.YteakipdmpjlhiabGreatW.PrintMore
set_option linter.unusedVariables false
set_option linter.unusedSimpArgs false

theorem spec_l01Reversed_l0 (w : ByteArray) (hw : w.size ≤ 1048576) : ∀ (n k : Nat) (acc : List Int), n ≤ w.size → n + 1 < k → acc.length + n ≤ 1048576 →
    spec_l01Reversed.l0 k w acc ((n : Int) - 1) = some (strOfNums (acc ++ ((bytesOf w).take n).reverse))
  | 0, k, acc, hn, hk, ha => by
    obtain ⟨k, rfl⟩ := rounds_pos (show 0 < k by omega)
    simp only [spec_l01Reversed.l0]
    rw [if_neg (by omega)]
    simp
  | n + 1, k, acc, hn, hk, ha => by
    obtain ⟨k, rfl⟩ := rounds_pos (show 0 < k by omega)
    simp only [spec_l01Reversed.l0]
    rw [if_pos (by omega), if_pos (by omega), if_pos (by omega), if_pos (by omega)]
    have e1 : ((n + 1 : Nat) : Int) - 1 = (n : Int) := by omega
    rw [e1, w64 (by omega) (by omega), spec_l01Reversed_l0 w hw n k (acc ++ [bt w n]) (by omega) (by omega) (by simp; omega)]
    rw [take_bytes_snoc w n (by omega)]
    simp
theorem spec_l01Reversed_eq {k : Nat} {w : ByteArray} (hw : w.size ≤ 1048576) (hk : w.size + 1 < k) : spec_l01Reversed.f k w = some (revW w) := by
  unfold spec_l01Reversed.f
  rw [w64 (by omega) (by omega), spec_l01Reversed_l0 w hw w.size k [] (Nat.le_refl _) hk (by simpa using hw)]
  rw [← bo_len, List.take_length]
  rfl

/-- a code whose numbers are bytes, and a place in it -/
def OkC (l : List Int) : Prop := l.length ≤ 4096 ∧ ∀ j : Nat, j < l.length → 0 ≤ rd l j ∧ rd l j ≤ 255
def Gives {α : Type} (o : Option (α × Int × Int)) (l : List Int) (P : α → Prop) : Prop := ∃ (r : α) (t h : Int), o = some (r, t, h) ∧ (0 ≤ t ∧ t ≤ (l.length : Int)) ∧ P r
theorem leO_far {α : Type} {f : Nat → Option α} (h : ∀ k, LeO (f k) (f (k + 1))) {r : α} {a : Nat} (ha : f a = some r) : ∀ d, f (a + d) = some r
  | 0 => ha
  | d + 1 => h (a + d) r (leO_far h ha d)
theorem u64_rng (x : Int) : 0 ≤ IntKind.u64.wrap x ∧ IntKind.u64.wrap x < 18446744073709551616 := by
  have e : IntKind.u64.wrap x = x % 18446744073709551616 := rfl
  rw [e]; omega
theorem and24 (x : Int) : 0 ≤ Go.bits .and .u64 (IntKind.u64.wrap x / 8589934592) 16777215 ∧ Go.bits .and .u64 (IntKind.u64.wrap x / 8589934592) 16777215 ≤ 16777215 := by
  have h := u64_rng x
  obtain ⟨n, hn⟩ := Int.eq_ofNat_of_zero_le (show 0 ≤ IntKind.u64.wrap x / 8589934592 by omega)
  rw [hn]
  have e : Go.bits .and .u64 (n : Int) 16777215 = ((n &&& 16777215 : Nat) : Int) := Go.bits_and_u64_nat n 16777215 (by omega) (by omega)
  rw [e]
  have : n &&& 16777215 ≤ 16777215 := Nat.and_le_right
  omega
theorem l01Next_ok {l : List Int} {t h n : Int} (hl : OkC l) (ht : 0 ≤ t ∧ t ≤ (l.length : Int)) (hn : 1 ≤ n ∧ n ≤ 4000000) : Gives (spec_l01Next.f l t h n) l fun r => 0 ≤ r ∧ r < n := by
  have hb := hl.1
  unfold spec_l01Next.f
  obtain ⟨y, hy⟩ : ∃ y, y = (IntKind.u64.wrap (h * 6364136223846793005)) + 1442695040888963407 := ⟨_, rfl⟩
  have ha := and24 y
  rw [← hy]
  obtain ⟨z, hz⟩ : ∃ z, z = Go.bits .and .u64 (IntKind.u64.wrap y / 8589934592) 16777215 := ⟨_, rfl⟩
  rw [← hz] at ha ⊢
  rw [if_neg (by omega), w64 (x := z) (by omega) (by omega)]
  by_cases c : t < (l.length : Int)
  · have hr := hl.2 t.toNat (by omega)
    rw [show ((t.toNat : Nat) : Int) = t by omega] at hr
    rw [if_pos c, if_pos ht.1, if_neg (by omega), w64 (x := rd l t) (by omega) (by omega), w64 (x := z + rd l t) (by omega) (by omega), w64 (x := t + 1) (by omega) (by omega)]
    exact ⟨_, _, _, rfl, ⟨by omega, by omega⟩, Int.tmod_nonneg _ (by omega), Int.tmod_lt_of_pos _ (by omega)⟩
  · rw [if_neg c, if_neg (by omega)]
    exact ⟨_, _, _, rfl, ht, Int.tmod_nonneg _ (by omega), Int.tmod_lt_of_pos _ (by omega)⟩
theorem rd_mem {L : List Int} {j : Int} (h0 : 0 ≤ j) (h1 : j < (L.length : Int)) : rd L j ∈ L := by
  unfold rd
  have : j.toNat < L.length := by omega
  simp [List.getD_eq_getElem?_getD, this]
theorem l01Pick_ok {l : List Int} {t h : Int} (L : List Int) {P : Int → Prop} (hl : OkC l) (ht : 0 ≤ t ∧ t ≤ (l.length : Int)) (hL : 1 ≤ L.length ∧ L.length ≤ 1000) (hP : ∀ x ∈ L, P x) : Gives (spec_l01Pick.f l t h L) l P := by
  obtain ⟨r, t1, h1, e1, ht1, r0, r1⟩ := l01Next_ok (h := h) hl ht (n := (L.length : Int)) (by omega)
  unfold spec_l01Pick.f
  rw [e1, Option.bind_some, if_pos r0, if_pos r1]
  exact ⟨_, _, _, rfl, ht1, hP _ (rd_mem r0 r1)⟩
theorem l01DrawOf_l0 {l : List Int} (hl : OkC l) {n kk : Int} (hn : n ≤ 100) (hk : 1 ≤ kk ∧ kk ≤ 100) : ∀ (d k i : Nat) (u : ByteArray) (t h : Int), (i : Int) + d = n → u.size = i → d < k → 0 ≤ t ∧ t ≤ (l.length : Int) → Gives (spec_l01DrawOf.l0 k n kk u i l t h) l fun u => (u.size : Int) = n
  | 0, k, i, u, t, h, hi, hu, hd, ht => by
    obtain ⟨k, rfl⟩ := rounds_pos (show 0 < k by omega)
    simp only [spec_l01DrawOf.l0]
    rw [if_neg (by omega)]
    exact ⟨_, _, _, rfl, ht, by omega⟩
  | d + 1, k, i, u, t, h, hi, hu, hd, ht => by
    obtain ⟨k, rfl⟩ := rounds_pos (show 0 < k by omega)
    simp only [spec_l01DrawOf.l0]
    obtain ⟨r, t1, h1, e1, ht1, r0, r1⟩ := l01Next_ok (h := h) hl ht (n := kk) (by omega)
    rw [if_pos (by omega), e1, Option.bind_some]
    unfold spec_l01Letter.f
    rw [Option.bind_some, if_pos (by rw [sn_len]; simp; omega), w64 (x := (i : Int) + 1) (by omega) (by omega), show (i : Int) + 1 = ((i + 1 : Nat) : Int) by omega]
    exact l01DrawOf_l0 hl hn hk d k (i + 1) _ t1 h1 (by omega) (by rw [ByteArray.size_append, sn_len, hu]; rfl) (by omega) ht1
theorem l01DrawOf_ok {l : List Int} {t h n kk : Int} {k : Nat} (hl : OkC l) (ht : 0 ≤ t ∧ t ≤ (l.length : Int)) (hn : 0 ≤ n ∧ n ≤ 100) (hk : 1 ≤ kk ∧ kk ≤ 100) (hf : 200 ≤ k) : Gives (spec_l01DrawOf.f k l t h n kk) l fun u => (u.size : Int) = n := by
  unfold spec_l01DrawOf.f
  exact l01DrawOf_l0 hl hn.2 hk n.toNat k 0 _ t h (by omega) rfl (by omega) ht
theorem l01Small_ok {l : List Int} {t h : Int} {k : Nat} (hl : OkC l) (ht : 0 ≤ t ∧ t ≤ (l.length : Int)) (hf : 200 ≤ k) : Gives (spec_l01Small.f k l t h) l fun u => u.size ≤ 10 := by
  unfold spec_l01Small.f
  obtain ⟨r, t1, h1, e1, ht1, r0, r1⟩ := l01Next_ok (h := h) hl ht (n := 11) (by omega)
  obtain ⟨x, t2, h2, e2, ht2, x0⟩ := l01Pick_ok (h := h1) [1, 2, 2, 2, 3, 5] (P := fun r => 1 ≤ r ∧ r ≤ 100) hl ht1 (by decide) (by decide)
  obtain ⟨u, t3, h3, e3, ht3, u0⟩ := l01DrawOf_ok (h := h2) (k := k) hl ht2 (n := r) (kk := x) (by omega) x0 hf
  rw [e1, Option.bind_some, e2, Option.bind_some, e3, Option.bind_some]
  exact ⟨_, _, _, rfl, ht3, show u.size ≤ 10 by omega⟩
theorem named_all : ∀ j : Fin 4, ∀ m : Fin 61, ((spec_l01Named.f 600 (rdOf ByteArray.empty [(⟨#[102, 105, 98, 111, 110, 97, 99, 99, 105]⟩ : ByteArray), (⟨#[116, 104, 117, 101]⟩ : ByteArray), (⟨#[100, 111, 117, 98, 108, 105, 110, 103]⟩ : ByteArray), (⟨#[116, 114, 105, 112, 108, 101]⟩ : ByteArray)] (j.val : Int)) (m.val : Int)).elim false fun r => decide (r.1.size ≤ 60)) = true := by
  decide +kernel
theorem l01Named_ok {j m : Int} {k : Nat} (hj : 0 ≤ j ∧ j < 4) (hm : 0 ≤ m ∧ m ≤ 60) (hf : 600 ≤ k) : ∃ w b, spec_l01Named.f k (rdOf ByteArray.empty [(⟨#[102, 105, 98, 111, 110, 97, 99, 99, 105]⟩ : ByteArray), (⟨#[116, 104, 117, 101]⟩ : ByteArray), (⟨#[100, 111, 117, 98, 108, 105, 110, 103]⟩ : ByteArray), (⟨#[116, 114, 105, 112, 108, 101]⟩ : ByteArray)] j) m = some (w, b) ∧ w.size ≤ 60 := by
  obtain ⟨j, rfl⟩ := Int.eq_ofNat_of_zero_le hj.1
  obtain ⟨m, rfl⟩ := Int.eq_ofNat_of_zero_le hm.1
  have h := named_all ⟨j, by omega⟩ ⟨m, by omega⟩
  simp only at h
  revert h
  cases e : spec_l01Named.f 600 (rdOf ByteArray.empty [(⟨#[102, 105, 98, 111, 110, 97, 99, 99, 105]⟩ : ByteArray), (⟨#[116, 104, 117, 101]⟩ : ByteArray), (⟨#[100, 111, 117, 98, 108, 105, 110, 103]⟩ : ByteArray), (⟨#[116, 114, 105, 112, 108, 101]⟩ : ByteArray)] (j : Int)) (m : Int) with
  | none => intro h; cases h
  | some r =>
    intro h
    have h2 := leO_far (fun k => spec_l01Named.mono _ _ k) e (k - 600)
    rw [show 600 + (k - 600) = k by omega] at h2
    exact ⟨r.1, r.2, h2, of_decide_eq_true h⟩
theorem l01Draw_l0 {l : List Int} (hl : OkC l) (u : ByteArray) (hu : 1 ≤ u.size ∧ u.size ≤ 6) : ∀ (d k : Nat) (w : ByteArray) (t h : Int), d ≤ 4 → d < k → w.size + d * 6 ≤ 24 → 0 ≤ t ∧ t ≤ (l.length : Int) → Gives (spec_l01Draw.l0 k u w (d : Int) l t h) l fun w => w.size ≤ 60
  | 0, k, w, t, h, hd, hk, hw, ht => by
    obtain ⟨k, rfl⟩ := rounds_pos (show 0 < k by omega)
    simp only [spec_l01Draw.l0]
    obtain ⟨r, t1, h1, e1, ht1, r0, r1⟩ := l01Next_ok (h := h) hl ht (n := (u.size : Int)) (by omega)
    have hz : (u.extract 0 r.toNat).size ≤ 6 := by rw [ByteArray.size_extract]; omega
    rw [if_neg (by omega), e1, Option.bind_some]
    dsimp only
    rw [if_pos (by omega), if_pos (by omega), if_pos (by omega)]
    exact ⟨_, _, _, rfl, ht1, by dsimp only; rw [ByteArray.size_append]; omega⟩
  | d + 1, k, w, t, h, hd, hk, hw, ht => by
    obtain ⟨k, rfl⟩ := rounds_pos (show 0 < k by omega)
    simp only [spec_l01Draw.l0]
    rw [if_pos (by omega), if_pos (by omega), w64 (by omega) (by omega), show ((d + 1 : Nat) : Int) - 1 = (d : Int) by omega]
    exact l01Draw_l0 hl u hu d k _ t h (by omega) (by omega) (by rw [ByteArray.size_append]; omega) ht
theorem revW_size (w : ByteArray) : (revW w).size = w.size := by unfold revW; rw [sn_len, List.length_reverse, bo_len]
theorem l01Draw_ok {l : List Int} {t h : Int} {k : Nat} (hl : OkC l) (ht : 0 ≤ t ∧ t ≤ (l.length : Int)) (hf : 1000 ≤ k) : Gives (spec_l01Draw.f k l t h) l fun u => u.size ≤ 60 := by
  unfold spec_l01Draw.f
  obtain ⟨r, t1, h1, e1, ht1, r0, r1⟩ := l01Next_ok (h := h) hl ht (n := 6) (by omega)
  rw [e1, Option.bind_some]
  by_cases c0 : r = 0
  · rw [if_pos c0]
    unfold spec_l01Names.f
    obtain ⟨j, t2, h2, e2, ht2, j0, j1⟩ := l01Next_ok (h := h1) hl ht1 (n := 4) (by omega)
    obtain ⟨x, t3, h3, e3, ht3, x0⟩ := l01Pick_ok (h := h2) [12, 30, 61] (P := fun r => 1 ≤ r ∧ r ≤ 61) hl ht2 (by decide) (by decide)
    obtain ⟨m, t4, h4, e4, ht4, m0, m1⟩ := l01Next_ok (h := h3) hl ht3 (n := x) (by omega)
    obtain ⟨w, b, e5, hw⟩ := l01Named_ok (j := j) (m := m) (k := k) ⟨j0, j1⟩ (by omega) (by omega)
    rw [Option.bind_some, e2, Option.bind_some, if_pos j0, if_pos (by simpa using j1), e3, Option.bind_some, e4, Option.bind_some, e5, Option.bind_some]
    exact ⟨_, _, _, rfl, ht4, hw⟩
  rw [if_neg c0]
  by_cases c1 : r = 1
  · rw [if_pos c1]
    obtain ⟨j, t2, h2, e2, ht2, j0, j1⟩ := l01Next_ok (h := h1) hl ht1 (n := 6) (by omega)
    obtain ⟨x, t3, h3, e3, ht3, x0⟩ := l01Pick_ok (h := h2) [2, 2, 3] (P := fun r => 1 ≤ r ∧ r ≤ 61) hl ht2 (by decide) (by decide)
    obtain ⟨u, t4, h4, e4, ht4, u0⟩ := l01DrawOf_ok (h := h3) (k := k) hl ht3 (n := 1 + j) (kk := x) (by omega) (by omega) (by omega)
    obtain ⟨m, t5, h5, e5, ht5, m0, m1⟩ := l01Next_ok (h := h4) hl ht4 (n := 4) (by omega)
    rw [e2, Option.bind_some, e3, Option.bind_some, w64 (by omega) (by omega), e4, Option.bind_some, e5, Option.bind_some, w64 (by omega) (by omega)]
    have := l01Draw_l0 hl u (by omega) (1 + m).toNat k ⟨#[]⟩ t5 h5 (by omega) (by omega) (by show 0 + _ ≤ _; omega) ht5
    rw [show (((1 + m).toNat : Nat) : Int) = 1 + m by omega] at this
    exact this
  rw [if_neg c1]
  by_cases c2 : r = 2
  · rw [if_pos c2]
    obtain ⟨j, t2, h2, e2, ht2, j0, j1⟩ := l01Next_ok (h := h1) hl ht1 (n := 12) (by omega)
    obtain ⟨x, t3, h3, e3, ht3, x0⟩ := l01Pick_ok (h := h2) [2, 2, 3] (P := fun r => 1 ≤ r ∧ r ≤ 61) hl ht2 (by decide) (by decide)
    obtain ⟨u, t4, h4, e4, ht4, u0⟩ := l01DrawOf_ok (h := h3) (k := k) hl ht3 (n := j) (kk := x) (by omega) (by omega) (by omega)
    obtain ⟨m, t5, h5, e5, ht5, m0, m1⟩ := l01Next_ok (h := h4) hl ht4 (n := 2) (by omega)
    obtain ⟨v, t6, h6, e6, ht6, v0⟩ := l01DrawOf_ok (h := h5) (k := k) hl ht5 (n := m) (kk := 2) (by omega) (by omega) (by omega)
    rw [e2, Option.bind_some, e3, Option.bind_some, e4, Option.bind_some, e5, Option.bind_some, e6, Option.bind_some]
    dsimp only
    rw [if_pos (by omega), spec_l01Reversed_eq (by omega) (by omega), Option.bind_some, if_pos (by rw [ByteArray.size_append, revW_size]; omega)]
    exact ⟨_, _, _, rfl, ht6, by dsimp only; rw [ByteArray.size_append, ByteArray.size_append, revW_size]; omega⟩
  rw [if_neg c2]
  by_cases c3 : r = 3
  · rw [if_pos c3]
    obtain ⟨x, t3, h3, e3, ht3, x0⟩ := l01Pick_ok (h := h1) [20, 40, 61] (P := fun r => 1 ≤ r ∧ r ≤ 61) hl ht1 (by decide) (by decide)
    obtain ⟨m, t4, h4, e4, ht4, m0, m1⟩ := l01Next_ok (h := h3) hl ht3 (n := x) (by omega)
    obtain ⟨y, t5, h5, e5, ht5, y0⟩ := l01Pick_ok (h := h4) [1, 2, 2, 3, 3, 4, 5] (P := fun r => 1 ≤ r ∧ r ≤ 61) hl ht4 (by decide) (by decide)
    obtain ⟨v, t6, h6, e6, ht6, v0⟩ := l01DrawOf_ok (h := h5) (k := k) hl ht5 (n := m) (kk := y) (by omega) (by omega) (by omega)
    rw [e3, Option.bind_some, e4, Option.bind_some, e5, Option.bind_some, e6, Option.bind_some]
    exact ⟨_, _, _, rfl, ht6, show v.size ≤ 60 by omega⟩
  rw [if_neg c3]
  obtain ⟨u, t2, h2, e2, ht2, u0⟩ := l01Small_ok (h := h1) (k := k) hl ht1 (by omega)
  rw [e2, Option.bind_some]
  exact ⟨_, _, _, rfl, ht2, show u.size ≤ 60 by omega⟩
theorem l01Damage_ok {l : List Int} {t h : Int} {w : ByteArray} (hl : OkC l) (ht : 0 ≤ t ∧ t ≤ (l.length : Int)) (hw : w.size ≤ 60) : Gives (spec_l01Damage.f l t h w) l fun u => u.size ≤ 61 := by
  unfold spec_l01Damage.f
  rw [Option.bind_some]
  obtain ⟨L, hL⟩ : ∃ L, L = ([(⟨#[97]⟩ : ByteArray), (⟨#[98]⟩ : ByteArray), (⟨#[99]⟩ : ByteArray), (⟨#[101]⟩ : ByteArray), (⟨#[102]⟩ : ByteArray), (⟨#[65]⟩ : ByteArray), (⟨#[32]⟩ : ByteArray), (⟨#[44]⟩ : ByteArray), (⟨#[48]⟩ : ByteArray), (⟨#[10]⟩ : ByteArray)] : List ByteArray) := ⟨_, rfl⟩
  have hLl : L.length = 10 := by rw [hL]; rfl
  have hLs : ∀ x ∈ L, x.size = 1 := by rw [hL]; decide
  rw [← hL]
  obtain ⟨r, t1, h1, e1, ht1, r0, r1⟩ := l01Next_ok (h := h) hl ht (n := (L.length : Int)) (by omega)
  rw [e1, Option.bind_some, if_pos r0, if_pos r1]
  obtain ⟨c, hc⟩ : ∃ c, c = rdOf ByteArray.empty L r := ⟨_, rfl⟩
  have hcs : c.size = 1 := by
    refine hLs c ?_
    rw [hc]; unfold rdOf
    have : r.toNat < L.length := by omega
    simp [List.getD_eq_getElem?_getD, this]
  rw [← hc]
  by_cases cz : (w.size : Int) = 0
  · rw [if_pos cz]; exact ⟨_, _, _, rfl, ht1, show c.size ≤ 61 by omega⟩
  rw [if_neg cz]
  obtain ⟨x, t2, h2, e2, ht2, x0, x1⟩ := l01Next_ok (h := h1) hl ht1 (n := (w.size : Int)) (by omega)
  obtain ⟨y, t3, h3, e3, ht3, y0, y1⟩ := l01Next_ok (h := h2) hl ht2 (n := 3) (by omega)
  rw [e2, Option.bind_some, e3, Option.bind_some]
  dsimp only
  rw [w64 (by omega) (by omega)]
  have z1 : (w.extract 0 x.toNat).size ≤ x.toNat := by rw [ByteArray.size_extract]; omega
  have z2 : (w.extract (x + 1).toNat w.size).size + (x.toNat + 1) = w.size := by rw [ByteArray.size_extract]; omega
  have z3 : (w.extract x.toNat w.size).size + x.toNat = w.size := by rw [ByteArray.size_extract]; omega
  have q0 : 0 ≤ x := x0
  have q1 : x ≤ (w.size : Int) := by omega
  have q2 : 0 ≤ x + 1 := by omega
  have q3 : x + 1 ≤ (w.size : Int) := by omega
  by_cases c0 : y = 0
  · rw [if_pos c0, if_pos q0, if_pos q1, if_pos (by omega), if_pos q2, if_pos q3, if_pos (by rw [ByteArray.size_append]; omega)]
    exact ⟨_, _, _, rfl, ht3, by dsimp only; rw [ByteArray.size_append, ByteArray.size_append]; omega⟩
  rw [if_neg c0]
  by_cases c1 : y = 1
  · rw [if_pos c1, if_pos q0, if_pos q1, if_pos q2, if_pos q3, if_pos (by omega)]
    exact ⟨_, _, _, rfl, ht3, by dsimp only; rw [ByteArray.size_append]; omega⟩
  rw [if_neg c1, if_pos q0, if_pos q1, if_pos (by omega), if_pos (by rw [ByteArray.size_append]; omega)]
  exact ⟨_, _, _, rfl, ht3, by dsimp only; rw [ByteArray.size_append, ByteArray.size_append]; omega⟩
theorem l01Bad_l0 {l : List Int} {t h : Int} (ht : 0 ≤ t ∧ t ≤ (l.length : Int)) : ∀ (d k : Nat) (w : ByteArray), w.size ≤ 62 → 62 - w.size ≤ d → d < k → Gives (spec_l01Bad.l0 k w l t h) l fun u => u.size ≤ 62
  | 0, k, w, hw, hd, hk => by
    obtain ⟨k, rfl⟩ := rounds_pos (show 0 < k by omega)
    simp only [spec_l01Bad.l0]
    rw [if_neg (by omega)]
    exact ⟨_, _, _, rfl, ht, hw⟩
  | d + 1, k, w, hw, hd, hk => by
    obtain ⟨k, rfl⟩ := rounds_pos (show 0 < k by omega)
    simp only [spec_l01Bad.l0]
    by_cases c : (w.size : Int) ≤ 60
    · rw [if_pos c, if_pos (by omega)]
      have hz : (w ++ (⟨#[97, 98]⟩ : ByteArray)).size = w.size + 2 := by rw [ByteArray.size_append]; rfl
      exact l01Bad_l0 ht d k _ (by omega) (by omega) (by omega)
    · rw [if_neg c]
      exact ⟨_, _, _, rfl, ht, hw⟩
theorem l01Bad_ok {l : List Int} {t h : Int} {k : Nat} {w : ByteArray} (hl : OkC l) (ht : 0 ≤ t ∧ t ≤ (l.length : Int)) (hw : w.size ≤ 60) (hf : 1000 ≤ k) : Gives (spec_l01Bad.f k l t h w) l fun u => u.size ≤ 62 := by
  unfold spec_l01Bad.f
  obtain ⟨r, t1, h1, e1, ht1, r0, r1⟩ := l01Next_ok (h := h) hl ht (n := 50) (by omega)
  rw [e1, Option.bind_some]
  by_cases c0 : r = 0
  · rw [if_pos c0, if_pos (by omega)]
    exact ⟨_, _, _, rfl, ht1, by dsimp only; rw [ByteArray.size_append]; show _ + 1 ≤ 62; omega⟩
  rw [if_neg c0]
  by_cases c1 : r = 1
  · rw [if_pos c1]
    obtain ⟨u, t2, h2, e2, ht2, u0⟩ := l01Damage_ok (h := h1) hl ht1 hw
    rw [e2, Option.bind_some]
    exact ⟨_, _, _, rfl, ht2, show u.size ≤ 62 by omega⟩
  rw [if_neg c1]
  by_cases c2 : r = 2
  · rw [if_pos c2]
    exact l01Bad_l0 ht1 62 k w (by omega) (by omega) (by omega)
  rw [if_neg c2]
  exact ⟨_, _, _, rfl, ht1, show w.size ≤ 62 by omega⟩
theorem l01From_l0 {l : List Int} (hl : l.length ≤ 4096) : ∀ (d k i : Nat) (h : Int), i + d = l.length → d < k → ∃ h', spec_l01From.l0 k l i l 0 h = some (l, 0, h')
  | 0, k, i, h, hi, hk => by
    obtain ⟨k, rfl⟩ := rounds_pos (show 0 < k by omega)
    simp only [spec_l01From.l0]
    rw [if_neg (by omega)]
    exact ⟨_, rfl⟩
  | d + 1, k, i, h, hi, hk => by
    obtain ⟨k, rfl⟩ := rounds_pos (show 0 < k by omega)
    simp only [spec_l01From.l0]
    rw [if_pos (by omega), if_pos (by omega), if_pos (by omega), w64 (x := (i : Int) + 1) (by omega) (by omega), show (i : Int) + 1 = ((i + 1 : Nat) : Int) by omega]
    exact l01From_l0 hl d k (i + 1) _ (by omega) (by omega)
theorem l01From_ok {l : List Int} {k : Nat} (hl : OkC l) (hf : 5000 ≤ k) : ∃ h, spec_l01From.f k l = some (l, 0, h) := by
  have := hl.1
  unfold spec_l01From.f
  exact l01From_l0 hl.1 l.length k 0 _ (by omega) (by omega)
theorem okC_of {l : List Int} (h : l.length ≤ 4096) (hw : ∀ x ∈ l, (Lit.int .u8 x).wf = true) : OkC l := by
  refine ⟨h, fun j hj => ?_⟩
  have := hw (rd l j) (rd_mem (by omega) (by omega))
  have t : IntKind.u8.min ≤ rd l j ∧ rd l j ≤ IntKind.u8.max := by simpa [Lit.wf] using this
  exact t
theorem zero_ok {l : List Int} : 0 ≤ (0 : Int) ∧ (0 : Int) ≤ (l.length : Int) := by omega

def powB (w : ByteArray) (k i q : Nat) : Bool := hasP (w.extract i (i + k * q)) q
def powR (w : ByteArray) (k i : Nat) : List (List Int) := gath (powB w k i) (fun q => [(i : Int), (q : Int)]) 1 ((w.size - i) / k)
def powL (w : ByteArray) (k : Nat) : List (List Int) := (List.range' 0 w.size).flatMap (powR w k)
theorem powR_len (w : ByteArray) (k i : Nat) : (powR w k i).length ≤ w.size := Nat.le_trans (gath_len _ _ _ _) (Nat.le_trans (Nat.div_le_self _ _) (Nat.sub_le _ _))
theorem powL_len_aux (w : ByteArray) (k : Nat) : ∀ c i, ((List.range' i c).flatMap (powR w k)).length ≤ c * w.size
  | 0, i => by simp
  | c + 1, i => by
    rw [List.range'_succ, List.flatMap_cons, List.length_append, Nat.succ_mul]
    have := powR_len w k i
    have := powL_len_aux w k c (i + 1)
    omega
theorem powL_len {w : ByteArray} {k : Nat} (hw : w.size ≤ 60) : (powL w k).length ≤ 3600 := Nat.le_trans (powL_len_aux w k _ _) (Nat.mul_le_mul hw hw)
theorem div_in {n k q : Nat} (hk : 0 < k) (h : q ≤ n / k) : k * q ≤ n := by rw [Nat.mul_comm]; exact (Nat.le_div_iff_mul_le hk).mp h
theorem div_out {n k : Nat} (hk : 0 < k) : n < k * (n / k + 1) ∧ k * (n / k + 1) ≤ n + k := by
  have h := Nat.div_add_mod n k
  have h2 := Nat.mod_lt n hk
  rw [Nat.mul_add, Nat.mul_one]
  omega
theorem powL_nil {w : ByteArray} {m : Nat} (h1 : 1 ≤ m) : powL w m = [] ↔ ∀ i q, 1 ≤ q → i + m * q ≤ w.size → powB w m i q = false := by
  unfold powL
  rw [List.flatMap_eq_nil_iff]
  constructor
  · intro h i q hq hi
    have hq2 : q ≤ m * q := Nat.le_mul_of_pos_left q h1
    have := h i (by rw [List.mem_range'_1]; omega)
    refine gath_nil.mp this q hq ?_
    have : q ≤ (w.size - i) / m := (Nat.le_div_iff_mul_le h1).mpr (by rw [Nat.mul_comm]; omega)
    omega
  · intro h i hi
    rw [List.mem_range'_1] at hi
    refine gath_nil.mpr fun q h3 h4 => h i q h3 ?_
    have := div_in h1 (show q ≤ (w.size - i) / m by omega)
    omega

def sqE (w : ByteArray) (e q : Nat) : Bool := powB w 2 (e - 2 * q) q
theorem spec_l03Power_eq {k : Nat} {w : ByteArray} {i q m : Nat} (hm : 1 ≤ m) (h : i + m * q ≤ w.size) (hw : w.size ≤ 1048576) (hk : w.size + 2 < k) : spec_l03Power.f k w i q m = some (powB w m i q) := by
  have hq : q ≤ m * q := Nat.le_mul_of_pos_left q hm
  have hz : (w.extract i (i + m * q)).size = m * q := by rw [ext_size]; omega
  have e1 : (q : Int) * m = ((m * q : Nat) : Int) := by rw [Int.natCast_mul, Int.mul_comm]
  unfold spec_l03Power.f
  rw [e1, w64 (x := ((m * q : Nat) : Int)) (by omega) (by omega), w64 (by omega) (by omega), if_neg (by omega)]
  have hf := find_from (fun k j => spec_l03Power.l0 k w i q m j) (i + (m * q - q)) i (fun j => !(bt w j == bt w ((j + q : Nat) : Int))) (fun _ => false) true 0
    (fun k j _ hl hj => by
      simp only [spec_l03Power.l0]
      rw [e1, w64 (x := ((m * q : Nat) : Int)) (by omega) (by omega), w64 (x := (i : Int) + _) (by omega) (by omega), w64 (x := (j : Int) + q) (by omega) (by omega), if_pos (by omega), if_pos (by omega), if_pos (by omega), if_pos (by omega), if_pos (by omega), w64 (by omega) (by omega)]
      rw [show (j : Int) + q = ((j + q : Nat) : Int) by omega]
      by_cases h1 : bt w j = bt w ((j + q : Nat) : Int)
      · rw [if_pos h1]; simp [h1]
      · rw [if_neg h1, beq_eq_false_iff_ne.mpr h1]; rfl)
    (fun k _ => by
      simp only [spec_l03Power.l0]
      rw [e1, w64 (x := ((m * q : Nat) : Int)) (by omega) (by omega), w64 (x := (i : Int) + _) (by omega) (by omega), w64 (by omega) (by omega), if_neg (by omega)])
    (m * q - q) k i rfl (Nat.le_refl _) (by omega)
  rw [hf]
  congr 1
  unfold powB
  cases hc : findE (fun j => !(bt w j == bt w ((j + q : Nat) : Int))) i (m * q - q) with
  | none =>
    symm
    rw [hasP_iff (by omega), hz]
    intro j hj
    have := findE_none.mp hc (i + j) (by omega) (by omega)
    rw [ext_bt _ (by omega), ext_bt _ (by omega), show i + (j + q) = i + j + q by omega]
    simpa using this
  | some j =>
    obtain ⟨h1, h2, h3, _⟩ := findE_some hc
    symm
    rw [Bool.eq_false_iff, ne_eq, hasP_iff (by omega), hz]
    intro h4
    have := h4 (j - i) (by omega)
    rw [ext_bt _ (by omega), ext_bt _ (by omega), show i + (j - i + q) = j + q by omega, show i + (j - i) = j by omega] at this
    simp [this] at h3

def firG (w : ByteArray) (e : Nat) (_ : Unit) : (Int × Int × Bool) ⊕ Unit := match findE (sqE w e) 1 (e / 2) with | some q => .inl (((e - 2 * q : Nat) : Int), (q : Int), true) | none => .inr ()
/-- the first square that ends at a place or behind it -/
def firW (w : ByteArray) (a : Nat) : Int × Int × Bool := loopE (firG w) (fun _ => (0, 0, false)) (max a 2) (w.size + 1 - max a 2) ()
theorem mx_nat {a : Nat} : mx (a : Int) 2 = ((max a 2 : Nat) : Int) := by unfold mx; split <;> omega
theorem spec_l03First_eq {k : Nat} {w : ByteArray} {a : Nat} (hw : w.size ≤ 1000) (ha : a ≤ 1000) (hk : 2000000 ≤ k) : spec_l03First.f k w a = some (firW w a) := by
  have hend : ∀ k (e : Nat), w.size < e → spec_l03First.l0 (k + 1) w e = some (0, 0, false) := fun k e he => by
    simp only [spec_l03First.l0]
    rw [if_neg (by omega)]
  unfold spec_l03First.f firW
  rw [mx_nat]
  by_cases hz : w.size + 1 ≤ max a 2
  · obtain ⟨k, rfl⟩ := rounds_pos (show 0 < k by omega)
    rw [hend _ _ (by omega), show w.size + 1 - max a 2 = 0 by omega]; rfl
  · exact loop_cost (fun k (_ : Unit) e => spec_l03First.l0 k w e) (w.size + 1) (firG w) (fun _ => (0, 0, false)) (fun _ _ => True) 2000 1000
      (fun e _ he _ => by
        have hd := Nat.div_add_mod e 2
        have hm := Nat.mod_lt e (show 0 < 2 by omega)
        refine ⟨e / 2 + 1, by omega, fun k hk => ?_⟩
        have h := find_on (fun k q => spec_l03First.l1 k w e q) (fun k => spec_l03First.l0 k w ((e + 1 : Nat) : Int)) (e / 2 + 1) (sqE w e) (fun q => (((e - 2 * q : Nat) : Int), (q : Int), true)) 2000
          (fun k q hk hq => by
            simp only [spec_l03First.l1]
            rw [w64 (x := 2 * (q : Int)) (by omega) (by omega), if_pos (by omega), w64 (x := (e : Int) - 2 * q) (by omega) (by omega), w64 (x := (q : Int) + 1) (by omega) (by omega), show (e : Int) - 2 * q = ((e - 2 * q : Nat) : Int) by omega]
            have := spec_l03Power_eq (k := k) (w := w) (i := e - 2 * q) (q := q) (m := 2) (by omega) (by omega) (by omega) (by omega)
            rw [show ((2 : Nat) : Int) = 2 from rfl] at this
            rw [this, Option.bind_some]
            rfl)
          (fun k hk => by
            simp only [spec_l03First.l1]
            rw [w64 (x := 2 * _) (by omega) (by omega), if_neg (by omega), w64 (by omega) (by omega)]; rfl)
          (e / 2) k 1 (by omega) hk
        simp only [spec_l03First.l0]
        rw [if_pos (by omega), show k + (e / 2 + 1) = k + (e / 2) + 1 by omega]
        rw [show (1 : Int) = ((1 : Nat) : Int) from rfl, h]
        unfold firG
        cases findE (sqE w e) 1 (e / 2) <;> rfl)
      (fun _ _ _ _ _ _ => trivial)
      (fun k _ _ _ => hend k (w.size + 1) (by omega))
      (w.size + 1 - max a 2) k (max a 2) () (by omega) (by
        have : (w.size + 1 - max a 2) * (1000 + 1) ≤ 1001 * 1001 := Nat.mul_le_mul (by omega) (by omega)
        omega) trivial
theorem loopE_unit {α : Type} (g : Nat → Unit → α ⊕ Unit) (d : α) : ∀ (c i : Nat),
    ((∀ m, i ≤ m → m < i + c → g m () = .inr ()) ∧ loopE g (fun _ => d) i c () = d) ∨ ∃ m a, i ≤ m ∧ m < i + c ∧ g m () = .inl a ∧ (∀ j, i ≤ j → j < m → g j () = .inr ()) ∧ loopE g (fun _ => d) i c () = a
  | 0, i => .inl ⟨fun m _ _ => by omega, rfl⟩
  | c + 1, i => by
    simp only [loopE]
    cases hg : g i () with
    | inl a => exact .inr ⟨i, a, Nat.le_refl _, by omega, hg, fun j _ _ => by omega, rfl⟩
    | inr u =>
      rcases loopE_unit g d c (i + 1) with ⟨h1, h2⟩ | ⟨m, a, h1, h2, h3, h4, h5⟩
      · refine .inl ⟨fun m hm1 hm2 => ?_, h2⟩
        by_cases e : m = i
        · subst e; exact hg
        · exact h1 m (by omega) (by omega)
      · refine .inr ⟨m, a, by omega, by omega, h3, fun j hj1 hj2 => ?_, h5⟩
        by_cases e : j = i
        · subst e; exact hg
        · exact h4 j (by omega) hj2
theorem firW_spec (w : ByteArray) (a : Nat) :
    (firW w a = (0, 0, false) ∧ ∀ e q, max a 2 ≤ e → e ≤ w.size → 1 ≤ q → 2 * q ≤ e → sqE w e q = false) ∨
    ∃ e q, max a 2 ≤ e ∧ e ≤ w.size ∧ 1 ≤ q ∧ 2 * q ≤ e ∧ sqE w e q = true ∧ firW w a = (((e - 2 * q : Nat) : Int), (q : Int), true) ∧ (∀ q', 1 ≤ q' → q' < q → sqE w e q' = false) ∧ ∀ e' q', max a 2 ≤ e' → e' < e → 1 ≤ q' → 2 * q' ≤ e' → sqE w e' q' = false := by
  have hno : ∀ e, firG w e () = .inr () → ∀ q, 1 ≤ q → 2 * q ≤ e → sqE w e q = false := fun e h q h1 h2 => by
    unfold firG at h
    cases hf : findE (sqE w e) 1 (e / 2) with
    | some j => rw [hf] at h; cases h
    | none =>
      have hd := Nat.div_add_mod e 2
      have hm := Nat.mod_lt e (show 0 < 2 by omega)
      exact findE_none.mp hf q h1 (by omega)
  rcases loopE_unit (firG w) (0, 0, false) (w.size + 1 - max a 2) (max a 2) with ⟨h1, h2⟩ | ⟨e, r, h1, h2, h3, h4, h5⟩
  · exact .inl ⟨h2, fun e q he1 he2 hq1 hq2 => hno e (h1 e he1 (by omega)) q hq1 hq2⟩
  · have h3' := h3
    unfold firG at h3
    cases hf : findE (sqE w e) 1 (e / 2) with
    | none => rw [hf] at h3; cases h3
    | some q =>
      rw [hf] at h3
      injection h3 with h3
      obtain ⟨f1, f2, f3, f4⟩ := findE_some hf
      have hd := Nat.div_add_mod e 2
      have hm := Nat.mod_lt e (show 0 < 2 by omega)
      refine .inr ⟨e, q, h1, by omega, f1, by omega, f3, ?_, f4, fun e' q' he1 he2 hq1 hq2 => hno e' (h4 e' he1 he2) q' hq1 hq2⟩
      unfold firW
      rw [h5, ← h3]

theorem triple_all : ∀ m : Fin 61, ((spec_l01Named.f 600 (⟨#[116, 114, 105, 112, 108, 101]⟩ : ByteArray) (m.val : Int)).elim false fun r => decide (r.1.size ≤ 60) && isW r.1) = true := by
  decide +kernel
theorem triple_ok {m : Int} {k : Nat} (hm : 0 ≤ m ∧ m ≤ 60) (hf : 600 ≤ k) : ∃ w b, spec_l01Named.f k (⟨#[116, 114, 105, 112, 108, 101]⟩ : ByteArray) m = some (w, b) ∧ w.size ≤ 60 ∧ isW w = true := by
  obtain ⟨m, rfl⟩ := Int.eq_ofNat_of_zero_le hm.1
  have h := triple_all ⟨m, by omega⟩
  simp only at h
  revert h
  cases e : spec_l01Named.f 600 (⟨#[116, 114, 105, 112, 108, 101]⟩ : ByteArray) (m : Int) with
  | none => intro h; cases h
  | some r =>
    intro h
    have h2 := leO_far (fun k => spec_l01Named.mono _ _ k) e (k - 600)
    rw [show 600 + (k - 600) = k by omega] at h2
    have h3 : (decide (r.1.size ≤ 60) && isW r.1) = true := h
    rw [Bool.and_eq_true] at h3
    exact ⟨r.1, r.2, h2, of_decide_eq_true h3.1, h3.2⟩
theorem rename_l0 {w : ByteArray} (hw : w.size ≤ 100) (hl : ∀ i : Nat, i < w.size → 97 ≤ bt w i ∧ bt w i < 102) {p : List Int} (hp : p.length = 5) : ∀ (d i k : Nat) (out : List Int), i + d = w.size → out.length = i → d < k → ∃ r, spec_l01Renamed.l0 k w p out i = some r ∧ r.size = w.size
  | 0, i, k, out, hi, ho, hk => by
    obtain ⟨k, rfl⟩ := rounds_pos (show 0 < k by omega)
    simp only [spec_l01Renamed.l0]
    rw [if_neg (by omega)]
    exact ⟨_, rfl, by rw [sn_len]; omega⟩
  | d + 1, i, k, out, hi, ho, hk => by
    obtain ⟨k, rfl⟩ := rounds_pos (show 0 < k by omega)
    simp only [spec_l01Renamed.l0]
    have hb := hl i (by omega)
    unfold spec_l01At.f
    rw [if_pos (by omega), if_pos (by omega), if_pos (by omega), w64 (x := bt w i) (by omega) (by omega), w64 (x := bt w i - 97) (by omega) (by omega), Option.bind_some, if_pos (by omega), if_pos (by omega), if_pos (by omega), w64 (x := (i : Int) + 1) (by omega) (by omega), show (i : Int) + 1 = ((i + 1 : Nat) : Int) by omega]
    exact rename_l0 hw hl hp d (i + 1) k _ (by omega) (by simp [ho]) (by omega)
theorem rename_ok {w : ByteArray} {k : Nat} (hW : isW w = true) {p : List Int} (hp : p.length = 5) (hk : 100 ≤ k) : ∃ r, spec_l01Renamed.f k w p = some r ∧ r.size = w.size := by
  have hz := isW_size hW
  unfold spec_l01Renamed.f
  refine rename_l0 (by omega) (fun i hi => ?_) hp w.size 0 k [] (by omega) rfl (by omega)
  rw [bt_nat, getD_eq _ _ (by rw [bo_len]; exact hi)]
  exact ((isW_iff w).mp hW).2 _ (List.getElem_mem _)
theorem l03Draw_l0 {l : List Int} (hl : OkC l) {x : Int} (hx : 1 ≤ x ∧ x ≤ 100) : ∀ (d k : Nat) (w : ByteArray) (t h : Int), 2000000 + d < k → w.size + d ≤ 60 → 0 ≤ t ∧ t ≤ (l.length : Int) → Gives (spec_l03Draw.l0 k x w (d : Int) l t h) l fun w => w.size ≤ 60
  | 0, k, w, t, h, hk, hw, ht => by
    obtain ⟨k, rfl⟩ := rounds_pos (show 0 < k by omega)
    simp only [spec_l03Draw.l0]
    rw [if_neg (by omega)]
    exact ⟨_, _, _, rfl, ht, by omega⟩
  | d + 1, k, w, t, h, hk, hw, ht => by
    obtain ⟨k, rfl⟩ := rounds_pos (show 0 < k by omega)
    simp only [spec_l03Draw.l0]
    obtain ⟨r, t1, h1, e1, ht1, r0, r1⟩ := l01Next_ok (h := h) hl ht (n := x) (by omega)
    rw [if_pos (by omega), e1, Option.bind_some]
    unfold spec_l01Letter.f
    rw [Option.bind_some]
    obtain ⟨c, hc⟩ : ∃ c : ByteArray, c = strOfNums [(wrap64 (97 + r)) % 256] := ⟨_, rfl⟩
    have hcz : c.size = 1 := by rw [hc, sn_len]; rfl
    have hz : (w ++ c).size = w.size + 1 := by rw [ByteArray.size_append, hcz]
    dsimp only
    rw [← hc, if_pos (by omega), hcz]
    have hf := spec_l03First_eq (k := k) (w := w ++ c) (a := w.size + 1) (by omega) (by omega) (by omega)
    rw [show ((w.size : Int) + ((1 : Nat) : Int)) = ((w.size + 1 : Nat) : Int) by omega, hf, Option.bind_some, w64 (by omega) (by omega), show ((d + 1 : Nat) : Int) - 1 = (d : Int) by omega]
    by_cases c2 : (firW (w ++ c) (w.size + 1)).2.2 = true
    · rw [if_pos c2]
      obtain ⟨y, t2, h2, e2, ht2, y0, y1⟩ := l01Next_ok (h := h1) hl ht1 (n := 9) (by omega)
      rw [e2, Option.bind_some]
      dsimp only
      by_cases c3 : y = 0
      · rw [if_pos c3]; exact l03Draw_l0 hl hx d k _ t2 h2 (by omega) (by omega) ht2
      · rw [if_neg c3]; exact l03Draw_l0 hl hx d k _ t2 h2 (by omega) (by omega) ht2
    · rw [if_neg c2]; exact l03Draw_l0 hl hx d k _ t1 h1 (by omega) (by omega) ht1
theorem l03Draw_ok {l : List Int} {t h : Int} {k : Nat} (hl : OkC l) (ht : 0 ≤ t ∧ t ≤ (l.length : Int)) (hk : 3000000 ≤ k) : Gives (spec_l03Draw.f k l t h) l fun u => u.size ≤ 60 := by
  unfold spec_l03Draw.f
  obtain ⟨r, t1, h1, e1, ht1, r0, r1⟩ := l01Next_ok (h := h) hl ht (n := 4) (by omega)
  rw [e1, Option.bind_some]
  dsimp only
  by_cases c0 : r = 0
  · rw [if_pos c0]
    obtain ⟨m, t2, h2, e2, ht2, m0, m1⟩ := l01Next_ok (h := h1) hl ht1 (n := 40) (by omega)
    obtain ⟨w, b, e3, hw, hW⟩ := triple_ok (m := m) (k := k) (by omega) (by omega)
    obtain ⟨x, t4, h4, e4, ht4, x0, x1⟩ := l01Next_ok (h := h2) hl ht2 (n := 5) (by omega)
    obtain ⟨y, t5, h5, e5, ht5, y0, y1⟩ := l01Next_ok (h := h4) hl ht4 (n := 5) (by omega)
    obtain ⟨z, t6, h6, e6, ht6, z0, z1⟩ := l01Next_ok (h := h5) hl ht5 (n := 5) (by omega)
    obtain ⟨v, e7, hv⟩ := rename_ok (w := w) (k := k) hW (p := [x, y, z, 0, 0]) rfl (by omega)
    rw [e2, Option.bind_some, e3, Option.bind_some, e4, Option.bind_some, e5, Option.bind_some, e6, Option.bind_some]
    dsimp only
    rw [e7, Option.bind_some]
    exact ⟨_, _, _, rfl, ht6, show v.size ≤ 60 by omega⟩
  rw [if_neg c0]
  by_cases c1 : r = 1
  · rw [if_pos c1]
    obtain ⟨x, t2, h2, e2, ht2, x0⟩ := l01Pick_ok (h := h1) [2, 3, 3, 4] (P := fun r => 1 ≤ r ∧ r ≤ 100) hl ht1 (by decide) (by decide)
    obtain ⟨m, t3, h3, e3, ht3, m0, m1⟩ := l01Next_ok (h := h2) hl ht2 (n := 24) (by omega)
    rw [e2, Option.bind_some, e3, Option.bind_some]
    have := l03Draw_l0 hl x0 m.toNat k ⟨#[]⟩ t3 h3 (by omega) (by show 0 + _ ≤ _; omega) ht3
    rw [show ((m.toNat : Nat) : Int) = m by omega] at this
    exact this
  rw [if_neg c1]
  obtain ⟨u, t2, h2, e2, ht2, u0⟩ := l01Draw_ok (h := h1) (k := k) hl ht1 (by omega)
  rw [e2, Option.bind_some]
  exact ⟨_, _, _, rfl, ht2, u0⟩
theorem l03Spoil_ok {l : List Int} {k : Nat} (hl : OkC l) (hk : 3000000 ≤ k) : ∃ a, spec_l03Spoil.f k l = some a ∧ a.size ≤ 62 := by
  obtain ⟨h, e⟩ := l01From_ok (k := k) hl (by omega)
  obtain ⟨u, t1, h1, e1, ht1, u0⟩ := l03Draw_ok (t := 0) (h := h) (k := k) hl zero_ok hk
  obtain ⟨v, t2, h2, e2, ht2, v0⟩ := l01Bad_ok (h := h1) (k := k) hl ht1 u0 (by omega)
  unfold spec_l03Spoil.f
  rw [e, Option.bind_some]
  dsimp only
  rw [e1, Option.bind_some]
  dsimp only
  rw [e2, Option.bind_some]
  exact ⟨_, rfl, v0⟩

theorem likeInts_l0 {a : List Int} (ha : a.length ≤ 1048576) : ∀ (d i k : Nat), i + d = a.length → d < k → laws_likeInts.l0 k a a i = some true
  | 0, i, k, hi, hk => by
    obtain ⟨k, rfl⟩ := rounds_pos (show 0 < k by omega)
    simp only [laws_likeInts.l0]
    rw [if_neg (by omega)]
  | d + 1, i, k, hi, hk => by
    obtain ⟨k, rfl⟩ := rounds_pos (show 0 < k by omega)
    simp only [laws_likeInts.l0]
    rw [if_pos (by omega), if_pos (by omega), if_pos (by omega), if_pos trivial, w64 (by omega) (by omega), show (i : Int) + 1 = ((i + 1 : Nat) : Int) by omega]
    exact likeInts_l0 ha d (i + 1) k (by omega) (by omega)
theorem likeInts_eq {k : Nat} {a : List Int} (ha : a.length ≤ 1048576) (hk : a.length < k) : laws_likeInts.f k a a = some true := by
  unfold laws_likeInts.f
  rw [if_pos rfl]
  exact likeInts_l0 ha a.length 0 k (by omega) (by omega)

theorem words5_l0 {a : List ByteArray} (ha : a.length ≤ 1048576) : ∀ (d i k : Nat), i + d = a.length → d < k → laws_words5.l0 k a a i = some true
  | 0, i, k, hi, hk => by
    obtain ⟨k, rfl⟩ := rounds_pos (show 0 < k by omega)
    simp only [laws_words5.l0]
    rw [if_neg (by omega)]
  | d + 1, i, k, hi, hk => by
    obtain ⟨k, rfl⟩ := rounds_pos (show 0 < k by omega)
    simp only [laws_words5.l0]
    rw [if_pos (by omega), if_pos (by omega), if_pos (by omega), if_pos trivial, w64 (by omega) (by omega), show (i : Int) + 1 = ((i + 1 : Nat) : Int) by omega]
    exact words5_l0 ha d (i + 1) k (by omega) (by omega)
theorem words5_eq {k : Nat} {a : List ByteArray} (ha : a.length ≤ 1048576) (hk : a.length < k) : laws_words5.f k a a = some true := by
  unfold laws_words5.f
  rw [if_pos rfl]
  exact words5_l0 ha a.length 0 k (by omega) (by omega)
theorem runs5_l0 {a : List S46} (ha : a.length ≤ 1048576) : ∀ (d i k : Nat), i + d = a.length → d < k → laws_runs5.l0 k a a i = some true
  | 0, i, k, hi, hk => by
    obtain ⟨k, rfl⟩ := rounds_pos (show 0 < k by omega)
    simp only [laws_runs5.l0]
    rw [if_neg (by omega)]
  | d + 1, i, k, hi, hk => by
    obtain ⟨k, rfl⟩ := rounds_pos (show 0 < k by omega)
    simp only [laws_runs5.l0]
    rw [if_pos (by omega), if_pos (by omega), if_pos (by omega), if_neg (by simp), w64 (by omega) (by omega), show (i : Int) + 1 = ((i + 1 : Nat) : Int) by omega]
    exact runs5_l0 ha d (i + 1) k (by omega) (by omega)
theorem runs5_eq {k : Nat} {a : List S46} (ha : a.length ≤ 1048576) (hk : a.length < k) : laws_runs5.f k a a = some true := by
  unfold laws_runs5.f
  rw [if_pos rfl]
  exact runs5_l0 ha a.length 0 k (by omega) (by omega)
theorem rows5_l0 {a : List (List Int)} (ha : a.length ≤ 1048576) {B : Nat} (hB : B ≤ 1048576) (hr : ∀ x ∈ a, x.length ≤ B) : ∀ (d i k : Nat), i + d = a.length → d + B + 1 < k → laws_rows5.l0 k a a i = some true
  | 0, i, k, hi, hk => by
    obtain ⟨k, rfl⟩ := rounds_pos (show 0 < k by omega)
    simp only [laws_rows5.l0]
    rw [if_neg (by omega)]
  | d + 1, i, k, hi, hk => by
    obtain ⟨k, rfl⟩ := rounds_pos (show 0 < k by omega)
    simp only [laws_rows5.l0]
    have hlt : i < a.length := by omega
    have hx : rd_L6 a (i : Int) ∈ a := by
      unfold rd_L6
      rw [Int.toNat_natCast, List.getD_eq_getElem?_getD, List.getElem?_eq_getElem hlt]
      exact List.getElem_mem hlt
    have hl := hr _ hx
    rw [if_pos (by omega), if_pos (by omega), if_pos (by omega), likeInts_eq (by omega) (by omega), Option.bind_some, if_pos rfl, w64 (by omega) (by omega), show (i : Int) + 1 = ((i + 1 : Nat) : Int) by omega]
    exact rows5_l0 ha hB hr d (i + 1) k (by omega) (by omega)
theorem rows5_eq {k : Nat} {a : List (List Int)} (ha : a.length ≤ 1000000) (hr : ∀ x ∈ a, x.length ≤ 2) (hk : a.length + 10 < k) : laws_rows5.f k a a = some true := by
  unfold laws_rows5.f
  rw [if_pos rfl]
  exact rows5_l0 (by omega) (B := 2) (by omega) hr a.length 0 k (by omega) (by omega)

theorem spec_l01Is_eq {k : Nat} {w : ByteArray} (hw : w.size ≤ 140737488351232) (hk : w.size + 1 < k) : spec_l01Is.f k w = some (isW w) := by
  have h := find_gen (fun k i => spec_l01Is.l0 k w i) w.size (fun i => !okB (bt w i)) (fun _ => false) (decide ((w.size : Int) ≤ 60)) 0
    (fun k i _ hi => by
      simp only [spec_l01Is.l0]
      rw [if_pos (by omega), if_pos (by omega)]
      by_cases h1 : bt w i < 97
      · rw [if_pos h1]
        have : okB (bt w i) = false := by unfold okB; simp; omega
        simp [this]
      · rw [if_neg h1]
        by_cases h2 : bt w i > 101
        · rw [if_pos h2]
          have : okB (bt w i) = false := by unfold okB; simp; omega
          simp [this]
        · rw [if_neg h2, w64 (by omega) (by omega)]
          have : okB (bt w i) = true := by unfold okB; simp; omega
          simp [this])
    (fun k _ => by simp only [spec_l01Is.l0]; rw [if_neg (by omega)])
    w.size k 0 (by omega) (by omega)
  unfold spec_l01Is.f
  rw [show (0 : Int) = ((0 : Nat) : Int) from rfl, h]
  congr 1
  unfold isW
  cases hf : findE (fun i => !okB (bt w i)) 0 w.size with
  | some j =>
    obtain ⟨_, h1, h2, _⟩ := findE_some hf
    have : (bytesOf w).all okB = false := by
      rw [Bool.eq_false_iff]
      intro h3
      rw [List.all_eq_true] at h3
      have hj : j < (bytesOf w).length := by rw [bo_len]; omega
      have := h3 _ (List.getElem_mem hj)
      rw [bt_nat, getD_eq _ _ hj, this] at h2
      cases h2
    simp [this]
  | none =>
    have : (bytesOf w).all okB = true := by
      rw [List.all_eq_true]
      intro x hx
      obtain ⟨j, hj, rfl⟩ := List.mem_iff_getElem.mp hx
      have := findE_none.mp hf j (Nat.zero_le _) (by rw [bo_len] at hj; omega)
      rw [bt_nat, getD_eq _ _ hj] at this
      simpa using this
    simp only [this, Bool.and_true, decide_eq_decide]
    omega
theorem wordCode_1 (a : ByteArray) : impl_wordCode.f () [a] = some (if isW a then 0 else 1) := by unfold impl_wordCode.f; simp
theorem spec_l03Period_l1 {w : ByteArray} {a b q : Nat} (hab : a < b) (hb : b ≤ w.size) (hw : w.size ≤ 1048576) (hq : q < b - a) : ∀ c i, i + c = b - a - q →
    ∃ c', c' ≤ c + 2 ∧ ∀ k, spec_l03Period.l1 (k + c') w a b q true ((a + i : Nat) : Int) = if (findE (fun i => !(bt w ((a + i : Nat) : Int) == bt w ((a + i + q : Nat) : Int))) i c).isNone then some (q : Int) else spec_l03Period.l0 k w a b ((q + 1 : Nat) : Int)
  | 0, i, hi => ⟨1, by omega, fun k => by
      simp only [spec_l03Period.l1]
      rw [w64 (by omega) (by omega), if_neg (by omega), if_pos trivial]; rfl⟩
  | c + 1, i, hi => by
    have hs : ∀ k, spec_l03Period.l1 (k + 1) w a b q true ((a + i : Nat) : Int) = spec_l03Period.l1 k w a b q (bt w ((a + i : Nat) : Int) == bt w ((a + i + q : Nat) : Int)) ((a + (i + 1) : Nat) : Int) := fun k => by
      simp only [spec_l03Period.l1]
      rw [w64 (x := ((a + i : Nat) : Int) + q) (by omega) (by omega), if_pos (by omega), if_pos trivial, if_pos (by omega), if_pos (by omega), if_pos (by omega), if_pos (by omega), w64 (by omega) (by omega)]
      rfl
    cases hg : (bt w ((a + i : Nat) : Int) == bt w ((a + i + q : Nat) : Int)) with
    | true =>
      obtain ⟨c', h1, h2⟩ := spec_l03Period_l1 hab hb hw hq c (i + 1) (by omega)
      refine ⟨c' + 1, by omega, fun k => ?_⟩
      rw [show k + (c' + 1) = (k + c') + 1 by omega, hs, hg, h2]
      simp only [findE, hg, Bool.not_true, Bool.false_eq_true, if_false]
    | false =>
      refine ⟨2, by omega, fun k => ?_⟩
      rw [hs, hg]
      simp only [spec_l03Period.l1, Bool.false_eq_true, if_false, ite_self]
      simp only [findE, hg, Bool.not_false, if_true, Option.isNone_some, Bool.false_eq_true, if_false]
      rw [w64 (by omega) (by omega)]; rfl
theorem spec_l03Period_eq {k : Nat} {w : ByteArray} {a b : Nat} (hab : a < b) (hb : b ≤ w.size) (hw : w.size ≤ 60) (hk : 10000 ≤ k) : spec_l03Period.f k w a b = some (leastP (w.extract a b) : Int) := by
  have hz : (w.extract a b).size = b - a := by rw [ext_size]; omega
  have h := until_cost (fun k i => spec_l03Period.l0 k w a b i) (b - a) (hasP (w.extract a b)) (fun j => (j : Int)) 0 70
    (fun q hq => by
      by_cases h1 : q < b - a
      · obtain ⟨c', h2, h3⟩ := spec_l03Period_l1 hab hb (by omega) h1 (b - a - q) 0 (by omega)
        refine ⟨c', by omega, fun k _ => ?_⟩
        rw [show k + c' + 1 = (k + c') + 1 by omega]
        simp only [spec_l03Period.l0]
        rw [w64 (by omega) (by omega), if_pos (by omega)]
        have := h3 k
        rw [Nat.add_zero] at this
        rw [this]
        have e : (findE (fun i => !(bt w ((a + i : Nat) : Int) == bt w ((a + i + q : Nat) : Int))) 0 (b - a - q)).isNone = hasP (w.extract a b) q := by
          rw [Bool.eq_iff_iff, Option.isNone_iff_eq_none, findE_none, hasP_iff (by omega), hz]
          constructor
          · intro h i hi
            have := h i (by omega) (by omega)
            rw [ext_bt _ (by omega), ext_bt _ (by omega), show a + (i + q) = a + i + q by omega]
            simpa using this
          · intro h i _ hi
            have := h i (by omega)
            rw [ext_bt _ (by omega), ext_bt _ (by omega), show a + (i + q) = a + i + q by omega] at this
            simpa using this
        rw [e]
      · refine ⟨0, by omega, fun k _ => ?_⟩
        obtain rfl : q = b - a := by omega
        simp only [spec_l03Period.l0]
        have := hasP_all (w.extract a b)
        rw [hz] at this
        rw [w64 (by omega) (by omega), if_neg (by omega), if_pos this]
        congr 1; omega)
    (by have := hasP_all (w.extract a b); rw [hz] at this; exact this)
    (b - a - 1) k 1 (by omega) (by
      have : (b - a - 1 + 1) * (70 + 1) ≤ 60 * 71 := Nat.mul_le_mul (by omega) (by omega)
      omega)
  unfold spec_l03Period.f
  rw [show (1 : Int) = ((1 : Nat) : Int) from rfl, h]
  unfold leastP
  rw [hz]

theorem impl_hasPeriod_eq {w : ByteArray} {p : Int} (h0 : 0 ≤ p) (h1 : p ≤ w.size) (hw : w.size ≤ 1048576) : impl_hasPeriod.f w p = some (hasP w p.toNat) := by
  unfold impl_hasPeriod.f
  rw [if_pos h0, if_pos h1, w64 (by omega) (by omega), if_pos (by omega), if_pos (by omega), toList_beq]
  unfold hasP
  rw [show ((w.size : Int) - p).toNat = w.size - p.toNat by omega]

theorem impl_period_eq {k : Nat} {w : ByteArray} (hw : w.size ≤ 1048576) (h0 : 0 < w.size) (hk : w.size < k) : impl_period.f k w = some (leastP w : Int) := by
  have h := until_gen (fun k i => impl_period.l0 k w i) w.size (hasP w) (fun j => (j : Int)) 0
    (fun k i _ hi => by
      simp only [impl_period.l0]
      rw [impl_hasPeriod_eq (by omega) (by omega) hw, w64 (by omega) (by omega)]
      rfl)
    (hasP_all w) (w.size - 1) k 1 (by omega) (by omega)
  unfold impl_period.f
  rw [show (1 : Int) = ((1 : Nat) : Int) from rfl, h]
  rfl

def runB (w : ByteArray) (a b : Nat) : Bool :=
  decide (2 * leastP (w.extract a b) ≤ b - a) && !(decide (0 < a) && (bt w ((a - 1 : Nat) : Int) == bt w ((a - 1 + leastP (w.extract a b) : Nat) : Int))) && !(decide (b < w.size) && (bt w b == bt w ((b - leastP (w.extract a b) : Nat) : Int)))
def runE (w : ByteArray) (a b : Nat) : S46 := ⟨a, b, leastP (w.extract a b)⟩
def runR (w : ByteArray) (a : Nat) : List S46 := gath (runB w a) (runE w a) (a + 2) (w.size - a - 1)
def runL (w : ByteArray) : List S46 := (List.range' 0 w.size).flatMap (runR w)
theorem runR_len (w : ByteArray) (a : Nat) : (runR w a).length ≤ w.size := Nat.le_trans (gath_len _ _ _ _) (by omega)
theorem runL_len_aux (w : ByteArray) : ∀ c i, ((List.range' i c).flatMap (runR w)).length ≤ c * w.size
  | 0, i => by simp
  | c + 1, i => by
    rw [List.range'_succ, List.flatMap_cons, List.length_append, Nat.succ_mul]
    have := runR_len w i
    have := runL_len_aux w c (i + 1)
    omega
theorem runL_len {w : ByteArray} (hw : w.size ≤ 60) : (runL w).length ≤ 3600 := Nat.le_trans (runL_len_aux w _ _) (Nat.mul_le_mul hw hw)
theorem hasP_left {w : ByteArray} {a b q : Nat} (ha : 1 ≤ a) (hab : a + q ≤ b) (hq : 1 ≤ q) (hb : b ≤ w.size) (h : hasP (w.extract a b) q = true) : hasP (w.extract (a - 1) b) q = (bt w ((a - 1 : Nat) : Int) == bt w ((a - 1 + q : Nat) : Int)) := by
  have hz : (w.extract a b).size = b - a := by rw [ext_size]; omega
  have hz1 : (w.extract (a - 1) b).size = b - (a - 1) := by rw [ext_size]; omega
  rw [hasP_iff (by omega), hz] at h
  rw [Bool.eq_iff_iff, hasP_iff (by omega), hz1, beq_iff_eq]
  constructor
  · intro h1
    have := h1 0 (by omega)
    rw [ext_bt _ (by omega), ext_bt _ (by omega)] at this
    simpa using this
  · intro h1 i hi
    rw [ext_bt _ (by omega), ext_bt _ (by omega)]
    rcases Nat.eq_zero_or_pos i with h0 | h0
    · subst h0; simpa using h1
    · have := h (i - 1) (by omega)
      rw [ext_bt _ (by omega), ext_bt _ (by omega)] at this
      rw [show a - 1 + i = a + (i - 1) by omega, show a - 1 + (i + q) = a + (i - 1 + q) by omega]
      exact this
theorem hasP_right {w : ByteArray} {a b q : Nat} (hab : a + q ≤ b) (hq : 1 ≤ q) (hb : b < w.size) (h : hasP (w.extract a b) q = true) : hasP (w.extract a (b + 1)) q = (bt w b == bt w ((b - q : Nat) : Int)) := by
  have hz : (w.extract a b).size = b - a := by rw [ext_size]; omega
  have hz1 : (w.extract a (b + 1)).size = b + 1 - a := by rw [ext_size]; omega
  rw [hasP_iff (by omega), hz] at h
  rw [Bool.eq_iff_iff, hasP_iff (by omega), hz1, beq_iff_eq]
  constructor
  · intro h1
    have := h1 (b - a - q) (by omega)
    rw [ext_bt _ (by omega), ext_bt _ (by omega), show a + (b - a - q) = b - q by omega, show a + (b - a - q + q) = b by omega] at this
    exact this.symm
  · intro h1 i hi
    rw [ext_bt _ (by omega), ext_bt _ (by omega)]
    by_cases h0 : a + (i + q) = b
    · rw [h0, show a + i = b - q by omega]; exact h1.symm
    · have := h i (by omega)
      rw [ext_bt _ (by omega), ext_bt _ (by omega)] at this
      exact this
theorem spec_runs_tail {k : Nat} {w : ByteArray} (hw : w.size ≤ 60) {a b : Nat} {acc : List S46} (hab : a + 2 ≤ b) (hb : b ≤ w.size) (hacc : acc.length < 100000) (h1 : 2 * leastP (w.extract a b) ≤ b - a) :
    (if (b : Int) < w.size then (if 0 ≤ (b : Int) then (if (b : Int) < w.size then (if 0 ≤ wrap64 ((b : Int) - (leastP (w.extract a b) : Int)) then (if wrap64 ((b : Int) - (leastP (w.extract a b) : Int)) < w.size then (if bt w b = bt w (wrap64 ((b : Int) - (leastP (w.extract a b) : Int))) then spec_l03Runs.l1 k w acc w.size a ((b : Int) + 1) else (if acc.length < 5864062014805 then spec_l03Runs.l1 k w (acc ++ [(⟨a, b, leastP (w.extract a b)⟩ : S46)]) w.size a ((b : Int) + 1) else none)) else none) else none) else none) else none) else (if acc.length < 5864062014805 then spec_l03Runs.l1 k w (acc ++ [(⟨a, b, leastP (w.extract a b)⟩ : S46)]) w.size a ((b : Int) + 1) else none)) =
    (if (!(decide (b < w.size) && (bt w b == bt w ((b - leastP (w.extract a b) : Nat) : Int)))) = true then spec_l03Runs.l1 k w (acc ++ [runE w a b]) w.size a ((b : Int) + 1) else spec_l03Runs.l1 k w acc w.size a ((b : Int) + 1)) := by
  unfold runE
  by_cases h2 : b < w.size
  · rw [if_pos (by omega), if_pos (by omega), if_pos (by omega), w64 (by omega) (by omega), if_pos (by omega), if_pos (by omega), decide_eq_true h2, Bool.true_and]
    rw [show (b : Int) - (leastP (w.extract a b) : Int) = ((b - leastP (w.extract a b) : Nat) : Int) by omega]
    by_cases h3 : bt w b = bt w ((b - leastP (w.extract a b) : Nat) : Int)
    · rw [if_pos h3, h3, beq_self_eq_true, if_neg (by decide)]
    · rw [if_neg h3, beq_eq_false_iff_ne.mpr h3, if_pos (by omega), if_pos (by decide)]
  · rw [if_neg (by omega), if_pos (by omega), decide_eq_false h2, Bool.false_and, if_pos (by decide)]
theorem spec_runs_step {k : Nat} {w : ByteArray} (hw : w.size ≤ 60) {a b : Nat} {acc : List S46} (hk : 20000 ≤ k) (hab : a + 2 ≤ b) (hb : b ≤ w.size) (hacc : acc.length < 100000) :
    spec_l03Runs.l1 (k + 1) w acc w.size a b = if runB w a b = true then spec_l03Runs.l1 k w (acc ++ [runE w a b]) w.size a ((b : Int) + 1) else spec_l03Runs.l1 k w acc w.size a ((b : Int) + 1) := by
  have hz : (w.extract a b).size = b - a := by rw [ext_size]; omega
  obtain ⟨p1, p2, p3, _⟩ := leastP_spec (w := w.extract a b) (by omega)
  simp only [spec_l03Runs.l1]
  rw [if_pos (by omega), spec_l03Period_eq (by omega) (by omega) hw (by omega), Option.bind_some]
  rw [w64 (x := (b : Int) - a) (by omega) (by omega), w64 (x := 2 * _) (by omega) (by omega), w64 (x := (b : Int) + 1) (by omega) (by omega)]
  unfold runB
  by_cases h1 : 2 * leastP (w.extract a b) ≤ b - a
  · have e2 := spec_runs_tail (k := k) hw hab hb hacc h1
    rw [if_neg (by omega), decide_eq_true h1, Bool.true_and]
    by_cases h4 : 0 < a
    · rw [if_pos (by omega), w64 (x := (a : Int) - 1) (by omega) (by omega), if_pos (by omega), if_pos (by omega), w64 (x := (a : Int) - 1 + _) (by omega) (by omega), if_pos (by omega), if_pos (by omega), decide_eq_true h4, Bool.true_and]
      rw [show (a : Int) - 1 + (leastP (w.extract a b) : Int) = ((a - 1 + leastP (w.extract a b) : Nat) : Int) by omega, show (a : Int) - 1 = ((a - 1 : Nat) : Int) by omega]
      by_cases h5 : bt w ((a - 1 : Nat) : Int) = bt w ((a - 1 + leastP (w.extract a b) : Nat) : Int)
      · rw [if_pos h5, h5, beq_self_eq_true, Bool.not_true, Bool.false_and, if_neg (by decide)]
      · rw [if_neg h5, beq_eq_false_iff_ne.mpr h5, Bool.not_false, Bool.true_and]
        exact e2
    · rw [if_neg (by omega), decide_eq_false h4, Bool.false_and, Bool.not_false, Bool.true_and]
      exact e2
  · rw [if_pos (by omega), decide_eq_false h1, Bool.false_and, Bool.false_and, if_neg (by decide)]
theorem spec_l03Runs_eq {k : Nat} {w : ByteArray} (hw : w.size ≤ 60) (hk : 100000 ≤ k) : spec_l03Runs.f k w = some (runL w) := by
  have := fold_cost (fun k (s : List S46) i => spec_l03Runs.l0 k w s w.size i) w.size (fun a s => s ++ runR w a) (fun _ s => some s) (fun i s => s.length ≤ 60 * i) 20000 70
    (fun a s ha hs => by
      refine ⟨w.size - a - 1 + 1, by omega, fun k hk => ?_⟩
      by_cases hz : a + 1 = w.size
      · have e : runR w a = [] := by unfold runR gath; rw [show w.size - a - 1 = 0 by omega]; rfl
        rw [e, List.append_nil]
        rw [show k + (w.size - a - 1 + 1) + 1 = k + 1 + 1 by omega]
        simp only [spec_l03Runs.l0]
        rw [if_pos (by omega), w64 (by omega) (by omega)]
        simp only [spec_l03Runs.l1]
        rw [if_neg (by omega), w64 (by omega) (by omega), show ((a + 1 : Nat) : Int) = (a : Int) + 1 from rfl]
      have h := gather_on2 (fun k (s : List S46) b => spec_l03Runs.l1 k w s w.size a b) (fun k s => spec_l03Runs.l0 k w s w.size ((a : Int) + 1)) (w.size + 1) (a + 2) (runB w a) (runE w a) 20000 100000
        (fun k b acc hk hl hb hacc => spec_runs_step hw hk hl (by omega) hacc)
        (fun k acc hk => by
          simp only [spec_l03Runs.l1]
          rw [if_neg (by omega), w64 (by omega) (by omega)])
        (w.size - a - 1) k (a + 2) s (by omega) (by omega) (by omega) (by omega)
      rw [show k + (w.size - a - 1 + 1) + 1 = (k + (w.size - a - 1) + 1) + 1 by omega]
      simp only [spec_l03Runs.l0]
      rw [if_pos (by omega), w64 (by omega) (by omega)]
      exact h)
    (fun i s hi hs => by
      have := runR_len w i
      rw [List.length_append]; omega)
    (fun k s hk hs => by
      simp only [spec_l03Runs.l0]
      rw [if_neg (by omega)])
    w.size k 0 [] (by omega) (by have : w.size * (70 + 1) ≤ 60 * 71 := Nat.mul_le_mul hw (by omega); omega) (by simp)
  obtain ⟨_, k', _, _, h4⟩ := this
  unfold spec_l03Runs.f
  rw [loopS_append] at h4
  exact h4
theorem impl_runs_tail {α : Type} {w : ByteArray} (hw : w.size ≤ 60) {a b : Nat} (hab : a + 2 ≤ b) (hb : b ≤ w.size) (A N : Option α) :
    (if (b : Int) < w.size then (if (a : Int) ≤ wrap64 ((b : Int) + 1) then (if wrap64 ((b : Int) + 1) ≤ w.size then ((impl_hasPeriod.f (w.extract a (wrap64 ((b : Int) + 1)).toNat) (leastP (w.extract a b) : Int)).bind fun t => (if wrap64 ((b : Int) - a) ≥ wrap64 (2 * (leastP (w.extract a b) : Int)) then (if t = true then N else A) else N)) else none) else none) else (if wrap64 ((b : Int) - a) ≥ wrap64 (2 * (leastP (w.extract a b) : Int)) then A else N)) =
    (if (decide (2 * leastP (w.extract a b) ≤ b - a) && !(decide (b < w.size) && (bt w b == bt w ((b - leastP (w.extract a b) : Nat) : Int)))) = true then A else N) := by
  have hz : (w.extract a b).size = b - a := by rw [ext_size]; omega
  obtain ⟨p1, p2, p3, _⟩ := leastP_spec (w := w.extract a b) (by omega)
  rw [w64 (x := (b : Int) - a) (by omega) (by omega), w64 (x := 2 * _) (by omega) (by omega), w64 (x := (b : Int) + 1) (by omega) (by omega), show ((b : Int) + 1).toNat = b + 1 by omega]
  by_cases h2 : b < w.size
  · rw [if_pos (by omega), if_pos (by omega), if_pos (by omega), impl_hasPeriod_eq (by omega) (by rw [ext_size]; omega) (by rw [ext_size]; omega), Option.bind_some, Int.toNat_natCast, decide_eq_true h2, Bool.true_and]
    by_cases h1 : 2 * leastP (w.extract a b) ≤ b - a
    · rw [if_pos (by omega), hasP_right (by omega) p1 h2 p3, decide_eq_true h1, Bool.true_and]
      cases (bt w b == bt w ((b - leastP (w.extract a b) : Nat) : Int)) <;> simp
    · rw [if_neg (by omega), decide_eq_false h1, Bool.false_and, if_neg (by decide)]
  · rw [if_neg (by omega), decide_eq_false h2, Bool.false_and, Bool.not_false, Bool.and_true]
    by_cases h1 : 2 * leastP (w.extract a b) ≤ b - a
    · rw [if_pos (by omega), if_pos (by simpa using h1)]
    · rw [if_neg (by omega), if_neg (by simpa using h1)]
theorem impl_runs_step {k : Nat} {w : ByteArray} (hw : w.size ≤ 60) {a b : Nat} {acc : List S46} (hk : 20000 ≤ k) (hab : a + 2 ≤ b) (hb : b ≤ w.size) (hacc : acc.length < 100000) :
    impl_RunsOf.l1 (k + 1) w acc a b w.size a = if runB w a b = true then impl_RunsOf.l1 k w (acc ++ [runE w a b]) a ((b : Int) + 1) w.size a else impl_RunsOf.l1 k w acc a ((b : Int) + 1) w.size a := by
  have hz : (w.extract a b).size = b - a := by rw [ext_size]; omega
  obtain ⟨p1, p2, p3, _⟩ := leastP_spec (w := w.extract a b) (by omega)
  simp only [impl_RunsOf.l1]
  rw [if_pos (by omega), if_pos (by omega), if_pos (by omega), Int.toNat_natCast, Int.toNat_natCast, impl_period_eq (by omega) (by omega) (by omega), Option.bind_some]
  rw [if_pos (show acc.length < 5864062014805 by omega)]
  have e := impl_runs_tail hw hab hb (impl_RunsOf.l1 k w (acc ++ [(⟨a, b, leastP (w.extract a b)⟩ : S46)]) a (wrap64 ((b : Int) + 1)) w.size a) (impl_RunsOf.l1 k w acc a (wrap64 ((b : Int) + 1)) w.size a)
  unfold runB
  by_cases h4 : 0 < a
  · rw [if_pos (by omega), w64 (x := (a : Int) - 1) (by omega) (by omega), if_pos (by omega), if_pos (by omega), show ((a : Int) - 1).toNat = a - 1 by omega, impl_hasPeriod_eq (by omega) (by rw [ext_size]; omega) (by rw [ext_size]; omega), Option.bind_some, Int.toNat_natCast, decide_eq_true h4, Bool.true_and]
    by_cases h1 : 2 * leastP (w.extract a b) ≤ b - a
    · rw [hasP_left (by omega) (by omega) p1 hb p3]
      cases h5 : (bt w ((a - 1 : Nat) : Int) == bt w ((a - 1 + leastP (w.extract a b) : Nat) : Int)) with
      | true => rw [if_pos rfl, ite_self, Bool.not_true, Bool.and_false, Bool.false_and, if_neg (by decide), w64 (by omega) (by omega)]
      | false =>
        rw [if_neg (by decide), e, Bool.not_false, Bool.and_true, w64 (by omega) (by omega)]; rfl
    · rw [e, decide_eq_false h1, Bool.false_and, Bool.false_and, Bool.false_and]
      simp only [Bool.false_eq_true, if_false, ite_self]
      rw [w64 (by omega) (by omega)]
  · rw [if_neg (by omega), e, decide_eq_false h4, Bool.false_and, Bool.not_false, Bool.and_true, w64 (by omega) (by omega)]; rfl
theorem impl_Runs_eq {k : Nat} {w : ByteArray} (hw : w.size ≤ 60) (hk : 100000 ≤ k) : impl_RunsOf.l0 k w [] w.size 0 = some (runL w, 0) := by
  have := fold_cost (fun k (s : List S46) i => impl_RunsOf.l0 k w s w.size i) w.size (fun a s => s ++ runR w a) (fun _ s => some (s, (0 : Int))) (fun i s => s.length ≤ 60 * i) 20000 70
    (fun a s ha hs => by
      refine ⟨w.size - a - 1 + 1, by omega, fun k hk => ?_⟩
      by_cases hz : a + 1 = w.size
      · have e : runR w a = [] := by unfold runR gath; rw [show w.size - a - 1 = 0 by omega]; rfl
        rw [e, List.append_nil]
        rw [show k + (w.size - a - 1 + 1) + 1 = k + 1 + 1 by omega]
        simp only [impl_RunsOf.l0]
        rw [if_pos (by omega), w64 (by omega) (by omega)]
        simp only [impl_RunsOf.l1]
        rw [if_neg (by omega), w64 (by omega) (by omega), show ((a + 1 : Nat) : Int) = (a : Int) + 1 from rfl]
      have h := gather_on2 (fun k (s : List S46) b => impl_RunsOf.l1 k w s a b w.size a) (fun k s => impl_RunsOf.l0 k w s w.size ((a : Int) + 1)) (w.size + 1) (a + 2) (runB w a) (runE w a) 20000 100000
        (fun k b acc hk hl hb hacc => impl_runs_step hw hk hl (by omega) hacc)
        (fun k acc hk => by
          simp only [impl_RunsOf.l1]
          rw [if_neg (by omega), w64 (by omega) (by omega)])
        (w.size - a - 1) k (a + 2) s (by omega) (by omega) (by omega) (by omega)
      rw [show k + (w.size - a - 1 + 1) + 1 = (k + (w.size - a - 1) + 1) + 1 by omega]
      simp only [impl_RunsOf.l0]
      rw [if_pos (by omega), w64 (by omega) (by omega)]
      exact h)
    (fun i s hi hs => by
      have := runR_len w i
      rw [List.length_append]; omega)
    (fun k s hk hs => by
      simp only [impl_RunsOf.l0]
      rw [if_neg (by omega)])
    w.size k 0 [] (by omega) (by have : w.size * (70 + 1) ≤ 60 * 71 := Nat.mul_le_mul hw (by omega); omega) (by simp)
  obtain ⟨_, k', _, _, h4⟩ := this
  rw [loopS_append] at h4
  exact h4

def runsR (a0 : ByteArray) : List S46 × Int := if isW a0 then (runL a0, (0 : Int)) else ([], 1)
theorem spec_RunsOf_eq {m : Nat} (hm : 10000000 ≤ m) {a0 : ByteArray} (s0 : a0.size ≤ 1048576) : spec_RunsOf.f m a0 = some (runsR a0) := by
  unfold spec_RunsOf.f runsR
  rw [spec_l01Is_eq (by omega) (by omega)]
  cases hw : isW a0
  · simp
  · have hz := isW_size hw
    simp [spec_l03Runs_eq hz (show 100000 ≤ m by omega)]
theorem impl_RunsOf_eq {m : Nat} (hm : 10000000 ≤ m) (a0 : ByteArray) : impl_RunsOf.f m a0 = some (runsR a0) := by
  unfold impl_RunsOf.f runsR
  rw [wordCode_1]
  cases hw : isW a0
  · simp
  · have hz := isW_size hw
    simpa using impl_Runs_eq hz (show 100000 ≤ m by omega)

theorem spec_l01In_eq (n lo hi : Int) : spec_l01In.f n lo hi = some (inR n lo hi) := by
  unfold spec_l01In.f inR
  by_cases h : n ≥ lo
  · rw [if_pos h, decide_eq_true (show lo ≤ n from h)]; simp
  · rw [if_neg h, decide_eq_false (show ¬ lo ≤ n from h)]; simp

theorem spec_l03Powers_eq {k : Nat} {w : ByteArray} {m : Nat} (hw : w.size ≤ 60) (h1 : 1 ≤ m) (h2 : m ≤ 60) (hk : 100000 ≤ k) : spec_l03Powers.f k w m = some (powL w m) := by
  have := fold_cost (fun k (s : List (List Int)) i => spec_l03Powers.l0 k w m s w.size i) w.size (fun i s => s ++ powR w m i) (fun _ s => some s) (fun i s => s.length ≤ 60 * i) 20000 70
    (fun i s hi hs => by
      have hd : (w.size - i) / m ≤ w.size - i := Nat.div_le_self _ _
      obtain ⟨o1, o2⟩ := div_out (n := w.size - i) (k := m) h1
      refine ⟨(w.size - i) / m + 1, by omega, fun k hk => ?_⟩
      have h := gather_on (fun k (s : List (List Int)) q => spec_l03Powers.l1 k w m s w.size i q) (fun k s => spec_l03Powers.l0 k w m s w.size ((i + 1 : Nat) : Int)) ((w.size - i) / m + 1) (powB w m i) (fun q => [(i : Int), (q : Int)]) 20000 100000
        (fun k q acc hk hq ha => by
          have hin := div_in h1 (show q ≤ (w.size - i) / m by omega)
          have hq2 : q ≤ m * q := Nat.le_mul_of_pos_left q h1
          have e1 : (q : Int) * m = ((m * q : Nat) : Int) := by rw [Int.natCast_mul, Int.mul_comm]
          simp only [spec_l03Powers.l1]
          rw [e1, w64 (x := ((m * q : Nat) : Int)) (by omega) (by omega), w64 (by omega) (by omega), if_pos (by omega), spec_l03Power_eq h1 (by omega) (by omega) (by omega), w64 (by omega) (by omega)]
          simp only [Option.bind_some]
          cases powB w m i q
          · simp
          · simp; omega)
        (fun k acc hk => by
          have e1 : (((w.size - i) / m + 1 : Nat) : Int) * m = ((m * ((w.size - i) / m + 1) : Nat) : Int) := by rw [Int.natCast_mul, Int.mul_comm]
          simp only [spec_l03Powers.l1]
          rw [e1, w64 (x := ((m * ((w.size - i) / m + 1) : Nat) : Int)) (by omega) (by omega), w64 (by omega) (by omega), if_neg (by omega), w64 (by omega) (by omega)]; rfl)
        ((w.size - i) / m) k 1 s (by omega) hk (by omega)
      simp only [spec_l03Powers.l0]
      rw [if_pos (by omega)]
      exact h)
    (fun i s hi hs => by
      have := powR_len w m i
      rw [List.length_append]; omega)
    (fun k s hk hs => by
      simp only [spec_l03Powers.l0]
      rw [if_neg (by omega)])
    w.size k 0 [] (by omega) (by have : w.size * (70 + 1) ≤ 60 * 71 := Nat.mul_le_mul hw (by omega); omega) (by simp)
  obtain ⟨_, k', _, _, h4⟩ := this
  unfold spec_l03Powers.f
  rw [loopS_append] at h4
  exact h4

theorem impl_powersIn_eq {k : Nat} {w : ByteArray} {m : Nat} (hw : w.size ≤ 60) (h1 : 1 ≤ m) (h2 : m ≤ 60) (hk : 100000 ≤ k) : impl_powersIn.f k w m = some (powL w m) := by
  have := fold_cost (fun k (s : List (List Int)) i => impl_powersIn.l0 k w m s w.size i) w.size (fun i s => s ++ powR w m i) (fun _ s => some s) (fun i s => s.length ≤ 60 * i) 20000 70
    (fun i s hi hs => by
      have hd : (w.size - i) / m ≤ w.size - i := Nat.div_le_self _ _
      obtain ⟨o1, o2⟩ := div_out (n := w.size - i) (k := m) h1
      refine ⟨(w.size - i) / m + 1, by omega, fun k hk => ?_⟩
      have h := gather_on (fun k (s : List (List Int)) q => impl_powersIn.l1 k w m s i q w.size i) (fun k s => impl_powersIn.l0 k w m s w.size ((i + 1 : Nat) : Int)) ((w.size - i) / m + 1) (powB w m i) (fun q => [(i : Int), (q : Int)]) 20000 100000
        (fun k q acc hk hq ha => by
          have hin := div_in h1 (show q ≤ (w.size - i) / m by omega)
          have hq2 : q ≤ m * q := Nat.le_mul_of_pos_left q h1
          have e1 : (m : Int) * q = ((m * q : Nat) : Int) := by rw [Int.natCast_mul]
          simp only [impl_powersIn.l1]
          rw [e1, w64 (x := ((m * q : Nat) : Int)) (by omega) (by omega), w64 (by omega) (by omega), if_pos (by omega), if_pos (by omega), if_pos (by omega), Int.toNat_natCast, show ((i : Int) + ((m * q : Nat) : Int)).toNat = i + m * q by omega, impl_hasPeriod_eq (by omega) (by rw [ext_size]; omega) (by rw [ext_size]; omega), Int.toNat_natCast, w64 (by omega) (by omega)]
          simp only [Option.bind_some]
          unfold powB
          cases hasP (w.extract i (i + m * q)) q
          · simp
          · simp; omega)
        (fun k acc hk => by
          have e1 : (m : Int) * (((w.size - i) / m + 1 : Nat) : Int) = ((m * ((w.size - i) / m + 1) : Nat) : Int) := by rw [Int.natCast_mul]
          simp only [impl_powersIn.l1]
          rw [e1, w64 (x := ((m * ((w.size - i) / m + 1) : Nat) : Int)) (by omega) (by omega), w64 (by omega) (by omega), if_neg (by omega), w64 (by omega) (by omega)]; rfl)
        ((w.size - i) / m) k 1 s (by omega) hk (by omega)
      simp only [impl_powersIn.l0]
      rw [if_pos (by omega)]
      exact h)
    (fun i s hi hs => by
      have := powR_len w m i
      rw [List.length_append]; omega)
    (fun k s hk hs => by
      simp only [impl_powersIn.l0]
      rw [if_neg (by omega)])
    w.size k 0 [] (by omega) (by have : w.size * (70 + 1) ≤ 60 * 71 := Nat.mul_le_mul hw (by omega); omega) (by simp)
  obtain ⟨_, k', _, _, h4⟩ := this
  unfold impl_powersIn.f
  rw [loopS_append] at h4
  exact h4

def powersR (a0 : ByteArray) (a1 : Int) : List (List Int) × Int := if isW a0 = true then (if inR a1 2 60 = true then (powL a0 a1.toNat, 0) else ([], 2)) else ([], 1)
theorem spec_PowersIn_eq {m : Nat} (hm : 2000000 ≤ m) {a0 : ByteArray} {a1 : Int} (h0 : a0.size ≤ 140737488351232) (s0 : a0.size ≤ 1048576) : spec_PowersIn.f m a0 a1 = some (powersR a0 a1) := by
  unfold spec_PowersIn.f powersR
  rw [spec_l01Is_eq h0 (by omega), Option.bind_some]
  cases hw : isW a0
  · rfl
  · rw [if_pos rfl, if_pos rfl, spec_l01In_eq, Option.bind_some]
    cases hk : inR a1 2 60
    · rfl
    · have hz := isW_size hw
      obtain ⟨m0, m1⟩ := inR_true hk
      obtain ⟨n, rfl⟩ : ∃ n : Nat, a1 = n := ⟨a1.toNat, by omega⟩
      rw [if_pos rfl, if_pos rfl, spec_l03Powers_eq hz (by omega) (by omega) (by omega), Option.bind_some, Int.toNat_natCast]
theorem impl_PowersIn_eq {m : Nat} (hm : 2000000 ≤ m) (a0 : ByteArray) (a1 : Int) : impl_PowersIn.f m a0 a1 = some (powersR a0 a1) := by
  unfold impl_PowersIn.f powersR
  cases hw : isW a0
  · rfl
  · cases hk : inR a1 2 60
    · rfl
    · have hz := isW_size hw
      obtain ⟨m0, m1⟩ := inR_true hk
      obtain ⟨n, rfl⟩ : ∃ n : Nat, a1 = n := ⟨a1.toNat, by omega⟩
      rw [if_pos rfl, if_pos rfl, if_pos rfl, if_pos rfl, impl_powersIn_eq hz (by omega) (by omega) (by omega), Option.bind_some, Int.toNat_natCast]

theorem powL_mem {w : ByteArray} {m : Nat} (h1 : 1 ≤ m) {x : List Int} : x ∈ powL w m ↔ ∃ i q : Nat, 1 ≤ q ∧ i + m * q ≤ w.size ∧ powB w m i q = true ∧ x = [(i : Int), (q : Int)] := by
  unfold powL
  rw [List.mem_flatMap]
  constructor
  · rintro ⟨i, hi, hx⟩
    obtain ⟨q, q1, q2, q3, rfl⟩ := gath_mem.mp hx
    rw [List.mem_range'_1] at hi
    have := div_in h1 (show q ≤ (w.size - i) / m by omega)
    exact ⟨i, q, q1, by omega, q3, rfl⟩
  · rintro ⟨i, q, hq, hi, hp, rfl⟩
    have hq2 : q ≤ m * q := Nat.le_mul_of_pos_left q h1
    refine ⟨i, by rw [List.mem_range'_1]; omega, gath_mem.mpr ⟨q, hq, ?_, hp, rfl⟩⟩
    have : q ≤ (w.size - i) / m := (Nat.le_div_iff_mul_le h1).mpr (by rw [Nat.mul_comm]; omega)
    omega
theorem rd0 (a b : Int) : rd [a, b] 0 = a := rfl
theorem rd1 (a b : Int) : rd [a, b] 1 = b := rfl

def ovL (w : ByteArray) : List (List Int) := (powL w 2).filter fun l => !ovB w l
theorem ovL_len {w : ByteArray} (hw : w.size ≤ 60) : (ovL w).length ≤ 3600 := Nat.le_trans (List.length_filter_le _ _) (powL_len hw)

theorem drop_getD {L : List (List Int)} {n : Nat} (h : n < L.length) : L.drop n = L.getD n [] :: L.drop (n + 1) := by
  rw [List.drop_eq_getElem_cons h, List.getD_eq_getElem?_getD, List.getElem?_eq_getElem h]; rfl
theorem spec_ov_l0 {w : ByteArray} (hw : w.size ≤ 60) : ∀ (d n k : Nat) (acc : List (List Int)), n + d = (powL w 2).length → d < k → acc.length ≤ n → spec_l03Overlaps.l0 k w (powL w 2) acc n = some (acc ++ ((powL w 2).drop n).filter fun l => !ovB w l)
  | 0, n, k, acc, hn, hk, ha => by
    obtain ⟨k, rfl⟩ := rounds_pos (show 0 < k by omega)
    simp only [spec_l03Overlaps.l0]
    rw [if_neg (by omega), List.drop_of_length_le (by omega)]; simp
  | d + 1, n, k, acc, hn, hk, ha => by
    obtain ⟨k, rfl⟩ := rounds_pos (show 0 < k by omega)
    have hl := powL_len (k := 2) hw
    have hlt : n < (powL w 2).length := by omega
    have hmem : (powL w 2).getD n [] ∈ powL w 2 := by rw [List.getD_eq_getElem?_getD, List.getElem?_eq_getElem hlt]; exact List.getElem_mem hlt
    obtain ⟨i, q, h1, h2, h3, hx⟩ := (powL_mem (by omega)).mp hmem
    have hr : rd_L6 (powL w 2) (n : Int) = [(i : Int), (q : Int)] := by
      rw [← hx]; unfold rd_L6; simp
    rw [drop_getD hlt, hx, List.filter_cons]
    simp only [spec_l03Overlaps.l0, hr, rd0, rd1]
    rw [if_pos (by omega), if_pos (by omega), if_pos (by simp), if_pos (by simp), w64 (x := 2 * (q : Int)) (by omega) (by omega), w64 (x := (i : Int) + 2 * q) (by omega) (by omega), w64 (x := (n : Int) + 1) (by omega) (by omega), show (n : Int) + 1 = ((n + 1 : Nat) : Int) by omega]
    have hov : ovB w [(i : Int), (q : Int)] = (decide ((w.size : Int) ≤ (i : Int) + 2 * q) || !(bt w ((i : Int) + 2 * q) == bt w i)) := rfl
    rw [hov]
    by_cases c1 : (i : Int) + 2 * q < w.size
    · rw [if_pos c1, if_pos (by omega), if_pos (by omega), if_pos (by omega), decide_eq_false (by omega), Bool.false_or, Bool.not_not]
      by_cases c2 : bt w ((i : Int) + 2 * q) = bt w i
      · rw [if_pos c2, if_pos (by omega), if_pos (by simpa using c2), spec_ov_l0 hw d (n + 1) k _ (by omega) (by omega) (by simp; omega)]
        simp
      · rw [if_neg c2, if_neg (by simpa using c2), spec_ov_l0 hw d (n + 1) k _ (by omega) (by omega) (by omega)]
    · rw [if_neg c1, decide_eq_true (show (w.size : Int) ≤ (i : Int) + 2 * q by omega), if_neg (by simp), spec_ov_l0 hw d (n + 1) k _ (by omega) (by omega) (by omega)]
theorem spec_overlaps_eq {k : Nat} {w : ByteArray} (hw : w.size ≤ 60) (hk : 100000 ≤ k) : spec_l03Overlaps.f k w = some (ovL w) := by
  unfold spec_l03Overlaps.f
  have := spec_l03Powers_eq (k := k) (w := w) (m := 2) hw (by omega) (by omega) hk
  rw [show ((2 : Nat) : Int) = 2 from rfl] at this
  have hl := powL_len (k := 2) hw
  rw [this, Option.bind_some, show (0 : Int) = ((0 : Nat) : Int) from rfl, spec_ov_l0 hw (powL w 2).length 0 k [] (by omega) (by omega) (by simp)]
  rfl

theorem pow_ok {w : ByteArray} (hw : w.size ≤ 60) : (powL w 2).all okRow = true := by
  rw [List.all_eq_true]
  intro x hx
  obtain ⟨i, q, h1, h2, h3, rfl⟩ := (powL_mem (by omega)).mp hx
  unfold okRow inR
  rw [rd0, rd1]
  rw [decide_eq_true (show 2 ≤ [(i : Int), (q : Int)].length by simp), decide_eq_true (show (0 : Int) ≤ i by omega), decide_eq_true (show (i : Int) ≤ 1000 by omega), decide_eq_true (show (0 : Int) ≤ q by omega), decide_eq_true (show (q : Int) ≤ 1000 by omega)]; rfl
theorem impl_overlaps_eq {k : Nat} {w : ByteArray} (hw : w.size ≤ 60) (hk : 100000 ≤ k) : impl_overlaps.f k w = some (ovL w) := by
  unfold impl_overlaps.f
  have := impl_powersIn_eq (k := k) (w := w) (m := 2) hw (by omega) (by omega) hk
  rw [show ((2 : Nat) : Int) = 2 from rfl] at this
  have hl := powL_len (k := 2) hw
  rw [this, Option.bind_some, if_pos ⟨by omega, by omega, pow_ok hw⟩]; rfl

def ovlR (a0 : ByteArray) : List (List Int) × Int := if isW a0 = true then (ovL a0, 0) else ([], 1)
theorem spec_OverlapsIn_eq {m : Nat} (hm : 2000000 ≤ m) {a0 : ByteArray} (h0 : a0.size ≤ 140737488351232) (s0 : a0.size ≤ 1048576) : spec_OverlapsIn.f m a0 = some (ovlR a0) := by
  unfold spec_OverlapsIn.f ovlR
  rw [spec_l01Is_eq h0 (by omega), Option.bind_some]
  cases hw : isW a0
  · rfl
  · rw [if_pos rfl, if_pos rfl, spec_overlaps_eq (isW_size hw) (by omega), Option.bind_some]
theorem impl_OverlapsIn_eq {m : Nat} (hm : 2000000 ≤ m) (a0 : ByteArray) : impl_OverlapsIn.f m a0 = some (ovlR a0) := by
  unfold impl_OverlapsIn.f ovlR
  rw [wordCode_1, Option.bind_some]
  cases hw : isW a0
  · rfl
  · rw [if_pos rfl, if_pos rfl, if_pos rfl, impl_overlaps_eq (isW_size hw) (by omega), Option.bind_some]

/-- the order of strings, on their bytes -/
def lt8 (x y : List UInt8) : Prop := Op.bytesLess x y = true
theorem lt8_irr (x : List UInt8) : ¬ lt8 x x := fun h => by unfold lt8 at h; rw [less_irrefl] at h; cases h
theorem lt8_trans {x y z : List UInt8} (h : lt8 x y) (h' : lt8 y z) : lt8 x z := by
  unfold lt8 at *
  rw [less_bo_aux] at *
  exact lessI_trans h h'
theorem lt8_tri (x y : List UInt8) : lt8 x y ∨ x = y ∨ lt8 y x := by
  unfold lt8
  rw [less_bo_aux, less_bo_aux]
  by_cases e : x = y
  · exact .inr (.inl e)
  · rcases lessI_total (x := x.map fun b => (b.toNat : Int)) (y := y.map fun b => (b.toNat : Int)) (fun h => e (bo_data_inj h)) with h | h
    · exact .inl h
    · exact .inr (.inr h)
theorem le8_iff {x y : List UInt8} : x ≤ y ↔ ¬ lt8 y x := by
  unfold lt8
  rw [Go.Proofs.bytesLess_eq, decide_eq_true_iff]
  exact Iff.rfl
theorem strict_unique : ∀ {l l' : List (List UInt8)}, l.Pairwise lt8 → l'.Pairwise lt8 → (∀ x, x ∈ l ↔ x ∈ l') → l = l'
  | [], [], _, _, _ => rfl
  | [], b :: _, _, _, h => by have := (h b).mpr (List.mem_cons_self ..); simp at this
  | a :: _, [], _, _, h => by have := (h a).mp (List.mem_cons_self ..); simp at this
  | a :: l, b :: l', h1, h2, h => by
    rw [List.pairwise_cons] at h1 h2
    have e : a = b := by
      rcases List.mem_cons.mp ((h a).mp (List.mem_cons_self ..)) with e | e
      · exact e
      · rcases List.mem_cons.mp ((h b).mpr (List.mem_cons_self ..)) with e' | e'
        · exact e'.symm
        · exact absurd (lt8_trans (h1.1 b e') (h2.1 a e)) (lt8_irr _)
    subst e
    rw [strict_unique h1.2 h2.2 fun x => ⟨fun hx => by
      rcases List.mem_cons.mp ((h x).mp (List.mem_cons_of_mem _ hx)) with e | e
      · subst e; exact absurd (h1.1 _ hx) (lt8_irr _)
      · exact e, fun hx => by
      rcases List.mem_cons.mp ((h x).mpr (List.mem_cons_of_mem _ hx)) with e | e
      · subst e; exact absurd (h2.1 _ hx) (lt8_irr _)
      · exact e⟩]
theorem compact_strict (d : Array (List UInt8)) (hs : ∀ i j, i < j → j < d.size → ¬ lt8 d[j]! d[i]!) : ∀ m, m ≤ d.size → (Lib.compactUpTo d m).Pairwise lt8 ∧ ∀ x, x ∈ Lib.compactUpTo d m ↔ ∃ j, j < m ∧ x = d[j]!
  | 0, _ => ⟨by simp [Lib.compactUpTo], fun x => by simp [Lib.compactUpTo]⟩
  | m + 1, hm => by
    obtain ⟨ih1, ih2⟩ := compact_strict d hs m (by omega)
    rw [Lib.compactUpTo_succ]
    cases hk : Lib.keeps d m with
    | true =>
      rw [if_pos rfl]
      refine ⟨?_, fun x => ?_⟩
      · rw [List.pairwise_append]
        refine ⟨ih1, List.pairwise_singleton _ _, fun a ha b hb => ?_⟩
        rw [List.mem_singleton] at hb
        subst hb
        obtain ⟨j, hj, rfl⟩ := (ih2 a).mp ha
        unfold Lib.keeps at hk
        rw [decide_eq_true_iff] at hk
        have h1 : lt8 d[m - 1]! d[m]! := by
          rcases lt8_tri d[m - 1]! d[m]! with h | h | h
          · exact h
          · rcases hk with hk | hk
            · omega
            · exact absurd h.symm hk
          · exact absurd h (hs (m - 1) m (by omega) (by omega))
        rcases Nat.lt_or_ge j (m - 1) with hlt | hge
        · rcases lt8_tri d[j]! d[m - 1]! with h | h | h
          · exact lt8_trans h h1
          · rw [h]; exact h1
          · exact absurd h (hs j (m - 1) hlt (by omega))
        · obtain rfl : j = m - 1 := by omega
          exact h1
      · rw [List.mem_append, List.mem_singleton, ih2]
        constructor
        · rintro (⟨j, hj, e⟩ | e)
          · exact ⟨j, by omega, e⟩
          · exact ⟨m, by omega, e⟩
        · rintro ⟨j, hj, e⟩
          by_cases h : j = m
          · subst h; exact .inr e
          · exact .inl ⟨j, by omega, e⟩
    | false =>
      simp only [Bool.false_eq_true, if_false, List.append_nil]
      refine ⟨ih1, fun x => ?_⟩
      rw [ih2]
      unfold Lib.keeps at hk
      rw [decide_eq_false_iff_not] at hk
      have h0 : m ≠ 0 := fun e => hk (.inl e)
      have h1 : d[m]! = d[m - 1]! := Classical.byContradiction fun h => hk (.inr h)
      constructor
      · rintro ⟨j, hj, e⟩; exact ⟨j, by omega, e⟩
      · rintro ⟨j, hj, e⟩
        by_cases h : j = m
        · subst h; exact ⟨j - 1, by omega, by rw [e, h1]⟩
        · exact ⟨j, by omega, e⟩
theorem compact_sorted {l : List (List UInt8)} (hs : l.Pairwise fun x y => ¬ lt8 y x) : (Lib.compact l).Pairwise lt8 ∧ ∀ x, x ∈ Lib.compact l ↔ x ∈ l := by
  unfold Lib.compact
  obtain ⟨h1, h2⟩ := compact_strict l.toArray (fun i j hij hj => by
    have hj' : j < l.length := by simpa using hj
    rw [List.pairwise_iff_getElem] at hs
    have := hs i j (by omega) hj' hij
    rw [getElem!_pos l.toArray j hj, getElem!_pos l.toArray i (by simp; omega)]
    simpa using this) l.length (by simp)
  refine ⟨h1, fun x => ?_⟩
  rw [h2, List.mem_iff_getElem]
  constructor
  · rintro ⟨j, hj, e⟩; exact ⟨j, hj, by rw [e, getElem!_pos l.toArray j (by simpa using hj)]; simp⟩
  · rintro ⟨j, hj, e⟩; exact ⟨j, hj, by rw [← e, getElem!_pos l.toArray j (by simpa using hj)]; simp⟩
theorem sorted_le (l : List (List UInt8)) : (l.mergeSort fun x y => decide (x ≤ y)).Pairwise fun x y => ¬ lt8 y x := by
  have h := List.pairwise_mergeSort (le := fun x y : List UInt8 => decide (x ≤ y)) (fun a b c h1 h2 => by
    rw [decide_eq_true_iff] at *; exact List.le_trans h1 h2) (fun a b => by
    rw [Bool.or_eq_true, decide_eq_true_iff, decide_eq_true_iff]; exact List.le_total a b) l
  exact h.imp fun {a b} hab => by rw [decide_eq_true_iff] at hab; exact le8_iff.mp hab
/-- words in strictly ascending order -/
def ascW (l : List ByteArray) : Prop := (l.map (·.data.toList)).Pairwise lt8
theorem toW_data (x : List UInt8) : (toW x).data.toList = x := by simp [toW]
theorem data_toW (w : ByteArray) : toW w.data.toList = w := ba_ext (by simp [toW])
theorem map_toW (l : List (List UInt8)) : (l.map toW).map (·.data.toList) = l := by
  rw [List.map_map]
  conv => rhs; rw [← List.map_id l]
  exact List.map_congr_left fun x _ => toW_data x
theorem sortW_asc (l : List ByteArray) : ascW (sortW l) ∧ ∀ x, x ∈ sortW l ↔ x ∈ l := by
  obtain ⟨h1, h2⟩ := compact_sorted (sorted_le (l.map (·.data.toList)))
  unfold sortW compactL sortL ascW
  rw [map_toW, map_toW]
  refine ⟨h1, fun x => ?_⟩
  rw [List.mem_map]
  constructor
  · rintro ⟨y, hy, rfl⟩
    have := (h2 y).mp hy
    rw [List.mem_mergeSort, List.mem_map] at this
    obtain ⟨z, hz, rfl⟩ := this
    rw [data_toW]; exact hz
  · intro hx
    refine ⟨x.data.toList, (h2 _).mpr ?_, data_toW x⟩
    rw [List.mem_mergeSort, List.mem_map]
    exact ⟨x, hx, rfl⟩
theorem asc_unique {l l' : List ByteArray} (h : ascW l) (h' : ascW l') (hm : ∀ x, x ∈ l ↔ x ∈ l') : l = l' := by
  have e := strict_unique h h' (fun x => by
    rw [List.mem_map, List.mem_map]
    constructor
    · rintro ⟨y, hy, e⟩; exact ⟨y, (hm y).mp hy, e⟩
    · rintro ⟨y, hy, e⟩; exact ⟨y, (hm y).mpr hy, e⟩)
  have := congrArg (List.map toW) e
  rw [List.map_map, List.map_map] at this
  have i : (toW ∘ fun x : ByteArray => x.data.toList) = id := funext fun x => data_toW x
  rw [i, List.map_id, List.map_id] at this
  exact this

def ltW (a b : ByteArray) : Bool := Op.bytesLess a.toList b.toList
theorem ltW_iff (a b : ByteArray) : ltW a b = true ↔ lt8 a.data.toList b.data.toList := by unfold ltW lt8; rw [Lib.toList_data, Lib.toList_data]
def putAt (l : List ByteArray) (w : ByteArray) : Nat → List ByteArray
  | 0 => w :: l
  | a + 1 => if ltW w (l.getD a ByteArray.empty) = true then putAt l w a else if l.getD a ByteArray.empty = w then l else l.take (a + 1) ++ [w] ++ l.drop (a + 1)
def putW (l : List ByteArray) (w : ByteArray) : List ByteArray := putAt l w l.length
theorem putAt_len (l : List ByteArray) (w : ByteArray) : ∀ a, a ≤ l.length → (putAt l w a).length ≤ l.length + 1
  | 0, _ => by simp [putAt]
  | a + 1, h => by
    unfold putAt
    split
    · exact putAt_len l w a (by omega)
    · split
      · omega
      · simp; omega
theorem spec_put_l0 {l : List ByteArray} {w : ByteArray} (hl : l.length ≤ 1000000) : ∀ a k, a < k → a ≤ l.length → spec_l01Put.l0 k l w (a : Int) = some (putAt l w a)
  | 0, k, hk, ha => by
    obtain ⟨k, rfl⟩ := rounds_pos (show 0 < k by omega)
    simp only [spec_l01Put.l0]
    rw [if_neg (by omega), Option.bind_some, if_pos (by omega), if_pos (by omega), Option.bind_some, if_pos (by simp), Option.bind_some, if_pos (by simp), Option.bind_some, Option.bind_some, if_pos (by simp; omega)]
    simp [putAt]
  | a + 1, k, hk, ha => by
    obtain ⟨k, rfl⟩ := rounds_pos (show 0 < k by omega)
    simp only [spec_l01Put.l0, putAt]
    have e : wrap64 (((a + 1 : Nat) : Int) - 1) = (a : Int) := by rw [w64 (by omega) (by omega)]; omega
    have r : rdOf ByteArray.empty l (a : Int) = l.getD a ByteArray.empty := by unfold rdOf; simp
    rw [if_pos (by omega), e, r, if_pos (by omega), if_pos (by omega)]
    have el : (Op.bytesLess w.toList (l.getD a ByteArray.empty).toList) = ltW w (l.getD a ByteArray.empty) := rfl
    rw [el]
    by_cases h1 : ltW w (l.getD a ByteArray.empty) = true
    · rw [if_pos h1, if_pos h1, spec_put_l0 hl a k (by omega) (by omega)]
    · rw [if_neg h1, if_neg h1]
      by_cases h2 : l.getD a ByteArray.empty = w
      · rw [if_pos (toList_iff.mpr h2), if_pos h2]
      · rw [if_neg (fun h => h2 (toList_iff.mp h)), if_neg h2, Option.bind_some, if_pos (by omega), if_pos (by omega), Option.bind_some, if_pos (by simp; omega), Option.bind_some, if_pos (by simp; omega), Option.bind_some, Option.bind_some, if_pos (by simp; omega)]
        rw [Int.toNat_natCast, List.nil_append]
theorem spec_l01Put_eq {l : List ByteArray} {w : ByteArray} {k : Nat} (hl : l.length ≤ 1000000) (hk : l.length < k) : spec_l01Put.f k l w = some (putW l w) := by
  unfold spec_l01Put.f putW
  exact spec_put_l0 hl _ _ hk (Nat.le_refl _)
theorem asc_get {l : List ByteArray} (h : ascW l) {i j : Nat} (hij : i < j) (hj : j < l.length) : lt8 (l.getD i ByteArray.empty).data.toList (l.getD j ByteArray.empty).data.toList := by
  unfold ascW at h
  rw [List.pairwise_iff_getElem] at h
  have := h i j (by simp; omega) (by simpa using hj) hij
  rw [List.getElem_map, List.getElem_map] at this
  rw [List.getD_eq_getElem?_getD, List.getD_eq_getElem?_getD, List.getElem?_eq_getElem hj, List.getElem?_eq_getElem (show i < l.length by omega)]
  exact this
theorem mem_getD {l : List ByteArray} {x : ByteArray} (h : x ∈ l) : ∃ j, j < l.length ∧ l.getD j ByteArray.empty = x := by
  obtain ⟨j, hj, e⟩ := List.mem_iff_getElem.mp h
  exact ⟨j, hj, by rw [List.getD_eq_getElem?_getD, List.getElem?_eq_getElem hj]; exact e⟩
theorem getD_mem {l : List ByteArray} {j : Nat} (hj : j < l.length) : l.getD j ByteArray.empty ∈ l := by
  rw [List.getD_eq_getElem?_getD, List.getElem?_eq_getElem hj]
  exact List.getElem_mem hj
theorem putAt_asc {l : List ByteArray} {w : ByteArray} (h : ascW l) : ∀ a, a ≤ l.length → (∀ j, a ≤ j → j < l.length → lt8 w.data.toList (l.getD j ByteArray.empty).data.toList) → ascW (putAt l w a) ∧ ∀ x, x ∈ putAt l w a ↔ x ∈ l ∨ x = w
  | 0, _, hj => by
    unfold putAt
    refine ⟨?_, fun x => by rw [List.mem_cons]; exact Or.comm⟩
    unfold ascW
    rw [List.map_cons, List.pairwise_cons]
    refine ⟨fun y hy => ?_, h⟩
    obtain ⟨z, hz, rfl⟩ := List.mem_map.mp hy
    obtain ⟨j, hj1, rfl⟩ := mem_getD hz
    exact hj j (Nat.zero_le _) hj1
  | a + 1, ha, hj => by
    unfold putAt
    by_cases h1 : ltW w (l.getD a ByteArray.empty) = true
    · rw [if_pos h1]
      refine putAt_asc h a (by omega) fun j hj1 hj2 => ?_
      by_cases e : j = a
      · subst e; exact (ltW_iff _ _).mp h1
      · exact hj j (by omega) hj2
    · rw [if_neg h1]
      by_cases h2 : l.getD a ByteArray.empty = w
      · rw [if_pos h2]
        refine ⟨h, fun x => ⟨.inl, fun hx => ?_⟩⟩
        rcases hx with hx | rfl
        · exact hx
        · rw [← h2]; exact getD_mem (by omega)
      · rw [if_neg h2]
        have h3 : lt8 (l.getD a ByteArray.empty).data.toList w.data.toList := by
          rcases lt8_tri (l.getD a ByteArray.empty).data.toList w.data.toList with e | e | e
          · exact e
          · exact absurd (ba_ext e) h2
          · exact absurd ((ltW_iff _ _).mpr e) h1
        have hlow : ∀ x, x ∈ l.take (a + 1) → lt8 x.data.toList w.data.toList := fun x hx => by
          obtain ⟨j, hj1, e⟩ := List.mem_iff_getElem.mp hx
          rw [List.length_take] at hj1
          rw [List.getElem_take] at e
          have e2 : l.getD j ByteArray.empty = x := by rw [List.getD_eq_getElem?_getD, List.getElem?_eq_getElem (show j < l.length by omega)]; exact e
          rw [← e2]
          by_cases e3 : j = a
          · subst e3; exact h3
          · exact lt8_trans (asc_get h (show j < a by omega) (by omega)) h3
        have hhigh : ∀ x, x ∈ l.drop (a + 1) → lt8 w.data.toList x.data.toList := fun x hx => by
          obtain ⟨j, hj1, e⟩ := List.mem_iff_getElem.mp hx
          rw [List.length_drop] at hj1
          rw [List.getElem_drop] at e
          have e2 : l.getD (a + 1 + j) ByteArray.empty = x := by rw [List.getD_eq_getElem?_getD, List.getElem?_eq_getElem (show a + 1 + j < l.length by omega)]; exact e
          rw [← e2]
          exact hj (a + 1 + j) (by omega) (by omega)
        have hsplit : l.take (a + 1) ++ l.drop (a + 1) = l := List.take_append_drop _ _
        have h' := h
        unfold ascW at h'
        rw [← hsplit, List.map_append, List.pairwise_append] at h'
        refine ⟨?_, fun x => ?_⟩
        · unfold ascW
          rw [List.map_append, List.map_append, List.pairwise_append, List.pairwise_append]
          refine ⟨⟨h'.1, by simp, fun y hy z hz => ?_⟩, h'.2.1, fun y hy z hz => ?_⟩
          · obtain ⟨y', hy', rfl⟩ := List.mem_map.mp hy
            simp only [List.map_cons, List.map_nil, List.mem_singleton] at hz
            subst hz
            exact hlow y' hy'
          · rcases List.mem_append.mp hy with hy | hy
            · exact h'.2.2 y hy z hz
            · simp only [List.map_cons, List.map_nil, List.mem_singleton] at hy
              subst hy
              obtain ⟨z', hz', rfl⟩ := List.mem_map.mp hz
              exact hhigh z' hz'
        · rw [List.mem_append, List.mem_append, List.mem_singleton]
          conv => rhs; lhs; rw [← hsplit, List.mem_append]
          constructor
          · rintro ((h | h) | h)
            · exact .inl (.inl h)
            · exact .inr h
            · exact .inl (.inr h)
          · rintro ((h | h) | h)
            · exact .inl (.inl h)
            · exact .inr h
            · exact .inl (.inr h)
theorem putW_asc {l : List ByteArray} {w : ByteArray} (h : ascW l) : ascW (putW l w) ∧ ∀ x, x ∈ putW l w ↔ x ∈ l ∨ x = w :=
  putAt_asc h _ (Nat.le_refl _) fun j h1 h2 => by omega
theorem fold_put : ∀ (xs l : List ByteArray), ascW l → ascW (xs.foldl putW l) ∧ ∀ x, x ∈ xs.foldl putW l ↔ x ∈ l ∨ x ∈ xs
  | [], l, h => ⟨h, fun x => by simp⟩
  | y :: xs, l, h => by
    obtain ⟨h1, h2⟩ := putW_asc (w := y) h
    obtain ⟨h3, h4⟩ := fold_put xs (putW l y) h1
    refine ⟨h3, fun x => ?_⟩
    rw [List.foldl_cons, h4, h2, List.mem_cons, or_assoc]
/-- sorted, and no word twice: as the one does it and as the other does it -/
theorem sort_put (xs : List ByteArray) : xs.foldl putW [] = sortW xs := by
  obtain ⟨h1, h2⟩ := fold_put xs [] (by unfold ascW; simp)
  obtain ⟨h3, h4⟩ := sortW_asc xs
  exact asc_unique h1 h3 fun x => by rw [h2, h4]; simp
theorem putW_len (l : List ByteArray) (w : ByteArray) : (putW l w).length ≤ l.length + 1 := putAt_len l w _ (Nat.le_refl _)
theorem foldW_len : ∀ (xs l : List ByteArray), (xs.foldl putW l).length ≤ l.length + xs.length
  | [], l => by simp
  | y :: xs, l => by
    rw [List.foldl_cons]
    have := foldW_len xs (putW l y)
    have := putW_len l y
    simp only [List.length_cons]; omega

def sqS (w : ByteArray) (l : List Int) : ByteArray := w.extract (rd l 0).toNat (rd l 0 + 2 * rd l 1).toNat
def sqsW (w : ByteArray) : List ByteArray := (powL w 2).map (sqS w)
theorem sqsW_len {w : ByteArray} (hw : w.size ≤ 60) : (sqsW w).length ≤ 3600 := by unfold sqsW; rw [List.length_map]; exact powL_len hw
theorem dropS {L : List (List Int)} {n : Nat} (h : n < L.length) : L.drop n = L.getD n [] :: L.drop (n + 1) := by
  rw [List.drop_eq_getElem_cons h, List.getD_eq_getElem?_getD, List.getElem?_eq_getElem h]; rfl
theorem impl_sq_l0 {w : ByteArray} (hw : w.size ≤ 60) : ∀ (d n k : Nat) (acc : List ByteArray), n + d = (powL w 2).length → d < k → acc.length = n → impl_SquaresOf.l0 k w acc (powL w 2) (powL w 2).length n = (impl_sorted.f (acc ++ ((powL w 2).drop n).map (sqS w))).bind fun t => some (t, 0)
  | 0, n, k, acc, hn, hk, ha => by
    obtain ⟨k, rfl⟩ := rounds_pos (show 0 < k by omega)
    simp only [impl_SquaresOf.l0]
    rw [if_neg (by omega), List.drop_of_length_le (by omega), List.map_nil, List.append_nil]
  | d + 1, n, k, acc, hn, hk, ha => by
    obtain ⟨k, rfl⟩ := rounds_pos (show 0 < k by omega)
    have hl := powL_len (k := 2) hw
    have hlt : n < (powL w 2).length := by omega
    have hmem : (powL w 2).getD n [] ∈ powL w 2 := by rw [List.getD_eq_getElem?_getD, List.getElem?_eq_getElem hlt]; exact List.getElem_mem hlt
    obtain ⟨i, q, h1, h2, h3, hx⟩ := (powL_mem (by omega)).mp hmem
    have hr : rd_L6 (powL w 2) (n : Int) = [(i : Int), (q : Int)] := by
      rw [← hx]; unfold rd_L6; simp
    rw [dropS hlt, hx, List.map_cons]
    simp only [impl_SquaresOf.l0, hr, rd0, rd1]
    rw [if_pos (by omega), if_pos (by omega), if_pos (by omega), if_pos (by simp), if_pos (by simp), if_pos (by omega), w64 (x := 2 * (q : Int)) (by omega) (by omega), w64 (x := (i : Int) + 2 * q) (by omega) (by omega), if_pos (by omega), if_pos (by omega), if_pos (by omega), w64 (x := (n : Int) + 1) (by omega) (by omega), show (n : Int) + 1 = ((n + 1 : Nat) : Int) by omega]
    rw [impl_sq_l0 hw d (n + 1) k _ (by omega) (by omega) (by simp; omega), List.append_assoc]
    rfl
theorem spec_sq_l0 {w : ByteArray} (hw : w.size ≤ 60) : ∀ (d n k : Nat) (acc : List ByteArray), n + d = (powL w 2).length → d + 10000 < k → acc.length ≤ n → spec_SquaresOf.l0 k w (powL w 2) acc n = some ((((powL w 2).drop n).map (sqS w)).foldl putW acc, 0)
  | 0, n, k, acc, hn, hk, ha => by
    obtain ⟨k, rfl⟩ := rounds_pos (show 0 < k by omega)
    simp only [spec_SquaresOf.l0]
    rw [if_neg (by omega), List.drop_of_length_le (by omega), List.map_nil, List.foldl_nil]
  | d + 1, n, k, acc, hn, hk, ha => by
    obtain ⟨k, rfl⟩ := rounds_pos (show 0 < k by omega)
    have hl := powL_len (k := 2) hw
    have hlt : n < (powL w 2).length := by omega
    have hmem : (powL w 2).getD n [] ∈ powL w 2 := by rw [List.getD_eq_getElem?_getD, List.getElem?_eq_getElem hlt]; exact List.getElem_mem hlt
    obtain ⟨i, q, h1, h2, h3, hx⟩ := (powL_mem (by omega)).mp hmem
    have hr : rd_L6 (powL w 2) (n : Int) = [(i : Int), (q : Int)] := by
      rw [← hx]; unfold rd_L6; simp
    rw [dropS hlt, hx, List.map_cons, List.foldl_cons]
    simp only [spec_SquaresOf.l0, hr, rd0, rd1]
    rw [if_pos (by omega), if_pos (by omega), if_pos (by simp), if_pos (by simp), if_pos (by omega), w64 (x := 2 * (q : Int)) (by omega) (by omega), w64 (x := (i : Int) + 2 * q) (by omega) (by omega), if_pos (by omega), if_pos (by omega), spec_l01Put_eq (by omega) (by omega), Option.bind_some, w64 (x := (n : Int) + 1) (by omega) (by omega), show (n : Int) + 1 = ((n + 1 : Nat) : Int) by omega]
    have hp := putW_len acc (w.extract (i : Int).toNat ((i : Int) + 2 * (q : Int)).toNat)
    rw [spec_sq_l0 hw d (n + 1) k _ (by omega) (by omega) (by omega)]
    rfl

def sqR (a0 : ByteArray) : List ByteArray × Int := if isW a0 = true then (sortW (sqsW a0), 0) else ([], 1)
theorem spec_SquaresOf_eq {m : Nat} (hm : 2000000 ≤ m) {a0 : ByteArray} (h0 : a0.size ≤ 140737488351232) (s0 : a0.size ≤ 1048576) : spec_SquaresOf.f m a0 = some (sqR a0) := by
  unfold spec_SquaresOf.f sqR
  rw [spec_l01Is_eq h0 (by omega), Option.bind_some]
  cases hw : isW a0
  · rfl
  · have hz := isW_size hw
    have hl := powL_len (k := 2) hz
    have := spec_l03Powers_eq (k := m) (w := a0) (m := 2) hz (by omega) (by omega) (by omega)
    rw [show ((2 : Nat) : Int) = 2 from rfl] at this
    rw [if_pos rfl, if_pos rfl, this, Option.bind_some, show (0 : Int) = ((0 : Nat) : Int) from rfl, spec_sq_l0 hz (powL a0 2).length 0 m [] (by omega) (by omega) (by simp), List.drop_zero]
    rw [show (List.map (sqS a0) (powL a0 2)) = sqsW a0 from rfl, sort_put]; rfl
theorem impl_SquaresOf_eq {m : Nat} (hm : 2000000 ≤ m) (a0 : ByteArray) : impl_SquaresOf.f m a0 = some (sqR a0) := by
  unfold impl_SquaresOf.f sqR
  rw [wordCode_1, Option.bind_some]
  cases hw : isW a0
  · rfl
  · have hz := isW_size hw
    have hl := powL_len (k := 2) hz
    have hs := sqsW_len hz
    have := impl_powersIn_eq (k := m) (w := a0) (m := 2) hz (by omega) (by omega) (by omega)
    rw [show ((2 : Nat) : Int) = 2 from rfl] at this
    rw [if_pos rfl, if_pos rfl, if_pos rfl, this, Option.bind_some, show (0 : Int) = ((0 : Nat) : Int) from rfl, impl_sq_l0 hz (powL a0 2).length 0 m [] (by omega) (by omega) (by simp), List.drop_zero]
    rw [show (List.map (sqS a0) (powL a0 2)) = sqsW a0 from rfl, List.nil_append]
    unfold impl_sorted.f
    rw [if_pos (by omega), Option.bind_some]; rfl

def cpR (a0 : ByteArray) (a1 : Int) : Int × Int := if isW a0 then (if inR a1 2 60 then (((powL a0 a1.toNat).length : Int), 0) else (0, 2)) else (0, 1)
theorem spec_CountPowers_eq {m : Nat} (hm : 10000000 ≤ m) {a0 : ByteArray} (a1 : Int) (s0 : a0.size ≤ 1048576) : spec_CountPowers.f m a0 a1 = some (cpR a0 a1) := by
  unfold spec_CountPowers.f cpR
  rw [spec_l01Is_eq (by omega) (by omega), spec_l01In_eq]
  cases hw : isW a0
  · simp
  · have hz := isW_size hw
    cases hr : inR a1 2 60
    · simp
    · obtain ⟨r1, r2⟩ := inR_true hr
      have := spec_l03Powers_eq (k := m) (w := a0) (m := a1.toNat) hz (by omega) (by omega) (by omega)
      rw [show ((a1.toNat : Nat) : Int) = a1 by omega] at this
      simp [this]
theorem impl_CountPowers_eq {m : Nat} (hm : 10000000 ≤ m) (a0 : ByteArray) (a1 : Int) : impl_CountPowers.f m a0 a1 = some (cpR a0 a1) := by
  unfold impl_CountPowers.f impl_PowersIn.f cpR
  cases hw : isW a0
  · simp
  · have hz := isW_size hw
    cases hr : inR a1 2 60
    · simp
    · obtain ⟨r1, r2⟩ := inR_true hr
      have := impl_powersIn_eq (k := m) (w := a0) (m := a1.toNat) hz (by omega) (by omega) (by omega)
      rw [show ((a1.toNat : Nat) : Int) = a1 by omega] at this
      simp [this]

def fsqR (a0 : ByteArray) : Int × Int × Int := if isW a0 = true then (if (firW a0 0).2.2 = true then ((firW a0 0).1, (firW a0 0).2.1, 0) else (0, 0, 4)) else (0, 0, 1)
def cmpI (a b : Int) : Int := if a < b then -1 else if a > b then 1 else 0
theorem cmp_eq (a b : Int) : R.cmp_Compare_int64.f a b = some (cmpI a b) := by
  unfold R.cmp_Compare_int64.f R.cmp_isNaN_int64.f cmpI
  simp only [Option.bind_some, bne_self_eq_false, Bool.false_eq_true, if_false]
  split
  · rfl
  · split <;> rfl
theorem or_eq {k : Nat} (hk : 10 ≤ k) (a b : Int) : R.cmp_Or_int.f k [a, b] = some (if a = 0 then b else a) := by
  obtain ⟨k, rfl⟩ : ∃ m, k = m + 3 := ⟨k - 3, by omega⟩
  unfold R.cmp_Or_int.f
  have e1 : wrap64 ((0 : Int) + 1) = 1 := by unfold wrap64; omega
  have e2 : wrap64 ((1 : Int) + 1) = 2 := by unfold wrap64; omega
  simp only [R.cmp_Or_int.l0, e1, e2, rd0, rd1, List.length_cons, List.length_nil]
  rw [if_pos (by decide), if_pos (by decide), if_pos (by decide)]
  by_cases h : a = 0
  · rw [if_pos h, if_pos h, if_pos (by decide), if_pos (by decide), if_pos (by decide)]
    by_cases h2 : b = 0
    · rw [if_pos h2, if_neg (by decide), h2]
    · rw [if_neg h2]
  · rw [if_neg h, if_neg h]
/-- which of two squares ends first; of two that end at one place, which one is shorter -/
def kLt (i q i' q' : Nat) : Prop := i + 2 * q < i' + 2 * q' ∨ (i + 2 * q = i' + 2 * q' ∧ q < q')
theorem lit_eq {k : Nat} (hk : 10 ≤ k) {i q i' q' : Nat} (h : i + 2 * q ≤ 1000) (h' : i' + 2 * q' ≤ 1000) : ∃ c, R.impl_FirstSquare_lit1.f k [(i : Int), (q : Int)] [(i' : Int), (q' : Int)] = some c ∧ (c < 0 ↔ kLt i q i' q') := by
  unfold R.impl_FirstSquare_lit1.f
  simp only [rd0, rd1]
  rw [if_pos (by simp), if_pos (by simp), if_pos (by simp), if_pos (by simp), w64 (x := 2 * (q : Int)) (by omega) (by omega), w64 (x := 2 * (q' : Int)) (by omega) (by omega), w64 (x := (i : Int) + 2 * q) (by omega) (by omega), w64 (x := (i' : Int) + 2 * q') (by omega) (by omega), cmp_eq, Option.bind_some, cmp_eq, Option.bind_some, or_eq hk, Option.bind_some]
  refine ⟨_, rfl, ?_⟩
  unfold cmpI kLt
  constructor
  · intro h
    split at h <;> split at h <;> omega
  · intro h
    split <;> split <;> omega
theorem minRow_eq {k : Nat} (hk : 10 ≤ k) : ∀ (l : List (List Int)) (b : List Int), (∀ x ∈ b :: l, ∃ i q : Nat, i + 2 * q ≤ 1000 ∧ x = [(i : Int), (q : Int)]) →
    ∃ i q : Nat, minRow k l b = some [(i : Int), (q : Int)] ∧ [(i : Int), (q : Int)] ∈ b :: l ∧ ∀ i' q' : Nat, [(i' : Int), (q' : Int)] ∈ b :: l → ¬ kLt i' q' i q
  | [], b, h => by
    obtain ⟨i, q, h1, rfl⟩ := h b (List.mem_cons_self ..)
    refine ⟨i, q, rfl, List.mem_cons_self .., fun i' q' hm => ?_⟩
    rw [List.mem_singleton] at hm
    simp only [List.cons.injEq, and_true] at hm
    unfold kLt; omega
  | x :: l, b, h => by
    obtain ⟨i, q, h1, hb⟩ := h b (List.mem_cons_self ..)
    obtain ⟨i2, q2, h2, hx⟩ := h x (List.mem_cons_of_mem _ (List.mem_cons_self ..))
    obtain ⟨c, hc1, hc2⟩ := lit_eq hk h2 h1
    unfold minRow
    rw [hb, hx, hc1, Option.bind_some]
    by_cases hneg : c < 0
    · rw [if_pos hneg]
      obtain ⟨i3, q3, e1, e2, e3⟩ := minRow_eq hk l [(i2 : Int), (q2 : Int)] (fun y hy => h y (by rw [hx]; exact List.mem_cons_of_mem _ hy))
      refine ⟨i3, q3, e1, List.mem_cons_of_mem _ e2, fun i' q' hm => ?_⟩
      rcases List.mem_cons.mp hm with hm | hm
      · have := e3 i2 q2 (List.mem_cons_self ..)
        have h5 := hc2.mp hneg
        simp only [List.cons.injEq, and_true] at hm
        unfold kLt at *; omega
      · exact e3 i' q' hm
    · rw [if_neg hneg]
      obtain ⟨i3, q3, e1, e2, e3⟩ := minRow_eq hk l [(i : Int), (q : Int)] (fun y hy => h y (by
        rw [hb]
        rcases List.mem_cons.mp hy with hy | hy
        · rw [hy]; exact List.mem_cons_self ..
        · exact List.mem_cons_of_mem _ (List.mem_cons_of_mem _ hy)))
      refine ⟨i3, q3, e1, ?_, fun i' q' hm => ?_⟩
      · rcases List.mem_cons.mp e2 with e2 | e2
        · rw [e2]; exact List.mem_cons_self ..
        · exact List.mem_cons_of_mem _ (List.mem_cons_of_mem _ e2)
      · rcases List.mem_cons.mp hm with hm | hm
        · exact e3 i' q' (by rw [hm]; exact List.mem_cons_self ..)
        · rcases List.mem_cons.mp hm with hm | hm
          · have h5 : ¬ kLt i2 q2 i q := fun h => hneg (hc2.mpr h)
            have := e3 i q (List.mem_cons_self ..)
            simp only [List.cons.injEq, and_true] at hm
            unfold kLt at *; omega
          · exact e3 i' q' (List.mem_cons_of_mem _ hm)
theorem fsqTail_eq {k : Nat} {w : ByteArray} (hw : w.size ≤ 60) (hk : 10 ≤ k) : fsqTail k (powL w 2) = some (if (firW w 0).2.2 = true then ((firW w 0).1, (firW w 0).2.1, 0) else (0, 0, 4)) := by
  unfold fsqTail
  have hl := powL_len (k := 2) hw
  rcases firW_spec w 0 with ⟨h1, h2⟩ | ⟨e, q, h1, h2, h3, h4, h5, h6, h7, h8⟩
  · have hnil : powL w 2 = [] := by
      rw [List.eq_nil_iff_forall_not_mem]
      intro x hx
      obtain ⟨i, q, hq, hi, hp, rfl⟩ := (powL_mem (by omega)).mp hx
      have := h2 (i + 2 * q) q (by omega) hi hq (by omega)
      unfold sqE at this
      rw [show i + 2 * q - 2 * q = i by omega, hp] at this
      cases this
    rw [hnil, if_pos (show ([] : List (List Int)).length = 0 from rfl), h1]; rfl
  · have hin : [((e - 2 * q : Nat) : Int), (q : Int)] ∈ powL w 2 := (powL_mem (by omega)).mpr ⟨e - 2 * q, q, h3, by omega, h5, rfl⟩
    have h0 : 0 < (powL w 2).length := List.length_pos_of_mem hin
    have hsplit : powL w 2 = (powL w 2).getD 0 [] :: (powL w 2).drop 1 := by
      cases hL : powL w 2 with
      | nil => rw [hL] at h0; simp at h0
      | cons a l => rfl
    obtain ⟨i2, q2, g1, g2, g3⟩ := minRow_eq hk ((powL w 2).drop 1) ((powL w 2).getD 0 []) (fun x hx => by
      rw [← hsplit] at hx
      obtain ⟨i, q, hq, hi, hp, rfl⟩ := (powL_mem (by omega)).mp hx
      exact ⟨i, q, by omega, rfl⟩)
    rw [← hsplit] at g2 g3
    obtain ⟨i4, q4, p1, p2, p3, p4⟩ := (powL_mem (by omega)).mp g2
    simp only [List.cons.injEq, and_true] at p4
    obtain ⟨rfl, rfl⟩ : i2 = i4 ∧ q2 = q4 := by omega
    have g4 := g3 _ _ hin
    have k1 : ¬ i2 + 2 * q2 < e := fun hlt => by
      have := h8 (i2 + 2 * q2) q2 (by omega) hlt p1 (by omega)
      unfold sqE at this
      rw [show i2 + 2 * q2 - 2 * q2 = i2 by omega, p3] at this
      cases this
    have k2 : ¬ (i2 + 2 * q2 = e ∧ q2 < q) := fun ⟨he, hlt⟩ => by
      have := h7 q2 p1 hlt
      unfold sqE at this
      rw [show e - 2 * q2 = i2 by omega, p3] at this
      cases this
    unfold kLt at g4
    have k3 : q2 = q := by omega
    have k4 : i2 = e - 2 * q := by omega
    rw [if_neg (by omega), if_pos (by omega), g1, Option.bind_some, if_pos (by simp), h6, k3, k4]
    rfl

theorem impl_FirstSquare_eq {m : Nat} (hm : 3000000 ≤ m) (a0 : ByteArray) : impl_FirstSquare.f m a0 = some (fsqR a0) := by
  unfold impl_FirstSquare.f fsqR
  cases hw : isW a0
  · rfl
  · have hz := isW_size hw
    have := impl_powersIn_eq (k := m) (w := a0) (m := 2) hz (by omega) (by omega) (by omega)
    rw [show ((2 : Nat) : Int) = 2 from rfl] at this
    rw [if_pos rfl, if_pos rfl, this, Option.bind_some, fsqTail_eq hz (by omega)]

def sqfB (w : ByteArray) : Bool := decide (powL w 2 = [])

theorem impl_isSquareFree_eq {k : Nat} {w : ByteArray} (hw : w.size ≤ 60) (hk : 100000 ≤ k) : impl_isSquareFree.f k w = some (sqfB w) := by
  unfold impl_isSquareFree.f sqfB
  have := impl_powersIn_eq (k := k) (w := w) (m := 2) hw (by omega) (by omega) hk
  rw [show ((2 : Nat) : Int) = 2 from rfl] at this
  rw [this, Option.bind_some]
  cases powL w 2 <;> simp
  omega

def sqfR (a0 : ByteArray) : Bool × Int := if isW a0 then (sqfB a0, 0) else (false, 1)
theorem impl_IsSquareFree_eq {m : Nat} (hm : 3000000 ≤ m) (a0 : ByteArray) : impl_IsSquareFree.f m a0 = some (sqfR a0) := by
  unfold impl_IsSquareFree.f sqfR
  rw [wordCode_1]
  cases hw : isW a0
  · simp
  · simp [impl_isSquareFree_eq (isW_size hw) (show 100000 ≤ m by omega)]

def iofR (a0 : ByteArray) : Bool × Int := if isW a0 = true then (((ovL a0).length : Int) == 0, 0) else (false, 1)
theorem impl_IsOverlapFree_eq {m : Nat} (hm : 2000000 ≤ m) (a0 : ByteArray) : impl_IsOverlapFree.f m a0 = some (iofR a0) := by
  unfold impl_IsOverlapFree.f iofR
  rw [wordCode_1, Option.bind_some]
  cases hw : isW a0
  · rfl
  · rw [if_pos rfl, if_pos rfl, if_pos rfl, impl_overlaps_eq (isW_size hw) (by omega), Option.bind_some]

theorem impl_periods_eq {k : Nat} {w : ByteArray} (hw : w.size ≤ 1048576) (hk : w.size + 1 < k) : impl_periods.f k w = some (perL w) := by
  have h := gather_gen (fun k acc i => impl_periods.l0 k w acc i) (w.size + 1) (hasP w) (fun p => (p : Int)) (fun l => l) 0
    (fun k i acc _ hi ha => by
      simp only [impl_periods.l0]
      rw [if_pos (by omega), impl_hasPeriod_eq (by omega) (by omega) hw, w64 (by omega) (by omega)]
      rw [Int.toNat_natCast]
      cases hasP w i
      · simp
      · simp; omega)
    (fun k acc _ => by simp only [impl_periods.l0]; rw [if_neg (by omega)])
    w.size k 1 [] (by omega) (by omega) (by simp)
  unfold impl_periods.f
  rw [show (1 : Int) = ((1 : Nat) : Int) from rfl, h]
  rfl

theorem impl_PeriodsOf_eq {k : Nat} {w : ByteArray} (h0 : w.size ≤ 1048576) (hk : w.size + 1 < k) : impl_PeriodsOf.f k w = some (if isW w then (perL w, 0) else ([], 1)) := by
  unfold impl_PeriodsOf.f
  rw [wordCode_1, impl_periods_eq h0 hk]
  cases isW w <;> simp

theorem isW_ext {w : ByteArray} {i j : Nat} (h : isW w = true) : isW (w.extract i j) = true := by
  rw [isW_iff] at h ⊢
  refine ⟨by rw [ext_size]; omega, fun x hx => h.2 x ?_⟩
  rw [bo_extract] at hx
  exact List.mem_of_mem_take (List.mem_of_mem_drop hx)

theorem first_free {w : ByteArray} : (!(firW w 0).2.2) = sqfB w := by
  unfold sqfB
  rcases firW_spec w 0 with ⟨h1, h2⟩ | ⟨e, q, h1, h2, h3, h4, h5, h6, _⟩
  · rw [h1, Bool.not_false]
    symm
    rw [decide_eq_true_iff, powL_nil (by omega)]
    intro i q hq hi
    have := h2 (i + 2 * q) q (by omega) hi hq (by omega)
    unfold sqE at this
    rw [show i + 2 * q - 2 * q = i by omega] at this
    exact this
  · rw [h6, Bool.not_true]
    symm
    rw [decide_eq_false_iff_not, powL_nil (by omega)]
    intro h
    have := h (e - 2 * q) q h3 (by omega)
    unfold sqE at h5
    rw [this] at h5; cases h5

/-- the halves of a square -/
theorem halves {w : ByteArray} {i q : Nat} (hi : i + 2 * q ≤ w.size) (h : powB w 2 i q = true) : w.extract i (i + q) = w.extract (i + q) (i + q + q) := by
  have hz : (w.extract i (i + 2 * q)).size = 2 * q := by rw [ext_size]; omega
  unfold powB at h
  rw [hasP_iff (by omega), hz] at h
  have hu : (w.extract (i + q) (i + q + q)).size = q := by rw [ext_size]; omega
  have := (ext_eq_iff (s := w) (u := w.extract (i + q) (i + q + q)) (i := i) (by omega)).mpr fun m hm => by
    rw [hu] at hm
    rw [ext_bt _ (by omega)]
    have := h m (by omega)
    rw [ext_bt _ (by omega), ext_bt _ (by omega), show i + (m + q) = i + q + m by omega] at this
    exact this
  rw [hu] at this
  exact this
/-- the first square ends first -/
theorem first_ends_first {w : ByteArray} {i q : Nat} (hq : 1 ≤ q) (hi : i + 2 * q ≤ w.size) (h : powB w 2 i q = true) : ∃ j p : Nat, firW w 0 = ((j : Int), (p : Int), true) ∧ j + 2 * p ≤ i + 2 * q := by
  have hs : sqE w (i + 2 * q) q = true := by
    unfold sqE
    rw [show i + 2 * q - 2 * q = i by omega]; exact h
  rcases firW_spec w 0 with ⟨h1, h2⟩ | ⟨e, p, h1, h2, h3, h4, h5, h6, h7, h8⟩
  · rw [h2 (i + 2 * q) q (by omega) hi hq (by omega)] at hs; cases hs
  · refine ⟨e - 2 * p, p, h6, ?_⟩
    rcases Nat.lt_or_ge (i + 2 * q) e with hlt | hge
    · rw [h8 (i + 2 * q) q (by omega) hlt hq (by omega)] at hs; cases hs
    · omega
theorem sortW_le (xs : List ByteArray) : (sortW xs).length ≤ xs.length := by
  rw [← sort_put]
  have := foldW_len xs []
  simpa using this
theorem powL_rows {w : ByteArray} {m : Nat} (hm : 1 ≤ m) : ∀ x ∈ powL w m, x.length ≤ 2 := fun x hx => by
  obtain ⟨i, q, _, _, _, rfl⟩ := (powL_mem hm).mp hx
  simp

theorem sqfB_iff {w : ByteArray} : sqfB w = true ↔ ∀ i q, 1 ≤ q → i + 2 * q ≤ w.size → powB w 2 i q = false := by
  unfold sqfB
  rw [decide_eq_true_iff, powL_nil (by omega)]

theorem runL_mem {w : ByteArray} {x : S46} : x ∈ runL w ↔ ∃ a b : Nat, a + 2 ≤ b ∧ b ≤ w.size ∧ runB w a b = true ∧ x = runE w a b := by
  unfold runL
  rw [List.mem_flatMap]
  constructor
  · rintro ⟨a, ha, hx⟩
    obtain ⟨b, b1, b2, b3, rfl⟩ := gath_mem.mp hx
    rw [List.mem_range'_1] at ha
    exact ⟨a, b, b1, by omega, b3, rfl⟩
  · rintro ⟨a, b, h1, h2, h3, rfl⟩
    exact ⟨a, by rw [List.mem_range'_1]; omega, gath_mem.mpr ⟨b, h1, by omega, h3, rfl⟩⟩
theorem hasP_part {w : ByteArray} {a b c d q : Nat} (h : hasP (w.extract a b) q = true) (hac : a ≤ c) (hcd : c + q ≤ d) (hdb : d ≤ b) (hb : b ≤ w.size) : hasP (w.extract c d) q = true := by
  have z1 : (w.extract a b).size = b - a := by rw [ext_size]; omega
  have z2 : (w.extract c d).size = d - c := by rw [ext_size]; omega
  rw [hasP_iff (by omega), z1] at h
  rw [hasP_iff (by omega), z2]
  intro i hi
  rw [ext_bt _ (by omega), ext_bt _ (by omega)]
  have := h (c - a + i) (by omega)
  rw [ext_bt _ (by omega), ext_bt _ (by omega), show a + (c - a + i) = c + i by omega, show a + (c - a + i + q) = c + (i + q) by omega] at this
  exact this
/-- a part with a period grows to the left as far as it may -/
theorem grow_left {w : ByteArray} {q : Nat} (hq : 1 ≤ q) : ∀ (a b : Nat), a + q ≤ b → b ≤ w.size → hasP (w.extract a b) q = true → ∃ c, c ≤ a ∧ hasP (w.extract c b) q = true ∧ (0 < c → bt w ((c - 1 : Nat) : Int) ≠ bt w ((c - 1 + q : Nat) : Int))
  | 0, b, hab, hb, h => ⟨0, Nat.le_refl _, h, fun h0 => by omega⟩
  | a + 1, b, hab, hb, h => by
    by_cases c : bt w ((a : Nat) : Int) = bt w ((a + q : Nat) : Int)
    · have e := hasP_left (w := w) (a := a + 1) (b := b) (q := q) (by omega) (by omega) hq hb h
      rw [show a + 1 - 1 = a by omega, c, beq_self_eq_true] at e
      obtain ⟨x, x1, x2, x3⟩ := grow_left hq a b (by omega) hb e
      exact ⟨x, by omega, x2, x3⟩
    · exact ⟨a + 1, Nat.le_refl _, h, fun _ => by rw [show a + 1 - 1 = a by omega]; exact c⟩
theorem grow_right {w : ByteArray} {q : Nat} (hq : 1 ≤ q) : ∀ (d a b : Nat), b + d = w.size → a + q ≤ b → hasP (w.extract a b) q = true → ∃ c, b ≤ c ∧ c ≤ w.size ∧ hasP (w.extract a c) q = true ∧ (c < w.size → bt w (c : Int) ≠ bt w ((c - q : Nat) : Int))
  | 0, a, b, hb, hab, h => ⟨b, Nat.le_refl _, by omega, h, fun h0 => by omega⟩
  | d + 1, a, b, hb, hab, h => by
    by_cases c : bt w (b : Int) = bt w ((b - q : Nat) : Int)
    · have e := hasP_right (w := w) (a := a) (b := b) (q := q) hab hq (by omega) h
      rw [c, beq_self_eq_true] at e
      obtain ⟨x, x1, x2, x3, x4⟩ := grow_right hq d a (b + 1) (by omega) (by omega) e
      exact ⟨x, by omega, x2, x3, x4⟩
    · exact ⟨b, Nat.le_refl _, by omega, h, fun _ => c⟩
/-- of all squares, one with the least root -/
theorem least_square {w : ByteArray} : ∀ (n q i : Nat), q ≤ n → 1 ≤ q → i + 2 * q ≤ w.size → powB w 2 i q = true → ∃ i q, 1 ≤ q ∧ i + 2 * q ≤ w.size ∧ powB w 2 i q = true ∧ ∀ i' q', 1 ≤ q' → q' < q → i' + 2 * q' ≤ w.size → powB w 2 i' q' = false
  | 0, q, i, hn, hq, _, _ => by omega
  | n + 1, q, i, hn, hq, hi, hp => by
    by_cases c : ∃ i' q', 1 ≤ q' ∧ q' < q ∧ i' + 2 * q' ≤ w.size ∧ powB w 2 i' q' = true
    · obtain ⟨i', q', c1, c2, c3, c4⟩ := c
      exact least_square n q' i' (by omega) c1 c3 c4
    · refine ⟨i, q, hq, hi, hp, fun i' q' h1 h2 h3 => ?_⟩
      rw [Bool.eq_false_iff]
      intro h4
      exact c ⟨i', q', h1, h2, h3, h4⟩
theorem leastP_le {w : ByteArray} {q : Nat} (h0 : 0 < w.size) (hq : 1 ≤ q) (h : hasP w q = true) : leastP w ≤ q := Nat.le_of_not_lt fun hlt => by
  rw [(leastP_spec h0).2.2.2 q hq hlt] at h; cases h
theorem runs_sqf {w : ByteArray} : sqfB w = true ↔ runL w = [] := by
  constructor
  · intro h
    rw [List.eq_nil_iff_forall_not_mem]
    intro x hx
    obtain ⟨a, b, h1, h2, h3, _⟩ := runL_mem.mp hx
    unfold runB at h3
    rw [Bool.and_eq_true, Bool.and_eq_true, decide_eq_true_iff] at h3
    obtain ⟨l1, l2, l3, l4⟩ := leastP_spec (w := w.extract a b) (by rw [ext_size]; omega)
    have := sqfB_iff.mp h a (leastP (w.extract a b)) l1 (by omega)
    unfold powB at this
    rw [hasP_part l3 (Nat.le_refl _) (by omega) (by omega) h2] at this
    cases this
  · intro h
    rw [sqfB_iff]
    intro i q hq hi
    rw [Bool.eq_false_iff]
    intro hp
    obtain ⟨i, q, hq, hi, hp, hmin⟩ := least_square q q i (Nat.le_refl _) hq hi hp
    have hp0 := hp
    unfold powB at hp
    -- the least period of the square is its root
    have hsq : ∀ p, 1 ≤ p → p < q → hasP (w.extract i (i + 2 * q)) p = false := fun p p1 p2 => by
      rw [Bool.eq_false_iff]
      intro h3
      have := hmin i p p1 p2 (by omega)
      unfold powB at this
      rw [hasP_part h3 (Nat.le_refl _) (by omega) (by omega) hi] at this
      cases this
    obtain ⟨a, a1, a2, a3⟩ := grow_left hq i (i + 2 * q) (by omega) hi hp
    obtain ⟨b, b1, b2, b3, b4⟩ := grow_right hq (w.size - (i + 2 * q)) a (i + 2 * q) (by omega) (by omega) a2
    have hlp : leastP (w.extract a b) = q := by
      obtain ⟨l1, l2, l3, l4⟩ := leastP_spec (w := w.extract a b) (by rw [ext_size]; omega)
      have hle := leastP_le (by rw [ext_size]; omega) hq b3
      rcases Nat.lt_or_ge (leastP (w.extract a b)) q with hlt | hge
      · have := hsq _ l1 hlt
        rw [hasP_part l3 a1 (by omega) b1 b2] at this
        cases this
      · omega
    have hm : runE w a b ∈ runL w := runL_mem.mpr ⟨a, b, by omega, b2, by
      unfold runB
      rw [hlp, decide_eq_true (show 2 * q ≤ b - a by omega), Bool.true_and, Bool.and_eq_true]
      constructor
      · by_cases c : 0 < a
        · rw [decide_eq_true c, beq_eq_false_iff_ne.mpr (a3 c)]; rfl
        · rw [decide_eq_false c]; rfl
      · by_cases c : b < w.size
        · rw [decide_eq_true c, beq_eq_false_iff_ne.mpr (b4 c)]; rfl
        · rw [decide_eq_false c]; rfl, rfl⟩
    rw [h] at hm; cases hm

theorem rp_draw2 {l : List Int} {k : Nat} (hl : OkC l) (hk : 3000000 ≤ k) {a : ByteArray} (ha : spec_l03Spoil.f k l = some a) : ∃ x, spec_DrawCountPowers.f k l = some (a, x) := by
  obtain ⟨h, e⟩ := l01From_ok (k := k) hl (by omega)
  unfold spec_DrawCountPowers.f
  obtain ⟨x, t1, h1, e1, ht1, x0⟩ := l01Pick_ok (t := 0) (h := h) [2, 2, 3, 4, 60, 1, 61] (P := fun r => 0 ≤ r ∧ r ≤ 61) hl zero_ok (by decide) (by decide)
  rw [ha, Option.bind_some, e, Option.bind_some]
  dsimp only
  rw [e1, Option.bind_some]
  exact ⟨_, rfl⟩
theorem rp_draw3 {l : List Int} {k : Nat} (hl : OkC l) (hk : 3000000 ≤ k) {a : ByteArray} (ha : spec_l03Spoil.f k l = some a) : ∃ x, spec_DrawPowersIn.f k l = some (a, x) := by
  obtain ⟨h, e⟩ := l01From_ok (k := k) hl (by omega)
  unfold spec_DrawPowersIn.f
  obtain ⟨x, t1, h1, e1, ht1, x0⟩ := l01Pick_ok (t := 0) (h := h) [2, 2, 2, 3, 3, 4, 5, 60, 1, 61] (P := fun r => 0 ≤ r ∧ r ≤ 61) hl zero_ok (by decide) (by decide)
  rw [ha, Option.bind_some, e, Option.bind_some]
  dsimp only
  rw [e1, Option.bind_some]
  exact ⟨_, rfl⟩
theorem rp_factor {w : ByteArray} (hW : isW w = true) {i q : Nat} (h : i + q ≤ w.size) : impl_FactorAt.f w i q = some (w.extract i (i + q), 0) := by
  have hz := isW_size hW
  unfold impl_FactorAt.f
  have h1 : inR (i : Int) 0 (w.size : Int) = true := by unfold inR; simp; omega
  have h2 : inR (q : Int) 0 (wrap64 ((w.size : Int) - i)) = true := by rw [w64 (by omega) (by omega)]; unfold inR; simp; omega
  rw [hW, if_pos rfl, h1, h2, Bool.and_self, if_pos rfl, Int.toNat_natCast, show ((i : Int) + q).toNat = i + q by omega]
theorem rp_squares {w : ByteArray} (hW : isW w = true) {fi fq c : Int} (hf : fsqR w = (fi, fq, c)) (j : Nat) (hj : j < (powL w 2).length) :
    ∃ (i q s m2 t q2 e : Int) (u : ByteArray), rd_L6 (powL w 2) (j : Int) = [i, q] ∧ impl_FactorAt.f w i q = some (u, 0) ∧ wrap64 (i + q) = s ∧ impl_FactorAt.f w s q = some (u, 0) ∧ c = 0 ∧ wrap64 (2 * q) = m2 ∧ wrap64 (i + m2) = t ∧ wrap64 (2 * fq) = q2 ∧ wrap64 (fi + q2) = e ∧ e ≤ t := by
  have hz := isW_size hW
  have hmem : (powL w 2).getD j [] ∈ powL w 2 := by rw [List.getD_eq_getElem?_getD, List.getElem?_eq_getElem hj]; exact List.getElem_mem hj
  obtain ⟨i, q, h1, h2, h3, hx⟩ := (powL_mem (by omega)).mp hmem
  obtain ⟨p, r, e1, e2⟩ := first_ends_first h1 h2 h3
  unfold fsqR at hf
  rw [hW, if_pos rfl, e1] at hf
  simp only [if_true, Prod.mk.injEq] at hf
  obtain ⟨rfl, rfl, rfl⟩ := hf
  have b1 : p + 2 * r ≤ 60 := by omega
  refine ⟨i, q, ((i + q : Nat) : Int), ((2 * q : Nat) : Int), ((i + 2 * q : Nat) : Int), ((2 * r : Nat) : Int), ((p + 2 * r : Nat) : Int), w.extract i (i + q), ?_, rp_factor hW (by omega), ?_, ?_, rfl, ?_, ?_, ?_, ?_, by omega⟩
  · rw [← hx]; unfold rd_L6; simp
  · rw [w64 (by omega) (by omega)]; omega
  · rw [rp_factor hW (by omega), halves h2 h3]
  · rw [w64 (by omega) (by omega)]; omega
  · rw [w64 (by omega) (by omega)]; omega
  · rw [w64 (by omega) (by omega)]; omega
  · rw [w64 (by omega) (by omega)]; omega
theorem rp_runs {k : Nat} {w : ByteArray} (hk : 10000 ≤ k) (hW : isW w = true) (j : Nat) (hj : j < (runL w).length) :
    ∃ (u : ByteArray) (PP : List Int) (d d2 : Int), wrap64 ((rd_T46 (runL w) (j : Int)).f1 - (rd_T46 (runL w) (j : Int)).f0) = d ∧ impl_FactorAt.f w (rd_T46 (runL w) (j : Int)).f0 d = some (u, 0) ∧ impl_PeriodsOf.f k u = some (PP, 0) ∧ 0 < PP.length ∧ PP.length ≤ 1000 ∧ rd PP 0 = (rd_T46 (runL w) (j : Int)).f2 ∧ wrap64 (2 * (rd_T46 (runL w) (j : Int)).f2) = d2 ∧ d2 ≤ d := by
  have hz := isW_size hW
  have hmem : (runL w).getD j z46 ∈ runL w := by rw [List.getD_eq_getElem?_getD, List.getElem?_eq_getElem hj]; exact List.getElem_mem hj
  obtain ⟨a, b, h1, h2, h3, hx⟩ := runL_mem.mp hmem
  have hr : rd_T46 (runL w) (j : Int) = runE w a b := by rw [← hx]; unfold rd_T46; simp
  have hs : (w.extract a b).size = b - a := by rw [ext_size]; omega
  obtain ⟨l1, l2, l3, l4⟩ := leastP_spec (w := w.extract a b) (by omega)
  unfold runB at h3
  rw [Bool.and_eq_true, Bool.and_eq_true, decide_eq_true_iff] at h3
  have hp := perL_len (w.extract a b)
  rw [hr]
  unfold runE
  refine ⟨w.extract a b, perL (w.extract a b), ((b - a : Nat) : Int), ((2 * leastP (w.extract a b) : Nat) : Int), ?_, ?_, ?_, perL_pos (by omega), by omega, perL_rd (by omega), ?_, by omega⟩
  · simp only
    rw [w64 (by omega) (by omega)]; omega
  · simp only
    rw [rp_factor hW (by omega), show a + (b - a) = b by omega]
  · rw [impl_PeriodsOf_eq (by omega) (by omega), isW_ext hW]; rfl
  · simp only
    rw [w64 (by omega) (by omega)]; omega
theorem len0_iff {α : Type} {L : List α} {b : Bool} (h : b = true ↔ L = []) : (((L.length : Nat) : Int) == 0) = b := by
  rw [Bool.eq_iff_iff, beq_iff_eq, h, ← List.length_eq_zero_iff]; omega
theorem FnRepeats : laws_FnRepeats.Pure := by
  intro l0 _ _ hw
  by_cases hb : l0.length > 4096
  · exact Or.inl hb
  refine Or.inr ⟨by omega, ?_⟩
  have hl := okC_of (by omega) hw
  obtain ⟨k, hk⟩ : ∃ k : Nat, 20000000 ≤ k := ⟨_, Nat.le_refl _⟩
  obtain ⟨a, d0, az⟩ := l03Spoil_ok (k := k) hl (by omega)
  obtain ⟨kx, d2⟩ := rp_draw2 hl (by omega) d0
  obtain ⟨n, d3⟩ := rp_draw3 hl (by omega) d0
  have d1 : spec_DrawRunsOf.f k l0 = some a := by unfold spec_DrawRunsOf.f; rw [d0]; rfl
  have q1 := spec_RunsOf_eq (m := k) (by omega) (a0 := a) (by omega)
  have q2 := impl_RunsOf_eq (m := k) (by omega) a
  have q3 := spec_PowersIn_eq (m := k) (by omega) (a0 := a) (a1 := 2) (by omega) (by omega)
  have q4 := impl_PowersIn_eq (m := k) (by omega) a 2
  have q5 := spec_OverlapsIn_eq (m := k) (by omega) (a0 := a) (by omega) (by omega)
  have q6 := impl_OverlapsIn_eq (m := k) (by omega) a
  have q7 := spec_SquaresOf_eq (m := k) (by omega) (a0 := a) (by omega) (by omega)
  have q8 := impl_SquaresOf_eq (m := k) (by omega) a
  have q9 := spec_CountPowers_eq (m := k) (by omega) (a0 := a) kx (by omega)
  have q10 := impl_CountPowers_eq (m := k) (by omega) a kx
  have q11 := spec_PowersIn_eq (m := k) (by omega) (a0 := a) (a1 := n) (by omega) (by omega)
  have q12 := impl_PowersIn_eq (m := k) (by omega) a n
  have hpw : (powersR a n).1.length ≤ 3600 ∧ ∀ x ∈ (powersR a n).1, x.length ≤ 2 := by
    unfold powersR
    cases hW : isW a
    · simp
    · cases hr : inR n 2 60
      · simp
      · obtain ⟨m0, m1⟩ := inR_true hr
        exact ⟨powL_len (isW_size hW), powL_rows (by omega)⟩
  obtain ⟨cnt, c16, e9⟩ : ∃ x y, cpR a kx = (x, y) := ⟨_, _, rfl⟩
  obtain ⟨PW, c18, e11⟩ : ∃ x y, powersR a n = (x, y) := ⟨_, _, rfl⟩
  rw [e9] at q9 q10
  rw [e11] at q11 q12 hpw
  have r5 := rows5_eq (k := k) (a := PW) (by have := hpw.1; simp only at this; omega) hpw.2 (by have := hpw.1; simp only at this; omega)
  unfold runsR at q1 q2
  unfold powersR at q3 q4
  unfold ovlR at q5 q6
  unfold sqR at q7 q8
  cases hW : isW a with
  | false =>
    rw [hW] at q1 q2 q3 q4 q5 q6 q7 q8
    exact ⟨k, a, a, a, kx, n, 0, 0, 1, 1, 1, 1, 0, cnt, c16, c18, [], [], [], PW, [], true, true, d1, q2, q1, q4, q3, q6, q5, q8, q7, runs5_eq (by simp) (by simp; omega), rows5_eq (by simp) (by simp) (by simp; omega), rows5_eq (by simp) (by simp) (by simp; omega), words5_eq (by simp) (by simp; omega), d2, q10, q9, d3, q12, q11, r5, Or.inl (by decide)⟩
  | true =>
    have hz := isW_size hW
    have hin : inR (2 : Int) 2 60 = true := by decide
    rw [hW, if_pos rfl] at q1 q2 q3 q4 q5 q6 q7 q8
    rw [hin, if_pos rfl] at q3 q4
    rw [show (2 : Int).toNat = 2 from rfl] at q3 q4
    have z1 := runL_len hz
    have z2 := powL_len (k := 2) hz
    have z3 := ovL_len hz
    have z4 := sortW_le (sqsW a)
    have z5 : (sqsW a).length = (powL a 2).length := by unfold sqsW; rw [List.length_map]
    have f1 := impl_IsSquareFree_eq (m := k) (by omega) a
    have f2 := impl_IsOverlapFree_eq (m := k) (by omega) a
    have f3 := impl_FirstSquare_eq (m := k) (by omega) a
    unfold sqfR at f1
    unfold iofR at f2
    rw [hW, if_pos rfl] at f1 f2
    obtain ⟨fi, fq, c11, e3⟩ : ∃ x y z, fsqR a = (x, y, z) := ⟨_, _, _, rfl⟩
    have hc : (c11 == 4) = sqfB a := by
      have e4 := e3
      unfold fsqR at e4
      rw [hW, if_pos rfl] at e4
      have ff := first_free (w := a)
      cases hfr : (firW a 0).2.2 with
      | true =>
        rw [hfr, if_pos rfl] at e4
        rw [hfr] at ff
        simp only [Prod.mk.injEq] at e4
        rw [← e4.2.2, ← ff]; rfl
      | false =>
        rw [hfr, if_neg (by decide)] at e4
        rw [hfr] at ff
        simp only [Prod.mk.injEq] at e4
        rw [← e4.2.2, ← ff]; rfl
    rw [e3] at f3
    have hovr : ∀ x ∈ ovL a, x.length ≤ 2 := fun x hx => powL_rows (m := 2) (by omega) x (List.mem_filter.mp hx).1
    refine ⟨k, a, a, a, kx, n, fi, fq, 0, 0, 0, 0, c11, cnt, c16, c18, runL a, powL a 2, ovL a, PW, sortW (sqsW a), sqfB a, _, d1, q2, q1, q4, q3, q6, q5, q8, q7, runs5_eq (by omega) (by omega), rows5_eq (by omega) (powL_rows (by omega)) (by omega), rows5_eq (by omega) hovr (by omega), words5_eq (by omega) (by omega), d2, q10, q9, d3, q12, q11, r5, Or.inr ⟨rfl, by omega, by omega, f1, f2, f3, len0_iff ?_, rfl, hc, len0_iff runs_sqf, by omega, fun j hj => rp_squares hW e3 j hj, fun j hj => rp_runs (by omega) hW j hj⟩⟩
    unfold sqfB
    rw [decide_eq_true_iff]

end Go.Proofs.YteakipdmpjlhiabGreat.Pure
