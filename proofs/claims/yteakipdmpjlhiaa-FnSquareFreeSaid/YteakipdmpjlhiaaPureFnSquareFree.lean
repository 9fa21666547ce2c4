/- The plain part of the law FnSquareFree: for every input that the law takes, the printed function of the law answers true once it has rounds enough. Conditions: those that stand in the statement (sizes of strings and slices, kinds of numbers), no other. -/
import Derived.Test.YteakipdmpjlhiaaMxFnSquareFree3
import Derived.Test.YteakipdmpjlhiaaMath
import Derived.Test.YteakipdmpjlhiaaMath3
import Derived.Test.YteakipdmpjlhiaaMath4
namespace Go.Proofs.Yteakipdmpjlhiaa.Pure
open Go.RowKit Go.Proofs.Yteakipdmpjlhiaa.Q Go.Proofs.YteakipdmpjlhiaaW.PrintWords Go.Proofs.YteakipdmpjlhiaaW.PrintLast Go.Proofs.YteakipdmpjlhiaaW.PrintMore
set_option linter.unusedVariables false
set_option linter.unusedSimpArgs false

theorem spec_l01Reversed_l0 (w : ByteArray) (hw : w.size ≤ 1048576) : ∀ (n k : Nat) (acc : List Int), n ≤ w.size → n + 1 < k → acc.length + n ≤ 1048576 →
    spec_l01Reversed.l0 k w acc ((n : Int) - 1) = some (strOfNums (acc ++ ((bytesOf w).take n).reverse))
  | 0, k, acc, hn, hk, ha => by
    obtain ⟨k, rfl⟩ := rounds_pos (show 0 < k by omega)
    simp only [spec_l01Reversed.l0]
    rw [if_neg (by omega)]
    simp
  | n + 1, k, acc, hn, hk, ha => by
    obtain ⟨k, rfl⟩ := rounds_pos (show 0 < k by omega)
    simp only [spec_l01Reversed.l0]
    rw [if_pos (by omega), if_pos (by omega), if_pos (by omega), if_pos (by omega)]
    have e1 : ((n + 1 : Nat) : Int) - 1 = (n : Int) := by omega
    rw [e1, w64 (by omega) (by omega), spec_l01Reversed_l0 w hw n k (acc ++ [bt w n]) (by omega) (by omega) (by simp; omega)]
    rw [take_bytes_snoc w n (by omega)]
    simp
theorem spec_l01Reversed_eq {k : Nat} {w : ByteArray} (hw : w.size ≤ 1048576) (hk : w.size + 1 < k) : spec_l01Reversed.f k w = some (revW w) := by
  unfold spec_l01Reversed.f
  rw [w64 (by omega) (by omega), spec_l01Reversed_l0 w hw w.size k [] (Nat.le_refl _) hk (by simpa using hw)]
  rw [← bo_len, List.take_length]
  rfl

/-- a code whose numbers are bytes, and a place in it -/
def OkC (l : List Int) : Prop := l.length ≤ 4096 ∧ ∀ j : Nat, j < l.length → 0 ≤ rd l j ∧ rd l j ≤ 255
def Gives {α : Type} (o : Option (α × Int × Int)) (l : List Int) (P : α → Prop) : Prop := ∃ (r : α) (t h : Int), o = some (r, t, h) ∧ (0 ≤ t ∧ t ≤ (l.length : Int)) ∧ P r
theorem leO_far {α : Type} {f : Nat → Option α} (h : ∀ k, LeO (f k) (f (k + 1))) {r : α} {a : Nat} (ha : f a = some r) : ∀ d, f (a + d) = some r
  | 0 => ha
  | d + 1 => h (a + d) r (leO_far h ha d)
theorem u64_rng (x : Int) : 0 ≤ IntKind.u64.wrap x ∧ IntKind.u64.wrap x < 18446744073709551616 := by
  have e : IntKind.u64.wrap x = x % 18446744073709551616 := rfl
  rw [e]; omega
theorem and24 (x : Int) : 0 ≤ Go.bits .and .u64 (IntKind.u64.wrap x / 8589934592) 16777215 ∧ Go.bits .and .u64 (IntKind.u64.wrap x / 8589934592) 16777215 ≤ 16777215 := by
  have h := u64_rng x
  obtain ⟨n, hn⟩ := Int.eq_ofNat_of_zero_le (show 0 ≤ IntKind.u64.wrap x / 8589934592 by omega)
  rw [hn]
  have e : Go.bits .and .u64 (n : Int) 16777215 = ((n &&& 16777215 : Nat) : Int) := Go.bits_and_u64_nat n 16777215 (by omega) (by omega)
  rw [e]
  have : n &&& 16777215 ≤ 16777215 := Nat.and_le_right
  omega
theorem l01Next_ok {l : List Int} {t h n : Int} (hl : OkC l) (ht : 0 ≤ t ∧ t ≤ (l.length : Int)) (hn : 1 ≤ n ∧ n ≤ 4000000) : Gives (spec_l01Next.f l t h n) l fun r => 0 ≤ r ∧ r < n := by
  have hb := hl.1
  unfold spec_l01Next.f
  obtain ⟨y, hy⟩ : ∃ y, y = (IntKind.u64.wrap (h * 6364136223846793005)) + 1442695040888963407 := ⟨_, rfl⟩
  have ha := and24 y
  rw [← hy]
  obtain ⟨z, hz⟩ : ∃ z, z = Go.bits .and .u64 (IntKind.u64.wrap y / 8589934592) 16777215 := ⟨_, rfl⟩
  rw [← hz] at ha ⊢
  rw [if_neg (by omega), w64 (x := z) (by omega) (by omega)]
  by_cases c : t < (l.length : Int)
  · have hr := hl.2 t.toNat (by omega)
    rw [show ((t.toNat : Nat) : Int) = t by omega] at hr
    rw [if_pos c, if_pos ht.1, if_neg (by omega), w64 (x := rd l t) (by omega) (by omega), w64 (x := z + rd l t) (by omega) (by omega), w64 (x := t + 1) (by omega) (by omega)]
    exact ⟨_, _, _, rfl, ⟨by omega, by omega⟩, Int.tmod_nonneg _ (by omega), Int.tmod_lt_of_pos _ (by omega)⟩
  · rw [if_neg c, if_neg (by omega)]
    exact ⟨_, _, _, rfl, ht, Int.tmod_nonneg _ (by omega), Int.tmod_lt_of_pos _ (by omega)⟩
theorem rd_mem {L : List Int} {j : Int} (h0 : 0 ≤ j) (h1 : j < (L.length : Int)) : rd L j ∈ L := by
  unfold rd
  have : j.toNat < L.length := by omega
  simp [List.getD_eq_getElem?_getD, this]
theorem l01Pick_ok {l : List Int} {t h : Int} (L : List Int) {P : Int → Prop} (hl : OkC l) (ht : 0 ≤ t ∧ t ≤ (l.length : Int)) (hL : 1 ≤ L.length ∧ L.length ≤ 1000) (hP : ∀ x ∈ L, P x) : Gives (spec_l01Pick.f l t h L) l P := by
  obtain ⟨r, t1, h1, e1, ht1, r0, r1⟩ := l01Next_ok (h := h) hl ht (n := (L.length : Int)) (by omega)
  unfold spec_l01Pick.f
  rw [e1, Option.bind_some, if_pos r0, if_pos r1]
  exact ⟨_, _, _, rfl, ht1, hP _ (rd_mem r0 r1)⟩
theorem l01DrawOf_l0 {l : List Int} (hl : OkC l) {n kk : Int} (hn : n ≤ 100) (hk : 1 ≤ kk ∧ kk ≤ 100) : ∀ (d k i : Nat) (u : ByteArray) (t h : Int), (i : Int) + d = n → u.size = i → d < k → 0 ≤ t ∧ t ≤ (l.length : Int) → Gives (spec_l01DrawOf.l0 k n kk u i l t h) l fun u => (u.size : Int) = n
  | 0, k, i, u, t, h, hi, hu, hd, ht => by
    obtain ⟨k, rfl⟩ := rounds_pos (show 0 < k by omega)
    simp only [spec_l01DrawOf.l0]
    rw [if_neg (by omega)]
    exact ⟨_, _, _, rfl, ht, by omega⟩
  | d + 1, k, i, u, t, h, hi, hu, hd, ht => by
    obtain ⟨k, rfl⟩ := rounds_pos (show 0 < k by omega)
    simp only [spec_l01DrawOf.l0]
    obtain ⟨r, t1, h1, e1, ht1, r0, r1⟩ := l01Next_ok (h := h) hl ht (n := kk) (by omega)
    rw [if_pos (by omega), e1, Option.bind_some]
    unfold spec_l01Letter.f
    rw [Option.bind_some, if_pos (by rw [sn_len]; simp; omega), w64 (x := (i : Int) + 1) (by omega) (by omega), show (i : Int) + 1 = ((i + 1 : Nat) : Int) by omega]
    exact l01DrawOf_l0 hl hn hk d k (i + 1) _ t1 h1 (by omega) (by rw [ByteArray.size_append, sn_len, hu]; rfl) (by omega) ht1
theorem l01DrawOf_ok {l : List Int} {t h n kk : Int} {k : Nat} (hl : OkC l) (ht : 0 ≤ t ∧ t ≤ (l.length : Int)) (hn : 0 ≤ n ∧ n ≤ 100) (hk : 1 ≤ kk ∧ kk ≤ 100) (hf : 200 ≤ k) : Gives (spec_l01DrawOf.f k l t h n kk) l fun u => (u.size : Int) = n := by
  unfold spec_l01DrawOf.f
  exact l01DrawOf_l0 hl hn.2 hk n.toNat k 0 _ t h (by omega) rfl (by omega) ht
theorem l01Small_ok {l : List Int} {t h : Int} {k : Nat} (hl : OkC l) (ht : 0 ≤ t ∧ t ≤ (l.length : Int)) (hf : 200 ≤ k) : Gives (spec_l01Small.f k l t h) l fun u => u.size ≤ 10 := by
  unfold spec_l01Small.f
  obtain ⟨r, t1, h1, e1, ht1, r0, r1⟩ := l01Next_ok (h := h) hl ht (n := 11) (by omega)
  obtain ⟨x, t2, h2, e2, ht2, x0⟩ := l01Pick_ok (h := h1) [1, 2, 2, 2, 3, 5] (P := fun r => 1 ≤ r ∧ r ≤ 100) hl ht1 (by decide) (by decide)
  obtain ⟨u, t3, h3, e3, ht3, u0⟩ := l01DrawOf_ok (h := h2) (k := k) hl ht2 (n := r) (kk := x) (by omega) x0 hf
  rw [e1, Option.bind_some, e2, Option.bind_some, e3, Option.bind_some]
  exact ⟨_, _, _, rfl, ht3, show u.size ≤ 10 by omega⟩
theorem named_all : ∀ j : Fin 4, ∀ m : Fin 61, ((spec_l01Named.f 600 (rdOf ByteArray.empty [(⟨#[102, 105, 98, 111, 110, 97, 99, 99, 105]⟩ : ByteArray), (⟨#[116, 104, 117, 101]⟩ : ByteArray), (⟨#[100, 111, 117, 98, 108, 105, 110, 103]⟩ : ByteArray), (⟨#[116, 114, 105, 112, 108, 101]⟩ : ByteArray)] (j.val : Int)) (m.val : Int)).elim false fun r => decide (r.1.size ≤ 60)) = true := by
  decide +kernel
theorem l01Named_ok {j m : Int} {k : Nat} (hj : 0 ≤ j ∧ j < 4) (hm : 0 ≤ m ∧ m ≤ 60) (hf : 600 ≤ k) : ∃ w b, spec_l01Named.f k (rdOf ByteArray.empty [(⟨#[102, 105, 98, 111, 110, 97, 99, 99, 105]⟩ : ByteArray), (⟨#[116, 104, 117, 101]⟩ : ByteArray), (⟨#[100, 111, 117, 98, 108, 105, 110, 103]⟩ : ByteArray), (⟨#[116, 114, 105, 112, 108, 101]⟩ : ByteArray)] j) m = some (w, b) ∧ w.size ≤ 60 := by
  obtain ⟨j, rfl⟩ := Int.eq_ofNat_of_zero_le hj.1
  obtain ⟨m, rfl⟩ := Int.eq_ofNat_of_zero_le hm.1
  have h := named_all ⟨j, by omega⟩ ⟨m, by omega⟩
  simp only at h
  revert h
  cases e : spec_l01Named.f 600 (rdOf ByteArray.empty [(⟨#[102, 105, 98, 111, 110, 97, 99, 99, 105]⟩ : ByteArray), (⟨#[116, 104, 117, 101]⟩ : ByteArray), (⟨#[100, 111, 117, 98, 108, 105, 110, 103]⟩ : ByteArray), (⟨#[116, 114, 105, 112, 108, 101]⟩ : ByteArray)] (j : Int)) (m : Int) with
  | none => intro h; cases h
  | some r =>
    intro h
    have h2 := leO_far (fun k => spec_l01Named.mono _ _ k) e (k - 600)
    rw [show 600 + (k - 600) = k by omega] at h2
    exact ⟨r.1, r.2, h2, of_decide_eq_true h⟩
theorem l01Draw_l0 {l : List Int} (hl : OkC l) (u : ByteArray) (hu : 1 ≤ u.size ∧ u.size ≤ 6) : ∀ (d k : Nat) (w : ByteArray) (t h : Int), d ≤ 4 → d < k → w.size + d * 6 ≤ 24 → 0 ≤ t ∧ t ≤ (l.length : Int) → Gives (spec_l01Draw.l0 k u w (d : Int) l t h) l fun w => w.size ≤ 60
  | 0, k, w, t, h, hd, hk, hw, ht => by
    obtain ⟨k, rfl⟩ := rounds_pos (show 0 < k by omega)
    simp only [spec_l01Draw.l0]
    obtain ⟨r, t1, h1, e1, ht1, r0, r1⟩ := l01Next_ok (h := h) hl ht (n := (u.size : Int)) (by omega)
    have hz : (u.extract 0 r.toNat).size ≤ 6 := by rw [ByteArray.size_extract]; omega
    rw [if_neg (by omega), e1, Option.bind_some]
    dsimp only
    rw [if_pos (by omega), if_pos (by omega), if_pos (by omega)]
    exact ⟨_, _, _, rfl, ht1, by dsimp only; rw [ByteArray.size_append]; omega⟩
  | d + 1, k, w, t, h, hd, hk, hw, ht => by
    obtain ⟨k, rfl⟩ := rounds_pos (show 0 < k by omega)
    simp only [spec_l01Draw.l0]
    rw [if_pos (by omega), if_pos (by omega), w64 (by omega) (by omega), show ((d + 1 : Nat) : Int) - 1 = (d : Int) by omega]
    exact l01Draw_l0 hl u hu d k _ t h (by omega) (by omega) (by rw [ByteArray.size_append]; omega) ht
theorem revW_size (w : ByteArray) : (revW w).size = w.size := by unfold revW; rw [sn_len, List.length_reverse, bo_len]
theorem l01Draw_ok {l : List Int} {t h : Int} {k : Nat} (hl : OkC l) (ht : 0 ≤ t ∧ t ≤ (l.length : Int)) (hf : 1000 ≤ k) : Gives (spec_l01Draw.f k l t h) l fun u => u.size ≤ 60 := by
  unfold spec_l01Draw.f
  obtain ⟨r, t1, h1, e1, ht1, r0, r1⟩ := l01Next_ok (h := h) hl ht (n := 6) (by omega)
  rw [e1, Option.bind_some]
  by_cases c0 : r = 0
  · rw [if_pos c0]
    unfold spec_l01Names.f
    obtain ⟨j, t2, h2, e2, ht2, j0, j1⟩ := l01Next_ok (h := h1) hl ht1 (n := 4) (by omega)
    obtain ⟨x, t3, h3, e3, ht3, x0⟩ := l01Pick_ok (h := h2) [12, 30, 61] (P := fun r => 1 ≤ r ∧ r ≤ 61) hl ht2 (by decide) (by decide)
    obtain ⟨m, t4, h4, e4, ht4, m0, m1⟩ := l01Next_ok (h := h3) hl ht3 (n := x) (by omega)
    obtain ⟨w, b, e5, hw⟩ := l01Named_ok (j := j) (m := m) (k := k) ⟨j0, j1⟩ (by omega) (by omega)
    rw [Option.bind_some, e2, Option.bind_some, if_pos j0, if_pos (by simpa using j1), e3, Option.bind_some, e4, Option.bind_some, e5, Option.bind_some]
    exact ⟨_, _, _, rfl, ht4, hw⟩
  rw [if_neg c0]
  by_cases c1 : r = 1
  · rw [if_pos c1]
    obtain ⟨j, t2, h2, e2, ht2, j0, j1⟩ := l01Next_ok (h := h1) hl ht1 (n := 6) (by omega)
    obtain ⟨x, t3, h3, e3, ht3, x0⟩ := l01Pick_ok (h := h2) [2, 2, 3] (P := fun r => 1 ≤ r ∧ r ≤ 61) hl ht2 (by decide) (by decide)
    obtain ⟨u, t4, h4, e4, ht4, u0⟩ := l01DrawOf_ok (h := h3) (k := k) hl ht3 (n := 1 + j) (kk := x) (by omega) (by omega) (by omega)
    obtain ⟨m, t5, h5, e5, ht5, m0, m1⟩ := l01Next_ok (h := h4) hl ht4 (n := 4) (by omega)
    rw [e2, Option.bind_some, e3, Option.bind_some, w64 (by omega) (by omega), e4, Option.bind_some, e5, Option.bind_some, w64 (by omega) (by omega)]
    have := l01Draw_l0 hl u (by omega) (1 + m).toNat k ⟨#[]⟩ t5 h5 (by omega) (by omega) (by show 0 + _ ≤ _; omega) ht5
    rw [show (((1 + m).toNat : Nat) : Int) = 1 + m by omega] at this
    exact this
  rw [if_neg c1]
  by_cases c2 : r = 2
  · rw [if_pos c2]
    obtain ⟨j, t2, h2, e2, ht2, j0, j1⟩ := l01Next_ok (h := h1) hl ht1 (n := 12) (by omega)
    obtain ⟨x, t3, h3, e3, ht3, x0⟩ := l01Pick_ok (h := h2) [2, 2, 3] (P := fun r => 1 ≤ r ∧ r ≤ 61) hl ht2 (by decide) (by decide)
    obtain ⟨u, t4, h4, e4, ht4, u0⟩ := l01DrawOf_ok (h := h3) (k := k) hl ht3 (n := j) (kk := x) (by omega) (by omega) (by omega)
    obtain ⟨m, t5, h5, e5, ht5, m0, m1⟩ := l01Next_ok (h := h4) hl ht4 (n := 2) (by omega)
    obtain ⟨v, t6, h6, e6, ht6, v0⟩ := l01DrawOf_ok (h := h5) (k := k) hl ht5 (n := m) (kk := 2) (by omega) (by omega) (by omega)
    rw [e2, Option.bind_some, e3, Option.bind_some, e4, Option.bind_some, e5, Option.bind_some, e6, Option.bind_some]
    dsimp only
    rw [if_pos (by omega), spec_l01Reversed_eq (by omega) (by omega), Option.bind_some, if_pos (by rw [ByteArray.size_append, revW_size]; omega)]
    exact ⟨_, _, _, rfl, ht6, by dsimp only; rw [ByteArray.size_append, ByteArray.size_append, revW_size]; omega⟩
  rw [if_neg c2]
  by_cases c3 : r = 3
  · rw [if_pos c3]
    obtain ⟨x, t3, h3, e3, ht3, x0⟩ := l01Pick_ok (h := h1) [20, 40, 61] (P := fun r => 1 ≤ r ∧ r ≤ 61) hl ht1 (by decide) (by decide)
    obtain ⟨m, t4, h4, e4, ht4, m0, m1⟩ := l01Next_ok (h := h3) hl ht3 (n := x) (by omega)
    obtain ⟨y, t5, h5, e5, ht5, y0⟩ := l01Pick_ok (h := h4) [1, 2, 2, 3, 3, 4, 5] (P := fun r => 1 ≤ r ∧ r ≤ 61) hl ht4 (by decide) (by decide)
    obtain ⟨v, t6, h6, e6, ht6, v0⟩ := l01DrawOf_ok (h := h5) (k := k) hl ht5 (n := m) (kk := y) (by omega) (by omega) (by omega)
    rw [e3, Option.bind_some, e4, Option.bind_some, e5, Option.bind_some, e6, Option.bind_some]
    exact ⟨_, _, _, rfl, ht6, show v.size ≤ 60 by omega⟩
  rw [if_neg c3]
  obtain ⟨u, t2, h2, e2, ht2, u0⟩ := l01Small_ok (h := h1) (k := k) hl ht1 (by omega)
  rw [e2, Option.bind_some]
  exact ⟨_, _, _, rfl, ht2, show u.size ≤ 60 by omega⟩
theorem l01Damage_ok {l : List Int} {t h : Int} {w : ByteArray} (hl : OkC l) (ht : 0 ≤ t ∧ t ≤ (l.length : Int)) (hw : w.size ≤ 60) : Gives (spec_l01Damage.f l t h w) l fun u => u.size ≤ 61 := by
  unfold spec_l01Damage.f
  rw [Option.bind_some]
  obtain ⟨L, hL⟩ : ∃ L, L = ([(⟨#[97]⟩ : ByteArray), (⟨#[98]⟩ : ByteArray), (⟨#[99]⟩ : ByteArray), (⟨#[101]⟩ : ByteArray), (⟨#[102]⟩ : ByteArray), (⟨#[65]⟩ : ByteArray), (⟨#[32]⟩ : ByteArray), (⟨#[44]⟩ : ByteArray), (⟨#[48]⟩ : ByteArray), (⟨#[10]⟩ : ByteArray)] : List ByteArray) := ⟨_, rfl⟩
  have hLl : L.length = 10 := by rw [hL]; rfl
  have hLs : ∀ x ∈ L, x.size = 1 := by rw [hL]; decide
  rw [← hL]
  obtain ⟨r, t1, h1, e1, ht1, r0, r1⟩ := l01Next_ok (h := h) hl ht (n := (L.length : Int)) (by omega)
  rw [e1, Option.bind_some, if_pos r0, if_pos r1]
  obtain ⟨c, hc⟩ : ∃ c, c = rdOf ByteArray.empty L r := ⟨_, rfl⟩
  have hcs : c.size = 1 := by
    refine hLs c ?_
    rw [hc]; unfold rdOf
    have : r.toNat < L.length := by omega
    simp [List.getD_eq_getElem?_getD, this]
  rw [← hc]
  by_cases cz : (w.size : Int) = 0
  · rw [if_pos cz]; exact ⟨_, _, _, rfl, ht1, show c.size ≤ 61 by omega⟩
  rw [if_neg cz]
  obtain ⟨x, t2, h2, e2, ht2, x0, x1⟩ := l01Next_ok (h := h1) hl ht1 (n := (w.size : Int)) (by omega)
  obtain ⟨y, t3, h3, e3, ht3, y0, y1⟩ := l01Next_ok (h := h2) hl ht2 (n := 3) (by omega)
  rw [e2, Option.bind_some, e3, Option.bind_some]
  dsimp only
  rw [w64 (by omega) (by omega)]
  have z1 : (w.extract 0 x.toNat).size ≤ x.toNat := by rw [ByteArray.size_extract]; omega
  have z2 : (w.extract (x + 1).toNat w.size).size + (x.toNat + 1) = w.size := by rw [ByteArray.size_extract]; omega
  have z3 : (w.extract x.toNat w.size).size + x.toNat = w.size := by rw [ByteArray.size_extract]; omega
  have q0 : 0 ≤ x := x0
  have q1 : x ≤ (w.size : Int) := by omega
  have q2 : 0 ≤ x + 1 := by omega
  have q3 : x + 1 ≤ (w.size : Int) := by omega
  by_cases c0 : y = 0
  · rw [if_pos c0, if_pos q0, if_pos q1, if_pos (by omega), if_pos q2, if_pos q3, if_pos (by rw [ByteArray.size_append]; omega)]
    exact ⟨_, _, _, rfl, ht3, by dsimp only; rw [ByteArray.size_append, ByteArray.size_append]; omega⟩
  rw [if_neg c0]
  by_cases c1 : y = 1
  · rw [if_pos c1, if_pos q0, if_pos q1, if_pos q2, if_pos q3, if_pos (by omega)]
    exact ⟨_, _, _, rfl, ht3, by dsimp only; rw [ByteArray.size_append]; omega⟩
  rw [if_neg c1, if_pos q0, if_pos q1, if_pos (by omega), if_pos (by rw [ByteArray.size_append]; omega)]
  exact ⟨_, _, _, rfl, ht3, by dsimp only; rw [ByteArray.size_append, ByteArray.size_append]; omega⟩
theorem l01Bad_l0 {l : List Int} {t h : Int} (ht : 0 ≤ t ∧ t ≤ (l.length : Int)) : ∀ (d k : Nat) (w : ByteArray), w.size ≤ 62 → 62 - w.size ≤ d → d < k → Gives (spec_l01Bad.l0 k w l t h) l fun u => u.size ≤ 62
  | 0, k, w, hw, hd, hk => by
    obtain ⟨k, rfl⟩ := rounds_pos (show 0 < k by omega)
    simp only [spec_l01Bad.l0]
    rw [if_neg (by omega)]
    exact ⟨_, _, _, rfl, ht, hw⟩
  | d + 1, k, w, hw, hd, hk => by
    obtain ⟨k, rfl⟩ := rounds_pos (show 0 < k by omega)
    simp only [spec_l01Bad.l0]
    by_cases c : (w.size : Int) ≤ 60
    · rw [if_pos c, if_pos (by omega)]
      have hz : (w ++ (⟨#[97, 98]⟩ : ByteArray)).size = w.size + 2 := by rw [ByteArray.size_append]; rfl
      exact l01Bad_l0 ht d k _ (by omega) (by omega) (by omega)
    · rw [if_neg c]
      exact ⟨_, _, _, rfl, ht, hw⟩
theorem l01Bad_ok {l : List Int} {t h : Int} {k : Nat} {w : ByteArray} (hl : OkC l) (ht : 0 ≤ t ∧ t ≤ (l.length : Int)) (hw : w.size ≤ 60) (hf : 1000 ≤ k) : Gives (spec_l01Bad.f k l t h w) l fun u => u.size ≤ 62 := by
  unfold spec_l01Bad.f
  obtain ⟨r, t1, h1, e1, ht1, r0, r1⟩ := l01Next_ok (h := h) hl ht (n := 50) (by omega)
  rw [e1, Option.bind_some]
  by_cases c0 : r = 0
  · rw [if_pos c0, if_pos (by omega)]
    exact ⟨_, _, _, rfl, ht1, by dsimp only; rw [ByteArray.size_append]; show _ + 1 ≤ 62; omega⟩
  rw [if_neg c0]
  by_cases c1 : r = 1
  · rw [if_pos c1]
    obtain ⟨u, t2, h2, e2, ht2, u0⟩ := l01Damage_ok (h := h1) hl ht1 hw
    rw [e2, Option.bind_some]
    exact ⟨_, _, _, rfl, ht2, show u.size ≤ 62 by omega⟩
  rw [if_neg c1]
  by_cases c2 : r = 2
  · rw [if_pos c2]
    exact l01Bad_l0 ht1 62 k w (by omega) (by omega) (by omega)
  rw [if_neg c2]
  exact ⟨_, _, _, rfl, ht1, show w.size ≤ 62 by omega⟩
theorem l01From_l0 {l : List Int} (hl : l.length ≤ 4096) : ∀ (d k i : Nat) (h : Int), i + d = l.length → d < k → ∃ h', spec_l01From.l0 k l i l 0 h = some (l, 0, h')
  | 0, k, i, h, hi, hk => by
    obtain ⟨k, rfl⟩ := rounds_pos (show 0 < k by omega)
    simp only [spec_l01From.l0]
    rw [if_neg (by omega)]
    exact ⟨_, rfl⟩
  | d + 1, k, i, h, hi, hk => by
    obtain ⟨k, rfl⟩ := rounds_pos (show 0 < k by omega)
    simp only [spec_l01From.l0]
    rw [if_pos (by omega), if_pos (by omega), if_pos (by omega), w64 (x := (i : Int) + 1) (by omega) (by omega), show (i : Int) + 1 = ((i + 1 : Nat) : Int) by omega]
    exact l01From_l0 hl d k (i + 1) _ (by omega) (by omega)
theorem l01From_ok {l : List Int} {k : Nat} (hl : OkC l) (hf : 5000 ≤ k) : ∃ h, spec_l01From.f k l = some (l, 0, h) := by
  have := hl.1
  unfold spec_l01From.f
  exact l01From_l0 hl.1 l.length k 0 _ (by omega) (by omega)
theorem okC_of {l : List Int} (h : l.length ≤ 4096) (hw : ∀ x ∈ l, (Lit.int .u8 x).wf = true) : OkC l := by
  refine ⟨h, fun j hj => ?_⟩
  have := hw (rd l j) (rd_mem (by omega) (by omega))
  have t : IntKind.u8.min ≤ rd l j ∧ rd l j ≤ IntKind.u8.max := by simpa [Lit.wf] using this
  exact t
theorem zero_ok {l : List Int} : 0 ≤ (0 : Int) ∧ (0 : Int) ≤ (l.length : Int) := by omega

theorem l01Near_ok {l : List Int} {t h a : Int} (hl : OkC l) (ht : 0 ≤ t ∧ t ≤ (l.length : Int)) (ha : 0 ≤ a ∧ a ≤ 1000000) : Gives (spec_l01Near.f l t h a) l fun r => -4611686018427387904 ≤ r ∧ r ≤ 1099511627776 := by
  obtain ⟨r, t1, h1, e1, ht1, r0, r1⟩ := l01Next_ok (h := h) hl ht (n := 14) (by omega)
  unfold spec_l01Near.f
  rw [e1, Option.bind_some, w64 (by omega) (by omega)]
  by_cases c : r = 0
  · rw [if_pos c]
    obtain ⟨x, t2, h2, e2, ht2, x0⟩ := l01Pick_ok (h := h1) [-1, a + 1, 1099511627776, -4611686018427387904] (P := fun r => -4611686018427387904 ≤ r ∧ r ≤ 1099511627776) hl ht1 ⟨by simp, by simp⟩ (by
      intro x hx
      simp only [List.mem_cons, List.mem_nil_iff, or_false] at hx
      omega)
    rw [e2]; exact ⟨_, _, _, rfl, ht2, x0⟩
  · rw [if_neg c]
    obtain ⟨x, t2, h2, e2, ht2, x0, x1⟩ := l01Next_ok (h := h1) hl ht1 (n := a + 1) (by omega)
    rw [e2]; exact ⟨_, _, _, rfl, ht2, by omega, by omega⟩

def powB (w : ByteArray) (k i q : Nat) : Bool := hasP (w.extract i (i + k * q)) q
def powR (w : ByteArray) (k i : Nat) : List (List Int) := gath (powB w k i) (fun q => [(i : Int), (q : Int)]) 1 ((w.size - i) / k)
def powL (w : ByteArray) (k : Nat) : List (List Int) := (List.range' 0 w.size).flatMap (powR w k)
theorem powR_len (w : ByteArray) (k i : Nat) : (powR w k i).length ≤ w.size := Nat.le_trans (gath_len _ _ _ _) (Nat.le_trans (Nat.div_le_self _ _) (Nat.sub_le _ _))
theorem powL_len_aux (w : ByteArray) (k : Nat) : ∀ c i, ((List.range' i c).flatMap (powR w k)).length ≤ c * w.size
  | 0, i => by simp
  | c + 1, i => by
    rw [List.range'_succ, List.flatMap_cons, List.length_append, Nat.succ_mul]
    have := powR_len w k i
    have := powL_len_aux w k c (i + 1)
    omega
theorem powL_len {w : ByteArray} {k : Nat} (hw : w.size ≤ 60) : (powL w k).length ≤ 3600 := Nat.le_trans (powL_len_aux w k _ _) (Nat.mul_le_mul hw hw)
theorem div_in {n k q : Nat} (hk : 0 < k) (h : q ≤ n / k) : k * q ≤ n := by rw [Nat.mul_comm]; exact (Nat.le_div_iff_mul_le hk).mp h
theorem div_out {n k : Nat} (hk : 0 < k) : n < k * (n / k + 1) ∧ k * (n / k + 1) ≤ n + k := by
  have h := Nat.div_add_mod n k
  have h2 := Nat.mod_lt n hk
  rw [Nat.mul_add, Nat.mul_one]
  omega
theorem powL_nil {w : ByteArray} {m : Nat} (h1 : 1 ≤ m) : powL w m = [] ↔ ∀ i q, 1 ≤ q → i + m * q ≤ w.size → powB w m i q = false := by
  unfold powL
  rw [List.flatMap_eq_nil_iff]
  constructor
  · intro h i q hq hi
    have hq2 : q ≤ m * q := Nat.le_mul_of_pos_left q h1
    have := h i (by rw [List.mem_range'_1]; omega)
    refine gath_nil.mp this q hq ?_
    have : q ≤ (w.size - i) / m := (Nat.le_div_iff_mul_le h1).mpr (by rw [Nat.mul_comm]; omega)
    omega
  · intro h i hi
    rw [List.mem_range'_1] at hi
    refine gath_nil.mpr fun q h3 h4 => h i q h3 ?_
    have := div_in h1 (show q ≤ (w.size - i) / m by omega)
    omega

def sqE (w : ByteArray) (e q : Nat) : Bool := powB w 2 (e - 2 * q) q
def endF (w : ByteArray) : Bool := (findE (sqE w w.size) 1 (w.size / 2)).isNone

theorem spec_l03Power_eq {k : Nat} {w : ByteArray} {i q m : Nat} (hm : 1 ≤ m) (h : i + m * q ≤ w.size) (hw : w.size ≤ 1048576) (hk : w.size + 2 < k) : spec_l03Power.f k w i q m = some (powB w m i q) := by
  have hq : q ≤ m * q := Nat.le_mul_of_pos_left q hm
  have hz : (w.extract i (i + m * q)).size = m * q := by rw [ext_size]; omega
  have e1 : (q : Int) * m = ((m * q : Nat) : Int) := by rw [Int.natCast_mul, Int.mul_comm]
  unfold spec_l03Power.f
  rw [e1, w64 (x := ((m * q : Nat) : Int)) (by omega) (by omega), w64 (by omega) (by omega), if_neg (by omega)]
  have hf := find_from (fun k j => spec_l03Power.l0 k w i q m j) (i + (m * q - q)) i (fun j => !(bt w j == bt w ((j + q : Nat) : Int))) (fun _ => false) true 0
    (fun k j _ hl hj => by
      simp only [spec_l03Power.l0]
      rw [e1, w64 (x := ((m * q : Nat) : Int)) (by omega) (by omega), w64 (x := (i : Int) + _) (by omega) (by omega), w64 (x := (j : Int) + q) (by omega) (by omega), if_pos (by omega), if_pos (by omega), if_pos (by omega), if_pos (by omega), if_pos (by omega), w64 (by omega) (by omega)]
      rw [show (j : Int) + q = ((j + q : Nat) : Int) by omega]
      by_cases h1 : bt w j = bt w ((j + q : Nat) : Int)
      · rw [if_pos h1]; simp [h1]
      · rw [if_neg h1, beq_eq_false_iff_ne.mpr h1]; rfl)
    (fun k _ => by
      simp only [spec_l03Power.l0]
      rw [e1, w64 (x := ((m * q : Nat) : Int)) (by omega) (by omega), w64 (x := (i : Int) + _) (by omega) (by omega), w64 (by omega) (by omega), if_neg (by omega)])
    (m * q - q) k i rfl (Nat.le_refl _) (by omega)
  rw [hf]
  congr 1
  unfold powB
  cases hc : findE (fun j => !(bt w j == bt w ((j + q : Nat) : Int))) i (m * q - q) with
  | none =>
    symm
    rw [hasP_iff (by omega), hz]
    intro j hj
    have := findE_none.mp hc (i + j) (by omega) (by omega)
    rw [ext_bt _ (by omega), ext_bt _ (by omega), show i + (j + q) = i + j + q by omega]
    simpa using this
  | some j =>
    obtain ⟨h1, h2, h3, _⟩ := findE_some hc
    symm
    rw [Bool.eq_false_iff, ne_eq, hasP_iff (by omega), hz]
    intro h4
    have := h4 (j - i) (by omega)
    rw [ext_bt _ (by omega), ext_bt _ (by omega), show i + (j - i + q) = j + q by omega, show i + (j - i) = j by omega] at this
    simp [this] at h3

def firG (w : ByteArray) (e : Nat) (_ : Unit) : (Int × Int × Bool) ⊕ Unit := match findE (sqE w e) 1 (e / 2) with | some q => .inl (((e - 2 * q : Nat) : Int), (q : Int), true) | none => .inr ()
/-- the first square that ends at a place or behind it -/
def firW (w : ByteArray) (a : Nat) : Int × Int × Bool := loopE (firG w) (fun _ => (0, 0, false)) (max a 2) (w.size + 1 - max a 2) ()
theorem mx_nat {a : Nat} : mx (a : Int) 2 = ((max a 2 : Nat) : Int) := by unfold mx; split <;> omega
theorem spec_l03First_eq {k : Nat} {w : ByteArray} {a : Nat} (hw : w.size ≤ 1000) (ha : a ≤ 1000) (hk : 2000000 ≤ k) : spec_l03First.f k w a = some (firW w a) := by
  have hend : ∀ k (e : Nat), w.size < e → spec_l03First.l0 (k + 1) w e = some (0, 0, false) := fun k e he => by
    simp only [spec_l03First.l0]
    rw [if_neg (by omega)]
  unfold spec_l03First.f firW
  rw [mx_nat]
  by_cases hz : w.size + 1 ≤ max a 2
  · obtain ⟨k, rfl⟩ := rounds_pos (show 0 < k by omega)
    rw [hend _ _ (by omega), show w.size + 1 - max a 2 = 0 by omega]; rfl
  · exact loop_cost (fun k (_ : Unit) e => spec_l03First.l0 k w e) (w.size + 1) (firG w) (fun _ => (0, 0, false)) (fun _ _ => True) 2000 1000
      (fun e _ he _ => by
        have hd := Nat.div_add_mod e 2
        have hm := Nat.mod_lt e (show 0 < 2 by omega)
        refine ⟨e / 2 + 1, by omega, fun k hk => ?_⟩
        have h := find_on (fun k q => spec_l03First.l1 k w e q) (fun k => spec_l03First.l0 k w ((e + 1 : Nat) : Int)) (e / 2 + 1) (sqE w e) (fun q => (((e - 2 * q : Nat) : Int), (q : Int), true)) 2000
          (fun k q hk hq => by
            simp only [spec_l03First.l1]
            rw [w64 (x := 2 * (q : Int)) (by omega) (by omega), if_pos (by omega), w64 (x := (e : Int) - 2 * q) (by omega) (by omega), w64 (x := (q : Int) + 1) (by omega) (by omega), show (e : Int) - 2 * q = ((e - 2 * q : Nat) : Int) by omega]
            have := spec_l03Power_eq (k := k) (w := w) (i := e - 2 * q) (q := q) (m := 2) (by omega) (by omega) (by omega) (by omega)
            rw [show ((2 : Nat) : Int) = 2 from rfl] at this
            rw [this, Option.bind_some]
            rfl)
          (fun k hk => by
            simp only [spec_l03First.l1]
            rw [w64 (x := 2 * _) (by omega) (by omega), if_neg (by omega), w64 (by omega) (by omega)]; rfl)
          (e / 2) k 1 (by omega) hk
        simp only [spec_l03First.l0]
        rw [if_pos (by omega), show k + (e / 2 + 1) = k + (e / 2) + 1 by omega]
        rw [show (1 : Int) = ((1 : Nat) : Int) from rfl, h]
        unfold firG
        cases findE (sqE w e) 1 (e / 2) <;> rfl)
      (fun _ _ _ _ _ _ => trivial)
      (fun k _ _ _ => hend k (w.size + 1) (by omega))
      (w.size + 1 - max a 2) k (max a 2) () (by omega) (by
        have : (w.size + 1 - max a 2) * (1000 + 1) ≤ 1001 * 1001 := Nat.mul_le_mul (by omega) (by omega)
        omega) trivial
theorem loopE_unit {α : Type} (g : Nat → Unit → α ⊕ Unit) (d : α) : ∀ (c i : Nat),
    ((∀ m, i ≤ m → m < i + c → g m () = .inr ()) ∧ loopE g (fun _ => d) i c () = d) ∨ ∃ m a, i ≤ m ∧ m < i + c ∧ g m () = .inl a ∧ (∀ j, i ≤ j → j < m → g j () = .inr ()) ∧ loopE g (fun _ => d) i c () = a
  | 0, i => .inl ⟨fun m _ _ => by omega, rfl⟩
  | c + 1, i => by
    simp only [loopE]
    cases hg : g i () with
    | inl a => exact .inr ⟨i, a, Nat.le_refl _, by omega, hg, fun j _ _ => by omega, rfl⟩
    | inr u =>
      rcases loopE_unit g d c (i + 1) with ⟨h1, h2⟩ | ⟨m, a, h1, h2, h3, h4, h5⟩
      · refine .inl ⟨fun m hm1 hm2 => ?_, h2⟩
        by_cases e : m = i
        · subst e; exact hg
        · exact h1 m (by omega) (by omega)
      · refine .inr ⟨m, a, by omega, by omega, h3, fun j hj1 hj2 => ?_, h5⟩
        by_cases e : j = i
        · subst e; exact hg
        · exact h4 j (by omega) hj2
theorem firW_spec (w : ByteArray) (a : Nat) :
    (firW w a = (0, 0, false) ∧ ∀ e q, max a 2 ≤ e → e ≤ w.size → 1 ≤ q → 2 * q ≤ e → sqE w e q = false) ∨
    ∃ e q, max a 2 ≤ e ∧ e ≤ w.size ∧ 1 ≤ q ∧ 2 * q ≤ e ∧ sqE w e q = true ∧ firW w a = (((e - 2 * q : Nat) : Int), (q : Int), true) ∧ (∀ q', 1 ≤ q' → q' < q → sqE w e q' = false) ∧ ∀ e' q', max a 2 ≤ e' → e' < e → 1 ≤ q' → 2 * q' ≤ e' → sqE w e' q' = false := by
  have hno : ∀ e, firG w e () = .inr () → ∀ q, 1 ≤ q → 2 * q ≤ e → sqE w e q = false := fun e h q h1 h2 => by
    unfold firG at h
    cases hf : findE (sqE w e) 1 (e / 2) with
    | some j => rw [hf] at h; cases h
    | none =>
      have hd := Nat.div_add_mod e 2
      have hm := Nat.mod_lt e (show 0 < 2 by omega)
      exact findE_none.mp hf q h1 (by omega)
  rcases loopE_unit (firG w) (0, 0, false) (w.size + 1 - max a 2) (max a 2) with ⟨h1, h2⟩ | ⟨e, r, h1, h2, h3, h4, h5⟩
  · exact .inl ⟨h2, fun e q he1 he2 hq1 hq2 => hno e (h1 e he1 (by omega)) q hq1 hq2⟩
  · have h3' := h3
    unfold firG at h3
    cases hf : findE (sqE w e) 1 (e / 2) with
    | none => rw [hf] at h3; cases h3
    | some q =>
      rw [hf] at h3
      injection h3 with h3
      obtain ⟨f1, f2, f3, f4⟩ := findE_some hf
      have hd := Nat.div_add_mod e 2
      have hm := Nat.mod_lt e (show 0 < 2 by omega)
      refine .inr ⟨e, q, h1, by omega, f1, by omega, f3, ?_, f4, fun e' q' he1 he2 hq1 hq2 => hno e' (h4 e' he1 he2) q' hq1 hq2⟩
      unfold firW
      rw [h5, ← h3]

theorem triple_all : ∀ m : Fin 61, ((spec_l01Named.f 600 (⟨#[116, 114, 105, 112, 108, 101]⟩ : ByteArray) (m.val : Int)).elim false fun r => decide (r.1.size ≤ 60) && isW r.1) = true := by
  decide +kernel
theorem triple_ok {m : Int} {k : Nat} (hm : 0 ≤ m ∧ m ≤ 60) (hf : 600 ≤ k) : ∃ w b, spec_l01Named.f k (⟨#[116, 114, 105, 112, 108, 101]⟩ : ByteArray) m = some (w, b) ∧ w.size ≤ 60 ∧ isW w = true := by
  obtain ⟨m, rfl⟩ := Int.eq_ofNat_of_zero_le hm.1
  have h := triple_all ⟨m, by omega⟩
  simp only at h
  revert h
  cases e : spec_l01Named.f 600 (⟨#[116, 114, 105, 112, 108, 101]⟩ : ByteArray) (m : Int) with
  | none => intro h; cases h
  | some r =>
    intro h
    have h2 := leO_far (fun k => spec_l01Named.mono _ _ k) e (k - 600)
    rw [show 600 + (k - 600) = k by omega] at h2
    have h3 : (decide (r.1.size ≤ 60) && isW r.1) = true := h
    rw [Bool.and_eq_true] at h3
    exact ⟨r.1, r.2, h2, of_decide_eq_true h3.1, h3.2⟩
theorem rename_l0 {w : ByteArray} (hw : w.size ≤ 100) (hl : ∀ i : Nat, i < w.size → 97 ≤ bt w i ∧ bt w i < 102) {p : List Int} (hp : p.length = 5) : ∀ (d i k : Nat) (out : List Int), i + d = w.size → out.length = i → d < k → ∃ r, spec_l01Renamed.l0 k w p out i = some r ∧ r.size = w.size
  | 0, i, k, out, hi, ho, hk => by
    obtain ⟨k, rfl⟩ := rounds_pos (show 0 < k by omega)
    simp only [spec_l01Renamed.l0]
    rw [if_neg (by omega)]
    exact ⟨_, rfl, by rw [sn_len]; omega⟩
  | d + 1, i, k, out, hi, ho, hk => by
    obtain ⟨k, rfl⟩ := rounds_pos (show 0 < k by omega)
    simp only [spec_l01Renamed.l0]
    have hb := hl i (by omega)
    unfold spec_l01At.f
    rw [if_pos (by omega), if_pos (by omega), if_pos (by omega), w64 (x := bt w i) (by omega) (by omega), w64 (x := bt w i - 97) (by omega) (by omega), Option.bind_some, if_pos (by omega), if_pos (by omega), if_pos (by omega), w64 (x := (i : Int) + 1) (by omega) (by omega), show (i : Int) + 1 = ((i + 1 : Nat) : Int) by omega]
    exact rename_l0 hw hl hp d (i + 1) k _ (by omega) (by simp [ho]) (by omega)
theorem rename_ok {w : ByteArray} {k : Nat} (hW : isW w = true) {p : List Int} (hp : p.length = 5) (hk : 100 ≤ k) : ∃ r, spec_l01Renamed.f k w p = some r ∧ r.size = w.size := by
  have hz := isW_size hW
  unfold spec_l01Renamed.f
  refine rename_l0 (by omega) (fun i hi => ?_) hp w.size 0 k [] (by omega) rfl (by omega)
  rw [bt_nat, getD_eq _ _ (by rw [bo_len]; exact hi)]
  exact ((isW_iff w).mp hW).2 _ (List.getElem_mem _)
theorem l03Draw_l0 {l : List Int} (hl : OkC l) {x : Int} (hx : 1 ≤ x ∧ x ≤ 100) : ∀ (d k : Nat) (w : ByteArray) (t h : Int), 2000000 + d < k → w.size + d ≤ 60 → 0 ≤ t ∧ t ≤ (l.length : Int) → Gives (spec_l03Draw.l0 k x w (d : Int) l t h) l fun w => w.size ≤ 60
  | 0, k, w, t, h, hk, hw, ht => by
    obtain ⟨k, rfl⟩ := rounds_pos (show 0 < k by omega)
    simp only [spec_l03Draw.l0]
    rw [if_neg (by omega)]
    exact ⟨_, _, _, rfl, ht, by omega⟩
  | d + 1, k, w, t, h, hk, hw, ht => by
    obtain ⟨k, rfl⟩ := rounds_pos (show 0 < k by omega)
    simp only [spec_l03Draw.l0]
    obtain ⟨r, t1, h1, e1, ht1, r0, r1⟩ := l01Next_ok (h := h) hl ht (n := x) (by omega)
    rw [if_pos (by omega), e1, Option.bind_some]
    unfold spec_l01Letter.f
    rw [Option.bind_some]
    obtain ⟨c, hc⟩ : ∃ c : ByteArray, c = strOfNums [(wrap64 (97 + r)) % 256] := ⟨_, rfl⟩
    have hcz : c.size = 1 := by rw [hc, sn_len]; rfl
    have hz : (w ++ c).size = w.size + 1 := by rw [ByteArray.size_append, hcz]
    dsimp only
    rw [← hc, if_pos (by omega), hcz]
    have hf := spec_l03First_eq (k := k) (w := w ++ c) (a := w.size + 1) (by omega) (by omega) (by omega)
    rw [show ((w.size : Int) + ((1 : Nat) : Int)) = ((w.size + 1 : Nat) : Int) by omega, hf, Option.bind_some, w64 (by omega) (by omega), show ((d + 1 : Nat) : Int) - 1 = (d : Int) by omega]
    by_cases c2 : (firW (w ++ c) (w.size + 1)).2.2 = true
    · rw [if_pos c2]
      obtain ⟨y, t2, h2, e2, ht2, y0, y1⟩ := l01Next_ok (h := h1) hl ht1 (n := 9) (by omega)
      rw [e2, Option.bind_some]
      dsimp only
      by_cases c3 : y = 0
      · rw [if_pos c3]; exact l03Draw_l0 hl hx d k _ t2 h2 (by omega) (by omega) ht2
      · rw [if_neg c3]; exact l03Draw_l0 hl hx d k _ t2 h2 (by omega) (by omega) ht2
    · rw [if_neg c2]; exact l03Draw_l0 hl hx d k _ t1 h1 (by omega) (by omega) ht1
theorem l03Draw_ok {l : List Int} {t h : Int} {k : Nat} (hl : OkC l) (ht : 0 ≤ t ∧ t ≤ (l.length : Int)) (hk : 3000000 ≤ k) : Gives (spec_l03Draw.f k l t h) l fun u => u.size ≤ 60 := by
  unfold spec_l03Draw.f
  obtain ⟨r, t1, h1, e1, ht1, r0, r1⟩ := l01Next_ok (h := h) hl ht (n := 4) (by omega)
  rw [e1, Option.bind_some]
  dsimp only
  by_cases c0 : r = 0
  · rw [if_pos c0]
    obtain ⟨m, t2, h2, e2, ht2, m0, m1⟩ := l01Next_ok (h := h1) hl ht1 (n := 40) (by omega)
    obtain ⟨w, b, e3, hw, hW⟩ := triple_ok (m := m) (k := k) (by omega) (by omega)
    obtain ⟨x, t4, h4, e4, ht4, x0, x1⟩ := l01Next_ok (h := h2) hl ht2 (n := 5) (by omega)
    obtain ⟨y, t5, h5, e5, ht5, y0, y1⟩ := l01Next_ok (h := h4) hl ht4 (n := 5) (by omega)
    obtain ⟨z, t6, h6, e6, ht6, z0, z1⟩ := l01Next_ok (h := h5) hl ht5 (n := 5) (by omega)
    obtain ⟨v, e7, hv⟩ := rename_ok (w := w) (k := k) hW (p := [x, y, z, 0, 0]) rfl (by omega)
    rw [e2, Option.bind_some, e3, Option.bind_some, e4, Option.bind_some, e5, Option.bind_some, e6, Option.bind_some]
    dsimp only
    rw [e7, Option.bind_some]
    exact ⟨_, _, _, rfl, ht6, show v.size ≤ 60 by omega⟩
  rw [if_neg c0]
  by_cases c1 : r = 1
  · rw [if_pos c1]
    obtain ⟨x, t2, h2, e2, ht2, x0⟩ := l01Pick_ok (h := h1) [2, 3, 3, 4] (P := fun r => 1 ≤ r ∧ r ≤ 100) hl ht1 (by decide) (by decide)
    obtain ⟨m, t3, h3, e3, ht3, m0, m1⟩ := l01Next_ok (h := h2) hl ht2 (n := 24) (by omega)
    rw [e2, Option.bind_some, e3, Option.bind_some]
    have := l03Draw_l0 hl x0 m.toNat k ⟨#[]⟩ t3 h3 (by omega) (by show 0 + _ ≤ _; omega) ht3
    rw [show ((m.toNat : Nat) : Int) = m by omega] at this
    exact this
  rw [if_neg c1]
  obtain ⟨u, t2, h2, e2, ht2, u0⟩ := l01Draw_ok (h := h1) (k := k) hl ht1 (by omega)
  rw [e2, Option.bind_some]
  exact ⟨_, _, _, rfl, ht2, u0⟩
theorem l03Spoil_ok {l : List Int} {k : Nat} (hl : OkC l) (hk : 3000000 ≤ k) : ∃ a, spec_l03Spoil.f k l = some a ∧ a.size ≤ 62 := by
  obtain ⟨h, e⟩ := l01From_ok (k := k) hl (by omega)
  obtain ⟨u, t1, h1, e1, ht1, u0⟩ := l03Draw_ok (t := 0) (h := h) (k := k) hl zero_ok hk
  obtain ⟨v, t2, h2, e2, ht2, v0⟩ := l01Bad_ok (h := h1) (k := k) hl ht1 u0 (by omega)
  unfold spec_l03Spoil.f
  rw [e, Option.bind_some]
  dsimp only
  rw [e1, Option.bind_some]
  dsimp only
  rw [e2, Option.bind_some]
  exact ⟨_, rfl, v0⟩

theorem likeInts_l0 {a : List Int} (ha : a.length ≤ 1048576) : ∀ (d i k : Nat), i + d = a.length → d < k → laws_likeInts.l0 k a a i = some true
  | 0, i, k, hi, hk => by
    obtain ⟨k, rfl⟩ := rounds_pos (show 0 < k by omega)
    simp only [laws_likeInts.l0]
    rw [if_neg (by omega)]
  | d + 1, i, k, hi, hk => by
    obtain ⟨k, rfl⟩ := rounds_pos (show 0 < k by omega)
    simp only [laws_likeInts.l0]
    rw [if_pos (by omega), if_pos (by omega), if_pos (by omega), if_pos trivial, w64 (by omega) (by omega), show (i : Int) + 1 = ((i + 1 : Nat) : Int) by omega]
    exact likeInts_l0 ha d (i + 1) k (by omega) (by omega)
theorem likeInts_eq {k : Nat} {a : List Int} (ha : a.length ≤ 1048576) (hk : a.length < k) : laws_likeInts.f k a a = some true := by
  unfold laws_likeInts.f
  rw [if_pos rfl]
  exact likeInts_l0 ha a.length 0 k (by omega) (by omega)

theorem spec_l01Is_eq {k : Nat} {w : ByteArray} (hw : w.size ≤ 140737488351232) (hk : w.size + 1 < k) : spec_l01Is.f k w = some (isW w) := by
  have h := find_gen (fun k i => spec_l01Is.l0 k w i) w.size (fun i => !okB (bt w i)) (fun _ => false) (decide ((w.size : Int) ≤ 60)) 0
    (fun k i _ hi => by
      simp only [spec_l01Is.l0]
      rw [if_pos (by omega), if_pos (by omega)]
      by_cases h1 : bt w i < 97
      · rw [if_pos h1]
        have : okB (bt w i) = false := by unfold okB; simp; omega
        simp [this]
      · rw [if_neg h1]
        by_cases h2 : bt w i > 101
        · rw [if_pos h2]
          have : okB (bt w i) = false := by unfold okB; simp; omega
          simp [this]
        · rw [if_neg h2, w64 (by omega) (by omega)]
          have : okB (bt w i) = true := by unfold okB; simp; omega
          simp [this])
    (fun k _ => by simp only [spec_l01Is.l0]; rw [if_neg (by omega)])
    w.size k 0 (by omega) (by omega)
  unfold spec_l01Is.f
  rw [show (0 : Int) = ((0 : Nat) : Int) from rfl, h]
  congr 1
  unfold isW
  cases hf : findE (fun i => !okB (bt w i)) 0 w.size with
  | some j =>
    obtain ⟨_, h1, h2, _⟩ := findE_some hf
    have : (bytesOf w).all okB = false := by
      rw [Bool.eq_false_iff]
      intro h3
      rw [List.all_eq_true] at h3
      have hj : j < (bytesOf w).length := by rw [bo_len]; omega
      have := h3 _ (List.getElem_mem hj)
      rw [bt_nat, getD_eq _ _ hj, this] at h2
      cases h2
    simp [this]
  | none =>
    have : (bytesOf w).all okB = true := by
      rw [List.all_eq_true]
      intro x hx
      obtain ⟨j, hj, rfl⟩ := List.mem_iff_getElem.mp hx
      have := findE_none.mp hf j (Nat.zero_le _) (by rw [bo_len] at hj; omega)
      rw [bt_nat, getD_eq _ _ hj] at this
      simpa using this
    simp only [this, Bool.and_true, decide_eq_decide]
    omega
theorem spec_l01In_eq (n lo hi : Int) : spec_l01In.f n lo hi = some (inR n lo hi) := by
  unfold spec_l01In.f inR
  by_cases h : n ≥ lo
  · rw [if_pos h, decide_eq_true (show lo ≤ n from h)]; simp
  · rw [if_neg h, decide_eq_false (show ¬ lo ≤ n from h)]; simp

def letW (n : Nat) : ByteArray := strOfNums [97 + (n : Int)]
theorem letW_size (n : Nat) : (letW n).size = 1 := by unfold letW; rw [sn_len]; rfl
theorem app_size (a b : ByteArray) : (a ++ b).size = a.size + b.size := by rw [← bo_len, bo_append, List.length_append, bo_len, bo_len]
theorem spec_l01Letter_eq {n : Nat} (h : n ≤ 100) : spec_l01Letter.f n = some (letW n) := by
  unfold spec_l01Letter.f letW
  rw [w64 (by omega) (by omega), Int.emod_eq_of_lt (by omega) (by omega)]
theorem impl_letter_eq {n : Nat} (h : n ≤ 100) : impl_letter.f n = some (letW n) := by
  unfold impl_letter.f letW
  rw [w64 (by omega) (by omega), Int.emod_eq_of_lt (by omega) (by omega)]

def sqfB (w : ByteArray) : Bool := decide (powL w 2 = [])

theorem first_free {w : ByteArray} : (!(firW w 0).2.2) = sqfB w := by
  unfold sqfB
  rcases firW_spec w 0 with ⟨h1, h2⟩ | ⟨e, q, h1, h2, h3, h4, h5, h6, _⟩
  · rw [h1, Bool.not_false]
    symm
    rw [decide_eq_true_iff, powL_nil (by omega)]
    intro i q hq hi
    have := h2 (i + 2 * q) q (by omega) hi hq (by omega)
    unfold sqE at this
    rw [show i + 2 * q - 2 * q = i by omega] at this
    exact this
  · rw [h6, Bool.not_true]
    symm
    rw [decide_eq_false_iff_not, powL_nil (by omega)]
    intro h
    have := h (e - 2 * q) q h3 (by omega)
    unfold sqE at h5
    rw [this] at h5; cases h5

theorem firW_ends {w : ByteArray} : (firW w w.size).2.2 = !endF w := by
  have hd := Nat.div_add_mod w.size 2
  have hm := Nat.mod_lt w.size (show 0 < 2 by omega)
  rcases firW_spec w w.size with ⟨h1, h2⟩ | ⟨e, q, h1, h2, h3, h4, h5, h6, _⟩
  · rw [h1]
    have : endF w = true := by
      unfold endF
      rw [Option.isNone_iff_eq_none, findE_none]
      intro q hq1 hq2
      exact h2 w.size q (by omega) (Nat.le_refl _) hq1 (by omega)
    rw [this]; rfl
  · rw [h6]
    have : endF w = false := by
      unfold endF
      obtain rfl : e = w.size := by omega
      cases hf : findE (sqE w w.size) 1 (w.size / 2) with
      | some j => rfl
      | none => rw [findE_none.mp hf q h3 (by omega)] at h5; cases h5
    rw [this]; rfl

theorem impl_hasPeriod_eq {w : ByteArray} {p : Int} (h0 : 0 ≤ p) (h1 : p ≤ w.size) (hw : w.size ≤ 1048576) : impl_hasPeriod.f w p = some (hasP w p.toNat) := by
  unfold impl_hasPeriod.f
  rw [if_pos h0, if_pos h1, w64 (by omega) (by omega), if_pos (by omega), if_pos (by omega), toList_beq]
  unfold hasP
  rw [show ((w.size : Int) - p).toNat = w.size - p.toNat by omega]

theorem impl_powersIn_eq {k : Nat} {w : ByteArray} {m : Nat} (hw : w.size ≤ 60) (h1 : 1 ≤ m) (h2 : m ≤ 60) (hk : 100000 ≤ k) : impl_powersIn.f k w m = some (powL w m) := by
  have := fold_cost (fun k (s : List (List Int)) i => impl_powersIn.l0 k w m s w.size i) w.size (fun i s => s ++ powR w m i) (fun _ s => some s) (fun i s => s.length ≤ 60 * i) 20000 70
    (fun i s hi hs => by
      have hd : (w.size - i) / m ≤ w.size - i := Nat.div_le_self _ _
      obtain ⟨o1, o2⟩ := div_out (n := w.size - i) (k := m) h1
      refine ⟨(w.size - i) / m + 1, by omega, fun k hk => ?_⟩
      have h := gather_on (fun k (s : List (List Int)) q => impl_powersIn.l1 k w m s i q w.size i) (fun k s => impl_powersIn.l0 k w m s w.size ((i + 1 : Nat) : Int)) ((w.size - i) / m + 1) (powB w m i) (fun q => [(i : Int), (q : Int)]) 20000 100000
        (fun k q acc hk hq ha => by
          have hin := div_in h1 (show q ≤ (w.size - i) / m by omega)
          have hq2 : q ≤ m * q := Nat.le_mul_of_pos_left q h1
          have e1 : (m : Int) * q = ((m * q : Nat) : Int) := by rw [Int.natCast_mul]
          simp only [impl_powersIn.l1]
          rw [e1, w64 (x := ((m * q : Nat) : Int)) (by omega) (by omega), w64 (by omega) (by omega), if_pos (by omega), if_pos (by omega), if_pos (by omega), Int.toNat_natCast, show ((i : Int) + ((m * q : Nat) : Int)).toNat = i + m * q by omega, impl_hasPeriod_eq (by omega) (by rw [ext_size]; omega) (by rw [ext_size]; omega), Int.toNat_natCast, w64 (by omega) (by omega)]
          simp only [Option.bind_some]
          unfold powB
          cases hasP (w.extract i (i + m * q)) q
          · simp
          · simp; omega)
        (fun k acc hk => by
          have e1 : (m : Int) * (((w.size - i) / m + 1 : Nat) : Int) = ((m * ((w.size - i) / m + 1) : Nat) : Int) := by rw [Int.natCast_mul]
          simp only [impl_powersIn.l1]
          rw [e1, w64 (x := ((m * ((w.size - i) / m + 1) : Nat) : Int)) (by omega) (by omega), w64 (by omega) (by omega), if_neg (by omega), w64 (by omega) (by omega)]; rfl)
        ((w.size - i) / m) k 1 s (by omega) hk (by omega)
      simp only [impl_powersIn.l0]
      rw [if_pos (by omega)]
      exact h)
    (fun i s hi hs => by
      have := powR_len w m i
      rw [List.length_append]; omega)
    (fun k s hk hs => by
      simp only [impl_powersIn.l0]
      rw [if_neg (by omega)])
    w.size k 0 [] (by omega) (by have : w.size * (70 + 1) ≤ 60 * 71 := Nat.mul_le_mul hw (by omega); omega) (by simp)
  obtain ⟨_, k', _, _, h4⟩ := this
  unfold impl_powersIn.f
  rw [loopS_append] at h4
  exact h4

theorem impl_isSquareFree_eq {k : Nat} {w : ByteArray} (hw : w.size ≤ 60) (hk : 100000 ≤ k) : impl_isSquareFree.f k w = some (sqfB w) := by
  unfold impl_isSquareFree.f sqfB
  have := impl_powersIn_eq (k := k) (w := w) (m := 2) hw (by omega) (by omega) hk
  rw [show ((2 : Nat) : Int) = 2 from rfl] at this
  rw [this, Option.bind_some]
  cases powL w 2 <;> simp
  omega

theorem impl_endsFree_eq {k : Nat} {w : ByteArray} (hw : w.size ≤ 1000) (hk : 5000 ≤ k) : impl_endsFree.f k w = some (endF w) := by
  have hd := Nat.div_add_mod w.size 2
  have hm := Nat.mod_lt w.size (show 0 < 2 by omega)
  have h := find_gen (fun k i => impl_endsFree.l0 k w i) (w.size / 2 + 1) (sqE w w.size) (fun _ => false) true 0
    (fun k q _ hq => by
      simp only [impl_endsFree.l0]
      rw [w64 (x := 2 * (q : Int)) (by omega) (by omega), if_pos (by omega), w64 (x := (w.size : Int) - 2 * q) (by omega) (by omega), if_pos (by omega), if_pos (by omega), w64 (by omega) (by omega)]
      rw [show ((w.size : Int) - 2 * (q : Int)).toNat = w.size - 2 * q by omega]
      rw [impl_hasPeriod_eq (by omega) (by rw [ext_size]; omega) (by rw [ext_size]; omega), Int.toNat_natCast, Option.bind_some]
      have e : hasP (w.extract (w.size - 2 * q) w.size) q = sqE w w.size q := by
        unfold sqE powB
        rw [show w.size - 2 * q + 2 * q = w.size by omega]
      rw [e]
      cases sqE w w.size q <;> simp)
    (fun k _ => by simp only [impl_endsFree.l0]; rw [w64 (by omega) (by omega), if_neg (by omega)])
    (w.size / 2) k 1 (by omega) (by omega)
  unfold impl_endsFree.f endF
  rw [show (1 : Int) = ((1 : Nat) : Int) from rfl, h]
  cases findE (sqE w w.size) 1 (w.size / 2) <;> rfl

def nxtL (w : ByteArray) (m : Nat) : List Int := if w.size < 60 then gath (fun n => endF (w ++ letW n)) (fun n => (n : Int)) 0 m else []
theorem nxtL_len (w : ByteArray) (m : Nat) : (nxtL w m).length ≤ m := by unfold nxtL; split; exact gath_len _ _ _ _; simp
theorem spec_next_l0 {w : ByteArray} (hz : w.size < 60) {m : Nat} (hm : m ≤ 5) : ∀ (d n k : Nat) (acc : List Int), n + d = m → 2 * d + 3000000 < k → acc.length ≤ n →
    spec_LettersNext.l0 k w m acc n = some (acc ++ gath (fun n => endF (w ++ letW n)) (fun n => (n : Int)) n d, 0)
  | 0, n, k, acc, hn, hk, ha => by
    obtain ⟨k, rfl⟩ := rounds_pos (show 0 < k by omega)
    obtain ⟨k, rfl⟩ := rounds_pos (show 0 < k by omega)
    simp only [spec_LettersNext.l0, spec_LettersNext.j1]
    rw [if_neg (by omega), if_neg (by decide)]
    simp [gath]
  | d + 1, n, k, acc, hn, hk, ha => by
    obtain ⟨k, rfl⟩ := rounds_pos (show 0 < k by omega)
    obtain ⟨k, rfl⟩ := rounds_pos (show 0 < k by omega)
    have hs := letW_size n
    have hs2 : (w ++ letW n).size = w.size + 1 := by rw [app_size, hs]
    simp only [spec_LettersNext.l0, spec_LettersNext.j1]
    rw [if_pos (by omega), decide_eq_true (show (w.size : Int) < 60 by omega), if_pos rfl, spec_l01Letter_eq (by omega), Option.bind_some, if_pos (by omega)]
    have := spec_l03First_eq (k := k) (w := w ++ letW n) (a := (w ++ letW n).size) (by omega) (by omega) (by omega)
    rw [show (((w ++ letW n).size : Nat) : Int) = (w.size : Int) + ((letW n).size : Int) by rw [hs2, hs]; omega] at this
    rw [this, Option.bind_some, firW_ends, w64 (by omega) (by omega), gath_succ]
    cases he : endF (w ++ letW n) with
    | true =>
      rw [if_neg (by decide), if_pos (by omega), show (n : Int) + 1 = ((n + 1 : Nat) : Int) by omega, spec_next_l0 hz hm d (n + 1) k _ (by omega) (by omega) (by simp; omega)]
      simp
    | false =>
      rw [Bool.not_false, if_pos rfl, show (n : Int) + 1 = ((n + 1 : Nat) : Int) by omega, spec_next_l0 hz hm d (n + 1) k _ (by omega) (by omega) (by omega)]
      simp
theorem nextN_eq {w : ByteArray} (hw : w.size ≤ 60) {k : Nat} (hk : 5000 ≤ k) : ∀ (d n : Nat) (acc : List Int), n + d ≤ 5 → nextN k w d n acc = some (acc ++ (if w.size < 60 then gath (fun n => endF (w ++ letW n)) (fun n => (n : Int)) n d else []))
  | 0, n, acc, hn => by simp [nextN, gath]
  | d + 1, n, acc, hn => by
    have hs := letW_size n
    have hs2 : (w ++ letW n).size = w.size + 1 := by rw [app_size, hs]
    simp only [nextN]
    by_cases hz : w.size < 60
    · rw [if_pos hz, if_pos hz, impl_letter_eq (by omega), Option.bind_some, impl_endsFree_eq (by omega) hk, Option.bind_some, nextN_eq hw hk d (n + 1) _ (by omega), if_pos hz, gath_succ]
      cases endF (w ++ letW n) <;> simp
    · rw [if_neg hz, if_neg hz, nextN_eq hw hk d (n + 1) _ (by omega), if_neg hz]
theorem spec_Next_eq {k : Nat} {w : ByteArray} {m : Int} (hw : isW w = true) (hm : inR m 1 5 = true) (hf : sqfB w = true) (hk : 4000000 ≤ k) : spec_LettersNext.l0 k w m [] 0 = some (nxtL w m.toNat, 0) := by
  have hz := isW_size hw
  obtain ⟨m1, m2⟩ := inR_true hm
  obtain ⟨m, rfl⟩ := Int.eq_ofNat_of_zero_le (show 0 ≤ m by omega)
  rw [Int.toNat_natCast]
  unfold nxtL
  by_cases h : w.size < 60
  · rw [if_pos h, show (0 : Int) = ((0 : Nat) : Int) from rfl, spec_next_l0 h (by omega) m 0 k [] (by omega) (by omega) (by simp)]
    simp
  · obtain ⟨k, rfl⟩ := rounds_pos (show 0 < k by omega)
    obtain ⟨k, rfl⟩ := rounds_pos (show 0 < k by omega)
    simp only [spec_LettersNext.l0, spec_LettersNext.j1]
    rw [if_pos (by omega), decide_eq_false (by omega), if_neg h]; rfl

def nextR (a0 : ByteArray) (a1 : Int) : List Int × Int := if isW a0 then (if inR a1 1 5 then (if sqfB a0 then (nxtL a0 a1.toNat, (0 : Int)) else ([], 4)) else ([], 2)) else ([], 1)
theorem spec_LettersNext_eq {m : Nat} (hm : 10000000 ≤ m) {a0 : ByteArray} {a1 : Int} (s0 : a0.size ≤ 1048576) : spec_LettersNext.f m a0 a1 = some (nextR a0 a1) := by
  unfold spec_LettersNext.f nextR
  rw [spec_l01Is_eq (by omega) (by omega), spec_l01In_eq]
  cases hw : isW a0
  · simp
  · have hz := isW_size hw
    cases hk : inR a1 1 5
    · simp
    · have hf := spec_l03First_eq (k := m) (w := a0) (a := 0) (by omega) (by omega) (by omega)
      rw [show ((0 : Nat) : Int) = 0 from rfl] at hf
      have ff := first_free (w := a0)
      simp only [Option.bind_some, if_true]
      rw [hf, Option.bind_some]
      cases hq : sqfB a0
      · rw [hq] at ff
        have : (firW a0 0).2.2 = true := by simpa using ff
        rw [this]; simp
      · rw [hq] at ff
        have : (firW a0 0).2.2 = false := by simpa using ff
        rw [this, if_neg (by decide), spec_Next_eq hw hk hq (by omega)]; simp
theorem impl_LettersNext_eq {m : Nat} (hm : 10000000 ≤ m) {a0 : ByteArray} {a1 : Int} : impl_LettersNext.f m a0 a1 = some (nextR a0 a1) := by
  unfold impl_LettersNext.f nextR
  cases hw : isW a0
  · simp
  · have hz := isW_size hw
    cases hk : inR a1 1 5
    · simp
    · obtain ⟨m1, m2⟩ := inR_true hk
      simp only [if_true]
      rw [impl_isSquareFree_eq hz (by omega), Option.bind_some]
      cases hq : sqfB a0
      · simp
      · rw [if_pos rfl, nextN_eq hz (by omega) _ _ _ (by omega), Option.bind_some]; simp [nxtL]

theorem wordCode_1 (a : ByteArray) : impl_wordCode.f () [a] = some (if isW a then 0 else 1) := by unfold impl_wordCode.f; simp
theorem spec_l03Period_l1 {w : ByteArray} {a b q : Nat} (hab : a < b) (hb : b ≤ w.size) (hw : w.size ≤ 1048576) (hq : q < b - a) : ∀ c i, i + c = b - a - q →
    ∃ c', c' ≤ c + 2 ∧ ∀ k, spec_l03Period.l1 (k + c') w a b q true ((a + i : Nat) : Int) = if (findE (fun i => !(bt w ((a + i : Nat) : Int) == bt w ((a + i + q : Nat) : Int))) i c).isNone then some (q : Int) else spec_l03Period.l0 k w a b ((q + 1 : Nat) : Int)
  | 0, i, hi => ⟨1, by omega, fun k => by
      simp only [spec_l03Period.l1]
      rw [w64 (by omega) (by omega), if_neg (by omega), if_pos trivial]; rfl⟩
  | c + 1, i, hi => by
    have hs : ∀ k, spec_l03Period.l1 (k + 1) w a b q true ((a + i : Nat) : Int) = spec_l03Period.l1 k w a b q (bt w ((a + i : Nat) : Int) == bt w ((a + i + q : Nat) : Int)) ((a + (i + 1) : Nat) : Int) := fun k => by
      simp only [spec_l03Period.l1]
      rw [w64 (x := ((a + i : Nat) : Int) + q) (by omega) (by omega), if_pos (by omega), if_pos trivial, if_pos (by omega), if_pos (by omega), if_pos (by omega), if_pos (by omega), w64 (by omega) (by omega)]
      rfl
    cases hg : (bt w ((a + i : Nat) : Int) == bt w ((a + i + q : Nat) : Int)) with
    | true =>
      obtain ⟨c', h1, h2⟩ := spec_l03Period_l1 hab hb hw hq c (i + 1) (by omega)
      refine ⟨c' + 1, by omega, fun k => ?_⟩
      rw [show k + (c' + 1) = (k + c') + 1 by omega, hs, hg, h2]
      simp only [findE, hg, Bool.not_true, Bool.false_eq_true, if_false]
    | false =>
      refine ⟨2, by omega, fun k => ?_⟩
      rw [hs, hg]
      simp only [spec_l03Period.l1, Bool.false_eq_true, if_false, ite_self]
      simp only [findE, hg, Bool.not_false, if_true, Option.isNone_some, Bool.false_eq_true, if_false]
      rw [w64 (by omega) (by omega)]; rfl
theorem spec_l03Period_eq {k : Nat} {w : ByteArray} {a b : Nat} (hab : a < b) (hb : b ≤ w.size) (hw : w.size ≤ 60) (hk : 10000 ≤ k) : spec_l03Period.f k w a b = some (leastP (w.extract a b) : Int) := by
  have hz : (w.extract a b).size = b - a := by rw [ext_size]; omega
  have h := until_cost (fun k i => spec_l03Period.l0 k w a b i) (b - a) (hasP (w.extract a b)) (fun j => (j : Int)) 0 70
    (fun q hq => by
      by_cases h1 : q < b - a
      · obtain ⟨c', h2, h3⟩ := spec_l03Period_l1 hab hb (by omega) h1 (b - a - q) 0 (by omega)
        refine ⟨c', by omega, fun k _ => ?_⟩
        rw [show k + c' + 1 = (k + c') + 1 by omega]
        simp only [spec_l03Period.l0]
        rw [w64 (by omega) (by omega), if_pos (by omega)]
        have := h3 k
        rw [Nat.add_zero] at this
        rw [this]
        have e : (findE (fun i => !(bt w ((a + i : Nat) : Int) == bt w ((a + i + q : Nat) : Int))) 0 (b - a - q)).isNone = hasP (w.extract a b) q := by
          rw [Bool.eq_iff_iff, Option.isNone_iff_eq_none, findE_none, hasP_iff (by omega), hz]
          constructor
          · intro h i hi
            have := h i (by omega) (by omega)
            rw [ext_bt _ (by omega), ext_bt _ (by omega), show a + (i + q) = a + i + q by omega]
            simpa using this
          · intro h i _ hi
            have := h i (by omega)
            rw [ext_bt _ (by omega), ext_bt _ (by omega), show a + (i + q) = a + i + q by omega] at this
            simpa using this
        rw [e]
      · refine ⟨0, by omega, fun k _ => ?_⟩
        obtain rfl : q = b - a := by omega
        simp only [spec_l03Period.l0]
        have := hasP_all (w.extract a b)
        rw [hz] at this
        rw [w64 (by omega) (by omega), if_neg (by omega), if_pos this]
        congr 1; omega)
    (by have := hasP_all (w.extract a b); rw [hz] at this; exact this)
    (b - a - 1) k 1 (by omega) (by
      have : (b - a - 1 + 1) * (70 + 1) ≤ 60 * 71 := Nat.mul_le_mul (by omega) (by omega)
      omega)
  unfold spec_l03Period.f
  rw [show (1 : Int) = ((1 : Nat) : Int) from rfl, h]
  unfold leastP
  rw [hz]

theorem impl_period_eq {k : Nat} {w : ByteArray} (hw : w.size ≤ 1048576) (h0 : 0 < w.size) (hk : w.size < k) : impl_period.f k w = some (leastP w : Int) := by
  have h := until_gen (fun k i => impl_period.l0 k w i) w.size (hasP w) (fun j => (j : Int)) 0
    (fun k i _ hi => by
      simp only [impl_period.l0]
      rw [impl_hasPeriod_eq (by omega) (by omega) hw, w64 (by omega) (by omega)]
      rfl)
    (hasP_all w) (w.size - 1) k 1 (by omega) (by omega)
  unfold impl_period.f
  rw [show (1 : Int) = ((1 : Nat) : Int) from rfl, h]
  rfl

theorem impl_divisor_l0 : ∀ (b : Nat) (k a : Nat), b < k → impl_divisor.l0 k (a : Int) (b : Int) = some ((Nat.gcd a b : Nat) : Int)
  | b, k, a, hk => by
    obtain ⟨k, rfl⟩ := rounds_pos (show 0 < k by omega)
    simp only [impl_divisor.l0]
    rcases Nat.eq_zero_or_pos b with h0 | h0
    · subst h0
      rw [if_pos (by simp)]
      simp
    · rw [if_neg (by omega), gcd_step a b]
      have hm := Nat.mod_lt a h0
      rw [show Int.tmod (a : Int) (b : Int) = ((a % b : Nat) : Int) from rfl]
      exact impl_divisor_l0 (a % b) k b (by omega)
theorem impl_divisor_eq {k : Nat} {a b : Int} (ha : 0 ≤ a) (hb : 0 ≤ b) (hk : b < k) : impl_divisor.f k a b = some (gcdI a b) := by
  obtain ⟨a, rfl⟩ := Int.eq_ofNat_of_zero_le ha
  obtain ⟨b, rfl⟩ := Int.eq_ofNat_of_zero_le hb
  unfold impl_divisor.f gcdI
  exact impl_divisor_l0 b k a (by omega)

def lowN (a b : Int) : Int × Int := (wrap64 (Int.tdiv a (gcdI a b)), wrap64 (Int.tdiv b (gcdI a b)))
theorem gcdI_pos {a b : Int} (h : 0 < a) : 0 < gcdI a b := by
  unfold gcdI
  have := Nat.gcd_pos_of_pos_left b.toNat (show 0 < a.toNat by omega)
  omega
theorem impl_lowest_eq {k : Nat} {a b : Int} (ha : 0 < a) (hb : 0 ≤ b) (hk : b < k) : impl_lowest.f k a b = some (lowN a b) := by
  unfold impl_lowest.f
  rw [impl_divisor_eq (by omega) hb hk]
  simp only [Option.bind_some]
  have := gcdI_pos (b := b) ha
  rw [if_neg (by omega)]; rfl

def grG (w : ByteArray) (a : Nat) (b : Nat) (s : Nat × Nat) : Nat × Nat := if (b - a) * s.2 > s.1 * leastP (w.extract a b) then (b - a, leastP (w.extract a b)) else s
def grS (w : ByteArray) : Nat × Nat := loopS (fun a s => loopS (fun b s => grG w a b s) (a + 1) (w.size - a) s) 0 w.size (1, 1)
def grI (s : Nat × Nat) : Prop := 1 ≤ s.1 ∧ s.1 ≤ 60 ∧ 1 ≤ s.2 ∧ s.2 ≤ 60
theorem grI_step {w : ByteArray} (hw : w.size ≤ 60) {a b : Nat} (hab : a < b) (hb : b ≤ w.size) {s : Nat × Nat} (h : grI s) : grI (grG w a b s) := by
  unfold grG
  split
  · have hz : (w.extract a b).size = b - a := by rw [ext_size]; omega
    obtain ⟨a1, a2, _, _⟩ := leastP_spec (w := w.extract a b) (by omega)
    exact ⟨by simp only; omega, by simp only; omega, a1, by simp only; omega⟩
  · exact h
theorem gr_mul {w : ByteArray} (hw : w.size ≤ 60) {a b : Nat} (hab : a < b) (hb : b ≤ w.size) {s : Nat × Nat} (h : grI s) :
    wrap64 (wrap64 ((b : Int) - a) * s.2) = (((b - a) * s.2 : Nat) : Int) ∧ wrap64 ((s.1 : Int) * (leastP (w.extract a b) : Int)) = ((s.1 * leastP (w.extract a b) : Nat) : Int) := by
  have hz : (w.extract a b).size = b - a := by rw [ext_size]; omega
  obtain ⟨a1, a2, _, _⟩ := leastP_spec (w := w.extract a b) (by omega)
  obtain ⟨h1, h2, h3, h4⟩ := h
  have m1 : (b - a) * s.2 ≤ 60 * 60 := Nat.mul_le_mul (by omega) h4
  have m2 : s.1 * leastP (w.extract a b) ≤ 60 * 60 := Nat.mul_le_mul h2 (by omega)
  constructor
  · rw [w64 (x := (b : Int) - a) (by omega) (by omega), show (b : Int) - a = ((b - a : Nat) : Int) by omega, ← Int.natCast_mul, w64 (by omega) (by omega)]
  · rw [← Int.natCast_mul, w64 (by omega) (by omega)]
theorem spec_gr {k : Nat} {w : ByteArray} (hw : w.size ≤ 60) (hk : 100000 ≤ k) : ∃ k', 1000 ≤ k' ∧ spec_GreatestExponent.l0 k w 1 1 w.size 0 = spec_GreatestExponent.l2 k' (grS w).1 (grS w).2 (grS w).1 (grS w).2 ∧ grI (grS w) := by
  have := fold_cost (fun k (s : Nat × Nat) i => spec_GreatestExponent.l0 k w s.1 s.2 w.size i) w.size (fun a s => loopS (fun b s => grG w a b s) (a + 1) (w.size - a) s) (fun k s => spec_GreatestExponent.l2 k s.1 s.2 s.1 s.2) (fun _ s => grI s) 20000 70
    (fun a s ha hs => by
      refine ⟨w.size - a + 1, by omega, fun k hk => ?_⟩
      have h := fold_on (fun k (s : Nat × Nat) i => spec_GreatestExponent.l1 k w s.1 s.2 w.size a i) (fun k s => spec_GreatestExponent.l0 k w s.1 s.2 w.size ((a + 1 : Nat) : Int)) (w.size + 1) (fun b s => grG w a b s) (fun b s => grI s ∧ a < b) 20000
        (fun k b s hk hb hs => by
          simp only [spec_GreatestExponent.l1]
          rw [if_pos (by omega), spec_l03Period_eq hs.2 (by omega) hw (by omega)]
          simp only [Option.bind_some]
          obtain ⟨m1, m2⟩ := gr_mul hw hs.2 (by omega) hs.1
          rw [m1, m2, w64 (by omega) (by omega)]
          unfold grG
          by_cases h : (b - a) * s.2 > s.1 * leastP (w.extract a b)
          · rw [if_pos (by omega), if_pos h, w64 (by omega) (by omega)]
            simp only
            congr 1 <;> omega
          · rw [if_neg (by omega), if_neg h, w64 (by omega) (by omega)]; rfl)
        (fun b s hb hs => ⟨grI_step hw hs.2 (by omega) hs.1, by omega⟩)
        (fun k s hk hs => by
          simp only [spec_GreatestExponent.l1]
          rw [if_neg (by omega), w64 (by omega) (by omega)]; rfl)
        (w.size - a) k (a + 1) s (by omega) hk ⟨hs, by omega⟩
      simp only [spec_GreatestExponent.l0]
      rw [if_pos (by omega), w64 (by omega) (by omega)]
      exact h.1)
    (fun a s ha hs => by
      have : ∀ c b s, b + c = w.size + 1 → a < b → grI s → grI (loopS (fun b s => grG w a b s) b c s) := by
        intro c
        induction c with
        | zero => intro b s _ _ h; exact h
        | succ c ih => intro b s h1 h2 h3; exact ih (b + 1) _ (by omega) (by omega) (grI_step hw h2 (by omega) h3)
      exact this _ _ _ (by omega) (by omega) hs)
    (fun k s hk hs => by
      simp only [spec_GreatestExponent.l0]
      rw [if_neg (by omega)])
    w.size k 0 (1, 1) (by omega) (by have : w.size * (70 + 1) ≤ 60 * 71 := Nat.mul_le_mul hw (by omega); omega) ⟨by simp, by simp, by simp, by simp⟩
  obtain ⟨h1, k', h2, h3, h4⟩ := this
  exact ⟨k', by omega, h4, h1⟩
theorem impl_gr {k : Nat} {w : ByteArray} (hw : w.size ≤ 60) (hk : 100000 ≤ k) : ∃ k', 1000 ≤ k' ∧ impl_GreatestExponent.l0 k w 1 1 w.size 0 = (impl_lowest.f k' (grS w).1 (grS w).2).bind fun bt => some (bt.1, bt.2, 0) := by
  have := fold_cost (fun k (s : Nat × Nat) i => impl_GreatestExponent.l0 k w s.1 s.2 w.size i) w.size (fun a s => loopS (fun b s => grG w a b s) (a + 1) (w.size - a) s) (fun k s => (impl_lowest.f k s.1 s.2).bind fun bt => some (bt.1, bt.2, 0)) (fun _ s => grI s) 20000 70
    (fun a s ha hs => by
      refine ⟨w.size - a + 1, by omega, fun k hk => ?_⟩
      have h := fold_on (fun k (s : Nat × Nat) i => impl_GreatestExponent.l1 k w s.1 s.2 a i w.size a) (fun k s => impl_GreatestExponent.l0 k w s.1 s.2 w.size ((a + 1 : Nat) : Int)) (w.size + 1) (fun b s => grG w a b s) (fun b s => grI s ∧ a < b) 20000
        (fun k b s hk hb hs => by
          have hz : (w.extract a b).size = b - a := by rw [ext_size]; omega
          simp only [impl_GreatestExponent.l1]
          rw [if_pos (by omega), if_pos (by omega), if_pos (by omega), Int.toNat_natCast, Int.toNat_natCast, impl_period_eq (by omega) (by omega) (by omega)]
          simp only [Option.bind_some]
          obtain ⟨m1, m2⟩ := gr_mul hw hs.2 (by omega) hs.1
          rw [m1, m2, w64 (by omega) (by omega)]
          unfold grG
          by_cases h : (b - a) * s.2 > s.1 * leastP (w.extract a b)
          · rw [if_pos (by omega), if_pos h, w64 (by omega) (by omega)]
            simp only
            congr 1 <;> omega
          · rw [if_neg (by omega), if_neg h, w64 (by omega) (by omega)]; rfl)
        (fun b s hb hs => ⟨grI_step hw hs.2 (by omega) hs.1, by omega⟩)
        (fun k s hk hs => by
          simp only [impl_GreatestExponent.l1]
          rw [if_neg (by omega), w64 (by omega) (by omega)]; rfl)
        (w.size - a) k (a + 1) s (by omega) hk ⟨hs, by omega⟩
      simp only [impl_GreatestExponent.l0]
      rw [if_pos (by omega), w64 (by omega) (by omega)]
      exact h.1)
    (fun a s ha hs => by
      have : ∀ c b s, b + c = w.size + 1 → a < b → grI s → grI (loopS (fun b s => grG w a b s) b c s) := by
        intro c
        induction c with
        | zero => intro b s _ _ h; exact h
        | succ c ih => intro b s h1 h2 h3; exact ih (b + 1) _ (by omega) (by omega) (grI_step hw h2 (by omega) h3)
      exact this _ _ _ (by omega) (by omega) hs)
    (fun k s hk hs => by
      simp only [impl_GreatestExponent.l0]
      rw [if_neg (by omega)])
    w.size k 0 (1, 1) (by omega) (by have : w.size * (70 + 1) ≤ 60 * 71 := Nat.mul_le_mul hw (by omega); omega) ⟨by simp, by simp, by simp, by simp⟩
  obtain ⟨h1, k', h2, h3, h4⟩ := this
  exact ⟨k', by omega, h4⟩
theorem spec_gr_l2 (a b : Int) : ∀ (y k x : Nat), y < k → 0 < Nat.gcd x y → spec_GreatestExponent.l2 k a b (x : Int) (y : Int) = some (wrap64 (Int.tdiv a ((Nat.gcd x y : Nat) : Int)), wrap64 (Int.tdiv b ((Nat.gcd x y : Nat) : Int)), 0)
  | y, k, x, hk, hg => by
    obtain ⟨k, rfl⟩ := rounds_pos (show 0 < k by omega)
    simp only [spec_GreatestExponent.l2]
    rcases Nat.eq_zero_or_pos y with h0 | h0
    · subst h0
      rw [Nat.gcd_zero_right] at hg ⊢
      rw [if_pos (by simp), if_neg (by omega)]
    · rw [if_neg (by omega), gcd_step x y]
      have hm := Nat.mod_lt x h0
      rw [show Int.tmod (x : Int) (y : Int) = ((x % y : Nat) : Int) from rfl]
      exact spec_gr_l2 a b (x % y) k y (by omega) (by rw [← gcd_step]; exact hg)

def greaW (w : ByteArray) : Int × Int × Int := if isW w then (if w.size = 0 then (0, 0, 4) else ((lowN (grS w).1 (grS w).2).1, (lowN (grS w).1 (grS w).2).2, 0)) else (0, 0, 1)
theorem spec_GreatestExponent_eq {k : Nat} {w : ByteArray} (h0 : w.size ≤ 1048576) (hk : 1048600 ≤ k) : spec_GreatestExponent.f k w = some (greaW w) := by
  unfold spec_GreatestExponent.f greaW
  rw [spec_l01Is_eq (by omega) (by omega)]
  cases hw : isW w
  · simp
  · have hz := isW_size hw
    by_cases h : w.size = 0
    · simp [h, (str_empty h).2.2.1]
    · obtain ⟨k', h1, h2, h3, h4, h5, h6⟩ := spec_gr hz (show 100000 ≤ k by omega)
      simp only [h, if_true, if_false, Option.bind_some, (str_nonempty h).2.2.1]
      rw [h2, spec_gr_l2 _ _ _ _ _ (by omega) (Nat.gcd_pos_of_pos_left _ (by omega))]
      unfold lowN gcdI
      simp only [Int.toNat_natCast]
theorem impl_GreatestExponent_eq {k : Nat} {w : ByteArray} (h0 : w.size ≤ 1048576) (hk : 1048600 ≤ k) : impl_GreatestExponent.f k w = some (greaW w) := by
  unfold impl_GreatestExponent.f greaW
  rw [wordCode_1]
  cases hw : isW w
  · simp
  · have hz := isW_size hw
    by_cases h : w.size = 0
    · simp [h, (str_empty h).2.2.1]
    · obtain ⟨_, _, _, h3, h4, h5, h6⟩ := spec_gr hz (show 100000 ≤ k by omega)
      obtain ⟨k', h1, h2⟩ := impl_gr hz (show 100000 ≤ k by omega)
      simp only [h, if_true, if_false, Option.bind_some, (str_nonempty h).2.2.1]
      rw [h2, impl_lowest_eq (by omega) (by omega) (by omega)]; rfl

theorem letW_next (w : ByteArray) (n : Nat) : (w ++ letW n).size = w.size + 1 := by rw [app_size, letW_size]
theorem first_next {k : Nat} {w : ByteArray} {n : Nat} (hw : w.size ≤ 60) (hk : 2000000 ≤ k) : ∃ z, spec_l03First.f k (w ++ letW n) ((w.size : Int) + ((letW n).size : Int)) = some z ∧ z.2.2 = !endF (w ++ letW n) := by
  have hs := letW_size n
  have hs2 := letW_next w n
  have := spec_l03First_eq (k := k) (w := w ++ letW n) (a := (w ++ letW n).size) (by omega) (by omega) (by omega)
  rw [show (((w ++ letW n).size : Nat) : Int) = (w.size : Int) + ((letW n).size : Int) by rw [hs2, hs]; omega] at this
  exact ⟨_, this, firW_ends⟩

/-- the first of the square free words of so many letters more that go on from a word -/
def orF {α : Type} (f : Nat → Option α) : Nat → Nat → Option α
  | 0, _ => none
  | e + 1, n => match f n with
    | some x => some x
    | none => orF f e (n + 1)
def fndG (kk : Nat) : Nat → ByteArray → Option ByteArray
  | 0, w => some w
  | d + 1, w => orF (fun n => if endF (w ++ letW n) = true then fndG kk d (w ++ letW n) else none) kk 0
def fndR : Option ByteArray → ByteArray × Bool
  | some x => (x, true)
  | none => (⟨#[]⟩, false)
def fndS (s : ByteArray) : Option ByteArray → Bool × ByteArray
  | some x => (true, x)
  | none => (false, s)
theorem spec_find {m kk : Nat} (hm : m ≤ 30) (hkk : kk ≤ 5) : ∀ (d : Nat) (w : ByteArray) (k : Nat), w.size + d = m → 3000000 + 10 * d < k → spec_l03Find.f k w m kk = some (fndR (fndG kk d w))
  | 0, w, k, hd, hk => by
    obtain ⟨k, rfl⟩ := rounds_pos (show 0 < k by omega)
    simp only [spec_l03Find.f]
    rw [if_pos (by omega)]; rfl
  | d + 1, w, k, hd, hk => by
    obtain ⟨k, rfl⟩ := rounds_pos (show 0 < k by omega)
    simp only [spec_l03Find.f]
    rw [if_neg (by omega)]
    have L : ∀ (e n k : Nat), n + e = kk → 3000000 + 10 * d + e < k → spec_l03Find.l0 k w m kk n = some (fndR (orF (fun n => if endF (w ++ letW n) = true then fndG kk d (w ++ letW n) else none) e n)) := by
      intro e
      induction e with
      | zero =>
        intro n k hn hk
        obtain ⟨k, rfl⟩ := rounds_pos (show 0 < k by omega)
        simp only [spec_l03Find.l0]
        rw [if_neg (by omega)]; rfl
      | succ e ih =>
        intro n k hn hk
        obtain ⟨k, rfl⟩ := rounds_pos (show 0 < k by omega)
        have hl := letW_size n
        obtain ⟨z, hz1, hz2⟩ := first_next (k := k) (w := w) (n := n) (by omega) (by omega)
        have := ih (n + 1) k (by omega) (by omega)
        simp only [spec_l03Find.l0]
        rw [if_pos (by omega), spec_l01Letter_eq (by omega), Option.bind_some, if_pos (by omega), hz1, Option.bind_some, hz2, w64 (x := (n : Int) + 1) (by omega) (by omega)]
        simp only [orF]
        rw [show (n : Int) + 1 = ((n + 1 : Nat) : Int) by omega, this]
        cases he : endF (w ++ letW n) with
        | true =>
          rw [if_neg (by decide), spec_find hm hkk d (w ++ letW n) k (by rw [letW_next]; omega) (by omega), Option.bind_some, if_pos rfl]
          cases fndG kk d (w ++ letW n) with
          | some x => rfl
          | none => rfl
        | false =>
          rw [Bool.not_false, if_pos rfl, if_neg (by decide)]
    exact L kk 0 k (by omega) (by omega)
theorem impl_find {m kk : Nat} (hm : m ≤ 30) (hkk : kk ≤ 5) : ∀ (d : Nat) (w : ByteArray) (k : Nat) (s : ByteArray), w.size + d = m → 5000 + d < k → grownF fstAct m kk k w s = some (fndS s (fndG kk d w))
  | 0, w, k, s, hd, hk => by
    obtain ⟨k, rfl⟩ := rounds_pos (show 0 < k by omega)
    simp only [grownF]
    rw [if_pos (by omega)]; rfl
  | d + 1, w, k, s, hd, hk => by
    obtain ⟨k, rfl⟩ := rounds_pos (show 0 < k by omega)
    simp only [grownF]
    rw [if_neg (by omega)]
    have L : ∀ (e n : Nat), n + e = kk → grownL (grownF fstAct m kk k) k w e n s = some (fndS s (orF (fun n => if endF (w ++ letW n) = true then fndG kk d (w ++ letW n) else none) e n)) := by
      intro e
      induction e with
      | zero => intro n hn; rfl
      | succ e ih =>
        intro n hn
        have hl := letW_size n
        simp only [grownL]
        rw [impl_letter_eq (by omega), Option.bind_some, if_pos (by omega), impl_endsFree_eq (by rw [letW_next]; omega) (by omega), Option.bind_some, ih (n + 1) (by omega)]
        simp only [orF]
        cases he : endF (w ++ letW n) with
        | true =>
          rw [if_pos rfl, impl_find hm hkk d (w ++ letW n) k s (by rw [letW_next]; omega) (by omega), Option.bind_some, if_pos rfl]
          cases fndG kk d (w ++ letW n) with
          | some x => rfl
          | none => simp only [fndS, Bool.false_eq_true, if_false]; rw [ih (n + 1) (by omega)]; rfl
        | false => rw [if_neg (by decide), if_neg (by decide)]
    exact L kk 0 (by omega)

def fsfR (a0 a1 : Int) : ByteArray × Int := if (inR a0 0 30 && inR a1 1 5) = true then (match fndG a1.toNat a0.toNat ⟨#[]⟩ with | some x => (x, 0) | none => (⟨#[]⟩, 4)) else (⟨#[]⟩, 2)
theorem spec_FirstSquareFree_eq {m : Nat} (hm : 10000000 ≤ m) (a0 a1 : Int) : spec_FirstSquareFree.f m a0 a1 = some (fsfR a0 a1) := by
  unfold spec_FirstSquareFree.f fsfR
  obtain ⟨k, rfl⟩ := rounds_pos (show 0 < m by omega)
  rw [spec_l01In_eq, Option.bind_some]
  cases h0 : inR a0 0 30
  · rw [if_neg (by decide)]; simp only [spec_FirstSquareFree.j0]; rfl
  · rw [if_pos rfl, spec_l01In_eq, Option.bind_some]
    simp only [spec_FirstSquareFree.j0]
    cases h1 : inR a1 1 5
    · rfl
    · obtain ⟨m0, m1⟩ := inR_true h0
      obtain ⟨m2, m3⟩ := inR_true h1
      obtain ⟨p, rfl⟩ : ∃ p : Nat, a0 = p := ⟨a0.toNat, by omega⟩
      obtain ⟨q, rfl⟩ : ∃ q : Nat, a1 = q := ⟨a1.toNat, by omega⟩
      rw [Bool.not_true, if_neg (by decide), spec_find (m := p) (kk := q) (by omega) (by omega) p ⟨#[]⟩ k (by show 0 + p = p; omega) (by omega), Int.toNat_natCast, Int.toNat_natCast]
      rw [Option.bind_some, Bool.and_self, if_pos rfl]
      cases fndG q p ⟨#[]⟩ <;> rfl
theorem impl_FirstSquareFree_eq {m : Nat} (hm : 10000000 ≤ m) (a0 a1 : Int) : impl_FirstSquareFree.f m a0 a1 = some (fsfR a0 a1) := by
  unfold impl_FirstSquareFree.f fsfR
  cases h : (inR a0 0 30 && inR a1 1 5)
  · rfl
  · rw [Bool.and_eq_true] at h
    obtain ⟨m0, m1⟩ := inR_true h.1
    obtain ⟨m2, m3⟩ := inR_true h.2
    obtain ⟨p, rfl⟩ : ∃ p : Nat, a0 = p := ⟨a0.toNat, by omega⟩
    obtain ⟨q, rfl⟩ : ∃ q : Nat, a1 = q := ⟨a1.toNat, by omega⟩
    have := impl_find (m := p) (kk := q) (by omega) (by omega) p ⟨#[]⟩ m ⟨#[]⟩ (by show 0 + p = p; omega) (by omega)
    rw [if_pos rfl, if_pos rfl, Int.toNat_natCast, Int.toNat_natCast, this, Option.bind_some]
    cases fndG q p ⟨#[]⟩ <;> rfl

def sumF (f : Nat → Nat) : Nat → Nat → Nat
  | 0, _ => 0
  | e + 1, n => f n + sumF f e (n + 1)
theorem sumF_le {f : Nat → Nat} {B : Nat} (h : ∀ n, f n ≤ B) : ∀ e n, sumF f e n ≤ e * B
  | 0, n => by simp [sumF]
  | e + 1, n => by
    have h1 := h n
    have h2 := sumF_le h e (n + 1)
    rw [Nat.succ_mul]; unfold sumF; omega
/-- how many square free words of so many letters more go on from a word -/
def cntG (kk : Nat) : Nat → ByteArray → Nat
  | 0, _ => 1
  | d + 1, w => sumF (fun n => if endF (w ++ letW n) = true then cntG kk d (w ++ letW n) else 0) kk 0
theorem cntG_le (kk : Nat) : ∀ d w, cntG kk d w ≤ kk ^ d
  | 0, w => by simp [cntG]
  | d + 1, w => by
    unfold cntG
    rw [Nat.pow_succ, Nat.mul_comm]
    refine sumF_le (fun n => ?_) kk 0
    split
    · exact cntG_le kk d _
    · exact Nat.zero_le _
theorem pow3 {kk d : Nat} (hk : kk ≤ 3) (hd : d ≤ 12) : kk ^ d ≤ 531441 :=
  Nat.le_trans (Nat.pow_le_pow_left hk d) (Nat.le_trans (Nat.pow_le_pow_right (by decide) hd) (by decide))
theorem spec_count {m kk : Nat} (hm : m ≤ 12) (hkk : kk ≤ 3) : ∀ (d : Nat) (w : ByteArray) (k : Nat), w.size + d = m → 3000000 + 10 * d < k → spec_l03Count.f k w m kk = some ((cntG kk d w : Nat) : Int)
  | 0, w, k, hd, hk => by
    obtain ⟨k, rfl⟩ := rounds_pos (show 0 < k by omega)
    simp only [spec_l03Count.f]
    rw [if_pos (by omega)]; rfl
  | d + 1, w, k, hd, hk => by
    obtain ⟨k, rfl⟩ := rounds_pos (show 0 < k by omega)
    simp only [spec_l03Count.f]
    rw [if_neg (by omega)]
    have hB := pow3 (kk := kk) (d := d) hkk (by omega)
    have L : ∀ (e n k s : Nat), n + e = kk → 3000000 + 10 * d + e < k → s + e * kk ^ d ≤ 4000000 → spec_l03Count.l0 k w m kk s n = some ((s + sumF (fun n => if endF (w ++ letW n) = true then cntG kk d (w ++ letW n) else 0) e n : Nat) : Int) := by
      intro e
      induction e with
      | zero =>
        intro n k s hn hk hs
        obtain ⟨k, rfl⟩ := rounds_pos (show 0 < k by omega)
        simp only [spec_l03Count.l0]
        rw [if_neg (by omega)]; simp [sumF]
      | succ e ih =>
        intro n k s hn hk hs
        rw [Nat.succ_mul] at hs
        obtain ⟨k, rfl⟩ := rounds_pos (show 0 < k by omega)
        have hl := letW_size n
        obtain ⟨z, hz1, hz2⟩ := first_next (k := k) (w := w) (n := n) (by omega) (by omega)
        have hc := cntG_le kk d (w ++ letW n)
        simp only [spec_l03Count.l0]
        rw [if_pos (by omega), spec_l01Letter_eq (by omega), Option.bind_some, if_pos (by omega), hz1, Option.bind_some, hz2, w64 (x := (n : Int) + 1) (by omega) (by omega)]
        simp only [sumF]
        cases he : endF (w ++ letW n) with
        | true =>
          rw [if_neg (by decide), spec_count hm hkk d (w ++ letW n) k (by rw [letW_next]; omega) (by omega), Option.bind_some, w64 (by omega) (by omega)]
          have := ih (n + 1) k (s + cntG kk d (w ++ letW n)) (by omega) (by omega) (by omega)
          rw [show (s : Int) + (cntG kk d (w ++ letW n) : Nat) = ((s + cntG kk d (w ++ letW n) : Nat) : Int) by omega, show (n : Int) + 1 = ((n + 1 : Nat) : Int) by omega, this, if_pos rfl, Nat.add_assoc]
        | false =>
          have := ih (n + 1) k s (by omega) (by omega) (by omega)
          rw [Bool.not_false, if_pos rfl, show (n : Int) + 1 = ((n + 1 : Nat) : Int) by omega, this, if_neg (by decide), Nat.zero_add]
    have := L kk 0 k 0 (by omega) (by omega) (by
      have : kk * kk ^ d ≤ 3 * 531441 := Nat.mul_le_mul hkk hB
      omega)
    rw [Nat.zero_add] at this
    exact this
theorem impl_count {m kk : Nat} (hm : m ≤ 12) (hkk : kk ≤ 3) : ∀ (d : Nat) (w : ByteArray) (k s : Nat), w.size + d = m → 5000 + d < k → s + kk ^ d ≤ 4000000 → grownF cntAct m kk k w (s : Int) = some (false, ((s + cntG kk d w : Nat) : Int))
  | 0, w, k, s, hd, hk, hs => by
    obtain ⟨k, rfl⟩ := rounds_pos (show 0 < k by omega)
    simp only [grownF]
    rw [if_pos (by omega)]
    simp only [cntAct, cntG]
    rw [w64 (by omega) (by omega)]; rfl
  | d + 1, w, k, s, hd, hk, hs => by
    obtain ⟨k, rfl⟩ := rounds_pos (show 0 < k by omega)
    simp only [grownF]
    rw [if_neg (by omega)]
    have L : ∀ (e n s : Nat), n + e = kk → s + e * kk ^ d ≤ 4000000 → grownL (grownF cntAct m kk k) k w e n (s : Int) = some (false, ((s + sumF (fun n => if endF (w ++ letW n) = true then cntG kk d (w ++ letW n) else 0) e n : Nat) : Int)) := by
      intro e
      induction e with
      | zero =>
        intro n s hn hs
        simp [grownL, sumF]
      | succ e ih =>
        intro n s hn hs
        rw [Nat.succ_mul] at hs
        have hl := letW_size n
        have hc := cntG_le kk d (w ++ letW n)
        simp only [grownL]
        rw [impl_letter_eq (by omega), Option.bind_some, if_pos (by omega), impl_endsFree_eq (by rw [letW_next]; omega) (by omega), Option.bind_some]
        simp only [sumF]
        cases he : endF (w ++ letW n) with
        | true =>
          rw [if_pos rfl, impl_count hm hkk d (w ++ letW n) k s (by rw [letW_next]; omega) (by omega) (by omega), Option.bind_some, if_neg (show ¬ (false = true) by decide)]
          have := ih (n + 1) (s + cntG kk d (w ++ letW n)) (by omega) (by omega)
          rw [this, if_pos rfl, Nat.add_assoc]
        | false =>
          have := ih (n + 1) s (by omega) (by omega)
          rw [if_neg (by decide), this, if_neg (by decide), Nat.zero_add]
    rw [Nat.pow_succ, Nat.mul_comm] at hs
    exact L kk 0 s (by omega) hs

theorem spec_CountSquareFree_eq {m : Nat} (hm : 10000000 ≤ m) (a0 a1 : Int) : spec_CountSquareFree.f m a0 a1 = some (if (inR a0 0 12 && inR a1 1 3) = true then (((cntG a1.toNat a0.toNat ⟨#[]⟩ : Nat) : Int), 0) else (0, 2)) := by
  unfold spec_CountSquareFree.f
  rw [spec_l01In_eq, Option.bind_some]
  cases h0 : inR a0 0 12
  · rfl
  · rw [if_pos rfl, spec_l01In_eq, Option.bind_some]
    cases h1 : inR a1 1 3
    · rfl
    · obtain ⟨m0, m1⟩ := inR_true h0
      obtain ⟨m2, m3⟩ := inR_true h1
      obtain ⟨p, rfl⟩ : ∃ p : Nat, a0 = p := ⟨a0.toNat, by omega⟩
      obtain ⟨q, rfl⟩ : ∃ q : Nat, a1 = q := ⟨a1.toNat, by omega⟩
      rw [if_pos rfl, spec_count (m := p) (kk := q) (by omega) (by omega) p ⟨#[]⟩ m (by show 0 + p = p; omega) (by omega)]
      rfl
theorem impl_CountSquareFree_eq {m : Nat} (hm : 10000000 ≤ m) (a0 a1 : Int) : impl_CountSquareFree.f m a0 a1 = some (if (inR a0 0 12 && inR a1 1 3) = true then (((cntG a1.toNat a0.toNat ⟨#[]⟩ : Nat) : Int), 0) else (0, 2)) := by
  unfold impl_CountSquareFree.f
  cases h : (inR a0 0 12 && inR a1 1 3)
  · rfl
  · rw [Bool.and_eq_true] at h
    obtain ⟨m0, m1⟩ := inR_true h.1
    obtain ⟨m2, m3⟩ := inR_true h.2
    obtain ⟨p, rfl⟩ : ∃ p : Nat, a0 = p := ⟨a0.toNat, by omega⟩
    obtain ⟨q, rfl⟩ : ∃ q : Nat, a1 = q := ⟨a1.toNat, by omega⟩
    have := impl_count (m := p) (kk := q) (by omega) (by omega) p ⟨#[]⟩ m 0 (by show 0 + p = p; omega) (by omega) (by have := pow3 (kk := q) (d := p) (by omega) (by omega); omega)
    rw [if_pos rfl, if_pos rfl, Int.toNat_natCast, Int.toNat_natCast]
    rw [show ((0 : Nat) : Int) = 0 from rfl, Nat.zero_add] at this
    rw [this]; rfl

theorem powL_mem {w : ByteArray} {m : Nat} (h1 : 1 ≤ m) {x : List Int} : x ∈ powL w m ↔ ∃ i q : Nat, 1 ≤ q ∧ i + m * q ≤ w.size ∧ powB w m i q = true ∧ x = [(i : Int), (q : Int)] := by
  unfold powL
  rw [List.mem_flatMap]
  constructor
  · rintro ⟨i, hi, hx⟩
    obtain ⟨q, q1, q2, q3, rfl⟩ := gath_mem.mp hx
    rw [List.mem_range'_1] at hi
    have := div_in h1 (show q ≤ (w.size - i) / m by omega)
    exact ⟨i, q, q1, by omega, q3, rfl⟩
  · rintro ⟨i, q, hq, hi, hp, rfl⟩
    have hq2 : q ≤ m * q := Nat.le_mul_of_pos_left q h1
    refine ⟨i, by rw [List.mem_range'_1]; omega, gath_mem.mpr ⟨q, hq, ?_, hp, rfl⟩⟩
    have : q ≤ (w.size - i) / m := (Nat.le_div_iff_mul_le h1).mpr (by rw [Nat.mul_comm]; omega)
    omega
theorem rd0 (a b : Int) : rd [a, b] 0 = a := rfl
theorem rd1 (a b : Int) : rd [a, b] 1 = b := rfl

def fsqR (a0 : ByteArray) : Int × Int × Int := if isW a0 = true then (if (firW a0 0).2.2 = true then ((firW a0 0).1, (firW a0 0).2.1, 0) else (0, 0, 4)) else (0, 0, 1)
def cmpI (a b : Int) : Int := if a < b then -1 else if a > b then 1 else 0
theorem cmp_eq (a b : Int) : R.cmp_Compare_int64.f a b = some (cmpI a b) := by
  unfold R.cmp_Compare_int64.f R.cmp_isNaN_int64.f cmpI
  simp only [Option.bind_some, bne_self_eq_false, Bool.false_eq_true, if_false]
  split
  · rfl
  · split <;> rfl
theorem or_eq {k : Nat} (hk : 10 ≤ k) (a b : Int) : R.cmp_Or_int.f k [a, b] = some (if a = 0 then b else a) := by
  obtain ⟨k, rfl⟩ : ∃ m, k = m + 3 := ⟨k - 3, by omega⟩
  unfold R.cmp_Or_int.f
  have e1 : wrap64 ((0 : Int) + 1) = 1 := by unfold wrap64; omega
  have e2 : wrap64 ((1 : Int) + 1) = 2 := by unfold wrap64; omega
  simp only [R.cmp_Or_int.l0, e1, e2, rd0, rd1, List.length_cons, List.length_nil]
  rw [if_pos (by decide), if_pos (by decide), if_pos (by decide)]
  by_cases h : a = 0
  · rw [if_pos h, if_pos h, if_pos (by decide), if_pos (by decide), if_pos (by decide)]
    by_cases h2 : b = 0
    · rw [if_pos h2, if_neg (by decide), h2]
    · rw [if_neg h2]
  · rw [if_neg h, if_neg h]
/-- which of two squares ends first; of two that end at one place, which one is shorter -/
def kLt (i q i' q' : Nat) : Prop := i + 2 * q < i' + 2 * q' ∨ (i + 2 * q = i' + 2 * q' ∧ q < q')
theorem lit_eq {k : Nat} (hk : 10 ≤ k) {i q i' q' : Nat} (h : i + 2 * q ≤ 1000) (h' : i' + 2 * q' ≤ 1000) : ∃ c, R.impl_FirstSquare_lit1.f k [(i : Int), (q : Int)] [(i' : Int), (q' : Int)] = some c ∧ (c < 0 ↔ kLt i q i' q') := by
  unfold R.impl_FirstSquare_lit1.f
  simp only [rd0, rd1]
  rw [if_pos (by simp), if_pos (by simp), if_pos (by simp), if_pos (by simp), w64 (x := 2 * (q : Int)) (by omega) (by omega), w64 (x := 2 * (q' : Int)) (by omega) (by omega), w64 (x := (i : Int) + 2 * q) (by omega) (by omega), w64 (x := (i' : Int) + 2 * q') (by omega) (by omega), cmp_eq, Option.bind_some, cmp_eq, Option.bind_some, or_eq hk, Option.bind_some]
  refine ⟨_, rfl, ?_⟩
  unfold cmpI kLt
  constructor
  · intro h
    split at h <;> split at h <;> omega
  · intro h
    split <;> split <;> omega
theorem minRow_eq {k : Nat} (hk : 10 ≤ k) : ∀ (l : List (List Int)) (b : List Int), (∀ x ∈ b :: l, ∃ i q : Nat, i + 2 * q ≤ 1000 ∧ x = [(i : Int), (q : Int)]) →
    ∃ i q : Nat, minRow k l b = some [(i : Int), (q : Int)] ∧ [(i : Int), (q : Int)] ∈ b :: l ∧ ∀ i' q' : Nat, [(i' : Int), (q' : Int)] ∈ b :: l → ¬ kLt i' q' i q
  | [], b, h => by
    obtain ⟨i, q, h1, rfl⟩ := h b (List.mem_cons_self ..)
    refine ⟨i, q, rfl, List.mem_cons_self .., fun i' q' hm => ?_⟩
    rw [List.mem_singleton] at hm
    simp only [List.cons.injEq, and_true] at hm
    unfold kLt; omega
  | x :: l, b, h => by
    obtain ⟨i, q, h1, hb⟩ := h b (List.mem_cons_self ..)
    obtain ⟨i2, q2, h2, hx⟩ := h x (List.mem_cons_of_mem _ (List.mem_cons_self ..))
    obtain ⟨c, hc1, hc2⟩ := lit_eq hk h2 h1
    unfold minRow
    rw [hb, hx, hc1, Option.bind_some]
    by_cases hneg : c < 0
    · rw [if_pos hneg]
      obtain ⟨i3, q3, e1, e2, e3⟩ := minRow_eq hk l [(i2 : Int), (q2 : Int)] (fun y hy => h y (by rw [hx]; exact List.mem_cons_of_mem _ hy))
      refine ⟨i3, q3, e1, List.mem_cons_of_mem _ e2, fun i' q' hm => ?_⟩
      rcases List.mem_cons.mp hm with hm | hm
      · have := e3 i2 q2 (List.mem_cons_self ..)
        have h5 := hc2.mp hneg
        simp only [List.cons.injEq, and_true] at hm
        unfold kLt at *; omega
      · exact e3 i' q' hm
    · rw [if_neg hneg]
      obtain ⟨i3, q3, e1, e2, e3⟩ := minRow_eq hk l [(i : Int), (q : Int)] (fun y hy => h y (by
        rw [hb]
        rcases List.mem_cons.mp hy with hy | hy
        · rw [hy]; exact List.mem_cons_self ..
        · exact List.mem_cons_of_mem _ (List.mem_cons_of_mem _ hy)))
      refine ⟨i3, q3, e1, ?_, fun i' q' hm => ?_⟩
      · rcases List.mem_cons.mp e2 with e2 | e2
        · rw [e2]; exact List.mem_cons_self ..
        · exact List.mem_cons_of_mem _ (List.mem_cons_of_mem _ e2)
      · rcases List.mem_cons.mp hm with hm | hm
        · exact e3 i' q' (by rw [hm]; exact List.mem_cons_self ..)
        · rcases List.mem_cons.mp hm with hm | hm
          · have h5 : ¬ kLt i2 q2 i q := fun h => hneg (hc2.mpr h)
            have := e3 i q (List.mem_cons_self ..)
            simp only [List.cons.injEq, and_true] at hm
            unfold kLt at *; omega
          · exact e3 i' q' (List.mem_cons_of_mem _ hm)
theorem fsqTail_eq {k : Nat} {w : ByteArray} (hw : w.size ≤ 60) (hk : 10 ≤ k) : fsqTail k (powL w 2) = some (if (firW w 0).2.2 = true then ((firW w 0).1, (firW w 0).2.1, 0) else (0, 0, 4)) := by
  unfold fsqTail
  have hl := powL_len (k := 2) hw
  rcases firW_spec w 0 with ⟨h1, h2⟩ | ⟨e, q, h1, h2, h3, h4, h5, h6, h7, h8⟩
  · have hnil : powL w 2 = [] := by
      rw [List.eq_nil_iff_forall_not_mem]
      intro x hx
      obtain ⟨i, q, hq, hi, hp, rfl⟩ := (powL_mem (by omega)).mp hx
      have := h2 (i + 2 * q) q (by omega) hi hq (by omega)
      unfold sqE at this
      rw [show i + 2 * q - 2 * q = i by omega, hp] at this
      cases this
    rw [hnil, if_pos (show ([] : List (List Int)).length = 0 from rfl), h1]; rfl
  · have hin : [((e - 2 * q : Nat) : Int), (q : Int)] ∈ powL w 2 := (powL_mem (by omega)).mpr ⟨e - 2 * q, q, h3, by omega, h5, rfl⟩
    have h0 : 0 < (powL w 2).length := List.length_pos_of_mem hin
    have hsplit : powL w 2 = (powL w 2).getD 0 [] :: (powL w 2).drop 1 := by
      cases hL : powL w 2 with
      | nil => rw [hL] at h0; simp at h0
      | cons a l => rfl
    obtain ⟨i2, q2, g1, g2, g3⟩ := minRow_eq hk ((powL w 2).drop 1) ((powL w 2).getD 0 []) (fun x hx => by
      rw [← hsplit] at hx
      obtain ⟨i, q, hq, hi, hp, rfl⟩ := (powL_mem (by omega)).mp hx
      exact ⟨i, q, by omega, rfl⟩)
    rw [← hsplit] at g2 g3
    obtain ⟨i4, q4, p1, p2, p3, p4⟩ := (powL_mem (by omega)).mp g2
    simp only [List.cons.injEq, and_true] at p4
    obtain ⟨rfl, rfl⟩ : i2 = i4 ∧ q2 = q4 := by omega
    have g4 := g3 _ _ hin
    have k1 : ¬ i2 + 2 * q2 < e := fun hlt => by
      have := h8 (i2 + 2 * q2) q2 (by omega) hlt p1 (by omega)
      unfold sqE at this
      rw [show i2 + 2 * q2 - 2 * q2 = i2 by omega, p3] at this
      cases this
    have k2 : ¬ (i2 + 2 * q2 = e ∧ q2 < q) := fun ⟨he, hlt⟩ => by
      have := h7 q2 p1 hlt
      unfold sqE at this
      rw [show e - 2 * q2 = i2 by omega, p3] at this
      cases this
    unfold kLt at g4
    have k3 : q2 = q := by omega
    have k4 : i2 = e - 2 * q := by omega
    rw [if_neg (by omega), if_pos (by omega), g1, Option.bind_some, if_pos (by simp), h6, k3, k4]
    rfl

theorem impl_FirstSquare_eq {m : Nat} (hm : 3000000 ≤ m) (a0 : ByteArray) : impl_FirstSquare.f m a0 = some (fsqR a0) := by
  unfold impl_FirstSquare.f fsqR
  cases hw : isW a0
  · rfl
  · have hz := isW_size hw
    have := impl_powersIn_eq (k := m) (w := a0) (m := 2) hz (by omega) (by omega) (by omega)
    rw [show ((2 : Nat) : Int) = 2 from rfl] at this
    rw [if_pos rfl, if_pos rfl, this, Option.bind_some, fsqTail_eq hz (by omega)]

theorem spec_FirstSquare_eq {m : Nat} (hm : 3000000 ≤ m) {a0 : ByteArray} (h0 : a0.size ≤ 140737488351232) (s0 : a0.size ≤ 1048576) : spec_FirstSquare.f m a0 = some (fsqR a0) := by
  unfold spec_FirstSquare.f fsqR
  rw [spec_l01Is_eq h0 (by omega), Option.bind_some]
  cases hw : isW a0
  · rfl
  · have hz := isW_size hw
    have := spec_l03First_eq (k := m) (w := a0) (a := 0) (by omega) (by omega) (by omega)
    rw [show ((0 : Nat) : Int) = 0 from rfl] at this
    rw [if_pos rfl, if_pos rfl, this, Option.bind_some]
    split <;> rfl

def sqfR (a0 : ByteArray) : Bool × Int := if isW a0 then (sqfB a0, 0) else (false, 1)
theorem impl_IsSquareFree_eq {m : Nat} (hm : 3000000 ≤ m) (a0 : ByteArray) : impl_IsSquareFree.f m a0 = some (sqfR a0) := by
  unfold impl_IsSquareFree.f sqfR
  rw [wordCode_1]
  cases hw : isW a0
  · simp
  · simp [impl_isSquareFree_eq (isW_size hw) (show 100000 ≤ m by omega)]

theorem spec_IsSquareFree_eq {m : Nat} (hm : 3000000 ≤ m) {a0 : ByteArray} (s0 : a0.size ≤ 1048576) : spec_IsSquareFree.f m a0 = some (sqfR a0) := by
  unfold spec_IsSquareFree.f sqfR
  rw [spec_l01Is_eq (by omega) (by omega)]
  cases hw : isW a0
  · simp
  · have hz := isW_size hw
    have := spec_l03First_eq (k := m) (w := a0) (a := 0) (by omega) (by omega) (by omega)
    rw [show ((0 : Nat) : Int) = 0 from rfl] at this
    rw [Option.bind_some, if_pos rfl, this, Option.bind_some, first_free]; rfl

def ovL (w : ByteArray) : List (List Int) := (powL w 2).filter fun l => !ovB w l
theorem pow_ok {w : ByteArray} (hw : w.size ≤ 60) : (powL w 2).all okRow = true := by
  rw [List.all_eq_true]
  intro x hx
  obtain ⟨i, q, h1, h2, h3, rfl⟩ := (powL_mem (by omega)).mp hx
  unfold okRow inR
  rw [rd0, rd1]
  rw [decide_eq_true (show 2 ≤ [(i : Int), (q : Int)].length by simp), decide_eq_true (show (0 : Int) ≤ i by omega), decide_eq_true (show (i : Int) ≤ 1000 by omega), decide_eq_true (show (0 : Int) ≤ q by omega), decide_eq_true (show (q : Int) ≤ 1000 by omega)]; rfl
theorem impl_overlaps_eq {k : Nat} {w : ByteArray} (hw : w.size ≤ 60) (hk : 100000 ≤ k) : impl_overlaps.f k w = some (ovL w) := by
  unfold impl_overlaps.f
  have := impl_powersIn_eq (k := k) (w := w) (m := 2) hw (by omega) (by omega) hk
  rw [show ((2 : Nat) : Int) = 2 from rfl] at this
  have hl := powL_len (k := 2) hw
  rw [this, Option.bind_some, if_pos ⟨by omega, by omega, pow_ok hw⟩]; rfl

def iofR (a0 : ByteArray) : Bool × Int := if isW a0 = true then (((ovL a0).length : Int) == 0, 0) else (false, 1)
theorem impl_IsOverlapFree_eq {m : Nat} (hm : 2000000 ≤ m) (a0 : ByteArray) : impl_IsOverlapFree.f m a0 = some (iofR a0) := by
  unfold impl_IsOverlapFree.f iofR
  rw [wordCode_1, Option.bind_some]
  cases hw : isW a0
  · rfl
  · rw [if_pos rfl, if_pos rfl, if_pos rfl, impl_overlaps_eq (isW_size hw) (by omega), Option.bind_some]

theorem spec_l03Powers_eq {k : Nat} {w : ByteArray} {m : Nat} (hw : w.size ≤ 60) (h1 : 1 ≤ m) (h2 : m ≤ 60) (hk : 100000 ≤ k) : spec_l03Powers.f k w m = some (powL w m) := by
  have := fold_cost (fun k (s : List (List Int)) i => spec_l03Powers.l0 k w m s w.size i) w.size (fun i s => s ++ powR w m i) (fun _ s => some s) (fun i s => s.length ≤ 60 * i) 20000 70
    (fun i s hi hs => by
      have hd : (w.size - i) / m ≤ w.size - i := Nat.div_le_self _ _
      obtain ⟨o1, o2⟩ := div_out (n := w.size - i) (k := m) h1
      refine ⟨(w.size - i) / m + 1, by omega, fun k hk => ?_⟩
      have h := gather_on (fun k (s : List (List Int)) q => spec_l03Powers.l1 k w m s w.size i q) (fun k s => spec_l03Powers.l0 k w m s w.size ((i + 1 : Nat) : Int)) ((w.size - i) / m + 1) (powB w m i) (fun q => [(i : Int), (q : Int)]) 20000 100000
        (fun k q acc hk hq ha => by
          have hin := div_in h1 (show q ≤ (w.size - i) / m by omega)
          have hq2 : q ≤ m * q := Nat.le_mul_of_pos_left q h1
          have e1 : (q : Int) * m = ((m * q : Nat) : Int) := by rw [Int.natCast_mul, Int.mul_comm]
          simp only [spec_l03Powers.l1]
          rw [e1, w64 (x := ((m * q : Nat) : Int)) (by omega) (by omega), w64 (by omega) (by omega), if_pos (by omega), spec_l03Power_eq h1 (by omega) (by omega) (by omega), w64 (by omega) (by omega)]
          simp only [Option.bind_some]
          cases powB w m i q
          · simp
          · simp; omega)
        (fun k acc hk => by
          have e1 : (((w.size - i) / m + 1 : Nat) : Int) * m = ((m * ((w.size - i) / m + 1) : Nat) : Int) := by rw [Int.natCast_mul, Int.mul_comm]
          simp only [spec_l03Powers.l1]
          rw [e1, w64 (x := ((m * ((w.size - i) / m + 1) : Nat) : Int)) (by omega) (by omega), w64 (by omega) (by omega), if_neg (by omega), w64 (by omega) (by omega)]; rfl)
        ((w.size - i) / m) k 1 s (by omega) hk (by omega)
      simp only [spec_l03Powers.l0]
      rw [if_pos (by omega)]
      exact h)
    (fun i s hi hs => by
      have := powR_len w m i
      rw [List.length_append]; omega)
    (fun k s hk hs => by
      simp only [spec_l03Powers.l0]
      rw [if_neg (by omega)])
    w.size k 0 [] (by omega) (by have : w.size * (70 + 1) ≤ 60 * 71 := Nat.mul_le_mul hw (by omega); omega) (by simp)
  obtain ⟨_, k', _, _, h4⟩ := this
  unfold spec_l03Powers.f
  rw [loopS_append] at h4
  exact h4

theorem drop_getD {L : List (List Int)} {n : Nat} (h : n < L.length) : L.drop n = L.getD n [] :: L.drop (n + 1) := by
  rw [List.drop_eq_getElem_cons h, List.getD_eq_getElem?_getD, List.getElem?_eq_getElem h]; rfl
theorem spec_ov_l0 {w : ByteArray} (hw : w.size ≤ 60) : ∀ (d n k : Nat) (acc : List (List Int)), n + d = (powL w 2).length → d < k → acc.length ≤ n → spec_l03Overlaps.l0 k w (powL w 2) acc n = some (acc ++ ((powL w 2).drop n).filter fun l => !ovB w l)
  | 0, n, k, acc, hn, hk, ha => by
    obtain ⟨k, rfl⟩ := rounds_pos (show 0 < k by omega)
    simp only [spec_l03Overlaps.l0]
    rw [if_neg (by omega), List.drop_of_length_le (by omega)]; simp
  | d + 1, n, k, acc, hn, hk, ha => by
    obtain ⟨k, rfl⟩ := rounds_pos (show 0 < k by omega)
    have hl := powL_len (k := 2) hw
    have hlt : n < (powL w 2).length := by omega
    have hmem : (powL w 2).getD n [] ∈ powL w 2 := by rw [List.getD_eq_getElem?_getD, List.getElem?_eq_getElem hlt]; exact List.getElem_mem hlt
    obtain ⟨i, q, h1, h2, h3, hx⟩ := (powL_mem (by omega)).mp hmem
    have hr : rd_L5 (powL w 2) (n : Int) = [(i : Int), (q : Int)] := by
      rw [← hx]; unfold rd_L5; simp
    rw [drop_getD hlt, hx, List.filter_cons]
    simp only [spec_l03Overlaps.l0, hr, rd0, rd1]
    rw [if_pos (by omega), if_pos (by omega), if_pos (by simp), if_pos (by simp), w64 (x := 2 * (q : Int)) (by omega) (by omega), w64 (x := (i : Int) + 2 * q) (by omega) (by omega), w64 (x := (n : Int) + 1) (by omega) (by omega), show (n : Int) + 1 = ((n + 1 : Nat) : Int) by omega]
    have hov : ovB w [(i : Int), (q : Int)] = (decide ((w.size : Int) ≤ (i : Int) + 2 * q) || !(bt w ((i : Int) + 2 * q) == bt w i)) := rfl
    rw [hov]
    by_cases c1 : (i : Int) + 2 * q < w.size
    · rw [if_pos c1, if_pos (by omega), if_pos (by omega), if_pos (by omega), decide_eq_false (by omega), Bool.false_or, Bool.not_not]
      by_cases c2 : bt w ((i : Int) + 2 * q) = bt w i
      · rw [if_pos c2, if_pos (by omega), if_pos (by simpa using c2), spec_ov_l0 hw d (n + 1) k _ (by omega) (by omega) (by simp; omega)]
        simp
      · rw [if_neg c2, if_neg (by simpa using c2), spec_ov_l0 hw d (n + 1) k _ (by omega) (by omega) (by omega)]
    · rw [if_neg c1, decide_eq_true (show (w.size : Int) ≤ (i : Int) + 2 * q by omega), if_neg (by simp), spec_ov_l0 hw d (n + 1) k _ (by omega) (by omega) (by omega)]
theorem spec_overlaps_eq {k : Nat} {w : ByteArray} (hw : w.size ≤ 60) (hk : 100000 ≤ k) : spec_l03Overlaps.f k w = some (ovL w) := by
  unfold spec_l03Overlaps.f
  have := spec_l03Powers_eq (k := k) (w := w) (m := 2) hw (by omega) (by omega) hk
  rw [show ((2 : Nat) : Int) = 2 from rfl] at this
  have hl := powL_len (k := 2) hw
  rw [this, Option.bind_some, show (0 : Int) = ((0 : Nat) : Int) from rfl, spec_ov_l0 hw (powL w 2).length 0 k [] (by omega) (by omega) (by simp)]
  rfl

theorem spec_IsOverlapFree_eq {m : Nat} (hm : 2000000 ≤ m) {a0 : ByteArray} (h0 : a0.size ≤ 140737488351232) (s0 : a0.size ≤ 1048576) : spec_IsOverlapFree.f m a0 = some (iofR a0) := by
  unfold spec_IsOverlapFree.f iofR
  rw [spec_l01Is_eq h0 (by omega), Option.bind_some]
  cases hw : isW a0
  · rfl
  · rw [if_pos rfl, if_pos rfl, spec_overlaps_eq (isW_size hw) (by omega), Option.bind_some]

def ltrI (x : Int) : ByteArray := strOfNums [(wrap64 (97 + x)) % 256]
theorem ltrI_size (x : Int) : (ltrI x).size = 1 := by unfold ltrI; rw [sn_len]; rfl
def wolS (l : List Int) : ByteArray := loopS (fun i s => s ++ ltrI (rd l i)) 0 l.length ⟨#[]⟩
theorem impl_wol {k : Nat} {l : List Int} (hl : l.length ≤ 60) (hk : 100 ≤ k) : impl_wordOf.f k l = some (wolS l) :=
  fold_gen (fun k (s : ByteArray) i => impl_wordOf.l0 k s l l.length i) l.length (fun i s => s ++ ltrI (rd l i)) (fun s => s) (fun i s => s.size = i) 0
    (fun k i s _ hi hs => by
      have h1 := ltrI_size (rd l i)
      simp only [impl_wordOf.l0]
      rw [if_pos (by omega), if_pos (by omega), if_pos (by omega)]
      rw [show impl_letter.f (rd l i) = some (ltrI (rd l i)) from rfl, Option.bind_some, if_pos (by omega), w64 (by omega) (by omega)]; rfl)
    (fun i s hi hs => by rw [app_size, ltrI_size]; omega)
    (fun k s _ _ => by simp only [impl_wordOf.l0]; rw [if_neg (by omega)])
    l.length k 0 ⟨#[]⟩ (by omega) (by omega) rfl
theorem wol_one {n : Nat} (h : n ≤ 4) : wolS [(n : Int)] = letW n := by
  unfold wolS letW
  show (⟨#[]⟩ : ByteArray) ++ ltrI (rd [(n : Int)] ((0 : Nat) : Int)) = _
  rw [show rd [(n : Int)] ((0 : Nat) : Int) = n from rfl]
  unfold ltrI
  rw [w64 (by omega) (by omega), Int.emod_eq_of_lt (by omega) (by omega)]
  apply bo_inj
  rw [bo_append]; rfl
theorem impl_WordOfLetters_one {k n : Nat} (hn : n ≤ 4) (hk : 100 ≤ k) : impl_WordOfLetters.f k [(n : Int)] = some (letW n, 0) := by
  unfold impl_WordOfLetters.f impl_areAll_int64.f
  have hin : ([(n : Int)].all fun x => inR x 0 4) = true := by unfold inR; simp; omega
  rw [if_neg (by simp), Option.bind_some, hin, if_pos rfl, impl_wol (by simp) hk, Option.bind_some, wol_one hn]

theorem sqfB_iff {w : ByteArray} : sqfB w = true ↔ ∀ i q, 1 ≤ q → i + 2 * q ≤ w.size → powB w 2 i q = false := by
  unfold sqfB
  rw [decide_eq_true_iff, powL_nil (by omega)]

theorem app_ext {w v : ByteArray} {i j : Nat} (h : j ≤ w.size) : (w ++ v).extract i j = w.extract i j := by
  apply bo_inj
  rw [bo_extract, bo_extract, bo_append, List.take_append_of_le_length (by rw [bo_len]; exact h)]
theorem sqf_next {w : ByteArray} {n : Nat} (h : sqfB w = true) (he : endF (w ++ letW n) = true) : sqfB (w ++ letW n) = true := by
  have hs : (w ++ letW n).size = w.size + 1 := by rw [app_size, letW_size]
  rw [sqfB_iff] at h ⊢
  intro i q hq hi
  by_cases hl : i + 2 * q ≤ w.size
  · have := h i q hq hl
    unfold powB at this ⊢
    rw [app_ext hl]; exact this
  · unfold endF at he
    rw [Option.isNone_iff_eq_none, findE_none] at he
    have := he q hq (by
      have := Nat.div_add_mod (w ++ letW n).size 2
      have := Nat.mod_lt (w ++ letW n).size (show 0 < 2 by omega)
      omega)
    unfold sqE at this
    rw [show (w ++ letW n).size - 2 * q = i by omega] at this
    exact this
theorem isW_next {w : ByteArray} {n : Nat} (h : isW w = true) (hz : w.size < 60) (hn : n ≤ 4) : isW (w ++ letW n) = true := by
  rw [isW_iff] at h ⊢
  refine ⟨by rw [app_size, letW_size]; omega, fun x hx => ?_⟩
  rw [bo_append, List.mem_append] at hx
  rcases hx with hx | hx
  · exact h.2 x hx
  · have e : bytesOf (letW n) = [97 + (n : Int)] := by
      unfold letW
      exact bo_sn (by intro y hy; rw [List.mem_singleton] at hy; omega)
    rw [e, List.mem_singleton] at hx
    omega
theorem isW_let {n : Nat} (hn : n ≤ 4) : isW (letW n) = true := by
  rw [isW_iff]
  refine ⟨by rw [letW_size]; omega, fun x hx => ?_⟩
  have e : bytesOf (letW n) = [97 + (n : Int)] := by
    unfold letW
    exact bo_sn (by intro y hy; rw [List.mem_singleton] at hy; omega)
  rw [e, List.mem_singleton] at hx
  omega
theorem sqf_empty : sqfB ⟨#[]⟩ = true := by
  rw [sqfB_iff]
  intro i q hq hi
  have : (⟨#[]⟩ : ByteArray).size = 0 := rfl
  omega
theorem isW_empty : isW ⟨#[]⟩ = true := by
  rw [isW_iff]
  refine ⟨by decide, fun x hx => ?_⟩
  rw [bo_empty] at hx; cases hx

theorem orF_some {α : Type} {f : Nat → Option α} {x : α} : ∀ (e n : Nat), orF f e n = some x → ∃ m, n ≤ m ∧ m < n + e ∧ f m = some x
  | 0, n, h => by simp [orF] at h
  | e + 1, n, h => by
    simp only [orF] at h
    cases hf : f n with
    | some y =>
      rw [hf] at h
      injection h with h
      exact ⟨n, Nat.le_refl _, by omega, by rw [hf, h]⟩
    | none =>
      rw [hf] at h
      obtain ⟨m, h1, h2, h3⟩ := orF_some e (n + 1) h
      exact ⟨m, by omega, by omega, h3⟩
theorem fndG_ok {kk : Nat} (hk : kk ≤ 5) : ∀ (d : Nat) (w x : ByteArray), w.size + d ≤ 60 → isW w = true → sqfB w = true → fndG kk d w = some x → x.size = w.size + d ∧ isW x = true ∧ sqfB x = true
  | 0, w, x, _, h1, h2, h => by
    simp only [fndG] at h
    injection h with h
    subst h
    exact ⟨rfl, h1, h2⟩
  | d + 1, w, x, hz, h1, h2, h => by
    simp only [fndG] at h
    obtain ⟨m, m1, m2, m3⟩ := orF_some _ _ h
    cases he : endF (w ++ letW m) with
    | false => rw [he] at m3; simp at m3
    | true =>
      rw [he, if_pos rfl] at m3
      have hs : (w ++ letW m).size = w.size + 1 := by rw [app_size, letW_size]
      obtain ⟨g1, g2, g3⟩ := fndG_ok hk d (w ++ letW m) x (by omega) (isW_next h1 (by omega) (by omega)) (sqf_next h2 he) m3
      exact ⟨by omega, g2, g3⟩
theorem sumF_pos {f : Nat → Nat} {g : Nat → Option ByteArray} (h : ∀ n, 0 < f n ↔ (g n).isSome = true) : ∀ (e n : Nat), 0 < sumF f e n ↔ (orF g e n).isSome = true
  | 0, n => by simp [sumF, orF]
  | e + 1, n => by
    have ih := sumF_pos h e (n + 1)
    have hn := h n
    simp only [sumF, orF]
    cases hg : g n with
    | some y =>
      rw [hg] at hn
      simp only [Option.isSome_some, iff_true] at hn ⊢
      omega
    | none =>
      rw [hg] at hn
      simp only [Option.isSome_none, Bool.false_eq_true, iff_false] at hn
      simp only
      rw [← ih]
      omega
theorem cnt_fnd (kk : Nat) : ∀ (d : Nat) (w : ByteArray), 0 < cntG kk d w ↔ (fndG kk d w).isSome = true
  | 0, w => by simp [cntG, fndG]
  | d + 1, w => by
    simp only [cntG, fndG]
    refine sumF_pos (fun n => ?_) kk 0
    cases he : endF (w ++ letW n) with
    | true => rw [if_pos rfl, if_pos rfl]; exact cnt_fnd kk d _
    | false => simp

/-- what was gathered so far: at least as great as all factors so far, and one of them, or 1 -/
def grOk (w : ByteArray) (s : Nat × Nat) (P : Nat → Nat → Prop) : Prop :=
  (∀ a b, a < b → b ≤ w.size → P a b → (b - a) * s.2 ≤ s.1 * leastP (w.extract a b)) ∧ ∃ a b, a < b ∧ b ≤ w.size ∧ s = (b - a, leastP (w.extract a b))
theorem grOk_step {w : ByteArray} {a b : Nat} (hab : a < b) (hb : b ≤ w.size) {s : Nat × Nat} {P : Nat → Nat → Prop} (h : grOk w s P) : grOk w (grG w a b s) (fun x y => P x y ∨ (x = a ∧ y = b)) := by
  have lp : ∀ {x y : Nat}, x < y → y ≤ w.size → 1 ≤ leastP (w.extract x y) := fun {x y} h1 h2 => (leastP_spec (w := w.extract x y) (by rw [ext_size]; omega)).1
  obtain ⟨h1, a0, b0, h2, h3, h4⟩ := h
  unfold grG
  by_cases c : (b - a) * s.2 > s.1 * leastP (w.extract a b)
  · rw [if_pos c]
    refine ⟨fun x y hxy hy hp => ?_, a, b, hab, hb, rfl⟩
    simp only
    rcases hp with hp | ⟨rfl, rfl⟩
    · have e1 := h1 x y hxy hy hp
      have q1 := lp h2 h3
      have q2 := lp hxy hy
      have q3 := lp hab hb
      have hs2 : s.2 = leastP (w.extract a0 b0) := by rw [h4]
      rw [← hs2] at q1
      -- (y - x) * s2 ≤ s1 * pxy ; s1 * pab < (b-a) * s2
      refine Nat.le_of_mul_le_mul_right (c := s.2) ?_ q1
      calc (y - x) * leastP (w.extract a b) * s.2 = (y - x) * s.2 * leastP (w.extract a b) := by rw [Nat.mul_right_comm]
        _ ≤ s.1 * leastP (w.extract x y) * leastP (w.extract a b) := Nat.mul_le_mul_right _ e1
        _ = s.1 * leastP (w.extract a b) * leastP (w.extract x y) := by rw [Nat.mul_right_comm]
        _ ≤ (b - a) * s.2 * leastP (w.extract x y) := Nat.mul_le_mul_right _ (by omega)
        _ = (b - a) * leastP (w.extract x y) * s.2 := by rw [Nat.mul_right_comm]
    · exact Nat.le_refl _
  · rw [if_neg c]
    refine ⟨fun x y hxy hy hp => ?_, a0, b0, h2, h3, h4⟩
    rcases hp with hp | ⟨rfl, rfl⟩
    · exact h1 x y hxy hy hp
    · omega
theorem grOk_in {w : ByteArray} {a : Nat} : ∀ (c b : Nat) (s : Nat × Nat) (P : Nat → Nat → Prop), a < b → b + c = w.size + 1 → grOk w s P → grOk w (loopS (fun b s => grG w a b s) b c s) (fun x y => P x y ∨ (x = a ∧ b ≤ y))
  | 0, b, s, P, hab, hc, h => by
    refine ⟨fun x y hxy hy hp => ?_, h.2⟩
    rcases hp with hp | ⟨rfl, hp⟩
    · exact h.1 x y hxy hy hp
    · omega
  | c + 1, b, s, P, hab, hc, h => by
    simp only [loopS]
    have h2 := grOk_step hab (show b ≤ w.size by omega) h
    have := grOk_in (a := a) c (b + 1) (grG w a b s) (fun x y => P x y ∨ (x = a ∧ y = b)) (by omega) (by omega) h2
    refine ⟨fun x y hxy hy hp => ?_, this.2⟩
    refine this.1 x y hxy hy ?_
    rcases hp with hp | ⟨rfl, hp⟩
    · exact .inl (.inl hp)
    · by_cases e : y = b
      · exact .inl (.inr ⟨rfl, e⟩)
      · exact .inr ⟨rfl, by omega⟩
theorem grOk_out {w : ByteArray} : ∀ (c a : Nat) (s : Nat × Nat) (P : Nat → Nat → Prop), a + c = w.size → grOk w s P → grOk w (loopS (fun a s => loopS (fun b s => grG w a b s) (a + 1) (w.size - a) s) a c s) (fun x y => P x y ∨ a ≤ x)
  | 0, a, s, P, hc, h => by
    refine ⟨fun x y hxy hy hp => ?_, h.2⟩
    rcases hp with hp | hp
    · exact h.1 x y hxy hy hp
    · omega
  | c + 1, a, s, P, hc, h => by
    rw [loopS]
    have h1 := grOk_in (a := a) (w.size - a) (a + 1) s P (by omega) (by omega) h
    have := grOk_out c (a + 1) _ _ (by omega) h1
    refine ⟨fun x y hxy hy hp => ?_, this.2⟩
    refine this.1 x y hxy hy ?_
    rcases hp with hp | hp
    · exact .inl (.inl hp)
    · by_cases e : x = a
      · exact .inl (.inr ⟨e, by omega⟩)
      · exact .inr (by omega)
theorem leastP_one {w : ByteArray} (h : w.size = 1) : leastP w = 1 := by
  obtain ⟨h1, h2, _, _⟩ := leastP_spec (w := w) (by omega)
  omega
theorem grS_ok {w : ByteArray} (h : 0 < w.size) : grOk w (grS w) (fun _ _ => True) := by
  have h0 : grOk w (1, 1) (fun _ _ => False) := by
    refine ⟨fun _ _ _ _ hf => hf.elim, 0, 1, by omega, h, ?_⟩
    rw [leastP_one (by rw [ext_size]; omega)]
  have := grOk_out w.size 0 (1, 1) _ (by omega) h0
  exact ⟨fun x y hxy hy _ => this.1 x y hxy hy (.inr (Nat.zero_le _)), this.2⟩
theorem ext_ext0 (s : ByteArray) {i j m : Nat} (h : i + m ≤ j) : (s.extract i j).extract 0 m = s.extract i (i + m) := by
  rw [ext_ext s h, Nat.add_zero]
theorem hasP_prefix {w : ByteArray} {p m : Nat} (h : hasP w p = true) (hp : p ≤ m) (hm : m ≤ w.size) : hasP (w.extract 0 m) p = true := by
  have hz : (w.extract 0 m).size = m := by rw [ext_size]; omega
  rw [hasP_iff (by omega)] at h ⊢
  intro i hi
  rw [ext_bt _ (by omega), ext_bt _ (by omega), Nat.zero_add, Nat.zero_add]
  exact h i (by omega)
theorem sqf_least {w : ByteArray} : sqfB w = true ↔ ∀ a b, a < b → b ≤ w.size → b - a < 2 * leastP (w.extract a b) := by
  rw [sqfB_iff]
  constructor
  · intro h a b hab hb
    obtain ⟨l1, l2, l3, l4⟩ := leastP_spec (w := w.extract a b) (by rw [ext_size]; omega)
    rw [ext_size] at l2
    refine Nat.lt_of_not_le fun hle => ?_
    have := h a (leastP (w.extract a b)) l1 (by omega)
    unfold powB at this
    rw [← ext_ext0 w (i := a) (j := b) (by omega), hasP_prefix l3 (by omega) (by rw [ext_size]; omega)] at this
    cases this
  · intro h i q hq hi
    rw [Bool.eq_false_iff]
    intro hp
    have := h i (i + 2 * q) (by omega) hi
    unfold powB at hp
    obtain ⟨l1, l2, l3, l4⟩ := leastP_spec (w := w.extract i (i + 2 * q)) (by rw [ext_size]; omega)
    have : leastP (w.extract i (i + 2 * q)) ≤ q := Nat.le_of_not_lt fun hlt => by
      rw [l4 q hq hlt] at hp; cases hp
    omega
theorem ovL_nil {w : ByteArray} (hw : w.size ≤ 60) : ovL w = [] ↔ ∀ i q, 1 ≤ q → i + 2 * q < w.size → hasP (w.extract i (i + 2 * q + 1)) q = false := by
  have key : ∀ i q, 1 ≤ q → i + 2 * q < w.size → (hasP (w.extract i (i + 2 * q + 1)) q = true ↔ powB w 2 i q = true ∧ bt w ((i + 2 * q : Nat) : Int) = bt w i) := by
    intro i q hq hi
    have z1 : (w.extract i (i + 2 * q + 1)).size = 2 * q + 1 := by rw [ext_size]; omega
    have z2 : (w.extract i (i + 2 * q)).size = 2 * q := by rw [ext_size]; omega
    unfold powB
    rw [hasP_iff (by omega), hasP_iff (by omega), z1, z2]
    constructor
    · intro h
      refine ⟨fun j hj => ?_, ?_⟩
      · have := h j (by omega)
        rw [ext_bt _ (by omega), ext_bt _ (by omega)] at this ⊢
        exact this
      · have e1 := h q (by omega)
        have e2 := h 0 (by omega)
        rw [ext_bt _ (by omega), ext_bt _ (by omega)] at e1 e2
        rw [Nat.add_zero, Nat.zero_add] at e2
        rw [e2, e1]
        congr 2; omega
    · rintro ⟨h1, h2⟩ j hj
      rw [ext_bt _ (by omega), ext_bt _ (by omega)]
      by_cases hl : j + q < 2 * q
      · have := h1 j hl
        rw [ext_bt _ (by omega), ext_bt _ (by omega)] at this
        exact this
      · obtain rfl : j = q := by omega
        have := h1 0 (by omega)
        rw [ext_bt _ (by omega), ext_bt _ (by omega)] at this
        rw [Nat.add_zero, Nat.zero_add] at this
        rw [← this, ← h2]
        congr 2; omega
  unfold ovL
  rw [List.filter_eq_nil_iff]
  have hov : ∀ i q : Nat, ovB w [(i : Int), (q : Int)] = (decide ((w.size : Int) ≤ (i : Int) + 2 * q) || !(bt w ((i : Int) + 2 * q) == bt w i)) := fun i q => rfl
  constructor
  · intro h i q hq hi
    rw [Bool.eq_false_iff]
    intro hp
    obtain ⟨k1, k2⟩ := (key i q hq hi).mp hp
    have := h [(i : Int), (q : Int)] ((powL_mem (by omega)).mpr ⟨i, q, hq, by omega, k1, rfl⟩)
    rw [hov, decide_eq_false (by omega), show (i : Int) + 2 * q = ((i + 2 * q : Nat) : Int) by omega, k2] at this
    simp at this
  · intro h x hx
    obtain ⟨i, q, hq, hi, hp, rfl⟩ := (powL_mem (by omega)).mp hx
    rw [hov]
    by_cases hl : i + 2 * q < w.size
    · have := h i q hq hl
      rw [decide_eq_false (by omega), show (i : Int) + 2 * q = ((i + 2 * q : Nat) : Int) by omega, Bool.false_or, Bool.not_not]
      intro h2
      rw [(key i q hq hl).mpr ⟨hp, by simpa using h2⟩] at this
      cases this
    · rw [decide_eq_true (by omega)]; simp
theorem ov_least {w : ByteArray} (hw : w.size ≤ 60) : ovL w = [] ↔ ∀ a b, a < b → b ≤ w.size → b - a ≤ 2 * leastP (w.extract a b) := by
  rw [ovL_nil hw]
  constructor
  · intro h a b hab hb
    obtain ⟨l1, l2, l3, l4⟩ := leastP_spec (w := w.extract a b) (by rw [ext_size]; omega)
    rw [ext_size] at l2
    refine Nat.le_of_not_lt fun hlt => ?_
    have := h a (leastP (w.extract a b)) l1 (by omega)
    rw [show a + 2 * leastP (w.extract a b) + 1 = a + (2 * leastP (w.extract a b) + 1) by omega, ← ext_ext0 w (i := a) (j := b) (by omega), hasP_prefix l3 (by omega) (by rw [ext_size]; omega)] at this
    cases this
  · intro h i q hq hi
    rw [Bool.eq_false_iff]
    intro hp
    have := h i (i + 2 * q + 1) (by omega) (by omega)
    obtain ⟨l1, l2, l3, l4⟩ := leastP_spec (w := w.extract i (i + 2 * q + 1)) (by rw [ext_size]; omega)
    have : leastP (w.extract i (i + 2 * q + 1)) ≤ q := Nat.le_of_not_lt fun hlt => by
      rw [l4 q hq hlt] at hp; cases hp
    omega
/-- square free, overlap free: told by the greatest exponent -/
theorem great_sqf {w : ByteArray} (h : 0 < w.size) : sqfB w = true ↔ (grS w).1 < 2 * (grS w).2 := by
  obtain ⟨g1, a, b, g2, g3, g4⟩ := grS_ok h
  have lp : ∀ {x y : Nat}, x < y → y ≤ w.size → 1 ≤ leastP (w.extract x y) := fun {x y} h1 h2 => (leastP_spec (w := w.extract x y) (by rw [ext_size]; omega)).1
  rw [sqf_least]
  constructor
  · intro hs
    rw [g4]; exact hs a b g2 g3
  · intro hs x y hxy hy
    have e := g1 x y hxy hy trivial
    have q := lp g2 g3
    have e2 : (grS w).2 = leastP (w.extract a b) := by rw [g4]
    rw [← e2] at q
    have l := lp hxy hy
    refine Nat.lt_of_mul_lt_mul_right (a := (grS w).2) ?_
    calc (y - x) * (grS w).2 ≤ (grS w).1 * leastP (w.extract x y) := e
      _ < 2 * (grS w).2 * leastP (w.extract x y) := Nat.mul_lt_mul_of_pos_right hs l
      _ = 2 * leastP (w.extract x y) * (grS w).2 := by rw [Nat.mul_right_comm]
theorem great_ov {w : ByteArray} (hw : w.size ≤ 60) (h : 0 < w.size) : ovL w = [] ↔ (grS w).1 ≤ 2 * (grS w).2 := by
  obtain ⟨g1, a, b, g2, g3, g4⟩ := grS_ok h
  have lp : ∀ {x y : Nat}, x < y → y ≤ w.size → 1 ≤ leastP (w.extract x y) := fun {x y} h1 h2 => (leastP_spec (w := w.extract x y) (by rw [ext_size]; omega)).1
  rw [ov_least hw]
  constructor
  · intro hs
    rw [g4]; exact hs a b g2 g3
  · intro hs x y hxy hy
    have e := g1 x y hxy hy trivial
    have q := lp g2 g3
    have e2 : (grS w).2 = leastP (w.extract a b) := by rw [g4]
    rw [← e2] at q
    refine Nat.le_of_mul_le_mul_right (c := (grS w).2) ?_ q
    calc (y - x) * (grS w).2 ≤ (grS w).1 * leastP (w.extract x y) := e
      _ ≤ 2 * (grS w).2 * leastP (w.extract x y) := Nat.mul_le_mul_right _ hs
      _ = 2 * leastP (w.extract x y) * (grS w).2 := by rw [Nat.mul_right_comm]
/-- lowest terms: the parts, times their divisor -/
theorem low_parts {a b : Nat} (ha : 1 ≤ a ∧ a ≤ 60) (hb : 1 ≤ b ∧ b ≤ 60) : ∃ g x y : Nat, 1 ≤ g ∧ a = g * x ∧ b = g * y ∧ lowN (a : Int) (b : Int) = ((x : Int), (y : Int)) ∧ x ≤ 60 ∧ y ≤ 60 := by
  have hg := Nat.gcd_pos_of_pos_left b (show 0 < a by omega)
  obtain ⟨x, hx⟩ := Nat.gcd_dvd_left a b
  obtain ⟨y, hy⟩ := Nat.gcd_dvd_right a b
  have ex : a / Nat.gcd a b = x := by conv => lhs; arg 1; rw [hx]
                                      exact Nat.mul_div_cancel_left x hg
  have ey : b / Nat.gcd a b = y := by conv => lhs; arg 1; rw [hy]
                                      exact Nat.mul_div_cancel_left y hg
  have hxl : x ≤ 60 := by rw [← ex]; exact Nat.le_trans (Nat.div_le_self _ _) ha.2
  have hyl : y ≤ 60 := by rw [← ey]; exact Nat.le_trans (Nat.div_le_self _ _) hb.2
  refine ⟨Nat.gcd a b, x, y, hg, hx, hy, ?_, hxl, hyl⟩
  unfold lowN gcdI
  rw [Int.toNat_natCast, Int.toNat_natCast]
  rw [show Int.tdiv (a : Int) ((Nat.gcd a b : Nat) : Int) = ((a / Nat.gcd a b : Nat) : Int) from rfl, show Int.tdiv (b : Int) ((Nat.gcd a b : Nat) : Int) = ((b / Nat.gcd a b : Nat) : Int) from rfl, ex, ey, w64 (by omega) (by omega), w64 (by omega) (by omega)]
theorem low_cmp {g x y : Nat} (hg : 1 ≤ g) : (g * x < 2 * (g * y) ↔ x < 2 * y) ∧ (g * x ≤ 2 * (g * y) ↔ x ≤ 2 * y) := by
  have e : 2 * (g * y) = g * (2 * y) := by rw [Nat.mul_left_comm]
  rw [e]
  exact ⟨Nat.mul_lt_mul_left (by omega), Nat.mul_le_mul_left_iff (by omega)⟩

theorem sq_draw1 {l : List Int} {k : Nat} (hl : OkC l) (hk : 3000000 ≤ k) {a : ByteArray} (ha : spec_l03Spoil.f k l = some a) : ∃ x, spec_DrawLettersNext.f k l = some (a, x) := by
  obtain ⟨h, e⟩ := l01From_ok (k := k) hl (by omega)
  unfold spec_DrawLettersNext.f
  obtain ⟨x, t1, h1, e1, ht1, x0⟩ := l01Pick_ok (t := 0) (h := h) [1, 2, 3, 3, 4, 5, 0, 6] (P := fun r => 0 ≤ r ∧ r ≤ 6) hl zero_ok (by decide) (by decide)
  rw [ha, Option.bind_some, e, Option.bind_some]
  dsimp only
  rw [e1, Option.bind_some]
  exact ⟨_, rfl⟩
theorem sq_draw3 {l : List Int} {k : Nat} (hl : OkC l) (hk : 3000000 ≤ k) : ∃ x y, spec_DrawFirstSquareFree.f k l = some (x, y) := by
  obtain ⟨h, e⟩ := l01From_ok (k := k) hl (by omega)
  unfold spec_DrawFirstSquareFree.f
  obtain ⟨x, t1, h1, e1, ht1, x0⟩ := l01Near_ok (t := 0) (h := h) (a := 30) hl zero_ok (by omega)
  obtain ⟨y, t2, h2, e2, ht2, y0⟩ := l01Pick_ok (h := h1) [1, 2, 3, 3, 3, 4, 5, 0, 6] (P := fun r => 0 ≤ r ∧ r ≤ 6) hl ht1 (by decide) (by decide)
  rw [e, Option.bind_some]
  dsimp only
  rw [e1, Option.bind_some]
  dsimp only
  rw [e2, Option.bind_some]
  exact ⟨_, _, rfl⟩
theorem sq_draw4 {l : List Int} {k : Nat} (hl : OkC l) (hk : 3000000 ≤ k) : ∃ x y, spec_DrawCountSquareFree.f k l = some (x, y) := by
  obtain ⟨h, e⟩ := l01From_ok (k := k) hl (by omega)
  unfold spec_DrawCountSquareFree.f
  obtain ⟨x, t1, h1, e1, ht1, x0⟩ := l01Near_ok (t := 0) (h := h) (a := 12) hl zero_ok (by omega)
  obtain ⟨y, t2, h2, e2, ht2, y0⟩ := l01Pick_ok (h := h1) [1, 2, 3, 3, 3, 0, 4] (P := fun r => 0 ≤ r ∧ r ≤ 6) hl ht1 (by decide) (by decide)
  rw [e, Option.bind_some]
  dsimp only
  rw [e1, Option.bind_some]
  dsimp only
  rw [e2, Option.bind_some]
  exact ⟨_, _, rfl⟩
theorem sq_next {k : Nat} {w : ByteArray} {kk : Int} (hk : 10000000 ≤ k) : ∃ P c, nextR w kk = (P, c) ∧ P.length ≤ 1000 ∧ (c ≠ 0 ∨ (c = 0 ∧ ∀ j : Nat, j < P.length → ∃ u v, impl_WordOfLetters.f k [rd P j] = some (u, 0) ∧ impl_ProductOf.f w u = some (v, 0) ∧ impl_IsSquareFree.f k v = some (true, 0))) := by
  unfold nextR
  cases hW : isW w with
  | false => exact ⟨[], 1, rfl, by simp, .inl (by decide)⟩
  | true =>
    cases hr : inR kk 1 5 with
    | false => exact ⟨[], 2, rfl, by simp, .inl (by decide)⟩
    | true =>
      obtain ⟨r1, r2⟩ := inR_true hr
      cases hs : sqfB w with
      | false => exact ⟨[], 4, rfl, by simp, .inl (by decide)⟩
      | true =>
        have hl := nxtL_len w kk.toNat
        refine ⟨nxtL w kk.toNat, 0, rfl, by omega, .inr ⟨rfl, fun j hj => ?_⟩⟩
        have hm := rd_mem (L := nxtL w kk.toNat) (j := (j : Int)) (by omega) (by omega)
        unfold nxtL at hm
        by_cases hz : w.size < 60
        · rw [if_pos hz] at hm
          obtain ⟨n, n1, n2, n3, n4⟩ := gath_mem.mp hm
          have e : rd (nxtL w kk.toNat) (j : Int) = (n : Int) := by
            unfold nxtL; rw [if_pos hz]; exact n4.symm
          refine ⟨letW n, w ++ letW n, ?_, ?_, ?_⟩
          · rw [e]; exact impl_WordOfLetters_one (by omega) (by omega)
          · unfold impl_ProductOf.f
            rw [hW, isW_let (by omega), Bool.and_self, if_pos rfl, if_pos (by rw [letW_size]; omega)]
          · rw [impl_IsSquareFree_eq (by omega)]
            unfold sqfR
            rw [isW_next hW hz (by omega), if_pos rfl, sqf_next hs n3]
        · rw [if_neg hz] at hm; cases hm
theorem sq_great {k : Nat} {x : ByteArray} (hk : 10000000 ≤ k) : ∃ a b c bb, greaW x = (a, b, c) ∧ (c ≠ 0 ∨ (c = 0 ∧ wrap64 (2 * b) = bb ∧ impl_IsSquareFree.f k x = some (decide (a < bb), 0) ∧ impl_IsOverlapFree.f k x = some (decide (a ≤ bb), 0))) := by
  unfold greaW
  cases hW : isW x with
  | false => exact ⟨0, 0, 1, 0, rfl, .inl (by decide)⟩
  | true =>
    have hz := isW_size hW
    by_cases h0 : x.size = 0
    · rw [if_pos rfl, if_pos h0]; exact ⟨0, 0, 4, 0, rfl, .inl (by decide)⟩
    · rw [if_pos rfl, if_neg h0]
      obtain ⟨_, _, _, g3, g4, g5, g6⟩ := spec_gr (k := 100000) hz (by omega)
      obtain ⟨g, u, v, l1, l2, l3, l4, l5, l6⟩ := low_parts ⟨g3, g4⟩ ⟨g5, g6⟩
      obtain ⟨m1, m2⟩ := low_cmp (g := g) (x := u) (y := v) l1
      have q1 := great_sqf (w := x) (by omega)
      have q2 := great_ov (w := x) hz (by omega)
      rw [l2, l3, m1] at q1
      rw [l2, l3, m2] at q2
      refine ⟨u, v, 0, 2 * v, by rw [l4], .inr ⟨rfl, by rw [w64 (by omega) (by omega)], ?_, ?_⟩⟩
      · rw [impl_IsSquareFree_eq (by omega)]
        unfold sqfR
        rw [hW, if_pos rfl]
        have : sqfB x = decide ((u : Int) < 2 * (v : Int)) := by
          rw [Bool.eq_iff_iff, q1, decide_eq_true_iff]; omega
        rw [this]
      · rw [impl_IsOverlapFree_eq (by omega)]
        unfold iofR
        rw [hW, if_pos rfl]
        have : (((ovL x).length : Int) == 0) = decide ((u : Int) ≤ 2 * (v : Int)) := by
          rw [Bool.eq_iff_iff, beq_iff_eq, decide_eq_true_iff]
          have : ((ovL x).length : Int) = 0 ↔ ovL x = [] := by
            rw [← List.length_eq_zero_iff]; omega
          rw [this, q2]; omega
        rw [this]
theorem sq_first {k : Nat} {m j : Int} (hk : 10000000 ≤ k) : ∃ f c, fsfR m j = (f, c) ∧ (c ≠ 0 ∨ (c = 0 ∧ impl_IsSquareFree.f k f = some (true, 0) ∧ (f.size : Int) = m)) := by
  unfold fsfR
  cases h : (inR m 0 30 && inR j 1 5) with
  | false => exact ⟨⟨#[]⟩, 2, rfl, .inl (by decide)⟩
  | true =>
    rw [Bool.and_eq_true] at h
    obtain ⟨m0, m1⟩ := inR_true h.1
    obtain ⟨m2, m3⟩ := inR_true h.2
    rw [if_pos rfl]
    cases hf : fndG j.toNat m.toNat ⟨#[]⟩ with
    | none => exact ⟨⟨#[]⟩, 4, rfl, .inl (by decide)⟩
    | some x =>
      have hz : (⟨#[]⟩ : ByteArray).size = 0 := rfl
      obtain ⟨g1, g2, g3⟩ := fndG_ok (by omega) _ _ _ (by omega) isW_empty sqf_empty hf
      refine ⟨x, 0, rfl, .inr ⟨rfl, ?_, by omega⟩⟩
      rw [impl_IsSquareFree_eq (by omega)]
      unfold sqfR
      rw [g2, g3]; rfl
theorem sq_count {k : Nat} {n l : Int} (hk : 10000000 ≤ k) : ∃ cnt c g d e, (if (inR n 0 12 && inR l 1 3) = true then (((cntG l.toNat n.toNat ⟨#[]⟩ : Nat) : Int), (0 : Int)) else (0, 2)) = (cnt, c) ∧ (c ≠ 0 ∨ (c = 0 ∧ impl_FirstSquareFree.f k n l = some (g, d) ∧ (d == 0) = e ∧ decide (0 < cnt) = e)) := by
  cases h : (inR n 0 12 && inR l 1 3) with
  | false => exact ⟨0, 2, ⟨#[]⟩, 0, true, rfl, .inl (by decide)⟩
  | true =>
    rw [Bool.and_eq_true] at h
    obtain ⟨m0, m1⟩ := inR_true h.1
    obtain ⟨m2, m3⟩ := inR_true h.2
    have h1 : (inR n 0 30 && inR l 1 5) = true := by
      unfold inR
      simp; omega
    rw [if_pos rfl]
    refine ⟨_, 0, (fsfR n l).1, (fsfR n l).2, decide (0 < ((cntG l.toNat n.toNat ⟨#[]⟩ : Nat) : Int)), rfl, .inr ⟨rfl, impl_FirstSquareFree_eq (by omega) n l, ?_, rfl⟩⟩
    have hc := cnt_fnd l.toNat n.toNat ⟨#[]⟩
    unfold fsfR
    rw [h1, if_pos rfl]
    cases hf : fndG l.toNat n.toNat ⟨#[]⟩ with
    | none =>
      rw [hf] at hc
      have : ¬ 0 < cntG l.toNat n.toNat ⟨#[]⟩ := fun h => by have := hc.mp h; cases this
      rw [decide_eq_false (by omega)]; rfl
    | some x =>
      rw [hf] at hc
      have : 0 < cntG l.toNat n.toNat ⟨#[]⟩ := hc.mpr rfl
      rw [decide_eq_true (by omega)]; rfl
theorem FnSquareFree : laws_FnSquareFree.Pure := by
  intro l0 _ _ hw
  by_cases hb : l0.length > 4096
  · exact Or.inl hb
  refine Or.inr ⟨by omega, ?_⟩
  have hl := okC_of (by omega) hw
  obtain ⟨k, hk⟩ : ∃ k : Nat, 20000000 ≤ k := ⟨_, Nat.le_refl _⟩
  obtain ⟨a, d0, az⟩ := l03Spoil_ok (k := k) hl (by omega)
  obtain ⟨kk, d1⟩ := sq_draw1 hl (by omega) d0
  obtain ⟨m, j, d3⟩ := sq_draw3 (k := k) hl (by omega)
  obtain ⟨n, l, d4⟩ := sq_draw4 (k := k) hl (by omega)
  obtain ⟨P, c1, e1, p1, f1⟩ := sq_next (k := k) (w := a) (kk := kk) (by omega)
  obtain ⟨ga, gb, c6, bb, e2, f2⟩ := sq_great (k := k) (x := a) (by omega)
  obtain ⟨fst, c10, e3, f3⟩ := sq_first (k := k) (m := m) (j := j) (by omega)
  obtain ⟨cnt, c13, g, c15, eb, e4, f4⟩ := sq_count (k := k) (n := n) (l := l) (by omega)
  obtain ⟨fi, fq, c16, e5⟩ : ∃ x y z, fsqR a = (x, y, z) := ⟨_, _, _, rfl⟩
  obtain ⟨b1, c18, e6⟩ : ∃ x y, sqfR a = (x, y) := ⟨_, _, rfl⟩
  obtain ⟨b2, c20, e7⟩ : ∃ x y, iofR a = (x, y) := ⟨_, _, rfl⟩
  have q1 := spec_LettersNext_eq (m := k) (a0 := a) (a1 := kk) (by omega) (by omega)
  have q2 := impl_LettersNext_eq (m := k) (a0 := a) (a1 := kk) (by omega)
  have q3 := spec_GreatestExponent_eq (k := k) (w := a) (by omega) (by omega)
  have q4 := impl_GreatestExponent_eq (k := k) (w := a) (by omega) (by omega)
  have q5 := spec_FirstSquareFree_eq (m := k) (by omega) m j
  have q6 := impl_FirstSquareFree_eq (m := k) (by omega) m j
  have q7 := spec_CountSquareFree_eq (m := k) (by omega) n l
  have q8 := impl_CountSquareFree_eq (m := k) (by omega) n l
  have q9 := spec_FirstSquare_eq (m := k) (by omega) (a0 := a) (by omega) (by omega)
  have q10 := impl_FirstSquare_eq (m := k) (by omega) a
  have q11 := spec_IsSquareFree_eq (m := k) (by omega) (a0 := a) (by omega)
  have q12 := impl_IsSquareFree_eq (m := k) (by omega) a
  have q13 := spec_IsOverlapFree_eq (m := k) (by omega) (a0 := a) (by omega) (by omega)
  have q14 := impl_IsOverlapFree_eq (m := k) (by omega) a
  rw [e1] at q1 q2
  rw [e2] at q3 q4
  rw [e3] at q5 q6
  rw [e4] at q7 q8
  rw [e5] at q9 q10
  rw [e6] at q11 q12
  rw [e7] at q13 q14
  exact ⟨k, a, a, a, fst, g, kk, ga, gb, bb, m, j, n, l, cnt, fi, fq, c1, c6, c10, c13, c15, c16, c18, c20, P, eb, b1, b2, d1, q2, q1, likeInts_eq (by omega) (by omega), by unfold spec_DrawGreatestExponent.f; rw [d0]; rfl, q4, q3, d3, q6, q5, d4, q8, q7, by unfold spec_DrawFirstSquare.f; rw [d0]; rfl, q10, q9, q12, q11, q14, q13, p1, f1, f2, f3, f4⟩

end Go.Proofs.Yteakipdmpjlhiaa.Pure
