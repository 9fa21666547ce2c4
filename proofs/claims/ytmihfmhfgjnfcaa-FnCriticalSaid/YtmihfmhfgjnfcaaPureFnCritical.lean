/- The plain part of the law FnCritical: for every input that the law takes, the printed function of the law answers true once it has rounds enough. Conditions: those that stand in the statement (sizes of strings and slices, kinds of numbers), no other. -/
import Derived.Test.YtmihfmhfgjnfcaaMxFnCritical2
import Derived.Test.YtmihfmhfgjnfcaaMath
import Derived.Test.YtmihfmhfgjnfcaaMath3
import Derived.Test.YtmihfmhfgjnfcaaMath4
namespace Go.Proofs.Ytmihfmhfgjnfcaa.Pure
open Go.RowKit Go.Proofs.Ytmihfmhfgjnfcaa.Q Go.Proofs.YtmihfmhfgjnfcaaW.PrintWords Go.Proofs.YtmihfmhfgjnfcaaW.PrintLast Go.Proofs.YtmihfmhfgjnfcaaW.PrintMore
set_option linter.unusedVariables false
set_option linter.unusedSimpArgs false

theorem spec_l01Reversed_l0 (w : ByteArray) (hw : w.size ≤ 1048576) : ∀ (n k : Nat) (acc : List Int), n ≤ w.size → n + 1 < k → acc.length + n ≤ 1048576 →
    spec_l01Reversed.l0 k w acc ((n : Int) - 1) = some (strOfNums (acc ++ ((bytesOf w).take n).reverse))
  | 0, k, acc, hn, hk, ha => by
    obtain ⟨k, rfl⟩ := rounds_pos (show 0 < k by omega)
    simp only [spec_l01Reversed.l0]
    rw [if_neg (by omega)]
    simp
  | n + 1, k, acc, hn, hk, ha => by
    obtain ⟨k, rfl⟩ := rounds_pos (show 0 < k by omega)
    simp only [spec_l01Reversed.l0]
    rw [if_pos (by omega), if_pos (by omega), if_pos (by omega), if_pos (by omega)]
    have e1 : ((n + 1 : Nat) : Int) - 1 = (n : Int) := by omega
    rw [e1, w64 (by omega) (by omega), spec_l01Reversed_l0 w hw n k (acc ++ [bt w n]) (by omega) (by omega) (by simp; omega)]
    rw [take_bytes_snoc w n (by omega)]
    simp
theorem spec_l01Reversed_eq {k : Nat} {w : ByteArray} (hw : w.size ≤ 1048576) (hk : w.size + 1 < k) : spec_l01Reversed.f k w = some (revW w) := by
  unfold spec_l01Reversed.f
  rw [w64 (by omega) (by omega), spec_l01Reversed_l0 w hw w.size k [] (Nat.le_refl _) hk (by simpa using hw)]
  rw [← bo_len, List.take_length]
  rfl

/-- a code whose numbers are bytes, and a place in it -/
def OkC (l : List Int) : Prop := l.length ≤ 4096 ∧ ∀ j : Nat, j < l.length → 0 ≤ rd l j ∧ rd l j ≤ 255
def Gives {α : Type} (o : Option (α × Int × Int)) (l : List Int) (P : α → Prop) : Prop := ∃ (r : α) (t h : Int), o = some (r, t, h) ∧ (0 ≤ t ∧ t ≤ (l.length : Int)) ∧ P r
theorem leO_far {α : Type} {f : Nat → Option α} (h : ∀ k, LeO (f k) (f (k + 1))) {r : α} {a : Nat} (ha : f a = some r) : ∀ d, f (a + d) = some r
  | 0 => ha
  | d + 1 => h (a + d) r (leO_far h ha d)
theorem u64_rng (x : Int) : 0 ≤ IntKind.u64.wrap x ∧ IntKind.u64.wrap x < 18446744073709551616 := by
  have e : IntKind.u64.wrap x = x % 18446744073709551616 := rfl
  rw [e]; omega
theorem and24 (x : Int) : 0 ≤ Go.bits .and .u64 (IntKind.u64.wrap x / 8589934592) 16777215 ∧ Go.bits .and .u64 (IntKind.u64.wrap x / 8589934592) 16777215 ≤ 16777215 := by
  have h := u64_rng x
  obtain ⟨n, hn⟩ := Int.eq_ofNat_of_zero_le (show 0 ≤ IntKind.u64.wrap x / 8589934592 by omega)
  rw [hn]
  have e : Go.bits .and .u64 (n : Int) 16777215 = ((n &&& 16777215 : Nat) : Int) := Go.bits_and_u64_nat n 16777215 (by omega) (by omega)
  rw [e]
  have : n &&& 16777215 ≤ 16777215 := Nat.and_le_right
  omega
theorem l01Next_ok {l : List Int} {t h n : Int} (hl : OkC l) (ht : 0 ≤ t ∧ t ≤ (l.length : Int)) (hn : 1 ≤ n ∧ n ≤ 1000000) : Gives (spec_l01Next.f l t h n) l fun r => 0 ≤ r ∧ r < n := by
  have hb := hl.1
  unfold spec_l01Next.f
  obtain ⟨y, hy⟩ : ∃ y, y = (IntKind.u64.wrap (h * 6364136223846793005)) + 1442695040888963407 := ⟨_, rfl⟩
  have ha := and24 y
  rw [← hy]
  obtain ⟨z, hz⟩ : ∃ z, z = Go.bits .and .u64 (IntKind.u64.wrap y / 8589934592) 16777215 := ⟨_, rfl⟩
  rw [← hz] at ha ⊢
  rw [if_neg (by omega), w64 (x := z) (by omega) (by omega)]
  by_cases c : t < (l.length : Int)
  · have hr := hl.2 t.toNat (by omega)
    rw [show ((t.toNat : Nat) : Int) = t by omega] at hr
    rw [if_pos c, if_pos ht.1, if_neg (by omega), w64 (x := rd l t) (by omega) (by omega), w64 (x := z + rd l t) (by omega) (by omega), w64 (x := t + 1) (by omega) (by omega)]
    exact ⟨_, _, _, rfl, ⟨by omega, by omega⟩, Int.tmod_nonneg _ (by omega), Int.tmod_lt_of_pos _ (by omega)⟩
  · rw [if_neg c, if_neg (by omega)]
    exact ⟨_, _, _, rfl, ht, Int.tmod_nonneg _ (by omega), Int.tmod_lt_of_pos _ (by omega)⟩
theorem rd_mem {L : List Int} {j : Int} (h0 : 0 ≤ j) (h1 : j < (L.length : Int)) : rd L j ∈ L := by
  unfold rd
  have : j.toNat < L.length := by omega
  simp [List.getD_eq_getElem?_getD, this]
theorem l01Pick_ok {l : List Int} {t h : Int} (L : List Int) {P : Int → Prop} (hl : OkC l) (ht : 0 ≤ t ∧ t ≤ (l.length : Int)) (hL : 1 ≤ L.length ∧ L.length ≤ 1000) (hP : ∀ x ∈ L, P x) : Gives (spec_l01Pick.f l t h L) l P := by
  obtain ⟨r, t1, h1, e1, ht1, r0, r1⟩ := l01Next_ok (h := h) hl ht (n := (L.length : Int)) (by omega)
  unfold spec_l01Pick.f
  rw [e1, Option.bind_some, if_pos r0, if_pos r1]
  exact ⟨_, _, _, rfl, ht1, hP _ (rd_mem r0 r1)⟩
theorem l01Near_ok {l : List Int} {t h a : Int} (hl : OkC l) (ht : 0 ≤ t ∧ t ≤ (l.length : Int)) (ha : 0 ≤ a ∧ a ≤ 1000) : Gives (spec_l01Near.f l t h a) l fun r => -4611686018427387904 ≤ r ∧ r ≤ 1099511627776 := by
  obtain ⟨r, t1, h1, e1, ht1, r0, r1⟩ := l01Next_ok (h := h) hl ht (n := 14) (by omega)
  unfold spec_l01Near.f
  rw [e1, Option.bind_some, w64 (by omega) (by omega)]
  by_cases c : r = 0
  · rw [if_pos c]
    obtain ⟨x, t2, h2, e2, ht2, x0⟩ := l01Pick_ok (h := h1) [-1, a + 1, 1099511627776, -4611686018427387904] (P := fun r => -4611686018427387904 ≤ r ∧ r ≤ 1099511627776) hl ht1 ⟨by simp, by simp⟩ (by
      intro x hx
      simp only [List.mem_cons, List.mem_nil_iff, or_false] at hx
      omega)
    rw [e2]; exact ⟨_, _, _, rfl, ht2, x0⟩
  · rw [if_neg c]
    obtain ⟨x, t2, h2, e2, ht2, x0, x1⟩ := l01Next_ok (h := h1) hl ht1 (n := a + 1) (by omega)
    rw [e2]; exact ⟨_, _, _, rfl, ht2, by omega, by omega⟩
theorem l01DrawOf_l0 {l : List Int} (hl : OkC l) {n kk : Int} (hn : n ≤ 100) (hk : 1 ≤ kk ∧ kk ≤ 100) : ∀ (d k i : Nat) (u : ByteArray) (t h : Int), (i : Int) + d = n → u.size = i → d < k → 0 ≤ t ∧ t ≤ (l.length : Int) → Gives (spec_l01DrawOf.l0 k n kk u i l t h) l fun u => (u.size : Int) = n
  | 0, k, i, u, t, h, hi, hu, hd, ht => by
    obtain ⟨k, rfl⟩ := rounds_pos (show 0 < k by omega)
    simp only [spec_l01DrawOf.l0]
    rw [if_neg (by omega)]
    exact ⟨_, _, _, rfl, ht, by omega⟩
  | d + 1, k, i, u, t, h, hi, hu, hd, ht => by
    obtain ⟨k, rfl⟩ := rounds_pos (show 0 < k by omega)
    simp only [spec_l01DrawOf.l0]
    obtain ⟨r, t1, h1, e1, ht1, r0, r1⟩ := l01Next_ok (h := h) hl ht (n := kk) (by omega)
    rw [if_pos (by omega), e1, Option.bind_some]
    unfold spec_l01Letter.f
    rw [Option.bind_some, if_pos (by rw [sn_len]; simp; omega), w64 (x := (i : Int) + 1) (by omega) (by omega), show (i : Int) + 1 = ((i + 1 : Nat) : Int) by omega]
    exact l01DrawOf_l0 hl hn hk d k (i + 1) _ t1 h1 (by omega) (by rw [ByteArray.size_append, sn_len, hu]; rfl) (by omega) ht1
theorem l01DrawOf_ok {l : List Int} {t h n kk : Int} {k : Nat} (hl : OkC l) (ht : 0 ≤ t ∧ t ≤ (l.length : Int)) (hn : 0 ≤ n ∧ n ≤ 100) (hk : 1 ≤ kk ∧ kk ≤ 100) (hf : 200 ≤ k) : Gives (spec_l01DrawOf.f k l t h n kk) l fun u => (u.size : Int) = n := by
  unfold spec_l01DrawOf.f
  exact l01DrawOf_l0 hl hn.2 hk n.toNat k 0 _ t h (by omega) rfl (by omega) ht
theorem l01Small_ok {l : List Int} {t h : Int} {k : Nat} (hl : OkC l) (ht : 0 ≤ t ∧ t ≤ (l.length : Int)) (hf : 200 ≤ k) : Gives (spec_l01Small.f k l t h) l fun u => u.size ≤ 10 := by
  unfold spec_l01Small.f
  obtain ⟨r, t1, h1, e1, ht1, r0, r1⟩ := l01Next_ok (h := h) hl ht (n := 11) (by omega)
  obtain ⟨x, t2, h2, e2, ht2, x0⟩ := l01Pick_ok (h := h1) [1, 2, 2, 2, 3, 5] (P := fun r => 1 ≤ r ∧ r ≤ 100) hl ht1 (by decide) (by decide)
  obtain ⟨u, t3, h3, e3, ht3, u0⟩ := l01DrawOf_ok (h := h2) (k := k) hl ht2 (n := r) (kk := x) (by omega) x0 hf
  rw [e1, Option.bind_some, e2, Option.bind_some, e3, Option.bind_some]
  exact ⟨_, _, _, rfl, ht3, show u.size ≤ 10 by omega⟩
theorem named_all : ∀ j : Fin 4, ∀ m : Fin 61, ((spec_l01Named.f 600 (rdOf ByteArray.empty [(⟨#[102, 105, 98, 111, 110, 97, 99, 99, 105]⟩ : ByteArray), (⟨#[116, 104, 117, 101]⟩ : ByteArray), (⟨#[100, 111, 117, 98, 108, 105, 110, 103]⟩ : ByteArray), (⟨#[116, 114, 105, 112, 108, 101]⟩ : ByteArray)] (j.val : Int)) (m.val : Int)).elim false fun r => decide (r.1.size ≤ 60)) = true := by
  decide +kernel
theorem l01Named_ok {j m : Int} {k : Nat} (hj : 0 ≤ j ∧ j < 4) (hm : 0 ≤ m ∧ m ≤ 60) (hf : 600 ≤ k) : ∃ w b, spec_l01Named.f k (rdOf ByteArray.empty [(⟨#[102, 105, 98, 111, 110, 97, 99, 99, 105]⟩ : ByteArray), (⟨#[116, 104, 117, 101]⟩ : ByteArray), (⟨#[100, 111, 117, 98, 108, 105, 110, 103]⟩ : ByteArray), (⟨#[116, 114, 105, 112, 108, 101]⟩ : ByteArray)] j) m = some (w, b) ∧ w.size ≤ 60 := by
  obtain ⟨j, rfl⟩ := Int.eq_ofNat_of_zero_le hj.1
  obtain ⟨m, rfl⟩ := Int.eq_ofNat_of_zero_le hm.1
  have h := named_all ⟨j, by omega⟩ ⟨m, by omega⟩
  simp only at h
  revert h
  cases e : spec_l01Named.f 600 (rdOf ByteArray.empty [(⟨#[102, 105, 98, 111, 110, 97, 99, 99, 105]⟩ : ByteArray), (⟨#[116, 104, 117, 101]⟩ : ByteArray), (⟨#[100, 111, 117, 98, 108, 105, 110, 103]⟩ : ByteArray), (⟨#[116, 114, 105, 112, 108, 101]⟩ : ByteArray)] (j : Int)) (m : Int) with
  | none => intro h; cases h
  | some r =>
    intro h
    have h2 := leO_far (fun k => spec_l01Named.mono _ _ k) e (k - 600)
    rw [show 600 + (k - 600) = k by omega] at h2
    exact ⟨r.1, r.2, h2, of_decide_eq_true h⟩
theorem l01Draw_l0 {l : List Int} (hl : OkC l) (u : ByteArray) (hu : 1 ≤ u.size ∧ u.size ≤ 6) : ∀ (d k : Nat) (w : ByteArray) (t h : Int), d ≤ 4 → d < k → w.size + d * 6 ≤ 24 → 0 ≤ t ∧ t ≤ (l.length : Int) → Gives (spec_l01Draw.l0 k u w (d : Int) l t h) l fun w => w.size ≤ 60
  | 0, k, w, t, h, hd, hk, hw, ht => by
    obtain ⟨k, rfl⟩ := rounds_pos (show 0 < k by omega)
    simp only [spec_l01Draw.l0]
    obtain ⟨r, t1, h1, e1, ht1, r0, r1⟩ := l01Next_ok (h := h) hl ht (n := (u.size : Int)) (by omega)
    have hz : (u.extract 0 r.toNat).size ≤ 6 := by rw [ByteArray.size_extract]; omega
    rw [if_neg (by omega), e1, Option.bind_some]
    dsimp only
    rw [if_pos (by omega), if_pos (by omega), if_pos (by omega)]
    exact ⟨_, _, _, rfl, ht1, by dsimp only; rw [ByteArray.size_append]; omega⟩
  | d + 1, k, w, t, h, hd, hk, hw, ht => by
    obtain ⟨k, rfl⟩ := rounds_pos (show 0 < k by omega)
    simp only [spec_l01Draw.l0]
    rw [if_pos (by omega), if_pos (by omega), w64 (by omega) (by omega), show ((d + 1 : Nat) : Int) - 1 = (d : Int) by omega]
    exact l01Draw_l0 hl u hu d k _ t h (by omega) (by omega) (by rw [ByteArray.size_append]; omega) ht
theorem revW_size (w : ByteArray) : (revW w).size = w.size := by unfold revW; rw [sn_len, List.length_reverse, bo_len]
theorem l01Draw_ok {l : List Int} {t h : Int} {k : Nat} (hl : OkC l) (ht : 0 ≤ t ∧ t ≤ (l.length : Int)) (hf : 1000 ≤ k) : Gives (spec_l01Draw.f k l t h) l fun u => u.size ≤ 60 := by
  unfold spec_l01Draw.f
  obtain ⟨r, t1, h1, e1, ht1, r0, r1⟩ := l01Next_ok (h := h) hl ht (n := 6) (by omega)
  rw [e1, Option.bind_some]
  by_cases c0 : r = 0
  · rw [if_pos c0]
    unfold spec_l01Names.f
    obtain ⟨j, t2, h2, e2, ht2, j0, j1⟩ := l01Next_ok (h := h1) hl ht1 (n := 4) (by omega)
    obtain ⟨x, t3, h3, e3, ht3, x0⟩ := l01Pick_ok (h := h2) [12, 30, 61] (P := fun r => 1 ≤ r ∧ r ≤ 61) hl ht2 (by decide) (by decide)
    obtain ⟨m, t4, h4, e4, ht4, m0, m1⟩ := l01Next_ok (h := h3) hl ht3 (n := x) (by omega)
    obtain ⟨w, b, e5, hw⟩ := l01Named_ok (j := j) (m := m) (k := k) ⟨j0, j1⟩ (by omega) (by omega)
    rw [Option.bind_some, e2, Option.bind_some, if_pos j0, if_pos (by simpa using j1), e3, Option.bind_some, e4, Option.bind_some, e5, Option.bind_some]
    exact ⟨_, _, _, rfl, ht4, hw⟩
  rw [if_neg c0]
  by_cases c1 : r = 1
  · rw [if_pos c1]
    obtain ⟨j, t2, h2, e2, ht2, j0, j1⟩ := l01Next_ok (h := h1) hl ht1 (n := 6) (by omega)
    obtain ⟨x, t3, h3, e3, ht3, x0⟩ := l01Pick_ok (h := h2) [2, 2, 3] (P := fun r => 1 ≤ r ∧ r ≤ 61) hl ht2 (by decide) (by decide)
    obtain ⟨u, t4, h4, e4, ht4, u0⟩ := l01DrawOf_ok (h := h3) (k := k) hl ht3 (n := 1 + j) (kk := x) (by omega) (by omega) (by omega)
    obtain ⟨m, t5, h5, e5, ht5, m0, m1⟩ := l01Next_ok (h := h4) hl ht4 (n := 4) (by omega)
    rw [e2, Option.bind_some, e3, Option.bind_some, w64 (by omega) (by omega), e4, Option.bind_some, e5, Option.bind_some, w64 (by omega) (by omega)]
    have := l01Draw_l0 hl u (by omega) (1 + m).toNat k ⟨#[]⟩ t5 h5 (by omega) (by omega) (by show 0 + _ ≤ _; omega) ht5
    rw [show (((1 + m).toNat : Nat) : Int) = 1 + m by omega] at this
    exact this
  rw [if_neg c1]
  by_cases c2 : r = 2
  · rw [if_pos c2]
    obtain ⟨j, t2, h2, e2, ht2, j0, j1⟩ := l01Next_ok (h := h1) hl ht1 (n := 12) (by omega)
    obtain ⟨x, t3, h3, e3, ht3, x0⟩ := l01Pick_ok (h := h2) [2, 2, 3] (P := fun r => 1 ≤ r ∧ r ≤ 61) hl ht2 (by decide) (by decide)
    obtain ⟨u, t4, h4, e4, ht4, u0⟩ := l01DrawOf_ok (h := h3) (k := k) hl ht3 (n := j) (kk := x) (by omega) (by omega) (by omega)
    obtain ⟨m, t5, h5, e5, ht5, m0, m1⟩ := l01Next_ok (h := h4) hl ht4 (n := 2) (by omega)
    obtain ⟨v, t6, h6, e6, ht6, v0⟩ := l01DrawOf_ok (h := h5) (k := k) hl ht5 (n := m) (kk := 2) (by omega) (by omega) (by omega)
    rw [e2, Option.bind_some, e3, Option.bind_some, e4, Option.bind_some, e5, Option.bind_some, e6, Option.bind_some]
    dsimp only
    rw [if_pos (by omega), spec_l01Reversed_eq (by omega) (by omega), Option.bind_some, if_pos (by rw [ByteArray.size_append, revW_size]; omega)]
    exact ⟨_, _, _, rfl, ht6, by dsimp only; rw [ByteArray.size_append, ByteArray.size_append, revW_size]; omega⟩
  rw [if_neg c2]
  by_cases c3 : r = 3
  · rw [if_pos c3]
    obtain ⟨x, t3, h3, e3, ht3, x0⟩ := l01Pick_ok (h := h1) [20, 40, 61] (P := fun r => 1 ≤ r ∧ r ≤ 61) hl ht1 (by decide) (by decide)
    obtain ⟨m, t4, h4, e4, ht4, m0, m1⟩ := l01Next_ok (h := h3) hl ht3 (n := x) (by omega)
    obtain ⟨y, t5, h5, e5, ht5, y0⟩ := l01Pick_ok (h := h4) [1, 2, 2, 3, 3, 4, 5] (P := fun r => 1 ≤ r ∧ r ≤ 61) hl ht4 (by decide) (by decide)
    obtain ⟨v, t6, h6, e6, ht6, v0⟩ := l01DrawOf_ok (h := h5) (k := k) hl ht5 (n := m) (kk := y) (by omega) (by omega) (by omega)
    rw [e3, Option.bind_some, e4, Option.bind_some, e5, Option.bind_some, e6, Option.bind_some]
    exact ⟨_, _, _, rfl, ht6, show v.size ≤ 60 by omega⟩
  rw [if_neg c3]
  obtain ⟨u, t2, h2, e2, ht2, u0⟩ := l01Small_ok (h := h1) (k := k) hl ht1 (by omega)
  rw [e2, Option.bind_some]
  exact ⟨_, _, _, rfl, ht2, show u.size ≤ 60 by omega⟩
theorem l01Damage_ok {l : List Int} {t h : Int} {w : ByteArray} (hl : OkC l) (ht : 0 ≤ t ∧ t ≤ (l.length : Int)) (hw : w.size ≤ 60) : Gives (spec_l01Damage.f l t h w) l fun u => u.size ≤ 61 := by
  unfold spec_l01Damage.f
  rw [Option.bind_some]
  obtain ⟨L, hL⟩ : ∃ L, L = ([(⟨#[97]⟩ : ByteArray), (⟨#[98]⟩ : ByteArray), (⟨#[99]⟩ : ByteArray), (⟨#[101]⟩ : ByteArray), (⟨#[102]⟩ : ByteArray), (⟨#[65]⟩ : ByteArray), (⟨#[32]⟩ : ByteArray), (⟨#[44]⟩ : ByteArray), (⟨#[48]⟩ : ByteArray), (⟨#[10]⟩ : ByteArray)] : List ByteArray) := ⟨_, rfl⟩
  have hLl : L.length = 10 := by rw [hL]; rfl
  have hLs : ∀ x ∈ L, x.size = 1 := by rw [hL]; decide
  rw [← hL]
  obtain ⟨r, t1, h1, e1, ht1, r0, r1⟩ := l01Next_ok (h := h) hl ht (n := (L.length : Int)) (by omega)
  rw [e1, Option.bind_some, if_pos r0, if_pos r1]
  obtain ⟨c, hc⟩ : ∃ c, c = rdOf ByteArray.empty L r := ⟨_, rfl⟩
  have hcs : c.size = 1 := by
    refine hLs c ?_
    rw [hc]; unfold rdOf
    have : r.toNat < L.length := by omega
    simp [List.getD_eq_getElem?_getD, this]
  rw [← hc]
  by_cases cz : (w.size : Int) = 0
  · rw [if_pos cz]; exact ⟨_, _, _, rfl, ht1, show c.size ≤ 61 by omega⟩
  rw [if_neg cz]
  obtain ⟨x, t2, h2, e2, ht2, x0, x1⟩ := l01Next_ok (h := h1) hl ht1 (n := (w.size : Int)) (by omega)
  obtain ⟨y, t3, h3, e3, ht3, y0, y1⟩ := l01Next_ok (h := h2) hl ht2 (n := 3) (by omega)
  rw [e2, Option.bind_some, e3, Option.bind_some]
  dsimp only
  rw [w64 (by omega) (by omega)]
  have z1 : (w.extract 0 x.toNat).size ≤ x.toNat := by rw [ByteArray.size_extract]; omega
  have z2 : (w.extract (x + 1).toNat w.size).size + (x.toNat + 1) = w.size := by rw [ByteArray.size_extract]; omega
  have z3 : (w.extract x.toNat w.size).size + x.toNat = w.size := by rw [ByteArray.size_extract]; omega
  have q0 : 0 ≤ x := x0
  have q1 : x ≤ (w.size : Int) := by omega
  have q2 : 0 ≤ x + 1 := by omega
  have q3 : x + 1 ≤ (w.size : Int) := by omega
  by_cases c0 : y = 0
  · rw [if_pos c0, if_pos q0, if_pos q1, if_pos (by omega), if_pos q2, if_pos q3, if_pos (by rw [ByteArray.size_append]; omega)]
    exact ⟨_, _, _, rfl, ht3, by dsimp only; rw [ByteArray.size_append, ByteArray.size_append]; omega⟩
  rw [if_neg c0]
  by_cases c1 : y = 1
  · rw [if_pos c1, if_pos q0, if_pos q1, if_pos q2, if_pos q3, if_pos (by omega)]
    exact ⟨_, _, _, rfl, ht3, by dsimp only; rw [ByteArray.size_append]; omega⟩
  rw [if_neg c1, if_pos q0, if_pos q1, if_pos (by omega), if_pos (by rw [ByteArray.size_append]; omega)]
  exact ⟨_, _, _, rfl, ht3, by dsimp only; rw [ByteArray.size_append, ByteArray.size_append]; omega⟩
theorem l01Bad_l0 {l : List Int} {t h : Int} (ht : 0 ≤ t ∧ t ≤ (l.length : Int)) : ∀ (d k : Nat) (w : ByteArray), w.size ≤ 62 → 62 - w.size ≤ d → d < k → Gives (spec_l01Bad.l0 k w l t h) l fun u => u.size ≤ 62
  | 0, k, w, hw, hd, hk => by
    obtain ⟨k, rfl⟩ := rounds_pos (show 0 < k by omega)
    simp only [spec_l01Bad.l0]
    rw [if_neg (by omega)]
    exact ⟨_, _, _, rfl, ht, hw⟩
  | d + 1, k, w, hw, hd, hk => by
    obtain ⟨k, rfl⟩ := rounds_pos (show 0 < k by omega)
    simp only [spec_l01Bad.l0]
    by_cases c : (w.size : Int) ≤ 60
    · rw [if_pos c, if_pos (by omega)]
      have hz : (w ++ (⟨#[97, 98]⟩ : ByteArray)).size = w.size + 2 := by rw [ByteArray.size_append]; rfl
      exact l01Bad_l0 ht d k _ (by omega) (by omega) (by omega)
    · rw [if_neg c]
      exact ⟨_, _, _, rfl, ht, hw⟩
theorem l01Bad_ok {l : List Int} {t h : Int} {k : Nat} {w : ByteArray} (hl : OkC l) (ht : 0 ≤ t ∧ t ≤ (l.length : Int)) (hw : w.size ≤ 60) (hf : 1000 ≤ k) : Gives (spec_l01Bad.f k l t h w) l fun u => u.size ≤ 62 := by
  unfold spec_l01Bad.f
  obtain ⟨r, t1, h1, e1, ht1, r0, r1⟩ := l01Next_ok (h := h) hl ht (n := 50) (by omega)
  rw [e1, Option.bind_some]
  by_cases c0 : r = 0
  · rw [if_pos c0, if_pos (by omega)]
    exact ⟨_, _, _, rfl, ht1, by dsimp only; rw [ByteArray.size_append]; show _ + 1 ≤ 62; omega⟩
  rw [if_neg c0]
  by_cases c1 : r = 1
  · rw [if_pos c1]
    obtain ⟨u, t2, h2, e2, ht2, u0⟩ := l01Damage_ok (h := h1) hl ht1 hw
    rw [e2, Option.bind_some]
    exact ⟨_, _, _, rfl, ht2, show u.size ≤ 62 by omega⟩
  rw [if_neg c1]
  by_cases c2 : r = 2
  · rw [if_pos c2]
    exact l01Bad_l0 ht1 62 k w (by omega) (by omega) (by omega)
  rw [if_neg c2]
  exact ⟨_, _, _, rfl, ht1, show w.size ≤ 62 by omega⟩
theorem l01Spoil_ok {l : List Int} {t h : Int} {k : Nat} (hl : OkC l) (ht : 0 ≤ t ∧ t ≤ (l.length : Int)) (hf : 1000 ≤ k) : Gives (spec_l01Spoil.f k l t h) l fun u => u.size ≤ 62 := by
  unfold spec_l01Spoil.f
  obtain ⟨u, t2, h2, e2, ht2, u0⟩ := l01Draw_ok (h := h) (k := k) hl ht hf
  obtain ⟨v, t3, h3, e3, ht3, v0⟩ := l01Bad_ok (h := h2) (k := k) hl ht2 u0 hf
  rw [e2, Option.bind_some, e3, Option.bind_some]
  exact ⟨_, _, _, rfl, ht3, v0⟩
theorem l01From_l0 {l : List Int} (hl : l.length ≤ 4096) : ∀ (d k i : Nat) (h : Int), i + d = l.length → d < k → ∃ h', spec_l01From.l0 k l i l 0 h = some (l, 0, h')
  | 0, k, i, h, hi, hk => by
    obtain ⟨k, rfl⟩ := rounds_pos (show 0 < k by omega)
    simp only [spec_l01From.l0]
    rw [if_neg (by omega)]
    exact ⟨_, rfl⟩
  | d + 1, k, i, h, hi, hk => by
    obtain ⟨k, rfl⟩ := rounds_pos (show 0 < k by omega)
    simp only [spec_l01From.l0]
    rw [if_pos (by omega), if_pos (by omega), if_pos (by omega), w64 (x := (i : Int) + 1) (by omega) (by omega), show (i : Int) + 1 = ((i + 1 : Nat) : Int) by omega]
    exact l01From_l0 hl d k (i + 1) _ (by omega) (by omega)
theorem l01From_ok {l : List Int} {k : Nat} (hl : OkC l) (hf : 5000 ≤ k) : ∃ h, spec_l01From.f k l = some (l, 0, h) := by
  have := hl.1
  unfold spec_l01From.f
  exact l01From_l0 hl.1 l.length k 0 _ (by omega) (by omega)
theorem okC_of {l : List Int} (h : l.length ≤ 4096) (hw : ∀ x ∈ l, (Lit.int .u8 x).wf = true) : OkC l := by
  refine ⟨h, fun j hj => ?_⟩
  have := hw (rd l j) (rd_mem (by omega) (by omega))
  have t : IntKind.u8.min ≤ rd l j ∧ rd l j ≤ IntKind.u8.max := by simpa [Lit.wf] using this
  exact t
theorem zero_ok {l : List Int} : 0 ≤ (0 : Int) ∧ (0 : Int) ≤ (l.length : Int) := by omega

theorem spec_l01Is_eq {k : Nat} {w : ByteArray} (hw : w.size ≤ 140737488351232) (hk : w.size + 1 < k) : spec_l01Is.f k w = some (isW w) := by
  have h := find_gen (fun k i => spec_l01Is.l0 k w i) w.size (fun i => !okB (bt w i)) (fun _ => false) (decide ((w.size : Int) ≤ 60)) 0
    (fun k i _ hi => by
      simp only [spec_l01Is.l0]
      rw [if_pos (by omega), if_pos (by omega)]
      by_cases h1 : bt w i < 97
      · rw [if_pos h1]
        have : okB (bt w i) = false := by unfold okB; simp; omega
        simp [this]
      · rw [if_neg h1]
        by_cases h2 : bt w i > 101
        · rw [if_pos h2]
          have : okB (bt w i) = false := by unfold okB; simp; omega
          simp [this]
        · rw [if_neg h2, w64 (by omega) (by omega)]
          have : okB (bt w i) = true := by unfold okB; simp; omega
          simp [this])
    (fun k _ => by simp only [spec_l01Is.l0]; rw [if_neg (by omega)])
    w.size k 0 (by omega) (by omega)
  unfold spec_l01Is.f
  rw [show (0 : Int) = ((0 : Nat) : Int) from rfl, h]
  congr 1
  unfold isW
  cases hf : findE (fun i => !okB (bt w i)) 0 w.size with
  | some j =>
    obtain ⟨_, h1, h2, _⟩ := findE_some hf
    have : (bytesOf w).all okB = false := by
      rw [Bool.eq_false_iff]
      intro h3
      rw [List.all_eq_true] at h3
      have hj : j < (bytesOf w).length := by rw [bo_len]; omega
      have := h3 _ (List.getElem_mem hj)
      rw [bt_nat, getD_eq _ _ hj, this] at h2
      cases h2
    simp [this]
  | none =>
    have : (bytesOf w).all okB = true := by
      rw [List.all_eq_true]
      intro x hx
      obtain ⟨j, hj, rfl⟩ := List.mem_iff_getElem.mp hx
      have := findE_none.mp hf j (Nat.zero_le _) (by rw [bo_len] at hj; omega)
      rw [bt_nat, getD_eq _ _ hj] at this
      simpa using this
    simp only [this, Bool.and_true, decide_eq_decide]
    omega
theorem spec_not_word {w : ByteArray} (h : w.size > 60) : isW w = false := by unfold isW; simp; omega

theorem wordCode_1 (a : ByteArray) : impl_wordCode.f () [a] = some (if isW a then 0 else 1) := by unfold impl_wordCode.f; simp
theorem wordCode_2 (a b : ByteArray) : impl_wordCode.f () [a, b] = some (if isW a && isW b then 0 else 1) := by unfold impl_wordCode.f; simp

def locB (w : ByteArray) (i p : Nat) : Bool := (findE (fun j => decide (j + p < w.size) && !(bt w j == bt w ((j + p : Nat) : Int))) (i - p) (i - (i - p))).isNone
def locP (w : ByteArray) (i : Nat) : Nat := (findE (locB w i) 1 (w.size - 1)).getD w.size
theorem locB_end {w : ByteArray} {i p : Nat} (h : w.size ≤ p) : locB w i p = true := by
  unfold locB
  rw [Option.isNone_iff_eq_none, findE_none]
  intro m _ _
  rw [decide_eq_false (by omega)]; rfl
theorem mx_sub {i p : Nat} (hi : i ≤ 1000) (hp : p ≤ 1000) : mx (wrap64 ((i : Int) - p)) 0 = ((i - p : Nat) : Int) := by
  rw [w64 (by omega) (by omega)]
  unfold mx
  split <;> omega
theorem spec_l02Local_l1 {w : ByteArray} (hw : w.size ≤ 60) {i p : Nat} (hi : i ≤ w.size) (hp : p ≤ w.size) : ∀ c j, j + c = i →
    ∃ c', c' ≤ c + 2 ∧ ∀ k, spec_l02Local.l1 (k + c') w i p true j = if (findE (fun j => decide (j + p < w.size) && !(bt w j == bt w ((j + p : Nat) : Int))) j c).isNone then some (p : Int) else spec_l02Local.l0 k w i ((p + 1 : Nat) : Int)
  | 0, j, hj => ⟨1, by omega, fun k => by
      simp only [spec_l02Local.l1]
      rw [if_neg (by omega), if_pos trivial]; rfl⟩
  | c + 1, j, hj => by
    by_cases hn : j + p < w.size
    · have hs : ∀ k, spec_l02Local.l1 (k + 1) w i p true j = spec_l02Local.l1 k w i p (bt w j == bt w ((j + p : Nat) : Int)) ((j + 1 : Nat) : Int) := fun k => by
        simp only [spec_l02Local.l1]
        rw [if_pos (by omega), w64 (x := (j : Int) + p) (by omega) (by omega), if_pos (by omega), if_pos trivial, if_pos (by omega), if_pos (by omega), if_pos (by omega), w64 (by omega) (by omega)]
        rfl
      cases hg : (bt w j == bt w ((j + p : Nat) : Int)) with
      | true =>
        obtain ⟨c', h1, h2⟩ := spec_l02Local_l1 hw hi hp c (j + 1) (by omega)
        refine ⟨c' + 1, by omega, fun k => ?_⟩
        rw [show k + (c' + 1) = (k + c') + 1 by omega, hs, hg, h2]
        simp only [findE, hg, Bool.not_true, Bool.and_false, Bool.false_eq_true, if_false]
      | false =>
        refine ⟨2, by omega, fun k => ?_⟩
        rw [hs, hg]
        simp only [spec_l02Local.l1, Bool.false_eq_true, if_false, ite_self]
        simp only [findE, hg, decide_eq_true hn, Bool.not_false, Bool.and_true, if_true, Option.isNone_some, Bool.false_eq_true, if_false]
        rw [w64 (by omega) (by omega)]; rfl
    · refine ⟨1, by omega, fun k => ?_⟩
      simp only [spec_l02Local.l1]
      rw [if_pos (by omega), w64 (x := (j : Int) + p) (by omega) (by omega), if_neg (by omega), if_pos trivial]
      rw [if_pos]
      rw [Option.isNone_iff_eq_none, findE_none]
      intro m h1 h2
      rw [decide_eq_false (by omega)]; rfl
theorem spec_l02Local_eq {k : Nat} {w : ByteArray} {i : Nat} (hw : w.size ≤ 60) (h0 : 0 < w.size) (hi : i ≤ w.size) (hk : 10000 ≤ k) : spec_l02Local.f k w i = some (locP w i : Int) := by
  have h := until_cost (fun k p => spec_l02Local.l0 k w i p) w.size (locB w i) (fun p => (p : Int)) 0 70
    (fun p hp => by
      obtain ⟨c', h2, h3⟩ := spec_l02Local_l1 hw hi hp (i - (i - p)) (i - p) (by omega)
      refine ⟨c', by omega, fun k _ => ?_⟩
      rw [show k + c' + 1 = (k + c') + 1 by omega]
      simp only [spec_l02Local.l0]
      rw [mx_sub (by omega) (by omega), h3 k]; rfl)
    (locB_end (Nat.le_refl _))
    (w.size - 1) k 1 (by omega) (by
      have : (w.size - 1 + 1) * (70 + 1) ≤ 60 * 71 := Nat.mul_le_mul (by omega) (by omega)
      omega)
  unfold spec_l02Local.f
  rw [show (1 : Int) = ((1 : Nat) : Int) from rfl, h]
  rfl
theorem impl_local_false {w : ByteArray} (hw : w.size ≤ 60) {i p : Nat} (hi : i ≤ w.size) (hp : p ≤ w.size) : ∀ c j, j + c = i →
    ∃ c', c' ≤ c + 1 ∧ ∀ k, impl_localPeriod.l1 (k + c') w i p false j = impl_localPeriod.l0 k w i ((p + 1 : Nat) : Int)
  | 0, j, hj => ⟨1, by omega, fun k => by
      simp only [impl_localPeriod.l1]
      rw [if_neg (by omega), if_neg (by simp), w64 (by omega) (by omega)]; rfl⟩
  | c + 1, j, hj => by
    by_cases hn : j + p < w.size
    · obtain ⟨c', h1, h2⟩ := impl_local_false hw hi hp c (j + 1) (by omega)
      refine ⟨c' + 1, by omega, fun k => ?_⟩
      rw [show k + (c' + 1) = (k + c') + 1 by omega]
      simp only [impl_localPeriod.l1]
      rw [if_pos (by omega), w64 (x := (j : Int) + p) (by omega) (by omega), if_pos (by omega), if_neg (by simp), w64 (by omega) (by omega)]
      exact h2 k
    · refine ⟨1, by omega, fun k => ?_⟩
      simp only [impl_localPeriod.l1]
      rw [if_pos (by omega), w64 (x := (j : Int) + p) (by omega) (by omega), if_neg (by omega), if_neg (by simp), w64 (by omega) (by omega)]; rfl
theorem impl_local_l1 {w : ByteArray} (hw : w.size ≤ 60) {i p : Nat} (hi : i ≤ w.size) (hp : p ≤ w.size) : ∀ c j, j + c = i →
    ∃ c', c' ≤ c + 2 ∧ ∀ k, impl_localPeriod.l1 (k + c') w i p true j = if (findE (fun j => decide (j + p < w.size) && !(bt w j == bt w ((j + p : Nat) : Int))) j c).isNone then some (p : Int) else impl_localPeriod.l0 k w i ((p + 1 : Nat) : Int)
  | 0, j, hj => ⟨1, by omega, fun k => by
      simp only [impl_localPeriod.l1]
      rw [if_neg (by omega), if_pos trivial]; rfl⟩
  | c + 1, j, hj => by
    by_cases hn : j + p < w.size
    · have hs : ∀ k, impl_localPeriod.l1 (k + 1) w i p true j = impl_localPeriod.l1 k w i p (bt w j == bt w ((j + p : Nat) : Int)) ((j + 1 : Nat) : Int) := fun k => by
        simp only [impl_localPeriod.l1]
        rw [if_pos (by omega), w64 (x := (j : Int) + p) (by omega) (by omega), if_pos (by omega), if_pos trivial, if_pos (by omega), if_pos (by omega), if_pos (by omega), w64 (by omega) (by omega)]
        rfl
      cases hg : (bt w j == bt w ((j + p : Nat) : Int)) with
      | true =>
        obtain ⟨c', h1, h2⟩ := impl_local_l1 hw hi hp c (j + 1) (by omega)
        refine ⟨c' + 1, by omega, fun k => ?_⟩
        rw [show k + (c' + 1) = (k + c') + 1 by omega, hs, hg, h2]
        simp only [findE, hg, Bool.not_true, Bool.and_false, Bool.false_eq_true, if_false]
      | false =>
        obtain ⟨c', h1, h2⟩ := impl_local_false hw hi hp c (j + 1) (by omega)
        refine ⟨c' + 1, by omega, fun k => ?_⟩
        rw [show k + (c' + 1) = (k + c') + 1 by omega, hs, hg, h2]
        simp only [findE, hg, decide_eq_true hn, Bool.not_false, Bool.and_true, if_true, Option.isNone_some, Bool.false_eq_true, if_false]
    · refine ⟨1, by omega, fun k => ?_⟩
      simp only [impl_localPeriod.l1]
      rw [if_pos (by omega), w64 (x := (j : Int) + p) (by omega) (by omega), if_neg (by omega), if_pos trivial]
      rw [if_pos]
      rw [Option.isNone_iff_eq_none, findE_none]
      intro m h1 h2
      rw [decide_eq_false (by omega)]; rfl
theorem impl_localPeriod_eq {k : Nat} {w : ByteArray} {i : Nat} (hw : w.size ≤ 60) (h0 : 0 < w.size) (hi : i ≤ w.size) (hk : 10000 ≤ k) : impl_localPeriod.f k w i = some (locP w i : Int) := by
  have h := until_cost (fun k p => impl_localPeriod.l0 k w i p) w.size (locB w i) (fun p => (p : Int)) 0 70
    (fun p hp => by
      obtain ⟨c', h2, h3⟩ := impl_local_l1 hw hi hp (i - (i - p)) (i - p) (by omega)
      refine ⟨c', by omega, fun k _ => ?_⟩
      rw [show k + c' + 1 = (k + c') + 1 by omega]
      simp only [impl_localPeriod.l0]
      rw [mx_sub (by omega) (by omega), h3 k]; rfl)
    (locB_end (Nat.le_refl _))
    (w.size - 1) k 1 (by omega) (by
      have : (w.size - 1 + 1) * (70 + 1) ≤ 60 * 71 := Nat.mul_le_mul (by omega) (by omega)
      omega)
  unfold impl_localPeriod.f
  rw [show (1 : Int) = ((1 : Nat) : Int) from rfl, h]
  rfl

theorem spec_l02Periods_eq {k : Nat} {w : ByteArray} (hw : w.size ≤ 1048576) (hk : w.size + 1 < k) : spec_l02Periods.f k w = some (perL w) := by
  have h := gather_gen (fun k acc i => spec_l02Periods.l0 k w acc i) (w.size + 1) (hasP w) (fun p => (p : Int)) (fun l => l) 0
    (fun k i acc _ hi ha => by
      simp only [spec_l02Periods.l0]
      rw [if_pos (by omega), if_pos (by omega), w64 (x := (w.size : Int) - i) (by omega) (by omega), if_pos (by omega), if_pos (by omega), w64 (x := (i : Int) + 1) (by omega) (by omega)]
      rw [show ((w.size : Int) - i).toNat = w.size - i by omega, Int.toNat_natCast]
      by_cases h1 : w.extract i w.size = w.extract 0 (w.size - i)
      · have : hasP w i = true := by unfold hasP; simpa using h1
        rw [if_pos (toList_iff.mpr h1), if_pos (by omega), this]; rfl
      · have : hasP w i = false := by unfold hasP; simpa using h1
        rw [if_neg (fun e => h1 (toList_iff.mp e)), this]; rfl)
    (fun k acc _ => by simp only [spec_l02Periods.l0]; rw [if_neg (by omega)])
    w.size k 1 [] (by omega) (by omega) (by simp)
  unfold spec_l02Periods.f
  rw [show (1 : Int) = ((1 : Nat) : Int) from rfl, h]
  rfl

theorem impl_hasPeriod_eq {w : ByteArray} {p : Int} (h0 : 0 ≤ p) (h1 : p ≤ w.size) (hw : w.size ≤ 1048576) : impl_hasPeriod.f w p = some (hasP w p.toNat) := by
  unfold impl_hasPeriod.f
  rw [if_pos h0, if_pos h1, w64 (by omega) (by omega), if_pos (by omega), if_pos (by omega), toList_beq]
  unfold hasP
  rw [show ((w.size : Int) - p).toNat = w.size - p.toNat by omega]

theorem impl_period_eq {k : Nat} {w : ByteArray} (hw : w.size ≤ 1048576) (h0 : 0 < w.size) (hk : w.size < k) : impl_period.f k w = some (leastP w : Int) := by
  have h := until_gen (fun k i => impl_period.l0 k w i) w.size (hasP w) (fun j => (j : Int)) 0
    (fun k i _ hi => by
      simp only [impl_period.l0]
      rw [impl_hasPeriod_eq (by omega) (by omega) hw, w64 (by omega) (by omega)]
      rfl)
    (hasP_all w) (w.size - 1) k 1 (by omega) (by omega)
  unfold impl_period.f
  rw [show (1 : Int) = ((1 : Nat) : Int) from rfl, h]
  rfl

def critL (w : ByteArray) : List Int := gath (fun i => decide (locP w i = leastP w)) (fun i => (i : Int)) 1 (w.size - 1)
theorem critL_len (w : ByteArray) : (critL w).length ≤ w.size := Nat.le_trans (gath_len _ _ _ _) (Nat.sub_le _ _)
theorem crit_zero {w : ByteArray} (h : w.size = 0) : critL w = [] := by unfold critL gath; rw [h]; rfl
theorem spec_Critical_eq {k : Nat} {w : ByteArray} (hw : w.size ≤ 60) (hk : 100000 ≤ k) : spec_CriticalPlaces.l0 k w [] 1 = some (critL w, 0) := by
  by_cases hz : w.size = 0
  · obtain ⟨k, rfl⟩ := rounds_pos (show 0 < k by omega)
    simp only [spec_CriticalPlaces.l0]
    rw [if_neg (by omega), crit_zero hz]
  exact gather_from (fun k acc i => spec_CriticalPlaces.l0 k w acc i) w.size 1 (fun i => decide (locP w i = leastP w)) (fun i => (i : Int)) (fun l => (l, 0)) 20000
    (fun k i acc hk hl hi ha => by
      have hp := perL_pos (w := w) (by omega)
      simp only [spec_CriticalPlaces.l0]
      rw [if_pos (by omega), spec_l02Local_eq hw (by omega) (by omega) (by omega), spec_l02Periods_eq (by omega) (by omega), w64 (by omega) (by omega)]
      simp only [Option.bind_some]
      rw [if_pos (by omega), perL_rd (by omega)]
      by_cases h : locP w i = leastP w
      · rw [if_pos (by omega), if_pos (by omega), if_pos (by simpa using h)]; rfl
      · rw [if_neg (by omega), if_neg (by simpa using h)]; rfl)
    (fun k acc _ => by simp only [spec_CriticalPlaces.l0]; rw [if_neg (by omega)])
    (w.size - 1) k 1 [] (by omega) (by omega) (by omega) (by simp)
theorem impl_Critical_eq {k : Nat} {w : ByteArray} (hw : w.size ≤ 60) (hk : 100000 ≤ k) : impl_CriticalPlaces.l0 k w [] 1 = some (critL w, 0) := by
  by_cases hz : w.size = 0
  · obtain ⟨k, rfl⟩ := rounds_pos (show 0 < k by omega)
    simp only [impl_CriticalPlaces.l0]
    rw [if_neg (by omega), crit_zero hz]
  exact gather_from (fun k acc i => impl_CriticalPlaces.l0 k w acc i) w.size 1 (fun i => decide (locP w i = leastP w)) (fun i => (i : Int)) (fun l => (l, 0)) 20000
    (fun k i acc hk hl hi ha => by
      simp only [impl_CriticalPlaces.l0]
      rw [if_pos (by omega), impl_localPeriod_eq hw (by omega) (by omega) (by omega), impl_period_eq (by omega) (by omega) (by omega), w64 (by omega) (by omega)]
      simp only [Option.bind_some]
      by_cases h : locP w i = leastP w
      · rw [if_pos (by omega), if_pos (by omega), if_pos (by simpa using h)]; rfl
      · rw [if_neg (by omega), if_neg (by simpa using h)]; rfl)
    (fun k acc _ => by simp only [impl_CriticalPlaces.l0]; rw [if_neg (by omega)])
    (w.size - 1) k 1 [] (by omega) (by omega) (by omega) (by simp)

def critR (w : ByteArray) : List Int × Int := if isW w then (critL w, 0) else ([], 1)
theorem spec_CriticalPlaces_eq {m : Nat} {a0 : ByteArray} (h0 : a0.size ≤ 1048576) (hm : 10000000 ≤ m) : spec_CriticalPlaces.f m a0 = some (critR a0) := by
  unfold critR spec_CriticalPlaces.f
  rw [spec_l01Is_eq (by omega) (by omega)]
  cases hw : isW a0
  · simp
  · have hz := isW_size hw
    simpa using spec_Critical_eq hz (show 100000 ≤ m by omega)
theorem impl_CriticalPlaces_eq {m : Nat} {a0 : ByteArray} (h0 : a0.size ≤ 1048576) (hm : 10000000 ≤ m) : impl_CriticalPlaces.f m a0 = some (critR a0) := by
  unfold critR impl_CriticalPlaces.f
  rw [wordCode_1]
  cases hw : isW a0
  · simp
  · have hz := isW_size hw
    simpa using impl_Critical_eq hz (show 100000 ≤ m by omega)

theorem spec_l01In_eq (n lo hi : Int) : spec_l01In.f n lo hi = some (inR n lo hi) := by
  unfold spec_l01In.f inR
  by_cases h : n ≥ lo
  · rw [if_pos h, decide_eq_true (show lo ≤ n from h)]; simp
  · rw [if_neg h, decide_eq_false (show ¬ lo ≤ n from h)]; simp

def localR (a0 : ByteArray) (a1 : Int) : Int × Int := if isW a0 then (if inR a1 1 (wrap64 ((a0.size : Int) - 1)) then ((locP a0 a1.toNat : Int), 0) else (0, 2)) else (0, 1)
theorem spec_LocalPeriod_eq {m : Nat} {a0 : ByteArray} {a1 : Int} (h0 : a0.size ≤ 1048576) (hm : 10000000 ≤ m) : spec_LocalPeriod.f m a0 a1 = some (localR a0 a1) := by
  unfold localR spec_LocalPeriod.f
  rw [spec_l01Is_eq (by omega) (by omega), spec_l01In_eq]
  cases hw : isW a0
  · simp
  · have hz := isW_size hw
    cases hr : inR a1 1 (wrap64 ((a0.size : Int) - 1))
    · simp
    · obtain ⟨r1, r2⟩ := inR_true hr
      rw [w64 (by omega) (by omega)] at r2
      have := spec_l02Local_eq (k := m) (w := a0) (i := a1.toNat) hz (by omega) (by omega) (by omega)
      rw [show ((a1.toNat : Nat) : Int) = a1 by omega] at this
      simp [this]
theorem impl_LocalPeriod_eq {m : Nat} {a0 : ByteArray} {a1 : Int} (h0 : a0.size ≤ 1048576) (hm : 10000000 ≤ m) : impl_LocalPeriod.f m a0 a1 = some (localR a0 a1) := by
  unfold localR impl_LocalPeriod.f
  cases hw : isW a0
  · simp
  · have hz := isW_size hw
    cases hr : inR a1 1 (wrap64 ((a0.size : Int) - 1))
    · simp
    · obtain ⟨r1, r2⟩ := inR_true hr
      rw [w64 (by omega) (by omega)] at r2
      have := impl_localPeriod_eq (k := m) (w := a0) (i := a1.toNat) hz (by omega) (by omega) (by omega)
      rw [show ((a1.toNat : Nat) : Int) = a1 by omega] at this
      simp [this]

theorem filled_spec {k : Nat} {w : ByteArray} (h0 : w.size ≤ 140737488351232) (hk : w.size + 1 < k) (hI : spec_l01Is.f k w = some (isW w)) : spec_l02Given.f k w = some (if isW w then (if w.size = 0 then 5 else 0) else 1) := by
  unfold spec_l02Given.f
  rw [hI]
  cases isW w
  · simp
  · by_cases h : w.size = 0
    · have := (str_empty h).2.2.1; simp [h, this]
    · have := (str_nonempty h).2.2.1; simp [h, this]
theorem filled_impl (w : ByteArray) : impl_filledCode.f w = some (if isW w then (if w.size = 0 then 5 else 0) else 1) := by
  unfold impl_filledCode.f
  rw [wordCode_1]
  cases isW w
  · simp
  · by_cases h : w.size = 0
    · have := (str_empty h).2.2.1; simp [h, this]
    · have := (str_nonempty h).2.2.1; simp [h, this]

def longUnb (w : ByteArray) : ByteArray × Int := let r := longF (fun n i => decide (leastP (w.extract i (i + n)) = n)) w.size w.size; (w.extract r.2 (r.2 + r.1), 0)
theorem spec_longUnb {k : Nat} {w : ByteArray} (hw : w.size ≤ 60) (h0 : 0 < w.size) (hk : 100000 ≤ k) : spec_LongestUnbordered.l0 k w (w.size : Int) = some (longUnb w) := by
  have hm : w.size * (w.size + 3) ≤ 60 * 63 := Nat.mul_le_mul hw (by omega)
  exact long_gen (fun k n => spec_LongestUnbordered.l0 k w n) (fun k n i => spec_LongestUnbordered.l1 k w n i) w.size 1000 (fun n i => decide (leastP (w.extract i (i + n)) = n)) (fun n i => (w.extract i (i + n), 0))
    (fun k hk => by
      obtain ⟨k, rfl⟩ := rounds_pos (show 0 < k by omega)
      simp only [spec_LongestUnbordered.l0]
      rw [if_neg (by omega), if_pos (by omega), if_pos (by omega)])
    (fun k n hk h1 h2 => by
      simp only [spec_LongestUnbordered.l0]
      rw [if_pos (by omega)])
    (fun k n i hk h1 h2 => by
      simp only [spec_LongestUnbordered.l1]
      rw [w64 (x := (i : Int) + n) (by omega) (by omega), if_pos (by omega), if_pos (by omega), if_pos (by omega), w64 (by omega) (by omega)]
      rw [show ((i : Int) + n).toNat = i + n by omega, Int.toNat_natCast]
      have hz : (w.extract i (i + n)).size = n := by rw [ext_size]; omega
      have hp := perL_pos (w := w.extract i (i + n)) (by omega)
      rw [spec_l02Periods_eq (by omega) (by omega)]
      simp only [Option.bind_some]
      rw [if_pos (by omega), perL_rd (by omega)]
      by_cases h : leastP (w.extract i (i + n)) = n
      · rw [if_pos (by omega), if_pos (by simpa using h)]
      · rw [if_neg (by omega), if_neg (by simpa using h)]; rfl)
    (fun k n hk h1 h2 => by
      simp only [spec_LongestUnbordered.l1]
      rw [w64 (by omega) (by omega), if_neg (by omega), w64 (by omega) (by omega)]
      congr 1; omega)
    w.size k h0 (Nat.le_refl _) (by omega)
theorem impl_longUnb {k : Nat} {w : ByteArray} (hw : w.size ≤ 60) (h0 : 0 < w.size) (hk : 100000 ≤ k) : impl_LongestUnbordered.l0 k w (w.size : Int) = some (longUnb w) := by
  have hm : w.size * (w.size + 3) ≤ 60 * 63 := Nat.mul_le_mul hw (by omega)
  have hs : ∀ k n i : Nat, 500 ≤ k → 1 ≤ n → i + n ≤ w.size → impl_LongestUnbordered.l1 (k + 1) w (n : Int) (i : Int) = if decide (leastP (w.extract i (i + n)) = n) = true then some (w.extract i (i + n), 0) else impl_LongestUnbordered.l1 k w n ((i + 1 : Nat) : Int) := fun k n i hk h1 h2 => by
    simp only [impl_LongestUnbordered.l1]
    rw [w64 (x := (i : Int) + n) (by omega) (by omega), if_pos (by omega), if_pos (by omega), if_pos (by omega), w64 (by omega) (by omega)]
    rw [show ((i : Int) + n).toNat = i + n by omega, Int.toNat_natCast]
    have hz : (w.extract i (i + n)).size = n := by rw [ext_size]; omega
    rw [impl_period_eq (by omega) (by omega) (by omega)]
    simp only [Option.bind_some]
    by_cases h : leastP (w.extract i (i + n)) = n
    · rw [if_pos (by omega), if_pos (by simpa using h)]
    · rw [if_neg (by omega), if_neg (by simpa using h)]; rfl
  exact long_gen (fun k n => impl_LongestUnbordered.l0 k w n) (fun k n i => impl_LongestUnbordered.l1 k w n i) w.size 1000 (fun n i => decide (leastP (w.extract i (i + n)) = n)) (fun n i => (w.extract i (i + n), 0))
    (fun k hk => by
      obtain ⟨k, rfl⟩ := rounds_pos (show 0 < k by omega)
      obtain ⟨k, rfl⟩ := rounds_pos (show 0 < k by omega)
      simp only [impl_LongestUnbordered.l0]
      have := hs k 1 0 (by omega) (by omega) (by omega)
      have hz : (w.extract 0 (0 + 1)).size = 1 := by rw [ext_size]; omega
      obtain ⟨a1, a2, _⟩ := leastP_spec (w := w.extract 0 (0 + 1)) (by omega)
      rw [if_pos (by rw [decide_eq_true_iff]; omega)] at this
      exact this)
    (fun k n hk h1 h2 => by simp only [impl_LongestUnbordered.l0])
    (fun k n i hk h1 h2 => hs k n i (by omega) (by omega) h2)
    (fun k n hk h1 h2 => by
      simp only [impl_LongestUnbordered.l1]
      rw [w64 (by omega) (by omega), if_neg (by omega), w64 (by omega) (by omega)]
      congr 1; omega)
    w.size k h0 (Nat.le_refl _) (by omega)

theorem spec_LongestUnbordered_eq {k : Nat} {w : ByteArray} (h0 : w.size ≤ 1048576) (hk : 1048600 ≤ k) : spec_LongestUnbordered.f k w = some (if isW w then (if w.size = 0 then (⟨#[]⟩, 5) else longUnb w) else (⟨#[]⟩, 1)) := by
  unfold spec_LongestUnbordered.f
  rw [filled_spec (by omega) (by omega) (spec_l01Is_eq (by omega) (by omega))]
  cases hw : isW w
  · simp
  · have := isW_size hw
    by_cases h : w.size = 0
    · simp [h]
    · simp only [h, if_true, if_false, Option.bind_some, spec_longUnb this (show 0 < w.size by omega) (show 100000 ≤ k by omega)]
theorem impl_LongestUnbordered_eq {k : Nat} {w : ByteArray} (h0 : w.size ≤ 1048576) (hk : 1048600 ≤ k) : impl_LongestUnbordered.f k w = some (if isW w then (if w.size = 0 then (⟨#[]⟩, 5) else longUnb w) else (⟨#[]⟩, 1)) := by
  unfold impl_LongestUnbordered.f
  rw [filled_impl]
  cases hw : isW w
  · simp
  · have := isW_size hw
    by_cases h : w.size = 0
    · simp [h]
    · simp only [h, if_true, if_false, Option.bind_some, impl_longUnb this (show 0 < w.size by omega) (show 100000 ≤ k by omega)]

theorem impl_periods_eq {k : Nat} {w : ByteArray} (hw : w.size ≤ 1048576) (hk : w.size + 1 < k) : impl_periods.f k w = some (perL w) := by
  have h := gather_gen (fun k acc i => impl_periods.l0 k w acc i) (w.size + 1) (hasP w) (fun p => (p : Int)) (fun l => l) 0
    (fun k i acc _ hi ha => by
      simp only [impl_periods.l0]
      rw [if_pos (by omega), impl_hasPeriod_eq (by omega) (by omega) hw, w64 (by omega) (by omega)]
      rw [Int.toNat_natCast]
      cases hasP w i
      · simp
      · simp; omega)
    (fun k acc _ => by simp only [impl_periods.l0]; rw [if_neg (by omega)])
    w.size k 1 [] (by omega) (by omega) (by simp)
  unfold impl_periods.f
  rw [show (1 : Int) = ((1 : Nat) : Int) from rfl, h]
  rfl

theorem impl_PeriodsOf_eq {k : Nat} {w : ByteArray} (h0 : w.size ≤ 1048576) (hk : w.size + 1 < k) : impl_PeriodsOf.f k w = some (if isW w then (perL w, 0) else ([], 1)) := by
  unfold impl_PeriodsOf.f
  rw [wordCode_1, impl_periods_eq h0 hk]
  cases isW w <;> simp

def bordL (w : ByteArray) : List Int := ((perL w).map fun p => (w.size : Int) - p).reverse
theorem bordL_len (w : ByteArray) : (bordL w).length ≤ w.size := by
  have := perL_len w
  unfold bordL; simpa using this
theorem perL_mem (w : ByteArray) : ∀ x ∈ perL w, 0 ≤ x ∧ x ≤ w.size := fun x hx => by
  obtain ⟨m, h1, h2, _, rfl⟩ := gath_mem.mp hx
  omega
theorem bord_cur {w : ByteArray} (hw : w.size ≤ 60) : (bordCur w.size (perL w) (perL w).length).reverse = bordL w := by
  unfold bordCur bordL
  rw [List.take_length, List.drop_length, List.append_nil]
  congr 1
  apply List.map_congr_left
  intro x hx
  have := perL_mem w x hx
  rw [w64 (by omega) (by omega)]

def bordR (w : ByteArray) : List Int × Int := if isW w then (bordL w, 0) else ([], 1)
theorem impl_BordersOf_eq {m : Nat} {a0 : ByteArray} (h0 : a0.size ≤ 1048576) (hm : 10000000 ≤ m) : impl_BordersOf.f m a0 = some (bordR a0) := by
  unfold bordR impl_BordersOf.f impl_PeriodsOf.f
  rw [wordCode_1, impl_periods_eq (by omega) (by omega)]
  cases hw : isW a0
  · simp
  · have hz := isW_size hw
    have := perL_len a0
    simp only [if_true, Option.bind_some]
    rw [if_pos (by omega), bord_cur hz]

theorem likeInts_l0 {a : List Int} (ha : a.length ≤ 1048576) : ∀ (d i k : Nat), i + d = a.length → d < k → laws_likeInts.l0 k a a i = some true
  | 0, i, k, hi, hk => by
    obtain ⟨k, rfl⟩ := rounds_pos (show 0 < k by omega)
    simp only [laws_likeInts.l0]
    rw [if_neg (by omega)]
  | d + 1, i, k, hi, hk => by
    obtain ⟨k, rfl⟩ := rounds_pos (show 0 < k by omega)
    simp only [laws_likeInts.l0]
    rw [if_pos (by omega), if_pos (by omega), if_pos (by omega), if_pos trivial, w64 (by omega) (by omega), show (i : Int) + 1 = ((i + 1 : Nat) : Int) by omega]
    exact likeInts_l0 ha d (i + 1) k (by omega) (by omega)
theorem likeInts_eq {k : Nat} {a : List Int} (ha : a.length ≤ 1048576) (hk : a.length < k) : laws_likeInts.f k a a = some true := by
  unfold laws_likeInts.f
  rw [if_pos rfl]
  exact likeInts_l0 ha a.length 0 k (by omega) (by omega)

theorem longF_hit {p : Nat → Nat → Bool} {S : Nat} (h1 : p 1 0 = true) : ∀ n, 1 ≤ n → n ≤ S → p (longF p S n).1 (longF p S n).2 = true
  | 0, h, _ => by omega
  | 1, h, h' => by simp only [longF]; exact h1
  | n + 2, h, h' => by
    simp only [longF]
    cases hf : findE (p (n + 2)) 0 (S - (n + 2) + 1) with
    | some i => exact (findE_some hf).2.2.1
    | none => exact longF_hit h1 (n + 1) (by omega) (by omega)
theorem isW_extract {w : ByteArray} {i j : Nat} (h : isW w = true) : isW (w.extract i j) = true := by
  rw [isW_iff] at h ⊢
  refine ⟨by rw [ext_size]; omega, fun x hx => h.2 x ?_⟩
  rw [bo_extract] at hx
  exact List.mem_of_mem_take (List.mem_of_mem_drop hx)
theorem hasP_extract {w : ByteArray} {i j q : Nat} (hj : j ≤ w.size) (hw : q ≤ w.size) (h : hasP w q = true) (hq : q ≤ j - i) : hasP (w.extract i j) q = true := by
  have hz : (w.extract i j).size = j - i := by rw [ext_size]; omega
  rw [hasP_iff (by omega)]
  intro t ht
  rw [ext_bt w (by omega), ext_bt w (by omega), (hasP_iff hw).mp h (i + t) (by omega), show i + t + q = i + (t + q) by omega]
theorem longUnb_facts {w : ByteArray} (h0 : 0 < w.size) : 1 ≤ (longUnb w).1.size ∧ (longUnb w).1.size ≤ w.size ∧ leastP (longUnb w).1 = (longUnb w).1.size ∧ (longUnb w).1.size ≤ leastP w ∧ (isW w = true → isW (longUnb w).1 = true) := by
  obtain ⟨l1, l2⟩ := longF_le (fun n i => decide (leastP (w.extract i (i + n)) = n)) w.size w.size h0 (Nat.le_refl _)
  have l3 := longF_hit (p := fun n i => decide (leastP (w.extract i (i + n)) = n)) (S := w.size) (by
    have hz : (w.extract 0 (0 + 1)).size = 1 := by rw [ext_size]; omega
    obtain ⟨a1, a2, _⟩ := leastP_spec (w := w.extract 0 (0 + 1)) (by omega)
    exact decide_eq_true (by omega)) w.size h0 (Nat.le_refl _)
  have e : (longUnb w).1 = w.extract (longF (fun n i => decide (leastP (w.extract i (i + n)) = n)) w.size w.size).2 ((longF (fun n i => decide (leastP (w.extract i (i + n)) = n)) w.size w.size).2 + (longF (fun n i => decide (leastP (w.extract i (i + n)) = n)) w.size w.size).1) := rfl
  rw [e]
  revert l1 l2 l3
  obtain ⟨n, hn⟩ : ∃ n, n = (longF (fun n i => decide (leastP (w.extract i (i + n)) = n)) w.size w.size).1 := ⟨_, rfl⟩
  obtain ⟨i, hi⟩ : ∃ i, i = (longF (fun n i => decide (leastP (w.extract i (i + n)) = n)) w.size w.size).2 := ⟨_, rfl⟩
  rw [← hn, ← hi]
  intro l1 l2 l3
  have l3 : leastP (w.extract i (i + n)) = n := of_decide_eq_true l3
  have hz : (w.extract i (i + n)).size = n := by rw [ext_size]; omega
  refine ⟨by omega, by omega, by omega, ?_, fun h => isW_extract h⟩
  obtain ⟨p1, p2, p3, p4⟩ := leastP_spec h0
  refine Nat.le_of_not_lt fun hlt => ?_
  obtain ⟨_, _, _, q4⟩ := leastP_spec (w := w.extract i (i + n)) (by omega)
  have := q4 (leastP w) p1 (by omega)
  rw [hasP_extract (by omega) p2 p3 (by omega)] at this
  cases this
theorem bordL_one {w : ByteArray} (h0 : 0 < w.size) (h : leastP w = w.size) : (bordL w).length = 1 := by
  unfold bordL
  rw [List.length_reverse, List.length_map]
  obtain ⟨_, _, h3, h4⟩ := leastP_spec h0
  unfold perL
  rw [show w.size = (w.size - 1) + 1 by omega, gath_add, List.length_append]
  rw [gath_none _ _ _ _ (fun m m1 m2 => h4 m m1 (by omega))]
  have e : 1 + (w.size - 1) = w.size := by omega
  rw [e, gath_succ, hasP_all]
  rfl

/-- the order of two lists, by a relation on their elements -/
def lx (R : Int → Int → Prop) : List Int → List Int → Prop
  | [], _ => True
  | _ :: _, [] => False
  | a :: x, b :: y => R a b ∨ (a = b ∧ lx R x y)
theorem lx_total {R : Int → Int → Prop} (ht : ∀ a b, R a b ∨ a = b ∨ R b a) : ∀ x y, lx R x y ∨ lx R y x
  | [], _ => Or.inl trivial
  | _ :: _, [] => Or.inr trivial
  | a :: x, b :: y => by
    rcases ht a b with h | h | h
    · exact Or.inl (Or.inl h)
    · subst h
      rcases lx_total ht x y with h | h
      · exact Or.inl (Or.inr ⟨rfl, h⟩)
      · exact Or.inr (Or.inr ⟨rfl, h⟩)
    · exact Or.inr (Or.inl h)
theorem lx_trans {R : Int → Int → Prop} (hr : ∀ a b c, R a b → R b c → R a c) : ∀ x y z, lx R x y → lx R y z → lx R x z
  | [], _, _, _, _ => trivial
  | _ :: _, [], _, h, _ => h.elim
  | _ :: _, _ :: _, [], _, h => h.elim
  | a :: x, b :: y, c :: z, h, h' => by
    rcases h with h | ⟨rfl, h⟩
    · rcases h' with h' | ⟨rfl, h'⟩
      · exact Or.inl (hr _ _ _ h h')
      · exact Or.inl h
    · rcases h' with h' | ⟨rfl, h'⟩
      · exact Or.inl h'
      · exact Or.inr ⟨rfl, lx_trans hr x y z h h'⟩
theorem lx_anti {R : Int → Int → Prop} (hi : ∀ a b, R a b → R b a → False) : ∀ x y, lx R x y → lx R y x → x = y
  | [], [], _, _ => rfl
  | [], _ :: _, _, h => h.elim
  | _ :: _, [], h, _ => h.elim
  | a :: x, b :: y, h, h' => by
    rcases h with h | ⟨rfl, h⟩
    · rcases h' with h' | ⟨rfl, h'⟩
      · exact (hi _ _ h h').elim
      · exact (hi _ _ h h).elim
    · rcases h' with h' | ⟨_, h'⟩
      · exact (hi _ _ h' h').elim
      · rw [lx_anti hi x y h h']
theorem lx_drop {R : Int → Int → Prop} (hi : ∀ a b, R a b → R b a → False) : ∀ (m : Nat) (x y : List Int), (∀ j, j < m → x[j]? = y[j]?) → m ≤ x.length → m ≤ y.length → lx R x y → lx R (x.drop m) (y.drop m)
  | 0, _, _, _, _, _, h => by simpa using h
  | m + 1, [], _, _, h, _, _ => by simp at h
  | m + 1, _ :: _, [], _, _, h, _ => by simp at h
  | m + 1, a :: x, b :: y, he, h1, h2, h => by
    have e0 := he 0 (by omega)
    simp at e0
    subst e0
    rcases h with h | ⟨_, h⟩
    · exact (hi _ _ h h).elim
    · simp only [List.drop_succ_cons]
      exact lx_drop hi m x y (fun j hj => by have := he (j + 1) (by omega); simpa using this) (by simpa using h1) (by simpa using h2) h
theorem lx_both {R : Int → Int → Prop} (hi : ∀ a b, R a b → R b a → False) : ∀ x y, lx R x y → lx (fun a b => R b a) x y → ∀ j, j < x.length → x[j]? = y[j]?
  | [], _, _, _, j, hj => by simp at hj
  | _ :: _, [], h, _, _, _ => h.elim
  | a :: x, b :: y, h, h', j, hj => by
    rcases h with h | ⟨rfl, h⟩
    · rcases h' with h' | ⟨rfl, h'⟩
      · exact (hi _ _ h h').elim
      · exact (hi _ _ h h).elim
    · rcases h' with h' | ⟨_, h'⟩
      · exact (hi _ _ h' h').elim
      · cases j with
        | zero => rfl
        | succ j => simpa using lx_both hi x y h h' j (by simpa using hj)
theorem lx_max {R : Int → Int → Prop} (ht : ∀ a b, R a b ∨ a = b ∨ R b a) (hr : ∀ a b c, R a b → R b c → R a c) (f : Nat → List Int) : ∀ n, ∃ i, i ≤ n ∧ ∀ j, j ≤ n → lx R (f j) (f i)
  | 0 => ⟨0, Nat.le_refl _, fun j hj => by
    obtain rfl : j = 0 := by omega
    rcases lx_total ht (f 0) (f 0) with h | h <;> exact h⟩
  | n + 1 => by
    obtain ⟨i, hi, h⟩ := lx_max ht hr f n
    rcases lx_total ht (f (n + 1)) (f i) with h1 | h1
    · refine ⟨i, by omega, fun j hj => ?_⟩
      by_cases e : j = n + 1
      · subst e; exact h1
      · exact h j (by omega)
    · refine ⟨n + 1, Nat.le_refl _, fun j hj => ?_⟩
      by_cases e : j = n + 1
      · subst e; rcases lx_total ht (f (n + 1)) (f (n + 1)) with h | h <;> exact h
      · exact lx_trans hr _ _ _ (h j (by omega)) h1
theorem cft_core {R : Int → Int → Prop} (hi : ∀ a b, R a b → R b a → False) (w : List Int) (i i' : Nat) (hin : i < w.length) (hle : i' ≤ i)
    (h : ∀ j, j ≤ w.length → lx R (w.drop j) (w.drop i)) (h' : ∀ j, j ≤ w.length → lx (fun a b => R b a) (w.drop j) (w.drop i'))
    (r : Nat) (hr : 0 < r) (hl : ∀ j, j < i → i ≤ j + r → j + r < w.length → w[j]? = w[j + r]?) : i < r ∧ ∀ j, j + r < w.length → w[j]? = w[j + r]? := by
  have h1 : i < r := by
    refine Nat.lt_of_not_le fun hri => ?_
    have hd := h (i - r) (by omega)
    by_cases hn : r ≤ w.length - i
    · have h2 := lx_drop hi r _ _ (fun j hj => by
        rw [List.getElem?_drop, List.getElem?_drop]
        have := hl (i - r + j) (by omega) (by omega) (by omega)
        rw [this]; congr 1; omega) (by rw [List.length_drop]; omega) (by rw [List.length_drop]; omega) hd
      rw [List.drop_drop, List.drop_drop, show i - r + r = i by omega] at h2
      have e := congrArg List.length (lx_anti hi _ _ h2 (h (i + r) (by omega)))
      simp only [List.length_drop] at e
      omega
    · have h2 := lx_drop hi (w.length - i) _ _ (fun j hj => by
        rw [List.getElem?_drop, List.getElem?_drop]
        have := hl (i - r + j) (by omega) (by omega) (by omega)
        rw [this]; congr 1; omega) (by rw [List.length_drop]; omega) (by rw [List.length_drop]; omega) hd
      rw [List.drop_drop, List.drop_drop, List.drop_eq_nil_of_le (show w.length ≤ i + (w.length - i) by omega)] at h2
      have h3 : w.drop (i - r + (w.length - i)) = [] := by
        cases e : w.drop (i - r + (w.length - i)) with
        | nil => rfl
        | cons a x => rw [e] at h2; exact h2.elim
      have e := congrArg List.length h3
      simp only [List.length_drop, List.length_nil] at e
      omega
  refine ⟨h1, fun j hj => ?_⟩
  by_cases hji : j < i
  · exact hl j hji (by omega) hj
  · have ha := h (i + r) (by omega)
    have hb := lx_drop (fun a b x y => hi b a x y) (i - i') _ _ (fun k hk => by
        rw [List.getElem?_drop, List.getElem?_drop]
        have := hl (i' + k) (by omega) (by omega) (by omega)
        rw [this]; congr 1; omega) (by rw [List.length_drop]; omega) (by rw [List.length_drop]; omega) (h' (i' + r) (by omega))
    rw [List.drop_drop, List.drop_drop, show i' + r + (i - i') = i + r by omega, show i' + (i - i') = i by omega] at hb
    have := lx_both hi _ _ ha hb (j - i) (by rw [List.length_drop]; omega)
    rw [List.getElem?_drop, List.getElem?_drop, show i + r + (j - i) = j + r by omega, show i + (j - i) = j by omega] at this
    exact this.symm
/-- The critical factorization: a place at which every repetition is longer than the place is far from the beginning, and is a period of the word. -/
theorem cft (w : List Int) (hne : ∃ j, j < w.length ∧ w[j]? ≠ w[0]?) : ∃ i, 0 < i ∧ i < w.length ∧ ∀ r, 0 < r → (∀ j, j < i → i ≤ j + r → j + r < w.length → w[j]? = w[j + r]?) → i < r ∧ ∀ j, j + r < w.length → w[j]? = w[j + r]? := by
  have hi : ∀ a b : Int, a < b → b < a → False := fun a b h h' => by omega
  have hi' : ∀ a b : Int, b < a → a < b → False := fun a b h h' => by omega
  obtain ⟨i, hin, h⟩ := lx_max (R := fun a b => a < b) (fun a b => by omega) (fun a b c h h' => by omega) (fun j => w.drop j) w.length
  obtain ⟨i', hin', h'⟩ := lx_max (R := fun a b => b < a) (fun a b => by omega) (fun a b c h h' => by omega) (fun j => w.drop j) w.length
  obtain ⟨k, hk, hne⟩ := hne
  have hlt : i < w.length := by
    refine Nat.lt_of_le_of_ne hin fun e => ?_
    have := h 0 (by omega)
    simp only [List.drop_zero] at this
    rw [e, List.drop_eq_nil_of_le (Nat.le_refl _)] at this
    cases w with
    | nil => simp at hk
    | cons a x => exact this.elim
  have hlt' : i' < w.length := by
    refine Nat.lt_of_le_of_ne hin' fun e => ?_
    have := h' 0 (by omega)
    simp only [List.drop_zero] at this
    rw [e, List.drop_eq_nil_of_le (Nat.le_refl _)] at this
    cases w with
    | nil => simp at hk
    | cons a x => exact this.elim
  have hz : ¬ (i = 0 ∧ i' = 0) := by
    rintro ⟨rfl, rfl⟩
    have := lx_both hi _ _ (h k (by omega)) (h' k (by omega)) 0 (by rw [List.length_drop]; omega)
    rw [List.getElem?_drop, List.getElem?_drop] at this
    exact hne (by simpa using this)
  by_cases hle : i' ≤ i
  · exact ⟨i, by omega, hlt, fun r hr hl => cft_core hi w i i' hlt hle h h' r hr hl⟩
  · exact ⟨i', by omega, hlt', fun r hr hl => cft_core hi' w i' i hlt' (by omega) h' h r hr hl⟩

theorem locB_iff {w : ByteArray} {i p : Nat} : locB w i p = true ↔ ∀ j : Nat, i - p ≤ j → j < i → j + p < w.size → bt w j = bt w ((j + p : Nat) : Int) := by
  unfold locB
  rw [Option.isNone_iff_eq_none, findE_none]
  constructor
  · intro h j h1 h2 h3
    have := h j h1 (by omega)
    rw [decide_eq_true h3] at this
    simpa using this
  · intro h j h1 h2
    by_cases h3 : j + p < w.size
    · rw [h j h1 (by omega) h3]; simp
    · rw [decide_eq_false h3]; rfl
theorem locP_spec {w : ByteArray} {i : Nat} (h : 0 < w.size) : 1 ≤ locP w i ∧ locP w i ≤ w.size ∧ locB w i (locP w i) = true ∧ ∀ q, 1 ≤ q → q < locP w i → locB w i q = false := by
  unfold locP
  cases hf : findE (locB w i) 1 (w.size - 1) with
  | some j =>
    obtain ⟨h1, h2, h3, h4⟩ := findE_some hf
    exact ⟨h1, by simp only [Option.getD_some]; omega, h3, h4⟩
  | none =>
    refine ⟨by simp only [Option.getD_none]; omega, Nat.le_refl _, locB_end (Nat.le_refl _), fun q h1 h2 => ?_⟩
    exact findE_none.mp hf q h1 (by simp only [Option.getD_none] at h2; omega)
theorem locB_of_hasP {w : ByteArray} {i p : Nat} (hp : p ≤ w.size) (h : hasP w p = true) : locB w i p = true :=
  locB_iff.mpr fun j _ _ h3 => (hasP_iff hp).mp h j h3
theorem locP_le {w : ByteArray} {i : Nat} (h : 0 < w.size) : locP w i ≤ leastP w := by
  obtain ⟨a1, a2, a3, a4⟩ := leastP_spec h
  obtain ⟨b1, b2, b3, b4⟩ := locP_spec (i := i) h
  refine Nat.le_of_not_lt fun hlt => ?_
  have := b4 _ a1 hlt
  rw [locB_of_hasP a2 a3] at this; cases this
theorem bo_get (w : ByteArray) (j : Nat) (h : j < w.size) : (bytesOf w)[j]? = some (bt w j) := by
  rw [bt_nat, getD_eq _ _ (by rw [bo_len]; exact h), List.getElem?_eq_getElem (by rw [bo_len]; exact h)]
theorem crit_place {w : ByteArray} (h : 2 ≤ w.size) : ∃ i, 1 ≤ i ∧ i < w.size ∧ locP w i = leastP w ∧ (i < leastP w ∨ i < 2) := by
  obtain ⟨a1, a2, a3, a4⟩ := leastP_spec (w := w) (by omega)
  by_cases hall : ∀ j : Nat, j < w.size → bt w j = bt w 0
  · have h1 : leastP w = 1 := leastP_unique (by omega) (Nat.le_refl _) ((hasP_iff (by omega)).mpr fun i hi => by rw [hall i (by omega), hall (i + 1) (by omega)]) (fun q h1 h2 => by omega)
    refine ⟨1, Nat.le_refl _, by omega, ?_, .inr (by omega)⟩
    have := locP_le (w := w) (i := 1) (by omega)
    have := (locP_spec (w := w) (i := 1) (by omega)).1
    omega
  · have hne : ∃ j, j < (bytesOf w).length ∧ (bytesOf w)[j]? ≠ (bytesOf w)[0]? := by
      refine Classical.byContradiction fun hc => hall fun j hj => ?_
      have : (bytesOf w)[j]? = (bytesOf w)[0]? := Classical.byContradiction fun h2 => hc ⟨j, by rw [bo_len]; exact hj, h2⟩
      rw [bo_get w j hj, bo_get w 0 (by omega)] at this
      simpa using this
    obtain ⟨i, i0, i1, hi⟩ := cft (bytesOf w) hne
    rw [bo_len] at i1
    obtain ⟨b1, b2, b3, b4⟩ := locP_spec (w := w) (i := i) (by omega)
    obtain ⟨c1, c2⟩ := hi (locP w i) (by omega) (fun j j1 j2 j3 => by
      rw [bo_len] at j3
      rw [bo_get w j (by omega), bo_get w _ j3, locB_iff.mp b3 j (by omega) j1 j3])
    have hP : hasP w (locP w i) = true := (hasP_iff b2).mpr fun j hj => by
      have := c2 j (by rw [bo_len]; exact hj)
      rw [bo_get w j (by omega), bo_get w _ hj] at this
      simpa using this
    have hle : leastP w ≤ locP w i := by
      refine Nat.le_of_not_lt fun hlt => ?_
      have := a4 _ b1 hlt
      rw [hP] at this; cases this
    have := locP_le (w := w) (i := i) (by omega)
    exact ⟨i, i0, i1, by omega, .inl (by omega)⟩

theorem crit_draws {k : Nat} {l : List Int} (hl : OkC l) (hk : 10000 ≤ k) : ∃ (a : ByteArray) (i : Int), spec_DrawCriticalPlaces.f k l = some a ∧ spec_DrawLocalPeriod.f k l = some (a, i) ∧ spec_DrawLongestUnbordered.f k l = some a ∧ a.size ≤ 62 := by
  obtain ⟨h, e⟩ := l01From_ok (k := k) hl (by omega)
  obtain ⟨a, t1, h1, e1, ht1, a0⟩ := l01Spoil_ok (t := 0) (h := h) (k := k) hl zero_ok (by omega)
  have hm : 0 ≤ mn (mx (a.size : Int) 1) 60 - 1 ∧ mn (mx (a.size : Int) 1) 60 - 1 ≤ 1000 := by unfold mn mx; split <;> split <;> omega
  obtain ⟨i, t2, h2, e2, ht2, i0⟩ := l01Near_ok (h := h1) hl ht1 hm
  refine ⟨a, i, ?_, ?_, ?_, a0⟩
  · unfold spec_DrawCriticalPlaces.f; rw [e, Option.bind_some, e1, Option.bind_some]
  · unfold spec_DrawLocalPeriod.f; rw [e, Option.bind_some, e1, Option.bind_some, e2, Option.bind_some]
  · unfold spec_DrawLongestUnbordered.f; rw [e, Option.bind_some, e1, Option.bind_some]
theorem critL_mem {w : ByteArray} {x : Int} : x ∈ critL w ↔ ∃ m : Nat, 1 ≤ m ∧ m < w.size ∧ locP w m = leastP w ∧ (m : Int) = x := by
  unfold critL
  rw [gath_mem]
  constructor
  · rintro ⟨m, h1, h2, h3, h4⟩; exact ⟨m, h1, by omega, of_decide_eq_true h3, h4⟩
  · rintro ⟨m, h1, h2, h3, h4⟩; exact ⟨m, h1, by omega, decide_eq_true h3, h4⟩
theorem critL_short {w : ByteArray} (h : w.size < 2) : critL w = [] := by
  unfold critL
  rw [show w.size - 1 = 0 by omega]; rfl
theorem critL_first {w : ByteArray} (h : 2 ≤ w.size) : 0 < (critL w).length ∧ rd (critL w) 0 < mx (leastP w : Int) 2 := by
  obtain ⟨i, i1, i2, i3, i4⟩ := crit_place h
  have hd := gath_head (fun i => decide (locP w i = leastP w)) (fun i => (i : Int)) (w.size - 1) 1
  have he : (critL w).head? = (findE (fun i => decide (locP w i = leastP w)) 1 (w.size - 1)).map fun i : Nat => (i : Int) := hd
  cases hf : findE (fun i => decide (locP w i = leastP w)) 1 (w.size - 1) with
  | none =>
    have := findE_none.mp hf i i1 (by omega)
    rw [decide_eq_true i3] at this; cases this
  | some j =>
    obtain ⟨j1, j2, j3, j4⟩ := findE_some hf
    rw [hf] at he
    have hji : j ≤ i := Nat.le_of_not_lt fun hlt => by
      have := j4 i i1 hlt
      rw [decide_eq_true i3] at this; cases this
    cases hc : critL w with
    | nil => rw [hc] at he; cases he
    | cons x l =>
      rw [hc] at he
      have hx : x = (j : Int) := by simpa using he
      refine ⟨by simp, ?_⟩
      show x < _
      unfold mx; split <;> omega
theorem FnCritical : laws_FnCritical.Pure := by
  intro l0 _ _ hw
  by_cases hb : l0.length > 4096
  · exact Or.inl hb
  refine Or.inr ⟨by omega, ?_⟩
  have hl := okC_of (by omega) hw
  obtain ⟨k, hk⟩ : ∃ k : Nat, 20000000 ≤ k := ⟨_, Nat.le_refl _⟩
  obtain ⟨a, i, d1, d2, d3, az⟩ := crit_draws (k := k) hl (by omega)
  have hcl := critL_len a
  have q1 := spec_CriticalPlaces_eq (m := k) (a0 := a) (by omega) (by omega)
  have q2 := impl_CriticalPlaces_eq (m := k) (a0 := a) (by omega) (by omega)
  have q3 := spec_LocalPeriod_eq (m := k) (a0 := a) (a1 := i) (by omega) (by omega)
  have q4 := impl_LocalPeriod_eq (m := k) (a0 := a) (a1 := i) (by omega) (by omega)
  have q5 := spec_LongestUnbordered_eq (k := k) (w := a) (by omega) (by omega)
  have q6 := impl_LongestUnbordered_eq (k := k) (w := a) (by omega) (by omega)
  have q7 := impl_PeriodsOf_eq (k := k) (w := a) (by omega) (by omega)
  cases hW : isW a with
  | false =>
    rw [hW] at q5 q6
    unfold critR at q1 q2
    unfold localR at q3 q4
    rw [hW] at q1 q2 q3 q4
    exact ⟨k, a, ⟨#[]⟩, i, 0, 0, 0, 1, 1, 1, [], [], [], d1, q2, q1, likeInts_eq (by simp) (by simp; omega), d2, q4, q3, d3, q6, q5, Or.inl ⟨by decide, by decide, by decide, rfl⟩⟩
  | true =>
    have hz := isW_size hW
    rw [hW] at q5 q6 q7
    unfold critR at q1 q2
    rw [hW] at q1 q2
    rw [if_pos rfl] at q1 q2 q5 q6 q7
    have hL := likeInts_eq (k := k) (a := critL a) (by omega) (by omega)
    by_cases h0 : a.size = 0
    · rw [if_pos h0] at q5 q6
      have hin : inR i 1 (wrap64 ((a.size : Int) - 1)) = false := by
        rw [w64 (by omega) (by omega)]; unfold inR; simp; omega
      unfold localR at q3 q4
      rw [hW, if_pos rfl, hin] at q3 q4
      exact ⟨k, a, ⟨#[]⟩, i, 0, 0, 0, 0, 2, 5, critL a, [], [], d1, q2, q1, hL, d2, q4, q3, d3, q6, q5, Or.inr (Or.inl ⟨rfl, by decide, by decide, by rw [critL_short (by omega)]; rfl, by omega⟩)⟩
    · rw [if_neg h0] at q5 q6
      obtain ⟨u1, u2, u3, u4, u5⟩ := longUnb_facts (w := a) (by omega)
      have q8 := impl_BordersOf_eq (m := k) (a0 := (longUnb a).1) (by omega) (by omega)
      unfold bordR at q8
      rw [u5 hW, if_pos rfl] at q8
      have u6 := bordL_one (w := (longUnb a).1) (by omega) u3
      have q9 : longUnb a = ((longUnb a).1, 0) := rfl
      rw [q9] at q5 q6
      by_cases h2 : a.size < 2
      · have hin : inR i 1 (wrap64 ((a.size : Int) - 1)) = false := by
          rw [w64 (by omega) (by omega)]; unfold inR; simp; omega
        unfold localR at q3 q4
        rw [hW, if_pos rfl, hin] at q3 q4
        exact ⟨k, a, (longUnb a).1, i, 0, leastP a, 0, 0, 2, 0, critL a, bordL (longUnb a).1, perL a, d1, q2, q1, hL, d2, q4, q3, d3, q6, q5, Or.inr (Or.inr ⟨rfl, rfl, q8, u6, ⟨u1, by omega⟩, q7, perL_pos (by omega), perL_rd (by omega), Or.inl ⟨by decide, by rw [critL_short h2]; rfl, h2⟩⟩)⟩
      · obtain ⟨f1, f2⟩ := critL_first (w := a) (by omega)
        have hall : ∀ j : Nat, j < (critL a).length → impl_LocalPeriod.f k a (rd (critL a) j) = some ((leastP a : Int), 0) := fun j hj => by
          obtain ⟨m, m1, m2, m3, m4⟩ := critL_mem.mp (rd_mem (L := critL a) (j := (j : Int)) (by omega) (by omega))
          rw [← m4, impl_LocalPeriod_eq (by omega) (by omega)]
          unfold localR
          have hin : inR (m : Int) 1 (wrap64 ((a.size : Int) - 1)) = true := by
            rw [w64 (by omega) (by omega)]; unfold inR; simp; omega
          rw [hW, if_pos rfl, hin, if_pos rfl, Int.toNat_natCast, m3]
        unfold localR at q3 q4
        rw [hW, if_pos rfl] at q3 q4
        cases hin : inR i 1 (wrap64 ((a.size : Int) - 1)) with
        | false =>
          rw [hin] at q3 q4
          exact ⟨k, a, (longUnb a).1, i, 0, leastP a, rd (critL a) 0, 0, 2, 0, critL a, bordL (longUnb a).1, perL a, d1, q2, q1, hL, d2, q4, q3, d3, q6, q5, Or.inr (Or.inr ⟨rfl, rfl, q8, u6, ⟨u1, by omega⟩, q7, perL_pos (by omega), perL_rd (by omega), Or.inr ⟨by omega, f1, rfl, f2, hall, by omega, Or.inl (by decide)⟩⟩)⟩
        | true =>
          rw [hin, if_pos rfl] at q3 q4
          have g1 := (locP_spec (w := a) (i := i.toNat) (by omega)).1
          have g2 := locP_le (w := a) (i := i.toNat) (by omega)
          exact ⟨k, a, (longUnb a).1, i, (locP a i.toNat : Int), leastP a, rd (critL a) 0, 0, 0, 0, critL a, bordL (longUnb a).1, perL a, d1, q2, q1, hL, d2, q4, q3, d3, q6, q5, Or.inr (Or.inr ⟨rfl, rfl, q8, u6, ⟨u1, by omega⟩, q7, perL_pos (by omega), perL_rd (by omega), Or.inr ⟨by omega, f1, rfl, f2, hall, by omega, Or.inr ⟨rfl, by omega, by omega⟩⟩⟩)⟩

end Go.Proofs.Ytmihfmhfgjnfcaa.Pure
