-- Made by this session's program hyb.py out of Lean's print of the program; Lean checks it.
import Derived.Test.YtmihfmhfgjnfcaaQx0
import Derived.Test.YtmihfmhfgjnfcaaQx57
import Derived.Test.YtmihfmhfgjnfcaaQx74
import Derived.Test.YtmihfmhfgjnfcaaQx76
import Derived.Test.YtmihfmhfgjnfcaaQx109
import Derived.Test.YtmihfmhfgjnfcaaRx1
namespace Go.Proofs.Ytmihfmhfgjnfcaa.Q
open Go.RowKit Go.Proofs.YtmihfmhfgjnfcaaW.PrintWords Go.Proofs.YtmihfmhfgjnfcaaW.PrintLast Go.Proofs.YtmihfmhfgjnfcaaW.PrintMore
attribute [local go_sem] max2_int min2_int max_two min_two max_three min_three max_four min_four bn_leq bn_gtr bn_geq   -- for this text's walks alone
set_option linter.unusedVariables false
set_option linter.unusedSimpArgs false

/-! ### impl_FirstSquare: function 26 (this session's own) -/
-- IMPORT Derived.Test.YtmihfmhfgjnfcaaRx1
/-- the row that slices.MinFunc finds: b: the best so far, behind it the rows to come -/
def minRow (k : Nat) : List (List Int) → List Int → Option (List Int)
  | [], b => some b
  | x :: l, b => (R.impl_FirstSquare_lit1.f k x b).bind fun c => minRow k l (if c < 0 then x else b)
theorem minRow_mono (k : Nat) : ∀ l b, LeO (minRow k l b) (minRow (k + 1) l b)
  | [], b => LeO.refl _
  | x :: l, b => by
    unfold minRow
    exact LeO.bind (R.impl_FirstSquare_lit1.mono _ _ _) fun _ => minRow_mono k l _
theorem drop_get {α : Type} (l : List α) (d : α) (i : Nat) (h : i < l.length) : l.drop i = l.getD i d :: l.drop (i + 1) := by
  rw [List.drop_eq_getElem_cons h]
  simp [List.getD_eq_getElem?_getD, h]
set_option maxHeartbeats 4000000 in
theorem xw_MinFunc (k : Nat) (L : List (List Int)) (r : List Int) (v : Value) (ok : Nat → Prop) (base : Nat) (w : World) (hp : 0 < L.length) (hbig : L.length ≤ 1000000) (h : minRow k (L.drop 1) (L.getD 0 []) = some r) (hS : Kd.S (Kd.slice 2 (Kd.int .i64)) 51 w base ok v L) :
    Calls Try.prog 77 #[v, .func (.func 78) #[] #[]] w fun e w' => ∃ (A : Option Addr) (c : Nat), e = .returned (.slice A r.length c) ∧ r.length ≤ c ∧ Kd.C (Kd.int .i64) w' A r.length r ∧ Below w.heap.size w w' := by
  obtain ⟨g, cap, rfl, _, hg, _, hfr, hrows⟩ := xw_rows hS hp
  obtain ⟨A0, c0, hcell0, hl0, hC0⟩ := hrows 0 hp
  obtain ⟨x0, hx0⟩ : ∃ x, x = L.getD 0 [] := ⟨_, rfl⟩
  rw [← hx0] at h hcell0 hl0 hC0
  clear hx0
  have hcells : Aside0 (∀ W : World, Below w.heap.size w W → ∀ i, i < L.length → ∃ (A : Option Addr) (c : Nat), W.cell? ⟨g, i, none⟩ = some (.slice A (L.getD i []).length c) ∧ (L.getD i []).length ≤ c ∧ Kd.C (Kd.int .i64) W A (L.getD i []).length (L.getD i [])) := ⟨fun W hb i hi => by
    obtain ⟨A, c, h1, h2, h3⟩ := hrows i hi
    exact ⟨A, c, (hb.cell (p := ⟨g, i, none⟩) hg).trans h1, h2, Kd.C_below h3 hb⟩⟩
  have h' := Aside0.mk h
  have hbig' := Aside0.mk hbig
  have hl0' := Aside0.mk hl0
  have hC0' := Aside0.mk hC0
  have eg := enters_of Try.func78 (by kernel_rfl) rfl
  have n0 : decide ((L.length : Int) < 1) = false := decide_eq_false (by omega)
  have n1 : decide ((0 : Int) < (L.length : Int)) = true := decide_eq_true (by omega)
  have n2 := eq_true (show (0 : Int) < (L.length : Int) by omega)
  have n3 := eq_true (show 0 < L.length by omega)
  clear hS hrows h hbig hl0 hC0
  go_enter Try.func77, Try.ntmps77
  go_wp2
  go_loopg [5, 6] L.length (fun gg v5 v6 wr => ∃ (i : Nat) (b : List Int) (A : Option Addr) (c : Nat), 1 ≤ i ∧ i ≤ L.length ∧ L.length - i ≤ gg ∧ v6 = .int .i64 i ∧ v5 = .slice A b.length c ∧ Aside0 (b.length ≤ c) ∧ Aside0 (minRow k (L.drop i) b = some r) ∧ Aside0 (Kd.C (Kd.int .i64) wr A b.length b) ∧ Aside0 (Below w.heap.size w wr))
  case atStart => exact ⟨1, _, A0, c0, Nat.le_refl _, hp, by omega, rfl, rfl, hl0', h', hC0', ⟨Below.refl _ _⟩⟩
  case round =>
    clear hl0' hC0' h'
    obtain ⟨i, b, A, c, hi1, hi2, hgg, rfl, rfl, hbc, hm, hC, HB⟩ := hrel
    by_cases hlt : i < L.length
    · have hltz : (i : Int) < (L.length : Int) := by omega
      have c1 := decide_eq_true hltz
      have p0 := eq_true hltz
      have p1 := eq_true hlt
      have p2 := eq_true (show (0 : Int) ≤ (i : Int) by omega)
      obtain ⟨A1, cc, hcell, hle, hC1⟩ := hcells.out wr HB.out i hlt
      have hm2 := hm.out
      rw [drop_get L [] i hlt] at hm2
      simp only [minRow] at hm2
      obtain ⟨x, hx⟩ : ∃ x, x = L.getD i [] := ⟨_, rfl⟩
      rw [← hx] at hm2 hcell hle hC1
      obtain ⟨t, ht, hm3⟩ := Option.bind_eq_some_iff.mp hm2
      have hcal := R.impl_FirstSquare_lit1.calls k A1 cc x A c b t wr hC1 hle hC.out hbc.out ht
      have hm4 := Aside0.mk hm3
      have hle' := Aside0.mk hle
      have hC1' := Aside0.mk hC1
      have hb5 := hbig'.out
      have hw5 := Aside0.mk (show wrap64 ((i : Int) + 1) = ((i + 1 : Nat) : Int) by rw [w64 (by omega) (by omega)]; rfl)
      clear hm2 hm3 hm hx ht hle hC1 hb5
      by_cases hneg : t < 0
      · have c2 := decide_eq_true hneg
        have hr5 : Aside0 (minRow k (L.drop (i + 1)) x = some r) := ⟨by have := hm4.out; rwa [if_pos hneg] at this⟩
        clear hm4 hneg
        go_wp2_with (go_at_call 78; refine hcal.mono ?_; rintro e w2 ⟨rfl, hb2⟩; have HB2 := Aside0.mk hb2; have hcell2 := (hb2.cell (p := ⟨g, i, none⟩) (Nat.lt_of_lt_of_le hg HB.out.size)).trans hcell; clear hb2)
        go_roundg (L.length - (i + 1))
        case measure => omega
        case rel => exact ⟨i + 1, x, A1, cc, by omega, by omega, by omega, by rw [hw5.out], rfl, hle', hr5, ⟨Kd.C_below hC1'.out HB2.out⟩, ⟨below_then HB.out HB.out.size HB2.out⟩⟩
      · have c2 := decide_eq_false hneg
        have hr5 : Aside0 (minRow k (L.drop (i + 1)) b = some r) := ⟨by have := hm4.out; rwa [if_neg hneg] at this⟩
        clear hm4 hneg
        go_wp2_with (go_at_call 78; refine hcal.mono ?_; rintro e w2 ⟨rfl, hb2⟩; have HB2 := Aside0.mk hb2; clear hb2)
        go_roundg (L.length - (i + 1))
        case measure => omega
        case rel => exact ⟨i + 1, b, A, c, by omega, by omega, by omega, by rw [hw5.out], rfl, hbc, hr5, ⟨Kd.C_below hC.out HB2.out⟩, ⟨below_then HB.out HB.out.size HB2.out⟩⟩
    · have hltz : ¬ (i : Int) < (L.length : Int) := by omega
      have c1 := decide_eq_false hltz
      obtain rfl : i = L.length := by omega
      have hm2 := hm.out
      rw [List.drop_length] at hm2
      simp only [minRow, Option.some.injEq] at hm2
      subst hm2
      clear hm
      go_wp2
      go_ret
      exact ⟨A, c, rfl, hbc.out, hC.out, HB.out⟩

def fsqTail (k : Nat) (L : List (List Int)) : Option (Int × Int × Int) := if L.length = 0 then some (0, 0, 4) else if L.length ≤ 1000000 then ((minRow k (L.drop 1) (L.getD 0 [])).bind fun b => if 2 ≤ b.length then some (rd b 0, rd b 1, 0) else none) else none
def impl_FirstSquare.f (k : Nat) (a0 : ByteArray) : Option (Int × Int × Int) := if isW a0 = true then (impl_powersIn.f k a0 2).bind fun L => fsqTail k L else some (0, 0, 1)
theorem impl_FirstSquare.mono : ∀ a0 k, LeO (impl_FirstSquare.f k a0) (impl_FirstSquare.f (k + 1) a0) := by
  intro a0 k
  unfold impl_FirstSquare.f fsqTail
  exact LeO.ite (LeO.bind (impl_powersIn.mono _ _ _) fun _ => LeO.ite (LeO.refl _) (LeO.ite (LeO.bind (minRow_mono _ _ _) fun _ => LeO.refl _) (LeO.refl _))) (LeO.refl _)
set_option maxHeartbeats 4000000 in
theorem impl_FirstSquare.calls (k : Nat) (a0 : ByteArray) (r1 r2 r3 : Int) (w : World) (h : impl_FirstSquare.f k a0 = some (r1, r2, r3)) :
    Calls Try.prog 26 #[.string a0] w fun e w' => e = .returned (.tuple #[.int .i64 r1, .int .i64 r2, .int .i64 r3]) ∧ Below w.heap.size w w' := by
  unfold impl_FirstSquare.f at h
  obtain ⟨c, hc⟩ : ∃ c : Int, c = (if isW a0 then 0 else 1) := ⟨_, rfl⟩
  have hq : Calls Try.prog 57 #[.func (.func 73) #[] #[], .slice (some ⟨w.heap.size, 0, none⟩) 1 1] (w.alloc (.cells #[.string a0] 9)) fun e w' => e = .returned (.int .i64 c) ∧ Below w.heap.size w w' := by
    refine (impl_wordCode.calls () _ 1 [a0] c _ (xw_C_one _ w.heap.size a0 (by simp [go_sem])) (by simp) (by rw [hc]; unfold impl_wordCode.f; simp)).mono ?_
    rintro e w' ⟨rfl, hb⟩
    exact ⟨rfl, below_then ((Below.refl _ w).alloc (Nat.le_refl _) _) (by simp) hb⟩
  cases hw : isW a0 with
  | false =>
    rw [hw] at h hc
    obtain ⟨rfl, rfl, rfl⟩ : (0 : Int) = r1 ∧ (0 : Int) = r2 ∧ (1 : Int) = r3 := by simpa using h
    obtain rfl : c = 1 := by simpa using hc
    clear h hc hw
    go_enter Try.func26, Try.ntmps26
    go_wp2_with (go_at_call 57; refine hq.mono ?_; rintro e w' ⟨rfl, hb⟩; have hb' := Aside0.mk hb; clear hb)
    go_ret3
    exact ⟨rfl, hb'.out⟩
  | true =>
    rw [hw, if_pos rfl] at h
    rw [hw] at hc
    obtain rfl : c = 0 := by simpa using hc
    obtain ⟨L, hL, h⟩ := Option.bind_eq_some_iff.mp h
    have hP := Aside0.mk (fun W => impl_powersIn.calls k a0 2 L W hL)
    clear hc hw hL
    unfold fsqTail at h
    by_cases h0 : L.length = 0
    · rw [if_pos h0] at h
      obtain ⟨rfl, rfl, rfl⟩ : (0 : Int) = r1 ∧ (0 : Int) = r2 ∧ (4 : Int) = r3 := by simpa using h
      obtain rfl := List.length_eq_zero_iff.mp h0
      clear h h0
      go_enter Try.func26, Try.ntmps26
      go_wp2_with (first | (go_at_call 57; refine hq.mono ?_; rintro e w1 ⟨rfl, hb⟩; have hb' := Aside0.mk hb; clear hb) | (go_at_call 76; refine (hP.out _).mono ?_; rintro e w2 ⟨v, rfl, ho, hb⟩; obtain ⟨A, c, rfl⟩ := Kd.S_slice ho; have hb2' := Aside0.mk hb; clear hb ho))
      go_ret3
      exact ⟨rfl, below_then hb'.out hb'.out.size hb2'.out⟩
    · rw [if_neg h0] at h
      by_cases hbig : L.length ≤ 1000000
      · rw [if_pos hbig] at h
        obtain ⟨b, hb, h⟩ := Option.bind_eq_some_iff.mp h
        by_cases h2 : 2 ≤ b.length
        · rw [if_pos h2] at h
          obtain ⟨rfl, rfl, rfl⟩ : rd b 0 = r1 ∧ rd b 1 = r2 ∧ (0 : Int) = r3 := by simpa using h
          have hM := Aside0.mk (fun v W (hS : Kd.S (Kd.slice 2 (Kd.int .i64)) 51 W w.heap.size (fun _ => True) v L) => xw_MinFunc k L b v (fun _ => True) w.heap.size W (by omega) hbig hb hS)
          have c1 : ((L.length : Int) == 0) = false := beq_eq_false_iff_ne.mpr (by omega)
          have h2' := Aside0.mk h2
          have p0 := eq_true (show 0 < b.length by omega)
          have p1 := eq_true (show 1 < b.length by omega)
          have p2 := eq_true (show (0 : Int) < (b.length : Int) by omega)
          have p3 := eq_true (show (1 : Int) < (b.length : Int) by omega)
          have p4 := decide_eq_true (show (0 : Int) < (b.length : Int) by omega)
          have p5 := decide_eq_true (show (1 : Int) < (b.length : Int) by omega)
          clear h hb hbig h0 h2
          go_enter Try.func26, Try.ntmps26
          go_wp2_with (first | (go_at_call 57; refine hq.mono ?_; rintro e w1 ⟨rfl, hb⟩; have hb' := Aside0.mk hb; clear hb) | (go_at_call 76; refine (hP.out _).mono ?_; rintro e w2 ⟨v, rfl, ho, hb⟩; obtain ⟨A, c, rfl⟩ := Kd.S_slice ho; have hb2' := Aside0.mk (below_then hb'.out hb'.out.size hb); have ho' := Aside0.mk (Kd.S_lower ho hb'.out.size); clear hb ho) | (go_at_call 77; refine (hM.out _ _ ho'.out).mono ?_; rintro e w3 ⟨A3, c3, rfl, hl3, hC3, hb3⟩; obtain ⟨ad, rfl, hx0⟩ := Kd.at_int hC3 0 (by omega) (by have := h2'.out; omega); obtain ⟨ad2, he2, hx1⟩ := Kd.at_int hC3 1 (by omega) (by have := h2'.out; omega); cases he2; have hb3' := Aside0.mk hb3; clear hb3 hC3; have hl3' := Aside0.mk hl3; clear hl3))
          have hx2 : w3.cell? ad = some (.int .i64 (rd b 0)) := by rw [show ad = ad.add (0 : Int).toNat from (by unfold Addr.add; simp)]; exact hx0
          simp only [show (1 : Int).toNat = 1 from rfl, Nat.reduceMul, Nat.reduceEqDiff, Go.Addr.add, ↓reduceIte] at hx1
          clear hx0
          go_quiet (fail)
          go_wp2
          go_ret3
          exact ⟨rfl, by repeat (first | exact below_then hb2'.out hb2'.out.size hb3'.out | apply pw_below_drewN | apply below_drew)⟩
        · rw [if_neg h2] at h; cases h
      · rw [if_neg hbig] at h; cases h


end Go.Proofs.Ytmihfmhfgjnfcaa.Q
