-- Made by this session's program hyb.py out of Lean's print of the program; Lean checks it.
import Derived.Test.YtmihfmhfgjnfcaaQx0
import Derived.Test.YtmihfmhfgjnfcaaQx109
namespace Go.Proofs.Ytmihfmhfgjnfcaa.Q
open Go.RowKit Go.Proofs.YtmihfmhfgjnfcaaW.PrintWords Go.Proofs.YtmihfmhfgjnfcaaW.PrintLast Go.Proofs.YtmihfmhfgjnfcaaW.PrintMore
attribute [local go_sem] max2_int min2_int max_two min_two max_three min_three max_four min_four bn_leq bn_gtr bn_geq   -- for this text's walks alone
set_option linter.unusedVariables false
set_option linter.unusedSimpArgs false

/-! ### impl_countScattered: function 59 (this session's own) -/
def scIn (w : ByteArray) (c : Int) : Nat → List Int → List Int
  | 0, l => l
  | k + 1, l => scIn w c k (if bt w k = c then l.set (k + 1) (wrap64 (rd l (k + 1 : Nat) + rd l k)) else l)
theorem scIn_len (w : ByteArray) (c : Int) : ∀ k l, (scIn w c k l).length = l.length
  | 0, l => rfl
  | k + 1, l => by
    rw [scIn, scIn_len w c k]
    split <;> simp
def csW (w u : ByteArray) : List Int := (bytesOf u).foldl (fun l c => scIn w c w.size l) ((List.replicate (w.size + 1) 0).set 0 1)
def impl_countScattered.f (a0 a1 : ByteArray) : Option Int := if a0.size ≤ 1000 ∧ a1.size ≤ 1000000 then some (rd (csW a0 a1) a0.size) else none
set_option maxHeartbeats 8000000 in
theorem impl_countScattered.calls (a0 a1 : ByteArray) (r : Int) (w : World) (h : impl_countScattered.f a0 a1 = some r) :
    Calls Try.prog 59 #[.string a0, .string a1] w fun e w' => e = .returned (.int .i64 r) ∧ Below w.heap.size w w' := by
  unfold impl_countScattered.f at h
  by_cases hbig : a0.size ≤ 1000 ∧ a1.size ≤ 1000000
  · rw [if_pos hbig] at h
    have hr : Aside0 (r = rd (csW a0 a1) a0.size) := ⟨(Option.some.inj h).symm⟩
    obtain ⟨hb0, hb1⟩ := hbig
    clear h
    have HB := Aside0.mk (Below.refl w.heap.size w)
    obtain ⟨n, hn⟩ : ∃ n : Int, n = wrap64 ((a0.size : Int) + 1) := ⟨_, rfl⟩
    have hnw : IntKind.i64.wrap ((a0.size : Int) + 1) = n := (i64_w _).trans hn.symm
    have hn2 : n = (a0.size : Int) + 1 := by rw [hn, w64 (by omega) (by omega)]
    have hnt := Aside0.mk (show n.toNat = a0.size + 1 by omega)
    have n0 : decide (0 ≤ n) = true := decide_eq_true (by omega)
    have n1 := Aside0.mk (show n.toNat ≤ 35184372088832 by omega)
    have hsz := Aside0.mk (show a0.size ≤ 1000 ∧ a1.size ≤ 1000000 from ⟨hb0, hb1⟩)
    have hn0 : 0 ≤ n := by omega
    clear hn hn2 hb0 hb1
    go_enter Try.func59, Try.ntmps59
    have hnt2 := hnt
    have hlen := Aside0.mk (show (List.replicate n.toNat (0 : Int)).length = a0.size + 1 by rw [List.length_replicate, hnt.out])
    go_wp2_with ((with_reducible refine gate_dst (N := 12) rfl ?_); refine Kd.R_make (Kd.int .i64) _ 2 rfl (N := 12) rfl 51 _ _ rfl n rfl rfl Try.underlying51 (.int .i64 0) 8 info2 rfl (by decide) (by omega) 0 (ok := fun _ => True) (okp := fun _ => True) rfl (fun _ hk => hk) trivial hn0 (Nat.le_trans (Nat.mul_le_mul_right _ n1.out) (by omega)) (Below.refl _ _) (Nat.le_refl _) ?_; intro v12 w14 ho15 hb15 hg_ hnew_; clear hg_ hnew_; obtain ⟨g, cap, e1, hg, hgl, hcl⟩ := Kd.R_form ho15 (by rw [hlen.out]; omega); rw [hlen.out] at e1; subst e1; obtain ⟨hx0, hf0⟩ := Kd.R_celln 0 ho15 (0 : Int) (by omega) (by omega); rw [show ((0 : Int)).toNat = 0 from rfl] at hx0 hf0; have HP := Kd.R_putg ho15 (0 : Int) 1; rw [show ((0 : Int)).toNat = 0 from rfl] at HP; have hcv := xw_conv a1 (w14.setCell ⟨g, 0, none⟩ (.int .i64 1)); have HO1 := Aside0.mk (Kd.R_below HP.1 (xw_below_bytes (w14.setCell ⟨g, 0, none⟩ (.int .i64 1)) a1)); have hbs : Below w.heap.size w (w14.setCell ⟨g, 0, none⟩ (.int .i64 1)) := below_set hb15 hg; have HB1 := Aside0.mk (hbs.trans ((xw_below_bytes (w14.setCell ⟨g, 0, none⟩ (.int .i64 1)) a1).mono hbs.size)); have hcells : Aside0 (∀ k, k < a1.size → (Lib.bytesWorld (w14.setCell ⟨g, 0, none⟩ (.int .i64 1)) 5 a1).cell? ⟨w14.heap.size, k, none⟩ = some (.int .u8 (bt a1 k))) := ⟨fun k hk => by have h_ := xw_cell_bytes (w14.setCell ⟨g, 0, none⟩ (.int .i64 1)) a1 k hk; simpa using h_⟩; have hgb := Aside0.mk hgl; have hG := Aside0.mk hg; generalize Lib.bytesWorld (w14.setCell ⟨g, 0, none⟩ (.int .i64 1)) 5 a1 = W1 at *; clear hbs HP ho15 hb15 hg hgl hcl)
    clear HB hnw hnt n0 n1 hn0 hlen hx0 hf0
    have hl0 : Aside0 (((List.replicate n.toNat (0 : Int)).set 0 1).length = a0.size + 1) := ⟨by rw [List.length_set, List.length_replicate, hnt2.out]⟩
    go_loopg [7, 8, 18] a1.size (fun gg v7 v8 v18 wr => ∃ (kk : Nat) (l : List Int), kk ≤ a1.size ∧ a1.size - kk ≤ gg ∧ v18 = .int .i64 kk ∧ Aside0 (l = ((bytesOf a1).take kk).foldl (fun l c => scIn a0 c a0.size l) ((List.replicate (a0.size + 1) 0).set 0 1)) ∧ Aside0 (l.length = a0.size + 1) ∧ Aside0 (Kd.R (Kd.int .i64) 2 wr w.heap.size (fun _ => True) (.slice (some ⟨g, 0, none⟩) (a0.size + 1) cap) l) ∧ Aside0 (∀ k, k < a1.size → wr.cell? ⟨w14.heap.size, k, none⟩ = some (.int .u8 (bt a1 k))) ∧ Aside0 (Below w.heap.size w wr))
    case atStart => exact ⟨0, _, Nat.zero_le _, by omega, rfl, ⟨by rw [hnt2.out]; rfl⟩, hl0, HO1, hcells, HB1⟩
    case round =>
      clear HO1 hcells HB1 hl0
      obtain ⟨kk, l, hkk, hgg, rfl, hl, hll, HO, HC, HB⟩ := hrel
      by_cases hlt : kk < a1.size
      · have hltz : (kk : Int) < (a1.size : Int) := by omega
        have c1 := decide_eq_true hltz
        have hc := HC.out kk hlt
        obtain ⟨c, hcd⟩ : ∃ c, c = bt a1 kk := ⟨_, rfl⟩
        rw [← hcd] at hc
        have hst : Aside0 (scIn a0 c a0.size l = ((bytesOf a1).take (kk + 1)).foldl (fun l c => scIn a0 c a0.size l) ((List.replicate (a0.size + 1) 0).set 0 1)) := ⟨by rw [hl.out, hcd, take_bytes_snoc a1 kk hlt, List.foldl_append]; rfl⟩
        have hs2 := hsz.out
        have hkw := Aside0.mk (show wrap64 ((kk : Int) + 1) = ((kk + 1 : Nat) : Int) by rw [w64 (by omega) (by omega)]; rfl)
        clear hs2 hl hcd
        go_wp2
        go_loopg [8] a0.size (fun gg v8 wr => ∃ (j : Nat) (l2 : List Int), j ≤ a0.size ∧ j ≤ gg ∧ v8 = .int .i64 j ∧ Aside0 (scIn a0 c j l2 = scIn a0 c a0.size l) ∧ Aside0 (l2.length = a0.size + 1) ∧ Aside0 (Kd.R (Kd.int .i64) 2 wr w.heap.size (fun _ => True) (.slice (some ⟨g, 0, none⟩) (a0.size + 1) cap) l2) ∧ Aside0 (∀ k, k < a1.size → wr.cell? ⟨w14.heap.size, k, none⟩ = some (.int .u8 (bt a1 k))) ∧ Aside0 (Below w.heap.size w wr))
        case atStart => exact ⟨a0.size, l, Nat.le_refl _, Nat.le_refl _, rfl, ⟨rfl⟩, hll, HO, HC, HB⟩
        case round =>
          clear HO HC HB hc
          obtain ⟨j, l2, hj, hjg, rfl, hs, hl2, HO, HC, HB⟩ := hrel
          cases j with
          | zero =>
            have c2 : decide ((0 : Int) < ((0 : Nat) : Int)) = false := rfl
            go_wp2
            go_roundg (a1.size - (kk + 1))
            case measure => omega
            case rel => exact ⟨kk + 1, l2, by omega, by omega, by rw [hkw.out], ⟨hs.out.trans hst.out⟩, hl2, HO, HC, HB⟩
          | succ j =>
            have hs3 := hsz.out
            have c2 : decide ((0 : Int) < ((j + 1 : Nat) : Int)) = true := decide_eq_true (by omega)
            have hw1 : wrap64 (((j + 1 : Nat) : Int) - 1) = (j : Int) := by rw [w64 (by omega) (by omega)]; omega
            have hw2 : IntKind.i64.wrap (((j + 1 : Nat) : Int) - 1) = (j : Int) := (i64_w _).trans hw1
            have p1 := eq_true (show (0 : Int) ≤ (j : Int) by omega)
            have p2 := decide_eq_true (show (j : Int) < (a0.size : Int) by omega)
            have p3 := eq_true (show j < a0.size by omega)
            have hwj : wrap64 (j : Int) = (j : Int) := w64 (by omega) (by omega)
            have hbt : ∀ h : j < a0.size, ((a0[j]'h).toNat : Int) = bt a0 j := fun h => by simpa using bt_at a0 (j : Int) (by simpa using h)
            have hwj2 := Aside0.mk hwj
            have hsj := hs.out
            rw [scIn] at hsj
            clear hs3
            by_cases he : bt a0 j = c
            · rw [if_pos he] at hsj
              have e1 : (bt a0 j == c) = true := beq_iff_eq.mpr he
              have hsn := Aside0.mk hsj
              clear hsj he hs
              obtain ⟨hx1, hf1⟩ := Kd.R_celln 0 HO.out ((j + 1 : Nat) : Int) (by omega) (by omega)
              obtain ⟨hx0, _⟩ := Kd.R_celln 0 HO.out (j : Int) (by omega) (by omega)
              rw [Int.toNat_natCast] at hx1 hf1 hx0
              obtain ⟨x1, hx1e⟩ : ∃ x, x = rdOf 0 l2 ((j + 1 : Nat) : Int) := ⟨_, rfl⟩
              obtain ⟨x0, hx0e⟩ : ∃ x, x = rdOf 0 l2 (j : Int) := ⟨_, rfl⟩
              rw [← hx1e] at hx1
              rw [← hx0e] at hx0
              have HP := Kd.R_putn HO.out ((j + 1 : Nat) : Int) (wrap64 (x1 + x0))
              rw [Int.toNat_natCast] at HP
              have hset := Aside0.mk (show l2.set (j + 1) (wrap64 (x1 + x0)) = l2.set (j + 1) (wrap64 (rd l2 (j + 1 : Nat) + rd l2 j)) by rw [hx1e, hx0e]; rfl)
              have HP2 := Aside0.mk HP
              have q1 := decide_eq_true (show ((j : Int) + 1) < (a0.size : Int) + 1 by omega)
              have q2 := decide_eq_true (show (j : Int) < (a0.size : Int) + 1 by omega)
              have q3 := eq_true (show (0 : Int) ≤ (j : Int) + 1 by omega)
              clear HP hx1e hx0e
              go_wp2
              go_region
              go_wp2
              go_roundg j
              case measure => omega
              case rel =>
                refine ⟨j, l2.set (j + 1) (wrap64 (x1 + x0)), by omega, by omega, by rw [hwj2.out], ⟨by rw [hset.out]; exact hsn.out⟩, ⟨by rw [List.length_set]; exact hl2.out⟩, ⟨Kd.R_drew HP2.out⟩, ⟨fun k hk => ?_⟩, ⟨below_drew1 (below_set HB.out hG.out)⟩⟩
                have hne : (⟨g, j + 1, none⟩ : Addr) ≠ ⟨w14.heap.size, k, none⟩ := fun e => by
                  injection e with e1
                  have := hgb.out
                  omega
                have h1 := World.cell?_setCell_other wr _ _ (Value.int .i64 (wrap64 (x1 + x0))) hne
                exact h1.trans (HC.out k hk)
            · rw [if_neg he] at hsj
              have e1 : (bt a0 j == c) = false := beq_eq_false_iff_ne.mpr he
              have hsn := Aside0.mk hsj
              clear hsj he hs
              go_wp2
              go_roundg j
              case measure => omega
              case rel => exact ⟨j, l2, by omega, by omega, by rw [hwj2.out], hsn, hl2, HO, HC, HB⟩
      · have hltz : ¬ (kk : Int) < (a1.size : Int) := by omega
        have c1 := decide_eq_false hltz
        obtain rfl : kk = a1.size := by omega
        have hl' : Aside0 (l = csW a0 a1) := ⟨by rw [hl.out, List.take_of_length_le (by simp [bytesOf])]; rfl⟩
        clear hl
        obtain ⟨hx, _⟩ := Kd.R_celln 0 HO.out (a0.size : Int) (by omega) (by omega)
        rw [Int.toNat_natCast] at hx
        have hrr : Aside0 (r = rdOf 0 l (a0.size : Int)) := ⟨by rw [hr.out, hl'.out]; rfl⟩
        rw [← hrr.out] at hx
        have p1 := eq_true (show (a0.size : Int) < ((a0.size + 1 : Nat) : Int) by omega)
        go_wp2
        go_ret
        exact ⟨rfl, HB.out⟩
  · rw [if_neg hbig] at h; cases h


end Go.Proofs.Ytmihfmhfgjnfcaa.Q
