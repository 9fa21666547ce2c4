-- Made by this session's program hyb.py out of Lean's print of the program; Lean checks it.
import Derived.Test.YtmihfmhfgjnfcaaQx0
namespace Go.Proofs.Ytmihfmhfgjnfcaa.Q
open Go.RowKit Go.Proofs.YtmihfmhfgjnfcaaW.PrintWords Go.Proofs.YtmihfmhfgjnfcaaW.PrintLast Go.Proofs.YtmihfmhfgjnfcaaW.PrintMore
attribute [local go_sem] max2_int min2_int max_two min_two max_three min_three max_four min_four bn_leq bn_gtr bn_geq   -- for this text's walks alone
set_option linter.unusedVariables false
set_option linter.unusedSimpArgs false

/-! ### impl_classes: function 70 -/
mutual
def impl_classes.l0 : Nat → Int → Int → Int → List Int → Int → Int → Option (List Int)
  | 0, _, _, _, _, _, _ => none
  | k + 1, x0, x1, x2, x7, x18, x19 => if x19 < x18 then (if 0 ≤ x19 then (if x19 < (x7.length : Int) then (impl_classes.l0 k x0 x1 x2 (x7.set (x19 : Int).toNat x19) x18 (wrap64 (x19 + 1))) else (none)) else (none)) else ((some (([x1, x2] : List Int) : List Int)).bind fun y186 => (impl_classes.l1 k x0 x7 y186 (y186.length : Int) 0))
def impl_classes.l1 : Nat → Int → List Int → List Int → Int → Int → Option (List Int)
  | 0, _, _, _, _, _ => none
  | k + 1, x0, x7, x29, x30, x31 => if x31 < x30 then (if 0 ≤ x31 then (if x31 < (x29.length : Int) then (impl_classes.l2 k x0 x7 (rd x29 x31) (rd x29 x31) x29 x30 x31) else (none)) else (none)) else (some x7)
def impl_classes.l2 : Nat → Int → List Int → Int → Int → List Int → Int → Int → Option (List Int)
  | 0, _, _, _, _, _, _, _ => none
  | k + 1, x0, x7, x10, x11, x29, x30, x31 => if x11 < x0 then (if 0 ≤ x11 then (if x11 < (x7.length : Int) then (if 0 ≤ (wrap64 (x11 - x10)) then (if (wrap64 (x11 - x10)) < (x7.length : Int) then (impl_classes.l3 k x0 x7 x10 x11 (mn (rd x7 x11) (rd x7 (wrap64 (x11 - x10)))) (mx (rd x7 x11) (rd x7 (wrap64 (x11 - x10)))) x29 x30 x31 (x7.length : Int) 0) else (none)) else (none)) else (none)) else (none)) else (impl_classes.l1 k x0 x7 x29 x30 (wrap64 (x31 + 1)))
def impl_classes.l3 : Nat → Int → List Int → Int → Int → Int → Int → List Int → Int → Int → Int → Int → Option (List Int)
  | 0, _, _, _, _, _, _, _, _, _, _, _ => none
  | k + 1, x0, x7, x10, x11, x12, x13, x29, x30, x31, x64, x65 => if x65 < x64 then (if 0 ≤ x65 then (if x65 < (x7.length : Int) then (if (rd x7 x65) = x13 then (impl_classes.l3 k x0 (x7.set (x65 : Int).toNat x12) x10 x11 x12 x13 x29 x30 x31 x64 (wrap64 (x65 + 1))) else (impl_classes.l3 k x0 x7 x10 x11 x12 x13 x29 x30 x31 x64 (wrap64 (x65 + 1)))) else (none)) else (none)) else (impl_classes.l2 k x0 x7 x10 (wrap64 (x11 + 1)) x29 x30 x31)
end
def impl_classes.f (k : Nat) (a0 : Int) (a1 : Int) (a2 : Int) : Option (List Int) := if 0 ≤ a0 then (if (a0 : Int).toNat ≤ 35184372088832 then ((some (List.replicate (a0 : Int).toNat 0 : List Int)).bind fun y182 => (impl_classes.l0 k a0 a1 a2 y182 (y182.length : Int) 0)) else (none)) else (none)
theorem impl_classes.mono_l : ∀ k, (∀ y0 y1 y2 y3 y4 y5, LeO (impl_classes.l0 k y0 y1 y2 y3 y4 y5) (impl_classes.l0 (k + 1) y0 y1 y2 y3 y4 y5)) ∧ (∀ y0 y1 y2 y3 y4, LeO (impl_classes.l1 k y0 y1 y2 y3 y4) (impl_classes.l1 (k + 1) y0 y1 y2 y3 y4)) ∧ (∀ y0 y1 y2 y3 y4 y5 y6, LeO (impl_classes.l2 k y0 y1 y2 y3 y4 y5 y6) (impl_classes.l2 (k + 1) y0 y1 y2 y3 y4 y5 y6)) ∧ (∀ y0 y1 y2 y3 y4 y5 y6 y7 y8 y9 y10, LeO (impl_classes.l3 k y0 y1 y2 y3 y4 y5 y6 y7 y8 y9 y10) (impl_classes.l3 (k + 1) y0 y1 y2 y3 y4 y5 y6 y7 y8 y9 y10))
  | 0 => ⟨fun _ _ _ _ _ _ r h => by simp [impl_classes.l0] at h, fun _ _ _ _ _ r h => by simp [impl_classes.l1] at h, fun _ _ _ _ _ _ _ r h => by simp [impl_classes.l2] at h, fun _ _ _ _ _ _ _ _ _ _ _ r h => by simp [impl_classes.l3] at h⟩
  | k + 1 => by
    obtain ⟨ih0, ih1, ih2, ih3⟩ := impl_classes.mono_l k
    refine ⟨?_, ?_, ?_, ?_⟩
    · intro y0 y1 y2 y3 y4 y5
      unfold impl_classes.l0
      repeat' first
      | (with_reducible exact ih0 _ _ _ _ _ _)
      | (with_reducible exact ih1 _ _ _ _ _)
      | (with_reducible exact ih2 _ _ _ _ _ _ _)
      | (with_reducible exact ih3 _ _ _ _ _ _ _ _ _ _ _)
      | (with_reducible exact LeO.refl _)
      | (with_reducible exact LeO.none _)
      | (with_reducible refine LeO.ite ?_ ?_)
      | (with_reducible refine LeO.bind ?_ (fun _ => ?_))
      | exact ih0 _ _ _ _ _ _
      | exact ih1 _ _ _ _ _
      | exact ih2 _ _ _ _ _ _ _
      | exact ih3 _ _ _ _ _ _ _ _ _ _ _
      | exact LeO.none _
      | refine LeO.ite ?_ ?_
      | refine LeO.bind ?_ (fun _ => ?_)
    · intro y0 y1 y2 y3 y4
      unfold impl_classes.l1
      repeat' first
      | (with_reducible exact ih0 _ _ _ _ _ _)
      | (with_reducible exact ih1 _ _ _ _ _)
      | (with_reducible exact ih2 _ _ _ _ _ _ _)
      | (with_reducible exact ih3 _ _ _ _ _ _ _ _ _ _ _)
      | (with_reducible exact LeO.refl _)
      | (with_reducible exact LeO.none _)
      | (with_reducible refine LeO.ite ?_ ?_)
      | (with_reducible refine LeO.bind ?_ (fun _ => ?_))
      | exact ih0 _ _ _ _ _ _
      | exact ih1 _ _ _ _ _
      | exact ih2 _ _ _ _ _ _ _
      | exact ih3 _ _ _ _ _ _ _ _ _ _ _
      | exact LeO.none _
      | refine LeO.ite ?_ ?_
      | refine LeO.bind ?_ (fun _ => ?_)
    · intro y0 y1 y2 y3 y4 y5 y6
      unfold impl_classes.l2
      repeat' first
      | (with_reducible exact ih0 _ _ _ _ _ _)
      | (with_reducible exact ih1 _ _ _ _ _)
      | (with_reducible exact ih2 _ _ _ _ _ _ _)
      | (with_reducible exact ih3 _ _ _ _ _ _ _ _ _ _ _)
      | (with_reducible exact LeO.refl _)
      | (with_reducible exact LeO.none _)
      | (with_reducible refine LeO.ite ?_ ?_)
      | (with_reducible refine LeO.bind ?_ (fun _ => ?_))
      | exact ih0 _ _ _ _ _ _
      | exact ih1 _ _ _ _ _
      | exact ih2 _ _ _ _ _ _ _
      | exact ih3 _ _ _ _ _ _ _ _ _ _ _
      | exact LeO.none _
      | refine LeO.ite ?_ ?_
      | refine LeO.bind ?_ (fun _ => ?_)
    · intro y0 y1 y2 y3 y4 y5 y6 y7 y8 y9 y10
      unfold impl_classes.l3
      repeat' first
      | (with_reducible exact ih0 _ _ _ _ _ _)
      | (with_reducible exact ih1 _ _ _ _ _)
      | (with_reducible exact ih2 _ _ _ _ _ _ _)
      | (with_reducible exact ih3 _ _ _ _ _ _ _ _ _ _ _)
      | (with_reducible exact LeO.refl _)
      | (with_reducible exact LeO.none _)
      | (with_reducible refine LeO.ite ?_ ?_)
      | (with_reducible refine LeO.bind ?_ (fun _ => ?_))
      | exact ih0 _ _ _ _ _ _
      | exact ih1 _ _ _ _ _
      | exact ih2 _ _ _ _ _ _ _
      | exact ih3 _ _ _ _ _ _ _ _ _ _ _
      | exact LeO.none _
      | refine LeO.ite ?_ ?_
      | refine LeO.bind ?_ (fun _ => ?_)
theorem impl_classes.mono : ∀ a0 a1 a2 k, LeO (impl_classes.f k a0 a1 a2) (impl_classes.f (k + 1) a0 a1 a2) := by
  intro a0 a1 a2 k
  obtain ⟨ih0, ih1, ih2, ih3⟩ := impl_classes.mono_l k
  unfold impl_classes.f
  repeat' first
      | (with_reducible exact ih0 _ _ _ _ _ _)
      | (with_reducible exact ih1 _ _ _ _ _)
      | (with_reducible exact ih2 _ _ _ _ _ _ _)
      | (with_reducible exact ih3 _ _ _ _ _ _ _ _ _ _ _)
      | (with_reducible exact LeO.refl _)
      | (with_reducible exact LeO.none _)
      | (with_reducible refine LeO.ite ?_ ?_)
      | (with_reducible refine LeO.bind ?_ (fun _ => ?_))
      | exact ih0 _ _ _ _ _ _
      | exact ih1 _ _ _ _ _
      | exact ih2 _ _ _ _ _ _ _
      | exact ih3 _ _ _ _ _ _ _ _ _ _ _
      | exact LeO.none _
      | refine LeO.ite ?_ ?_
      | refine LeO.bind ?_ (fun _ => ?_)
set_option maxHeartbeats 8000000 in
set_option maxRecDepth 100000 in
theorem impl_classes.calls (k : Nat) (a0 : Int) (a1 : Int) (a2 : Int) (r : List Int) (w : World) (h : impl_classes.f k a0 a1 a2 = some r) :
    Calls Try.prog 70 #[.int .i64 a0, .int .i64 a1, .int .i64 a2] w fun e w' => ∃ v0_ : Value, e = .returned (v0_) ∧ Kd.R (Kd.int .i64) 2 w' w.heap.size (fun _ => True) v0_ r ∧ Below w.heap.size w w' := by
  have HB := Aside0.mk (Below.refl w.heap.size w)
  have H : (if 0 ≤ a0 then (if (a0 : Int).toNat ≤ 35184372088832 then ((some (List.replicate (a0 : Int).toNat 0 : List Int)).bind fun y182 => (impl_classes.l0 k a0 a1 a2 y182 (y182.length : Int) 0)) else (none)) else (none)) = some r := h
  clear h
  by_cases c4 : 0 ≤ a0
  · rw [if_pos c4] at H
    have c4b0 := eq_true c4
    have c4b1 : decide (0 ≤ a0) = true := decide_eq_true c4
    clear c4
    by_cases c5 : (a0 : Int).toNat ≤ 35184372088832
    · rw [if_pos c5] at H
      have c5b0 := eq_true c5
      have c5b1 : decide ((a0 : Int).toNat ≤ 35184372088832) = true := decide_eq_true c5
      clear c5
      obtain ⟨y182, hy182⟩ : ∃ y_ : List Int, y_ = (List.replicate (a0 : Int).toNat 0) := ⟨_, rfl⟩
      replace H : (impl_classes.l0 k a0 a1 a2 y182 (y182.length : Int) 0) = some r := by first | (rw [hy182]; with_reducible exact H) | (have H2_ := (Option.bind_some _ _).symm.trans H; rw [hy182]; with_reducible exact H2_) | (have H2_ := (Option.bind_some _ _).symm.trans H; with_reducible exact H2_) | with_reducible exact H | (rw [hy182]; exact H) | exact H
      have Ny182 := Aside0.mk hy182
      clear hy182
      have H' := Aside0.mk H
      clear H
      go_enter Try.func70, Try.ntmps70
      go_wp2_with (first | ((with_reducible refine gate_dst (N := 16) rfl ?_); refine Kd.R_make (Kd.int .i64) _ 2 rfl (N := 16) rfl 51 _ _ rfl a0 rfl rfl Try.underlying51 (.int .i64 0) 8 info2 rfl (by decide) (by omega) 0 (ok := fun _ => True) (okp := fun _ => True) rfl (fun _ hk => hk) trivial (of_decide_eq_true (by first | (with_reducible assumption) | assumption)) (Nat.le_trans (Nat.mul_le_mul_right _ (of_decide_eq_true (by first | (with_reducible assumption) | assumption) : a0.toNat ≤ 35184372088832)) (by omega)) (Below.refl _ _) (Nat.le_refl _) ?_; intro v183 w6 ho7 hb hg_ hnew_; clear hg_ hnew_; (first | rw [← Ny182.out] at ho7 | (simp only [Int.reduceToNat] at ho7; rw [← Ny182.out] at ho7)); have n0_ := Aside0.mk (Kd.R_lower ho7 (below_size (by repeat (first | (with_reducible first | exact HB.out | apply below_alloc | apply pw_below_drewN | apply below_drew1) | exact HB.out)))); have n1_ := Aside0.mk (below_step (by repeat (first | (with_reducible first | exact HB.out | apply below_alloc | apply pw_below_drewN | apply below_drew1) | exact HB.out)) hb); clear HB; have HO184 := n0_; have HB := n1_; clear n0_ n1_; clear hb ho7; obtain ⟨Ao8, co8, eo8⟩ := Kd.R_slice HO184.out; subst eo8))
      repeat (go_quiet (first | ((with_reducible refine gate_dst (N := 16) rfl ?_); refine Kd.R_make (Kd.int .i64) _ 2 rfl (N := 16) rfl 51 _ _ rfl a0 rfl rfl Try.underlying51 (.int .i64 0) 8 info2 rfl (by decide) (by omega) 0 (ok := fun _ => True) (okp := fun _ => True) rfl (fun _ hk => hk) trivial (of_decide_eq_true (by first | (with_reducible assumption) | assumption)) (Nat.le_trans (Nat.mul_le_mul_right _ (of_decide_eq_true (by first | (with_reducible assumption) | assumption) : a0.toNat ≤ 35184372088832)) (by omega)) (Below.refl _ _) (Nat.le_refl _) ?_; intro v183 w6 ho7 hb hg_ hnew_; clear hg_ hnew_; (first | rw [← Ny182.out] at ho7 | (simp only [Int.reduceToNat] at ho7; rw [← Ny182.out] at ho7)); have n0_ := Aside0.mk (Kd.R_lower ho7 (below_size (by repeat (first | (with_reducible first | exact HB.out | apply below_alloc | apply pw_below_drewN | apply below_drew1) | exact HB.out)))); have n1_ := Aside0.mk (below_step (by repeat (first | (with_reducible first | exact HB.out | apply below_alloc | apply pw_below_drewN | apply below_drew1) | exact HB.out)) hb); clear HB; have HO184 := n0_; have HB := n1_; clear n0_ n1_; clear hb ho7; obtain ⟨Ao8, co8, eo8⟩ := Kd.R_slice HO184.out; subst eo8)); try go_wp2_with (first | ((with_reducible refine gate_dst (N := 16) rfl ?_); refine Kd.R_make (Kd.int .i64) _ 2 rfl (N := 16) rfl 51 _ _ rfl a0 rfl rfl Try.underlying51 (.int .i64 0) 8 info2 rfl (by decide) (by omega) 0 (ok := fun _ => True) (okp := fun _ => True) rfl (fun _ hk => hk) trivial (of_decide_eq_true (by first | (with_reducible assumption) | assumption)) (Nat.le_trans (Nat.mul_le_mul_right _ (of_decide_eq_true (by first | (with_reducible assumption) | assumption) : a0.toNat ≤ 35184372088832)) (by omega)) (Below.refl _ _) (Nat.le_refl _) ?_; intro v183 w6 ho7 hb hg_ hnew_; clear hg_ hnew_; (first | rw [← Ny182.out] at ho7 | (simp only [Int.reduceToNat] at ho7; rw [← Ny182.out] at ho7)); have n0_ := Aside0.mk (Kd.R_lower ho7 (below_size (by repeat (first | (with_reducible first | exact HB.out | apply below_alloc | apply pw_below_drewN | apply below_drew1) | exact HB.out)))); have n1_ := Aside0.mk (below_step (by repeat (first | (with_reducible first | exact HB.out | apply below_alloc | apply pw_below_drewN | apply below_drew1) | exact HB.out)) hb); clear HB; have HO184 := n0_; have HB := n1_; clear n0_ n1_; clear hb ho7; obtain ⟨Ao8, co8, eo8⟩ := Kd.R_slice HO184.out; subst eo8)))
      go_loopg [19] k (fun kq v19 w' => ∃ (x7_1 : List Int) (x19_1 : Int), v19 = .int .i64 x19_1 ∧ Aside0 (impl_classes.l0 kq a0 a1 a2 x7_1 (y182.length : Int) x19_1 = some r) ∧ Aside0 (kq ≤ k) ∧ Aside0 (Kd.R (Kd.int .i64) 2 w' w.heap.size (fun _ => True) (.slice Ao8 y182.length co8) x7_1) ∧ Aside0 (Below w.heap.size w w'))
      case atStart => exact ⟨(y182), (0), (by first | rfl | (simp; done) | (simp [*]; done)), H', ⟨Nat.le_refl _⟩, ⟨by (with_reducible repeat (first | apply Kd.R_alloc | apply Kd.R_drewN | apply Kd.R_drew)); exact HO184.out⟩, ⟨by repeat (first | (with_reducible first | exact HB.out | apply below_alloc | apply pw_below_drewN | apply below_drew1) | exact HB.out)⟩⟩
      case round =>
        clear H'
        try clear p2
        try clear c4
        try clear c4b0
        try clear c4b1
        try clear c5
        try clear c5b0
        try clear c5b1
        try clear c7
        obtain ⟨x7_1, x19_1, rfl, HA, HK1, HO_7, HB⟩ := hrel
        have hl7_1 := (Kd.R_reads' HO_7.out).1
        rw [hl7_1] at HO_7
        (try simp only [hl7_1])
        cases gk with
        | zero => exact absurd HA.out (by simp [impl_classes.l0])
        | succ k1 =>
          have H := HA.out
          clear HA
          simp only [impl_classes.l0] at H
          by_cases c9 : x19_1 < (y182.length : Int)
          · rw [if_pos c9] at H
            have c9b0 : decide (x19_1 < (y182.length : Int)) = true := decide_eq_true c9
            (try (have c9b0_hl7_1a := c9b0; rw [hl7_1] at c9b0_hl7_1a))
            (try (have c9b0_hl7_1a_hl7_2 := c9b0; rw [hl7_1, hl7_2] at c9b0_hl7_1a_hl7_2))
            (try (have c9b0_hl7_1a_hl7_3 := c9b0; rw [hl7_1, hl7_3] at c9b0_hl7_1a_hl7_3))
            (try (have c9b0_hl7_1a_hl7_4 := c9b0; rw [hl7_1, hl7_4] at c9b0_hl7_1a_hl7_4))
            (try (have c9b0_hl7_1b := c9b0; rw [← hl7_1] at c9b0_hl7_1b))
            (try (have c9b0_hl7_1b_hl7_2 := c9b0; rw [← hl7_1, ← hl7_2] at c9b0_hl7_1b_hl7_2))
            (try (have c9b0_hl7_1b_hl7_3 := c9b0; rw [← hl7_1, ← hl7_3] at c9b0_hl7_1b_hl7_3))
            (try (have c9b0_hl7_1b_hl7_4 := c9b0; rw [← hl7_1, ← hl7_4] at c9b0_hl7_1b_hl7_4))
            (try (have c9b0_hl7_2a := c9b0; rw [hl7_2] at c9b0_hl7_2a))
            (try (have c9b0_hl7_2a_hl7_1 := c9b0; rw [hl7_2, hl7_1] at c9b0_hl7_2a_hl7_1))
            (try (have c9b0_hl7_2a_hl7_3 := c9b0; rw [hl7_2, hl7_3] at c9b0_hl7_2a_hl7_3))
            (try (have c9b0_hl7_2a_hl7_4 := c9b0; rw [hl7_2, hl7_4] at c9b0_hl7_2a_hl7_4))
            (try (have c9b0_hl7_2b := c9b0; rw [← hl7_2] at c9b0_hl7_2b))
            (try (have c9b0_hl7_2b_hl7_1 := c9b0; rw [← hl7_2, ← hl7_1] at c9b0_hl7_2b_hl7_1))
            (try (have c9b0_hl7_2b_hl7_3 := c9b0; rw [← hl7_2, ← hl7_3] at c9b0_hl7_2b_hl7_3))
            (try (have c9b0_hl7_2b_hl7_4 := c9b0; rw [← hl7_2, ← hl7_4] at c9b0_hl7_2b_hl7_4))
            (try (have c9b0_hl7_3a := c9b0; rw [hl7_3] at c9b0_hl7_3a))
            (try (have c9b0_hl7_3a_hl7_1 := c9b0; rw [hl7_3, hl7_1] at c9b0_hl7_3a_hl7_1))
            (try (have c9b0_hl7_3a_hl7_2 := c9b0; rw [hl7_3, hl7_2] at c9b0_hl7_3a_hl7_2))
            (try (have c9b0_hl7_3a_hl7_4 := c9b0; rw [hl7_3, hl7_4] at c9b0_hl7_3a_hl7_4))
            (try (have c9b0_hl7_3b := c9b0; rw [← hl7_3] at c9b0_hl7_3b))
            (try (have c9b0_hl7_3b_hl7_1 := c9b0; rw [← hl7_3, ← hl7_1] at c9b0_hl7_3b_hl7_1))
            (try (have c9b0_hl7_3b_hl7_2 := c9b0; rw [← hl7_3, ← hl7_2] at c9b0_hl7_3b_hl7_2))
            (try (have c9b0_hl7_3b_hl7_4 := c9b0; rw [← hl7_3, ← hl7_4] at c9b0_hl7_3b_hl7_4))
            (try (have c9b0_hl7_4a := c9b0; rw [hl7_4] at c9b0_hl7_4a))
            (try (have c9b0_hl7_4a_hl7_1 := c9b0; rw [hl7_4, hl7_1] at c9b0_hl7_4a_hl7_1))
            (try (have c9b0_hl7_4a_hl7_2 := c9b0; rw [hl7_4, hl7_2] at c9b0_hl7_4a_hl7_2))
            (try (have c9b0_hl7_4a_hl7_3 := c9b0; rw [hl7_4, hl7_3] at c9b0_hl7_4a_hl7_3))
            (try (have c9b0_hl7_4b := c9b0; rw [← hl7_4] at c9b0_hl7_4b))
            (try (have c9b0_hl7_4b_hl7_1 := c9b0; rw [← hl7_4, ← hl7_1] at c9b0_hl7_4b_hl7_1))
            (try (have c9b0_hl7_4b_hl7_2 := c9b0; rw [← hl7_4, ← hl7_2] at c9b0_hl7_4b_hl7_2))
            (try (have c9b0_hl7_4b_hl7_3 := c9b0; rw [← hl7_4, ← hl7_3] at c9b0_hl7_4b_hl7_3))
            clear c9
            by_cases c10 : 0 ≤ x19_1
            · rw [if_pos c10] at H
              have c10b0 : decide (0 ≤ x19_1) = true := decide_eq_true c10
              clear c10
              by_cases c11 : x19_1 < (x7_1.length : Int)
              · rw [if_pos c11] at H
                have c11b0 : decide (x19_1 < (x7_1.length : Int)) = true := decide_eq_true c11
                (try (have c11b0_hl7_1a := c11b0; rw [hl7_1] at c11b0_hl7_1a))
                (try (have c11b0_hl7_1a_hl7_2 := c11b0; rw [hl7_1, hl7_2] at c11b0_hl7_1a_hl7_2))
                (try (have c11b0_hl7_1a_hl7_3 := c11b0; rw [hl7_1, hl7_3] at c11b0_hl7_1a_hl7_3))
                (try (have c11b0_hl7_1a_hl7_4 := c11b0; rw [hl7_1, hl7_4] at c11b0_hl7_1a_hl7_4))
                (try (have c11b0_hl7_1b := c11b0; rw [← hl7_1] at c11b0_hl7_1b))
                (try (have c11b0_hl7_1b_hl7_2 := c11b0; rw [← hl7_1, ← hl7_2] at c11b0_hl7_1b_hl7_2))
                (try (have c11b0_hl7_1b_hl7_3 := c11b0; rw [← hl7_1, ← hl7_3] at c11b0_hl7_1b_hl7_3))
                (try (have c11b0_hl7_1b_hl7_4 := c11b0; rw [← hl7_1, ← hl7_4] at c11b0_hl7_1b_hl7_4))
                (try (have c11b0_hl7_2a := c11b0; rw [hl7_2] at c11b0_hl7_2a))
                (try (have c11b0_hl7_2a_hl7_1 := c11b0; rw [hl7_2, hl7_1] at c11b0_hl7_2a_hl7_1))
                (try (have c11b0_hl7_2a_hl7_3 := c11b0; rw [hl7_2, hl7_3] at c11b0_hl7_2a_hl7_3))
                (try (have c11b0_hl7_2a_hl7_4 := c11b0; rw [hl7_2, hl7_4] at c11b0_hl7_2a_hl7_4))
                (try (have c11b0_hl7_2b := c11b0; rw [← hl7_2] at c11b0_hl7_2b))
                (try (have c11b0_hl7_2b_hl7_1 := c11b0; rw [← hl7_2, ← hl7_1] at c11b0_hl7_2b_hl7_1))
                (try (have c11b0_hl7_2b_hl7_3 := c11b0; rw [← hl7_2, ← hl7_3] at c11b0_hl7_2b_hl7_3))
                (try (have c11b0_hl7_2b_hl7_4 := c11b0; rw [← hl7_2, ← hl7_4] at c11b0_hl7_2b_hl7_4))
                (try (have c11b0_hl7_3a := c11b0; rw [hl7_3] at c11b0_hl7_3a))
                (try (have c11b0_hl7_3a_hl7_1 := c11b0; rw [hl7_3, hl7_1] at c11b0_hl7_3a_hl7_1))
                (try (have c11b0_hl7_3a_hl7_2 := c11b0; rw [hl7_3, hl7_2] at c11b0_hl7_3a_hl7_2))
                (try (have c11b0_hl7_3a_hl7_4 := c11b0; rw [hl7_3, hl7_4] at c11b0_hl7_3a_hl7_4))
                (try (have c11b0_hl7_3b := c11b0; rw [← hl7_3] at c11b0_hl7_3b))
                (try (have c11b0_hl7_3b_hl7_1 := c11b0; rw [← hl7_3, ← hl7_1] at c11b0_hl7_3b_hl7_1))
                (try (have c11b0_hl7_3b_hl7_2 := c11b0; rw [← hl7_3, ← hl7_2] at c11b0_hl7_3b_hl7_2))
                (try (have c11b0_hl7_3b_hl7_4 := c11b0; rw [← hl7_3, ← hl7_4] at c11b0_hl7_3b_hl7_4))
                (try (have c11b0_hl7_4a := c11b0; rw [hl7_4] at c11b0_hl7_4a))
                (try (have c11b0_hl7_4a_hl7_1 := c11b0; rw [hl7_4, hl7_1] at c11b0_hl7_4a_hl7_1))
                (try (have c11b0_hl7_4a_hl7_2 := c11b0; rw [hl7_4, hl7_2] at c11b0_hl7_4a_hl7_2))
                (try (have c11b0_hl7_4a_hl7_3 := c11b0; rw [hl7_4, hl7_3] at c11b0_hl7_4a_hl7_3))
                (try (have c11b0_hl7_4b := c11b0; rw [← hl7_4] at c11b0_hl7_4b))
                (try (have c11b0_hl7_4b_hl7_1 := c11b0; rw [← hl7_4, ← hl7_1] at c11b0_hl7_4b_hl7_1))
                (try (have c11b0_hl7_4b_hl7_2 := c11b0; rw [← hl7_4, ← hl7_2] at c11b0_hl7_4b_hl7_2))
                (try (have c11b0_hl7_4b_hl7_3 := c11b0; rw [← hl7_4, ← hl7_3] at c11b0_hl7_4b_hl7_3))
                clear c11
                obtain ⟨y185, hy185⟩ : ∃ y_ : List Int, y_ = (x7_1.set (x19_1 : Int).toNat x19_1) := ⟨_, rfl⟩
                replace H : (impl_classes.l0 k1 a0 a1 a2 y185 (y182.length : Int) (wrap64 (x19_1 + 1))) = some r := by first | (rw [hy185]; with_reducible exact H) | (have H2_ := (Option.bind_some _ _).symm.trans H; rw [hy185]; with_reducible exact H2_) | (have H2_ := (Option.bind_some _ _).symm.trans H; with_reducible exact H2_) | with_reducible exact H | (rw [hy185]; exact H) | exact H
                have Ny185 := Aside0.mk hy185
                clear hy185
                have H' := Aside0.mk H
                clear H
                have p12 : 0 ≤ (x19_1 : Int) := of_decide_eq_true (by first | (with_reducible assumption) | assumption)
                have q12 : (x19_1 : Int) < ((x7_1.length : Int) : Int) := of_decide_eq_true (by first | (with_reducible assumption) | assumption)
                obtain ⟨go12, co12, eo12, gb12, gl12, cl12, HG12⟩ := Kd.R_form HO_7.out (by omega)
                (first | cases eo12 | (injection eo12 with ea_ en_ ec_; (first | subst ea_ | (injection ea_ with ea_; subst ea_)); subst ec_; clear en_))
                have GB12 := Aside0.mk gb12
                have GG12 := Aside0.mk HG12
                clear gb12 gl12 HG12
                obtain ⟨hx12_0, hf12_0⟩ := Kd.R_celln 0 HO_7.out (x19_1 : Int) p12 q12
                replace p12 := eq_true p12
                replace q12 := eq_true q12
                have HP13 := Kd.R_putg HO_7.out (x19_1 : Int) x19_1
                go_wp2_with (first | ((with_reducible refine gate_store (t := 2) (p := 25) rfl ?_); (try (rw [drewN_self wr]; generalize hq_ : World.drewN wr _ = wr; have n0_ := Aside0.mk (Kd.R_at hq_ HO_7.out); have n1_ := Aside0.mk (below_at hq_ HB.out); clear hq_ HO_7 HB; have HO_7 := n0_; have HB := n1_; clear n0_ n1_; (try (have HP13 := Kd.R_putg HO_7.out (x19_1 : Int) x19_1)))); refine store_event (t := 2) (p := 25) (v := ?vo_w14) (w1 := (wr.setCell ⟨go12, (x19_1 : Int).toNat, none⟩ (.int .i64 x19_1))) ?hg ?ho ?hn ?hr ?_; (case ho => rfl); (case hg => rfl); (case hn => rfl); (case hr => first | (go_simp; done) | (go_simp; rfl)); intro w14 hw; have hg : wr.grownBy w14 (some go12) := (by rw [hw]; exact HP13.2); have hp_ : Kd.R (Kd.int .i64) 2 w14 w.heap.size (fun _ => True) (.slice (some ⟨go12, 0, none⟩) x7_1.length co8) y185 := (by rw [hw, Ny185.out]; exact HP13.1); clear HP13; have n0_ := Aside0.mk (hp_); have n1_ := Aside0.mk ((by rw [hw]; exact below_set (HB.out) GB12.out : Below w.heap.size w w14)); clear HO_7; clear HB; have HO_7 := n0_; have HB := n1_; clear n0_ n1_; clear hg hw hp_))
                repeat (go_quiet (first | ((with_reducible refine gate_store (t := 2) (p := 25) rfl ?_); (try (rw [drewN_self wr]; generalize hq_ : World.drewN wr _ = wr; have n0_ := Aside0.mk (Kd.R_at hq_ HO_7.out); have n1_ := Aside0.mk (below_at hq_ HB.out); clear hq_ HO_7 HB; have HO_7 := n0_; have HB := n1_; clear n0_ n1_; (try (have HP13 := Kd.R_putg HO_7.out (x19_1 : Int) x19_1)))); refine store_event (t := 2) (p := 25) (v := ?vo_w14) (w1 := (wr.setCell ⟨go12, (x19_1 : Int).toNat, none⟩ (.int .i64 x19_1))) ?hg ?ho ?hn ?hr ?_; (case ho => rfl); (case hg => rfl); (case hn => rfl); (case hr => first | (go_simp; done) | (go_simp; rfl)); intro w14 hw; have hg : wr.grownBy w14 (some go12) := (by rw [hw]; exact HP13.2); have hp_ : Kd.R (Kd.int .i64) 2 w14 w.heap.size (fun _ => True) (.slice (some ⟨go12, 0, none⟩) x7_1.length co8) y185 := (by rw [hw, Ny185.out]; exact HP13.1); clear HP13; have n0_ := Aside0.mk (hp_); have n1_ := Aside0.mk ((by rw [hw]; exact below_set (HB.out) GB12.out : Below w.heap.size w w14)); clear HO_7; clear HB; have HO_7 := n0_; have HB := n1_; clear n0_ n1_; clear hg hw hp_)); try go_wp2_with (first | ((with_reducible refine gate_store (t := 2) (p := 25) rfl ?_); (try (rw [drewN_self wr]; generalize hq_ : World.drewN wr _ = wr; have n0_ := Aside0.mk (Kd.R_at hq_ HO_7.out); have n1_ := Aside0.mk (below_at hq_ HB.out); clear hq_ HO_7 HB; have HO_7 := n0_; have HB := n1_; clear n0_ n1_; (try (have HP13 := Kd.R_putg HO_7.out (x19_1 : Int) x19_1)))); refine store_event (t := 2) (p := 25) (v := ?vo_w14) (w1 := (wr.setCell ⟨go12, (x19_1 : Int).toNat, none⟩ (.int .i64 x19_1))) ?hg ?ho ?hn ?hr ?_; (case ho => rfl); (case hg => rfl); (case hn => rfl); (case hr => first | (go_simp; done) | (go_simp; rfl)); intro w14 hw; have hg : wr.grownBy w14 (some go12) := (by rw [hw]; exact HP13.2); have hp_ : Kd.R (Kd.int .i64) 2 w14 w.heap.size (fun _ => True) (.slice (some ⟨go12, 0, none⟩) x7_1.length co8) y185 := (by rw [hw, Ny185.out]; exact HP13.1); clear HP13; have n0_ := Aside0.mk (hp_); have n1_ := Aside0.mk ((by rw [hw]; exact below_set (HB.out) GB12.out : Below w.heap.size w w14)); clear HO_7; clear HB; have HO_7 := n0_; have HB := n1_; clear n0_ n1_; clear hg hw hp_)))
                (try simp only [← hl7_1])
                go_roundg k1
                case measure => have := HK1.out; omega
                case rel => exact ⟨(y185), (wrap64 (x19_1 + 1)), (by first | rfl | (simp; done) | (simp [*]; done)), H', ⟨by have := HK1.out; omega⟩, ⟨by (try simp only [hl7_1]); (with_reducible repeat (first | apply Kd.R_alloc | apply Kd.R_drewN | apply Kd.R_drew)); exact HO_7.out⟩, ⟨by repeat (first | (with_reducible first | exact HB.out | apply below_alloc | apply pw_below_drewN | apply below_drew1) | exact HB.out)⟩⟩
              · rw [if_neg c11] at H
                exact absurd H (by simp)
            · rw [if_neg c10] at H
              exact absurd H (by simp)
          · rw [if_neg c9] at H
            have c9b0 : decide (x19_1 < (y182.length : Int)) = false := decide_eq_false c9
            (try (have c9b0_hl7_1a := c9b0; rw [hl7_1] at c9b0_hl7_1a))
            (try (have c9b0_hl7_1a_hl7_2 := c9b0; rw [hl7_1, hl7_2] at c9b0_hl7_1a_hl7_2))
            (try (have c9b0_hl7_1a_hl7_3 := c9b0; rw [hl7_1, hl7_3] at c9b0_hl7_1a_hl7_3))
            (try (have c9b0_hl7_1a_hl7_4 := c9b0; rw [hl7_1, hl7_4] at c9b0_hl7_1a_hl7_4))
            (try (have c9b0_hl7_1b := c9b0; rw [← hl7_1] at c9b0_hl7_1b))
            (try (have c9b0_hl7_1b_hl7_2 := c9b0; rw [← hl7_1, ← hl7_2] at c9b0_hl7_1b_hl7_2))
            (try (have c9b0_hl7_1b_hl7_3 := c9b0; rw [← hl7_1, ← hl7_3] at c9b0_hl7_1b_hl7_3))
            (try (have c9b0_hl7_1b_hl7_4 := c9b0; rw [← hl7_1, ← hl7_4] at c9b0_hl7_1b_hl7_4))
            (try (have c9b0_hl7_2a := c9b0; rw [hl7_2] at c9b0_hl7_2a))
            (try (have c9b0_hl7_2a_hl7_1 := c9b0; rw [hl7_2, hl7_1] at c9b0_hl7_2a_hl7_1))
            (try (have c9b0_hl7_2a_hl7_3 := c9b0; rw [hl7_2, hl7_3] at c9b0_hl7_2a_hl7_3))
            (try (have c9b0_hl7_2a_hl7_4 := c9b0; rw [hl7_2, hl7_4] at c9b0_hl7_2a_hl7_4))
            (try (have c9b0_hl7_2b := c9b0; rw [← hl7_2] at c9b0_hl7_2b))
            (try (have c9b0_hl7_2b_hl7_1 := c9b0; rw [← hl7_2, ← hl7_1] at c9b0_hl7_2b_hl7_1))
            (try (have c9b0_hl7_2b_hl7_3 := c9b0; rw [← hl7_2, ← hl7_3] at c9b0_hl7_2b_hl7_3))
            (try (have c9b0_hl7_2b_hl7_4 := c9b0; rw [← hl7_2, ← hl7_4] at c9b0_hl7_2b_hl7_4))
            (try (have c9b0_hl7_3a := c9b0; rw [hl7_3] at c9b0_hl7_3a))
            (try (have c9b0_hl7_3a_hl7_1 := c9b0; rw [hl7_3, hl7_1] at c9b0_hl7_3a_hl7_1))
            (try (have c9b0_hl7_3a_hl7_2 := c9b0; rw [hl7_3, hl7_2] at c9b0_hl7_3a_hl7_2))
            (try (have c9b0_hl7_3a_hl7_4 := c9b0; rw [hl7_3, hl7_4] at c9b0_hl7_3a_hl7_4))
            (try (have c9b0_hl7_3b := c9b0; rw [← hl7_3] at c9b0_hl7_3b))
            (try (have c9b0_hl7_3b_hl7_1 := c9b0; rw [← hl7_3, ← hl7_1] at c9b0_hl7_3b_hl7_1))
            (try (have c9b0_hl7_3b_hl7_2 := c9b0; rw [← hl7_3, ← hl7_2] at c9b0_hl7_3b_hl7_2))
            (try (have c9b0_hl7_3b_hl7_4 := c9b0; rw [← hl7_3, ← hl7_4] at c9b0_hl7_3b_hl7_4))
            (try (have c9b0_hl7_4a := c9b0; rw [hl7_4] at c9b0_hl7_4a))
            (try (have c9b0_hl7_4a_hl7_1 := c9b0; rw [hl7_4, hl7_1] at c9b0_hl7_4a_hl7_1))
            (try (have c9b0_hl7_4a_hl7_2 := c9b0; rw [hl7_4, hl7_2] at c9b0_hl7_4a_hl7_2))
            (try (have c9b0_hl7_4a_hl7_3 := c9b0; rw [hl7_4, hl7_3] at c9b0_hl7_4a_hl7_3))
            (try (have c9b0_hl7_4b := c9b0; rw [← hl7_4] at c9b0_hl7_4b))
            (try (have c9b0_hl7_4b_hl7_1 := c9b0; rw [← hl7_4, ← hl7_1] at c9b0_hl7_4b_hl7_1))
            (try (have c9b0_hl7_4b_hl7_2 := c9b0; rw [← hl7_4, ← hl7_2] at c9b0_hl7_4b_hl7_2))
            (try (have c9b0_hl7_4b_hl7_3 := c9b0; rw [← hl7_4, ← hl7_3] at c9b0_hl7_4b_hl7_3))
            clear c9
            obtain ⟨y186, hy186⟩ : ∃ y_ : List Int, y_ = (([a1, a2] : List Int)) := ⟨_, rfl⟩
            replace H : (impl_classes.l1 k1 a0 x7_1 y186 (y186.length : Int) 0) = some r := by first | (rw [hy186]; with_reducible exact H) | (have H2_ := (Option.bind_some _ _).symm.trans H; rw [hy186]; with_reducible exact H2_) | (have H2_ := (Option.bind_some _ _).symm.trans H; with_reducible exact H2_) | with_reducible exact H | (rw [hy186]; exact H) | exact H
            have Ny186 := Aside0.mk hy186
            clear hy186
            have H' := Aside0.mk H
            clear H
            go_wp2_with (first | ((with_reducible refine gate_dst (N := 29) rfl ?_); refine Kd.R_lit (Kd.int .i64) _ 2 ?hg (N := 29) ?hd (xs := ([a1, a2] : List Int)) (inner := [.int .i64 a1, .int .i64 a2]) (ok := fun _ => True) (okp := fun _ => True) ?hr ?hp (fun _ hk => hk) trivial (Below.refl _ _) (Nat.le_refl _) (by simp) ?_; (case hd => rfl); (case hg => rfl); (case hr => first | (go_simp; done) | (go_simp; rfl)); (case hp => exact (Reps.one (show Kd.M (Kd.int .i64) _ _ _ a1 [.int .i64 a1] from rfl) (Reps.one (show Kd.M (Kd.int .i64) _ _ _ a2 [.int .i64 a2] from rfl) (Reps.none _ _)))); intro v187 w15 ho16 hb hg_ hnew_; clear hg_ hnew_; (first | rw [← Ny186.out] at ho16 | (simp only [Int.reduceToNat] at ho16; rw [← Ny186.out] at ho16)); have n0_ := Aside0.mk (Kd.R_elder' (by (with_reducible repeat (first | apply Kd.R_alloc | apply Kd.R_drewN | apply Kd.R_drew)); exact HO_7.out) (Kd.R_base ho16) hb); have n1_ := Aside0.mk (Kd.R_lower (Kd.R_new' ho16 (Kd.R_lt (by (with_reducible repeat (first | apply Kd.R_alloc | apply Kd.R_drewN | apply Kd.R_drew)); exact HO_7.out))) (below_size (by repeat (first | (with_reducible first | exact HB.out | apply below_alloc | apply pw_below_drewN | apply below_drew1) | exact HB.out)))); have n2_ := Aside0.mk (below_step (by repeat (first | (with_reducible first | exact HB.out | apply below_alloc | apply pw_below_drewN | apply below_drew1) | exact HB.out)) hb); clear HO_7; clear HB; have HO_7 := n0_; have HO188 := n1_; have HB := n2_; clear n0_ n1_ n2_; clear hb ho16; obtain ⟨Ao17, co17, eo17⟩ := Kd.R_slice HO188.out; subst eo17))
            repeat (go_quiet (first | ((with_reducible refine gate_dst (N := 29) rfl ?_); refine Kd.R_lit (Kd.int .i64) _ 2 ?hg (N := 29) ?hd (xs := ([a1, a2] : List Int)) (inner := [.int .i64 a1, .int .i64 a2]) (ok := fun _ => True) (okp := fun _ => True) ?hr ?hp (fun _ hk => hk) trivial (Below.refl _ _) (Nat.le_refl _) (by simp) ?_; (case hd => rfl); (case hg => rfl); (case hr => first | (go_simp; done) | (go_simp; rfl)); (case hp => exact (Reps.one (show Kd.M (Kd.int .i64) _ _ _ a1 [.int .i64 a1] from rfl) (Reps.one (show Kd.M (Kd.int .i64) _ _ _ a2 [.int .i64 a2] from rfl) (Reps.none _ _)))); intro v187 w15 ho16 hb hg_ hnew_; clear hg_ hnew_; (first | rw [← Ny186.out] at ho16 | (simp only [Int.reduceToNat] at ho16; rw [← Ny186.out] at ho16)); have n0_ := Aside0.mk (Kd.R_elder' (by (with_reducible repeat (first | apply Kd.R_alloc | apply Kd.R_drewN | apply Kd.R_drew)); exact HO_7.out) (Kd.R_base ho16) hb); have n1_ := Aside0.mk (Kd.R_lower (Kd.R_new' ho16 (Kd.R_lt (by (with_reducible repeat (first | apply Kd.R_alloc | apply Kd.R_drewN | apply Kd.R_drew)); exact HO_7.out))) (below_size (by repeat (first | (with_reducible first | exact HB.out | apply below_alloc | apply pw_below_drewN | apply below_drew1) | exact HB.out)))); have n2_ := Aside0.mk (below_step (by repeat (first | (with_reducible first | exact HB.out | apply below_alloc | apply pw_below_drewN | apply below_drew1) | exact HB.out)) hb); clear HO_7; clear HB; have HO_7 := n0_; have HO188 := n1_; have HB := n2_; clear n0_ n1_ n2_; clear hb ho16; obtain ⟨Ao17, co17, eo17⟩ := Kd.R_slice HO188.out; subst eo17)); try go_wp2_with (first | ((with_reducible refine gate_dst (N := 29) rfl ?_); refine Kd.R_lit (Kd.int .i64) _ 2 ?hg (N := 29) ?hd (xs := ([a1, a2] : List Int)) (inner := [.int .i64 a1, .int .i64 a2]) (ok := fun _ => True) (okp := fun _ => True) ?hr ?hp (fun _ hk => hk) trivial (Below.refl _ _) (Nat.le_refl _) (by simp) ?_; (case hd => rfl); (case hg => rfl); (case hr => first | (go_simp; done) | (go_simp; rfl)); (case hp => exact (Reps.one (show Kd.M (Kd.int .i64) _ _ _ a1 [.int .i64 a1] from rfl) (Reps.one (show Kd.M (Kd.int .i64) _ _ _ a2 [.int .i64 a2] from rfl) (Reps.none _ _)))); intro v187 w15 ho16 hb hg_ hnew_; clear hg_ hnew_; (first | rw [← Ny186.out] at ho16 | (simp only [Int.reduceToNat] at ho16; rw [← Ny186.out] at ho16)); have n0_ := Aside0.mk (Kd.R_elder' (by (with_reducible repeat (first | apply Kd.R_alloc | apply Kd.R_drewN | apply Kd.R_drew)); exact HO_7.out) (Kd.R_base ho16) hb); have n1_ := Aside0.mk (Kd.R_lower (Kd.R_new' ho16 (Kd.R_lt (by (with_reducible repeat (first | apply Kd.R_alloc | apply Kd.R_drewN | apply Kd.R_drew)); exact HO_7.out))) (below_size (by repeat (first | (with_reducible first | exact HB.out | apply below_alloc | apply pw_below_drewN | apply below_drew1) | exact HB.out)))); have n2_ := Aside0.mk (below_step (by repeat (first | (with_reducible first | exact HB.out | apply below_alloc | apply pw_below_drewN | apply below_drew1) | exact HB.out)) hb); clear HO_7; clear HB; have HO_7 := n0_; have HO188 := n1_; have HB := n2_; clear n0_ n1_ n2_; clear hb ho16; obtain ⟨Ao17, co17, eo17⟩ := Kd.R_slice HO188.out; subst eo17)))
            go_loopg [31] k1 (fun kq v31 w' => ∃ (x7_2 : List Int) (x31_2 : Int), v31 = .int .i64 x31_2 ∧ Aside0 (impl_classes.l1 kq a0 x7_2 y186 (y186.length : Int) x31_2 = some r) ∧ Aside0 (kq ≤ k1) ∧ Aside0 (Kd.R (Kd.int .i64) 2 w' w.heap.size (fun k_ => some k_ ≠ ((.slice Ao17 y186.length co17) : Value).ownBlock) (.slice Ao8 x7_1.length co8) x7_2) ∧ Aside0 (Kd.R (Kd.int .i64) 2 w' w.heap.size (fun k_ => some k_ ≠ ((.slice Ao8 x7_1.length co8) : Value).ownBlock) (.slice Ao17 y186.length co17) y186) ∧ Aside0 (Below w.heap.size w w'))
            case atStart => exact ⟨(x7_1), (0), (by first | rfl | (simp; done) | (simp [*]; done)), H', ⟨Nat.le_refl _⟩, ⟨by (try simp only [hl7_1]); (with_reducible repeat (first | apply Kd.R_alloc | apply Kd.R_drewN | apply Kd.R_drew)); exact Kd.R_mono HO_7.out (fun _ hk => hk.2)⟩, ⟨by (try simp only [hl7_1]); (with_reducible repeat (first | apply Kd.R_alloc | apply Kd.R_drewN | apply Kd.R_drew)); exact Kd.R_mono HO188.out (fun _ hk => hk.2)⟩, ⟨by repeat (first | (with_reducible first | exact HB.out | apply below_alloc | apply pw_below_drewN | apply below_drew1) | exact HB.out)⟩⟩
            case round =>
              clear H'
              try clear c1
              try clear p1
              try clear q1
              try clear hx1
              try clear p2
              try clear c4
              try clear c4b0
              try clear c4b1
              try clear c5
              try clear c5b0
              try clear c5b1
              try clear p6
              try clear c7
              try clear c9
              try clear c9b0
              try clear c10
              try clear c10b0
              try clear c11
              try clear c11b0
              try clear p12
              try clear q12
              try clear hx12
              try clear hf12
              try clear hx12_0
              try clear p12
              try clear p2
              try clear q12
              obtain ⟨x7_2, x31_2, rfl, HA, HK2, HO_7, HO_29, HB⟩ := hrel
              have hl7_2 := (Kd.R_reads' HO_7.out).1
              rw [hl7_2] at HO_7
              (try simp only [hl7_2])
              (try simp only [hl7_2] at HO_29)
              cases gk with
              | zero => exact absurd HA.out (by simp [impl_classes.l1])
              | succ k2 =>
                have H := HA.out
                clear HA
                simp only [impl_classes.l1] at H
                by_cases c18 : x31_2 < (y186.length : Int)
                · rw [if_pos c18] at H
                  have c18b0 : decide (x31_2 < (y186.length : Int)) = true := decide_eq_true c18
                  (try (have c18b0_hl7_1a := c18b0; rw [hl7_1] at c18b0_hl7_1a))
                  (try (have c18b0_hl7_1a_hl7_2 := c18b0; rw [hl7_1, hl7_2] at c18b0_hl7_1a_hl7_2))
                  (try (have c18b0_hl7_1a_hl7_3 := c18b0; rw [hl7_1, hl7_3] at c18b0_hl7_1a_hl7_3))
                  (try (have c18b0_hl7_1a_hl7_4 := c18b0; rw [hl7_1, hl7_4] at c18b0_hl7_1a_hl7_4))
                  (try (have c18b0_hl7_1b := c18b0; rw [← hl7_1] at c18b0_hl7_1b))
                  (try (have c18b0_hl7_1b_hl7_2 := c18b0; rw [← hl7_1, ← hl7_2] at c18b0_hl7_1b_hl7_2))
                  (try (have c18b0_hl7_1b_hl7_3 := c18b0; rw [← hl7_1, ← hl7_3] at c18b0_hl7_1b_hl7_3))
                  (try (have c18b0_hl7_1b_hl7_4 := c18b0; rw [← hl7_1, ← hl7_4] at c18b0_hl7_1b_hl7_4))
                  (try (have c18b0_hl7_2a := c18b0; rw [hl7_2] at c18b0_hl7_2a))
                  (try (have c18b0_hl7_2a_hl7_1 := c18b0; rw [hl7_2, hl7_1] at c18b0_hl7_2a_hl7_1))
                  (try (have c18b0_hl7_2a_hl7_3 := c18b0; rw [hl7_2, hl7_3] at c18b0_hl7_2a_hl7_3))
                  (try (have c18b0_hl7_2a_hl7_4 := c18b0; rw [hl7_2, hl7_4] at c18b0_hl7_2a_hl7_4))
                  (try (have c18b0_hl7_2b := c18b0; rw [← hl7_2] at c18b0_hl7_2b))
                  (try (have c18b0_hl7_2b_hl7_1 := c18b0; rw [← hl7_2, ← hl7_1] at c18b0_hl7_2b_hl7_1))
                  (try (have c18b0_hl7_2b_hl7_3 := c18b0; rw [← hl7_2, ← hl7_3] at c18b0_hl7_2b_hl7_3))
                  (try (have c18b0_hl7_2b_hl7_4 := c18b0; rw [← hl7_2, ← hl7_4] at c18b0_hl7_2b_hl7_4))
                  (try (have c18b0_hl7_3a := c18b0; rw [hl7_3] at c18b0_hl7_3a))
                  (try (have c18b0_hl7_3a_hl7_1 := c18b0; rw [hl7_3, hl7_1] at c18b0_hl7_3a_hl7_1))
                  (try (have c18b0_hl7_3a_hl7_2 := c18b0; rw [hl7_3, hl7_2] at c18b0_hl7_3a_hl7_2))
                  (try (have c18b0_hl7_3a_hl7_4 := c18b0; rw [hl7_3, hl7_4] at c18b0_hl7_3a_hl7_4))
                  (try (have c18b0_hl7_3b := c18b0; rw [← hl7_3] at c18b0_hl7_3b))
                  (try (have c18b0_hl7_3b_hl7_1 := c18b0; rw [← hl7_3, ← hl7_1] at c18b0_hl7_3b_hl7_1))
                  (try (have c18b0_hl7_3b_hl7_2 := c18b0; rw [← hl7_3, ← hl7_2] at c18b0_hl7_3b_hl7_2))
                  (try (have c18b0_hl7_3b_hl7_4 := c18b0; rw [← hl7_3, ← hl7_4] at c18b0_hl7_3b_hl7_4))
                  (try (have c18b0_hl7_4a := c18b0; rw [hl7_4] at c18b0_hl7_4a))
                  (try (have c18b0_hl7_4a_hl7_1 := c18b0; rw [hl7_4, hl7_1] at c18b0_hl7_4a_hl7_1))
                  (try (have c18b0_hl7_4a_hl7_2 := c18b0; rw [hl7_4, hl7_2] at c18b0_hl7_4a_hl7_2))
                  (try (have c18b0_hl7_4a_hl7_3 := c18b0; rw [hl7_4, hl7_3] at c18b0_hl7_4a_hl7_3))
                  (try (have c18b0_hl7_4b := c18b0; rw [← hl7_4] at c18b0_hl7_4b))
                  (try (have c18b0_hl7_4b_hl7_1 := c18b0; rw [← hl7_4, ← hl7_1] at c18b0_hl7_4b_hl7_1))
                  (try (have c18b0_hl7_4b_hl7_2 := c18b0; rw [← hl7_4, ← hl7_2] at c18b0_hl7_4b_hl7_2))
                  (try (have c18b0_hl7_4b_hl7_3 := c18b0; rw [← hl7_4, ← hl7_3] at c18b0_hl7_4b_hl7_3))
                  clear c18
                  by_cases c19 : 0 ≤ x31_2
                  · rw [if_pos c19] at H
                    have c19b0 : decide (0 ≤ x31_2) = true := decide_eq_true c19
                    clear c19
                    by_cases c20 : x31_2 < (y186.length : Int)
                    · rw [if_pos c20] at H
                      have c20b0 : decide (x31_2 < (y186.length : Int)) = true := decide_eq_true c20
                      (try (have c20b0_hl7_1a := c20b0; rw [hl7_1] at c20b0_hl7_1a))
                      (try (have c20b0_hl7_1a_hl7_2 := c20b0; rw [hl7_1, hl7_2] at c20b0_hl7_1a_hl7_2))
                      (try (have c20b0_hl7_1a_hl7_3 := c20b0; rw [hl7_1, hl7_3] at c20b0_hl7_1a_hl7_3))
                      (try (have c20b0_hl7_1a_hl7_4 := c20b0; rw [hl7_1, hl7_4] at c20b0_hl7_1a_hl7_4))
                      (try (have c20b0_hl7_1b := c20b0; rw [← hl7_1] at c20b0_hl7_1b))
                      (try (have c20b0_hl7_1b_hl7_2 := c20b0; rw [← hl7_1, ← hl7_2] at c20b0_hl7_1b_hl7_2))
                      (try (have c20b0_hl7_1b_hl7_3 := c20b0; rw [← hl7_1, ← hl7_3] at c20b0_hl7_1b_hl7_3))
                      (try (have c20b0_hl7_1b_hl7_4 := c20b0; rw [← hl7_1, ← hl7_4] at c20b0_hl7_1b_hl7_4))
                      (try (have c20b0_hl7_2a := c20b0; rw [hl7_2] at c20b0_hl7_2a))
                      (try (have c20b0_hl7_2a_hl7_1 := c20b0; rw [hl7_2, hl7_1] at c20b0_hl7_2a_hl7_1))
                      (try (have c20b0_hl7_2a_hl7_3 := c20b0; rw [hl7_2, hl7_3] at c20b0_hl7_2a_hl7_3))
                      (try (have c20b0_hl7_2a_hl7_4 := c20b0; rw [hl7_2, hl7_4] at c20b0_hl7_2a_hl7_4))
                      (try (have c20b0_hl7_2b := c20b0; rw [← hl7_2] at c20b0_hl7_2b))
                      (try (have c20b0_hl7_2b_hl7_1 := c20b0; rw [← hl7_2, ← hl7_1] at c20b0_hl7_2b_hl7_1))
                      (try (have c20b0_hl7_2b_hl7_3 := c20b0; rw [← hl7_2, ← hl7_3] at c20b0_hl7_2b_hl7_3))
                      (try (have c20b0_hl7_2b_hl7_4 := c20b0; rw [← hl7_2, ← hl7_4] at c20b0_hl7_2b_hl7_4))
                      (try (have c20b0_hl7_3a := c20b0; rw [hl7_3] at c20b0_hl7_3a))
                      (try (have c20b0_hl7_3a_hl7_1 := c20b0; rw [hl7_3, hl7_1] at c20b0_hl7_3a_hl7_1))
                      (try (have c20b0_hl7_3a_hl7_2 := c20b0; rw [hl7_3, hl7_2] at c20b0_hl7_3a_hl7_2))
                      (try (have c20b0_hl7_3a_hl7_4 := c20b0; rw [hl7_3, hl7_4] at c20b0_hl7_3a_hl7_4))
                      (try (have c20b0_hl7_3b := c20b0; rw [← hl7_3] at c20b0_hl7_3b))
                      (try (have c20b0_hl7_3b_hl7_1 := c20b0; rw [← hl7_3, ← hl7_1] at c20b0_hl7_3b_hl7_1))
                      (try (have c20b0_hl7_3b_hl7_2 := c20b0; rw [← hl7_3, ← hl7_2] at c20b0_hl7_3b_hl7_2))
                      (try (have c20b0_hl7_3b_hl7_4 := c20b0; rw [← hl7_3, ← hl7_4] at c20b0_hl7_3b_hl7_4))
                      (try (have c20b0_hl7_4a := c20b0; rw [hl7_4] at c20b0_hl7_4a))
                      (try (have c20b0_hl7_4a_hl7_1 := c20b0; rw [hl7_4, hl7_1] at c20b0_hl7_4a_hl7_1))
                      (try (have c20b0_hl7_4a_hl7_2 := c20b0; rw [hl7_4, hl7_2] at c20b0_hl7_4a_hl7_2))
                      (try (have c20b0_hl7_4a_hl7_3 := c20b0; rw [hl7_4, hl7_3] at c20b0_hl7_4a_hl7_3))
                      (try (have c20b0_hl7_4b := c20b0; rw [← hl7_4] at c20b0_hl7_4b))
                      (try (have c20b0_hl7_4b_hl7_1 := c20b0; rw [← hl7_4, ← hl7_1] at c20b0_hl7_4b_hl7_1))
                      (try (have c20b0_hl7_4b_hl7_2 := c20b0; rw [← hl7_4, ← hl7_2] at c20b0_hl7_4b_hl7_2))
                      (try (have c20b0_hl7_4b_hl7_3 := c20b0; rw [← hl7_4, ← hl7_3] at c20b0_hl7_4b_hl7_3))
                      clear c20
                      have H' := Aside0.mk H
                      clear H
                      have p189 : 0 ≤ (x31_2 : Int) := of_decide_eq_true (by first | (with_reducible assumption) | assumption)
                      have q189 : x31_2 < (y186.length : Int) := of_decide_eq_true (by first | (with_reducible assumption) | assumption)
                      obtain ⟨ad189, e189, hx189_0⟩ := Kd.at_int (Kd.R_reads' HO_29.out).2.2 x31_2 p189 q189
                      cases e189
                      replace p189 := eq_true p189
                      replace q189 := eq_true q189
                      go_wp2
                      repeat (go_quiet (fail); try go_wp2)
                      go_loopg [11] k2 (fun kq v11 w' => ∃ (x7_3 : List Int) (x11_3 : Int), v11 = .int .i64 x11_3 ∧ Aside0 (impl_classes.l2 kq a0 x7_3 (rd y186 x31_2) x11_3 y186 (y186.length : Int) x31_2 = some r) ∧ Aside0 (kq ≤ k2) ∧ Aside0 (Kd.R (Kd.int .i64) 2 w' w.heap.size (fun k_ => some k_ ≠ ((.slice (some ad189) y186.length co17) : Value).ownBlock) (.slice Ao8 x7_2.length co8) x7_3) ∧ Aside0 (Kd.R (Kd.int .i64) 2 w' w.heap.size (fun k_ => some k_ ≠ ((.slice Ao8 x7_2.length co8) : Value).ownBlock) (.slice (some ad189) y186.length co17) y186) ∧ Aside0 (Below w.heap.size w w'))
                      case atStart => exact ⟨(x7_2), (rd y186 x31_2), (by first | rfl | (simp; done) | (simp [*]; done)), H', ⟨Nat.le_refl _⟩, ⟨by (try simp only [hl7_1]); (try simp only [hl7_2]); (with_reducible repeat (first | apply Kd.R_alloc | apply Kd.R_drewN | apply Kd.R_drew)); exact HO_7.out⟩, ⟨by (try simp only [hl7_1]); (try simp only [hl7_2]); (with_reducible repeat (first | apply Kd.R_alloc | apply Kd.R_drewN | apply Kd.R_drew)); exact HO_29.out⟩, ⟨by repeat (first | (with_reducible first | exact HB.out | apply below_alloc | apply pw_below_drewN | apply below_drew1) | exact HB.out)⟩⟩
                      case round =>
                        clear H'
                        try clear c1
                        try clear p1
                        try clear q1
                        try clear hx1
                        try clear c2
                        try clear p2
                        try clear c4
                        try clear c4b0
                        try clear c4b1
                        try clear c5
                        try clear c5b0
                        try clear c5b1
                        try clear p6
                        try clear c7
                        try clear c9
                        try clear c9b0
                        try clear c10
                        try clear c10b0
                        try clear c11
                        try clear c11b0
                        try clear p12
                        try clear q12
                        try clear hx12
                        try clear hf12
                        try clear c18
                        try clear c18b0
                        try clear p18
                        try clear q18
                        try clear hx18
                        try clear c19
                        try clear c19b0
                        try clear c20
                        try clear c20b0
                        try clear hx12_0
                        try clear hx189_0
                        try clear p1
                        try clear p12
                        try clear p189
                        try clear p2
                        try clear p6
                        try clear q1
                        try clear q12
                        try clear q189
                        obtain ⟨x7_3, x11_3, rfl, HA, HK3, HO_7, HO_29, HB⟩ := hrel
                        have hl7_3 := (Kd.R_reads' HO_7.out).1
                        rw [hl7_3] at HO_7
                        (try simp only [hl7_3])
                        (try simp only [hl7_3] at HO_29)
                        cases gk with
                        | zero => exact absurd HA.out (by simp [impl_classes.l2])
                        | succ k3 =>
                          have H := HA.out
                          clear HA
                          simp only [impl_classes.l2] at H
                          by_cases c21 : x11_3 < a0
                          · rw [if_pos c21] at H
                            have c21b0 : decide (x11_3 < a0) = true := decide_eq_true c21
                            clear c21
                            by_cases c22 : 0 ≤ x11_3
                            · rw [if_pos c22] at H
                              have c22b0 : decide (0 ≤ x11_3) = true := decide_eq_true c22
                              clear c22
                              by_cases c23 : x11_3 < (x7_3.length : Int)
                              · rw [if_pos c23] at H
                                have c23b0 : decide (x11_3 < (x7_3.length : Int)) = true := decide_eq_true c23
                                (try (have c23b0_hl7_1a := c23b0; rw [hl7_1] at c23b0_hl7_1a))
                                (try (have c23b0_hl7_1a_hl7_2 := c23b0; rw [hl7_1, hl7_2] at c23b0_hl7_1a_hl7_2))
                                (try (have c23b0_hl7_1a_hl7_3 := c23b0; rw [hl7_1, hl7_3] at c23b0_hl7_1a_hl7_3))
                                (try (have c23b0_hl7_1a_hl7_4 := c23b0; rw [hl7_1, hl7_4] at c23b0_hl7_1a_hl7_4))
                                (try (have c23b0_hl7_1b := c23b0; rw [← hl7_1] at c23b0_hl7_1b))
                                (try (have c23b0_hl7_1b_hl7_2 := c23b0; rw [← hl7_1, ← hl7_2] at c23b0_hl7_1b_hl7_2))
                                (try (have c23b0_hl7_1b_hl7_3 := c23b0; rw [← hl7_1, ← hl7_3] at c23b0_hl7_1b_hl7_3))
                                (try (have c23b0_hl7_1b_hl7_4 := c23b0; rw [← hl7_1, ← hl7_4] at c23b0_hl7_1b_hl7_4))
                                (try (have c23b0_hl7_2a := c23b0; rw [hl7_2] at c23b0_hl7_2a))
                                (try (have c23b0_hl7_2a_hl7_1 := c23b0; rw [hl7_2, hl7_1] at c23b0_hl7_2a_hl7_1))
                                (try (have c23b0_hl7_2a_hl7_3 := c23b0; rw [hl7_2, hl7_3] at c23b0_hl7_2a_hl7_3))
                                (try (have c23b0_hl7_2a_hl7_4 := c23b0; rw [hl7_2, hl7_4] at c23b0_hl7_2a_hl7_4))
                                (try (have c23b0_hl7_2b := c23b0; rw [← hl7_2] at c23b0_hl7_2b))
                                (try (have c23b0_hl7_2b_hl7_1 := c23b0; rw [← hl7_2, ← hl7_1] at c23b0_hl7_2b_hl7_1))
                                (try (have c23b0_hl7_2b_hl7_3 := c23b0; rw [← hl7_2, ← hl7_3] at c23b0_hl7_2b_hl7_3))
                                (try (have c23b0_hl7_2b_hl7_4 := c23b0; rw [← hl7_2, ← hl7_4] at c23b0_hl7_2b_hl7_4))
                                (try (have c23b0_hl7_3a := c23b0; rw [hl7_3] at c23b0_hl7_3a))
                                (try (have c23b0_hl7_3a_hl7_1 := c23b0; rw [hl7_3, hl7_1] at c23b0_hl7_3a_hl7_1))
                                (try (have c23b0_hl7_3a_hl7_2 := c23b0; rw [hl7_3, hl7_2] at c23b0_hl7_3a_hl7_2))
                                (try (have c23b0_hl7_3a_hl7_4 := c23b0; rw [hl7_3, hl7_4] at c23b0_hl7_3a_hl7_4))
                                (try (have c23b0_hl7_3b := c23b0; rw [← hl7_3] at c23b0_hl7_3b))
                                (try (have c23b0_hl7_3b_hl7_1 := c23b0; rw [← hl7_3, ← hl7_1] at c23b0_hl7_3b_hl7_1))
                                (try (have c23b0_hl7_3b_hl7_2 := c23b0; rw [← hl7_3, ← hl7_2] at c23b0_hl7_3b_hl7_2))
                                (try (have c23b0_hl7_3b_hl7_4 := c23b0; rw [← hl7_3, ← hl7_4] at c23b0_hl7_3b_hl7_4))
                                (try (have c23b0_hl7_4a := c23b0; rw [hl7_4] at c23b0_hl7_4a))
                                (try (have c23b0_hl7_4a_hl7_1 := c23b0; rw [hl7_4, hl7_1] at c23b0_hl7_4a_hl7_1))
                                (try (have c23b0_hl7_4a_hl7_2 := c23b0; rw [hl7_4, hl7_2] at c23b0_hl7_4a_hl7_2))
                                (try (have c23b0_hl7_4a_hl7_3 := c23b0; rw [hl7_4, hl7_3] at c23b0_hl7_4a_hl7_3))
                                (try (have c23b0_hl7_4b := c23b0; rw [← hl7_4] at c23b0_hl7_4b))
                                (try (have c23b0_hl7_4b_hl7_1 := c23b0; rw [← hl7_4, ← hl7_1] at c23b0_hl7_4b_hl7_1))
                                (try (have c23b0_hl7_4b_hl7_2 := c23b0; rw [← hl7_4, ← hl7_2] at c23b0_hl7_4b_hl7_2))
                                (try (have c23b0_hl7_4b_hl7_3 := c23b0; rw [← hl7_4, ← hl7_3] at c23b0_hl7_4b_hl7_3))
                                clear c23
                                obtain ⟨ji24, hji24⟩ : ∃ j_ : Int, (wrap64 (x11_3 - (rd y186 x31_2))) = j_ := ⟨_, rfl⟩
                                replace H : (if 0 ≤ (ji24) then (if (ji24) < (x7_3.length : Int) then (impl_classes.l3 k3 a0 x7_3 (rd y186 x31_2) x11_3 (mn (rd x7_3 x11_3) (rd x7_3 (ji24))) (mx (rd x7_3 x11_3) (rd x7_3 (ji24))) y186 (y186.length : Int) x31_2 (x7_3.length : Int) 0) else (none)) else (none)) = some r := by first | (rw [hji24] at H; exact H) | (simp only [hji24] at H ⊢; exact H)
                                have hji24w : (IntKind.i64.wrap (x11_3 - (rd y186 x31_2))) = ji24 := (i64_w _).trans hji24
                                by_cases c25 : 0 ≤ (ji24)
                                · rw [if_pos c25] at H
                                  have c25b0 : decide (0 ≤ (ji24)) = true := decide_eq_true c25
                                  clear c25
                                  by_cases c26 : (ji24) < (x7_3.length : Int)
                                  · rw [if_pos c26] at H
                                    have c26b0 : decide ((ji24) < (x7_3.length : Int)) = true := decide_eq_true c26
                                    (try (have c26b0_hl7_1a := c26b0; rw [hl7_1] at c26b0_hl7_1a))
                                    (try (have c26b0_hl7_1a_hl7_2 := c26b0; rw [hl7_1, hl7_2] at c26b0_hl7_1a_hl7_2))
                                    (try (have c26b0_hl7_1a_hl7_3 := c26b0; rw [hl7_1, hl7_3] at c26b0_hl7_1a_hl7_3))
                                    (try (have c26b0_hl7_1a_hl7_4 := c26b0; rw [hl7_1, hl7_4] at c26b0_hl7_1a_hl7_4))
                                    (try (have c26b0_hl7_1b := c26b0; rw [← hl7_1] at c26b0_hl7_1b))
                                    (try (have c26b0_hl7_1b_hl7_2 := c26b0; rw [← hl7_1, ← hl7_2] at c26b0_hl7_1b_hl7_2))
                                    (try (have c26b0_hl7_1b_hl7_3 := c26b0; rw [← hl7_1, ← hl7_3] at c26b0_hl7_1b_hl7_3))
                                    (try (have c26b0_hl7_1b_hl7_4 := c26b0; rw [← hl7_1, ← hl7_4] at c26b0_hl7_1b_hl7_4))
                                    (try (have c26b0_hl7_2a := c26b0; rw [hl7_2] at c26b0_hl7_2a))
                                    (try (have c26b0_hl7_2a_hl7_1 := c26b0; rw [hl7_2, hl7_1] at c26b0_hl7_2a_hl7_1))
                                    (try (have c26b0_hl7_2a_hl7_3 := c26b0; rw [hl7_2, hl7_3] at c26b0_hl7_2a_hl7_3))
                                    (try (have c26b0_hl7_2a_hl7_4 := c26b0; rw [hl7_2, hl7_4] at c26b0_hl7_2a_hl7_4))
                                    (try (have c26b0_hl7_2b := c26b0; rw [← hl7_2] at c26b0_hl7_2b))
                                    (try (have c26b0_hl7_2b_hl7_1 := c26b0; rw [← hl7_2, ← hl7_1] at c26b0_hl7_2b_hl7_1))
                                    (try (have c26b0_hl7_2b_hl7_3 := c26b0; rw [← hl7_2, ← hl7_3] at c26b0_hl7_2b_hl7_3))
                                    (try (have c26b0_hl7_2b_hl7_4 := c26b0; rw [← hl7_2, ← hl7_4] at c26b0_hl7_2b_hl7_4))
                                    (try (have c26b0_hl7_3a := c26b0; rw [hl7_3] at c26b0_hl7_3a))
                                    (try (have c26b0_hl7_3a_hl7_1 := c26b0; rw [hl7_3, hl7_1] at c26b0_hl7_3a_hl7_1))
                                    (try (have c26b0_hl7_3a_hl7_2 := c26b0; rw [hl7_3, hl7_2] at c26b0_hl7_3a_hl7_2))
                                    (try (have c26b0_hl7_3a_hl7_4 := c26b0; rw [hl7_3, hl7_4] at c26b0_hl7_3a_hl7_4))
                                    (try (have c26b0_hl7_3b := c26b0; rw [← hl7_3] at c26b0_hl7_3b))
                                    (try (have c26b0_hl7_3b_hl7_1 := c26b0; rw [← hl7_3, ← hl7_1] at c26b0_hl7_3b_hl7_1))
                                    (try (have c26b0_hl7_3b_hl7_2 := c26b0; rw [← hl7_3, ← hl7_2] at c26b0_hl7_3b_hl7_2))
                                    (try (have c26b0_hl7_3b_hl7_4 := c26b0; rw [← hl7_3, ← hl7_4] at c26b0_hl7_3b_hl7_4))
                                    (try (have c26b0_hl7_4a := c26b0; rw [hl7_4] at c26b0_hl7_4a))
                                    (try (have c26b0_hl7_4a_hl7_1 := c26b0; rw [hl7_4, hl7_1] at c26b0_hl7_4a_hl7_1))
                                    (try (have c26b0_hl7_4a_hl7_2 := c26b0; rw [hl7_4, hl7_2] at c26b0_hl7_4a_hl7_2))
                                    (try (have c26b0_hl7_4a_hl7_3 := c26b0; rw [hl7_4, hl7_3] at c26b0_hl7_4a_hl7_3))
                                    (try (have c26b0_hl7_4b := c26b0; rw [← hl7_4] at c26b0_hl7_4b))
                                    (try (have c26b0_hl7_4b_hl7_1 := c26b0; rw [← hl7_4, ← hl7_1] at c26b0_hl7_4b_hl7_1))
                                    (try (have c26b0_hl7_4b_hl7_2 := c26b0; rw [← hl7_4, ← hl7_2] at c26b0_hl7_4b_hl7_2))
                                    (try (have c26b0_hl7_4b_hl7_3 := c26b0; rw [← hl7_4, ← hl7_3] at c26b0_hl7_4b_hl7_3))
                                    clear c26
                                    obtain ⟨ji27, hji27⟩ : ∃ j_ : Int, (mn (rd x7_3 x11_3) (rd x7_3 (ji24))) = j_ := ⟨_, rfl⟩
                                    replace H : (impl_classes.l3 k3 a0 x7_3 (rd y186 x31_2) x11_3 ji27 (mx (rd x7_3 x11_3) (rd x7_3 (ji24))) y186 (y186.length : Int) x31_2 (x7_3.length : Int) 0) = some r := by first | (rw [hji27] at H; exact H) | (simp only [hji27] at H ⊢; exact H)
                                    have hji27_ : (if (rd x7_3 (ji24)) < (rd x7_3 x11_3) then (rd x7_3 (ji24)) else (rd x7_3 x11_3)) = ji27 := hji27
                                    obtain ⟨ji28, hji28⟩ : ∃ j_ : Int, (mx (rd x7_3 x11_3) (rd x7_3 (ji24))) = j_ := ⟨_, rfl⟩
                                    replace H : (impl_classes.l3 k3 a0 x7_3 (rd y186 x31_2) x11_3 ji27 ji28 y186 (y186.length : Int) x31_2 (x7_3.length : Int) 0) = some r := by first | (rw [hji28] at H; exact H) | (simp only [hji28] at H ⊢; exact H)
                                    have hji28_ : (if (rd x7_3 x11_3) < (rd x7_3 (ji24)) then (rd x7_3 (ji24)) else (rd x7_3 x11_3)) = ji28 := hji28
                                    have H' := Aside0.mk H
                                    clear H
                                    have p190 : 0 ≤ (x11_3 : Int) := of_decide_eq_true (by first | (with_reducible assumption) | assumption)
                                    have q190 : x11_3 < (x7_3.length : Int) := of_decide_eq_true (by first | (with_reducible assumption) | assumption)
                                    obtain ⟨ad190, e190, hx190_0⟩ := Kd.at_int (Kd.R_reads' HO_7.out).2.2 x11_3 p190 q190
                                    cases e190
                                    replace p190 := eq_true p190
                                    replace q190 := eq_true q190
                                    have p191 : 0 ≤ ((ji24) : Int) := of_decide_eq_true (by first | (with_reducible assumption) | assumption)
                                    have q191 : (ji24) < (x7_3.length : Int) := of_decide_eq_true (by first | (with_reducible assumption) | assumption)
                                    obtain ⟨ad191, e191, hx191_0⟩ := Kd.at_int (Kd.R_reads' HO_7.out).2.2 (ji24) p191 q191
                                    obtain rfl : ad190 = ad191 := (by injection e191)
                                    replace p191 := eq_true p191
                                    replace q191 := eq_true q191
                                    have p192 : 0 ≤ (x11_3 : Int) := of_decide_eq_true (by first | (with_reducible assumption) | assumption)
                                    have q192 : x11_3 < (x7_3.length : Int) := of_decide_eq_true (by first | (with_reducible assumption) | assumption)
                                    obtain ⟨ad192, e192, hx192_0⟩ := Kd.at_int (Kd.R_reads' HO_7.out).2.2 x11_3 p192 q192
                                    obtain rfl : ad190 = ad192 := (by injection e192)
                                    replace p192 := eq_true p192
                                    replace q192 := eq_true q192
                                    have p193 : 0 ≤ ((ji24) : Int) := of_decide_eq_true (by first | (with_reducible assumption) | assumption)
                                    have q193 : (ji24) < (x7_3.length : Int) := of_decide_eq_true (by first | (with_reducible assumption) | assumption)
                                    obtain ⟨ad193, e193, hx193_0⟩ := Kd.at_int (Kd.R_reads' HO_7.out).2.2 (ji24) p193 q193
                                    obtain rfl : ad190 = ad193 := (by injection e193)
                                    replace p193 := eq_true p193
                                    replace q193 := eq_true q193
                                    go_wp2
                                    repeat (go_quiet (fail); try go_wp2)
                                    go_loopg [65] k3 (fun kq v65 w' => ∃ (x7_4 : List Int) (x65_4 : Int), v65 = .int .i64 x65_4 ∧ Aside0 (impl_classes.l3 kq a0 x7_4 (rd y186 x31_2) x11_3 ji27 ji28 y186 (y186.length : Int) x31_2 (x7_3.length : Int) x65_4 = some r) ∧ Aside0 (kq ≤ k3) ∧ Aside0 (Kd.R (Kd.int .i64) 2 w' w.heap.size (fun k_ => some k_ ≠ ((.slice (some ad189) y186.length co17) : Value).ownBlock) (.slice (some ad190) x7_3.length co8) x7_4) ∧ Aside0 (Kd.R (Kd.int .i64) 2 w' w.heap.size (fun k_ => some k_ ≠ ((.slice (some ad190) x7_3.length co8) : Value).ownBlock) (.slice (some ad189) y186.length co17) y186) ∧ Aside0 (Below w.heap.size w w'))
                                    case atStart => exact ⟨(x7_3), (0), (by first | rfl | (simp; done) | (simp [*]; done)), H', ⟨Nat.le_refl _⟩, ⟨by (try simp only [hl7_1]); (try simp only [hl7_2]); (try simp only [hl7_3]); (with_reducible repeat (first | apply Kd.R_alloc | apply Kd.R_drewN | apply Kd.R_drew)); exact HO_7.out⟩, ⟨by (try simp only [hl7_1]); (try simp only [hl7_2]); (try simp only [hl7_3]); (with_reducible repeat (first | apply Kd.R_alloc | apply Kd.R_drewN | apply Kd.R_drew)); exact HO_29.out⟩, ⟨by repeat (first | (with_reducible first | exact HB.out | apply below_alloc | apply pw_below_drewN | apply below_drew1) | exact HB.out)⟩⟩
                                    case round =>
                                      clear H'
                                      try clear c1
                                      try clear p1
                                      try clear q1
                                      try clear hx1
                                      try clear c2
                                      try clear p2
                                      try clear c4
                                      try clear c4b0
                                      try clear c4b1
                                      try clear c5
                                      try clear c5b0
                                      try clear c5b1
                                      try clear p6
                                      try clear c7
                                      try clear c9
                                      try clear c9b0
                                      try clear c10
                                      try clear c10b0
                                      try clear c11
                                      try clear c11b0
                                      try clear p12
                                      try clear q12
                                      try clear hx12
                                      try clear hf12
                                      try clear c18
                                      try clear c18b0
                                      try clear p18
                                      try clear q18
                                      try clear hx18
                                      try clear c19
                                      try clear c19b0
                                      try clear p19
                                      try clear q19
                                      try clear hx19
                                      try clear c20
                                      try clear c20b0
                                      try clear c21
                                      try clear c21b0
                                      try clear c22
                                      try clear c22b0
                                      try clear c23
                                      try clear c23b0
                                      try clear c25
                                      try clear c25b0
                                      try clear c26
                                      try clear c26b0
                                      try clear hx12_0
                                      try clear hx189_0
                                      try clear hx190_0
                                      try clear hx191_0
                                      try clear hx192_0
                                      try clear hx193_0
                                      try clear p1
                                      try clear p12
                                      try clear p18
                                      try clear p189
                                      try clear p190
                                      try clear p191
                                      try clear p192
                                      try clear p193
                                      try clear p2
                                      try clear p6
                                      try clear q1
                                      try clear q12
                                      try clear q18
                                      try clear q189
                                      try clear q190
                                      try clear q191
                                      try clear q192
                                      try clear q193
                                      obtain ⟨x7_4, x65_4, rfl, HA, HK4, HO_7, HO_29, HB⟩ := hrel
                                      have hl7_4 := (Kd.R_reads' HO_7.out).1
                                      rw [hl7_4] at HO_7
                                      (try simp only [hl7_4])
                                      (try simp only [hl7_4] at HO_29)
                                      cases gk with
                                      | zero => exact absurd HA.out (by simp [impl_classes.l3])
                                      | succ k4 =>
                                        have H := HA.out
                                        clear HA
                                        simp only [impl_classes.l3] at H
                                        by_cases c29 : x65_4 < (x7_3.length : Int)
                                        · rw [if_pos c29] at H
                                          have c29b0 : decide (x65_4 < (x7_3.length : Int)) = true := decide_eq_true c29
                                          (try (have c29b0_hl7_1a := c29b0; rw [hl7_1] at c29b0_hl7_1a))
                                          (try (have c29b0_hl7_1a_hl7_2 := c29b0; rw [hl7_1, hl7_2] at c29b0_hl7_1a_hl7_2))
                                          (try (have c29b0_hl7_1a_hl7_3 := c29b0; rw [hl7_1, hl7_3] at c29b0_hl7_1a_hl7_3))
                                          (try (have c29b0_hl7_1a_hl7_4 := c29b0; rw [hl7_1, hl7_4] at c29b0_hl7_1a_hl7_4))
                                          (try (have c29b0_hl7_1b := c29b0; rw [← hl7_1] at c29b0_hl7_1b))
                                          (try (have c29b0_hl7_1b_hl7_2 := c29b0; rw [← hl7_1, ← hl7_2] at c29b0_hl7_1b_hl7_2))
                                          (try (have c29b0_hl7_1b_hl7_3 := c29b0; rw [← hl7_1, ← hl7_3] at c29b0_hl7_1b_hl7_3))
                                          (try (have c29b0_hl7_1b_hl7_4 := c29b0; rw [← hl7_1, ← hl7_4] at c29b0_hl7_1b_hl7_4))
                                          (try (have c29b0_hl7_2a := c29b0; rw [hl7_2] at c29b0_hl7_2a))
                                          (try (have c29b0_hl7_2a_hl7_1 := c29b0; rw [hl7_2, hl7_1] at c29b0_hl7_2a_hl7_1))
                                          (try (have c29b0_hl7_2a_hl7_3 := c29b0; rw [hl7_2, hl7_3] at c29b0_hl7_2a_hl7_3))
                                          (try (have c29b0_hl7_2a_hl7_4 := c29b0; rw [hl7_2, hl7_4] at c29b0_hl7_2a_hl7_4))
                                          (try (have c29b0_hl7_2b := c29b0; rw [← hl7_2] at c29b0_hl7_2b))
                                          (try (have c29b0_hl7_2b_hl7_1 := c29b0; rw [← hl7_2, ← hl7_1] at c29b0_hl7_2b_hl7_1))
                                          (try (have c29b0_hl7_2b_hl7_3 := c29b0; rw [← hl7_2, ← hl7_3] at c29b0_hl7_2b_hl7_3))
                                          (try (have c29b0_hl7_2b_hl7_4 := c29b0; rw [← hl7_2, ← hl7_4] at c29b0_hl7_2b_hl7_4))
                                          (try (have c29b0_hl7_3a := c29b0; rw [hl7_3] at c29b0_hl7_3a))
                                          (try (have c29b0_hl7_3a_hl7_1 := c29b0; rw [hl7_3, hl7_1] at c29b0_hl7_3a_hl7_1))
                                          (try (have c29b0_hl7_3a_hl7_2 := c29b0; rw [hl7_3, hl7_2] at c29b0_hl7_3a_hl7_2))
                                          (try (have c29b0_hl7_3a_hl7_4 := c29b0; rw [hl7_3, hl7_4] at c29b0_hl7_3a_hl7_4))
                                          (try (have c29b0_hl7_3b := c29b0; rw [← hl7_3] at c29b0_hl7_3b))
                                          (try (have c29b0_hl7_3b_hl7_1 := c29b0; rw [← hl7_3, ← hl7_1] at c29b0_hl7_3b_hl7_1))
                                          (try (have c29b0_hl7_3b_hl7_2 := c29b0; rw [← hl7_3, ← hl7_2] at c29b0_hl7_3b_hl7_2))
                                          (try (have c29b0_hl7_3b_hl7_4 := c29b0; rw [← hl7_3, ← hl7_4] at c29b0_hl7_3b_hl7_4))
                                          (try (have c29b0_hl7_4a := c29b0; rw [hl7_4] at c29b0_hl7_4a))
                                          (try (have c29b0_hl7_4a_hl7_1 := c29b0; rw [hl7_4, hl7_1] at c29b0_hl7_4a_hl7_1))
                                          (try (have c29b0_hl7_4a_hl7_2 := c29b0; rw [hl7_4, hl7_2] at c29b0_hl7_4a_hl7_2))
                                          (try (have c29b0_hl7_4a_hl7_3 := c29b0; rw [hl7_4, hl7_3] at c29b0_hl7_4a_hl7_3))
                                          (try (have c29b0_hl7_4b := c29b0; rw [← hl7_4] at c29b0_hl7_4b))
                                          (try (have c29b0_hl7_4b_hl7_1 := c29b0; rw [← hl7_4, ← hl7_1] at c29b0_hl7_4b_hl7_1))
                                          (try (have c29b0_hl7_4b_hl7_2 := c29b0; rw [← hl7_4, ← hl7_2] at c29b0_hl7_4b_hl7_2))
                                          (try (have c29b0_hl7_4b_hl7_3 := c29b0; rw [← hl7_4, ← hl7_3] at c29b0_hl7_4b_hl7_3))
                                          clear c29
                                          by_cases c30 : 0 ≤ x65_4
                                          · rw [if_pos c30] at H
                                            have c30b0 : decide (0 ≤ x65_4) = true := decide_eq_true c30
                                            clear c30
                                            by_cases c31 : x65_4 < (x7_4.length : Int)
                                            · rw [if_pos c31] at H
                                              have c31b0 : decide (x65_4 < (x7_4.length : Int)) = true := decide_eq_true c31
                                              (try (have c31b0_hl7_1a := c31b0; rw [hl7_1] at c31b0_hl7_1a))
                                              (try (have c31b0_hl7_1a_hl7_2 := c31b0; rw [hl7_1, hl7_2] at c31b0_hl7_1a_hl7_2))
                                              (try (have c31b0_hl7_1a_hl7_3 := c31b0; rw [hl7_1, hl7_3] at c31b0_hl7_1a_hl7_3))
                                              (try (have c31b0_hl7_1a_hl7_4 := c31b0; rw [hl7_1, hl7_4] at c31b0_hl7_1a_hl7_4))
                                              (try (have c31b0_hl7_1b := c31b0; rw [← hl7_1] at c31b0_hl7_1b))
                                              (try (have c31b0_hl7_1b_hl7_2 := c31b0; rw [← hl7_1, ← hl7_2] at c31b0_hl7_1b_hl7_2))
                                              (try (have c31b0_hl7_1b_hl7_3 := c31b0; rw [← hl7_1, ← hl7_3] at c31b0_hl7_1b_hl7_3))
                                              (try (have c31b0_hl7_1b_hl7_4 := c31b0; rw [← hl7_1, ← hl7_4] at c31b0_hl7_1b_hl7_4))
                                              (try (have c31b0_hl7_2a := c31b0; rw [hl7_2] at c31b0_hl7_2a))
                                              (try (have c31b0_hl7_2a_hl7_1 := c31b0; rw [hl7_2, hl7_1] at c31b0_hl7_2a_hl7_1))
                                              (try (have c31b0_hl7_2a_hl7_3 := c31b0; rw [hl7_2, hl7_3] at c31b0_hl7_2a_hl7_3))
                                              (try (have c31b0_hl7_2a_hl7_4 := c31b0; rw [hl7_2, hl7_4] at c31b0_hl7_2a_hl7_4))
                                              (try (have c31b0_hl7_2b := c31b0; rw [← hl7_2] at c31b0_hl7_2b))
                                              (try (have c31b0_hl7_2b_hl7_1 := c31b0; rw [← hl7_2, ← hl7_1] at c31b0_hl7_2b_hl7_1))
                                              (try (have c31b0_hl7_2b_hl7_3 := c31b0; rw [← hl7_2, ← hl7_3] at c31b0_hl7_2b_hl7_3))
                                              (try (have c31b0_hl7_2b_hl7_4 := c31b0; rw [← hl7_2, ← hl7_4] at c31b0_hl7_2b_hl7_4))
                                              (try (have c31b0_hl7_3a := c31b0; rw [hl7_3] at c31b0_hl7_3a))
                                              (try (have c31b0_hl7_3a_hl7_1 := c31b0; rw [hl7_3, hl7_1] at c31b0_hl7_3a_hl7_1))
                                              (try (have c31b0_hl7_3a_hl7_2 := c31b0; rw [hl7_3, hl7_2] at c31b0_hl7_3a_hl7_2))
                                              (try (have c31b0_hl7_3a_hl7_4 := c31b0; rw [hl7_3, hl7_4] at c31b0_hl7_3a_hl7_4))
                                              (try (have c31b0_hl7_3b := c31b0; rw [← hl7_3] at c31b0_hl7_3b))
                                              (try (have c31b0_hl7_3b_hl7_1 := c31b0; rw [← hl7_3, ← hl7_1] at c31b0_hl7_3b_hl7_1))
                                              (try (have c31b0_hl7_3b_hl7_2 := c31b0; rw [← hl7_3, ← hl7_2] at c31b0_hl7_3b_hl7_2))
                                              (try (have c31b0_hl7_3b_hl7_4 := c31b0; rw [← hl7_3, ← hl7_4] at c31b0_hl7_3b_hl7_4))
                                              (try (have c31b0_hl7_4a := c31b0; rw [hl7_4] at c31b0_hl7_4a))
                                              (try (have c31b0_hl7_4a_hl7_1 := c31b0; rw [hl7_4, hl7_1] at c31b0_hl7_4a_hl7_1))
                                              (try (have c31b0_hl7_4a_hl7_2 := c31b0; rw [hl7_4, hl7_2] at c31b0_hl7_4a_hl7_2))
                                              (try (have c31b0_hl7_4a_hl7_3 := c31b0; rw [hl7_4, hl7_3] at c31b0_hl7_4a_hl7_3))
                                              (try (have c31b0_hl7_4b := c31b0; rw [← hl7_4] at c31b0_hl7_4b))
                                              (try (have c31b0_hl7_4b_hl7_1 := c31b0; rw [← hl7_4, ← hl7_1] at c31b0_hl7_4b_hl7_1))
                                              (try (have c31b0_hl7_4b_hl7_2 := c31b0; rw [← hl7_4, ← hl7_2] at c31b0_hl7_4b_hl7_2))
                                              (try (have c31b0_hl7_4b_hl7_3 := c31b0; rw [← hl7_4, ← hl7_3] at c31b0_hl7_4b_hl7_3))
                                              clear c31
                                              by_cases c32 : (rd x7_4 x65_4) = ji28
                                              · rw [if_pos c32] at H
                                                have c32b0 : ((rd x7_4 x65_4) == ji28) = true := beq_iff_eq.mpr c32
                                                have c32b1 : ((rd x7_4 x65_4) != ji28) = false := bne_eq_false_iff_eq.mpr c32
                                                clear c32
                                                obtain ⟨y195, hy195⟩ : ∃ y_ : List Int, y_ = (x7_4.set (x65_4 : Int).toNat ji27) := ⟨_, rfl⟩
                                                replace H : (impl_classes.l3 k4 a0 y195 (rd y186 x31_2) x11_3 ji27 ji28 y186 (y186.length : Int) x31_2 (x7_3.length : Int) (wrap64 (x65_4 + 1))) = some r := by first | (rw [hy195]; with_reducible exact H) | (have H2_ := (Option.bind_some _ _).symm.trans H; rw [hy195]; with_reducible exact H2_) | (have H2_ := (Option.bind_some _ _).symm.trans H; with_reducible exact H2_) | with_reducible exact H | (rw [hy195]; exact H) | exact H
                                                have Ny195 := Aside0.mk hy195
                                                clear hy195
                                                have H' := Aside0.mk H
                                                clear H
                                                have p194 : 0 ≤ (x65_4 : Int) := of_decide_eq_true (by first | (with_reducible assumption) | assumption)
                                                have q194 : x65_4 < (x7_4.length : Int) := of_decide_eq_true (by first | (with_reducible assumption) | assumption)
                                                obtain ⟨ad194, e194, hx194_0⟩ := Kd.at_int (Kd.R_reads' HO_7.out).2.2 x65_4 p194 q194
                                                obtain rfl : ad190 = ad194 := (by injection e194)
                                                replace p194 := eq_true p194
                                                replace q194 := eq_true q194
                                                have p33 : 0 ≤ (x65_4 : Int) := of_decide_eq_true (by first | (with_reducible assumption) | assumption)
                                                have q33 : (x65_4 : Int) < ((x7_4.length : Int) : Int) := of_decide_eq_true (by first | (with_reducible assumption) | assumption)
                                                obtain ⟨go33, co33, eo33, gb33, gl33, cl33, HG33⟩ := Kd.R_form HO_7.out (by omega)
                                                (first | cases eo33 | (injection eo33 with ea_ en_ ec_; (first | subst ea_ | (injection ea_ with ea_; subst ea_)); subst ec_; clear en_))
                                                have GB33 := Aside0.mk gb33
                                                have GG33 := Aside0.mk HG33
                                                clear gb33 gl33 HG33
                                                (first | simp only [add_plain] at hx190_0 | skip)
                                                (first | simp only [add_plain] at hx191_0 | skip)
                                                (first | simp only [add_plain] at hx192_0 | skip)
                                                (first | simp only [add_plain] at hx193_0 | skip)
                                                (first | simp only [add_plain] at hx194_0 | skip)
                                                obtain ⟨hx33_0, hf33_0⟩ := Kd.R_celln 0 HO_7.out (x65_4 : Int) p33 q33
                                                replace p33 := eq_true p33
                                                replace q33 := eq_true q33
                                                have HP34 := Kd.R_putg HO_7.out (x65_4 : Int) ji27
                                                go_wp2_with (first | ((with_reducible refine gate_store (t := 2) (p := 77) rfl ?_); (try (rw [drewN_self wr]; generalize hq_ : World.drewN wr _ = wr; have n0_ := Aside0.mk (Kd.R_at hq_ HO_7.out); have n1_ := Aside0.mk (Kd.R_at hq_ HO_29.out); have n2_ := Aside0.mk (below_at hq_ HB.out); clear hq_ HO_7 HO_29 HB; have HO_7 := n0_; have HO_29 := n1_; have HB := n2_; clear n0_ n1_ n2_; (try (have HP34 := Kd.R_putg HO_7.out (x65_4 : Int) ji27)))); refine store_event (t := 2) (p := 77) (v := ?vo_w35) (w1 := (wr.setCell ⟨go33, (x65_4 : Int).toNat, none⟩ (.int .i64 ji27))) ?hg ?ho ?hn ?hr ?_; (case ho => rfl); (case hg => rfl); (case hn => rfl); (case hr => first | (go_simp; done) | (go_simp; rfl)); intro w35 hw; have hg : wr.grownBy w35 (some go33) := (by rw [hw]; exact HP34.2); have hp_ : Kd.R (Kd.int .i64) 2 w35 w.heap.size (fun k_ => some k_ ≠ (.slice (some ad189) y186.length co17 : Value).ownBlock) (.slice (some ⟨go33, 0, none⟩) x7_4.length co8) y195 := (by rw [hw, Ny195.out]; exact HP34.1); clear HP34; have n0_ := Aside0.mk (hp_); have n1_ := Aside0.mk (Kd.R_after (v := (.slice (some ⟨go33, 0, none⟩) x7_4.length co8)) (v1 := (.slice (some ⟨go33, 0, none⟩) x7_4.length co8)) (ok := (fun _ => True)) (by (with_reducible repeat (first | apply Kd.R_alloc | apply Kd.R_drewN | apply Kd.R_drew)); exact Kd.R_mono HO_29.out (fun _ hk => ⟨trivial, hk⟩)) hg (.inl rfl)); have n2_ := Aside0.mk ((by rw [hw]; exact below_set (HB.out) GB33.out : Below w.heap.size w w35)); clear HO_7; clear HO_29; clear HB; have HO_7 := n0_; have HO_29 := n1_; have HB := n2_; clear n0_ n1_ n2_; clear hg hw hp_))
                                                repeat (go_quiet (first | ((with_reducible refine gate_store (t := 2) (p := 77) rfl ?_); (try (rw [drewN_self wr]; generalize hq_ : World.drewN wr _ = wr; have n0_ := Aside0.mk (Kd.R_at hq_ HO_7.out); have n1_ := Aside0.mk (Kd.R_at hq_ HO_29.out); have n2_ := Aside0.mk (below_at hq_ HB.out); clear hq_ HO_7 HO_29 HB; have HO_7 := n0_; have HO_29 := n1_; have HB := n2_; clear n0_ n1_ n2_; (try (have HP34 := Kd.R_putg HO_7.out (x65_4 : Int) ji27)))); refine store_event (t := 2) (p := 77) (v := ?vo_w35) (w1 := (wr.setCell ⟨go33, (x65_4 : Int).toNat, none⟩ (.int .i64 ji27))) ?hg ?ho ?hn ?hr ?_; (case ho => rfl); (case hg => rfl); (case hn => rfl); (case hr => first | (go_simp; done) | (go_simp; rfl)); intro w35 hw; have hg : wr.grownBy w35 (some go33) := (by rw [hw]; exact HP34.2); have hp_ : Kd.R (Kd.int .i64) 2 w35 w.heap.size (fun k_ => some k_ ≠ (.slice (some ad189) y186.length co17 : Value).ownBlock) (.slice (some ⟨go33, 0, none⟩) x7_4.length co8) y195 := (by rw [hw, Ny195.out]; exact HP34.1); clear HP34; have n0_ := Aside0.mk (hp_); have n1_ := Aside0.mk (Kd.R_after (v := (.slice (some ⟨go33, 0, none⟩) x7_4.length co8)) (v1 := (.slice (some ⟨go33, 0, none⟩) x7_4.length co8)) (ok := (fun _ => True)) (by (with_reducible repeat (first | apply Kd.R_alloc | apply Kd.R_drewN | apply Kd.R_drew)); exact Kd.R_mono HO_29.out (fun _ hk => ⟨trivial, hk⟩)) hg (.inl rfl)); have n2_ := Aside0.mk ((by rw [hw]; exact below_set (HB.out) GB33.out : Below w.heap.size w w35)); clear HO_7; clear HO_29; clear HB; have HO_7 := n0_; have HO_29 := n1_; have HB := n2_; clear n0_ n1_ n2_; clear hg hw hp_)); try go_wp2_with (first | ((with_reducible refine gate_store (t := 2) (p := 77) rfl ?_); (try (rw [drewN_self wr]; generalize hq_ : World.drewN wr _ = wr; have n0_ := Aside0.mk (Kd.R_at hq_ HO_7.out); have n1_ := Aside0.mk (Kd.R_at hq_ HO_29.out); have n2_ := Aside0.mk (below_at hq_ HB.out); clear hq_ HO_7 HO_29 HB; have HO_7 := n0_; have HO_29 := n1_; have HB := n2_; clear n0_ n1_ n2_; (try (have HP34 := Kd.R_putg HO_7.out (x65_4 : Int) ji27)))); refine store_event (t := 2) (p := 77) (v := ?vo_w35) (w1 := (wr.setCell ⟨go33, (x65_4 : Int).toNat, none⟩ (.int .i64 ji27))) ?hg ?ho ?hn ?hr ?_; (case ho => rfl); (case hg => rfl); (case hn => rfl); (case hr => first | (go_simp; done) | (go_simp; rfl)); intro w35 hw; have hg : wr.grownBy w35 (some go33) := (by rw [hw]; exact HP34.2); have hp_ : Kd.R (Kd.int .i64) 2 w35 w.heap.size (fun k_ => some k_ ≠ (.slice (some ad189) y186.length co17 : Value).ownBlock) (.slice (some ⟨go33, 0, none⟩) x7_4.length co8) y195 := (by rw [hw, Ny195.out]; exact HP34.1); clear HP34; have n0_ := Aside0.mk (hp_); have n1_ := Aside0.mk (Kd.R_after (v := (.slice (some ⟨go33, 0, none⟩) x7_4.length co8)) (v1 := (.slice (some ⟨go33, 0, none⟩) x7_4.length co8)) (ok := (fun _ => True)) (by (with_reducible repeat (first | apply Kd.R_alloc | apply Kd.R_drewN | apply Kd.R_drew)); exact Kd.R_mono HO_29.out (fun _ hk => ⟨trivial, hk⟩)) hg (.inl rfl)); have n2_ := Aside0.mk ((by rw [hw]; exact below_set (HB.out) GB33.out : Below w.heap.size w w35)); clear HO_7; clear HO_29; clear HB; have HO_7 := n0_; have HO_29 := n1_; have HB := n2_; clear n0_ n1_ n2_; clear hg hw hp_)))
                                                (try simp only [← hl7_4])
                                                (try rw [← add_plain go33 (x31_2 : Int).toNat])
                                                (try rw [← add_plain go33 (x11_3 : Int).toNat])
                                                (try rw [← add_plain go33 ((ji24) : Int).toNat])
                                                (try rw [← add_plain go33 (x65_4 : Int).toNat])
                                                go_roundg k4
                                                case measure => have := HK1.out; have := HK2.out; have := HK3.out; have := HK4.out; omega
                                                case rel => exact ⟨(y195), (wrap64 (x65_4 + 1)), (by first | rfl | (simp; done) | (simp [*]; done)), H', ⟨by have := HK1.out; have := HK2.out; have := HK3.out; have := HK4.out; omega⟩, ⟨by (try simp only [hl7_1]); (try simp only [hl7_2]); (try simp only [hl7_3]); (try simp only [hl7_4]); (with_reducible repeat (first | apply Kd.R_alloc | apply Kd.R_drewN | apply Kd.R_drew)); exact HO_7.out⟩, ⟨by (try simp only [hl7_1]); (try simp only [hl7_2]); (try simp only [hl7_3]); (try simp only [hl7_4]); (with_reducible repeat (first | apply Kd.R_alloc | apply Kd.R_drewN | apply Kd.R_drew)); exact Kd.R_mono HO_29.out (fun _ hk => hk.2)⟩, ⟨by repeat (first | (with_reducible first | exact HB.out | apply below_alloc | apply pw_below_drewN | apply below_drew1) | exact HB.out)⟩⟩
                                              · rw [if_neg c32] at H
                                                have c32b0 : ((rd x7_4 x65_4) == ji28) = false := beq_eq_false_iff_ne.mpr c32
                                                have c32b1 : ((rd x7_4 x65_4) != ji28) = true := bne_iff_ne.mpr c32
                                                have H' := Aside0.mk H
                                                clear H
                                                have p194 : 0 ≤ (x65_4 : Int) := of_decide_eq_true (by first | (with_reducible assumption) | assumption)
                                                have q194 : x65_4 < (x7_4.length : Int) := of_decide_eq_true (by first | (with_reducible assumption) | assumption)
                                                obtain ⟨ad194, e194, hx194_0⟩ := Kd.at_int (Kd.R_reads' HO_7.out).2.2 x65_4 p194 q194
                                                obtain rfl : ad190 = ad194 := (by injection e194)
                                                replace p194 := eq_true p194
                                                replace q194 := eq_true q194
                                                go_wp2
                                                repeat (go_quiet (fail); try go_wp2)
                                                (try simp only [← hl7_4])
                                                go_roundg k4
                                                case measure => have := HK1.out; have := HK2.out; have := HK3.out; have := HK4.out; omega
                                                case rel => exact ⟨(x7_4), (wrap64 (x65_4 + 1)), (by first | rfl | (simp; done) | (simp [*]; done)), H', ⟨by have := HK1.out; have := HK2.out; have := HK3.out; have := HK4.out; omega⟩, ⟨by (try simp only [hl7_1]); (try simp only [hl7_2]); (try simp only [hl7_3]); (try simp only [hl7_4]); (with_reducible repeat (first | apply Kd.R_alloc | apply Kd.R_drewN | apply Kd.R_drew)); exact HO_7.out⟩, ⟨by (try simp only [hl7_1]); (try simp only [hl7_2]); (try simp only [hl7_3]); (try simp only [hl7_4]); (with_reducible repeat (first | apply Kd.R_alloc | apply Kd.R_drewN | apply Kd.R_drew)); exact HO_29.out⟩, ⟨by repeat (first | (with_reducible first | exact HB.out | apply below_alloc | apply pw_below_drewN | apply below_drew1) | exact HB.out)⟩⟩
                                            · rw [if_neg c31] at H
                                              exact absurd H (by simp)
                                          · rw [if_neg c30] at H
                                            exact absurd H (by simp)
                                        · rw [if_neg c29] at H
                                          have c29b0 : decide (x65_4 < (x7_3.length : Int)) = false := decide_eq_false c29
                                          (try (have c29b0_hl7_1a := c29b0; rw [hl7_1] at c29b0_hl7_1a))
                                          (try (have c29b0_hl7_1a_hl7_2 := c29b0; rw [hl7_1, hl7_2] at c29b0_hl7_1a_hl7_2))
                                          (try (have c29b0_hl7_1a_hl7_3 := c29b0; rw [hl7_1, hl7_3] at c29b0_hl7_1a_hl7_3))
                                          (try (have c29b0_hl7_1a_hl7_4 := c29b0; rw [hl7_1, hl7_4] at c29b0_hl7_1a_hl7_4))
                                          (try (have c29b0_hl7_1b := c29b0; rw [← hl7_1] at c29b0_hl7_1b))
                                          (try (have c29b0_hl7_1b_hl7_2 := c29b0; rw [← hl7_1, ← hl7_2] at c29b0_hl7_1b_hl7_2))
                                          (try (have c29b0_hl7_1b_hl7_3 := c29b0; rw [← hl7_1, ← hl7_3] at c29b0_hl7_1b_hl7_3))
                                          (try (have c29b0_hl7_1b_hl7_4 := c29b0; rw [← hl7_1, ← hl7_4] at c29b0_hl7_1b_hl7_4))
                                          (try (have c29b0_hl7_2a := c29b0; rw [hl7_2] at c29b0_hl7_2a))
                                          (try (have c29b0_hl7_2a_hl7_1 := c29b0; rw [hl7_2, hl7_1] at c29b0_hl7_2a_hl7_1))
                                          (try (have c29b0_hl7_2a_hl7_3 := c29b0; rw [hl7_2, hl7_3] at c29b0_hl7_2a_hl7_3))
                                          (try (have c29b0_hl7_2a_hl7_4 := c29b0; rw [hl7_2, hl7_4] at c29b0_hl7_2a_hl7_4))
                                          (try (have c29b0_hl7_2b := c29b0; rw [← hl7_2] at c29b0_hl7_2b))
                                          (try (have c29b0_hl7_2b_hl7_1 := c29b0; rw [← hl7_2, ← hl7_1] at c29b0_hl7_2b_hl7_1))
                                          (try (have c29b0_hl7_2b_hl7_3 := c29b0; rw [← hl7_2, ← hl7_3] at c29b0_hl7_2b_hl7_3))
                                          (try (have c29b0_hl7_2b_hl7_4 := c29b0; rw [← hl7_2, ← hl7_4] at c29b0_hl7_2b_hl7_4))
                                          (try (have c29b0_hl7_3a := c29b0; rw [hl7_3] at c29b0_hl7_3a))
                                          (try (have c29b0_hl7_3a_hl7_1 := c29b0; rw [hl7_3, hl7_1] at c29b0_hl7_3a_hl7_1))
                                          (try (have c29b0_hl7_3a_hl7_2 := c29b0; rw [hl7_3, hl7_2] at c29b0_hl7_3a_hl7_2))
                                          (try (have c29b0_hl7_3a_hl7_4 := c29b0; rw [hl7_3, hl7_4] at c29b0_hl7_3a_hl7_4))
                                          (try (have c29b0_hl7_3b := c29b0; rw [← hl7_3] at c29b0_hl7_3b))
                                          (try (have c29b0_hl7_3b_hl7_1 := c29b0; rw [← hl7_3, ← hl7_1] at c29b0_hl7_3b_hl7_1))
                                          (try (have c29b0_hl7_3b_hl7_2 := c29b0; rw [← hl7_3, ← hl7_2] at c29b0_hl7_3b_hl7_2))
                                          (try (have c29b0_hl7_3b_hl7_4 := c29b0; rw [← hl7_3, ← hl7_4] at c29b0_hl7_3b_hl7_4))
                                          (try (have c29b0_hl7_4a := c29b0; rw [hl7_4] at c29b0_hl7_4a))
                                          (try (have c29b0_hl7_4a_hl7_1 := c29b0; rw [hl7_4, hl7_1] at c29b0_hl7_4a_hl7_1))
                                          (try (have c29b0_hl7_4a_hl7_2 := c29b0; rw [hl7_4, hl7_2] at c29b0_hl7_4a_hl7_2))
                                          (try (have c29b0_hl7_4a_hl7_3 := c29b0; rw [hl7_4, hl7_3] at c29b0_hl7_4a_hl7_3))
                                          (try (have c29b0_hl7_4b := c29b0; rw [← hl7_4] at c29b0_hl7_4b))
                                          (try (have c29b0_hl7_4b_hl7_1 := c29b0; rw [← hl7_4, ← hl7_1] at c29b0_hl7_4b_hl7_1))
                                          (try (have c29b0_hl7_4b_hl7_2 := c29b0; rw [← hl7_4, ← hl7_2] at c29b0_hl7_4b_hl7_2))
                                          (try (have c29b0_hl7_4b_hl7_3 := c29b0; rw [← hl7_4, ← hl7_3] at c29b0_hl7_4b_hl7_3))
                                          clear c29
                                          have H' := Aside0.mk H
                                          clear H
                                          go_wp2
                                          repeat (go_quiet (fail); try go_wp2)
                                          (try simp only [← hl7_3, ← hl7_4])
                                          go_roundg k4
                                          case measure => have := HK1.out; have := HK2.out; have := HK3.out; have := HK4.out; omega
                                          case rel => exact ⟨(x7_4), (wrap64 (x11_3 + 1)), (by first | rfl | (simp; done) | (simp [*]; done)), H', ⟨by have := HK1.out; have := HK2.out; have := HK3.out; have := HK4.out; omega⟩, ⟨by (try simp only [hl7_1]); (try simp only [hl7_2]); (try simp only [hl7_3]); (try simp only [hl7_4]); (with_reducible repeat (first | apply Kd.R_alloc | apply Kd.R_drewN | apply Kd.R_drew)); exact HO_7.out⟩, ⟨by (try simp only [hl7_1]); (try simp only [hl7_2]); (try simp only [hl7_3]); (try simp only [hl7_4]); (with_reducible repeat (first | apply Kd.R_alloc | apply Kd.R_drewN | apply Kd.R_drew)); exact HO_29.out⟩, ⟨by repeat (first | (with_reducible first | exact HB.out | apply below_alloc | apply pw_below_drewN | apply below_drew1) | exact HB.out)⟩⟩
                                  · rw [if_neg c26] at H
                                    exact absurd H (by simp)
                                · rw [if_neg c25] at H
                                  exact absurd H (by simp)
                              · rw [if_neg c23] at H
                                exact absurd H (by simp)
                            · rw [if_neg c22] at H
                              exact absurd H (by simp)
                          · rw [if_neg c21] at H
                            have c21b0 : decide (x11_3 < a0) = false := decide_eq_false c21
                            clear c21
                            have H' := Aside0.mk H
                            clear H
                            go_wp2
                            repeat (go_quiet (fail); try go_wp2)
                            (try simp only [← hl7_2, ← hl7_3])
                            go_roundg k3
                            case measure => have := HK1.out; have := HK2.out; have := HK3.out; omega
                            case rel => exact ⟨(x7_3), (wrap64 (x31_2 + 1)), (by first | rfl | (simp; done) | (simp [*]; done)), H', ⟨by have := HK1.out; have := HK2.out; have := HK3.out; omega⟩, ⟨by (try simp only [hl7_1]); (try simp only [hl7_2]); (try simp only [hl7_3]); (with_reducible repeat (first | apply Kd.R_alloc | apply Kd.R_drewN | apply Kd.R_drew)); exact HO_7.out⟩, ⟨by (try simp only [hl7_1]); (try simp only [hl7_2]); (try simp only [hl7_3]); (with_reducible repeat (first | apply Kd.R_alloc | apply Kd.R_drewN | apply Kd.R_drew)); exact HO_29.out⟩, ⟨by repeat (first | (with_reducible first | exact HB.out | apply below_alloc | apply pw_below_drewN | apply below_drew1) | exact HB.out)⟩⟩
                    · rw [if_neg c20] at H
                      exact absurd H (by simp)
                  · rw [if_neg c19] at H
                    exact absurd H (by simp)
                · rw [if_neg c18] at H
                  have c18b0 : decide (x31_2 < (y186.length : Int)) = false := decide_eq_false c18
                  (try (have c18b0_hl7_1a := c18b0; rw [hl7_1] at c18b0_hl7_1a))
                  (try (have c18b0_hl7_1a_hl7_2 := c18b0; rw [hl7_1, hl7_2] at c18b0_hl7_1a_hl7_2))
                  (try (have c18b0_hl7_1a_hl7_3 := c18b0; rw [hl7_1, hl7_3] at c18b0_hl7_1a_hl7_3))
                  (try (have c18b0_hl7_1a_hl7_4 := c18b0; rw [hl7_1, hl7_4] at c18b0_hl7_1a_hl7_4))
                  (try (have c18b0_hl7_1b := c18b0; rw [← hl7_1] at c18b0_hl7_1b))
                  (try (have c18b0_hl7_1b_hl7_2 := c18b0; rw [← hl7_1, ← hl7_2] at c18b0_hl7_1b_hl7_2))
                  (try (have c18b0_hl7_1b_hl7_3 := c18b0; rw [← hl7_1, ← hl7_3] at c18b0_hl7_1b_hl7_3))
                  (try (have c18b0_hl7_1b_hl7_4 := c18b0; rw [← hl7_1, ← hl7_4] at c18b0_hl7_1b_hl7_4))
                  (try (have c18b0_hl7_2a := c18b0; rw [hl7_2] at c18b0_hl7_2a))
                  (try (have c18b0_hl7_2a_hl7_1 := c18b0; rw [hl7_2, hl7_1] at c18b0_hl7_2a_hl7_1))
                  (try (have c18b0_hl7_2a_hl7_3 := c18b0; rw [hl7_2, hl7_3] at c18b0_hl7_2a_hl7_3))
                  (try (have c18b0_hl7_2a_hl7_4 := c18b0; rw [hl7_2, hl7_4] at c18b0_hl7_2a_hl7_4))
                  (try (have c18b0_hl7_2b := c18b0; rw [← hl7_2] at c18b0_hl7_2b))
                  (try (have c18b0_hl7_2b_hl7_1 := c18b0; rw [← hl7_2, ← hl7_1] at c18b0_hl7_2b_hl7_1))
                  (try (have c18b0_hl7_2b_hl7_3 := c18b0; rw [← hl7_2, ← hl7_3] at c18b0_hl7_2b_hl7_3))
                  (try (have c18b0_hl7_2b_hl7_4 := c18b0; rw [← hl7_2, ← hl7_4] at c18b0_hl7_2b_hl7_4))
                  (try (have c18b0_hl7_3a := c18b0; rw [hl7_3] at c18b0_hl7_3a))
                  (try (have c18b0_hl7_3a_hl7_1 := c18b0; rw [hl7_3, hl7_1] at c18b0_hl7_3a_hl7_1))
                  (try (have c18b0_hl7_3a_hl7_2 := c18b0; rw [hl7_3, hl7_2] at c18b0_hl7_3a_hl7_2))
                  (try (have c18b0_hl7_3a_hl7_4 := c18b0; rw [hl7_3, hl7_4] at c18b0_hl7_3a_hl7_4))
                  (try (have c18b0_hl7_3b := c18b0; rw [← hl7_3] at c18b0_hl7_3b))
                  (try (have c18b0_hl7_3b_hl7_1 := c18b0; rw [← hl7_3, ← hl7_1] at c18b0_hl7_3b_hl7_1))
                  (try (have c18b0_hl7_3b_hl7_2 := c18b0; rw [← hl7_3, ← hl7_2] at c18b0_hl7_3b_hl7_2))
                  (try (have c18b0_hl7_3b_hl7_4 := c18b0; rw [← hl7_3, ← hl7_4] at c18b0_hl7_3b_hl7_4))
                  (try (have c18b0_hl7_4a := c18b0; rw [hl7_4] at c18b0_hl7_4a))
                  (try (have c18b0_hl7_4a_hl7_1 := c18b0; rw [hl7_4, hl7_1] at c18b0_hl7_4a_hl7_1))
                  (try (have c18b0_hl7_4a_hl7_2 := c18b0; rw [hl7_4, hl7_2] at c18b0_hl7_4a_hl7_2))
                  (try (have c18b0_hl7_4a_hl7_3 := c18b0; rw [hl7_4, hl7_3] at c18b0_hl7_4a_hl7_3))
                  (try (have c18b0_hl7_4b := c18b0; rw [← hl7_4] at c18b0_hl7_4b))
                  (try (have c18b0_hl7_4b_hl7_1 := c18b0; rw [← hl7_4, ← hl7_1] at c18b0_hl7_4b_hl7_1))
                  (try (have c18b0_hl7_4b_hl7_2 := c18b0; rw [← hl7_4, ← hl7_2] at c18b0_hl7_4b_hl7_2))
                  (try (have c18b0_hl7_4b_hl7_3 := c18b0; rw [← hl7_4, ← hl7_3] at c18b0_hl7_4b_hl7_3))
                  clear c18
                  obtain rfl := Option.some.inj H
                  go_wp2
                  repeat (go_quiet (fail); try go_wp2)
                  go_ret
                  exact ⟨_, by first | rfl | (simp [errW_none, errW_some] <;> rfl) | (simp [*, errW_none, errW_some] <;> rfl), by (with_reducible repeat (first | apply Kd.R_alloc | apply Kd.R_drewN | apply Kd.R_drew)); exact Kd.R_mono HO_7.out (fun _ hk => trivial), by repeat (first | (with_reducible first | exact HB.out | apply below_alloc | apply pw_below_drewN | apply below_drew1) | exact HB.out)⟩
    · rw [if_neg c5] at H
      exact absurd H (by simp)
  · rw [if_neg c4] at H
    exact absurd H (by simp)

end Go.Proofs.Ytmihfmhfgjnfcaa.Q
