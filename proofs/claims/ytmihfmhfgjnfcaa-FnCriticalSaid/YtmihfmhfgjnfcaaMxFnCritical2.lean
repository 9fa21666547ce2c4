-- Printed texts of this session, joined by merge.py.
import Derived.Test.YtmihfmhfgjnfcaaQx0
import Derived.Test.YtmihfmhfgjnfcaaMxFnCritical0
import Derived.Test.YtmihfmhfgjnfcaaMxFnCritical1
namespace Go.Proofs.Ytmihfmhfgjnfcaa.Q
open Go.RowKit Go.Proofs.YtmihfmhfgjnfcaaW.PrintWords Go.Proofs.YtmihfmhfgjnfcaaW.PrintLast Go.Proofs.YtmihfmhfgjnfcaaW.PrintMore
attribute [local go_sem] max2_int min2_int max_two min_two max_three min_three max_four min_four bn_leq bn_gtr bn_geq   -- for this text's walks alone
set_option linter.unusedVariables false
set_option linter.unusedSimpArgs false

/-! ### laws_likeInts: function 47 -/
def laws_likeInts.l0 : Nat → List Int → List Int → Int → Option (Bool)
  | 0, _, _, _ => none
  | k + 1, x0, x1, x5 => if x5 < (x0.length : Int) then (if 0 ≤ x5 then (if x5 < (x1.length : Int) then (if (rd x0 x5) = (rd x1 x5) then (laws_likeInts.l0 k x0 x1 (wrap64 (x5 + 1))) else (some false)) else (none)) else (none)) else (some true)
def laws_likeInts.f (k : Nat) (l0 : List Int) (l1 : List Int) : Option (Bool) := if (l0.length : Int) = (l1.length : Int) then (laws_likeInts.l0 k l0 l1 0) else (some false)
theorem laws_likeInts.mono_l : ∀ k, (∀ y0 y1 y2, LeO (laws_likeInts.l0 k y0 y1 y2) (laws_likeInts.l0 (k + 1) y0 y1 y2))
  | 0 => fun _ _ _ r h => by simp [laws_likeInts.l0] at h
  | k + 1 => by
    have ih0 := laws_likeInts.mono_l k
    · intro y0 y1 y2
      unfold laws_likeInts.l0
      repeat' first
      | (with_reducible exact ih0 _ _ _)
      | (with_reducible exact LeO.refl _)
      | (with_reducible exact LeO.none _)
      | (with_reducible refine LeO.ite ?_ ?_)
      | (with_reducible refine LeO.bind ?_ (fun _ => ?_))
      | exact ih0 _ _ _
      | exact LeO.none _
      | refine LeO.ite ?_ ?_
      | refine LeO.bind ?_ (fun _ => ?_)
theorem laws_likeInts.mono : ∀ a0 a1 k, LeO (laws_likeInts.f k a0 a1) (laws_likeInts.f (k + 1) a0 a1) := by
  intro a0 a1 k
  have ih0 := laws_likeInts.mono_l k
  unfold laws_likeInts.f
  repeat' first
      | (with_reducible exact ih0 _ _ _)
      | (with_reducible exact LeO.refl _)
      | (with_reducible exact LeO.none _)
      | (with_reducible refine LeO.ite ?_ ?_)
      | (with_reducible refine LeO.bind ?_ (fun _ => ?_))
      | exact ih0 _ _ _
      | exact LeO.none _
      | refine LeO.ite ?_ ?_
      | refine LeO.bind ?_ (fun _ => ?_)
set_option maxHeartbeats 8000000 in
set_option maxRecDepth 100000 in
theorem laws_likeInts.calls (k : Nat) (A0 : Option Addr) (c0 : Nat) (l0 : List Int) (A1 : Option Addr) (c1 : Nat) (l1 : List Int) (r : Bool) (w : World) (hr0 : Kd.C (Kd.int .i64) w A0 l0.length l0) (hc0 : l0.length ≤ c0) (hr1 : Kd.C (Kd.int .i64) w A1 l1.length l1) (hc1 : l1.length ≤ c1) (h : laws_likeInts.f k l0 l1 = some r) :
    Calls Try.prog 47 #[.slice A0 l0.length c0, .slice A1 l1.length c1] w fun e w' => e = .returned (.bool r) ∧ Drawn0 w w' := by
  have HR0 := Aside0.mk hr0
  have HC0 := Aside0.mk hc0
  clear hr0 hc0
  have HR1 := Aside0.mk hr1
  have HC1 := Aside0.mk hc1
  clear hr1 hc1
  have H : (if (l0.length : Int) = (l1.length : Int) then (laws_likeInts.l0 k l0 l1 0) else (some false)) = some r := h
  clear h
  by_cases c3 : (l0.length : Int) = (l1.length : Int)
  · rw [if_pos c3] at H
    have c3b0 : ((l0.length : Int) == (l1.length : Int)) = true := beq_iff_eq.mpr c3
    have c3b1 : ((l0.length : Int) != (l1.length : Int)) = false := bne_eq_false_iff_eq.mpr c3
    have c3b2 : (l0.length == l1.length) = true := by first | simpa using c3 | (simp at c3 ⊢; omega)
    clear c3
    have H' := Aside0.mk H
    clear H
    go_enter Try.func47, Try.ntmps47
    go_wp2
    repeat (go_quiet (fail); try go_wp2)
    go_loopg [5] k (fun kq v5 w' => ∃ (x5_1 : Int), v5 = .int .i64 x5_1 ∧ Aside0 (laws_likeInts.l0 kq l0 l1 x5_1 = some r) ∧ Aside0 (kq ≤ k) ∧ Drawn0 w w')
    case atStart => exact ⟨(0), (by first | rfl | (simp; done) | (simp [*]; done)), H', ⟨Nat.le_refl _⟩, by repeat (first | exact Drawn0.refl _ | apply Drawn0.step)⟩
    case round =>
      clear H'
      try clear c1
      try clear p2
      try clear c3
      try clear c3b0
      try clear c3b1
      try clear c3b2
      obtain ⟨x5_1, rfl, HA, HK1, ⟨m1, rfl⟩⟩ := hrel
      cases gk with
      | zero => exact absurd HA.out (by simp [laws_likeInts.l0])
      | succ k1 =>
        have H := HA.out
        clear HA
        simp only [laws_likeInts.l0] at H
        by_cases c4 : x5_1 < (l0.length : Int)
        · rw [if_pos c4] at H
          have c4b0 : decide (x5_1 < (l0.length : Int)) = true := decide_eq_true c4
          clear c4
          by_cases c5 : 0 ≤ x5_1
          · rw [if_pos c5] at H
            have c5b0 : decide (0 ≤ x5_1) = true := decide_eq_true c5
            clear c5
            by_cases c6 : x5_1 < (l1.length : Int)
            · rw [if_pos c6] at H
              have c6b0 : decide (x5_1 < (l1.length : Int)) = true := decide_eq_true c6
              clear c6
              by_cases c7 : (rd l0 x5_1) = (rd l1 x5_1)
              · rw [if_pos c7] at H
                have c7b0 : ((rd l0 x5_1) == (rd l1 x5_1)) = true := beq_iff_eq.mpr c7
                have c7b1 : ((rd l0 x5_1) != (rd l1 x5_1)) = false := bne_eq_false_iff_eq.mpr c7
                clear c7
                have H' := Aside0.mk H
                clear H
                have p730 : 0 ≤ (x5_1 : Int) := of_decide_eq_true (by first | (with_reducible assumption) | assumption)
                have q730 : x5_1 < (l0.length : Int) := of_decide_eq_true (by first | (with_reducible assumption) | assumption)
                obtain ⟨ad730, e730, hx730_0⟩ := Kd.at_int HR0.out x5_1 p730 q730
                cases e730
                replace p730 := eq_true p730
                replace q730 := eq_true q730
                have p731 : 0 ≤ (x5_1 : Int) := of_decide_eq_true (by first | (with_reducible assumption) | assumption)
                have q731 : x5_1 < (l1.length : Int) := of_decide_eq_true (by first | (with_reducible assumption) | assumption)
                obtain ⟨ad731, e731, hx731_0⟩ := Kd.at_int HR1.out x5_1 p731 q731
                cases e731
                replace p731 := eq_true p731
                replace q731 := eq_true q731
                go_wp2
                repeat (go_quiet (fail); try go_wp2)
                go_roundg k1
                case measure => have := HK1.out; omega
                case rel => exact ⟨(wrap64 (x5_1 + 1)), (by first | rfl | (simp; done) | (simp [*]; done)), H', ⟨by have := HK1.out; omega⟩, by repeat (first | exact Drawn0.refl _ | apply Drawn0.step)⟩
              · rw [if_neg c7] at H
                have c7b0 : ((rd l0 x5_1) == (rd l1 x5_1)) = false := beq_eq_false_iff_ne.mpr c7
                have c7b1 : ((rd l0 x5_1) != (rd l1 x5_1)) = true := bne_iff_ne.mpr c7
                obtain rfl := Option.some.inj H
                have p730 : 0 ≤ (x5_1 : Int) := of_decide_eq_true (by first | (with_reducible assumption) | assumption)
                have q730 : x5_1 < (l0.length : Int) := of_decide_eq_true (by first | (with_reducible assumption) | assumption)
                obtain ⟨ad730, e730, hx730_0⟩ := Kd.at_int HR0.out x5_1 p730 q730
                cases e730
                replace p730 := eq_true p730
                replace q730 := eq_true q730
                have p731 : 0 ≤ (x5_1 : Int) := of_decide_eq_true (by first | (with_reducible assumption) | assumption)
                have q731 : x5_1 < (l1.length : Int) := of_decide_eq_true (by first | (with_reducible assumption) | assumption)
                obtain ⟨ad731, e731, hx731_0⟩ := Kd.at_int HR1.out x5_1 p731 q731
                cases e731
                replace p731 := eq_true p731
                replace q731 := eq_true q731
                go_wp2
                repeat (go_quiet (fail); try go_wp2)
                go_ret
                exact ⟨by first | rfl | (simp; done) | (simp [*]; done), by repeat (first | exact Drawn0.refl _ | apply Drawn0.step)⟩
            · rw [if_neg c6] at H
              exact absurd H (by simp)
          · rw [if_neg c5] at H
            exact absurd H (by simp)
        · rw [if_neg c4] at H
          have c4b0 : decide (x5_1 < (l0.length : Int)) = false := decide_eq_false c4
          clear c4
          obtain rfl := Option.some.inj H
          go_wp2
          repeat (go_quiet (fail); try go_wp2)
          go_ret
          exact ⟨by first | rfl | (simp; done) | (simp [*]; done), by repeat (first | exact Drawn0.refl _ | apply Drawn0.step)⟩
  · rw [if_neg c3] at H
    have c3b0 : ((l0.length : Int) == (l1.length : Int)) = false := beq_eq_false_iff_ne.mpr c3
    have c3b1 : ((l0.length : Int) != (l1.length : Int)) = true := bne_iff_ne.mpr c3
    have c3b2 : (l0.length == l1.length) = false := by first | simpa using c3 | (simp at c3 ⊢; omega)
    obtain rfl := Option.some.inj H
    go_enter Try.func47, Try.ntmps47
    go_wp2
    repeat (go_quiet (fail); try go_wp2)
    go_ret
    exact ⟨by first | rfl | (simp; done) | (simp [*]; done), by repeat (first | exact Drawn0.refl _ | apply Drawn0.step)⟩

end Go.Proofs.Ytmihfmhfgjnfcaa.Q

namespace Go.Proofs.Ytmihfmhfgjnfcaa.Q
open Go.RowKit Go.Proofs.YtmihfmhfgjnfcaaW.PrintWords Go.Proofs.YtmihfmhfgjnfcaaW.PrintLast Go.Proofs.YtmihfmhfgjnfcaaW.PrintMore
attribute [local go_sem] max2_int min2_int max_two min_two max_three min_three max_four min_four bn_leq bn_gtr bn_geq   -- for this text's walks alone
set_option linter.unusedVariables false
set_option linter.unusedSimpArgs false

/-! ### spec_l01Near: function 102 -/
def spec_l01Near.f (s0_0 : List Int) (s0_1 : Int) (s0_2 : Int) (a1 : Int) : Option (Int × Int × Int) := (spec_l01Next.f s0_0 s0_1 s0_2 14).bind fun bt732 => (if bt732.1 = 0 then ((spec_l01Pick.f s0_0 bt732.2.1 bt732.2.2 (([(-1), wrap64 (a1 + 1), 1099511627776, (-4611686018427387904)] : List Int))).bind fun bt738 => (some (bt738.1, bt738.2.1, bt738.2.2))) else ((spec_l01Next.f s0_0 bt732.2.1 bt732.2.2 (wrap64 (a1 + 1))).bind fun bt741 => (some (bt741.1, bt741.2.1, bt741.2.2))))
set_option maxHeartbeats 8000000 in
set_option maxRecDepth 100000 in
theorem spec_l01Near.calls (g : Nat) (s0_0 : List Int) (s0_1 : Int) (s0_2 : Int) (a1 : Int) (r1 : Int) (r2 : Int) (r3 : Int) (w0 w : World) (hI : IsS120 w0 w g s0_0 s0_1 s0_2) (hB : Below w0.heap.size w0 w) (h : spec_l01Near.f s0_0 s0_1 s0_2 a1 = some (r1, r2, r3)) :
    Calls Try.prog 102 #[.pointer (some ⟨g, 0, none⟩), .int .i64 a1] w fun e w' => e = .returned (.int .i64 r1) ∧ IsS120 w0 w' g s0_0 r2 r3 ∧ Below w0.heap.size w0 w' ∧ KeepBut w w' g none := by
  have HI0 := Aside0.mk hI
  have HK := Aside0.mk (KeepBut.refl w g none)
  have HL := Aside0.mk hB.size
  clear hI
  have HW0 := Aside0.mk hB.size
  have HB := Aside0.mk hB
  clear hB
  have H : ((spec_l01Next.f s0_0 s0_1 s0_2 14).bind fun bt732 => (if bt732.1 = 0 then ((spec_l01Pick.f s0_0 bt732.2.1 bt732.2.2 (([(-1), wrap64 (a1 + 1), 1099511627776, (-4611686018427387904)] : List Int))).bind fun bt738 => (some (bt738.1, bt738.2.1, bt738.2.2))) else ((spec_l01Next.f s0_0 bt732.2.1 bt732.2.2 (wrap64 (a1 + 1))).bind fun bt741 => (some (bt741.1, bt741.2.1, bt741.2.2))))) = some (r1, r2, r3) := h
  clear h
  replace H := Option.bind_eq_some_iff.mp H
  obtain ⟨⟨t732, t733, t734⟩, A30, H⟩ := H
  replace H : (if t732 = 0 then ((spec_l01Pick.f s0_0 t733 t734 (([(-1), wrap64 (a1 + 1), 1099511627776, (-4611686018427387904)] : List Int))).bind fun bt738 => (some (bt738.1, bt738.2.1, bt738.2.2))) else ((spec_l01Next.f s0_0 t733 t734 (wrap64 (a1 + 1))).bind fun bt741 => (some (bt741.1, bt741.2.1, bt741.2.2)))) = some (r1, r2, r3) := H
  have A3 := Aside0.mk A30
  clear A30
  by_cases c4 : t732 = 0
  · rw [if_pos c4] at H
    have c4b0 : (t732 == 0) = true := beq_iff_eq.mpr c4
    have c4b1 : (t732 != 0) = false := bne_eq_false_iff_eq.mpr c4
    clear c4
    obtain ⟨y735, hy735⟩ : ∃ y_ : List Int, y_ = (([(-1), wrap64 (a1 + 1), 1099511627776, (-4611686018427387904)] : List Int)) := ⟨_, rfl⟩
    replace H : ((spec_l01Pick.f s0_0 t733 t734 y735).bind fun bt738 => (some (bt738.1, bt738.2.1, bt738.2.2))) = some (r1, r2, r3) := by first | (rw [hy735]; with_reducible exact H) | (have H2_ := (Option.bind_some _ _).symm.trans H; rw [hy735]; with_reducible exact H2_) | (have H2_ := (Option.bind_some _ _).symm.trans H; with_reducible exact H2_) | with_reducible exact H | (rw [hy735]; exact H) | exact H
    have Ny735 := Aside0.mk hy735
    clear hy735
    replace H := Option.bind_eq_some_iff.mp H
    obtain ⟨⟨t738, t739, t740⟩, A50, H⟩ := H
    replace H : (some (t738, t739, t740)) = some (r1, r2, r3) := H
    have A5 := Aside0.mk A50
    clear A50
    simp only [Option.some.injEq, Prod.mk.injEq] at H
    obtain ⟨rfl, rfl, rfl⟩ := H
    go_enter Try.func102, Try.ntmps102
    go_wp2_with (first | ((with_reducible refine gate_callee (f := 128) rfl ?_); refine goesL_ (some 6) rfl rfl Try.func128 (by kernel_rfl) rfl #[.pointer (some ⟨g, 0, none⟩), .int .i64 14] rfl (by (try simp only [List.map_toArray, List.map_cons, List.map_nil]); first | done | rfl | (simp only [List.length_drop, List.length_take]; rfl)) ?_; (with_reducible refine (spec_l01Next.calls g s0_0 s0_1 s0_2 14 t732 t733 t734 w0 _ ?side1 ?side2 A3.out).mono ?_); (case side1 => repeat (first | (with_reducible first | exact HI0.out | apply IsS120.alloc | apply IsS120.drewN | apply IsS120.drew | apply IsS120.set_1 | apply IsS120.set_2) | exact HI0.out)); (case side2 => repeat (first | (with_reducible first | exact HB.out | apply below_alloc | apply pw_below_drewN | apply below_drew1 | refine below_set ?_ (IsS120.ge HI0.out)) | exact HB.out)); rintro e w6 ⟨rfl, hi, hb, hk⟩; refine ⟨_, rfl, ?_⟩; have n0_ := Aside0.mk (KeepBut.trans (by repeat (first | (with_reducible first | exact HK.out | apply KeepBut.set_ | apply keep_drewN | apply keep_drew | apply keep_alloc) | exact HK.out)) hk (.inl rfl)); have n1_ := Aside0.mk (hb); have n2_ := Aside0.mk (hi); clear HK; clear HB; clear HI0; have HK := n0_; have HB := n1_; have HI0 := n2_; clear n0_ n1_ n2_; (try clear hb); (try clear hb2); (try clear hk); (try clear hi)) | ((with_reducible refine gate_dst (N := 11) rfl ?_); refine Kd.R_lit (Kd.int .i64) _ 2 ?hg (N := 11) ?hd (xs := ([(-1), wrap64 (a1 + 1), 1099511627776, (-4611686018427387904)] : List Int)) (inner := [.int .i64 (-1), .int .i64 (wrap64 (a1 + 1)), .int .i64 1099511627776, .int .i64 (-4611686018427387904)]) (ok := fun _ => True) (okp := fun _ => True) ?hr ?hp (fun _ hk => hk) trivial (Below.refl _ _) (Nat.le_refl _) (by simp) ?_; (case hd => rfl); (case hg => rfl); (case hr => first | (go_simp; done) | (go_simp; rfl)); (case hp => exact (Reps.one (show Kd.M (Kd.int .i64) _ _ _ (-1) [.int .i64 (-1)] from rfl) (Reps.one (show Kd.M (Kd.int .i64) _ _ _ (wrap64 (a1 + 1)) [.int .i64 (wrap64 (a1 + 1))] from rfl) (Reps.one (show Kd.M (Kd.int .i64) _ _ _ 1099511627776 [.int .i64 1099511627776] from rfl) (Reps.one (show Kd.M (Kd.int .i64) _ _ _ (-4611686018427387904) [.int .i64 (-4611686018427387904)] from rfl) (Reps.none _ _)))))); intro v736 w7 ho8 hb hg_ hnew_; clear hg_ hnew_; (first | rw [← Ny735.out] at ho8 | (simp only [Int.reduceToNat] at ho8; rw [← Ny735.out] at ho8)); have n0_ := Aside0.mk (Kd.R_lower ho8 (keep_size (w := w) (g := g) (row := none) (by repeat (first | (with_reducible first | exact HK.out | apply KeepBut.set_ | apply keep_drewN | apply keep_drew | apply keep_alloc) | exact HK.out)))); have n1_ := Aside0.mk (IsS120.below (by repeat (first | (with_reducible first | exact HI0.out | apply IsS120.alloc | apply IsS120.drewN | apply IsS120.drew | apply IsS120.set_1 | apply IsS120.set_2) | exact HI0.out)) hb); have n2_ := Aside0.mk (KeepBut.trans (by repeat (first | (with_reducible first | exact HK.out | apply KeepBut.set_ | apply keep_drewN | apply keep_drew | apply keep_alloc) | exact HK.out)) (KeepBut.of_below hb g none) (.inl rfl)); have n3_ := Aside0.mk (below_step (by repeat (first | (with_reducible first | exact HB.out | apply below_alloc | apply pw_below_drewN | apply below_drew1 | refine below_set ?_ (IsS120.ge HI0.out)) | exact HB.out)) hb); clear HI0; clear HK; clear HB; have HO737 := n0_; have HI0 := n1_; have HK := n2_; have HB := n3_; clear n0_ n1_ n2_ n3_; clear hb ho8; obtain ⟨Ao9, co9, eo9⟩ := Kd.R_slice HO737.out; subst eo9) | ((with_reducible refine gate_callee (f := 129) rfl ?_); refine goesL_ (some 12) rfl rfl Try.func129 (by kernel_rfl) rfl #[.pointer (some ⟨g, 0, none⟩), .slice Ao9 y735.length co9] rfl (by (try simp only [List.map_toArray, List.map_cons, List.map_nil]); first | done | rfl | (simp only [List.length_drop, List.length_take]; rfl)) ?_; (with_reducible refine (spec_l01Pick.calls g s0_0 t733 t734 _ _ y735 t738 t739 t740 w0 _ ?side1 ?side2 ?side3 ?side4 ?side5 A5.out).mono ?_); (case side1 => repeat (first | (with_reducible first | exact HI0.out | apply IsS120.alloc | apply IsS120.drewN | apply IsS120.drew | apply IsS120.set_1 | apply IsS120.set_2) | exact HI0.out)); (case side2 => repeat (first | (with_reducible first | exact HB.out | apply below_alloc | apply pw_below_drewN | apply below_drew1 | refine below_set ?_ (IsS120.ge HI0.out)) | exact HB.out)); (case side3 => repeat (first | exact (Kd.R_reads' HO737.out).2.2 | (with_reducible refine Kd.C_alloc ?_ _) | (with_reducible refine Kd.C_drewN ?_ _) | (with_reducible refine Kd.C_drew ?_))); (case side4 => exact (Kd.R_reads' HO737.out).2.1); (case side5 => exact far_slice (IsS120.own_ne HI0.out HO737.out (by decide))); rintro e w10 ⟨rfl, hi, hb, hk⟩; refine ⟨_, rfl, ?_⟩; have n0_ := Aside0.mk (Kd.R_mono (Kd.R_keep (IsS120.apart (show IsS120 w0 _ g s0_0 t733 t734 from by repeat (first | (with_reducible first | exact HI0.out | apply IsS120.alloc | apply IsS120.drewN | apply IsS120.drew | apply IsS120.set_1 | apply IsS120.set_2) | exact HI0.out)) (by (with_reducible repeat (first | apply Kd.R_alloc | apply Kd.R_drewN | apply Kd.R_drew)); exact HO737.out) (by decide)) hk (fun _ h => h.2)) (fun _ h => h.1)); have n1_ := Aside0.mk (KeepBut.trans (by repeat (first | (with_reducible first | exact HK.out | apply KeepBut.set_ | apply keep_drewN | apply keep_drew | apply keep_alloc) | exact HK.out)) hk (.inl rfl)); have n2_ := Aside0.mk (hb); have n3_ := Aside0.mk (hi); clear HO737; clear HK; clear HB; clear HI0; have HO737 := n0_; have HK := n1_; have HB := n2_; have HI0 := n3_; clear n0_ n1_ n2_ n3_; (try clear hb); (try clear hb2); (try clear hk); (try clear hi)))
    go_ret
    exact ⟨by first | rfl | (simp [errW_none, errW_some] <;> rfl) | (simp [*, errW_none, errW_some] <;> rfl), by repeat (first | (with_reducible first | exact HI0.out | apply IsS120.alloc | apply IsS120.drewN | apply IsS120.drew | apply IsS120.set_1 | apply IsS120.set_2) | exact HI0.out), by repeat (first | (with_reducible first | exact HB.out | apply below_alloc | apply pw_below_drewN | apply below_drew1 | refine below_set ?_ (IsS120.ge HI0.out)) | exact HB.out), by repeat (first | (with_reducible first | exact HK.out | apply KeepBut.set_ | apply keep_drewN | apply keep_drew | apply keep_alloc) | exact HK.out)⟩
  · rw [if_neg c4] at H
    have c4b0 : (t732 == 0) = false := beq_eq_false_iff_ne.mpr c4
    have c4b1 : (t732 != 0) = true := bne_iff_ne.mpr c4
    replace H := Option.bind_eq_some_iff.mp H
    obtain ⟨⟨t741, t742, t743⟩, A110, H⟩ := H
    replace H : (some (t741, t742, t743)) = some (r1, r2, r3) := H
    have A11 := Aside0.mk A110
    clear A110
    simp only [Option.some.injEq, Prod.mk.injEq] at H
    obtain ⟨rfl, rfl, rfl⟩ := H
    go_enter Try.func102, Try.ntmps102
    go_wp2_with (first | ((with_reducible refine gate_callee (f := 128) rfl ?_); refine goesL_ (some 6) rfl rfl Try.func128 (by kernel_rfl) rfl #[.pointer (some ⟨g, 0, none⟩), .int .i64 14] rfl (by (try simp only [List.map_toArray, List.map_cons, List.map_nil]); first | done | rfl | (simp only [List.length_drop, List.length_take]; rfl)) ?_; (with_reducible refine (spec_l01Next.calls g s0_0 s0_1 s0_2 14 t732 t733 t734 w0 _ ?side1 ?side2 A3.out).mono ?_); (case side1 => repeat (first | (with_reducible first | exact HI0.out | apply IsS120.alloc | apply IsS120.drewN | apply IsS120.drew | apply IsS120.set_1 | apply IsS120.set_2) | exact HI0.out)); (case side2 => repeat (first | (with_reducible first | exact HB.out | apply below_alloc | apply pw_below_drewN | apply below_drew1 | refine below_set ?_ (IsS120.ge HI0.out)) | exact HB.out)); rintro e w12 ⟨rfl, hi, hb, hk⟩; refine ⟨_, rfl, ?_⟩; have n0_ := Aside0.mk (KeepBut.trans (by repeat (first | (with_reducible first | exact HK.out | apply KeepBut.set_ | apply keep_drewN | apply keep_drew | apply keep_alloc) | exact HK.out)) hk (.inl rfl)); have n1_ := Aside0.mk (hb); have n2_ := Aside0.mk (hi); clear HK; clear HB; clear HI0; have HK := n0_; have HB := n1_; have HI0 := n2_; clear n0_ n1_ n2_; (try clear hb); (try clear hb2); (try clear hk); (try clear hi)) | ((with_reducible refine gate_callee (f := 128) rfl ?_); refine goesL_ (some 16) rfl rfl Try.func128 (by kernel_rfl) rfl #[.pointer (some ⟨g, 0, none⟩), .int .i64 (wrap64 (a1 + 1))] rfl (by (try simp only [List.map_toArray, List.map_cons, List.map_nil]); first | done | rfl | (simp only [List.length_drop, List.length_take]; rfl)) ?_; (with_reducible refine (spec_l01Next.calls g s0_0 t733 t734 (wrap64 (a1 + 1)) t741 t742 t743 w0 _ ?side1 ?side2 A11.out).mono ?_); (case side1 => repeat (first | (with_reducible first | exact HI0.out | apply IsS120.alloc | apply IsS120.drewN | apply IsS120.drew | apply IsS120.set_1 | apply IsS120.set_2) | exact HI0.out)); (case side2 => repeat (first | (with_reducible first | exact HB.out | apply below_alloc | apply pw_below_drewN | apply below_drew1 | refine below_set ?_ (IsS120.ge HI0.out)) | exact HB.out)); rintro e w13 ⟨rfl, hi, hb, hk⟩; refine ⟨_, rfl, ?_⟩; have n0_ := Aside0.mk (KeepBut.trans (by repeat (first | (with_reducible first | exact HK.out | apply KeepBut.set_ | apply keep_drewN | apply keep_drew | apply keep_alloc) | exact HK.out)) hk (.inl rfl)); have n1_ := Aside0.mk (hb); have n2_ := Aside0.mk (hi); clear HK; clear HB; clear HI0; have HK := n0_; have HB := n1_; have HI0 := n2_; clear n0_ n1_ n2_; (try clear hb); (try clear hb2); (try clear hk); (try clear hi)))
    go_ret
    exact ⟨by first | rfl | (simp [errW_none, errW_some] <;> rfl) | (simp [*, errW_none, errW_some] <;> rfl), by repeat (first | (with_reducible first | exact HI0.out | apply IsS120.alloc | apply IsS120.drewN | apply IsS120.drew | apply IsS120.set_1 | apply IsS120.set_2) | exact HI0.out), by repeat (first | (with_reducible first | exact HB.out | apply below_alloc | apply pw_below_drewN | apply below_drew1 | refine below_set ?_ (IsS120.ge HI0.out)) | exact HB.out), by repeat (first | (with_reducible first | exact HK.out | apply KeepBut.set_ | apply keep_drewN | apply keep_drew | apply keep_alloc) | exact HK.out)⟩

end Go.Proofs.Ytmihfmhfgjnfcaa.Q

namespace Go.Proofs.Ytmihfmhfgjnfcaa.Q
open Go.RowKit Go.Proofs.YtmihfmhfgjnfcaaW.PrintWords Go.Proofs.YtmihfmhfgjnfcaaW.PrintLast Go.Proofs.YtmihfmhfgjnfcaaW.PrintMore
attribute [local go_sem] max2_int min2_int max_two min_two max_three min_three max_four min_four bn_leq bn_gtr bn_geq   -- for this text's walks alone
set_option linter.unusedVariables false
set_option linter.unusedSimpArgs false

/-! ### spec_DrawLocalPeriod: function 48 -/
def spec_DrawLocalPeriod.f (k : Nat) (l0 : List Int) : Option (ByteArray × Int) := (spec_l01From.f k l0).bind fun bt744 => ((spec_l01Spoil.f k bt744.1 bt744.2.1 bt744.2.2).bind fun bt748 => ((spec_l01Near.f bt744.1 bt748.2.1 bt748.2.2 ((mn (mx (bt748.1.size : Int) 1) 60) - 1)).bind fun bt751 => (some (bt748.1, bt751.1))))
theorem spec_DrawLocalPeriod.mono : ∀ a0 k, LeO (spec_DrawLocalPeriod.f k a0) (spec_DrawLocalPeriod.f (k + 1) a0) := by
  intro a0 k
  unfold spec_DrawLocalPeriod.f
  repeat' first
      | (with_reducible exact spec_l01From.mono _ _)
      | (with_reducible exact spec_l01Spoil.mono _ _ _ _)
      | (with_reducible exact LeO.refl _)
      | (with_reducible exact LeO.none _)
      | (with_reducible refine LeO.ite ?_ ?_)
      | (with_reducible refine LeO.bind ?_ (fun _ => ?_))
      | exact spec_l01From.mono _ _
      | exact spec_l01Spoil.mono _ _ _ _
      | exact LeO.none _
      | refine LeO.ite ?_ ?_
      | refine LeO.bind ?_ (fun _ => ?_)
set_option maxHeartbeats 8000000 in
set_option maxRecDepth 100000 in
theorem spec_DrawLocalPeriod.calls (k : Nat) (A0 : Option Addr) (c0 : Nat) (l0 : List Int) (r1 : ByteArray) (r2 : Int) (w : World) (hr0 : Kd.C (Kd.int .u8) w A0 l0.length l0) (hc0 : l0.length ≤ c0) (h : spec_DrawLocalPeriod.f k l0 = some (r1, r2)) :
    Calls Try.prog 48 #[.slice A0 l0.length c0] w fun e w' => e = .returned (.tuple #[.string r1, .int .i64 r2]) ∧ Below w.heap.size w w' := by
  have HR0 := Aside0.mk hr0
  have HC0 := Aside0.mk hc0
  clear hr0 hc0
  have HB := Aside0.mk (Below.refl w.heap.size w)
  have H : ((spec_l01From.f k l0).bind fun bt744 => ((spec_l01Spoil.f k bt744.1 bt744.2.1 bt744.2.2).bind fun bt748 => ((spec_l01Near.f bt744.1 bt748.2.1 bt748.2.2 ((mn (mx (bt748.1.size : Int) 1) 60) - 1)).bind fun bt751 => (some (bt748.1, bt751.1))))) = some (r1, r2) := h
  clear h
  replace H := Option.bind_eq_some_iff.mp H
  obtain ⟨⟨t744, t745, t746⟩, A20, H⟩ := H
  replace H : ((spec_l01Spoil.f k t744 t745 t746).bind fun bt748 => ((spec_l01Near.f t744 bt748.2.1 bt748.2.2 ((mn (mx (bt748.1.size : Int) 1) 60) - 1)).bind fun bt751 => (some (bt748.1, bt751.1)))) = some (r1, r2) := H
  have A2 := Aside0.mk A20
  clear A20
  replace H := Option.bind_eq_some_iff.mp H
  obtain ⟨⟨t748, t749, t750⟩, A30, H⟩ := H
  replace H : ((spec_l01Near.f t744 t749 t750 ((mn (mx (t748.size : Int) 1) 60) - 1)).bind fun bt751 => (some (t748, bt751.1))) = some (r1, r2) := H
  have A3 := Aside0.mk A30
  clear A30
  obtain ⟨ji4, hji4⟩ : ∃ j_ : Int, (mx (t748.size : Int) 1) = j_ := ⟨_, rfl⟩
  replace H : ((spec_l01Near.f t744 t749 t750 ((mn (ji4) 60) - 1)).bind fun bt751 => (some (t748, bt751.1))) = some (r1, r2) := by first | (rw [hji4] at H; exact H) | (simp only [hji4] at H ⊢; exact H)
  (try rw [hji4] at A2)
  (try rw [hji4] at A3)
  (try (have hji4l : 1 ≤ ji4 := by (rw [← hji4]; unfold mx; (repeat' split) <;> omega)))
  (try (have hji4m : 0 ≤ ji4 := by omega))
  have hji4_ : (if (t748.size : Int) < 1 then 1 else (t748.size : Int)) = ji4 := hji4
  obtain ⟨ji5, hji5⟩ : ∃ j_ : Int, (mn (ji4) 60) = j_ := ⟨_, rfl⟩
  replace H : ((spec_l01Near.f t744 t749 t750 ((ji5) - 1)).bind fun bt751 => (some (t748, bt751.1))) = some (r1, r2) := by first | (rw [hji5] at H; exact H) | (simp only [hji5] at H ⊢; exact H)
  (try rw [hji5] at A2)
  (try rw [hji5] at A3)
  have hji5_ : (if 60 < (ji4) then 60 else (ji4)) = ji5 := hji5
  replace H := Option.bind_eq_some_iff.mp H
  obtain ⟨⟨t751, t752, t753⟩, A60, H⟩ := H
  replace H : (some (t748, t751)) = some (r1, r2) := H
  have A6 := Aside0.mk A60
  clear A60
  simp only [Option.some.injEq, Prod.mk.injEq] at H
  obtain ⟨rfl, rfl⟩ := H
  go_enter Try.func48, Try.ntmps48
  go_wp2_with (first | ((with_reducible refine gate_callee (f := 97) rfl ?_); refine goesL_ (some 7) rfl rfl Try.func97 (by kernel_rfl) rfl #[.slice A0 l0.length c0] rfl (by (try simp only [List.map_toArray, List.map_cons, List.map_nil]); first | done | rfl | (simp only [List.length_drop, List.length_take]; rfl)) ?_; (with_reducible refine (spec_l01From.calls k _ _ l0 t744 t745 t746 w _ ?side1 ?side2 ?side3 A2.out).mono ?_); (case side1 => repeat (first | (with_reducible first | exact HB.out | apply below_alloc | apply pw_below_drewN | apply below_drew1) | exact HB.out)); (case side2 => exact HR0.out); (case side3 => exact HC0.out); rintro e w7 ⟨g747, rfl, hi, hb, hb2⟩; refine ⟨_, rfl, ?_⟩; have n0_ := Aside0.mk (hb); have n1_ := Aside0.mk (hi); clear HB; have HB := n0_; have HI747 := n1_; clear n0_ n1_; (try clear hb); (try clear hb2); (try clear hk); (try clear hi)) | ((with_reducible refine gate_callee (f := 96) rfl ?_); refine goesL_ (some 9) rfl rfl Try.func96 (by kernel_rfl) rfl #[.pointer (some ⟨g747, 0, none⟩)] rfl (by (try simp only [List.map_toArray, List.map_cons, List.map_nil]); first | done | rfl | (simp only [List.length_drop, List.length_take]; rfl)) ?_; (with_reducible refine (spec_l01Spoil.calls k g747 t744 t745 t746 t748 t749 t750 w _ ?side1 ?side2 A3.out).mono ?_); (case side1 => repeat (first | (with_reducible first | exact HI747.out | apply IsS120.alloc | apply IsS120.drewN | apply IsS120.drew | apply IsS120.set_1 | apply IsS120.set_2) | exact HI747.out)); (case side2 => repeat (first | (with_reducible first | exact HB.out | apply below_alloc | apply pw_below_drewN | apply below_drew1 | refine below_set ?_ (IsS120.ge HI747.out)) | exact HB.out)); rintro e w8 ⟨rfl, hi, hb, hk⟩; refine ⟨_, rfl, ?_⟩; have n0_ := Aside0.mk (hb); have n1_ := Aside0.mk (hi); clear HB; clear HI747; have HB := n0_; have HI747 := n1_; clear n0_ n1_; (try clear hb); (try clear hb2); (try clear hk); (try clear hi)) | ((with_reducible refine gate_callee (f := 102) rfl ?_); refine goesL_ (some 17) rfl rfl Try.func102 (by kernel_rfl) rfl #[.pointer (some ⟨g747, 0, none⟩), .int .i64 ((ji5) - 1)] rfl (by (try simp only [List.map_toArray, List.map_cons, List.map_nil]); first | done | (simp only [hji5]; rfl) | rfl | (simp only [List.length_drop, List.length_take]; rfl)) ?_; (with_reducible refine (spec_l01Near.calls g747 t744 t749 t750 ((ji5) - 1) t751 t752 t753 w _ ?side1 ?side2 A6.out).mono ?_); (case side1 => repeat (first | (with_reducible first | exact HI747.out | apply IsS120.alloc | apply IsS120.drewN | apply IsS120.drew | apply IsS120.set_1 | apply IsS120.set_2) | exact HI747.out)); (case side2 => repeat (first | (with_reducible first | exact HB.out | apply below_alloc | apply pw_below_drewN | apply below_drew1 | refine below_set ?_ (IsS120.ge HI747.out)) | exact HB.out)); rintro e w9 ⟨rfl, hi, hb, hk⟩; refine ⟨_, rfl, ?_⟩; have n0_ := Aside0.mk (hb); have n1_ := Aside0.mk (hi); clear HB; clear HI747; have HB := n0_; have HI747 := n1_; clear n0_ n1_; (try clear hb); (try clear hb2); (try clear hk); (try clear hi)))
  go_ret2
  exact ⟨by first | rfl | (simp [errW_none, errW_some] <;> rfl) | (simp only [← hji4, ← hji5]; first | rfl | (simp [errW_none, errW_some] <;> rfl)) | (simp [*, errW_none, errW_some] <;> rfl), by repeat (first | (with_reducible first | exact HB.out | apply below_alloc | apply pw_below_drewN | apply below_drew1 | refine below_set ?_ (IsS120.ge HI747.out)) | exact HB.out)⟩

end Go.Proofs.Ytmihfmhfgjnfcaa.Q

namespace Go.Proofs.Ytmihfmhfgjnfcaa.Q
open Go.RowKit Go.Proofs.YtmihfmhfgjnfcaaW.PrintWords Go.Proofs.YtmihfmhfgjnfcaaW.PrintLast Go.Proofs.YtmihfmhfgjnfcaaW.PrintMore
attribute [local go_sem] max2_int min2_int max_two min_two max_three min_three max_four min_four bn_leq bn_gtr bn_geq   -- for this text's walks alone
set_option linter.unusedVariables false
set_option linter.unusedSimpArgs false

/-! ### impl_letter: function 71 -/
def impl_letter.f (a0 : Int) : Option (ByteArray) := some (strOfNums (([(wrap64 (97 + a0)) % 256] : List Int)))
set_option maxHeartbeats 8000000 in
set_option maxRecDepth 100000 in
theorem impl_letter.calls (a0 : Int) (r : ByteArray) (w : World) (h : impl_letter.f a0 = some r) :
    Calls Try.prog 71 #[.int .i64 a0] w fun e w' => e = .returned (.string r) ∧ Below w.heap.size w w' := by
  have HB := Aside0.mk (Below.refl w.heap.size w)
  have H : (some (strOfNums (([(wrap64 (97 + a0)) % 256] : List Int)))) = some r := h
  clear h
  obtain ⟨y127, hy127⟩ : ∃ y_ : List Int, y_ = (([(wrap64 (97 + a0)) % 256] : List Int)) := ⟨_, rfl⟩
  replace H : (some (strOfNums y127)) = some r := by first | (rw [hy127]; with_reducible exact H) | (have H2_ := (Option.bind_some _ _).symm.trans H; rw [hy127]; with_reducible exact H2_) | (have H2_ := (Option.bind_some _ _).symm.trans H; with_reducible exact H2_) | with_reducible exact H | (rw [hy127]; exact H) | exact H
  have Ny127 := Aside0.mk hy127
  clear hy127
  obtain rfl := Option.some.inj H
  go_enter Try.func71, Try.ntmps71
  go_wp2_with (first | ((with_reducible refine gate_dst (N := 6) rfl ?_); refine Kd.R_lit (Kd.int .u8) _ 5 ?hg (N := 6) ?hd (xs := ([(wrap64 (97 + a0)) % 256] : List Int)) (inner := [.int .u8 ((wrap64 (97 + a0)) % 256)]) (ok := fun _ => True) (okp := fun _ => True) ?hr ?hp (fun _ hk => hk) trivial (Below.refl _ _) (Nat.le_refl _) (by simp) ?_; (case hd => rfl); (case hg => rfl); (case hr => first | (go_simp; done) | (go_simp; rfl)); (case hp => exact (Reps.one (show Kd.M (Kd.int .u8) _ _ _ ((wrap64 (97 + a0)) % 256) [.int .u8 ((wrap64 (97 + a0)) % 256)] from rfl) (Reps.none _ _))); intro v128 w2 ho3 hb hg_ hnew_; clear hg_ hnew_; (first | rw [← Ny127.out] at ho3 | (simp only [Int.reduceToNat] at ho3; rw [← Ny127.out] at ho3)); have n0_ := Aside0.mk (Kd.R_lower ho3 (below_size (by repeat (first | (with_reducible first | exact HB.out | apply below_alloc | apply pw_below_drewN | apply below_drew1) | exact HB.out)))); have n1_ := Aside0.mk (below_step (by repeat (first | (with_reducible first | exact HB.out | apply below_alloc | apply pw_below_drewN | apply below_drew1) | exact HB.out)) hb); clear HB; have HO129 := n0_; have HB := n1_; clear n0_ n1_; clear hb ho3; have hcv4 := own_string (P := Try.prog) Try.underlying48 Try.underlying5 Try.underlying9 (Kd.own_of_R HO129.out)))
  go_ret
  exact ⟨by first | rfl | (simp [errW_none, errW_some] <;> rfl) | (simp [*, errW_none, errW_some] <;> rfl), by repeat (first | (with_reducible first | exact HB.out | apply below_alloc | apply pw_below_drewN | apply below_drew1) | exact HB.out)⟩

end Go.Proofs.Ytmihfmhfgjnfcaa.Q

namespace Go.Proofs.Ytmihfmhfgjnfcaa.Q
open Go.RowKit Go.Proofs.YtmihfmhfgjnfcaaW.PrintWords Go.Proofs.YtmihfmhfgjnfcaaW.PrintLast Go.Proofs.YtmihfmhfgjnfcaaW.PrintMore
attribute [local go_sem] max2_int min2_int max_two min_two max_three min_three max_four min_four bn_leq bn_gtr bn_geq   -- for this text's walks alone
set_option linter.unusedVariables false
set_option linter.unusedSimpArgs false

/-! ### impl_endsFree: function 111 -/
def impl_endsFree.l0 : Nat → ByteArray → Int → Option (Bool)
  | 0, _, _ => none
  | k + 1, x0, x3 => if (wrap64 (2 * x3)) ≤ (x0.size : Int) then (if 0 ≤ (wrap64 ((x0.size : Int) - (wrap64 (2 * x3)))) then (if (wrap64 ((x0.size : Int) - (wrap64 (2 * x3)))) ≤ (x0.size : Int) then ((impl_hasPeriod.f (x0.extract ((wrap64 ((x0.size : Int) - (wrap64 (2 * x3)))) : Int).toNat x0.size) x3).bind fun t130 => (if t130 = true then (some false) else (impl_endsFree.l0 k x0 (wrap64 (x3 + 1))))) else (none)) else (none)) else (some true)
def impl_endsFree.f (k : Nat) (a0 : ByteArray) : Option (Bool) := impl_endsFree.l0 k a0 1
theorem impl_endsFree.mono_l : ∀ k, (∀ y0 y1, LeO (impl_endsFree.l0 k y0 y1) (impl_endsFree.l0 (k + 1) y0 y1))
  | 0 => fun _ _ r h => by simp [impl_endsFree.l0] at h
  | k + 1 => by
    have ih0 := impl_endsFree.mono_l k
    · intro y0 y1
      unfold impl_endsFree.l0
      repeat' first
      | (with_reducible exact ih0 _ _)
      | (with_reducible exact LeO.refl _)
      | (with_reducible exact LeO.none _)
      | (with_reducible refine LeO.ite ?_ ?_)
      | (with_reducible refine LeO.bind ?_ (fun _ => ?_))
      | exact ih0 _ _
      | exact LeO.none _
      | refine LeO.ite ?_ ?_
      | refine LeO.bind ?_ (fun _ => ?_)
theorem impl_endsFree.mono : ∀ a0 k, LeO (impl_endsFree.f k a0) (impl_endsFree.f (k + 1) a0) := by
  intro a0 k
  have ih0 := impl_endsFree.mono_l k
  unfold impl_endsFree.f
  repeat' first
      | (with_reducible exact ih0 _ _)
      | (with_reducible exact LeO.refl _)
      | (with_reducible exact LeO.none _)
      | (with_reducible refine LeO.ite ?_ ?_)
      | (with_reducible refine LeO.bind ?_ (fun _ => ?_))
      | exact ih0 _ _
      | exact LeO.none _
      | refine LeO.ite ?_ ?_
      | refine LeO.bind ?_ (fun _ => ?_)
set_option maxHeartbeats 8000000 in
set_option maxRecDepth 100000 in
theorem impl_endsFree.calls (k : Nat) (a0 : ByteArray) (r : Bool) (w : World) (h : impl_endsFree.f k a0 = some r) :
    Calls Try.prog 111 #[.string a0] w fun e w' => e = .returned (.bool r) ∧ Drawn0 w w' := by
  have H : (impl_endsFree.l0 k a0 1) = some r := h
  clear h
  have H' := Aside0.mk H
  clear H
  go_enter Try.func111, Try.ntmps111
  go_wp2
  go_loopg [3] k (fun kq v3 w' => ∃ (x3_1 : Int), v3 = .int .i64 x3_1 ∧ Aside0 (impl_endsFree.l0 kq a0 x3_1 = some r) ∧ Aside0 (kq ≤ k) ∧ Drawn0 w w')
  case atStart => exact ⟨(1), (by first | rfl | (simp; done) | (simp [*]; done)), H', ⟨Nat.le_refl _⟩, by repeat (first | exact Drawn0.refl _ | apply Drawn0.step)⟩
  case round =>
    clear H'
    try clear c1
    obtain ⟨x3_1, rfl, HA, HK1, ⟨m1, rfl⟩⟩ := hrel
    cases gk with
    | zero => exact absurd HA.out (by simp [impl_endsFree.l0])
    | succ k1 =>
      have H := HA.out
      clear HA
      simp only [impl_endsFree.l0] at H
      by_cases c2 : (wrap64 (2 * x3_1)) ≤ (a0.size : Int)
      · rw [if_pos c2] at H
        have c2b0 : decide ((wrap64 (2 * x3_1)) ≤ (a0.size : Int)) = true := decide_eq_true c2
        clear c2
        obtain ⟨ji3, hji3⟩ : ∃ j_ : Int, (wrap64 ((a0.size : Int) - (wrap64 (2 * x3_1)))) = j_ := ⟨_, rfl⟩
        replace H : (if 0 ≤ (ji3) then (if (ji3) ≤ (a0.size : Int) then ((impl_hasPeriod.f (a0.extract ((ji3) : Int).toNat a0.size) x3_1).bind fun t130 => (if t130 = true then (some false) else (impl_endsFree.l0 k1 a0 (wrap64 (x3_1 + 1))))) else (none)) else (none)) = some r := by first | (rw [hji3] at H; exact H) | (simp only [hji3] at H ⊢; exact H)
        have hji3w : (IntKind.i64.wrap ((a0.size : Int) - (wrap64 (2 * x3_1)))) = ji3 := (i64_w _).trans hji3
        by_cases c4 : 0 ≤ (ji3)
        · rw [if_pos c4] at H
          have c4b0 := eq_true c4
          have c4b1 : decide (0 ≤ (ji3)) = true := decide_eq_true c4
          clear c4
          by_cases c5 : (ji3) ≤ (a0.size : Int)
          · rw [if_pos c5] at H
            have c5b0 := eq_true c5
            have c5b1 : decide ((ji3) ≤ (a0.size : Int)) = true := decide_eq_true c5
            clear c5
            replace H := Option.bind_eq_some_iff.mp H
            obtain ⟨t130, A60, H⟩ := H
            replace H : (if t130 = true then (some false) else (impl_endsFree.l0 k1 a0 (wrap64 (x3_1 + 1)))) = some r := H
            have A6 := Aside0.mk A60
            clear A60
            by_cases c7 : t130 = true
            · subst c7
              have H1 : (some false) = some r := by rw [if_pos rfl] at H; exact H
              clear H
              have H := H1
              clear H1
              obtain rfl := Option.some.inj H
              go_wp2_with (first | ((with_reducible refine gate_callee (f := 116) rfl ?_); refine goesL_ (some 19) rfl rfl Try.func116 (by kernel_rfl) rfl #[.string (a0.extract ((ji3) : Int).toNat a0.size), .int .i64 x3_1] rfl (by (try simp only [List.map_toArray, List.map_cons, List.map_nil]); first | done | (simp only [hji3]; rfl) | rfl | (simp only [List.length_drop, List.length_take]; rfl)) ?_; (with_reducible refine (impl_hasPeriod.calls (a0.extract ((ji3) : Int).toNat a0.size) x3_1 true _ A6.out).mono ?_); rintro e w' ⟨rfl, ⟨nd, rfl⟩⟩; refine ⟨_, rfl, ?_⟩))
              go_ret
              exact ⟨by first | rfl | (simp; done) | (simp only [← hji3] <;> (first | rfl | simp)) | (simp [*]; done), by repeat (first | exact Drawn0.refl _ | apply Drawn0.step)⟩
            · replace c7 := Bool.eq_false_iff.mpr c7
              subst c7
              have H1 : (impl_endsFree.l0 k1 a0 (wrap64 (x3_1 + 1))) = some r := by rw [if_neg (show ¬ (false = true) by decide)] at H; exact H
              clear H
              have H := H1
              clear H1
              have H' := Aside0.mk H
              clear H
              go_wp2_with (first | ((with_reducible refine gate_callee (f := 116) rfl ?_); refine goesL_ (some 19) rfl rfl Try.func116 (by kernel_rfl) rfl #[.string (a0.extract ((ji3) : Int).toNat a0.size), .int .i64 x3_1] rfl (by (try simp only [List.map_toArray, List.map_cons, List.map_nil]); first | done | (simp only [hji3]; rfl) | rfl | (simp only [List.length_drop, List.length_take]; rfl)) ?_; (with_reducible refine (impl_hasPeriod.calls (a0.extract ((ji3) : Int).toNat a0.size) x3_1 false _ A6.out).mono ?_); rintro e w' ⟨rfl, ⟨nd, rfl⟩⟩; refine ⟨_, rfl, ?_⟩))
              go_roundg k1
              case measure => have := HK1.out; omega
              case rel => exact ⟨(wrap64 (x3_1 + 1)), (by first | rfl | (simp; done) | (simp [*]; done)), H', ⟨by have := HK1.out; omega⟩, by repeat (first | exact Drawn0.refl _ | apply Drawn0.step)⟩
          · rw [if_neg c5] at H
            exact absurd H (by simp)
        · rw [if_neg c4] at H
          exact absurd H (by simp)
      · rw [if_neg c2] at H
        have c2b0 : decide ((wrap64 (2 * x3_1)) ≤ (a0.size : Int)) = false := decide_eq_false c2
        clear c2
        obtain rfl := Option.some.inj H
        go_wp2
        go_ret
        exact ⟨by first | rfl | (simp; done) | (simp [*]; done), by repeat (first | exact Drawn0.refl _ | apply Drawn0.step)⟩

end Go.Proofs.Ytmihfmhfgjnfcaa.Q

namespace Go.Proofs.Ytmihfmhfgjnfcaa.Q
open Go.RowKit Go.Proofs.YtmihfmhfgjnfcaaW.PrintWords Go.Proofs.YtmihfmhfgjnfcaaW.PrintLast Go.Proofs.YtmihfmhfgjnfcaaW.PrintMore
attribute [local go_sem] max2_int min2_int max_two min_two max_three min_three max_four min_four bn_leq bn_gtr bn_geq   -- for this text's walks alone
set_option linter.unusedVariables false
set_option linter.unusedSimpArgs false

/-! ### impl_CountSquareFree: function 18 (this session's own) -/
theorem xw_size (s : ByteArray) (w : World) : Calls Try.prog 87 #[.string s] w fun e w' => e = .returned (.int .i64 s.size) ∧ w' = w := by
  go_enter Try.func87, Try.ntmps87
  go_wp2
  go_ret
  exact ⟨rfl, rfl⟩
theorem xw_within (n lo hi : Int) (w : World) : Calls Try.prog 62 #[.int .i64 n, .int .i64 lo, .int .i64 hi] w fun e w' => e = .returned (.bool (inR n lo hi)) ∧ w' = w := by
  have hR := inR_eq n lo hi
  by_cases h1 : lo ≤ n
  · by_cases h2 : n ≤ hi
    all_goals
      go_enter Try.func62, Try.ntmps62
      go_wp2
      go_ret
      exact ⟨by rw [hR.out]; simp [h1, h2], rfl⟩
  · go_enter Try.func62, Try.ntmps62
    go_wp2
    go_ret
    exact ⟨by rw [hR.out, decide_eq_false (show ¬ lo ≤ n by omega)]; rfl, rfl⟩

/-- the loop over letters of 'grown' -/
def grownL {S : Type} (rc : ByteArray → S → Option (Bool × S)) (k : Nat) (w : ByteArray) : Nat → Nat → S → Option (Bool × S)
  | 0, _, s => some (false, s)
  | d + 1, n, s => (impl_letter.f (n : Int)).bind fun t => if w.size + t.size ≤ 9223372036854775807 then ((impl_endsFree.f k (w ++ t)).bind fun b => if b = true then ((rc (w ++ t) s).bind fun z => if z.1 = true then some (true, z.2) else grownL rc k w d (n + 1) z.2) else grownL rc k w d (n + 1) s) else none
def grownF {S : Type} (act : ByteArray → S → Bool × S) (m kk : Nat) : Nat → ByteArray → S → Option (Bool × S)
  | 0, _, _ => none
  | k + 1, w, s => if w.size = m then some (act w s) else grownL (grownF act m kk k) k w kk 0 s
theorem grownL_mono {S : Type} {f g : ByteArray → S → Option (Bool × S)} (h : ∀ w s, LeO (f w s) (g w s)) (k : Nat) (w : ByteArray) : ∀ d n s, LeO (grownL f k w d n s) (grownL g (k + 1) w d n s)
  | 0, _, _ => LeO.refl _
  | d + 1, n, s => by
    unfold grownL
    exact LeO.bind (LeO.refl _) fun _ => LeO.ite (LeO.bind (impl_endsFree.mono _ _) fun _ => LeO.ite (LeO.bind (h _ _) fun _ => LeO.ite (LeO.refl _) (grownL_mono h k w d _ _)) (grownL_mono h k w d _ _)) (LeO.refl _)
theorem grownF_mono {S : Type} (act : ByteArray → S → Bool × S) (m kk : Nat) : ∀ k w s, LeO (grownF act m kk k w s) (grownF act m kk (k + 1) w s)
  | 0, w, s => fun r h => by simp [grownF] at h
  | k + 1, w, s => by
    unfold grownF
    exact LeO.ite (LeO.refl _) (grownL_mono (grownF_mono act m kk k) k w kk 0 s)
set_option maxHeartbeats 8000000 in
/-- grown, for whatever callback that keeps a state (I: what the state says of the world). -/
theorem xw_grown {S : Type} (act : ByteArray → S → Bool × S) (I : S → World → Prop) (m kk : Nat) (hkk : kk ≤ 1000) (g : Nat) (lb : Array Value) (eg : ∀ args w, (callFunc g args).run Try.prog w = .ok (.enter g args) w)
    (hmove : ∀ s W W', I s W → Below W.heap.size W W' → I s W')
    (hdo : ∀ s W x, I s W → Calls Try.prog g (#[.string x] ++ lb) W fun e w' => e = .returned (.bool (act x s).1) ∧ I (act x s).2 w') :
    ∀ (k : Nat) (w : ByteArray) (s : S) (r : Bool) (s' : S) (W : World), grownF act m kk k w s = some (r, s') → I s W →
    Calls Try.prog 63 #[.string w, .int .i64 (m : Int), .int .i64 (kk : Int), .func (.func g) #[] lb] W fun e w' => e = .returned (.bool r) ∧ I s' w' := by
  intro k
  induction k with
  | zero => intro w s r s' W h; simp [grownF] at h
  | succ k ih =>
    intro w s r s' W h hI
    simp only [grownF] at h
    by_cases hz : w.size = m
    · rw [if_pos hz] at h
      have hc := hdo s W w hI
      have he := Option.some.inj h
      rw [he] at hc
      have c1 : ((w.size : Int) == (m : Int)) = true := beq_iff_eq.mpr (by omega)
      clear ih hdo hmove h he hI hkk hz
      simp only at hc
      go_enter Try.func63, Try.ntmps63
      go_wp2_with (first | (go_at_call 87; refine (xw_size _ _).mono ?_; rintro e w2 ⟨rfl, rfl⟩) | (go_at_fn g; refine hc.mono ?_; rintro e w' ⟨rfl, hI2⟩; have hI3 := Aside0.mk hI2; clear hI2))
      go_ret
      exact ⟨rfl, hI3.out⟩
    · rw [if_neg hz] at h
      have c1 : ((w.size : Int) == (m : Int)) = false := beq_eq_false_iff_ne.mpr (by omega)
      have hL := Aside0.mk h
      have hI' := Aside0.mk hI
      have ih' := Aside0.mk ih
      have hmv := Aside0.mk hmove
      have hk5 := Aside0.mk hkk
      clear ih hdo hmove h hI hkk hz
      go_enter Try.func63, Try.ntmps63
      go_wp2_with (go_at_call 87; refine (xw_size _ _).mono ?_; rintro e w2 ⟨rfl, rfl⟩)
      go_loopg [9, 10, 19] kk (fun gg v9 v10 v19 wr => ∃ (d n : Nat) (t : S), n + d = kk ∧ d ≤ gg ∧ v19 = .int .i64 (n : Int) ∧ Aside0 (grownL (grownF act m kk k) k w d n t = some (r, s')) ∧ Aside0 (I t wr))
      case atStart => exact ⟨kk, 0, s, by omega, by omega, rfl, hL, hI'⟩
      case round =>
        clear hL hI'
        obtain ⟨d, n, t, hnd, hdg, rfl, hL, hI⟩ := hrel
        cases d with
        | zero =>
          obtain rfl : n = kk := by omega
          have h0 := hL.out
          simp only [grownL, Option.some.injEq, Prod.mk.injEq] at h0
          obtain ⟨rfl, rfl⟩ := h0
          have c2 : decide ((n : Int) < (n : Int)) = false := decide_eq_false (by omega)
          clear hL
          go_wp2
          go_ret
          exact ⟨rfl, hI.out⟩
        | succ d =>
          have hlt : (n : Int) < (kk : Int) := by omega
          have c2 := decide_eq_true hlt
          have h0 := hL.out
          simp only [grownL] at h0
          have hk6 := hk5.out
          have hnw := Aside0.mk (show wrap64 ((n : Int) + 1) = ((n + 1 : Nat) : Int) by rw [w64 (by omega) (by omega)]; rfl)
          obtain ⟨u, hu, h0⟩ := Option.bind_eq_some_iff.mp h0
          by_cases c7 : w.size + u.size ≤ 9223372036854775807
          · rw [if_pos c7] at h0
            obtain ⟨b, he, h0⟩ := Option.bind_eq_some_iff.mp h0
            have c7b := decide_eq_true c7
            have c7c : (9223372036854775807 < w.size + u.size) = False := eq_false (Nat.not_lt.2 c7)
            have hLt := Aside0.mk (fun W => impl_letter.calls (n : Int) u W hu)
            have hE := Aside0.mk (fun W => impl_endsFree.calls k (w ++ u) b W he)
            clear hL hu he c7 hk6
            cases b with
            | false =>
              rw [if_neg (by decide)] at h0
              have h1 := Aside0.mk h0
              clear h0
              go_wp2_with (first | (go_at_call 71; refine (hLt.out _).mono ?_; rintro e w3 ⟨rfl, hb3⟩; have hI3 := Aside0.mk (hmv.out _ _ _ hI.out hb3); clear hb3 hI) | (go_at_call 111; refine (hE.out _).mono ?_; rintro e w4 ⟨rfl, ⟨nd, rfl⟩⟩; have hI4 := Aside0.mk (hmv.out _ _ (w3.drewN nd) hI3.out (by repeat (first | exact Below.refl _ _ | apply pw_below_drewN | apply below_drew1))); clear hI3))
              go_roundg d
              case measure => omega
              case rel => exact ⟨d, n + 1, t, by omega, by omega, by rw [hnw.out], h1, hI4⟩
            | true =>
              rw [if_pos rfl] at h0
              obtain ⟨⟨z1, z2⟩, hz, h0⟩ := Option.bind_eq_some_iff.mp h0
              have hR := Aside0.mk (fun W hW => ih'.out (w ++ u) t z1 z2 W hz hW)
              simp only at h0
              clear hz
              cases z1 with
              | true =>
                rw [if_pos rfl] at h0
                simp only [Option.some.injEq, Prod.mk.injEq] at h0
                obtain ⟨rfl, rfl⟩ := h0
                go_wp2_with (first | (go_at_call 71; refine (hLt.out _).mono ?_; rintro e w3 ⟨rfl, hb3⟩; have hI3 := Aside0.mk (hmv.out _ _ _ hI.out hb3); clear hb3 hI) | (go_at_call 111; refine (hE.out _).mono ?_; rintro e w4 ⟨rfl, ⟨nd, rfl⟩⟩; have hI4 := Aside0.mk (hmv.out _ _ (w3.drewN nd) hI3.out (by repeat (first | exact Below.refl _ _ | apply pw_below_drewN | apply below_drew1))); clear hI3) | (go_at_call 63; refine (hR.out _ hI4.out).mono ?_; rintro e w5 ⟨rfl, hI5⟩; have hI6 := Aside0.mk hI5; clear hI5))
                go_ret
                exact ⟨rfl, hI6.out⟩
              | false =>
                rw [if_neg (by decide)] at h0
                have h1 := Aside0.mk h0
                clear h0
                go_wp2_with (first | (go_at_call 71; refine (hLt.out _).mono ?_; rintro e w3 ⟨rfl, hb3⟩; have hI3 := Aside0.mk (hmv.out _ _ _ hI.out hb3); clear hb3 hI) | (go_at_call 111; refine (hE.out _).mono ?_; rintro e w4 ⟨rfl, ⟨nd, rfl⟩⟩; have hI4 := Aside0.mk (hmv.out _ _ (w3.drewN nd) hI3.out (by repeat (first | exact Below.refl _ _ | apply pw_below_drewN | apply below_drew1))); clear hI3) | (go_at_call 63; refine (hR.out _ hI4.out).mono ?_; rintro e w5 ⟨rfl, hI5⟩; have hI6 := Aside0.mk hI5; clear hI5))
                go_roundg d
                case measure => omega
                case rel => exact ⟨d, n + 1, z2, by omega, by omega, by rw [hnw.out], h1, hI6⟩
          · rw [if_neg c7] at h0; cases h0

/-- A captured variable in a block of the call's own, and the frame. -/
def gInv (b : Nat) (t : TypeId) (w : World) (c : Value) (W : World) : Prop := W.heap[b]? = some (.cells #[c] t (0, 0)) ∧ w.heap.size ≤ b ∧ Below w.heap.size w W
theorem gInv_move {b : Nat} {t : TypeId} {w : World} {c : Value} {W W' : World} (h : gInv b t w c W) (hb : Below W.heap.size W W') : gInv b t w c W' := ⟨blk_below h.1 hb, h.2.1, below_then h.2.2 h.2.2.size hb⟩
theorem gInv_set {b : Nat} {t : TypeId} {w : World} {c : Value} {W : World} (h : gInv b t w c W) (u : Value) : gInv b t w u (W.setCell ⟨b, 0, none⟩ u) := ⟨blk_put h.1 0 u rfl, h.2.1, below_set h.2.2 h.2.1⟩
theorem gInv_new (w : World) (c : Value) (t : TypeId) : gInv w.heap.size t w c (w.alloc (.cells #[c] t)) := ⟨blk_new _ _, Nat.le_refl _, (Below.refl _ _).alloc (Nat.le_refl _) _⟩
theorem gInv_drew {b : Nat} {t : TypeId} {w : World} {c : Value} {W : World} (h : gInv b t w c W) : gInv b t w c W.drew := ⟨h.1, h.2.1, below_drew1 h.2.2⟩
theorem gInv_cell {b : Nat} {t : TypeId} {w : World} {c : Value} {W : World} (h : gInv b t w c W) : W.cell? ⟨b, 0, none⟩ = some c := (blk_cell h.1 0).trans rfl
theorem gInv_frozen {b : Nat} {t : TypeId} {w : World} {c : Value} {W : World} (h : gInv b t w c W) : W.frozen? ⟨b, 0, none⟩ = false := blk_frozen h.1 0

def cntAct (_ : ByteArray) (s : Int) : Bool × Int := (false, wrap64 (s + 1))
set_option maxHeartbeats 2000000 in
theorem xw_CountSquareFree1 (x : ByteArray) (s : Int) (b : Nat) (w W : World) (h : gInv b 2 w (.int .i64 s) W) :
    Calls Try.prog 64 #[.string x, .pointer (some ⟨b, 0, none⟩)] W fun e w' => e = .returned (.bool false) ∧ gInv b 2 w (.int .i64 (wrap64 (s + 1))) w' := by
  have hc := gInv_cell h
  have hf := gInv_frozen h
  have hh := Aside0.mk h
  clear h
  go_enter Try.func64, Try.ntmps64
  go_wp2
  go_ret
  exact ⟨rfl, by repeat (first | exact gInv_set hh.out _ | apply gInv_drew)⟩
def impl_CountSquareFree.f (k : Nat) (a0 a1 : Int) : Option (Int × Int) := if (inR a0 0 12 && inR a1 1 3) = true then (grownF cntAct a0.toNat a1.toNat k ⟨#[]⟩ 0).bind fun z => some (z.2, 0) else some (0, 2)
theorem impl_CountSquareFree.mono : ∀ a0 a1 k, LeO (impl_CountSquareFree.f k a0 a1) (impl_CountSquareFree.f (k + 1) a0 a1) := by
  intro a0 a1 k
  unfold impl_CountSquareFree.f
  exact LeO.ite (LeO.bind (grownF_mono _ _ _ _ _ _) fun _ => LeO.refl _) (LeO.refl _)
set_option maxHeartbeats 4000000 in
theorem impl_CountSquareFree.calls (k : Nat) (a0 a1 : Int) (r1 : Int) (r2 : Int) (w : World) (h : impl_CountSquareFree.f k a0 a1 = some (r1, r2)) :
    Calls Try.prog 18 #[.int .i64 a0, .int .i64 a1] w fun e w' => e = .returned (.tuple #[.int .i64 r1, .int .i64 r2]) ∧ Below w.heap.size w w' := by
  unfold impl_CountSquareFree.f at h
  have hI0 := fun W => xw_within a0 0 12 W
  have hI1 := fun W => xw_within a1 1 3 W
  cases h0 : inR a0 0 12 with
  | false =>
    rw [h0] at h hI0
    obtain ⟨rfl, rfl⟩ : (0 : Int) = r1 ∧ (2 : Int) = r2 := by simpa using h
    clear h h0 hI1
    go_enter Try.func18, Try.ntmps18
    go_wp2_with (go_at_call 62; refine (hI0 _).mono ?_; rintro e w' ⟨rfl, rfl⟩)
    go_ret2
    exact ⟨rfl, Below.refl _ _⟩
  | true =>
    cases h1 : inR a1 1 3 with
    | false =>
      rw [h0, h1] at h
      rw [h0] at hI0
      rw [h1] at hI1
      obtain ⟨rfl, rfl⟩ : (0 : Int) = r1 ∧ (2 : Int) = r2 := by simpa using h
      clear h h0 h1
      have tok := Aside0.mk hI0
      clear hI0
      go_enter Try.func18, Try.ntmps18
      go_wp2_with (first | (go_at_call 62; have hI0 := tok.out; clear tok; refine (hI0 _).mono ?_; rintro e w' ⟨rfl, rfl⟩; clear hI0) | (go_at_call 62; refine (hI1 _).mono ?_; rintro e w' ⟨rfl, rfl⟩))
      go_ret2
      exact ⟨rfl, Below.refl _ _⟩
    | true =>
      rw [h0, h1] at h
      rw [h0] at hI0
      rw [h1] at hI1
      obtain ⟨m0, m1⟩ := inR_true h0
      obtain ⟨m2, m3⟩ := inR_true h1
      obtain ⟨m, rfl⟩ : ∃ m : Nat, a0 = m := ⟨a0.toNat, by omega⟩
      obtain ⟨n, rfl⟩ : ∃ m : Nat, a1 = m := ⟨a1.toNat, by omega⟩
      rw [Bool.and_self, if_pos rfl, Int.toNat_natCast, Int.toNat_natCast] at h
      obtain ⟨⟨b, s⟩, hg, h⟩ := Option.bind_eq_some_iff.mp h
      obtain ⟨rfl, rfl⟩ : s = r1 ∧ (0 : Int) = r2 := by simpa using h
      have hG := Aside0.mk (fun W hW => xw_grown cntAct (fun s W => gInv w.heap.size 2 w (.int .i64 s) W) m n (by omega) 64 #[.pointer (some ⟨w.heap.size, 0, none⟩)] (enters_of Try.func64 (by kernel_rfl) rfl)
        (fun s W W' hI hb => gInv_move hI hb) (fun s W x hI => xw_CountSquareFree1 x s _ w W hI) k ⟨#[]⟩ 0 b s W hg hW)
      have hmk := xw_mkf
      clear h hg h0 h1 m0 m1 m2 m3
      have tok := Aside0.mk hI0
      clear hI0
      go_enter Try.func18, Try.ntmps18
      go_wp2_with (first | (go_at_call 62; have hI0 := tok.out; clear tok; refine (hI0 _).mono ?_; rintro e w' ⟨rfl, rfl⟩; clear hI0) | (go_at_call 62; refine (hI1 _).mono ?_; rintro e w' ⟨rfl, rfl⟩) | (go_at_call 63; refine (hG.out _ (gInv_new _ _ _)).mono ?_; rintro e w5 ⟨rfl, hI5⟩; have hc5 := gInv_cell hI5; have hI6 := Aside0.mk hI5; clear hI5))
      go_ret2
      exact ⟨rfl, hI6.out.2.2⟩


end Go.Proofs.Ytmihfmhfgjnfcaa.Q

namespace Go.Proofs.Ytmihfmhfgjnfcaa.Q
open Go.RowKit Go.Proofs.YtmihfmhfgjnfcaaW.PrintWords Go.Proofs.YtmihfmhfgjnfcaaW.PrintLast Go.Proofs.YtmihfmhfgjnfcaaW.PrintMore
attribute [local go_sem] max2_int min2_int max_two min_two max_three min_three max_four min_four bn_leq bn_gtr bn_geq   -- for this text's walks alone
set_option linter.unusedVariables false
set_option linter.unusedSimpArgs false

/-! ### impl_LocalPeriod: function 49 (this session's own) -/
set_option maxHeartbeats 2000000 in
theorem xw_LocalPeriod1 (a0 : ByteArray) (a1 : Int) (b1 : Nat) (b0 : Nat) (W : World) (h1 : W.cell? ⟨b1, 0, none⟩ = some (.int .i64 a1)) (h0 : W.cell? ⟨b0, 0, none⟩ = some (.string a0)) :
    Calls Try.prog 103 #[.pointer (some ⟨b1, 0, none⟩), .pointer (some ⟨b0, 0, none⟩)] W fun e w' => e = .returned (.bool (inR a1 1 (wrap64 ((a0.size : Int) - 1)))) ∧ Below W.heap.size W w' := by
  go_enter Try.func103, Try.ntmps103
  go_wp2
  go_quiet ((first | (go_at_call 87; exact Calls.quiet_of_same (xw_size _ _)) | (go_at_call 62; exact Calls.quiet_of_same (xw_within _ _ _ _))))
  go_wp2
  go_ret
  exact ⟨by first | rfl | (simp [IntKind.wrap_i64, wrap64]), by repeat (first | exact Below.refl _ _ | apply pw_below_drewN | apply below_drew)⟩
def impl_LocalPeriod.f (k : Nat) (a0 : ByteArray) (a1 : Int) : Option (Int × Int) :=
  if (isW a0) = true then (if (inR a1 1 (wrap64 ((a0.size : Int) - 1))) = true then ((impl_localPeriod.f k a0 a1).bind fun t => some (t, 0)) else some (0, 2)) else some (0, 1)
theorem impl_LocalPeriod.mono : ∀ a0 a1 k, LeO (impl_LocalPeriod.f k a0 a1) (impl_LocalPeriod.f (k + 1) a0 a1) := by
  intro a0 a1 k
  unfold impl_LocalPeriod.f
  exact LeO.ite (LeO.ite (LeO.bind (impl_localPeriod.mono _ _ _) (fun _ => LeO.refl _)) (LeO.refl _)) (LeO.refl _)
set_option maxHeartbeats 4000000 in
theorem impl_LocalPeriod.calls (k : Nat) (a0 : ByteArray) (a1 : Int) (r1 : Int) (r2 : Int) (w : World) (h : impl_LocalPeriod.f k a0 a1 = some (r1, r2)) :
    Calls Try.prog 49 #[.string a0, .int .i64 a1] w fun e w' => e = .returned (.tuple #[.int .i64 r1, .int .i64 r2]) ∧ Below w.heap.size w w' := by
  unfold impl_LocalPeriod.f at h
  obtain ⟨c, hc⟩ : ∃ c : Int, c = (if isW a0 then (if inR a1 1 (wrap64 ((a0.size : Int) - 1)) then 0 else 2) else 1) := ⟨_, rfl⟩
  have hC : Aside0 (∀ (W : World), Below w.heap.size w W → w.heap.size + 1 + 1 < W.heap.size → W.cell? ⟨w.heap.size, 0, none⟩ = some (.string a0) → W.cell? ⟨w.heap.size + 1, 0, none⟩ = some (.int .i64 a1) → W.cell? ⟨w.heap.size + 1 + 1, 0, none⟩ = some (.string a0) →
      Calls Try.prog 57 #[.func (.func 103) #[] #[.pointer (some ⟨w.heap.size + 1, 0, none⟩), .pointer (some ⟨w.heap.size, 0, none⟩)], .slice (some ⟨w.heap.size + 1 + 1, 0, none⟩) 1 1] W fun e w' => e = .returned (.int .i64 c) ∧ Below w.heap.size w w' ∧ w.heap.size + 1 + 1 < w'.heap.size ∧ w'.cell? ⟨w.heap.size, 0, none⟩ = some (.string a0) ∧ w'.cell? ⟨w.heap.size + 1, 0, none⟩ = some (.int .i64 a1)) := ⟨fun W hB hsz h0 h1 h2 => by
    refine (xw_wordCode (inR a1 1 (wrap64 ((a0.size : Int) - 1))) 103 _ (enters_of Try.func103 (by kernel_rfl) rfl) _ 1 [a0] W (xw_C_one W (w.heap.size + 1 + 1) a0 h2) (by simp) (fun W2 hb2 => ?_)).mono ?_
    · exact xw_LocalPeriod1 a0 a1 _ _ W2 ((hb2.cell (p := ⟨w.heap.size + 1, 0, none⟩) (by simp; omega)).trans h1) ((hb2.cell (p := ⟨w.heap.size, 0, none⟩) (by simp; omega)).trans h0)
    · rintro e w' ⟨rfl, hb⟩
      refine ⟨by rw [hc]; simp, below_then hB (by omega) hb, Nat.lt_of_lt_of_le hsz hb.size, (hb.cell (p := ⟨w.heap.size, 0, none⟩) (by simp; omega)).trans h0, (hb.cell (p := ⟨w.heap.size + 1, 0, none⟩) (by simp; omega)).trans h1⟩⟩
  have hq := hC.out (((w.alloc (.cells #[.string a0] 9)).alloc (.cells #[.int .i64 a1] 2)).alloc (.cells #[.string a0] 9)) (((((Below.refl _ w).alloc (by simp <;> omega) _).alloc (by simp <;> omega) _).alloc (by simp <;> omega) _)) (by simp) (by simp [go_sem]) (by simp [go_sem]) (by simp [go_sem])
  clear hC
  have hmk := xw_mkf
  cases hw : (isW a0) with
  | false =>
    rw [hw] at h hc
    obtain ⟨rfl, rfl⟩ : (0 : Int) = r1 ∧ (1 : Int) = r2 := by simpa using h
    obtain rfl : c = 1 := by simpa using hc
    clear h hc hw
    go_enter Try.func49, Try.ntmps49
    go_wp2_with (go_at_call 57; refine hq.mono ?_; rintro e w' ⟨rfl, hb, hz, hc0, hc1⟩; have hb' := Aside0.mk hb; clear hb)
    go_ret2
    exact ⟨rfl, hb'.out⟩
  | true =>
    cases hk : (inR a1 1 (wrap64 ((a0.size : Int) - 1))) with
    | false =>
      rw [hw, hk] at h hc
      obtain ⟨rfl, rfl⟩ : (0 : Int) = r1 ∧ (2 : Int) = r2 := by simpa using h
      obtain rfl : c = 2 := by simpa using hc
      clear h hc hw hk
      go_enter Try.func49, Try.ntmps49
      go_wp2_with (go_at_call 57; refine hq.mono ?_; rintro e w' ⟨rfl, hb, hz, hc0, hc1⟩; have hb' := Aside0.mk hb; clear hb)
      go_ret2
      exact ⟨rfl, hb'.out⟩
    | true =>
      rw [hw, hk] at h hc
      obtain rfl : c = 0 := by simpa using hc
      clear hc
      simp only [if_true] at h
      obtain ⟨t, ht, h⟩ := Option.bind_eq_some_iff.mp h
      obtain ⟨rfl, rfl⟩ : t = r1 ∧ (0 : Int) = r2 := by simpa using h
      have hcal : ∀ W : World, Calls Try.prog 98 #[.string a0, .int .i64 a1] W fun e w' => e = .returned (.int .i64 t) ∧ Below W.heap.size W w' := fun W => (impl_localPeriod.calls k a0 a1 t W ht).mono fun e w' z => ⟨z.1, by first | exact z.2 | exact z.2.below⟩
      clear h ht hw hk
      go_enter Try.func49, Try.ntmps49
      go_wp2_with (first | (go_at_call 57; refine hq.mono ?_; rintro e w' ⟨rfl, hb, hz, hc0, hc1⟩; have hb' := Aside0.mk hb; clear hb) | (go_at_call 98; refine (hcal _).mono ?_; rintro e w2 ⟨rfl, hb2⟩; have hb2' := Aside0.mk hb2; clear hb2))
      go_ret2
      exact ⟨rfl, below_then hb'.out hb'.out.size hb2'.out⟩



end Go.Proofs.Ytmihfmhfgjnfcaa.Q

namespace Go.Proofs.Ytmihfmhfgjnfcaa.Q
open Go.RowKit Go.Proofs.YtmihfmhfgjnfcaaW.PrintWords Go.Proofs.YtmihfmhfgjnfcaaW.PrintLast Go.Proofs.YtmihfmhfgjnfcaaW.PrintMore
attribute [local go_sem] max2_int min2_int max_two min_two max_three min_three max_four min_four bn_leq bn_gtr bn_geq   -- for this text's walks alone
set_option linter.unusedVariables false
set_option linter.unusedSimpArgs false

/-! ### spec_l01In: function 60 -/
def spec_l01In.f (a0 : Int) (a1 : Int) (a2 : Int) : Option (Bool) := if a0 ≥ a1 then (some (decide (a0 ≤ a2))) else (some false)
set_option maxHeartbeats 8000000 in
set_option maxRecDepth 100000 in
theorem spec_l01In.calls (a0 : Int) (a1 : Int) (a2 : Int) (r : Bool) (w : World) (h : spec_l01In.f a0 a1 a2 = some r) :
    Calls Try.prog 60 #[.int .i64 a0, .int .i64 a1, .int .i64 a2] w fun e w' => e = .returned (.bool r) ∧ Drawn0 w w' := by
  have H : (if a0 ≥ a1 then (some (decide (a0 ≤ a2))) else (some false)) = some r := h
  clear h
  by_cases c4 : a0 ≥ a1
  · rw [if_pos c4] at H
    have c4b0 : decide (a1 ≤ a0) = true := decide_eq_true c4
    clear c4
    obtain rfl := Option.some.inj H
    go_enter Try.func60, Try.ntmps60
    go_wp2
    go_ret
    exact ⟨by first | rfl | (simp; done) | (simp [*]; done), by repeat (first | exact Drawn0.refl _ | apply Drawn0.step)⟩
  · rw [if_neg c4] at H
    have c4b0 : decide (a1 ≤ a0) = false := decide_eq_false c4
    clear c4
    obtain rfl := Option.some.inj H
    go_enter Try.func60, Try.ntmps60
    go_wp2
    go_ret
    exact ⟨by first | rfl | (simp; done) | (simp [*]; done), by repeat (first | exact Drawn0.refl _ | apply Drawn0.step)⟩

end Go.Proofs.Ytmihfmhfgjnfcaa.Q

namespace Go.Proofs.Ytmihfmhfgjnfcaa.Q
open Go.RowKit Go.Proofs.YtmihfmhfgjnfcaaW.PrintWords Go.Proofs.YtmihfmhfgjnfcaaW.PrintLast Go.Proofs.YtmihfmhfgjnfcaaW.PrintMore
attribute [local go_sem] max2_int min2_int max_two min_two max_three min_three max_four min_four bn_leq bn_gtr bn_geq   -- for this text's walks alone
set_option linter.unusedVariables false
set_option linter.unusedSimpArgs false

/-! ### spec_LocalPeriod: function 50 -/
def spec_LocalPeriod.f (k : Nat) (a0 : ByteArray) (a1 : Int) : Option (Int × Int) := (spec_l01Is.f k a0).bind fun t754 => (if t754 = true then ((spec_l01In.f a1 1 (wrap64 ((a0.size : Int) - 1))).bind fun t755 => (if t755 = true then ((spec_l02Local.f k a0 a1).bind fun t756 => (some (t756, 0))) else (some (0, 2)))) else (some (0, 1)))
theorem spec_LocalPeriod.mono : ∀ a0 a1 k, LeO (spec_LocalPeriod.f k a0 a1) (spec_LocalPeriod.f (k + 1) a0 a1) := by
  intro a0 a1 k
  unfold spec_LocalPeriod.f
  repeat' first
      | (with_reducible exact spec_l01Is.mono _ _)
      | (with_reducible exact spec_l02Local.mono _ _ _)
      | (with_reducible exact LeO.refl _)
      | (with_reducible exact LeO.none _)
      | (with_reducible refine LeO.ite ?_ ?_)
      | (with_reducible refine LeO.bind ?_ (fun _ => ?_))
      | exact spec_l01Is.mono _ _
      | exact spec_l02Local.mono _ _ _
      | exact LeO.none _
      | refine LeO.ite ?_ ?_
      | refine LeO.bind ?_ (fun _ => ?_)
set_option maxHeartbeats 8000000 in
set_option maxRecDepth 100000 in
theorem spec_LocalPeriod.calls (k : Nat) (a0 : ByteArray) (a1 : Int) (r1 : Int) (r2 : Int) (w : World) (h : spec_LocalPeriod.f k a0 a1 = some (r1, r2)) :
    Calls Try.prog 50 #[.string a0, .int .i64 a1] w fun e w' => e = .returned (.tuple #[.int .i64 r1, .int .i64 r2]) ∧ Below w.heap.size w w' := by
  have HB := Aside0.mk (Below.refl w.heap.size w)
  have H : ((spec_l01Is.f k a0).bind fun t754 => (if t754 = true then ((spec_l01In.f a1 1 (wrap64 ((a0.size : Int) - 1))).bind fun t755 => (if t755 = true then ((spec_l02Local.f k a0 a1).bind fun t756 => (some (t756, 0))) else (some (0, 2)))) else (some (0, 1)))) = some (r1, r2) := h
  clear h
  replace H := Option.bind_eq_some_iff.mp H
  obtain ⟨t754, A30, H⟩ := H
  replace H : (if t754 = true then ((spec_l01In.f a1 1 (wrap64 ((a0.size : Int) - 1))).bind fun t755 => (if t755 = true then ((spec_l02Local.f k a0 a1).bind fun t756 => (some (t756, 0))) else (some (0, 2)))) else (some (0, 1))) = some (r1, r2) := H
  have A3 := Aside0.mk A30
  clear A30
  by_cases c4 : t754 = true
  · subst c4
    have H1 : ((spec_l01In.f a1 1 (wrap64 ((a0.size : Int) - 1))).bind fun t755 => (if t755 = true then ((spec_l02Local.f k a0 a1).bind fun t756 => (some (t756, 0))) else (some (0, 2)))) = some (r1, r2) := by rw [if_pos rfl] at H; exact H
    clear H
    have H := H1
    clear H1
    replace H := Option.bind_eq_some_iff.mp H
    obtain ⟨t755, A50, H⟩ := H
    replace H : (if t755 = true then ((spec_l02Local.f k a0 a1).bind fun t756 => (some (t756, 0))) else (some (0, 2))) = some (r1, r2) := H
    have A5 := Aside0.mk A50
    clear A50
    by_cases c6 : t755 = true
    · subst c6
      have H1 : ((spec_l02Local.f k a0 a1).bind fun t756 => (some (t756, 0))) = some (r1, r2) := by rw [if_pos rfl] at H; exact H
      clear H
      have H := H1
      clear H1
      replace H := Option.bind_eq_some_iff.mp H
      obtain ⟨t756, A70, H⟩ := H
      replace H : (some (t756, 0)) = some (r1, r2) := H
      have A7 := Aside0.mk A70
      clear A70
      simp only [Option.some.injEq, Prod.mk.injEq] at H
      obtain ⟨rfl, rfl⟩ := H
      go_enter Try.func50, Try.ntmps50
      go_wp2_with (first | ((with_reducible refine gate_callee (f := 56) rfl ?_); refine goesL_ (some 8) rfl rfl Try.func56 (by kernel_rfl) rfl #[.string a0] rfl (by (try simp only [List.map_toArray, List.map_cons, List.map_nil]); first | done | rfl | (simp only [List.length_drop, List.length_take]; rfl)) ?_; (with_reducible refine (spec_l01Is.calls k a0 true _ A3.out).mono ?_); rintro e w' ⟨rfl, ⟨nd, rfl⟩⟩; refine ⟨_, rfl, ?_⟩) | ((with_reducible refine gate_callee (f := 60) rfl ?_); refine goesL_ (some 15) rfl rfl Try.func60 (by kernel_rfl) rfl #[.int .i64 a1, .int .i64 1, .int .i64 (wrap64 ((a0.size : Int) - 1))] rfl (by (try simp only [List.map_toArray, List.map_cons, List.map_nil]); first | done | rfl | (simp only [List.length_drop, List.length_take]; rfl)) ?_; (with_reducible refine (spec_l01In.calls a1 1 (wrap64 ((a0.size : Int) - 1)) true _ A5.out).mono ?_); rintro e w' ⟨rfl, ⟨nd, rfl⟩⟩; refine ⟨_, rfl, ?_⟩) | ((with_reducible refine gate_callee (f := 100) rfl ?_); refine goesL_ (some 19) rfl rfl Try.func100 (by kernel_rfl) rfl #[.string a0, .int .i64 a1] rfl (by (try simp only [List.map_toArray, List.map_cons, List.map_nil]); first | done | rfl | (simp only [List.length_drop, List.length_take]; rfl)) ?_; (with_reducible refine (spec_l02Local.calls k a0 a1 t756 _ A7.out).mono ?_); rintro e w8 ⟨rfl, hb⟩; refine ⟨_, rfl, ?_⟩; have n0_ := Aside0.mk (below_step (by repeat (first | (with_reducible first | exact HB.out | apply below_alloc | apply pw_below_drewN | apply below_drew1) | exact HB.out)) hb); clear HB; have HB := n0_; clear n0_; (try clear hb); (try clear hb2); (try clear hk); (try clear hi)))
      go_ret2
      exact ⟨by first | rfl | (simp [errW_none, errW_some] <;> rfl) | (simp [*, errW_none, errW_some] <;> rfl), by repeat (first | (with_reducible first | exact HB.out | apply below_alloc | apply pw_below_drewN | apply below_drew1) | exact HB.out)⟩
    · replace c6 := Bool.eq_false_iff.mpr c6
      subst c6
      have H1 : (some (0, 2)) = some (r1, r2) := by rw [if_neg (show ¬ (false = true) by decide)] at H; exact H
      clear H
      have H := H1
      clear H1
      simp only [Option.some.injEq, Prod.mk.injEq] at H
      obtain ⟨rfl, rfl⟩ := H
      go_enter Try.func50, Try.ntmps50
      go_wp2_with (first | ((with_reducible refine gate_callee (f := 56) rfl ?_); refine goesL_ (some 8) rfl rfl Try.func56 (by kernel_rfl) rfl #[.string a0] rfl (by (try simp only [List.map_toArray, List.map_cons, List.map_nil]); first | done | rfl | (simp only [List.length_drop, List.length_take]; rfl)) ?_; (with_reducible refine (spec_l01Is.calls k a0 true _ A3.out).mono ?_); rintro e w' ⟨rfl, ⟨nd, rfl⟩⟩; refine ⟨_, rfl, ?_⟩) | ((with_reducible refine gate_callee (f := 60) rfl ?_); refine goesL_ (some 15) rfl rfl Try.func60 (by kernel_rfl) rfl #[.int .i64 a1, .int .i64 1, .int .i64 (wrap64 ((a0.size : Int) - 1))] rfl (by (try simp only [List.map_toArray, List.map_cons, List.map_nil]); first | done | rfl | (simp only [List.length_drop, List.length_take]; rfl)) ?_; (with_reducible refine (spec_l01In.calls a1 1 (wrap64 ((a0.size : Int) - 1)) false _ A5.out).mono ?_); rintro e w' ⟨rfl, ⟨nd, rfl⟩⟩; refine ⟨_, rfl, ?_⟩))
      go_ret2
      exact ⟨by first | rfl | (simp [errW_none, errW_some] <;> rfl) | (simp [*, errW_none, errW_some] <;> rfl), by repeat (first | (with_reducible first | exact HB.out | apply below_alloc | apply pw_below_drewN | apply below_drew1) | exact HB.out)⟩
  · replace c4 := Bool.eq_false_iff.mpr c4
    subst c4
    have H1 : (some (0, 1)) = some (r1, r2) := by rw [if_neg (show ¬ (false = true) by decide)] at H; exact H
    clear H
    have H := H1
    clear H1
    simp only [Option.some.injEq, Prod.mk.injEq] at H
    obtain ⟨rfl, rfl⟩ := H
    go_enter Try.func50, Try.ntmps50
    go_wp2_with (first | ((with_reducible refine gate_callee (f := 56) rfl ?_); refine goesL_ (some 8) rfl rfl Try.func56 (by kernel_rfl) rfl #[.string a0] rfl (by (try simp only [List.map_toArray, List.map_cons, List.map_nil]); first | done | rfl | (simp only [List.length_drop, List.length_take]; rfl)) ?_; (with_reducible refine (spec_l01Is.calls k a0 false _ A3.out).mono ?_); rintro e w' ⟨rfl, ⟨nd, rfl⟩⟩; refine ⟨_, rfl, ?_⟩))
    go_ret2
    exact ⟨by first | rfl | (simp [errW_none, errW_some] <;> rfl) | (simp [*, errW_none, errW_some] <;> rfl), by repeat (first | (with_reducible first | exact HB.out | apply below_alloc | apply pw_below_drewN | apply below_drew1) | exact HB.out)⟩

end Go.Proofs.Ytmihfmhfgjnfcaa.Q

namespace Go.Proofs.Ytmihfmhfgjnfcaa.Q
open Go.RowKit Go.Proofs.YtmihfmhfgjnfcaaW.PrintWords Go.Proofs.YtmihfmhfgjnfcaaW.PrintLast Go.Proofs.YtmihfmhfgjnfcaaW.PrintMore
attribute [local go_sem] max2_int min2_int max_two min_two max_three min_three max_four min_four bn_leq bn_gtr bn_geq   -- for this text's walks alone
set_option linter.unusedVariables false
set_option linter.unusedSimpArgs false

/-! ### spec_DrawLongestUnbordered: function 51 -/
def spec_DrawLongestUnbordered.f (k : Nat) (l0 : List Int) : Option (ByteArray) := (spec_l01From.f k l0).bind fun bt757 => ((spec_l01Spoil.f k bt757.1 bt757.2.1 bt757.2.2).bind fun bt761 => (some bt761.1))
theorem spec_DrawLongestUnbordered.mono : ∀ a0 k, LeO (spec_DrawLongestUnbordered.f k a0) (spec_DrawLongestUnbordered.f (k + 1) a0) := by
  intro a0 k
  unfold spec_DrawLongestUnbordered.f
  repeat' first
      | (with_reducible exact spec_l01From.mono _ _)
      | (with_reducible exact spec_l01Spoil.mono _ _ _ _)
      | (with_reducible exact LeO.refl _)
      | (with_reducible exact LeO.none _)
      | (with_reducible refine LeO.ite ?_ ?_)
      | (with_reducible refine LeO.bind ?_ (fun _ => ?_))
      | exact spec_l01From.mono _ _
      | exact spec_l01Spoil.mono _ _ _ _
      | exact LeO.none _
      | refine LeO.ite ?_ ?_
      | refine LeO.bind ?_ (fun _ => ?_)
set_option maxHeartbeats 8000000 in
set_option maxRecDepth 100000 in
theorem spec_DrawLongestUnbordered.calls (k : Nat) (A0 : Option Addr) (c0 : Nat) (l0 : List Int) (r : ByteArray) (w : World) (hr0 : Kd.C (Kd.int .u8) w A0 l0.length l0) (hc0 : l0.length ≤ c0) (h : spec_DrawLongestUnbordered.f k l0 = some r) :
    Calls Try.prog 51 #[.slice A0 l0.length c0] w fun e w' => e = .returned (.string r) ∧ Below w.heap.size w w' := by
  have HR0 := Aside0.mk hr0
  have HC0 := Aside0.mk hc0
  clear hr0 hc0
  have HB := Aside0.mk (Below.refl w.heap.size w)
  have H : ((spec_l01From.f k l0).bind fun bt757 => ((spec_l01Spoil.f k bt757.1 bt757.2.1 bt757.2.2).bind fun bt761 => (some bt761.1))) = some r := h
  clear h
  replace H := Option.bind_eq_some_iff.mp H
  obtain ⟨⟨t757, t758, t759⟩, A20, H⟩ := H
  replace H : ((spec_l01Spoil.f k t757 t758 t759).bind fun bt761 => (some bt761.1)) = some r := H
  have A2 := Aside0.mk A20
  clear A20
  replace H := Option.bind_eq_some_iff.mp H
  obtain ⟨⟨t761, t762, t763⟩, A30, H⟩ := H
  replace H : (some t761) = some r := H
  have A3 := Aside0.mk A30
  clear A30
  obtain rfl := Option.some.inj H
  go_enter Try.func51, Try.ntmps51
  go_wp2_with (first | ((with_reducible refine gate_callee (f := 97) rfl ?_); refine goesL_ (some 4) rfl rfl Try.func97 (by kernel_rfl) rfl #[.slice A0 l0.length c0] rfl (by (try simp only [List.map_toArray, List.map_cons, List.map_nil]); first | done | rfl | (simp only [List.length_drop, List.length_take]; rfl)) ?_; (with_reducible refine (spec_l01From.calls k _ _ l0 t757 t758 t759 w _ ?side1 ?side2 ?side3 A2.out).mono ?_); (case side1 => repeat (first | (with_reducible first | exact HB.out | apply below_alloc | apply pw_below_drewN | apply below_drew1) | exact HB.out)); (case side2 => exact HR0.out); (case side3 => exact HC0.out); rintro e w4 ⟨g760, rfl, hi, hb, hb2⟩; refine ⟨_, rfl, ?_⟩; have n0_ := Aside0.mk (hb); have n1_ := Aside0.mk (hi); clear HB; have HB := n0_; have HI760 := n1_; clear n0_ n1_; (try clear hb); (try clear hb2); (try clear hk); (try clear hi)) | ((with_reducible refine gate_callee (f := 96) rfl ?_); refine goesL_ (some 5) rfl rfl Try.func96 (by kernel_rfl) rfl #[.pointer (some ⟨g760, 0, none⟩)] rfl (by (try simp only [List.map_toArray, List.map_cons, List.map_nil]); first | done | rfl | (simp only [List.length_drop, List.length_take]; rfl)) ?_; (with_reducible refine (spec_l01Spoil.calls k g760 t757 t758 t759 t761 t762 t763 w _ ?side1 ?side2 A3.out).mono ?_); (case side1 => repeat (first | (with_reducible first | exact HI760.out | apply IsS120.alloc | apply IsS120.drewN | apply IsS120.drew | apply IsS120.set_1 | apply IsS120.set_2) | exact HI760.out)); (case side2 => repeat (first | (with_reducible first | exact HB.out | apply below_alloc | apply pw_below_drewN | apply below_drew1 | refine below_set ?_ (IsS120.ge HI760.out)) | exact HB.out)); rintro e w5 ⟨rfl, hi, hb, hk⟩; refine ⟨_, rfl, ?_⟩; have n0_ := Aside0.mk (hb); have n1_ := Aside0.mk (hi); clear HB; clear HI760; have HB := n0_; have HI760 := n1_; clear n0_ n1_; (try clear hb); (try clear hb2); (try clear hk); (try clear hi)))
  go_ret
  exact ⟨by first | rfl | (simp [errW_none, errW_some] <;> rfl) | (simp [*, errW_none, errW_some] <;> rfl), by repeat (first | (with_reducible first | exact HB.out | apply below_alloc | apply pw_below_drewN | apply below_drew1 | refine below_set ?_ (IsS120.ge HI760.out)) | exact HB.out)⟩

end Go.Proofs.Ytmihfmhfgjnfcaa.Q

namespace Go.Proofs.Ytmihfmhfgjnfcaa.Q
open Go.RowKit Go.Proofs.YtmihfmhfgjnfcaaW.PrintWords Go.Proofs.YtmihfmhfgjnfcaaW.PrintLast Go.Proofs.YtmihfmhfgjnfcaaW.PrintMore
attribute [local go_sem] max2_int min2_int max_two min_two max_three min_three max_four min_four bn_leq bn_gtr bn_geq   -- for this text's walks alone
set_option linter.unusedVariables false
set_option linter.unusedSimpArgs false

/-! ### impl_filledCode: function 104 -/
def impl_filledCode.f (a0 : ByteArray) : Option (Int) := (impl_wordCode.f () (([a0] : List ByteArray))).bind fun t767 => (if t767 = 0 then (if a0.toList = ([] : List UInt8) then (some 5) else (some 0)) else (some t767))
set_option maxHeartbeats 8000000 in
set_option maxRecDepth 100000 in
theorem impl_filledCode.calls (a0 : ByteArray) (r : Int) (w : World) (h : impl_filledCode.f a0 = some r) :
    Calls Try.prog 104 #[.string a0] w fun e w' => e = .returned (.int .i64 r) ∧ Below w.heap.size w w' := by
  have HB := Aside0.mk (Below.refl w.heap.size w)
  have H : ((impl_wordCode.f () (([a0] : List ByteArray))).bind fun t767 => (if t767 = 0 then (if a0.toList = ([] : List UInt8) then (some 5) else (some 0)) else (some t767))) = some r := h
  clear h
  obtain ⟨y764, hy764⟩ : ∃ y_ : List ByteArray, y_ = (([a0] : List ByteArray)) := ⟨_, rfl⟩
  replace H : ((impl_wordCode.f () y764).bind fun t767 => (if t767 = 0 then (if a0.toList = ([] : List UInt8) then (some 5) else (some 0)) else (some t767))) = some r := by first | (rw [hy764]; with_reducible exact H) | (have H2_ := (Option.bind_some _ _).symm.trans H; rw [hy764]; with_reducible exact H2_) | (have H2_ := (Option.bind_some _ _).symm.trans H; with_reducible exact H2_) | with_reducible exact H | (rw [hy764]; exact H) | exact H
  have Ny764 := Aside0.mk hy764
  clear hy764
  replace H := Option.bind_eq_some_iff.mp H
  obtain ⟨t767, A20, H⟩ := H
  replace H : (if t767 = 0 then (if a0.toList = ([] : List UInt8) then (some 5) else (some 0)) else (some t767)) = some r := H
  have A2 := Aside0.mk A20
  clear A20
  by_cases c3 : t767 = 0
  · rw [if_pos c3] at H
    have c3b0 : (t767 == 0) = true := beq_iff_eq.mpr c3
    have c3b1 : (t767 != 0) = false := bne_eq_false_iff_eq.mpr c3
    clear c3
    by_cases c4 : a0.toList = ([] : List UInt8)
    · rw [if_pos c4] at H
      have c4b0 : (a0.toList == ([] : List UInt8)) = true := beq_iff_eq.mpr c4
      have c4b1 : (a0.toList != ([] : List UInt8)) = false := bne_eq_false_iff_eq.mpr c4
      clear c4
      obtain rfl := Option.some.inj H
      go_enter Try.func104, Try.ntmps104
      go_wp2_with (first | ((with_reducible refine gate_dst (N := 5) rfl ?_); refine Kd.R_lit Kd.string _ 9 ?hg (N := 5) ?hd (xs := ([a0] : List ByteArray)) (inner := [.string a0]) (ok := fun _ => True) (okp := fun _ => True) ?hr ?hp (fun _ hk => hk) trivial (Below.refl _ _) (Nat.le_refl _) (by simp) ?_; (case hd => rfl); (case hg => rfl); (case hr => first | (go_simp; done) | (go_simp; rfl)); (case hp => exact (Reps.one (show Kd.M Kd.string _ _ _ a0 [.string a0] from rfl) (Reps.none _ _))); intro v765 w5 ho6 hb hg_ hnew_; clear hg_ hnew_; (first | rw [← Ny764.out] at ho6 | (simp only [Int.reduceToNat] at ho6; rw [← Ny764.out] at ho6)); have n0_ := Aside0.mk (Kd.R_lower ho6 (below_size (by repeat (first | (with_reducible first | exact HB.out | apply below_alloc | apply pw_below_drewN | apply below_drew1) | exact HB.out)))); have n1_ := Aside0.mk (below_step (by repeat (first | (with_reducible first | exact HB.out | apply below_alloc | apply pw_below_drewN | apply below_drew1) | exact HB.out)) hb); clear HB; have HO766 := n0_; have HB := n1_; clear n0_ n1_; clear hb ho6; obtain ⟨Ao7, co7, eo7⟩ := Kd.R_slice HO766.out; subst eo7) | ((with_reducible refine gate_callee (f := 57) rfl ?_); refine goesL_ (some 6) rfl rfl Try.func57 (by kernel_rfl) rfl #[.func (.func 73) #[] #[], .slice Ao7 y764.length co7] rfl (by (try simp only [List.map_toArray, List.map_cons, List.map_nil]); first | done | rfl | (simp only [List.length_drop, List.length_take]; rfl)) ?_; (with_reducible refine (impl_wordCode.calls () _ _ y764 t767 _ ?side1 ?side2 A2.out).mono ?_); (case side1 => repeat (first | exact (Kd.R_reads' HO766.out).2.2 | (with_reducible refine Kd.C_alloc ?_ _) | (with_reducible refine Kd.C_drewN ?_ _) | (with_reducible refine Kd.C_drew ?_))); (case side2 => exact (Kd.R_reads' HO766.out).2.1); rintro e w8 ⟨rfl, hb⟩; refine ⟨_, rfl, ?_⟩; have n0_ := Aside0.mk (Kd.R_below (by (with_reducible repeat (first | apply Kd.R_alloc | apply Kd.R_drewN | apply Kd.R_drew)); exact HO766.out) hb); have n1_ := Aside0.mk (below_step (by repeat (first | (with_reducible first | exact HB.out | apply below_alloc | apply pw_below_drewN | apply below_drew1) | exact HB.out)) hb); clear HO766; clear HB; have HO766 := n0_; have HB := n1_; clear n0_ n1_; (try clear hb); (try clear hb2); (try clear hk); (try clear hi)))
      go_ret
      exact ⟨by first | rfl | (simp [errW_none, errW_some] <;> rfl) | (simp [*, errW_none, errW_some] <;> rfl), by repeat (first | (with_reducible first | exact HB.out | apply below_alloc | apply pw_below_drewN | apply below_drew1) | exact HB.out)⟩
    · rw [if_neg c4] at H
      have c4b0 : (a0.toList == ([] : List UInt8)) = false := beq_eq_false_iff_ne.mpr c4
      have c4b1 : (a0.toList != ([] : List UInt8)) = true := bne_iff_ne.mpr c4
      obtain rfl := Option.some.inj H
      go_enter Try.func104, Try.ntmps104
      go_wp2_with (first | ((with_reducible refine gate_dst (N := 5) rfl ?_); refine Kd.R_lit Kd.string _ 9 ?hg (N := 5) ?hd (xs := ([a0] : List ByteArray)) (inner := [.string a0]) (ok := fun _ => True) (okp := fun _ => True) ?hr ?hp (fun _ hk => hk) trivial (Below.refl _ _) (Nat.le_refl _) (by simp) ?_; (case hd => rfl); (case hg => rfl); (case hr => first | (go_simp; done) | (go_simp; rfl)); (case hp => exact (Reps.one (show Kd.M Kd.string _ _ _ a0 [.string a0] from rfl) (Reps.none _ _))); intro v765 w9 ho10 hb hg_ hnew_; clear hg_ hnew_; (first | rw [← Ny764.out] at ho10 | (simp only [Int.reduceToNat] at ho10; rw [← Ny764.out] at ho10)); have n0_ := Aside0.mk (Kd.R_lower ho10 (below_size (by repeat (first | (with_reducible first | exact HB.out | apply below_alloc | apply pw_below_drewN | apply below_drew1) | exact HB.out)))); have n1_ := Aside0.mk (below_step (by repeat (first | (with_reducible first | exact HB.out | apply below_alloc | apply pw_below_drewN | apply below_drew1) | exact HB.out)) hb); clear HB; have HO766 := n0_; have HB := n1_; clear n0_ n1_; clear hb ho10; obtain ⟨Ao11, co11, eo11⟩ := Kd.R_slice HO766.out; subst eo11) | ((with_reducible refine gate_callee (f := 57) rfl ?_); refine goesL_ (some 6) rfl rfl Try.func57 (by kernel_rfl) rfl #[.func (.func 73) #[] #[], .slice Ao11 y764.length co11] rfl (by (try simp only [List.map_toArray, List.map_cons, List.map_nil]); first | done | rfl | (simp only [List.length_drop, List.length_take]; rfl)) ?_; (with_reducible refine (impl_wordCode.calls () _ _ y764 t767 _ ?side1 ?side2 A2.out).mono ?_); (case side1 => repeat (first | exact (Kd.R_reads' HO766.out).2.2 | (with_reducible refine Kd.C_alloc ?_ _) | (with_reducible refine Kd.C_drewN ?_ _) | (with_reducible refine Kd.C_drew ?_))); (case side2 => exact (Kd.R_reads' HO766.out).2.1); rintro e w12 ⟨rfl, hb⟩; refine ⟨_, rfl, ?_⟩; have n0_ := Aside0.mk (Kd.R_below (by (with_reducible repeat (first | apply Kd.R_alloc | apply Kd.R_drewN | apply Kd.R_drew)); exact HO766.out) hb); have n1_ := Aside0.mk (below_step (by repeat (first | (with_reducible first | exact HB.out | apply below_alloc | apply pw_below_drewN | apply below_drew1) | exact HB.out)) hb); clear HO766; clear HB; have HO766 := n0_; have HB := n1_; clear n0_ n1_; (try clear hb); (try clear hb2); (try clear hk); (try clear hi)))
      go_ret
      exact ⟨by first | rfl | (simp [errW_none, errW_some] <;> rfl) | (simp [*, errW_none, errW_some] <;> rfl), by repeat (first | (with_reducible first | exact HB.out | apply below_alloc | apply pw_below_drewN | apply below_drew1) | exact HB.out)⟩
  · rw [if_neg c3] at H
    have c3b0 : (t767 == 0) = false := beq_eq_false_iff_ne.mpr c3
    have c3b1 : (t767 != 0) = true := bne_iff_ne.mpr c3
    obtain rfl := Option.some.inj H
    go_enter Try.func104, Try.ntmps104
    go_wp2_with (first | ((with_reducible refine gate_dst (N := 5) rfl ?_); refine Kd.R_lit Kd.string _ 9 ?hg (N := 5) ?hd (xs := ([a0] : List ByteArray)) (inner := [.string a0]) (ok := fun _ => True) (okp := fun _ => True) ?hr ?hp (fun _ hk => hk) trivial (Below.refl _ _) (Nat.le_refl _) (by simp) ?_; (case hd => rfl); (case hg => rfl); (case hr => first | (go_simp; done) | (go_simp; rfl)); (case hp => exact (Reps.one (show Kd.M Kd.string _ _ _ a0 [.string a0] from rfl) (Reps.none _ _))); intro v765 w13 ho14 hb hg_ hnew_; clear hg_ hnew_; (first | rw [← Ny764.out] at ho14 | (simp only [Int.reduceToNat] at ho14; rw [← Ny764.out] at ho14)); have n0_ := Aside0.mk (Kd.R_lower ho14 (below_size (by repeat (first | (with_reducible first | exact HB.out | apply below_alloc | apply pw_below_drewN | apply below_drew1) | exact HB.out)))); have n1_ := Aside0.mk (below_step (by repeat (first | (with_reducible first | exact HB.out | apply below_alloc | apply pw_below_drewN | apply below_drew1) | exact HB.out)) hb); clear HB; have HO766 := n0_; have HB := n1_; clear n0_ n1_; clear hb ho14; obtain ⟨Ao15, co15, eo15⟩ := Kd.R_slice HO766.out; subst eo15) | ((with_reducible refine gate_callee (f := 57) rfl ?_); refine goesL_ (some 6) rfl rfl Try.func57 (by kernel_rfl) rfl #[.func (.func 73) #[] #[], .slice Ao15 y764.length co15] rfl (by (try simp only [List.map_toArray, List.map_cons, List.map_nil]); first | done | rfl | (simp only [List.length_drop, List.length_take]; rfl)) ?_; (with_reducible refine (impl_wordCode.calls () _ _ y764 t767 _ ?side1 ?side2 A2.out).mono ?_); (case side1 => repeat (first | exact (Kd.R_reads' HO766.out).2.2 | (with_reducible refine Kd.C_alloc ?_ _) | (with_reducible refine Kd.C_drewN ?_ _) | (with_reducible refine Kd.C_drew ?_))); (case side2 => exact (Kd.R_reads' HO766.out).2.1); rintro e w16 ⟨rfl, hb⟩; refine ⟨_, rfl, ?_⟩; have n0_ := Aside0.mk (Kd.R_below (by (with_reducible repeat (first | apply Kd.R_alloc | apply Kd.R_drewN | apply Kd.R_drew)); exact HO766.out) hb); have n1_ := Aside0.mk (below_step (by repeat (first | (with_reducible first | exact HB.out | apply below_alloc | apply pw_below_drewN | apply below_drew1) | exact HB.out)) hb); clear HO766; clear HB; have HO766 := n0_; have HB := n1_; clear n0_ n1_; (try clear hb); (try clear hb2); (try clear hk); (try clear hi)))
    go_ret
    exact ⟨by first | rfl | (simp [errW_none, errW_some] <;> rfl) | (simp [*, errW_none, errW_some] <;> rfl), by repeat (first | (with_reducible first | exact HB.out | apply below_alloc | apply pw_below_drewN | apply below_drew1) | exact HB.out)⟩

end Go.Proofs.Ytmihfmhfgjnfcaa.Q

namespace Go.Proofs.Ytmihfmhfgjnfcaa.Q
open Go.RowKit Go.Proofs.YtmihfmhfgjnfcaaW.PrintWords Go.Proofs.YtmihfmhfgjnfcaaW.PrintLast Go.Proofs.YtmihfmhfgjnfcaaW.PrintMore
attribute [local go_sem] max2_int min2_int max_two min_two max_three min_three max_four min_four bn_leq bn_gtr bn_geq   -- for this text's walks alone
set_option linter.unusedVariables false
set_option linter.unusedSimpArgs false

/-! ### impl_LongestUnbordered: function 52 -/
mutual
def impl_LongestUnbordered.l0 : Nat → ByteArray → Int → Option (ByteArray × Int)
  | 0, _, _ => none
  | k + 1, x0, x5 => impl_LongestUnbordered.l1 k x0 x5 0
def impl_LongestUnbordered.l1 : Nat → ByteArray → Int → Int → Option (ByteArray × Int)
  | 0, _, _, _ => none
  | k + 1, x0, x5, x6 => if (wrap64 (x6 + x5)) ≤ (x0.size : Int) then (if 0 ≤ x6 then (if x6 ≤ (wrap64 (x6 + x5)) then ((impl_period.f k (x0.extract (x6 : Int).toNat ((wrap64 (x6 + x5)) : Int).toNat)).bind fun t769 => (if t769 = x5 then (some (x0.extract (x6 : Int).toNat ((wrap64 (x6 + x5)) : Int).toNat, 0)) else (impl_LongestUnbordered.l1 k x0 x5 (wrap64 (x6 + 1))))) else (none)) else (none)) else (impl_LongestUnbordered.l0 k x0 (wrap64 (x5 - 1)))
end
def impl_LongestUnbordered.f (k : Nat) (a0 : ByteArray) : Option (ByteArray × Int) := (impl_filledCode.f a0).bind fun t768 => (if t768 = 0 then (impl_LongestUnbordered.l0 k a0 (a0.size : Int)) else (some ((⟨#[]⟩ : ByteArray), t768)))
theorem impl_LongestUnbordered.mono_l : ∀ k, (∀ y0 y1, LeO (impl_LongestUnbordered.l0 k y0 y1) (impl_LongestUnbordered.l0 (k + 1) y0 y1)) ∧ (∀ y0 y1 y2, LeO (impl_LongestUnbordered.l1 k y0 y1 y2) (impl_LongestUnbordered.l1 (k + 1) y0 y1 y2))
  | 0 => ⟨fun _ _ r h => by simp [impl_LongestUnbordered.l0] at h, fun _ _ _ r h => by simp [impl_LongestUnbordered.l1] at h⟩
  | k + 1 => by
    obtain ⟨ih0, ih1⟩ := impl_LongestUnbordered.mono_l k
    refine ⟨?_, ?_⟩
    · intro y0 y1
      unfold impl_LongestUnbordered.l0
      repeat' first
      | (with_reducible exact ih0 _ _)
      | (with_reducible exact ih1 _ _ _)
      | (with_reducible exact impl_period.mono _ _)
      | (with_reducible exact LeO.refl _)
      | (with_reducible exact LeO.none _)
      | (with_reducible refine LeO.ite ?_ ?_)
      | (with_reducible refine LeO.bind ?_ (fun _ => ?_))
      | exact ih0 _ _
      | exact ih1 _ _ _
      | exact impl_period.mono _ _
      | exact LeO.none _
      | refine LeO.ite ?_ ?_
      | refine LeO.bind ?_ (fun _ => ?_)
    · intro y0 y1 y2
      unfold impl_LongestUnbordered.l1
      repeat' first
      | (with_reducible exact ih0 _ _)
      | (with_reducible exact ih1 _ _ _)
      | (with_reducible exact impl_period.mono _ _)
      | (with_reducible exact LeO.refl _)
      | (with_reducible exact LeO.none _)
      | (with_reducible refine LeO.ite ?_ ?_)
      | (with_reducible refine LeO.bind ?_ (fun _ => ?_))
      | exact ih0 _ _
      | exact ih1 _ _ _
      | exact impl_period.mono _ _
      | exact LeO.none _
      | refine LeO.ite ?_ ?_
      | refine LeO.bind ?_ (fun _ => ?_)
theorem impl_LongestUnbordered.mono : ∀ a0 k, LeO (impl_LongestUnbordered.f k a0) (impl_LongestUnbordered.f (k + 1) a0) := by
  intro a0 k
  obtain ⟨ih0, ih1⟩ := impl_LongestUnbordered.mono_l k
  unfold impl_LongestUnbordered.f
  repeat' first
      | (with_reducible exact ih0 _ _)
      | (with_reducible exact ih1 _ _ _)
      | (with_reducible exact impl_period.mono _ _)
      | (with_reducible exact LeO.refl _)
      | (with_reducible exact LeO.none _)
      | (with_reducible refine LeO.ite ?_ ?_)
      | (with_reducible refine LeO.bind ?_ (fun _ => ?_))
      | exact ih0 _ _
      | exact ih1 _ _ _
      | exact impl_period.mono _ _
      | exact LeO.none _
      | refine LeO.ite ?_ ?_
      | refine LeO.bind ?_ (fun _ => ?_)
set_option maxHeartbeats 8000000 in
set_option maxRecDepth 100000 in
theorem impl_LongestUnbordered.calls (k : Nat) (a0 : ByteArray) (r1 : ByteArray) (r2 : Int) (w : World) (h : impl_LongestUnbordered.f k a0 = some (r1, r2)) :
    Calls Try.prog 52 #[.string a0] w fun e w' => e = .returned (.tuple #[.string r1, .int .i64 r2]) ∧ Below w.heap.size w w' := by
  have HB := Aside0.mk (Below.refl w.heap.size w)
  have H : ((impl_filledCode.f a0).bind fun t768 => (if t768 = 0 then (impl_LongestUnbordered.l0 k a0 (a0.size : Int)) else (some ((⟨#[]⟩ : ByteArray), t768)))) = some (r1, r2) := h
  clear h
  replace H := Option.bind_eq_some_iff.mp H
  obtain ⟨t768, A20, H⟩ := H
  replace H : (if t768 = 0 then (impl_LongestUnbordered.l0 k a0 (a0.size : Int)) else (some ((⟨#[]⟩ : ByteArray), t768))) = some (r1, r2) := H
  have A2 := Aside0.mk A20
  clear A20
  by_cases c3 : t768 = 0
  · rw [if_pos c3] at H
    have c3b0 : (t768 == 0) = true := beq_iff_eq.mpr c3
    have c3b1 : (t768 != 0) = false := bne_eq_false_iff_eq.mpr c3
    clear c3
    have H' := Aside0.mk H
    clear H
    go_enter Try.func52, Try.ntmps52
    go_wp2_with (first | ((with_reducible refine gate_callee (f := 104) rfl ?_); refine goesL_ (some 9) rfl rfl Try.func104 (by kernel_rfl) rfl #[.string a0] rfl (by (try simp only [List.map_toArray, List.map_cons, List.map_nil]); first | done | rfl | (simp only [List.length_drop, List.length_take]; rfl)) ?_; (with_reducible refine (impl_filledCode.calls a0 t768 _ A2.out).mono ?_); rintro e w4 ⟨rfl, hb⟩; refine ⟨_, rfl, ?_⟩; have n0_ := Aside0.mk (below_step (by repeat (first | (with_reducible first | exact HB.out | apply below_alloc | apply pw_below_drewN | apply below_drew1) | exact HB.out)) hb); clear HB; have HB := n0_; clear n0_; (try clear hb); (try clear hb2); (try clear hk); (try clear hi)))
    go_loopg [5] k (fun kq v5 w' => ∃ (x5_1 : Int), v5 = .int .i64 x5_1 ∧ Aside0 (impl_LongestUnbordered.l0 kq a0 x5_1 = some (r1, r2)) ∧ Aside0 (kq ≤ k) ∧ Aside0 (Below w.heap.size w w'))
    case atStart => exact ⟨((a0.size : Int)), (by first | rfl | (simp; done) | (simp [*]; done)), H', ⟨Nat.le_refl _⟩, ⟨by repeat (first | (with_reducible first | exact HB.out | apply below_alloc | apply pw_below_drewN | apply below_drew1) | exact HB.out)⟩⟩
    case round =>
      clear H'
      try clear c1
      try clear p2
      try clear c3
      try clear c3b0
      try clear c3b1
      obtain ⟨x5_1, rfl, HA, HK1, HB⟩ := hrel
      cases gk with
      | zero => exact absurd HA.out (by simp [impl_LongestUnbordered.l0])
      | succ k1 =>
        have H := HA.out
        clear HA
        simp only [impl_LongestUnbordered.l0] at H
        have H' := Aside0.mk H
        clear H
        go_wp2
        go_loopg [6] k1 (fun kq v6 w' => ∃ (x6_2 : Int), v6 = .int .i64 x6_2 ∧ Aside0 (impl_LongestUnbordered.l1 kq a0 x5_1 x6_2 = some (r1, r2)) ∧ Aside0 (kq ≤ k1) ∧ Aside0 (Below w.heap.size w w'))
        case atStart => exact ⟨(0), (by first | rfl | (simp; done) | (simp [*]; done)), H', ⟨Nat.le_refl _⟩, ⟨by repeat (first | (with_reducible first | exact HB.out | apply below_alloc | apply pw_below_drewN | apply below_drew1) | exact HB.out)⟩⟩
        case round =>
          clear H'
          try clear c1
          try clear p2
          try clear c3
          try clear c3b0
          try clear c3b1
          try clear p2
          obtain ⟨x6_2, rfl, HA, HK2, HB⟩ := hrel
          cases gk with
          | zero => exact absurd HA.out (by simp [impl_LongestUnbordered.l1])
          | succ k2 =>
            have H := HA.out
            clear HA
            simp only [impl_LongestUnbordered.l1] at H
            by_cases c5 : (wrap64 (x6_2 + x5_1)) ≤ (a0.size : Int)
            · rw [if_pos c5] at H
              have c5b0 : decide ((wrap64 (x6_2 + x5_1)) ≤ (a0.size : Int)) = true := decide_eq_true c5
              clear c5
              by_cases c6 : 0 ≤ x6_2
              · rw [if_pos c6] at H
                have c6b0 := eq_true c6
                have c6b1 : decide (0 ≤ x6_2) = true := decide_eq_true c6
                clear c6
                by_cases c7 : x6_2 ≤ (wrap64 (x6_2 + x5_1))
                · rw [if_pos c7] at H
                  have c7b0 := eq_true c7
                  have c7b1 : decide (x6_2 ≤ (wrap64 (x6_2 + x5_1))) = true := decide_eq_true c7
                  have c8b0 := eq_true (of_decide_eq_true (by first | (with_reducible assumption) | assumption) : (wrap64 (x6_2 + x5_1)) ≤ (a0.size : Int))
                  replace H := Option.bind_eq_some_iff.mp H
                  obtain ⟨t769, A90, H⟩ := H
                  replace H : (if t769 = x5_1 then (some (a0.extract (x6_2 : Int).toNat ((wrap64 (x6_2 + x5_1)) : Int).toNat, 0)) else (impl_LongestUnbordered.l1 k2 a0 x5_1 (wrap64 (x6_2 + 1)))) = some (r1, r2) := H
                  have A9 := Aside0.mk A90
                  clear A90
                  by_cases c10 : t769 = x5_1
                  · rw [if_pos c10] at H
                    have c10b0 : (t769 == x5_1) = true := beq_iff_eq.mpr c10
                    have c10b1 : (t769 != x5_1) = false := bne_eq_false_iff_eq.mpr c10
                    clear c10
                    simp only [Option.some.injEq, Prod.mk.injEq] at H
                    obtain ⟨rfl, rfl⟩ := H
                    go_wp2_with (first | ((with_reducible refine gate_callee (f := 99) rfl ?_); refine goesL_ (some 32) rfl rfl Try.func99 (by kernel_rfl) rfl #[.string (a0.extract (x6_2 : Int).toNat ((wrap64 (x6_2 + x5_1)) : Int).toNat)] rfl (by (try simp only [List.map_toArray, List.map_cons, List.map_nil]); first | done | rfl | (simp only [List.length_drop, List.length_take]; rfl)) ?_; (with_reducible refine (impl_period.calls k2 (a0.extract (x6_2 : Int).toNat ((wrap64 (x6_2 + x5_1)) : Int).toNat) t769 _ A9.out).mono ?_); rintro e w' ⟨rfl, ⟨nd, rfl⟩⟩; refine ⟨_, rfl, ?_⟩))
                    go_ret2
                    exact ⟨by first | rfl | (simp [errW_none, errW_some] <;> rfl) | (simp [*, errW_none, errW_some] <;> rfl), by repeat (first | (with_reducible first | exact HB.out | apply below_alloc | apply pw_below_drewN | apply below_drew1) | exact HB.out)⟩
                  · rw [if_neg c10] at H
                    have c10b0 : (t769 == x5_1) = false := beq_eq_false_iff_ne.mpr c10
                    have c10b1 : (t769 != x5_1) = true := bne_iff_ne.mpr c10
                    have H' := Aside0.mk H
                    clear H
                    go_wp2_with (first | ((with_reducible refine gate_callee (f := 99) rfl ?_); refine goesL_ (some 32) rfl rfl Try.func99 (by kernel_rfl) rfl #[.string (a0.extract (x6_2 : Int).toNat ((wrap64 (x6_2 + x5_1)) : Int).toNat)] rfl (by (try simp only [List.map_toArray, List.map_cons, List.map_nil]); first | done | rfl | (simp only [List.length_drop, List.length_take]; rfl)) ?_; (with_reducible refine (impl_period.calls k2 (a0.extract (x6_2 : Int).toNat ((wrap64 (x6_2 + x5_1)) : Int).toNat) t769 _ A9.out).mono ?_); rintro e w' ⟨rfl, ⟨nd, rfl⟩⟩; refine ⟨_, rfl, ?_⟩))
                    go_roundg k2
                    case measure => have := HK1.out; have := HK2.out; omega
                    case rel => exact ⟨(wrap64 (x6_2 + 1)), (by first | rfl | (simp; done) | (simp [*]; done)), H', ⟨by have := HK1.out; have := HK2.out; omega⟩, ⟨by repeat (first | (with_reducible first | exact HB.out | apply below_alloc | apply pw_below_drewN | apply below_drew1) | exact HB.out)⟩⟩
                · rw [if_neg c7] at H
                  exact absurd H (by simp)
              · rw [if_neg c6] at H
                exact absurd H (by simp)
            · rw [if_neg c5] at H
              have c5b0 : decide ((wrap64 (x6_2 + x5_1)) ≤ (a0.size : Int)) = false := decide_eq_false c5
              clear c5
              have H' := Aside0.mk H
              clear H
              go_wp2
              go_roundg k2
              case measure => have := HK1.out; have := HK2.out; omega
              case rel => exact ⟨(wrap64 (x5_1 - 1)), (by first | rfl | (simp; done) | (simp [*]; done)), H', ⟨by have := HK1.out; have := HK2.out; omega⟩, ⟨by repeat (first | (with_reducible first | exact HB.out | apply below_alloc | apply pw_below_drewN | apply below_drew1) | exact HB.out)⟩⟩
  · rw [if_neg c3] at H
    have c3b0 : (t768 == 0) = false := beq_eq_false_iff_ne.mpr c3
    have c3b1 : (t768 != 0) = true := bne_iff_ne.mpr c3
    simp only [Option.some.injEq, Prod.mk.injEq] at H
    obtain ⟨rfl, rfl⟩ := H
    go_enter Try.func52, Try.ntmps52
    go_wp2_with (first | ((with_reducible refine gate_callee (f := 104) rfl ?_); refine goesL_ (some 9) rfl rfl Try.func104 (by kernel_rfl) rfl #[.string a0] rfl (by (try simp only [List.map_toArray, List.map_cons, List.map_nil]); first | done | rfl | (simp only [List.length_drop, List.length_take]; rfl)) ?_; (with_reducible refine (impl_filledCode.calls a0 t768 _ A2.out).mono ?_); rintro e w11 ⟨rfl, hb⟩; refine ⟨_, rfl, ?_⟩; have n0_ := Aside0.mk (below_step (by repeat (first | (with_reducible first | exact HB.out | apply below_alloc | apply pw_below_drewN | apply below_drew1) | exact HB.out)) hb); clear HB; have HB := n0_; clear n0_; (try clear hb); (try clear hb2); (try clear hk); (try clear hi)))
    go_ret2
    exact ⟨by first | rfl | (simp [errW_none, errW_some] <;> rfl) | (simp [*, errW_none, errW_some] <;> rfl), by repeat (first | (with_reducible first | exact HB.out | apply below_alloc | apply pw_below_drewN | apply below_drew1) | exact HB.out)⟩

end Go.Proofs.Ytmihfmhfgjnfcaa.Q

namespace Go.Proofs.Ytmihfmhfgjnfcaa.Q
open Go.RowKit Go.Proofs.YtmihfmhfgjnfcaaW.PrintWords Go.Proofs.YtmihfmhfgjnfcaaW.PrintLast Go.Proofs.YtmihfmhfgjnfcaaW.PrintMore
attribute [local go_sem] max2_int min2_int max_two min_two max_three min_three max_four min_four bn_leq bn_gtr bn_geq   -- for this text's walks alone
set_option linter.unusedVariables false
set_option linter.unusedSimpArgs false

/-! ### spec_l02Given: function 105 -/
def spec_l02Given.f (k : Nat) (a0 : ByteArray) : Option (Int) := (spec_l01Is.f k a0).bind fun t770 => (if t770 = true then (if a0.toList = ([] : List UInt8) then (some 5) else (some 0)) else (some 1))
theorem spec_l02Given.mono : ∀ a0 k, LeO (spec_l02Given.f k a0) (spec_l02Given.f (k + 1) a0) := by
  intro a0 k
  unfold spec_l02Given.f
  repeat' first
      | (with_reducible exact spec_l01Is.mono _ _)
      | (with_reducible exact LeO.refl _)
      | (with_reducible exact LeO.none _)
      | (with_reducible refine LeO.ite ?_ ?_)
      | (with_reducible refine LeO.bind ?_ (fun _ => ?_))
      | exact spec_l01Is.mono _ _
      | exact LeO.none _
      | refine LeO.ite ?_ ?_
      | refine LeO.bind ?_ (fun _ => ?_)
set_option maxHeartbeats 8000000 in
set_option maxRecDepth 100000 in
theorem spec_l02Given.calls (k : Nat) (a0 : ByteArray) (r : Int) (w : World) (h : spec_l02Given.f k a0 = some r) :
    Calls Try.prog 105 #[.string a0] w fun e w' => e = .returned (.int .i64 r) ∧ Drawn0 w w' := by
  have H : ((spec_l01Is.f k a0).bind fun t770 => (if t770 = true then (if a0.toList = ([] : List UInt8) then (some 5) else (some 0)) else (some 1))) = some r := h
  clear h
  replace H := Option.bind_eq_some_iff.mp H
  obtain ⟨t770, A20, H⟩ := H
  replace H : (if t770 = true then (if a0.toList = ([] : List UInt8) then (some 5) else (some 0)) else (some 1)) = some r := H
  have A2 := Aside0.mk A20
  clear A20
  by_cases c3 : t770 = true
  · subst c3
    have H1 : (if a0.toList = ([] : List UInt8) then (some 5) else (some 0)) = some r := by rw [if_pos rfl] at H; exact H
    clear H
    have H := H1
    clear H1
    by_cases c4 : a0.toList = ([] : List UInt8)
    · rw [if_pos c4] at H
      have c4b0 : (a0.toList == ([] : List UInt8)) = true := beq_iff_eq.mpr c4
      have c4b1 : (a0.toList != ([] : List UInt8)) = false := bne_eq_false_iff_eq.mpr c4
      clear c4
      obtain rfl := Option.some.inj H
      go_enter Try.func105, Try.ntmps105
      go_wp2_with (first | ((with_reducible refine gate_callee (f := 56) rfl ?_); refine goesL_ (some 5) rfl rfl Try.func56 (by kernel_rfl) rfl #[.string a0] rfl (by (try simp only [List.map_toArray, List.map_cons, List.map_nil]); first | done | rfl | (simp only [List.length_drop, List.length_take]; rfl)) ?_; (with_reducible refine (spec_l01Is.calls k a0 true _ A2.out).mono ?_); rintro e w' ⟨rfl, ⟨nd, rfl⟩⟩; refine ⟨_, rfl, ?_⟩))
      go_ret
      exact ⟨by first | rfl | (simp; done) | (simp [*]; done), by repeat (first | exact Drawn0.refl _ | apply Drawn0.step)⟩
    · rw [if_neg c4] at H
      have c4b0 : (a0.toList == ([] : List UInt8)) = false := beq_eq_false_iff_ne.mpr c4
      have c4b1 : (a0.toList != ([] : List UInt8)) = true := bne_iff_ne.mpr c4
      obtain rfl := Option.some.inj H
      go_enter Try.func105, Try.ntmps105
      go_wp2_with (first | ((with_reducible refine gate_callee (f := 56) rfl ?_); refine goesL_ (some 5) rfl rfl Try.func56 (by kernel_rfl) rfl #[.string a0] rfl (by (try simp only [List.map_toArray, List.map_cons, List.map_nil]); first | done | rfl | (simp only [List.length_drop, List.length_take]; rfl)) ?_; (with_reducible refine (spec_l01Is.calls k a0 true _ A2.out).mono ?_); rintro e w' ⟨rfl, ⟨nd, rfl⟩⟩; refine ⟨_, rfl, ?_⟩))
      go_ret
      exact ⟨by first | rfl | (simp; done) | (simp [*]; done), by repeat (first | exact Drawn0.refl _ | apply Drawn0.step)⟩
  · replace c3 := Bool.eq_false_iff.mpr c3
    subst c3
    have H1 : (some 1) = some r := by rw [if_neg (show ¬ (false = true) by decide)] at H; exact H
    clear H
    have H := H1
    clear H1
    obtain rfl := Option.some.inj H
    go_enter Try.func105, Try.ntmps105
    go_wp2_with (first | ((with_reducible refine gate_callee (f := 56) rfl ?_); refine goesL_ (some 5) rfl rfl Try.func56 (by kernel_rfl) rfl #[.string a0] rfl (by (try simp only [List.map_toArray, List.map_cons, List.map_nil]); first | done | rfl | (simp only [List.length_drop, List.length_take]; rfl)) ?_; (with_reducible refine (spec_l01Is.calls k a0 false _ A2.out).mono ?_); rintro e w' ⟨rfl, ⟨nd, rfl⟩⟩; refine ⟨_, rfl, ?_⟩))
    go_ret
    exact ⟨by first | rfl | (simp; done) | (simp [*]; done), by repeat (first | exact Drawn0.refl _ | apply Drawn0.step)⟩

end Go.Proofs.Ytmihfmhfgjnfcaa.Q

namespace Go.Proofs.Ytmihfmhfgjnfcaa.Q
open Go.RowKit Go.Proofs.YtmihfmhfgjnfcaaW.PrintWords Go.Proofs.YtmihfmhfgjnfcaaW.PrintLast Go.Proofs.YtmihfmhfgjnfcaaW.PrintMore
attribute [local go_sem] max2_int min2_int max_two min_two max_three min_three max_four min_four bn_leq bn_gtr bn_geq   -- for this text's walks alone
set_option linter.unusedVariables false
set_option linter.unusedSimpArgs false

/-! ### spec_LongestUnbordered: function 53 -/
mutual
def spec_LongestUnbordered.l0 : Nat → ByteArray → Int → Option (ByteArray × Int)
  | 0, _, _ => none
  | k + 1, x0, x5 => if x5 > 1 then (spec_LongestUnbordered.l1 k x0 x5 0) else (if 0 ≤ 1 then (if 1 ≤ (x0.size : Int) then (some (x0.extract 0 1, 0)) else (none)) else (none))
def spec_LongestUnbordered.l1 : Nat → ByteArray → Int → Int → Option (ByteArray × Int)
  | 0, _, _, _ => none
  | k + 1, x0, x5, x6 => if (wrap64 (x6 + x5)) ≤ (x0.size : Int) then (if 0 ≤ x6 then (if x6 ≤ (wrap64 (x6 + x5)) then ((spec_l02Periods.f k (x0.extract (x6 : Int).toNat ((wrap64 (x6 + x5)) : Int).toNat)).bind fun t772 => (if 0 < (t772.length : Int) then (if (rd t772 0) = x5 then (some (x0.extract (x6 : Int).toNat ((wrap64 (x6 + x5)) : Int).toNat, 0)) else (spec_LongestUnbordered.l1 k x0 x5 (wrap64 (x6 + 1)))) else (none))) else (none)) else (none)) else (spec_LongestUnbordered.l0 k x0 (wrap64 (x5 - 1)))
end
def spec_LongestUnbordered.f (k : Nat) (a0 : ByteArray) : Option (ByteArray × Int) := (spec_l02Given.f k a0).bind fun t771 => (if t771 = 0 then (spec_LongestUnbordered.l0 k a0 (a0.size : Int)) else (some ((⟨#[]⟩ : ByteArray), t771)))
theorem spec_LongestUnbordered.mono_l : ∀ k, (∀ y0 y1, LeO (spec_LongestUnbordered.l0 k y0 y1) (spec_LongestUnbordered.l0 (k + 1) y0 y1)) ∧ (∀ y0 y1 y2, LeO (spec_LongestUnbordered.l1 k y0 y1 y2) (spec_LongestUnbordered.l1 (k + 1) y0 y1 y2))
  | 0 => ⟨fun _ _ r h => by simp [spec_LongestUnbordered.l0] at h, fun _ _ _ r h => by simp [spec_LongestUnbordered.l1] at h⟩
  | k + 1 => by
    obtain ⟨ih0, ih1⟩ := spec_LongestUnbordered.mono_l k
    refine ⟨?_, ?_⟩
    · intro y0 y1
      unfold spec_LongestUnbordered.l0
      repeat' first
      | (with_reducible exact ih0 _ _)
      | (with_reducible exact ih1 _ _ _)
      | (with_reducible exact spec_l02Given.mono _ _)
      | (with_reducible exact spec_l02Periods.mono _ _)
      | (with_reducible exact LeO.refl _)
      | (with_reducible exact LeO.none _)
      | (with_reducible refine LeO.ite ?_ ?_)
      | (with_reducible refine LeO.bind ?_ (fun _ => ?_))
      | exact ih0 _ _
      | exact ih1 _ _ _
      | exact spec_l02Given.mono _ _
      | exact spec_l02Periods.mono _ _
      | exact LeO.none _
      | refine LeO.ite ?_ ?_
      | refine LeO.bind ?_ (fun _ => ?_)
    · intro y0 y1 y2
      unfold spec_LongestUnbordered.l1
      repeat' first
      | (with_reducible exact ih0 _ _)
      | (with_reducible exact ih1 _ _ _)
      | (with_reducible exact spec_l02Given.mono _ _)
      | (with_reducible exact spec_l02Periods.mono _ _)
      | (with_reducible exact LeO.refl _)
      | (with_reducible exact LeO.none _)
      | (with_reducible refine LeO.ite ?_ ?_)
      | (with_reducible refine LeO.bind ?_ (fun _ => ?_))
      | exact ih0 _ _
      | exact ih1 _ _ _
      | exact spec_l02Given.mono _ _
      | exact spec_l02Periods.mono _ _
      | exact LeO.none _
      | refine LeO.ite ?_ ?_
      | refine LeO.bind ?_ (fun _ => ?_)
theorem spec_LongestUnbordered.mono : ∀ a0 k, LeO (spec_LongestUnbordered.f k a0) (spec_LongestUnbordered.f (k + 1) a0) := by
  intro a0 k
  obtain ⟨ih0, ih1⟩ := spec_LongestUnbordered.mono_l k
  unfold spec_LongestUnbordered.f
  repeat' first
      | (with_reducible exact ih0 _ _)
      | (with_reducible exact ih1 _ _ _)
      | (with_reducible exact spec_l02Given.mono _ _)
      | (with_reducible exact spec_l02Periods.mono _ _)
      | (with_reducible exact LeO.refl _)
      | (with_reducible exact LeO.none _)
      | (with_reducible refine LeO.ite ?_ ?_)
      | (with_reducible refine LeO.bind ?_ (fun _ => ?_))
      | exact ih0 _ _
      | exact ih1 _ _ _
      | exact spec_l02Given.mono _ _
      | exact spec_l02Periods.mono _ _
      | exact LeO.none _
      | refine LeO.ite ?_ ?_
      | refine LeO.bind ?_ (fun _ => ?_)
set_option maxHeartbeats 8000000 in
set_option maxRecDepth 100000 in
theorem spec_LongestUnbordered.calls (k : Nat) (a0 : ByteArray) (r1 : ByteArray) (r2 : Int) (w : World) (h : spec_LongestUnbordered.f k a0 = some (r1, r2)) :
    Calls Try.prog 53 #[.string a0] w fun e w' => e = .returned (.tuple #[.string r1, .int .i64 r2]) ∧ Below w.heap.size w w' := by
  have HB := Aside0.mk (Below.refl w.heap.size w)
  have H : ((spec_l02Given.f k a0).bind fun t771 => (if t771 = 0 then (spec_LongestUnbordered.l0 k a0 (a0.size : Int)) else (some ((⟨#[]⟩ : ByteArray), t771)))) = some (r1, r2) := h
  clear h
  replace H := Option.bind_eq_some_iff.mp H
  obtain ⟨t771, A20, H⟩ := H
  replace H : (if t771 = 0 then (spec_LongestUnbordered.l0 k a0 (a0.size : Int)) else (some ((⟨#[]⟩ : ByteArray), t771))) = some (r1, r2) := H
  have A2 := Aside0.mk A20
  clear A20
  by_cases c3 : t771 = 0
  · rw [if_pos c3] at H
    have c3b0 : (t771 == 0) = true := beq_iff_eq.mpr c3
    have c3b1 : (t771 != 0) = false := bne_eq_false_iff_eq.mpr c3
    clear c3
    have H' := Aside0.mk H
    clear H
    go_enter Try.func53, Try.ntmps53
    go_wp2_with (first | ((with_reducible refine gate_callee (f := 105) rfl ?_); refine goesL_ (some 8) rfl rfl Try.func105 (by kernel_rfl) rfl #[.string a0] rfl (by (try simp only [List.map_toArray, List.map_cons, List.map_nil]); first | done | rfl | (simp only [List.length_drop, List.length_take]; rfl)) ?_; (with_reducible refine (spec_l02Given.calls k a0 t771 _ A2.out).mono ?_); rintro e w' ⟨rfl, ⟨nd, rfl⟩⟩; refine ⟨_, rfl, ?_⟩))
    go_loopg [5] k (fun kq v5 w' => ∃ (x5_1 : Int), v5 = .int .i64 x5_1 ∧ Aside0 (spec_LongestUnbordered.l0 kq a0 x5_1 = some (r1, r2)) ∧ Aside0 (kq ≤ k) ∧ Aside0 (Below w.heap.size w w'))
    case atStart => exact ⟨((a0.size : Int)), (by first | rfl | (simp; done) | (simp [*]; done)), H', ⟨Nat.le_refl _⟩, ⟨by repeat (first | (with_reducible first | exact HB.out | apply below_alloc | apply pw_below_drewN | apply below_drew1) | exact HB.out)⟩⟩
    case round =>
      clear H'
      try clear c1
      try clear p2
      try clear c3
      try clear c3b0
      try clear c3b1
      obtain ⟨x5_1, rfl, HA, HK1, HB⟩ := hrel
      cases gk with
      | zero => exact absurd HA.out (by simp [spec_LongestUnbordered.l0])
      | succ k1 =>
        have H := HA.out
        clear HA
        simp only [spec_LongestUnbordered.l0] at H
        by_cases c4 : x5_1 > 1
        · rw [if_pos c4] at H
          have c4b0 : decide (1 < x5_1) = true := decide_eq_true c4
          clear c4
          have H' := Aside0.mk H
          clear H
          go_wp2
          go_loopg [6] k1 (fun kq v6 w' => ∃ (x6_2 : Int), v6 = .int .i64 x6_2 ∧ Aside0 (spec_LongestUnbordered.l1 kq a0 x5_1 x6_2 = some (r1, r2)) ∧ Aside0 (kq ≤ k1) ∧ Aside0 (Below w.heap.size w w'))
          case atStart => exact ⟨(0), (by first | rfl | (simp; done) | (simp [*]; done)), H', ⟨Nat.le_refl _⟩, ⟨by repeat (first | (with_reducible first | exact HB.out | apply below_alloc | apply pw_below_drewN | apply below_drew1) | exact HB.out)⟩⟩
          case round =>
            clear H'
            try clear c1
            try clear p2
            try clear c3
            try clear c3b0
            try clear c3b1
            try clear c4
            try clear c4b0
            try clear p2
            obtain ⟨x6_2, rfl, HA, HK2, HB⟩ := hrel
            cases gk with
            | zero => exact absurd HA.out (by simp [spec_LongestUnbordered.l1])
            | succ k2 =>
              have H := HA.out
              clear HA
              simp only [spec_LongestUnbordered.l1] at H
              by_cases c5 : (wrap64 (x6_2 + x5_1)) ≤ (a0.size : Int)
              · rw [if_pos c5] at H
                have c5b0 : decide ((wrap64 (x6_2 + x5_1)) ≤ (a0.size : Int)) = true := decide_eq_true c5
                clear c5
                by_cases c6 : 0 ≤ x6_2
                · rw [if_pos c6] at H
                  have c6b0 := eq_true c6
                  have c6b1 : decide (0 ≤ x6_2) = true := decide_eq_true c6
                  clear c6
                  by_cases c7 : x6_2 ≤ (wrap64 (x6_2 + x5_1))
                  · rw [if_pos c7] at H
                    have c7b0 := eq_true c7
                    have c7b1 : decide (x6_2 ≤ (wrap64 (x6_2 + x5_1))) = true := decide_eq_true c7
                    have c8b0 := eq_true (of_decide_eq_true (by first | (with_reducible assumption) | assumption) : (wrap64 (x6_2 + x5_1)) ≤ (a0.size : Int))
                    replace H := Option.bind_eq_some_iff.mp H
                    obtain ⟨t772, A90, H⟩ := H
                    replace H : (if 0 < (t772.length : Int) then (if (rd t772 0) = x5_1 then (some (a0.extract (x6_2 : Int).toNat ((wrap64 (x6_2 + x5_1)) : Int).toNat, 0)) else (spec_LongestUnbordered.l1 k2 a0 x5_1 (wrap64 (x6_2 + 1)))) else (none)) = some (r1, r2) := H
                    have A9 := Aside0.mk A90
                    clear A90
                    by_cases c10 : 0 < (t772.length : Int)
                    · rw [if_pos c10] at H
                      have c10b0 : decide (0 < (t772.length : Int)) = true := decide_eq_true c10
                      have c10b1 : decide (0 < t772.length) = true := decide_eq_true (by omega)
                      clear c10
                      by_cases c11 : (rd t772 0) = x5_1
                      · rw [if_pos c11] at H
                        have c11b0 : ((rd t772 0) == x5_1) = true := beq_iff_eq.mpr c11
                        have c11b1 : ((rd t772 0) != x5_1) = false := bne_eq_false_iff_eq.mpr c11
                        clear c11
                        have c12b0 := eq_true (of_decide_eq_true (by first | (with_reducible assumption) | assumption) : 0 ≤ x6_2)
                        have c13b0 := eq_true (of_decide_eq_true (by first | (with_reducible assumption) | assumption) : x6_2 ≤ (wrap64 (x6_2 + x5_1)))
                        have c14b0 := eq_true (of_decide_eq_true (by first | (with_reducible assumption) | assumption) : (wrap64 (x6_2 + x5_1)) ≤ (a0.size : Int))
                        simp only [Option.some.injEq, Prod.mk.injEq] at H
                        obtain ⟨rfl, rfl⟩ := H
                        go_wp2_with (first | ((with_reducible refine gate_callee (f := 101) rfl ?_); refine goesL_ (some 32) rfl rfl Try.func101 (by kernel_rfl) rfl #[.string (a0.extract (x6_2 : Int).toNat ((wrap64 (x6_2 + x5_1)) : Int).toNat)] rfl (by (try simp only [List.map_toArray, List.map_cons, List.map_nil]); first | done | rfl | (simp only [List.length_drop, List.length_take]; rfl)) ?_; (with_reducible refine (spec_l02Periods.calls k2 (a0.extract (x6_2 : Int).toNat ((wrap64 (x6_2 + x5_1)) : Int).toNat) t772 _ A9.out).mono ?_); rintro e w15 ⟨v773, rfl, ho0, hb⟩; refine ⟨_, rfl, ?_⟩; have n0_ := Aside0.mk (Kd.R_lower ho0 (below_size (by repeat (first | (with_reducible first | exact HB.out | apply below_alloc | apply pw_below_drewN | apply below_drew1) | exact HB.out)))); have n1_ := Aside0.mk (below_step (by repeat (first | (with_reducible first | exact HB.out | apply below_alloc | apply pw_below_drewN | apply below_drew1) | exact HB.out)) hb); clear HB; have HO774 := n0_; have HB := n1_; clear n0_ n1_; (try clear hb); (try clear hb2); (try clear hk); (try clear hi); (try clear ho0); obtain ⟨Ao16, co16, eo16⟩ := Kd.R_slice HO774.out; subst eo16; have p775 : 0 ≤ (0 : Int) := (by omega); have q775 : 0 < (t772.length : Int) := of_decide_eq_true (by first | (with_reducible assumption) | assumption); obtain ⟨ad775, e775, hx775_0⟩ := Kd.at_int (Kd.R_reads' HO774.out).2.2 0 p775 q775; cases e775; have qi775 : (0 < t772.length) = True := eq_true (by omega); (try rw [show ((0 : Int)).toNat = 0 from rfl] at hx775_0); (try rw [Addr.add_zero'] at hx775_0); replace p775 := eq_true p775; replace q775 := eq_true q775))
                        go_ret2
                        exact ⟨by first | rfl | (simp [errW_none, errW_some] <;> rfl) | (simp [*, errW_none, errW_some] <;> rfl), by repeat (first | (with_reducible first | exact HB.out | apply below_alloc | apply pw_below_drewN | apply below_drew1) | exact HB.out)⟩
                      · rw [if_neg c11] at H
                        have c11b0 : ((rd t772 0) == x5_1) = false := beq_eq_false_iff_ne.mpr c11
                        have c11b1 : ((rd t772 0) != x5_1) = true := bne_iff_ne.mpr c11
                        have H' := Aside0.mk H
                        clear H
                        go_wp2_with (first | ((with_reducible refine gate_callee (f := 101) rfl ?_); refine goesL_ (some 32) rfl rfl Try.func101 (by kernel_rfl) rfl #[.string (a0.extract (x6_2 : Int).toNat ((wrap64 (x6_2 + x5_1)) : Int).toNat)] rfl (by (try simp only [List.map_toArray, List.map_cons, List.map_nil]); first | done | rfl | (simp only [List.length_drop, List.length_take]; rfl)) ?_; (with_reducible refine (spec_l02Periods.calls k2 (a0.extract (x6_2 : Int).toNat ((wrap64 (x6_2 + x5_1)) : Int).toNat) t772 _ A9.out).mono ?_); rintro e w17 ⟨v773, rfl, ho0, hb⟩; refine ⟨_, rfl, ?_⟩; have n0_ := Aside0.mk (Kd.R_lower ho0 (below_size (by repeat (first | (with_reducible first | exact HB.out | apply below_alloc | apply pw_below_drewN | apply below_drew1) | exact HB.out)))); have n1_ := Aside0.mk (below_step (by repeat (first | (with_reducible first | exact HB.out | apply below_alloc | apply pw_below_drewN | apply below_drew1) | exact HB.out)) hb); clear HB; have HO774 := n0_; have HB := n1_; clear n0_ n1_; (try clear hb); (try clear hb2); (try clear hk); (try clear hi); (try clear ho0); obtain ⟨Ao18, co18, eo18⟩ := Kd.R_slice HO774.out; subst eo18; have p775 : 0 ≤ (0 : Int) := (by omega); have q775 : 0 < (t772.length : Int) := of_decide_eq_true (by first | (with_reducible assumption) | assumption); obtain ⟨ad775, e775, hx775_0⟩ := Kd.at_int (Kd.R_reads' HO774.out).2.2 0 p775 q775; cases e775; have qi775 : (0 < t772.length) = True := eq_true (by omega); (try rw [show ((0 : Int)).toNat = 0 from rfl] at hx775_0); (try rw [Addr.add_zero'] at hx775_0); replace p775 := eq_true p775; replace q775 := eq_true q775))
                        go_roundg k2
                        case measure => have := HK1.out; have := HK2.out; omega
                        case rel => exact ⟨(wrap64 (x6_2 + 1)), (by first | rfl | (simp; done) | (simp [*]; done)), H', ⟨by have := HK1.out; have := HK2.out; omega⟩, ⟨by repeat (first | (with_reducible first | exact HB.out | apply below_alloc | apply pw_below_drewN | apply below_drew1) | exact HB.out)⟩⟩
                    · rw [if_neg c10] at H
                      exact absurd H (by simp)
                  · rw [if_neg c7] at H
                    exact absurd H (by simp)
                · rw [if_neg c6] at H
                  exact absurd H (by simp)
              · rw [if_neg c5] at H
                have c5b0 : decide ((wrap64 (x6_2 + x5_1)) ≤ (a0.size : Int)) = false := decide_eq_false c5
                clear c5
                have H' := Aside0.mk H
                clear H
                go_wp2
                go_roundg k2
                case measure => have := HK1.out; have := HK2.out; omega
                case rel => exact ⟨(wrap64 (x5_1 - 1)), (by first | rfl | (simp; done) | (simp [*]; done)), H', ⟨by have := HK1.out; have := HK2.out; omega⟩, ⟨by repeat (first | (with_reducible first | exact HB.out | apply below_alloc | apply pw_below_drewN | apply below_drew1) | exact HB.out)⟩⟩
        · rw [if_neg c4] at H
          have c4b0 : decide (1 < x5_1) = false := decide_eq_false c4
          clear c4
          by_cases c19 : 0 ≤ 1
          · rw [if_pos c19] at H
            have c19b0 := eq_true c19
            have c19b1 : decide (0 ≤ 1) = true := decide_eq_true c19
            clear c19
            by_cases c20 : 1 ≤ (a0.size : Int)
            · rw [if_pos c20] at H
              have c20b0 := eq_true c20
              have c20b1 : decide (1 ≤ (a0.size : Int)) = true := decide_eq_true c20
              clear c20
              simp only [Option.some.injEq, Prod.mk.injEq] at H
              obtain ⟨rfl, rfl⟩ := H
              go_wp2
              go_ret2
              exact ⟨by first | rfl | (simp [errW_none, errW_some] <;> rfl) | (simp [*, errW_none, errW_some] <;> rfl), by repeat (first | (with_reducible first | exact HB.out | apply below_alloc | apply pw_below_drewN | apply below_drew1) | exact HB.out)⟩
            · rw [if_neg c20] at H
              exact absurd H (by simp)
          · rw [if_neg c19] at H
            exact absurd H (by simp)
  · rw [if_neg c3] at H
    have c3b0 : (t771 == 0) = false := beq_eq_false_iff_ne.mpr c3
    have c3b1 : (t771 != 0) = true := bne_iff_ne.mpr c3
    simp only [Option.some.injEq, Prod.mk.injEq] at H
    obtain ⟨rfl, rfl⟩ := H
    go_enter Try.func53, Try.ntmps53
    go_wp2_with (first | ((with_reducible refine gate_callee (f := 105) rfl ?_); refine goesL_ (some 8) rfl rfl Try.func105 (by kernel_rfl) rfl #[.string a0] rfl (by (try simp only [List.map_toArray, List.map_cons, List.map_nil]); first | done | rfl | (simp only [List.length_drop, List.length_take]; rfl)) ?_; (with_reducible refine (spec_l02Given.calls k a0 t771 _ A2.out).mono ?_); rintro e w' ⟨rfl, ⟨nd, rfl⟩⟩; refine ⟨_, rfl, ?_⟩))
    go_ret2
    exact ⟨by first | rfl | (simp [errW_none, errW_some] <;> rfl) | (simp [*, errW_none, errW_some] <;> rfl), by repeat (first | (with_reducible first | exact HB.out | apply below_alloc | apply pw_below_drewN | apply below_drew1) | exact HB.out)⟩

end Go.Proofs.Ytmihfmhfgjnfcaa.Q

namespace Go.Proofs.Ytmihfmhfgjnfcaa.Q
open Go.RowKit Go.Proofs.YtmihfmhfgjnfcaaW.PrintWords Go.Proofs.YtmihfmhfgjnfcaaW.PrintLast Go.Proofs.YtmihfmhfgjnfcaaW.PrintMore
attribute [local go_sem] max2_int min2_int max_two min_two max_three min_three max_four min_four bn_leq bn_gtr bn_geq   -- for this text's walks alone
set_option linter.unusedVariables false
set_option linter.unusedSimpArgs false

/-! ### impl_periods: function 107 -/
def impl_periods.l0 : Nat → ByteArray → List Int → Int → Option (List Int)
  | 0, _, _, _ => none
  | k + 1, x0, x3, x4 => if x4 ≤ (x0.size : Int) then ((impl_hasPeriod.f x0 x4).bind fun t776 => (if t776 = true then (if x3.length < 17592186044416 then (impl_periods.l0 k x0 (x3 ++ [x4]) (wrap64 (x4 + 1))) else (none)) else (impl_periods.l0 k x0 x3 (wrap64 (x4 + 1))))) else (some x3)
def impl_periods.f (k : Nat) (a0 : ByteArray) : Option (List Int) := impl_periods.l0 k a0 ([] : List Int) 1
theorem impl_periods.mono_l : ∀ k, (∀ y0 y1 y2, LeO (impl_periods.l0 k y0 y1 y2) (impl_periods.l0 (k + 1) y0 y1 y2))
  | 0 => fun _ _ _ r h => by simp [impl_periods.l0] at h
  | k + 1 => by
    have ih0 := impl_periods.mono_l k
    · intro y0 y1 y2
      unfold impl_periods.l0
      repeat' first
      | (with_reducible exact ih0 _ _ _)
      | (with_reducible exact LeO.refl _)
      | (with_reducible exact LeO.none _)
      | (with_reducible refine LeO.ite ?_ ?_)
      | (with_reducible refine LeO.bind ?_ (fun _ => ?_))
      | exact ih0 _ _ _
      | exact LeO.none _
      | refine LeO.ite ?_ ?_
      | refine LeO.bind ?_ (fun _ => ?_)
theorem impl_periods.mono : ∀ a0 k, LeO (impl_periods.f k a0) (impl_periods.f (k + 1) a0) := by
  intro a0 k
  have ih0 := impl_periods.mono_l k
  unfold impl_periods.f
  repeat' first
      | (with_reducible exact ih0 _ _ _)
      | (with_reducible exact LeO.refl _)
      | (with_reducible exact LeO.none _)
      | (with_reducible refine LeO.ite ?_ ?_)
      | (with_reducible refine LeO.bind ?_ (fun _ => ?_))
      | exact ih0 _ _ _
      | exact LeO.none _
      | refine LeO.ite ?_ ?_
      | refine LeO.bind ?_ (fun _ => ?_)
set_option maxHeartbeats 8000000 in
set_option maxRecDepth 100000 in
theorem impl_periods.calls (k : Nat) (a0 : ByteArray) (r : List Int) (w : World) (h : impl_periods.f k a0 = some r) :
    Calls Try.prog 107 #[.string a0] w fun e w' => ∃ v0_ : Value, e = .returned (v0_) ∧ Kd.R (Kd.int .i64) 2 w' w.heap.size (fun _ => True) v0_ r ∧ Below w.heap.size w w' := by
  have HB := Aside0.mk (Below.refl w.heap.size w)
  have H : (impl_periods.l0 k a0 ([] : List Int) 1) = some r := h
  clear h
  have H' := Aside0.mk H
  clear H
  go_enter Try.func107, Try.ntmps107
  go_wp2
  go_loopg [3, 4] k (fun kq v3 v4 w' => ∃ (x3_1 : List Int) (x4_1 : Int), v4 = .int .i64 x4_1 ∧ Aside0 (impl_periods.l0 kq a0 x3_1 x4_1 = some r) ∧ Aside0 (kq ≤ k) ∧ Aside0 (Kd.R (Kd.int .i64) 2 w' w.heap.size (fun _ => True) v3 x3_1) ∧ Aside0 (Below w.heap.size w w'))
  case atStart => exact ⟨(([] : List Int)), (1), (by first | rfl | (simp; done) | (simp [*]; done)), H', ⟨Nat.le_refl _⟩, ⟨by first | exact Kd.R_nil _ _ _ _ _ | exact Kd.N_nil _ _ _ _ _ | exact Kd.V_nil _ _ _ _ _ | exact Kd.Q_nil _ _ _ _ _ | exact Kd.S_nil _ _ _ _ _⟩, ⟨by repeat (first | (with_reducible first | exact HB.out | apply below_alloc | apply pw_below_drewN | apply below_drew1) | exact HB.out)⟩⟩
  case round =>
    clear H'
    try clear c1
    obtain ⟨x3_1, x4_1, rfl, HA, HK1, HO_3, HB⟩ := hrel
    cases gk with
    | zero => exact absurd HA.out (by simp [impl_periods.l0])
    | succ k1 =>
      have H := HA.out
      clear HA
      simp only [impl_periods.l0] at H
      by_cases c2 : x4_1 ≤ (a0.size : Int)
      · rw [if_pos c2] at H
        have c2b0 : decide (x4_1 ≤ (a0.size : Int)) = true := decide_eq_true c2
        clear c2
        replace H := Option.bind_eq_some_iff.mp H
        obtain ⟨t776, A30, H⟩ := H
        replace H : (if t776 = true then (if x3_1.length < 17592186044416 then (impl_periods.l0 k1 a0 (x3_1 ++ [x4_1]) (wrap64 (x4_1 + 1))) else (none)) else (impl_periods.l0 k1 a0 x3_1 (wrap64 (x4_1 + 1)))) = some r := H
        have A3 := Aside0.mk A30
        clear A30
        by_cases c4 : t776 = true
        · subst c4
          have H1 : (if x3_1.length < 17592186044416 then (impl_periods.l0 k1 a0 (x3_1 ++ [x4_1]) (wrap64 (x4_1 + 1))) else (none)) = some r := by rw [if_pos rfl] at H; exact H
          clear H
          have H := H1
          clear H1
          by_cases c5 : x3_1.length < 17592186044416
          · rw [if_pos c5] at H
            have LMc5 := Aside0.mk c5
            clear c5
            obtain ⟨y777, hy777⟩ : ∃ y_ : List Int, y_ = (x3_1 ++ [x4_1]) := ⟨_, rfl⟩
            replace H : (impl_periods.l0 k1 a0 y777 (wrap64 (x4_1 + 1))) = some r := by first | (rw [hy777]; with_reducible exact H) | (have H2_ := (Option.bind_some _ _).symm.trans H; rw [hy777]; with_reducible exact H2_) | (have H2_ := (Option.bind_some _ _).symm.trans H; with_reducible exact H2_) | with_reducible exact H | (rw [hy777]; exact H) | exact H
            have Ny777 := Aside0.mk hy777
            clear hy777
            have H' := Aside0.mk H
            clear H
            go_wp2_with (first | ((with_reducible refine gate_callee (f := 116) rfl ?_); refine goesL_ (some 13) rfl rfl Try.func116 (by kernel_rfl) rfl #[.string a0, .int .i64 x4_1] rfl (by (try simp only [List.map_toArray, List.map_cons, List.map_nil]); first | done | rfl | (simp only [List.length_drop, List.length_take]; rfl)) ?_; (with_reducible refine (impl_hasPeriod.calls a0 x4_1 true _ A3.out).mono ?_); rintro e w' ⟨rfl, ⟨nd, rfl⟩⟩; refine ⟨_, rfl, ?_⟩) | ((with_reducible refine gate_builtin (b := .append) (xs := #[.tmp 14, .tmp 16]) rfl ?_); at_builtin; refine Kd.R_append (Kd.int .i64) (w0 := w) w.heap.size rfl (.tmp 14) (.tmp 16) 51 2 (.int .i64 0) 8 rfl Try.underlying51 info2 rfl (by decide) (by omega) u3 x3_1 x4_1 [.int .i64 x4_1] (fun _ => True) (fun _ => False) rfl rfl ?aP (fun _ hk => hk.elim) ?aF ?aO ?aB ?aS ?aL ?_; (case aP => exact rfl); (case aB => exact (by repeat (first | (with_reducible first | exact HB.out | apply below_alloc | apply pw_below_drewN | apply below_drew1) | exact HB.out))); (case aF => exact (fun _ _ => trivial)); (case aO => exact (by (with_reducible repeat (first | apply Kd.R_alloc | apply Kd.R_drewN | apply Kd.R_drew)); exact HO_3.out)); (case aS => exact (below_size (by repeat (first | (with_reducible first | exact HB.out | apply below_alloc | apply pw_below_drewN | apply below_drew1) | exact HB.out)))); (case aL => have := LMc5.out; omega); intro v778 w6 ho hb hg hat; rw [← Ny777.out] at ho; have n0_ := Aside0.mk (hb); have n1_ := Aside0.mk (ho); clear HB; clear HO_3; have HB := n0_; have HO779 := n1_; clear n0_ n1_; clear ho hb hg hat))
            go_roundg k1
            case measure => have := HK1.out; omega
            case rel => exact ⟨(y777), (wrap64 (x4_1 + 1)), (by first | rfl | (simp; done) | (simp [*]; done)), H', ⟨by have := HK1.out; omega⟩, ⟨by (with_reducible repeat (first | apply Kd.R_alloc | apply Kd.R_drewN | apply Kd.R_drew)); exact HO779.out⟩, ⟨by repeat (first | (with_reducible first | exact HB.out | apply below_alloc | apply pw_below_drewN | apply below_drew1) | exact HB.out)⟩⟩
          · rw [if_neg c5] at H
            exact absurd H (by simp)
        · replace c4 := Bool.eq_false_iff.mpr c4
          subst c4
          have H1 : (impl_periods.l0 k1 a0 x3_1 (wrap64 (x4_1 + 1))) = some r := by rw [if_neg (show ¬ (false = true) by decide)] at H; exact H
          clear H
          have H := H1
          clear H1
          have H' := Aside0.mk H
          clear H
          go_wp2_with (first | ((with_reducible refine gate_callee (f := 116) rfl ?_); refine goesL_ (some 13) rfl rfl Try.func116 (by kernel_rfl) rfl #[.string a0, .int .i64 x4_1] rfl (by (try simp only [List.map_toArray, List.map_cons, List.map_nil]); first | done | rfl | (simp only [List.length_drop, List.length_take]; rfl)) ?_; (with_reducible refine (impl_hasPeriod.calls a0 x4_1 false _ A3.out).mono ?_); rintro e w' ⟨rfl, ⟨nd, rfl⟩⟩; refine ⟨_, rfl, ?_⟩))
          go_roundg k1
          case measure => have := HK1.out; omega
          case rel => exact ⟨(x3_1), (wrap64 (x4_1 + 1)), (by first | rfl | (simp; done) | (simp [*]; done)), H', ⟨by have := HK1.out; omega⟩, ⟨by (with_reducible repeat (first | apply Kd.R_alloc | apply Kd.R_drewN | apply Kd.R_drew)); exact HO_3.out⟩, ⟨by repeat (first | (with_reducible first | exact HB.out | apply below_alloc | apply pw_below_drewN | apply below_drew1) | exact HB.out)⟩⟩
      · rw [if_neg c2] at H
        have c2b0 : decide (x4_1 ≤ (a0.size : Int)) = false := decide_eq_false c2
        clear c2
        obtain rfl := Option.some.inj H
        go_wp2
        go_ret
        exact ⟨_, by first | rfl | (simp [errW_none, errW_some] <;> rfl) | (simp [*, errW_none, errW_some] <;> rfl), by (with_reducible repeat (first | apply Kd.R_alloc | apply Kd.R_drewN | apply Kd.R_drew)); exact HO_3.out, by repeat (first | (with_reducible first | exact HB.out | apply below_alloc | apply pw_below_drewN | apply below_drew1) | exact HB.out)⟩

end Go.Proofs.Ytmihfmhfgjnfcaa.Q

namespace Go.Proofs.Ytmihfmhfgjnfcaa.Q
open Go.RowKit Go.Proofs.YtmihfmhfgjnfcaaW.PrintWords Go.Proofs.YtmihfmhfgjnfcaaW.PrintLast Go.Proofs.YtmihfmhfgjnfcaaW.PrintMore
attribute [local go_sem] max2_int min2_int max_two min_two max_three min_three max_four min_four bn_leq bn_gtr bn_geq   -- for this text's walks alone
set_option linter.unusedVariables false
set_option linter.unusedSimpArgs false

/-! ### impl_PeriodsOf: function 55 -/
def impl_PeriodsOf.f (k : Nat) (a0 : ByteArray) : Option (List Int × Int) := (impl_wordCode.f () (([a0] : List ByteArray))).bind fun t783 => (if t783 = 0 then ((impl_periods.f k a0).bind fun t784 => (some (t784, 0))) else (some (([] : List Int), t783)))
theorem impl_PeriodsOf.mono : ∀ a0 k, LeO (impl_PeriodsOf.f k a0) (impl_PeriodsOf.f (k + 1) a0) := by
  intro a0 k
  unfold impl_PeriodsOf.f
  repeat' first
      | (with_reducible exact impl_periods.mono _ _)
      | (with_reducible exact LeO.refl _)
      | (with_reducible exact LeO.none _)
      | (with_reducible refine LeO.ite ?_ ?_)
      | (with_reducible refine LeO.bind ?_ (fun _ => ?_))
      | exact impl_periods.mono _ _
      | exact LeO.none _
      | refine LeO.ite ?_ ?_
      | refine LeO.bind ?_ (fun _ => ?_)
set_option maxHeartbeats 8000000 in
set_option maxRecDepth 100000 in
theorem impl_PeriodsOf.calls (k : Nat) (a0 : ByteArray) (r1 : List Int) (r2 : Int) (w : World) (h : impl_PeriodsOf.f k a0 = some (r1, r2)) :
    Calls Try.prog 55 #[.string a0] w fun e w' => ∃ v0_ : Value, e = .returned (.tuple #[v0_, .int .i64 r2]) ∧ Kd.R (Kd.int .i64) 2 w' w.heap.size (fun _ => True) v0_ r1 ∧ Below w.heap.size w w' := by
  have HB := Aside0.mk (Below.refl w.heap.size w)
  have H : ((impl_wordCode.f () (([a0] : List ByteArray))).bind fun t783 => (if t783 = 0 then ((impl_periods.f k a0).bind fun t784 => (some (t784, 0))) else (some (([] : List Int), t783)))) = some (r1, r2) := h
  clear h
  obtain ⟨y780, hy780⟩ : ∃ y_ : List ByteArray, y_ = (([a0] : List ByteArray)) := ⟨_, rfl⟩
  replace H : ((impl_wordCode.f () y780).bind fun t783 => (if t783 = 0 then ((impl_periods.f k a0).bind fun t784 => (some (t784, 0))) else (some (([] : List Int), t783)))) = some (r1, r2) := by first | (rw [hy780]; with_reducible exact H) | (have H2_ := (Option.bind_some _ _).symm.trans H; rw [hy780]; with_reducible exact H2_) | (have H2_ := (Option.bind_some _ _).symm.trans H; with_reducible exact H2_) | with_reducible exact H | (rw [hy780]; exact H) | exact H
  have Ny780 := Aside0.mk hy780
  clear hy780
  replace H := Option.bind_eq_some_iff.mp H
  obtain ⟨t783, A20, H⟩ := H
  replace H : (if t783 = 0 then ((impl_periods.f k a0).bind fun t784 => (some (t784, 0))) else (some (([] : List Int), t783))) = some (r1, r2) := H
  have A2 := Aside0.mk A20
  clear A20
  by_cases c3 : t783 = 0
  · rw [if_pos c3] at H
    have c3b0 : (t783 == 0) = true := beq_iff_eq.mpr c3
    have c3b1 : (t783 != 0) = false := bne_eq_false_iff_eq.mpr c3
    clear c3
    replace H := Option.bind_eq_some_iff.mp H
    obtain ⟨t784, A40, H⟩ := H
    replace H : (some (t784, 0)) = some (r1, r2) := H
    have A4 := Aside0.mk A40
    clear A40
    simp only [Option.some.injEq, Prod.mk.injEq] at H
    obtain ⟨rfl, rfl⟩ := H
    go_enter Try.func55, Try.ntmps55
    go_wp2_with (first | ((with_reducible refine gate_dst (N := 6) rfl ?_); refine Kd.R_lit Kd.string _ 9 ?hg (N := 6) ?hd (xs := ([a0] : List ByteArray)) (inner := [.string a0]) (ok := fun _ => True) (okp := fun _ => True) ?hr ?hp (fun _ hk => hk) trivial (Below.refl _ _) (Nat.le_refl _) (by simp) ?_; (case hd => rfl); (case hg => rfl); (case hr => first | (go_simp; done) | (go_simp; rfl)); (case hp => exact (Reps.one (show Kd.M Kd.string _ _ _ a0 [.string a0] from rfl) (Reps.none _ _))); intro v781 w5 ho6 hb hg_ hnew_; clear hg_ hnew_; (first | rw [← Ny780.out] at ho6 | (simp only [Int.reduceToNat] at ho6; rw [← Ny780.out] at ho6)); have n0_ := Aside0.mk (Kd.R_lower ho6 (below_size (by repeat (first | (with_reducible first | exact HB.out | apply below_alloc | apply pw_below_drewN | apply below_drew1) | exact HB.out)))); have n1_ := Aside0.mk (below_step (by repeat (first | (with_reducible first | exact HB.out | apply below_alloc | apply pw_below_drewN | apply below_drew1) | exact HB.out)) hb); clear HB; have HO782 := n0_; have HB := n1_; clear n0_ n1_; clear hb ho6; obtain ⟨Ao7, co7, eo7⟩ := Kd.R_slice HO782.out; subst eo7) | ((with_reducible refine gate_callee (f := 57) rfl ?_); refine goesL_ (some 7) rfl rfl Try.func57 (by kernel_rfl) rfl #[.func (.func 73) #[] #[], .slice Ao7 y780.length co7] rfl (by (try simp only [List.map_toArray, List.map_cons, List.map_nil]); first | done | rfl | (simp only [List.length_drop, List.length_take]; rfl)) ?_; (with_reducible refine (impl_wordCode.calls () _ _ y780 t783 _ ?side1 ?side2 A2.out).mono ?_); (case side1 => repeat (first | exact (Kd.R_reads' HO782.out).2.2 | (with_reducible refine Kd.C_alloc ?_ _) | (with_reducible refine Kd.C_drewN ?_ _) | (with_reducible refine Kd.C_drew ?_))); (case side2 => exact (Kd.R_reads' HO782.out).2.1); rintro e w8 ⟨rfl, hb⟩; refine ⟨_, rfl, ?_⟩; have n0_ := Aside0.mk (Kd.R_below (by (with_reducible repeat (first | apply Kd.R_alloc | apply Kd.R_drewN | apply Kd.R_drew)); exact HO782.out) hb); have n1_ := Aside0.mk (below_step (by repeat (first | (with_reducible first | exact HB.out | apply below_alloc | apply pw_below_drewN | apply below_drew1) | exact HB.out)) hb); clear HO782; clear HB; have HO782 := n0_; have HB := n1_; clear n0_ n1_; (try clear hb); (try clear hb2); (try clear hk); (try clear hi)) | ((with_reducible refine gate_callee (f := 107) rfl ?_); refine goesL_ (some 12) rfl rfl Try.func107 (by kernel_rfl) rfl #[.string a0] rfl (by (try simp only [List.map_toArray, List.map_cons, List.map_nil]); first | done | rfl | (simp only [List.length_drop, List.length_take]; rfl)) ?_; (with_reducible refine (impl_periods.calls k a0 t784 _ A4.out).mono ?_); rintro e w9 ⟨v785, rfl, ho0, hb⟩; refine ⟨_, rfl, ?_⟩; have n0_ := Aside0.mk (Kd.R_below (by (with_reducible repeat (first | apply Kd.R_alloc | apply Kd.R_drewN | apply Kd.R_drew)); exact HO782.out) hb); have n1_ := Aside0.mk (Kd.R_lower ho0 (below_size (by repeat (first | (with_reducible first | exact HB.out | apply below_alloc | apply pw_below_drewN | apply below_drew1) | exact HB.out)))); have n2_ := Aside0.mk (below_step (by repeat (first | (with_reducible first | exact HB.out | apply below_alloc | apply pw_below_drewN | apply below_drew1) | exact HB.out)) hb); clear HO782; clear HB; have HO782 := n0_; have HO786 := n1_; have HB := n2_; clear n0_ n1_ n2_; (try clear hb); (try clear hb2); (try clear hk); (try clear hi); (try clear ho0)))
    go_ret2
    exact ⟨_, by first | rfl | (simp [errW_none, errW_some] <;> rfl) | (simp [*, errW_none, errW_some] <;> rfl), by (with_reducible repeat (first | apply Kd.R_alloc | apply Kd.R_drewN | apply Kd.R_drew)); exact HO786.out, by repeat (first | (with_reducible first | exact HB.out | apply below_alloc | apply pw_below_drewN | apply below_drew1) | exact HB.out)⟩
  · rw [if_neg c3] at H
    have c3b0 : (t783 == 0) = false := beq_eq_false_iff_ne.mpr c3
    have c3b1 : (t783 != 0) = true := bne_iff_ne.mpr c3
    simp only [Option.some.injEq, Prod.mk.injEq] at H
    obtain ⟨rfl, rfl⟩ := H
    go_enter Try.func55, Try.ntmps55
    go_wp2_with (first | ((with_reducible refine gate_dst (N := 6) rfl ?_); refine Kd.R_lit Kd.string _ 9 ?hg (N := 6) ?hd (xs := ([a0] : List ByteArray)) (inner := [.string a0]) (ok := fun _ => True) (okp := fun _ => True) ?hr ?hp (fun _ hk => hk) trivial (Below.refl _ _) (Nat.le_refl _) (by simp) ?_; (case hd => rfl); (case hg => rfl); (case hr => first | (go_simp; done) | (go_simp; rfl)); (case hp => exact (Reps.one (show Kd.M Kd.string _ _ _ a0 [.string a0] from rfl) (Reps.none _ _))); intro v781 w10 ho11 hb hg_ hnew_; clear hg_ hnew_; (first | rw [← Ny780.out] at ho11 | (simp only [Int.reduceToNat] at ho11; rw [← Ny780.out] at ho11)); have n0_ := Aside0.mk (Kd.R_lower ho11 (below_size (by repeat (first | (with_reducible first | exact HB.out | apply below_alloc | apply pw_below_drewN | apply below_drew1) | exact HB.out)))); have n1_ := Aside0.mk (below_step (by repeat (first | (with_reducible first | exact HB.out | apply below_alloc | apply pw_below_drewN | apply below_drew1) | exact HB.out)) hb); clear HB; have HO782 := n0_; have HB := n1_; clear n0_ n1_; clear hb ho11; obtain ⟨Ao12, co12, eo12⟩ := Kd.R_slice HO782.out; subst eo12) | ((with_reducible refine gate_callee (f := 57) rfl ?_); refine goesL_ (some 7) rfl rfl Try.func57 (by kernel_rfl) rfl #[.func (.func 73) #[] #[], .slice Ao12 y780.length co12] rfl (by (try simp only [List.map_toArray, List.map_cons, List.map_nil]); first | done | rfl | (simp only [List.length_drop, List.length_take]; rfl)) ?_; (with_reducible refine (impl_wordCode.calls () _ _ y780 t783 _ ?side1 ?side2 A2.out).mono ?_); (case side1 => repeat (first | exact (Kd.R_reads' HO782.out).2.2 | (with_reducible refine Kd.C_alloc ?_ _) | (with_reducible refine Kd.C_drewN ?_ _) | (with_reducible refine Kd.C_drew ?_))); (case side2 => exact (Kd.R_reads' HO782.out).2.1); rintro e w13 ⟨rfl, hb⟩; refine ⟨_, rfl, ?_⟩; have n0_ := Aside0.mk (Kd.R_below (by (with_reducible repeat (first | apply Kd.R_alloc | apply Kd.R_drewN | apply Kd.R_drew)); exact HO782.out) hb); have n1_ := Aside0.mk (below_step (by repeat (first | (with_reducible first | exact HB.out | apply below_alloc | apply pw_below_drewN | apply below_drew1) | exact HB.out)) hb); clear HO782; clear HB; have HO782 := n0_; have HB := n1_; clear n0_ n1_; (try clear hb); (try clear hb2); (try clear hk); (try clear hi)))
    go_ret2
    exact ⟨_, by first | rfl | (simp [errW_none, errW_some] <;> rfl) | (simp [*, errW_none, errW_some] <;> rfl), by first | exact Kd.R_nil _ _ _ _ _ | exact Kd.N_nil _ _ _ _ _ | exact Kd.V_nil _ _ _ _ _ | exact Kd.Q_nil _ _ _ _ _ | exact Kd.S_nil _ _ _ _ _, by repeat (first | (with_reducible first | exact HB.out | apply below_alloc | apply pw_below_drewN | apply below_drew1) | exact HB.out)⟩

end Go.Proofs.Ytmihfmhfgjnfcaa.Q

namespace Go.Proofs.Ytmihfmhfgjnfcaa.Q
open Go.RowKit Go.Proofs.YtmihfmhfgjnfcaaW.PrintWords Go.Proofs.YtmihfmhfgjnfcaaW.PrintLast Go.Proofs.YtmihfmhfgjnfcaaW.PrintMore
attribute [local go_sem] max2_int min2_int max_two min_two max_three min_three max_four min_four bn_leq bn_gtr bn_geq   -- for this text's walks alone
set_option linter.unusedVariables false
set_option linter.unusedSimpArgs false

/-! ### slices_Reverse_int64_int64: function 106 (this session's own) -/
def xw_rev_ren_i64 : Go.Shelf.Ren := ⟨fun | 35 => 106 | n => n, fun | 0 => 0 | 3 => 3 | 4 => 4 | 22 => 51 | 23 => 2 | n => n, fun n => n⟩
theorem xw_rev_lays_i64 : SlLaysE.n35 Try.prog xw_rev_ren_i64 := {
  mixed := by kernel_rfl
  f35 := ⟨Try.f106.name, by decide, Try.func106.trans (congrArg some (by kernel_rfl))⟩
  t0 := Try.underlying0
  a0 := Try.isAgg0
  z0 := Try.sizeOf0
  v0 := Try.zeroValue0
  t3 := Try.underlying3
  a3 := Try.isAgg3
  z3 := Try.sizeOf3
  v3 := Try.zeroValue3
  t4 := Try.underlying4
  a4 := Try.isAgg4
  z4 := Try.sizeOf4
  v4 := Try.zeroValue4
  t22 := Try.underlying51
  a22 := Try.isAgg51
  z22 := Try.sizeOf51
  v22 := Try.zeroValue51
  a23 := Try.isAgg2
  z23 := Try.sizeOf2 }
theorem xw_Reverse_i64 (blk cap : Nat) (zs : List Int) (w : World) (hH : Go.Sort.Holds (Value.int .i64) w blk 0 zs.toArray) (hsz : zs.length ≤ 9223372036854775807) :
    Calls Try.prog 106 #[.slice (some ⟨blk, 0, none⟩) zs.length cap] w fun e w' => e = .returned (.tuple #[]) ∧ ∃ n, w' = Go.Sort.putRow (Value.int .i64) (Go.Sort.ahead w n) blk 0 zs.reverse.toArray :=
  AnyE.slices_Reverse xw_rev_lays_i64 (Value.int .i64) (fun _ => rfl) blk 0 cap zs w hH hsz

def slices_Reverse_int64_int64.f (l0 : List Int) : Option (List Int) := if l0.length ≤ 9223372036854775807 then some l0.reverse else none
theorem slices_Reverse_int64_int64.calls (P0_ : Nat → Prop) (u9000_ : Value) (l0 : List Int) (r : List Int) (w0 w : World) (hB : Below w0.heap.size w0 w) (ho0 : Kd.R (Kd.int .i64) 2 w w0.heap.size P0_ u9000_ l0) (h : slices_Reverse_int64_int64.f l0 = some r) :
    Calls Try.prog 106 #[u9000_] w fun e w' => e = .returned (.tuple #[]) ∧ Kd.R (Kd.int .i64) 2 w' w0.heap.size (fun k_ => (P0_ k_ ∨ w.heap.size ≤ k_)) u9000_ r ∧ Below w0.heap.size w0 w' ∧ Kept w w' (fun k_ => P0_ k_) := by
  unfold slices_Reverse_int64_int64.f at h
  by_cases hbig : l0.length ≤ 9223372036854775807
  · rw [if_pos hbig] at h
    obtain rfl := Option.some.inj h
    by_cases hv : u9000_ = .slice none 0 0
    · subst hv
      have hl : l0 = [] := by
        have := (Kd.R_reads' ho0).1
        exact List.length_eq_zero_iff.mp this.symm
      subst hl
      have ho := Aside0.mk ho0
      have hB' := Aside0.mk hB
      clear ho0 hB h
      go_enter Try.func106, Try.ntmps106
      go_wp2
      go_loopg [2, 3] 0 (fun gg v2 v3 wr => v2 = .int .i64 0 ∧ v3 = .int .i64 (-1) ∧ wr = w)
      case atStart => exact ⟨rfl, by go_num, rfl⟩
      case round =>
        obtain ⟨rfl, rfl, rfl⟩ := hrel
        go_wp2
        first | go_end0 | ((try simp only [Exit.inBlock, Exit.then]); refine bodyPost_ret (results_none rfl _ _ _) rfl ?_)
        exact ⟨rfl, Kd.R_mono ho.out (fun _ hk => .inl hk), hB'.out, Kept.refl _ _⟩
    · have hown := Kd.own_of_R ho0
      obtain ⟨g, cap, rfl, hb, hlt, hn, hm, hl, hH⟩ := Lib.holds_of_ownsRow (enc := Value.int .i64) (zs := l0) hown hv
      have hP : P0_ g := ho0.1 g (by simp [Value.ownBlock])
      have hc := xw_Reverse_i64 g cap l0 w hH hbig
      refine hc.mono ?_
      rintro e w' ⟨rfl, n, rfl⟩
      have ho2 := Lib.ownsRow_putRow (q := n) (k := l0.length) (ys := l0.reverse) hown (by simp) (Nat.le_refl _)
      refine ⟨rfl, ?_, Lib.below_putRow hB hb, ?_, ?_⟩
      · refine Kd.R_of_own ?_ (fun k hk => .inl ?_)
        · rw [show (l0.reverse).take l0.length = l0.reverse from List.take_of_length_le (by simp)] at ho2
          rw [List.length_reverse]
          exact ho2
        · have : g = k := by simpa [Value.ownBlock] using hk
          subst this; exact hP
      · simp [Go.Sort.putRow, Go.Sort.mapBlock, Go.Sort.ahead]
      · intro i hi hne
        have : g ≠ i := fun e => hne (e ▸ hP)
        simp [Go.Sort.putRow, Go.Sort.mapBlock, Go.Sort.ahead, Array.getElem?_modify, this]
  · rw [if_neg hbig] at h; cases h


end Go.Proofs.Ytmihfmhfgjnfcaa.Q

namespace Go.Proofs.Ytmihfmhfgjnfcaa.Q
open Go.RowKit Go.Proofs.YtmihfmhfgjnfcaaW.PrintWords Go.Proofs.YtmihfmhfgjnfcaaW.PrintLast Go.Proofs.YtmihfmhfgjnfcaaW.PrintMore
attribute [local go_sem] max2_int min2_int max_two min_two max_three min_three max_four min_four bn_leq bn_gtr bn_geq   -- for this text's walks alone
set_option linter.unusedVariables false
set_option linter.unusedSimpArgs false

/-! ### impl_BordersOf: function 54 (this session's own) -/
def bordCur (n : Int) (l : List Int) (kk : Nat) : List Int := (l.take kk).map (fun p => wrap64 (n - p)) ++ l.drop kk
theorem bordCur_len (n : Int) (l : List Int) (kk : Nat) : (bordCur n l kk).length = l.length := by
  unfold bordCur; simp; omega
theorem bordCur_rd (n : Int) (l : List Int) (kk : Nat) (h : kk < l.length) : rdOf (0 : Int) (bordCur n l kk) (kk : Int) = l.getD kk 0 := by
  unfold rdOf bordCur
  rw [Int.toNat_natCast, List.getD_eq_getElem?_getD, List.getElem?_append_right (by simp; omega)]
  simp [List.getD_eq_getElem?_getD, Nat.min_eq_left (Nat.le_of_lt h)]
theorem bordCur_set (n : Int) (l : List Int) (kk : Nat) (h : kk < l.length) : (bordCur n l kk).set kk (wrap64 (n - l.getD kk 0)) = bordCur n l (kk + 1) := by
  unfold bordCur
  rw [List.set_append_right _ _ (by simp; omega)]
  have e : l.drop kk = l.getD kk 0 :: l.drop (kk + 1) := by
    rw [List.drop_eq_getElem_cons h]
    simp [List.getD_eq_getElem?_getD, h]
  have e2 : (l.take (kk + 1)) = l.take kk ++ [l.getD kk 0] := by
    rw [List.take_succ_eq_append_getElem h]
    simp [List.getD_eq_getElem?_getD, h]
  rw [e, e2]
  simp [Nat.min_eq_left (Nat.le_of_lt h)]
def impl_BordersOf.f (k : Nat) (a0 : ByteArray) : Option (List Int × Int) := (impl_PeriodsOf.f k a0).bind fun bt => if bt.2 = 0 then (if bt.1.length ≤ 9223372036854775806 then some ((bordCur a0.size bt.1 bt.1.length).reverse, 0) else none) else some ([], bt.2)
theorem impl_BordersOf.mono : ∀ a0 k, LeO (impl_BordersOf.f k a0) (impl_BordersOf.f (k + 1) a0) := by
  intro a0 k
  unfold impl_BordersOf.f
  exact LeO.bind (impl_PeriodsOf.mono _ _) fun _ => LeO.refl _
set_option maxHeartbeats 8000000 in
theorem impl_BordersOf.calls (k : Nat) (a0 : ByteArray) (r1 : List Int) (r2 : Int) (w : World) (h : impl_BordersOf.f k a0 = some (r1, r2)) :
    Calls Try.prog 54 #[.string a0] w fun e w' => ∃ v0_ : Value, e = .returned (.tuple #[v0_, .int .i64 r2]) ∧ Kd.R (Kd.int .i64) 2 w' w.heap.size (fun _ => True) v0_ r1 ∧ Below w.heap.size w w' := by
  unfold impl_BordersOf.f at h
  obtain ⟨⟨l, c⟩, hP, h⟩ := Option.bind_eq_some_iff.mp h
  have hC := impl_PeriodsOf.calls k a0 l c w hP
  clear hP
  simp only at h
  by_cases hc : c = 0
  · subst hc
    rw [if_pos rfl] at h
    by_cases hbig : l.length ≤ 9223372036854775806
    · rw [if_pos hbig] at h
      simp only [Option.some.injEq, Prod.mk.injEq] at h
      obtain ⟨rfl, rfl⟩ := h
      obtain ⟨r, hr⟩ : ∃ r, r = bordCur a0.size l l.length := ⟨_, rfl⟩
      have hrl := Aside0.mk (show r.length ≤ 9223372036854775807 by rw [hr, bordCur_len]; omega)
      have hbig' := Aside0.mk hbig
      rw [← hr]
      have hr' := Aside0.mk hr
      clear hr hbig
      go_enter Try.func54, Try.ntmps54
      go_wp2_with (go_at_call 55; refine hC.mono ?_; rintro e w1 ⟨v, rfl, hR, hb⟩; obtain ⟨A, c, rfl, hlc, hCC⟩ := Kd.R_reads hR; have HO := Aside0.mk hR; have HB := Aside0.mk hb; clear hR hb hCC)
      go_loopg [6, 7, 18] l.length (fun gg v6 v7 v18 wr => ∃ (kk : Nat), kk ≤ l.length ∧ l.length - kk ≤ gg ∧ v18 = .int .i64 kk ∧ Aside0 (Kd.R (Kd.int .i64) 2 wr w.heap.size (fun _ => True) (.slice A l.length c) (bordCur a0.size l kk)) ∧ Aside0 (Below w.heap.size w wr))
      case atStart => exact ⟨0, Nat.zero_le _, by omega, rfl, ⟨by unfold bordCur; simpa using HO.out⟩, HB⟩
      case round =>
        clear HO HB
        obtain ⟨kk, hkk, hgg, rfl, HO, HB⟩ := hrel
        by_cases hlt : kk < l.length
        · have hltz : (kk : Int) < (l.length : Int) := by omega
          have c1 := decide_eq_true hltz
          obtain ⟨x, hx⟩ : ∃ x, x = l.getD kk 0 := ⟨_, rfl⟩
          have hx' := Aside0.mk hx
          have hset := Aside0.mk (bordCur_set a0.size l kk hlt)
          rw [← hx] at hset
          obtain ⟨g, cap, e1, hg, hgl, hcl⟩ := Kd.R_form HO.out (by rw [bordCur_len]; omega)
          injection e1 with e1 e2 e3
          subst e1 e3
          have HG := Aside0.mk hg
          obtain ⟨h1, h2⟩ := Kd.R_celln 0 HO.out (kk : Int) (by omega) hltz
          rw [bordCur_rd _ _ _ hlt, ← hx] at h1
          rw [Int.toNat_natCast] at h1 h2
          have HP := Kd.R_putg HO.out (kk : Int) (wrap64 ((a0.size : Int) - x))
          rw [Int.toNat_natCast, hset.out] at HP
          clear e2 hg hgl hcl hx hset
          have p0 := eq_true (show (0 : Int) ≤ (kk : Int) by omega)
          have n1 := eq_true hlt
          go_wp2_with (go_at_call 87; refine (xw_size _ _).mono ?_; rintro e w2 ⟨rfl, rfl⟩)
          go_roundg (l.length - (kk + 1))
          case measure => omega
          case rel =>
            have hb2 := hbig'.out
            exact ⟨kk + 1, by omega, by omega, by rw [w64 (by omega) (by omega)]; rfl, ⟨HP.1⟩, ⟨below_set HB.out HG.out⟩⟩
        · have hltz : ¬ (kk : Int) < (l.length : Int) := by omega
          have c1 := decide_eq_false hltz
          obtain rfl : kk = l.length := by omega
          rw [← hr'.out] at HO
          have hq := Aside0.mk (slices_Reverse_int64_int64.calls (fun _ => True) _ r r.reverse w wr HB.out HO.out (by unfold slices_Reverse_int64_int64.f; rw [if_pos hrl.out]))
          clear HO HB
          go_wp2_with (go_at_call 106; refine hq.out.mono ?_; rintro e w3 ⟨rfl, hR3, hB3, _⟩; have HO := Aside0.mk hR3; have HB := Aside0.mk hB3; clear hR3 hB3)
          go_ret2
          exact ⟨_, rfl, Kd.R_mono HO.out (fun _ _ => trivial), HB.out⟩
    · rw [if_neg hbig] at h; cases h
  · rw [if_neg hc] at h
    simp only [Option.some.injEq, Prod.mk.injEq] at h
    obtain ⟨rfl, rfl⟩ := h
    have c1 : (c == 0) = false := beq_eq_false_iff_ne.mpr hc
    have c2 : (c != 0) = true := by simp [bne, c1]
    clear hc
    go_enter Try.func54, Try.ntmps54
    go_wp2_with (go_at_call 55; refine hC.mono ?_; rintro e w1 ⟨v, rfl, hR, hb⟩; have HB := Aside0.mk hb; clear hR hb)
    go_ret2
    exact ⟨_, rfl, Kd.R_nil _ _ _ _ _, HB.out⟩


end Go.Proofs.Ytmihfmhfgjnfcaa.Q

namespace Go.Proofs.Ytmihfmhfgjnfcaa.Q
open Go.RowKit Go.Proofs.YtmihfmhfgjnfcaaW.PrintWords Go.Proofs.YtmihfmhfgjnfcaaW.PrintLast Go.Proofs.YtmihfmhfgjnfcaaW.PrintMore
attribute [local go_sem] max2_int min2_int max_two min_two max_three min_three max_four min_four bn_leq bn_gtr bn_geq   -- for this text's walks alone
set_option linter.unusedVariables false
set_option linter.unusedSimpArgs false

/-! ### laws_FnCritical: function 14 (this session's own) -/
set_option maxHeartbeats 16000000 in
set_option maxRecDepth 100000 in
theorem laws_FnCritical.pathA (k : Nat) (A0 : Option Addr) (cc : Nat) (l0 : List Int) (a lg : ByteArray) (i loc p0 x0 c1 c2 c3 : Int) (P B Pw : List Int) (w : World) (hr0 : Kd.C (Kd.int .u8) w A0 l0.length l0) (hc0 : l0.length ≤ cc) (hbig : l0.length ≤ 4096) (hD1 : spec_DrawCriticalPlaces.f k l0 = some a) (hI1 : impl_CriticalPlaces.f k a = some (P, c1)) (hS1 : spec_CriticalPlaces.f k a = some (P, c1)) (hL : laws_likeInts.f k P P = some true) (hD2 : spec_DrawLocalPeriod.f k l0 = some (a, i)) (hI2 : impl_LocalPeriod.f k a i = some (loc, c2)) (hS2 : spec_LocalPeriod.f k a i = some (loc, c2)) (hD3 : spec_DrawLongestUnbordered.f k l0 = some a) (hI3 : impl_LongestUnbordered.f k a = some (lg, c3)) (hS3 : spec_LongestUnbordered.f k a = some (lg, c3)) (hc1 : c1 ≠ 0) (hc2 : c2 ≠ 0) (hc3 : c3 ≠ 0) (hPe : P.length = 0) :
    Calls Try.prog 14 #[.slice A0 l0.length cc] w fun e w' => e = .returned (.bool true) ∧ Below w.heap.size w w' := by
  have HR0 := Aside0.mk hr0
  have HB := Aside0.mk (Below.refl w.heap.size w)
  have cG := Aside0.mk (fun W h => laws_big.calls A0 cc l0 false W h hc0 (by unfold laws_big.f; rw [decide_eq_false (by omega)]))
  have cD1 := Aside0.mk (fun W h => spec_DrawCriticalPlaces.calls k A0 cc l0 a W h hc0 hD1)
  have cD2 := Aside0.mk (fun W h => spec_DrawLocalPeriod.calls k A0 cc l0 a i W h hc0 hD2)
  have cD3 := Aside0.mk (fun W h => spec_DrawLongestUnbordered.calls k A0 cc l0 a W h hc0 hD3)
  have cI1 := Aside0.mk (fun W => impl_CriticalPlaces.calls k a P c1 W hI1)
  have cS1 := Aside0.mk (fun W => spec_CriticalPlaces.calls k a P c1 W hS1)
  have cE := Aside0.mk (fun W (A0 : Option Addr) (c0 : Nat) (A1 : Option Addr) (c1 : Nat) h0 h1 h2 h3 => laws_likeInts.calls k A0 c0 P A1 c1 P true W h0 h1 h2 h3 hL)
  have cI2 := Aside0.mk (fun W => impl_LocalPeriod.calls k a i loc c2 W hI2)
  have cS2 := Aside0.mk (fun W => spec_LocalPeriod.calls k a i loc c2 W hS2)
  have cI3 := Aside0.mk (fun W => impl_LongestUnbordered.calls k a lg c3 W hI3)
  have cS3 := Aside0.mk (fun W => spec_LongestUnbordered.calls k a lg c3 W hS3)
  have d1 : (a.toList != a.toList) = false := by simp
  have d2 : (lg.toList != lg.toList) = false := by simp
  have d3 : (loc != loc) = false := by simp
  have d4 : (c1 == 0) = false := beq_eq_false_iff_ne.mpr hc1
  have d5 : (c1 != 0) = true := bne_iff_ne.mpr hc1
  have d6 : (c1 != c1) = false := by simp
  have d7 : (c2 == 0) = false := beq_eq_false_iff_ne.mpr hc2
  have d8 : (c2 != 0) = true := bne_iff_ne.mpr hc2
  have d9 : (c2 != c2) = false := by simp
  have d10 : (c3 == 0) = false := beq_eq_false_iff_ne.mpr hc3
  have d11 : (c3 != 0) = true := bne_iff_ne.mpr hc3
  have d12 : (c3 != c3) = false := by simp
  have d13 : ((P.length : Int) == 0) = true := by rw [hPe]; rfl
  have d14 : (P.length == 0) = true := by rw [hPe]; rfl
  have d15 : ((0 : Int) != 0) = false := rfl
  have d16 : ((0 : Int) == 0) = true := rfl
  clear hr0 hc0 hbig hD1 hI1 hS1 hL hD2 hI2 hS2 hD3 hI3 hS3 hc1 hc2 hc3 hPe
  have tI2 := Aside0.mk (show True from trivial)
  go_enter Try.func14, Try.ntmps14
  go_wp2_with (first
    | (go_at_call 43; refine (cG.out _ (Kd.C_below HR0.out HB.out)).mono ?_; rintro e wg ⟨rfl, hd⟩; have hb := hd.below; have nb_ := Aside0.mk (below_then HB.out HB.out.size hb); clear HB; have HB := nb_; clear nb_; clear hb; clear hd)
    | (go_at_call 44; refine (cD1.out _ (Kd.C_below HR0.out HB.out)).mono ?_; rintro e wd1 ⟨rfl, hb⟩; have nb_ := Aside0.mk (below_then HB.out HB.out.size hb); clear HB; have HB := nb_; clear nb_; clear hb)
    | (go_at_call 45; refine (cI1.out _).mono ?_; rintro e wi1 ⟨vi1, rfl, ho, hb⟩; obtain ⟨A1, e1, rfl⟩ := Kd.R_slice ho; have HP := Aside0.mk ho; have nb_ := Aside0.mk (below_then HB.out HB.out.size hb); clear HB; have HB := nb_; clear nb_; clear hb; clear ho)
    | (go_at_call 46; refine (cS1.out _).mono ?_; rintro e ws1 ⟨vs1, rfl, ho, hb⟩; obtain ⟨A2, e2, rfl⟩ := Kd.R_slice ho; have HS := Aside0.mk ho; have n_HP := Aside0.mk (Kd.R_below HP.out hb); clear HP; have HP := n_HP; clear n_HP; have nb_ := Aside0.mk (below_then HB.out HB.out.size hb); clear HB; have HB := nb_; clear nb_; clear hb; clear ho)
    | (go_at_call 47; refine (cE.out _ _ _ _ _ (Kd.R_reads' HP.out).2.2 (Kd.R_reads' HP.out).2.1 (Kd.R_reads' HS.out).2.2 (Kd.R_reads' HS.out).2.1).mono ?_; rintro e we ⟨rfl, hd⟩; have hb := hd.below; have n_HP := Aside0.mk (Kd.R_below HP.out hb); clear HP; have HP := n_HP; clear n_HP; clear HS; have nb_ := Aside0.mk (below_then HB.out HB.out.size hb); clear HB; have HB := nb_; clear nb_; clear hb; clear hd)
    | (go_at_call 48; refine (cD2.out _ (Kd.C_below HR0.out HB.out)).mono ?_; rintro e wd2 ⟨rfl, hb⟩; have n_HP := Aside0.mk (Kd.R_below HP.out hb); clear HP; have HP := n_HP; clear n_HP; have nb_ := Aside0.mk (below_then HB.out HB.out.size hb); clear HB; have HB := nb_; clear nb_; clear hb)
    | (go_at_call 49; have t_ := tI2.out; clear tI2 t_; refine (cI2.out _).mono ?_; rintro e wi2 ⟨rfl, hb⟩; have n_HP := Aside0.mk (Kd.R_below HP.out hb); clear HP; have HP := n_HP; clear n_HP; have nb_ := Aside0.mk (below_then HB.out HB.out.size hb); clear HB; have HB := nb_; clear nb_; clear hb)
    | (go_at_call 50; refine (cS2.out _).mono ?_; rintro e ws2 ⟨rfl, hb⟩; have n_HP := Aside0.mk (Kd.R_below HP.out hb); clear HP; have HP := n_HP; clear n_HP; have nb_ := Aside0.mk (below_then HB.out HB.out.size hb); clear HB; have HB := nb_; clear nb_; clear hb)
    | (go_at_call 51; refine (cD3.out _ (Kd.C_below HR0.out HB.out)).mono ?_; rintro e wd3 ⟨rfl, hb⟩; have n_HP := Aside0.mk (Kd.R_below HP.out hb); clear HP; have HP := n_HP; clear n_HP; have nb_ := Aside0.mk (below_then HB.out HB.out.size hb); clear HB; have HB := nb_; clear nb_; clear hb)
    | (go_at_call 52; refine (cI3.out _).mono ?_; rintro e wi3 ⟨rfl, hb⟩; have n_HP := Aside0.mk (Kd.R_below HP.out hb); clear HP; have HP := n_HP; clear n_HP; have nb_ := Aside0.mk (below_then HB.out HB.out.size hb); clear HB; have HB := nb_; clear nb_; clear hb)
    | (go_at_call 53; refine (cS3.out _).mono ?_; rintro e ws3 ⟨rfl, hb⟩; have n_HP := Aside0.mk (Kd.R_below HP.out hb); clear HP; have HP := n_HP; clear n_HP; have nb_ := Aside0.mk (below_then HB.out HB.out.size hb); clear HB; have HB := nb_; clear nb_; clear hb))
  go_ret
  exact ⟨rfl, HB.out⟩
set_option maxHeartbeats 16000000 in
set_option maxRecDepth 100000 in
theorem laws_FnCritical.pathB (k : Nat) (A0 : Option Addr) (cc : Nat) (l0 : List Int) (a lg : ByteArray) (i loc p0 x0 c1 c2 c3 : Int) (P B Pw : List Int) (w : World) (hr0 : Kd.C (Kd.int .u8) w A0 l0.length l0) (hc0 : l0.length ≤ cc) (hbig : l0.length ≤ 4096) (hD1 : spec_DrawCriticalPlaces.f k l0 = some a) (hI1 : impl_CriticalPlaces.f k a = some (P, 0)) (hS1 : spec_CriticalPlaces.f k a = some (P, 0)) (hL : laws_likeInts.f k P P = some true) (hD2 : spec_DrawLocalPeriod.f k l0 = some (a, i)) (hI2 : impl_LocalPeriod.f k a i = some (loc, c2)) (hS2 : spec_LocalPeriod.f k a i = some (loc, c2)) (hD3 : spec_DrawLongestUnbordered.f k l0 = some a) (hI3 : impl_LongestUnbordered.f k a = some (lg, c3)) (hS3 : spec_LongestUnbordered.f k a = some (lg, c3)) (hc2 : c2 ≠ 0) (hc3 : c3 ≠ 0) (hPe : P.length = 0) (hz : a.size < 2) :
    Calls Try.prog 14 #[.slice A0 l0.length cc] w fun e w' => e = .returned (.bool true) ∧ Below w.heap.size w w' := by
  have HR0 := Aside0.mk hr0
  have HB := Aside0.mk (Below.refl w.heap.size w)
  have cG := Aside0.mk (fun W h => laws_big.calls A0 cc l0 false W h hc0 (by unfold laws_big.f; rw [decide_eq_false (by omega)]))
  have cD1 := Aside0.mk (fun W h => spec_DrawCriticalPlaces.calls k A0 cc l0 a W h hc0 hD1)
  have cD2 := Aside0.mk (fun W h => spec_DrawLocalPeriod.calls k A0 cc l0 a i W h hc0 hD2)
  have cD3 := Aside0.mk (fun W h => spec_DrawLongestUnbordered.calls k A0 cc l0 a W h hc0 hD3)
  have cI1 := Aside0.mk (fun W => impl_CriticalPlaces.calls k a P 0 W hI1)
  have cS1 := Aside0.mk (fun W => spec_CriticalPlaces.calls k a P 0 W hS1)
  have cE := Aside0.mk (fun W (A0 : Option Addr) (c0 : Nat) (A1 : Option Addr) (c1 : Nat) h0 h1 h2 h3 => laws_likeInts.calls k A0 c0 P A1 c1 P true W h0 h1 h2 h3 hL)
  have cI2 := Aside0.mk (fun W => impl_LocalPeriod.calls k a i loc c2 W hI2)
  have cS2 := Aside0.mk (fun W => spec_LocalPeriod.calls k a i loc c2 W hS2)
  have cI3 := Aside0.mk (fun W => impl_LongestUnbordered.calls k a lg c3 W hI3)
  have cS3 := Aside0.mk (fun W => spec_LongestUnbordered.calls k a lg c3 W hS3)
  have d1 : (a.toList != a.toList) = false := by simp
  have d2 : (lg.toList != lg.toList) = false := by simp
  have d3 : (loc != loc) = false := by simp
  have d4 : (c2 == 0) = false := beq_eq_false_iff_ne.mpr hc2
  have d5 : (c2 != 0) = true := bne_iff_ne.mpr hc2
  have d6 : (c2 != c2) = false := by simp
  have d7 : (c3 == 0) = false := beq_eq_false_iff_ne.mpr hc3
  have d8 : (c3 != 0) = true := bne_iff_ne.mpr hc3
  have d9 : (c3 != c3) = false := by simp
  have d10 : ((P.length : Int) == 0) = true := by rw [hPe]; rfl
  have d11 : (P.length == 0) = true := by rw [hPe]; rfl
  have d12 : decide ((a.size : Int) < 2) = true := decide_eq_true (by omega)
  have d13 : decide (a.size < 2) = true := decide_eq_true (by omega)
  have d14 : ((0 : Int) != 0) = false := rfl
  have d15 : ((0 : Int) == 0) = true := rfl
  clear hr0 hc0 hbig hD1 hI1 hS1 hL hD2 hI2 hS2 hD3 hI3 hS3 hc2 hc3 hPe hz
  have tI2 := Aside0.mk (show True from trivial)
  go_enter Try.func14, Try.ntmps14
  go_wp2_with (first
    | (go_at_call 43; refine (cG.out _ (Kd.C_below HR0.out HB.out)).mono ?_; rintro e wg ⟨rfl, hd⟩; have hb := hd.below; have nb_ := Aside0.mk (below_then HB.out HB.out.size hb); clear HB; have HB := nb_; clear nb_; clear hb; clear hd)
    | (go_at_call 44; refine (cD1.out _ (Kd.C_below HR0.out HB.out)).mono ?_; rintro e wd1 ⟨rfl, hb⟩; have nb_ := Aside0.mk (below_then HB.out HB.out.size hb); clear HB; have HB := nb_; clear nb_; clear hb)
    | (go_at_call 45; refine (cI1.out _).mono ?_; rintro e wi1 ⟨vi1, rfl, ho, hb⟩; obtain ⟨A1, e1, rfl⟩ := Kd.R_slice ho; have HP := Aside0.mk ho; have nb_ := Aside0.mk (below_then HB.out HB.out.size hb); clear HB; have HB := nb_; clear nb_; clear hb; clear ho)
    | (go_at_call 46; refine (cS1.out _).mono ?_; rintro e ws1 ⟨vs1, rfl, ho, hb⟩; obtain ⟨A2, e2, rfl⟩ := Kd.R_slice ho; have HS := Aside0.mk ho; have n_HP := Aside0.mk (Kd.R_below HP.out hb); clear HP; have HP := n_HP; clear n_HP; have nb_ := Aside0.mk (below_then HB.out HB.out.size hb); clear HB; have HB := nb_; clear nb_; clear hb; clear ho)
    | (go_at_call 47; refine (cE.out _ _ _ _ _ (Kd.R_reads' HP.out).2.2 (Kd.R_reads' HP.out).2.1 (Kd.R_reads' HS.out).2.2 (Kd.R_reads' HS.out).2.1).mono ?_; rintro e we ⟨rfl, hd⟩; have hb := hd.below; have n_HP := Aside0.mk (Kd.R_below HP.out hb); clear HP; have HP := n_HP; clear n_HP; clear HS; have nb_ := Aside0.mk (below_then HB.out HB.out.size hb); clear HB; have HB := nb_; clear nb_; clear hb; clear hd)
    | (go_at_call 48; refine (cD2.out _ (Kd.C_below HR0.out HB.out)).mono ?_; rintro e wd2 ⟨rfl, hb⟩; have n_HP := Aside0.mk (Kd.R_below HP.out hb); clear HP; have HP := n_HP; clear n_HP; have nb_ := Aside0.mk (below_then HB.out HB.out.size hb); clear HB; have HB := nb_; clear nb_; clear hb)
    | (go_at_call 49; have t_ := tI2.out; clear tI2 t_; refine (cI2.out _).mono ?_; rintro e wi2 ⟨rfl, hb⟩; have n_HP := Aside0.mk (Kd.R_below HP.out hb); clear HP; have HP := n_HP; clear n_HP; have nb_ := Aside0.mk (below_then HB.out HB.out.size hb); clear HB; have HB := nb_; clear nb_; clear hb)
    | (go_at_call 50; refine (cS2.out _).mono ?_; rintro e ws2 ⟨rfl, hb⟩; have n_HP := Aside0.mk (Kd.R_below HP.out hb); clear HP; have HP := n_HP; clear n_HP; have nb_ := Aside0.mk (below_then HB.out HB.out.size hb); clear HB; have HB := nb_; clear nb_; clear hb)
    | (go_at_call 51; refine (cD3.out _ (Kd.C_below HR0.out HB.out)).mono ?_; rintro e wd3 ⟨rfl, hb⟩; have n_HP := Aside0.mk (Kd.R_below HP.out hb); clear HP; have HP := n_HP; clear n_HP; have nb_ := Aside0.mk (below_then HB.out HB.out.size hb); clear HB; have HB := nb_; clear nb_; clear hb)
    | (go_at_call 52; refine (cI3.out _).mono ?_; rintro e wi3 ⟨rfl, hb⟩; have n_HP := Aside0.mk (Kd.R_below HP.out hb); clear HP; have HP := n_HP; clear n_HP; have nb_ := Aside0.mk (below_then HB.out HB.out.size hb); clear HB; have HB := nb_; clear nb_; clear hb)
    | (go_at_call 53; refine (cS3.out _).mono ?_; rintro e ws3 ⟨rfl, hb⟩; have n_HP := Aside0.mk (Kd.R_below HP.out hb); clear HP; have HP := n_HP; clear n_HP; have nb_ := Aside0.mk (below_then HB.out HB.out.size hb); clear HB; have HB := nb_; clear nb_; clear hb))
  go_ret
  exact ⟨rfl, HB.out⟩
set_option maxHeartbeats 16000000 in
set_option maxRecDepth 100000 in
theorem laws_FnCritical.pathC (k : Nat) (A0 : Option Addr) (cc : Nat) (l0 : List Int) (a lg : ByteArray) (i loc p0 x0 c1 c2 c3 : Int) (P B Pw : List Int) (w : World) (hr0 : Kd.C (Kd.int .u8) w A0 l0.length l0) (hc0 : l0.length ≤ cc) (hbig : l0.length ≤ 4096) (hD1 : spec_DrawCriticalPlaces.f k l0 = some a) (hI1 : impl_CriticalPlaces.f k a = some (P, 0)) (hS1 : spec_CriticalPlaces.f k a = some (P, 0)) (hL : laws_likeInts.f k P P = some true) (hD2 : spec_DrawLocalPeriod.f k l0 = some (a, i)) (hI2 : impl_LocalPeriod.f k a i = some (loc, c2)) (hS2 : spec_LocalPeriod.f k a i = some (loc, c2)) (hD3 : spec_DrawLongestUnbordered.f k l0 = some a) (hI3 : impl_LongestUnbordered.f k a = some (lg, 0)) (hS3 : spec_LongestUnbordered.f k a = some (lg, 0)) (hc2 : c2 ≠ 0) (hB : impl_BordersOf.f k lg = some (B, 0)) (hB1 : B.length = 1) (hlg : 1 ≤ lg.size ∧ (lg.size : Int) ≤ p0) (hP : impl_PeriodsOf.f k a = some (Pw, 0)) (hPl : 0 < Pw.length) (hp0 : rd Pw 0 = p0) (hPe : P.length = 0) (hz : a.size < 2) :
    Calls Try.prog 14 #[.slice A0 l0.length cc] w fun e w' => e = .returned (.bool true) ∧ Below w.heap.size w w' := by
  have HR0 := Aside0.mk hr0
  have HB := Aside0.mk (Below.refl w.heap.size w)
  have cG := Aside0.mk (fun W h => laws_big.calls A0 cc l0 false W h hc0 (by unfold laws_big.f; rw [decide_eq_false (by omega)]))
  have cD1 := Aside0.mk (fun W h => spec_DrawCriticalPlaces.calls k A0 cc l0 a W h hc0 hD1)
  have cD2 := Aside0.mk (fun W h => spec_DrawLocalPeriod.calls k A0 cc l0 a i W h hc0 hD2)
  have cD3 := Aside0.mk (fun W h => spec_DrawLongestUnbordered.calls k A0 cc l0 a W h hc0 hD3)
  have cI1 := Aside0.mk (fun W => impl_CriticalPlaces.calls k a P 0 W hI1)
  have cS1 := Aside0.mk (fun W => spec_CriticalPlaces.calls k a P 0 W hS1)
  have cE := Aside0.mk (fun W (A0 : Option Addr) (c0 : Nat) (A1 : Option Addr) (c1 : Nat) h0 h1 h2 h3 => laws_likeInts.calls k A0 c0 P A1 c1 P true W h0 h1 h2 h3 hL)
  have cI2 := Aside0.mk (fun W => impl_LocalPeriod.calls k a i loc c2 W hI2)
  have cS2 := Aside0.mk (fun W => spec_LocalPeriod.calls k a i loc c2 W hS2)
  have cI3 := Aside0.mk (fun W => impl_LongestUnbordered.calls k a lg 0 W hI3)
  have cS3 := Aside0.mk (fun W => spec_LongestUnbordered.calls k a lg 0 W hS3)
  have cB := Aside0.mk (fun W => impl_BordersOf.calls k lg B 0 W hB)
  have cP := Aside0.mk (fun W => impl_PeriodsOf.calls k a Pw 0 W hP)
  have d1 : (a.toList != a.toList) = false := by simp
  have d2 : (lg.toList != lg.toList) = false := by simp
  have d3 : (loc != loc) = false := by simp
  have d4 : (c2 == 0) = false := beq_eq_false_iff_ne.mpr hc2
  have d5 : (c2 != 0) = true := bne_iff_ne.mpr hc2
  have d6 : (c2 != c2) = false := by simp
  have d7 : ((B.length : Int) != 1) = false := by rw [hB1]; rfl
  have d8 : (B.length != 1) = false := by rw [hB1]; rfl
  have d9 : ((B.length : Int) == 1) = true := by rw [hB1]; rfl
  have d10 : (B.length == 1) = true := by rw [hB1]; rfl
  have d11 : decide ((lg.size : Int) < 1) = false := decide_eq_false (by omega)
  have d12 : decide (lg.size < 1) = false := decide_eq_false (by omega)
  have d13 : decide (lg.size = 0) = false := decide_eq_false (by omega)
  have d14 : decide (p0 < (lg.size : Int)) = false := decide_eq_false (by omega)
  have d15 : ((P.length : Int) == 0) = true := by rw [hPe]; rfl
  have d16 : (P.length == 0) = true := by rw [hPe]; rfl
  have d17 : decide ((a.size : Int) < 2) = true := decide_eq_true (by omega)
  have d18 : decide (a.size < 2) = true := decide_eq_true (by omega)
  have d19 : (0 < Pw.length) = True := eq_true hPl
  have d20 : ((0 : Int) < (Pw.length : Int)) = True := eq_true (by omega)
  have d21 : ((0 : Int) != 0) = false := rfl
  have d22 : ((0 : Int) == 0) = true := rfl
  replace hPl := Aside0.mk hPl
  replace hp0 := Aside0.mk hp0
  clear hr0 hc0 hbig hD1 hI1 hS1 hL hD2 hI2 hS2 hD3 hI3 hS3 hc2 hB hB1 hlg hP hPe hz
  have tI2 := Aside0.mk (show True from trivial)
  go_enter Try.func14, Try.ntmps14
  go_wp2_with (first
    | (go_at_call 43; refine (cG.out _ (Kd.C_below HR0.out HB.out)).mono ?_; rintro e wg ⟨rfl, hd⟩; have hb := hd.below; have nb_ := Aside0.mk (below_then HB.out HB.out.size hb); clear HB; have HB := nb_; clear nb_; clear hb; clear hd)
    | (go_at_call 44; refine (cD1.out _ (Kd.C_below HR0.out HB.out)).mono ?_; rintro e wd1 ⟨rfl, hb⟩; have nb_ := Aside0.mk (below_then HB.out HB.out.size hb); clear HB; have HB := nb_; clear nb_; clear hb)
    | (go_at_call 45; refine (cI1.out _).mono ?_; rintro e wi1 ⟨vi1, rfl, ho, hb⟩; obtain ⟨A1, e1, rfl⟩ := Kd.R_slice ho; have HP := Aside0.mk ho; have nb_ := Aside0.mk (below_then HB.out HB.out.size hb); clear HB; have HB := nb_; clear nb_; clear hb; clear ho)
    | (go_at_call 46; refine (cS1.out _).mono ?_; rintro e ws1 ⟨vs1, rfl, ho, hb⟩; obtain ⟨A2, e2, rfl⟩ := Kd.R_slice ho; have HS := Aside0.mk ho; have n_HP := Aside0.mk (Kd.R_below HP.out hb); clear HP; have HP := n_HP; clear n_HP; have nb_ := Aside0.mk (below_then HB.out HB.out.size hb); clear HB; have HB := nb_; clear nb_; clear hb; clear ho)
    | (go_at_call 47; refine (cE.out _ _ _ _ _ (Kd.R_reads' HP.out).2.2 (Kd.R_reads' HP.out).2.1 (Kd.R_reads' HS.out).2.2 (Kd.R_reads' HS.out).2.1).mono ?_; rintro e we ⟨rfl, hd⟩; have hb := hd.below; have n_HP := Aside0.mk (Kd.R_below HP.out hb); clear HP; have HP := n_HP; clear n_HP; clear HS; have nb_ := Aside0.mk (below_then HB.out HB.out.size hb); clear HB; have HB := nb_; clear nb_; clear hb; clear hd)
    | (go_at_call 48; refine (cD2.out _ (Kd.C_below HR0.out HB.out)).mono ?_; rintro e wd2 ⟨rfl, hb⟩; have n_HP := Aside0.mk (Kd.R_below HP.out hb); clear HP; have HP := n_HP; clear n_HP; have nb_ := Aside0.mk (below_then HB.out HB.out.size hb); clear HB; have HB := nb_; clear nb_; clear hb)
    | (go_at_call 49; have t_ := tI2.out; clear tI2 t_; refine (cI2.out _).mono ?_; rintro e wi2 ⟨rfl, hb⟩; have n_HP := Aside0.mk (Kd.R_below HP.out hb); clear HP; have HP := n_HP; clear n_HP; have nb_ := Aside0.mk (below_then HB.out HB.out.size hb); clear HB; have HB := nb_; clear nb_; clear hb)
    | (go_at_call 50; refine (cS2.out _).mono ?_; rintro e ws2 ⟨rfl, hb⟩; have n_HP := Aside0.mk (Kd.R_below HP.out hb); clear HP; have HP := n_HP; clear n_HP; have nb_ := Aside0.mk (below_then HB.out HB.out.size hb); clear HB; have HB := nb_; clear nb_; clear hb)
    | (go_at_call 51; refine (cD3.out _ (Kd.C_below HR0.out HB.out)).mono ?_; rintro e wd3 ⟨rfl, hb⟩; have n_HP := Aside0.mk (Kd.R_below HP.out hb); clear HP; have HP := n_HP; clear n_HP; have nb_ := Aside0.mk (below_then HB.out HB.out.size hb); clear HB; have HB := nb_; clear nb_; clear hb)
    | (go_at_call 52; refine (cI3.out _).mono ?_; rintro e wi3 ⟨rfl, hb⟩; have n_HP := Aside0.mk (Kd.R_below HP.out hb); clear HP; have HP := n_HP; clear n_HP; have nb_ := Aside0.mk (below_then HB.out HB.out.size hb); clear HB; have HB := nb_; clear nb_; clear hb)
    | (go_at_call 53; refine (cS3.out _).mono ?_; rintro e ws3 ⟨rfl, hb⟩; have n_HP := Aside0.mk (Kd.R_below HP.out hb); clear HP; have HP := n_HP; clear n_HP; have nb_ := Aside0.mk (below_then HB.out HB.out.size hb); clear HB; have HB := nb_; clear nb_; clear hb)
    | (go_at_call 54; refine (cB.out _).mono ?_; rintro e wb ⟨vb, rfl, ho, hb⟩; obtain ⟨A3, e3, rfl⟩ := Kd.R_slice ho; have HBo := Aside0.mk ho; have n_HP := Aside0.mk (Kd.R_below HP.out hb); clear HP; have HP := n_HP; clear n_HP; have nb_ := Aside0.mk (below_then HB.out HB.out.size hb); clear HB; have HB := nb_; clear nb_; clear hb; clear ho)
    | (go_at_call 55; refine (cP.out _).mono ?_; rintro e wp0 ⟨vp0, rfl, ho, hb⟩; obtain ⟨Ap0, ep0, rfl⟩ := Kd.R_slice ho; have n_HP := Aside0.mk (Kd.R_below HP.out hb); clear HP; have HP := n_HP; clear n_HP; obtain ⟨ad0, rfl, hcell0⟩ := Kd.at_int (Kd.R_reads' ho).2.2 0 (by omega) (by have := hPl.out; omega); rw [show ((0 : Int)).toNat = 0 from rfl, Addr.add_zero', hp0.out] at hcell0; have nb_ := Aside0.mk (below_then HB.out HB.out.size hb); clear HB; have HB := nb_; clear nb_; clear hb; clear ho))
  go_ret
  exact ⟨rfl, HB.out⟩
set_option maxHeartbeats 16000000 in
set_option maxRecDepth 100000 in
theorem laws_FnCritical.pathD (k : Nat) (A0 : Option Addr) (cc : Nat) (l0 : List Int) (a lg : ByteArray) (i loc p0 x0 c1 c2 c3 : Int) (P B Pw : List Int) (w : World) (hr0 : Kd.C (Kd.int .u8) w A0 l0.length l0) (hc0 : l0.length ≤ cc) (hbig : l0.length ≤ 4096) (hD1 : spec_DrawCriticalPlaces.f k l0 = some a) (hI1 : impl_CriticalPlaces.f k a = some (P, 0)) (hS1 : spec_CriticalPlaces.f k a = some (P, 0)) (hL : laws_likeInts.f k P P = some true) (hD2 : spec_DrawLocalPeriod.f k l0 = some (a, i)) (hI2 : impl_LocalPeriod.f k a i = some (loc, 0)) (hS2 : spec_LocalPeriod.f k a i = some (loc, 0)) (hD3 : spec_DrawLongestUnbordered.f k l0 = some a) (hI3 : impl_LongestUnbordered.f k a = some (lg, 0)) (hS3 : spec_LongestUnbordered.f k a = some (lg, 0)) (hB : impl_BordersOf.f k lg = some (B, 0)) (hB1 : B.length = 1) (hlg : 1 ≤ lg.size ∧ (lg.size : Int) ≤ p0) (hP : impl_PeriodsOf.f k a = some (Pw, 0)) (hPl : 0 < Pw.length) (hp0 : rd Pw 0 = p0) (hloc : 1 ≤ loc ∧ loc ≤ p0) (hz : 2 ≤ a.size) (hPn : 0 < P.length) (hx0 : rd P 0 = x0) (hx1 : x0 < mx p0 2) (hall : ∀ j : Nat, j < P.length → impl_LocalPeriod.f k a (rd P j) = some (p0, 0)) (hPs : P.length ≤ 1000000) :
    Calls Try.prog 14 #[.slice A0 l0.length cc] w fun e w' => e = .returned (.bool true) ∧ Below w.heap.size w w' := by
  have HR0 := Aside0.mk hr0
  have HB := Aside0.mk (Below.refl w.heap.size w)
  have cG := Aside0.mk (fun W h => laws_big.calls A0 cc l0 false W h hc0 (by unfold laws_big.f; rw [decide_eq_false (by omega)]))
  have cD1 := Aside0.mk (fun W h => spec_DrawCriticalPlaces.calls k A0 cc l0 a W h hc0 hD1)
  have cD2 := Aside0.mk (fun W h => spec_DrawLocalPeriod.calls k A0 cc l0 a i W h hc0 hD2)
  have cD3 := Aside0.mk (fun W h => spec_DrawLongestUnbordered.calls k A0 cc l0 a W h hc0 hD3)
  have cI1 := Aside0.mk (fun W => impl_CriticalPlaces.calls k a P 0 W hI1)
  have cS1 := Aside0.mk (fun W => spec_CriticalPlaces.calls k a P 0 W hS1)
  have cE := Aside0.mk (fun W (A0 : Option Addr) (c0 : Nat) (A1 : Option Addr) (c1 : Nat) h0 h1 h2 h3 => laws_likeInts.calls k A0 c0 P A1 c1 P true W h0 h1 h2 h3 hL)
  have cI2 := Aside0.mk (fun W => impl_LocalPeriod.calls k a i loc 0 W hI2)
  have cS2 := Aside0.mk (fun W => spec_LocalPeriod.calls k a i loc 0 W hS2)
  have cI3 := Aside0.mk (fun W => impl_LongestUnbordered.calls k a lg 0 W hI3)
  have cS3 := Aside0.mk (fun W => spec_LongestUnbordered.calls k a lg 0 W hS3)
  have cB := Aside0.mk (fun W => impl_BordersOf.calls k lg B 0 W hB)
  have cP := Aside0.mk (fun W => impl_PeriodsOf.calls k a Pw 0 W hP)
  have d1 : (a.toList != a.toList) = false := by simp
  have d2 : (lg.toList != lg.toList) = false := by simp
  have d3 : (loc != loc) = false := by simp
  have d4 : ((B.length : Int) != 1) = false := by rw [hB1]; rfl
  have d5 : (B.length != 1) = false := by rw [hB1]; rfl
  have d6 : ((B.length : Int) == 1) = true := by rw [hB1]; rfl
  have d7 : (B.length == 1) = true := by rw [hB1]; rfl
  have d8 : decide ((lg.size : Int) < 1) = false := decide_eq_false (by omega)
  have d9 : decide (lg.size < 1) = false := decide_eq_false (by omega)
  have d10 : decide (lg.size = 0) = false := decide_eq_false (by omega)
  have d11 : decide (p0 < (lg.size : Int)) = false := decide_eq_false (by omega)
  have d12 : decide (loc < 1) = false := decide_eq_false (by omega)
  have d13 : decide (p0 < loc) = false := decide_eq_false (by omega)
  have d14 : decide ((a.size : Int) < 2) = false := decide_eq_false (by omega)
  have d15 : decide (a.size < 2) = false := decide_eq_false (by omega)
  have d16 : ((P.length : Int) == 0) = false := beq_eq_false_iff_ne.mpr (by omega)
  have d17 : (P.length == 0) = false := beq_eq_false_iff_ne.mpr (by omega)
  obtain ⟨m0, hm0⟩ : ∃ m0 : Int, mx p0 2 = m0 := ⟨_, rfl⟩
  rw [hm0] at hx1
  have d18 : decide (m0 ≤ x0) = false := decide_eq_false (by omega)
  have d19 : (if p0 < 2 then 2 else p0) = m0 := hm0
  have d20 : (0 < P.length) = True := eq_true hPn
  have d21 : ((0 : Int) < (P.length : Int)) = True := eq_true (by omega)
  have d22 : (p0 != p0) = false := by simp
  have d23 : (0 < Pw.length) = True := eq_true hPl
  have d24 : ((0 : Int) < (Pw.length : Int)) = True := eq_true (by omega)
  have d25 : ((0 : Int) != 0) = false := rfl
  have d26 : ((0 : Int) == 0) = true := rfl
  replace hPl := Aside0.mk hPl
  replace hp0 := Aside0.mk hp0
  replace hPn := Aside0.mk hPn
  replace hx0 := Aside0.mk hx0
  replace hall := Aside0.mk hall
  replace hPs := Aside0.mk hPs
  clear hr0 hc0 hbig hD1 hI1 hS1 hL hD2 hI2 hS2 hD3 hI3 hS3 hB hB1 hlg hP hloc hz hx1
  have tI2 := Aside0.mk (show True from trivial)
  have tP0 := Aside0.mk (show True from trivial)
  have tP1 := Aside0.mk (show True from trivial)
  go_enter Try.func14, Try.ntmps14
  go_wp2_with (first
    | (go_at_call 43; refine (cG.out _ (Kd.C_below HR0.out HB.out)).mono ?_; rintro e wg ⟨rfl, hd⟩; have hb := hd.below; have nb_ := Aside0.mk (below_then HB.out HB.out.size hb); clear HB; have HB := nb_; clear nb_; clear hb; clear hd)
    | (go_at_call 44; refine (cD1.out _ (Kd.C_below HR0.out HB.out)).mono ?_; rintro e wd1 ⟨rfl, hb⟩; have nb_ := Aside0.mk (below_then HB.out HB.out.size hb); clear HB; have HB := nb_; clear nb_; clear hb)
    | (go_at_call 45; refine (cI1.out _).mono ?_; rintro e wi1 ⟨vi1, rfl, ho, hb⟩; obtain ⟨A1, e1, rfl⟩ := Kd.R_slice ho; have HP := Aside0.mk ho; have nb_ := Aside0.mk (below_then HB.out HB.out.size hb); clear HB; have HB := nb_; clear nb_; clear hb; clear ho)
    | (go_at_call 46; refine (cS1.out _).mono ?_; rintro e ws1 ⟨vs1, rfl, ho, hb⟩; obtain ⟨A2, e2, rfl⟩ := Kd.R_slice ho; have HS := Aside0.mk ho; have n_HP := Aside0.mk (Kd.R_below HP.out hb); clear HP; have HP := n_HP; clear n_HP; have nb_ := Aside0.mk (below_then HB.out HB.out.size hb); clear HB; have HB := nb_; clear nb_; clear hb; clear ho)
    | (go_at_call 47; refine (cE.out _ _ _ _ _ (Kd.R_reads' HP.out).2.2 (Kd.R_reads' HP.out).2.1 (Kd.R_reads' HS.out).2.2 (Kd.R_reads' HS.out).2.1).mono ?_; rintro e we ⟨rfl, hd⟩; have hb := hd.below; have n_HP := Aside0.mk (Kd.R_below HP.out hb); clear HP; have HP := n_HP; clear n_HP; clear HS; have nb_ := Aside0.mk (below_then HB.out HB.out.size hb); clear HB; have HB := nb_; clear nb_; clear hb; clear hd)
    | (go_at_call 48; refine (cD2.out _ (Kd.C_below HR0.out HB.out)).mono ?_; rintro e wd2 ⟨rfl, hb⟩; have n_HP := Aside0.mk (Kd.R_below HP.out hb); clear HP; have HP := n_HP; clear n_HP; have nb_ := Aside0.mk (below_then HB.out HB.out.size hb); clear HB; have HB := nb_; clear nb_; clear hb)
    | (go_at_call 49; have t_ := tI2.out; clear tI2 t_; refine (cI2.out _).mono ?_; rintro e wi2 ⟨rfl, hb⟩; have n_HP := Aside0.mk (Kd.R_below HP.out hb); clear HP; have HP := n_HP; clear n_HP; have nb_ := Aside0.mk (below_then HB.out HB.out.size hb); clear HB; have HB := nb_; clear nb_; clear hb)
    | (go_at_call 50; refine (cS2.out _).mono ?_; rintro e ws2 ⟨rfl, hb⟩; have n_HP := Aside0.mk (Kd.R_below HP.out hb); clear HP; have HP := n_HP; clear n_HP; have nb_ := Aside0.mk (below_then HB.out HB.out.size hb); clear HB; have HB := nb_; clear nb_; clear hb)
    | (go_at_call 51; refine (cD3.out _ (Kd.C_below HR0.out HB.out)).mono ?_; rintro e wd3 ⟨rfl, hb⟩; have n_HP := Aside0.mk (Kd.R_below HP.out hb); clear HP; have HP := n_HP; clear n_HP; have nb_ := Aside0.mk (below_then HB.out HB.out.size hb); clear HB; have HB := nb_; clear nb_; clear hb)
    | (go_at_call 52; refine (cI3.out _).mono ?_; rintro e wi3 ⟨rfl, hb⟩; have n_HP := Aside0.mk (Kd.R_below HP.out hb); clear HP; have HP := n_HP; clear n_HP; have nb_ := Aside0.mk (below_then HB.out HB.out.size hb); clear HB; have HB := nb_; clear nb_; clear hb)
    | (go_at_call 53; refine (cS3.out _).mono ?_; rintro e ws3 ⟨rfl, hb⟩; have n_HP := Aside0.mk (Kd.R_below HP.out hb); clear HP; have HP := n_HP; clear n_HP; have nb_ := Aside0.mk (below_then HB.out HB.out.size hb); clear HB; have HB := nb_; clear nb_; clear hb)
    | (go_at_call 54; refine (cB.out _).mono ?_; rintro e wb ⟨vb, rfl, ho, hb⟩; obtain ⟨A3, e3, rfl⟩ := Kd.R_slice ho; have HBo := Aside0.mk ho; have n_HP := Aside0.mk (Kd.R_below HP.out hb); clear HP; have HP := n_HP; clear n_HP; have nb_ := Aside0.mk (below_then HB.out HB.out.size hb); clear HB; have HB := nb_; clear nb_; clear hb; clear ho)
    | (go_at_call 55; have t_ := tP0.out; clear tP0 t_; refine (cP.out _).mono ?_; rintro e wp0 ⟨vp0, rfl, ho, hb⟩; obtain ⟨Ap0, ep0, rfl⟩ := Kd.R_slice ho; have n_HP := Aside0.mk (Kd.R_below HP.out hb); clear HP; have HP := n_HP; clear n_HP; obtain ⟨ad0, rfl, hcell0⟩ := Kd.at_int (Kd.R_reads' ho).2.2 0 (by omega) (by have := hPl.out; omega); rw [show ((0 : Int)).toNat = 0 from rfl, Addr.add_zero', hp0.out] at hcell0; have nb_ := Aside0.mk (below_then HB.out HB.out.size hb); clear HB; have HB := nb_; clear nb_; clear hb; clear ho)
    | (go_at_call 55; have t_ := tP1.out; clear tP1 t_; refine (cP.out _).mono ?_; rintro e wp1 ⟨vp1, rfl, ho, hb⟩; obtain ⟨Ap1, ep1, rfl⟩ := Kd.R_slice ho; have n_HP := Aside0.mk (Kd.R_below HP.out hb); clear HP; have HP := n_HP; clear n_HP; obtain ⟨ad1, rfl, hcell1⟩ := Kd.at_int (Kd.R_reads' ho).2.2 0 (by omega) (by have := hPl.out; omega); rw [show ((0 : Int)).toNat = 0 from rfl, Addr.add_zero', hp0.out] at hcell1; have nb_ := Aside0.mk (below_then HB.out HB.out.size hb); clear HB; have HB := nb_; clear nb_; clear hb; clear ho)
    | (go_at_call 55; refine (cP.out _).mono ?_; rintro e wp2 ⟨vp2, rfl, ho, hb⟩; obtain ⟨Ap2, ep2, rfl⟩ := Kd.R_slice ho; have n_HP := Aside0.mk (Kd.R_below HP.out hb); clear HP; have HP := n_HP; clear n_HP; have HQ := Aside0.mk ho; obtain ⟨ad2, rfl, hcell2⟩ := Kd.at_int (Kd.R_reads' ho).2.2 0 (by omega) (by have := hPl.out; omega); rw [show ((0 : Int)).toNat = 0 from rfl, Addr.add_zero', hp0.out] at hcell2; obtain ⟨ae, rfl, hcellP⟩ := Kd.at_int (Kd.R_reads' HP.out).2.2 0 (by omega) (by have := hPn.out; omega); rw [show ((0 : Int)).toNat = 0 from rfl, Addr.add_zero', hx0.out] at hcellP; have nb_ := Aside0.mk (below_then HB.out HB.out.size hb); clear HB; have HB := nb_; clear nb_; clear hb; clear ho))
  repeat (go_quiet (fail); try go_wp2)
  go_loopg [27] P.length (fun gg v27 wr => ∃ kk : Nat, kk ≤ P.length ∧ P.length - kk ≤ gg ∧ v27 = .int .i64 kk ∧ Aside0 (Kd.R (Kd.int .i64) 2 wr wd1.heap.size (fun _ => True) (.slice (some ae) P.length e1) P) ∧ Aside0 (Kd.R (Kd.int .i64) 2 wr wp1.heap.size (fun _ => True) (.slice (some ad2) Pw.length ep2) Pw) ∧ Aside0 (Below w.heap.size w wr))
  case atStart => exact ⟨0, Nat.zero_le _, by omega, rfl, ⟨by (with_reducible repeat (first | apply Kd.R_alloc | apply Kd.R_drewN | apply Kd.R_drew)); exact HP.out⟩, ⟨by (with_reducible repeat (first | apply Kd.R_alloc | apply Kd.R_drewN | apply Kd.R_drew)); exact HQ.out⟩, ⟨by repeat (first | (with_reducible first | exact HB.out | apply below_alloc | apply pw_below_drewN | apply below_drew1) | exact HB.out)⟩⟩
  case round =>
    clear HP HQ HB hcell0 hcell1 hcell2 hcellP
    obtain ⟨kk, hkk, hgg, rfl, HP, HQ, HB⟩ := hrel
    have hPs2 := hPs.out
    by_cases hlt : kk < P.length
    · have hltz : (kk : Int) < (P.length : Int) := by omega
      have b1 := decide_eq_true hltz
      have b2 := eq_true (show (0 : Int) ≤ (kk : Int) by omega)
      have b3 := eq_true hltz
      have b4 := eq_true hlt
      obtain ⟨ad, ead, hcell⟩ := Kd.at_int (Kd.R_reads' HP.out).2.2 (kk : Int) (by omega) hltz
      cases ead
      rw [Int.toNat_natCast] at hcell
      have cL := Aside0.mk (fun W => impl_LocalPeriod.calls k a (rd P kk) p0 0 W (hall.out kk hlt))
      have hw5 := Aside0.mk (show wrap64 ((kk : Int) + 1) = ((kk + 1 : Nat) : Int) by rw [w64 (by omega) (by omega)]; rfl)
      obtain ⟨x, hx⟩ : ∃ x, x = rd P (kk : Int) := ⟨_, rfl⟩
      rw [← hx] at hcell cL
      clear hx
      go_wp2_with (go_at_call 49; refine (cL.out _).mono ?_; rintro e w5 ⟨rfl, hb⟩; have HP2 := Aside0.mk (Kd.R_below HP.out hb); have HQ2 := Aside0.mk (Kd.R_below HQ.out hb); have HB2 := Aside0.mk (below_then HB.out HB.out.size hb); obtain ⟨ad2, ead2, hcell2⟩ := Kd.at_int (Kd.R_reads' HQ2.out).2.2 0 (by omega) (by have := hPl.out; omega); cases ead2; rw [show ((0 : Int)).toNat = 0 from rfl, Addr.add_zero', hp0.out] at hcell2; clear hb)
      go_roundg (P.length - (kk + 1))
      case measure => omega
      case rel => exact ⟨kk + 1, by omega, by omega, by first | rfl | rw [hw5.out], HP2, HQ2, HB2⟩
    · have hltz : ¬ (kk : Int) < (P.length : Int) := by omega
      have b1 := decide_eq_false hltz
      go_wp2
      go_ret
      exact ⟨rfl, HB.out⟩
set_option maxHeartbeats 16000000 in
set_option maxRecDepth 100000 in
theorem laws_FnCritical.pathE (k : Nat) (A0 : Option Addr) (cc : Nat) (l0 : List Int) (a lg : ByteArray) (i loc p0 x0 c1 c2 c3 : Int) (P B Pw : List Int) (w : World) (hr0 : Kd.C (Kd.int .u8) w A0 l0.length l0) (hc0 : l0.length ≤ cc) (hbig : l0.length ≤ 4096) (hD1 : spec_DrawCriticalPlaces.f k l0 = some a) (hI1 : impl_CriticalPlaces.f k a = some (P, 0)) (hS1 : spec_CriticalPlaces.f k a = some (P, 0)) (hL : laws_likeInts.f k P P = some true) (hD2 : spec_DrawLocalPeriod.f k l0 = some (a, i)) (hI2 : impl_LocalPeriod.f k a i = some (loc, c2)) (hS2 : spec_LocalPeriod.f k a i = some (loc, c2)) (hD3 : spec_DrawLongestUnbordered.f k l0 = some a) (hI3 : impl_LongestUnbordered.f k a = some (lg, 0)) (hS3 : spec_LongestUnbordered.f k a = some (lg, 0)) (hc2 : c2 ≠ 0) (hB : impl_BordersOf.f k lg = some (B, 0)) (hB1 : B.length = 1) (hlg : 1 ≤ lg.size ∧ (lg.size : Int) ≤ p0) (hP : impl_PeriodsOf.f k a = some (Pw, 0)) (hPl : 0 < Pw.length) (hp0 : rd Pw 0 = p0) (hz : 2 ≤ a.size) (hPn : 0 < P.length) (hx0 : rd P 0 = x0) (hx1 : x0 < mx p0 2) (hall : ∀ j : Nat, j < P.length → impl_LocalPeriod.f k a (rd P j) = some (p0, 0)) (hPs : P.length ≤ 1000000) :
    Calls Try.prog 14 #[.slice A0 l0.length cc] w fun e w' => e = .returned (.bool true) ∧ Below w.heap.size w w' := by
  have HR0 := Aside0.mk hr0
  have HB := Aside0.mk (Below.refl w.heap.size w)
  have cG := Aside0.mk (fun W h => laws_big.calls A0 cc l0 false W h hc0 (by unfold laws_big.f; rw [decide_eq_false (by omega)]))
  have cD1 := Aside0.mk (fun W h => spec_DrawCriticalPlaces.calls k A0 cc l0 a W h hc0 hD1)
  have cD2 := Aside0.mk (fun W h => spec_DrawLocalPeriod.calls k A0 cc l0 a i W h hc0 hD2)
  have cD3 := Aside0.mk (fun W h => spec_DrawLongestUnbordered.calls k A0 cc l0 a W h hc0 hD3)
  have cI1 := Aside0.mk (fun W => impl_CriticalPlaces.calls k a P 0 W hI1)
  have cS1 := Aside0.mk (fun W => spec_CriticalPlaces.calls k a P 0 W hS1)
  have cE := Aside0.mk (fun W (A0 : Option Addr) (c0 : Nat) (A1 : Option Addr) (c1 : Nat) h0 h1 h2 h3 => laws_likeInts.calls k A0 c0 P A1 c1 P true W h0 h1 h2 h3 hL)
  have cI2 := Aside0.mk (fun W => impl_LocalPeriod.calls k a i loc c2 W hI2)
  have cS2 := Aside0.mk (fun W => spec_LocalPeriod.calls k a i loc c2 W hS2)
  have cI3 := Aside0.mk (fun W => impl_LongestUnbordered.calls k a lg 0 W hI3)
  have cS3 := Aside0.mk (fun W => spec_LongestUnbordered.calls k a lg 0 W hS3)
  have cB := Aside0.mk (fun W => impl_BordersOf.calls k lg B 0 W hB)
  have cP := Aside0.mk (fun W => impl_PeriodsOf.calls k a Pw 0 W hP)
  have d1 : (a.toList != a.toList) = false := by simp
  have d2 : (lg.toList != lg.toList) = false := by simp
  have d3 : (loc != loc) = false := by simp
  have d4 : (c2 == 0) = false := beq_eq_false_iff_ne.mpr hc2
  have d5 : (c2 != 0) = true := bne_iff_ne.mpr hc2
  have d6 : (c2 != c2) = false := by simp
  have d7 : ((B.length : Int) != 1) = false := by rw [hB1]; rfl
  have d8 : (B.length != 1) = false := by rw [hB1]; rfl
  have d9 : ((B.length : Int) == 1) = true := by rw [hB1]; rfl
  have d10 : (B.length == 1) = true := by rw [hB1]; rfl
  have d11 : decide ((lg.size : Int) < 1) = false := decide_eq_false (by omega)
  have d12 : decide (lg.size < 1) = false := decide_eq_false (by omega)
  have d13 : decide (lg.size = 0) = false := decide_eq_false (by omega)
  have d14 : decide (p0 < (lg.size : Int)) = false := decide_eq_false (by omega)
  have d15 : decide ((a.size : Int) < 2) = false := decide_eq_false (by omega)
  have d16 : decide (a.size < 2) = false := decide_eq_false (by omega)
  have d17 : ((P.length : Int) == 0) = false := beq_eq_false_iff_ne.mpr (by omega)
  have d18 : (P.length == 0) = false := beq_eq_false_iff_ne.mpr (by omega)
  obtain ⟨m0, hm0⟩ : ∃ m0 : Int, mx p0 2 = m0 := ⟨_, rfl⟩
  rw [hm0] at hx1
  have d19 : decide (m0 ≤ x0) = false := decide_eq_false (by omega)
  have d20 : (if p0 < 2 then 2 else p0) = m0 := hm0
  have d21 : (0 < P.length) = True := eq_true hPn
  have d22 : ((0 : Int) < (P.length : Int)) = True := eq_true (by omega)
  have d23 : (p0 != p0) = false := by simp
  have d24 : (0 < Pw.length) = True := eq_true hPl
  have d25 : ((0 : Int) < (Pw.length : Int)) = True := eq_true (by omega)
  have d26 : ((0 : Int) != 0) = false := rfl
  have d27 : ((0 : Int) == 0) = true := rfl
  replace hPl := Aside0.mk hPl
  replace hp0 := Aside0.mk hp0
  replace hPn := Aside0.mk hPn
  replace hx0 := Aside0.mk hx0
  replace hall := Aside0.mk hall
  replace hPs := Aside0.mk hPs
  clear hr0 hc0 hbig hD1 hI1 hS1 hL hD2 hI2 hS2 hD3 hI3 hS3 hc2 hB hB1 hlg hP hz hx1
  have tI2 := Aside0.mk (show True from trivial)
  have tP0 := Aside0.mk (show True from trivial)
  go_enter Try.func14, Try.ntmps14
  go_wp2_with (first
    | (go_at_call 43; refine (cG.out _ (Kd.C_below HR0.out HB.out)).mono ?_; rintro e wg ⟨rfl, hd⟩; have hb := hd.below; have nb_ := Aside0.mk (below_then HB.out HB.out.size hb); clear HB; have HB := nb_; clear nb_; clear hb; clear hd)
    | (go_at_call 44; refine (cD1.out _ (Kd.C_below HR0.out HB.out)).mono ?_; rintro e wd1 ⟨rfl, hb⟩; have nb_ := Aside0.mk (below_then HB.out HB.out.size hb); clear HB; have HB := nb_; clear nb_; clear hb)
    | (go_at_call 45; refine (cI1.out _).mono ?_; rintro e wi1 ⟨vi1, rfl, ho, hb⟩; obtain ⟨A1, e1, rfl⟩ := Kd.R_slice ho; have HP := Aside0.mk ho; have nb_ := Aside0.mk (below_then HB.out HB.out.size hb); clear HB; have HB := nb_; clear nb_; clear hb; clear ho)
    | (go_at_call 46; refine (cS1.out _).mono ?_; rintro e ws1 ⟨vs1, rfl, ho, hb⟩; obtain ⟨A2, e2, rfl⟩ := Kd.R_slice ho; have HS := Aside0.mk ho; have n_HP := Aside0.mk (Kd.R_below HP.out hb); clear HP; have HP := n_HP; clear n_HP; have nb_ := Aside0.mk (below_then HB.out HB.out.size hb); clear HB; have HB := nb_; clear nb_; clear hb; clear ho)
    | (go_at_call 47; refine (cE.out _ _ _ _ _ (Kd.R_reads' HP.out).2.2 (Kd.R_reads' HP.out).2.1 (Kd.R_reads' HS.out).2.2 (Kd.R_reads' HS.out).2.1).mono ?_; rintro e we ⟨rfl, hd⟩; have hb := hd.below; have n_HP := Aside0.mk (Kd.R_below HP.out hb); clear HP; have HP := n_HP; clear n_HP; clear HS; have nb_ := Aside0.mk (below_then HB.out HB.out.size hb); clear HB; have HB := nb_; clear nb_; clear hb; clear hd)
    | (go_at_call 48; refine (cD2.out _ (Kd.C_below HR0.out HB.out)).mono ?_; rintro e wd2 ⟨rfl, hb⟩; have n_HP := Aside0.mk (Kd.R_below HP.out hb); clear HP; have HP := n_HP; clear n_HP; have nb_ := Aside0.mk (below_then HB.out HB.out.size hb); clear HB; have HB := nb_; clear nb_; clear hb)
    | (go_at_call 49; have t_ := tI2.out; clear tI2 t_; refine (cI2.out _).mono ?_; rintro e wi2 ⟨rfl, hb⟩; have n_HP := Aside0.mk (Kd.R_below HP.out hb); clear HP; have HP := n_HP; clear n_HP; have nb_ := Aside0.mk (below_then HB.out HB.out.size hb); clear HB; have HB := nb_; clear nb_; clear hb)
    | (go_at_call 50; refine (cS2.out _).mono ?_; rintro e ws2 ⟨rfl, hb⟩; have n_HP := Aside0.mk (Kd.R_below HP.out hb); clear HP; have HP := n_HP; clear n_HP; have nb_ := Aside0.mk (below_then HB.out HB.out.size hb); clear HB; have HB := nb_; clear nb_; clear hb)
    | (go_at_call 51; refine (cD3.out _ (Kd.C_below HR0.out HB.out)).mono ?_; rintro e wd3 ⟨rfl, hb⟩; have n_HP := Aside0.mk (Kd.R_below HP.out hb); clear HP; have HP := n_HP; clear n_HP; have nb_ := Aside0.mk (below_then HB.out HB.out.size hb); clear HB; have HB := nb_; clear nb_; clear hb)
    | (go_at_call 52; refine (cI3.out _).mono ?_; rintro e wi3 ⟨rfl, hb⟩; have n_HP := Aside0.mk (Kd.R_below HP.out hb); clear HP; have HP := n_HP; clear n_HP; have nb_ := Aside0.mk (below_then HB.out HB.out.size hb); clear HB; have HB := nb_; clear nb_; clear hb)
    | (go_at_call 53; refine (cS3.out _).mono ?_; rintro e ws3 ⟨rfl, hb⟩; have n_HP := Aside0.mk (Kd.R_below HP.out hb); clear HP; have HP := n_HP; clear n_HP; have nb_ := Aside0.mk (below_then HB.out HB.out.size hb); clear HB; have HB := nb_; clear nb_; clear hb)
    | (go_at_call 54; refine (cB.out _).mono ?_; rintro e wb ⟨vb, rfl, ho, hb⟩; obtain ⟨A3, e3, rfl⟩ := Kd.R_slice ho; have HBo := Aside0.mk ho; have n_HP := Aside0.mk (Kd.R_below HP.out hb); clear HP; have HP := n_HP; clear n_HP; have nb_ := Aside0.mk (below_then HB.out HB.out.size hb); clear HB; have HB := nb_; clear nb_; clear hb; clear ho)
    | (go_at_call 55; have t_ := tP0.out; clear tP0 t_; refine (cP.out _).mono ?_; rintro e wp0 ⟨vp0, rfl, ho, hb⟩; obtain ⟨Ap0, ep0, rfl⟩ := Kd.R_slice ho; have n_HP := Aside0.mk (Kd.R_below HP.out hb); clear HP; have HP := n_HP; clear n_HP; obtain ⟨ad0, rfl, hcell0⟩ := Kd.at_int (Kd.R_reads' ho).2.2 0 (by omega) (by have := hPl.out; omega); rw [show ((0 : Int)).toNat = 0 from rfl, Addr.add_zero', hp0.out] at hcell0; have nb_ := Aside0.mk (below_then HB.out HB.out.size hb); clear HB; have HB := nb_; clear nb_; clear hb; clear ho)
    | (go_at_call 55; refine (cP.out _).mono ?_; rintro e wp1 ⟨vp1, rfl, ho, hb⟩; obtain ⟨Ap1, ep1, rfl⟩ := Kd.R_slice ho; have n_HP := Aside0.mk (Kd.R_below HP.out hb); clear HP; have HP := n_HP; clear n_HP; have HQ := Aside0.mk ho; obtain ⟨ad1, rfl, hcell1⟩ := Kd.at_int (Kd.R_reads' ho).2.2 0 (by omega) (by have := hPl.out; omega); rw [show ((0 : Int)).toNat = 0 from rfl, Addr.add_zero', hp0.out] at hcell1; obtain ⟨ae, rfl, hcellP⟩ := Kd.at_int (Kd.R_reads' HP.out).2.2 0 (by omega) (by have := hPn.out; omega); rw [show ((0 : Int)).toNat = 0 from rfl, Addr.add_zero', hx0.out] at hcellP; have nb_ := Aside0.mk (below_then HB.out HB.out.size hb); clear HB; have HB := nb_; clear nb_; clear hb; clear ho))
  repeat (go_quiet (fail); try go_wp2)
  go_loopg [27] P.length (fun gg v27 wr => ∃ kk : Nat, kk ≤ P.length ∧ P.length - kk ≤ gg ∧ v27 = .int .i64 kk ∧ Aside0 (Kd.R (Kd.int .i64) 2 wr wd1.heap.size (fun _ => True) (.slice (some ae) P.length e1) P) ∧ Aside0 (Kd.R (Kd.int .i64) 2 wr wp0.heap.size (fun _ => True) (.slice (some ad1) Pw.length ep1) Pw) ∧ Aside0 (Below w.heap.size w wr))
  case atStart => exact ⟨0, Nat.zero_le _, by omega, rfl, ⟨by (with_reducible repeat (first | apply Kd.R_alloc | apply Kd.R_drewN | apply Kd.R_drew)); exact HP.out⟩, ⟨by (with_reducible repeat (first | apply Kd.R_alloc | apply Kd.R_drewN | apply Kd.R_drew)); exact HQ.out⟩, ⟨by repeat (first | (with_reducible first | exact HB.out | apply below_alloc | apply pw_below_drewN | apply below_drew1) | exact HB.out)⟩⟩
  case round =>
    clear HP HQ HB hcell0 hcell1 hcellP
    obtain ⟨kk, hkk, hgg, rfl, HP, HQ, HB⟩ := hrel
    have hPs2 := hPs.out
    by_cases hlt : kk < P.length
    · have hltz : (kk : Int) < (P.length : Int) := by omega
      have b1 := decide_eq_true hltz
      have b2 := eq_true (show (0 : Int) ≤ (kk : Int) by omega)
      have b3 := eq_true hltz
      have b4 := eq_true hlt
      obtain ⟨ad, ead, hcell⟩ := Kd.at_int (Kd.R_reads' HP.out).2.2 (kk : Int) (by omega) hltz
      cases ead
      rw [Int.toNat_natCast] at hcell
      have cL := Aside0.mk (fun W => impl_LocalPeriod.calls k a (rd P kk) p0 0 W (hall.out kk hlt))
      have hw5 := Aside0.mk (show wrap64 ((kk : Int) + 1) = ((kk + 1 : Nat) : Int) by rw [w64 (by omega) (by omega)]; rfl)
      obtain ⟨x, hx⟩ : ∃ x, x = rd P (kk : Int) := ⟨_, rfl⟩
      rw [← hx] at hcell cL
      clear hx
      go_wp2_with (go_at_call 49; refine (cL.out _).mono ?_; rintro e w5 ⟨rfl, hb⟩; have HP2 := Aside0.mk (Kd.R_below HP.out hb); have HQ2 := Aside0.mk (Kd.R_below HQ.out hb); have HB2 := Aside0.mk (below_then HB.out HB.out.size hb); obtain ⟨ad2, ead2, hcell2⟩ := Kd.at_int (Kd.R_reads' HQ2.out).2.2 0 (by omega) (by have := hPl.out; omega); cases ead2; rw [show ((0 : Int)).toNat = 0 from rfl, Addr.add_zero', hp0.out] at hcell2; clear hb)
      go_roundg (P.length - (kk + 1))
      case measure => omega
      case rel => exact ⟨kk + 1, by omega, by omega, by first | rfl | rw [hw5.out], HP2, HQ2, HB2⟩
    · have hltz : ¬ (kk : Int) < (P.length : Int) := by omega
      have b1 := decide_eq_false hltz
      go_wp2
      go_ret
      exact ⟨rfl, HB.out⟩
set_option maxHeartbeats 2000000 in
set_option maxRecDepth 100000 in
theorem laws_FnCritical.long (A0 : Option Addr) (cc : Nat) (l0 : List Int) (w : World) (hr0 : Kd.C (Kd.int .u8) w A0 l0.length l0) (hc0 : l0.length ≤ cc) (hbig : l0.length > 4096) :
    Calls Try.prog 14 #[.slice A0 l0.length cc] w fun e w' => e = .returned (.bool true) ∧ Below w.heap.size w w' := by
  have cG := Aside0.mk (fun W h => laws_big.calls A0 cc l0 true W h hc0 (by unfold laws_big.f; rw [decide_eq_true (by omega)]))
  have HR0 := Aside0.mk hr0
  clear hr0 hc0 hbig
  go_enter Try.func14, Try.ntmps14
  go_wp2_with (go_at_call 43; refine (cG.out _ HR0.out).mono ?_; rintro e wg ⟨rfl, hd⟩; have HB := Aside0.mk hd.below; clear hd)
  go_ret
  exact ⟨rfl, HB.out⟩
def laws_FnCritical.Pure : Prop := ∀ (l0 : List Int), l0.length ≤ maxLen → l0.length * 1 ≤ 140737488351232 → (∀ x ∈ l0, (Lit.int .u8 x).wf = true) → l0.length > 4096 ∨ (l0.length ≤ 4096 ∧ ∃ (k : Nat) (a lg : ByteArray) (i loc p0 x0 c1 c2 c3 : Int) (P B Pw : List Int),
  spec_DrawCriticalPlaces.f k l0 = some a ∧ impl_CriticalPlaces.f k a = some (P, c1) ∧ spec_CriticalPlaces.f k a = some (P, c1) ∧ laws_likeInts.f k P P = some true ∧ spec_DrawLocalPeriod.f k l0 = some (a, i) ∧ impl_LocalPeriod.f k a i = some (loc, c2) ∧ spec_LocalPeriod.f k a i = some (loc, c2) ∧ spec_DrawLongestUnbordered.f k l0 = some a ∧ impl_LongestUnbordered.f k a = some (lg, c3) ∧ spec_LongestUnbordered.f k a = some (lg, c3) ∧
  ((c1 ≠ 0 ∧ c2 ≠ 0 ∧ c3 ≠ 0 ∧ P.length = 0) ∨ (c1 = 0 ∧ c2 ≠ 0 ∧ c3 ≠ 0 ∧ P.length = 0 ∧ a.size < 2) ∨
   (c1 = 0 ∧ c3 = 0 ∧ impl_BordersOf.f k lg = some (B, 0) ∧ B.length = 1 ∧ (1 ≤ lg.size ∧ (lg.size : Int) ≤ p0) ∧ impl_PeriodsOf.f k a = some (Pw, 0) ∧ 0 < Pw.length ∧ rd Pw 0 = p0 ∧
    ((c2 ≠ 0 ∧ P.length = 0 ∧ a.size < 2) ∨ (2 ≤ a.size ∧ 0 < P.length ∧ rd P 0 = x0 ∧ x0 < mx p0 2 ∧ (∀ j : Nat, j < P.length → impl_LocalPeriod.f k a (rd P j) = some (p0, 0)) ∧ P.length ≤ 1000000 ∧ (c2 ≠ 0 ∨ (c2 = 0 ∧ 1 ≤ loc ∧ loc ≤ p0)))))))
theorem laws_FnCritical.walk (P : laws_FnCritical.Pure) (a0 : Option Addr) (len0 cap0 : Nat) (z0 : List Int) (w : World) (w0 : (a0 = none ∧ len0 = 0 ∧ cap0 = 0 ∧ z0 = []) ∨ ∃ x, a0 = some x ∧ len0 ≤ cap0 ∧ cap0 ≤ maxLen ∧ z0.length = cap0 ∧ (∀ i, i < z0.length → w.cell? (x.add i) = some (.int .u8 (z0.getD i 0))) ∧ ∀ n ∈ z0, (Lit.int .u8 n).wf = true) (y0 : len0 * 1 ≤ 140737488351232) :
    Calls Try.prog 14 #[.slice a0 len0 cap0] w fun e w' => e = .returned (.bool true) ∧ Below w.heap.size w w' := by
  obtain ⟨l0, rfl, hr0, hm0, hw0, hc0⟩ := ReadsInt.ofRowC w0
  have hr := Kd.C_of_reads (d := (0 : Int)) (h1 := fun _ => rfl) hr0
  rcases P l0 hm0 y0 hw0 with h | ⟨hb, k, a, lg, i, loc, p0, x0, c1, c2, c3, P, B, Pw, h1, h2, h3, h4, h5, h6, h7, h8, h9, h10, h⟩
  · exact laws_FnCritical.long _ _ l0 w hr hc0 h
  · rcases h with ⟨g1, g2, g3, g4⟩ | ⟨rfl, g2, g3, g4, g5⟩ | ⟨rfl, rfl, b1, b2, b3, b4, b5, b6, h⟩
    · exact laws_FnCritical.pathA k _ _ l0 a lg i loc p0 x0 c1 c2 c3 P B Pw w hr hc0 hb h1 h2 h3 h4 h5 h6 h7 h8 h9 h10 g1 g2 g3 g4
    · exact laws_FnCritical.pathB k _ _ l0 a lg i loc p0 x0 0 c2 c3 P B Pw w hr hc0 hb h1 h2 h3 h4 h5 h6 h7 h8 h9 h10 g2 g3 g4 g5
    · rcases h with ⟨g1, g2, g3⟩ | ⟨e1, e2, e3, e4, e5, e6, h⟩
      · exact laws_FnCritical.pathC k _ _ l0 a lg i loc p0 x0 0 c2 0 P B Pw w hr hc0 hb h1 h2 h3 h4 h5 h6 h7 h8 h9 h10 g1 b1 b2 b3 b4 b5 b6 g2 g3
      · rcases h with g | ⟨rfl, g⟩
        · exact laws_FnCritical.pathE k _ _ l0 a lg i loc p0 x0 0 c2 0 P B Pw w hr hc0 hb h1 h2 h3 h4 h5 h6 h7 h8 h9 h10 g b1 b2 b3 b4 b5 b6 e1 e2 e3 e4 e5 e6
        · exact laws_FnCritical.pathD k _ _ l0 a lg i loc p0 x0 0 0 0 P B Pw w hr hc0 hb h1 h2 h3 h4 h5 h6 h7 h8 h9 h10 b1 b2 b3 b4 b5 b6 g e1 e2 e3 e4 e5 e6


end Go.Proofs.Ytmihfmhfgjnfcaa.Q
