-- Printed texts of this session, joined by merge.py.
import Derived.Test.YteakipdmpjlhiabGreatQx0
import Derived.Test.YteakipdmpjlhiabGreatMxFnRepeats1
import Derived.Test.YteakipdmpjlhiabGreatMxFnRepeats0
namespace Go.Proofs.YteakipdmpjlhiabGreat.Q
open Go.RowKit Go.Proofs.YteakipdmpjlhiabGreatW.PrintWords Go.Proofs.YteakipdmpjlhiabGreatW.PrintLast Go.Proofs.YteakipdmpjlhiabGreatW.PrintMore
attribute [local go_sem] max2_int min2_int max_two min_two max_three min_three max_four min_four bn_leq bn_gtr bn_geq   -- for this text's walks alone
set_option linter.unusedVariables false
set_option linter.unusedSimpArgs false

/-! ### spec_l03Runs: function 32 -/
mutual
def spec_l03Runs.l0 : Nat → ByteArray → List (S46) → Int → Int → Option ((List (S46)))
 | 0, _, _, _, _ => none
 | k + 1, x0, x3, x4, x5 => if x5 < x4 then (spec_l03Runs.l1 k x0 x3 x4 x5 (wrap64 (x5 + 2))) else (some x3)
def spec_l03Runs.l1 : Nat → ByteArray → List (S46) → Int → Int → Int → Option ((List (S46)))
 | 0, _, _, _, _, _ => none
 | k + 1, x0, x3, x4, x5, x6 => if x6 ≤ x4 then ((spec_l03Period.f k x0 x5 x6).bind fun t338 => (if (wrap64 (x6 - x5)) < (wrap64 (2 * t338)) then (spec_l03Runs.l1 k x0 x3 x4 x5 (wrap64 (x6 + 1))) else (if x5 > 0 then (if 0 ≤ (wrap64 (x5 - 1)) then (if (wrap64 (x5 - 1)) < (x0.size : Int) then (if 0 ≤ (wrap64 ((wrap64 (x5 - 1)) + t338)) then (if (wrap64 ((wrap64 (x5 - 1)) + t338)) < (x0.size : Int) then (if (bt x0 (wrap64 (x5 - 1))) = (bt x0 (wrap64 ((wrap64 (x5 - 1)) + t338))) then (spec_l03Runs.l1 k x0 x3 x4 x5 (wrap64 (x6 + 1))) else (if x6 < x4 then (if 0 ≤ x6 then (if x6 < (x0.size : Int) then (if 0 ≤ (wrap64 (x6 - t338)) then (if (wrap64 (x6 - t338)) < (x0.size : Int) then (if (bt x0 x6) = (bt x0 (wrap64 (x6 - t338))) then (spec_l03Runs.l1 k x0 x3 x4 x5 (wrap64 (x6 + 1))) else (if x3.length < 5864062014805 then (spec_l03Runs.l1 k x0 (x3 ++ [(⟨x5, x6, t338⟩ : S46)]) x4 x5 (wrap64 (x6 + 1))) else (none))) else (none)) else (none)) else (none)) else (none)) else (if x3.length < 5864062014805 then (spec_l03Runs.l1 k x0 (x3 ++ [(⟨x5, x6, t338⟩ : S46)]) x4 x5 (wrap64 (x6 + 1))) else (none)))) else (none)) else (none)) else (none)) else (none)) else (if x6 < x4 then (if 0 ≤ x6 then (if x6 < (x0.size : Int) then (if 0 ≤ (wrap64 (x6 - t338)) then (if (wrap64 (x6 - t338)) < (x0.size : Int) then (if (bt x0 x6) = (bt x0 (wrap64 (x6 - t338))) then (spec_l03Runs.l1 k x0 x3 x4 x5 (wrap64 (x6 + 1))) else (if x3.length < 5864062014805 then (spec_l03Runs.l1 k x0 (x3 ++ [(⟨x5, x6, t338⟩ : S46)]) x4 x5 (wrap64 (x6 + 1))) else (none))) else (none)) else (none)) else (none)) else (none)) else (if x3.length < 5864062014805 then (spec_l03Runs.l1 k x0 (x3 ++ [(⟨x5, x6, t338⟩ : S46)]) x4 x5 (wrap64 (x6 + 1))) else (none)))))) else (spec_l03Runs.l0 k x0 x3 x4 (wrap64 (x5 + 1)))
end
def spec_l03Runs.f (k : Nat) (a0 : ByteArray) : Option ((List (S46))) := spec_l03Runs.l0 k a0 (([] : List (S46))) (a0.size : Int) 0
set_option maxHeartbeats 8000000 in
set_option maxRecDepth 100000 in
theorem spec_l03Runs.calls (k : Nat) (a0 : ByteArray) (r : List (S46)) (w : World) (h : spec_l03Runs.f k a0 = some r) :
  Calls Tryz.prog 32 #[.string a0] w fun e w' => ∃ v0_ : Value, e = .returned (v0_) ∧ Kd.R k46 46 w' w.heap.size (fun _ => True) v0_ r ∧ Below w.heap.size w w' := by
 have hu46 := Tryz.underlying46
 have HB := Aside0.mk (Below.refl w.heap.size w)
 have H : (spec_l03Runs.l0 k a0 (([] : List (S46))) (a0.size : Int) 0) = some r := h
 clear h
 obtain ⟨y335, hy335⟩ : ∃ y_ : List (S46), y_ = (([] : List (S46))) := ⟨_, rfl⟩
 replace H : (spec_l03Runs.l0 k a0 y335 (a0.size : Int) 0) = some r := by first | (rw [hy335]; with_reducible exact H) | (have H2_ := (Option.bind_some _ _).symm.trans H; rw [hy335]; with_reducible exact H2_) | (have H2_ := (Option.bind_some _ _).symm.trans H; with_reducible exact H2_) | with_reducible exact H | (rw [hy335]; exact H) | exact H
 have Ny335 := Aside0.mk hy335
 clear hy335
 have H' := Aside0.mk H
 clear H
 go_enter Tryz.func32, Tryz.ntmps32
 go_wp2_with (first | ((with_reducible refine gate_dst (N := 8) rfl ?_); refine Kd.R_lit k46 _ 46 ?hg (N := 8) ?hd (xs := ([] : List (S46))) (inner := []) (ok := fun _ => True) (okp := fun _ => True) ?hr ?hp (fun _ hk => hk) trivial (Below.refl _ _) (Nat.le_refl _) (by simp) ?_; (case hd => rfl); (case hg => rfl); (case hr => first | (go_simp; done) | (go_simp; rfl)); (case hp => exact (Reps.none _ _)); intro v336 w2 ho3 hb hg_ hnew_; clear hg_ hnew_; (first | rw [← Ny335.out] at ho3 | (simp only [Int.reduceToNat] at ho3; rw [← Ny335.out] at ho3)); have n0_ := Aside0.mk (Kd.R_lower ho3 (below_size (by repeat (first | (with_reducible first | exact HB.out | apply below_alloc | apply pw_below_drewN | apply below_drew1) | exact HB.out)))); have n1_ := Aside0.mk (below_step (by repeat (first | (with_reducible first | exact HB.out | apply below_alloc | apply pw_below_drewN | apply below_drew1) | exact HB.out)) hb); clear HB; have HO337 := n0_; have HB := n1_; clear n0_ n1_; clear hb ho3))
 repeat (go_quiet (first | ((with_reducible refine gate_dst (N := 8) rfl ?_); refine Kd.R_lit k46 _ 46 ?hg (N := 8) ?hd (xs := ([] : List (S46))) (inner := []) (ok := fun _ => True) (okp := fun _ => True) ?hr ?hp (fun _ hk => hk) trivial (Below.refl _ _) (Nat.le_refl _) (by simp) ?_; (case hd => rfl); (case hg => rfl); (case hr => first | (go_simp; done) | (go_simp; rfl)); (case hp => exact (Reps.none _ _)); intro v336 w2 ho3 hb hg_ hnew_; clear hg_ hnew_; (first | rw [← Ny335.out] at ho3 | (simp only [Int.reduceToNat] at ho3; rw [← Ny335.out] at ho3)); have n0_ := Aside0.mk (Kd.R_lower ho3 (below_size (by repeat (first | (with_reducible first | exact HB.out | apply below_alloc | apply pw_below_drewN | apply below_drew1) | exact HB.out)))); have n1_ := Aside0.mk (below_step (by repeat (first | (with_reducible first | exact HB.out | apply below_alloc | apply pw_below_drewN | apply below_drew1) | exact HB.out)) hb); clear HB; have HO337 := n0_; have HB := n1_; clear n0_ n1_; clear hb ho3)); try go_wp2_with (first | ((with_reducible refine gate_dst (N := 8) rfl ?_); refine Kd.R_lit k46 _ 46 ?hg (N := 8) ?hd (xs := ([] : List (S46))) (inner := []) (ok := fun _ => True) (okp := fun _ => True) ?hr ?hp (fun _ hk => hk) trivial (Below.refl _ _) (Nat.le_refl _) (by simp) ?_; (case hd => rfl); (case hg => rfl); (case hr => first | (go_simp; done) | (go_simp; rfl)); (case hp => exact (Reps.none _ _)); intro v336 w2 ho3 hb hg_ hnew_; clear hg_ hnew_; (first | rw [← Ny335.out] at ho3 | (simp only [Int.reduceToNat] at ho3; rw [← Ny335.out] at ho3)); have n0_ := Aside0.mk (Kd.R_lower ho3 (below_size (by repeat (first | (with_reducible first | exact HB.out | apply below_alloc | apply pw_below_drewN | apply below_drew1) | exact HB.out)))); have n1_ := Aside0.mk (below_step (by repeat (first | (with_reducible first | exact HB.out | apply below_alloc | apply pw_below_drewN | apply below_drew1) | exact HB.out)) hb); clear HB; have HO337 := n0_; have HB := n1_; clear n0_ n1_; clear hb ho3)))
 go_loopg [3, 5] k (fun kq v3 v5 w' => ∃ (x3_1 : List (S46)) (x5_1 : Int), v5 = .int .i64 x5_1 ∧ Aside0 (spec_l03Runs.l0 kq a0 x3_1 (a0.size : Int) x5_1 = some r) ∧ Aside0 (kq ≤ k) ∧ Aside0 (Kd.R k46 46 w' w.heap.size (fun _ => True) v3 x3_1) ∧ Aside0 (Below w.heap.size w w'))
 case atStart => exact ⟨(y335), (0), (by first | rfl | (simp; done) | (simp [*]; done)), H', ⟨Nat.le_refl _⟩, ⟨by (with_reducible repeat (first | apply Kd.R_alloc | apply Kd.R_drewN | apply Kd.R_drew)); exact HO337.out⟩, ⟨by repeat (first | (with_reducible first | exact HB.out | apply below_alloc | apply pw_below_drewN | apply below_drew1) | exact HB.out)⟩⟩
 case round =>
  clear H'
  try clear p2
  try clear c3
  obtain ⟨x3_1, x5_1, rfl, HA, HK1, HO_3, HB⟩ := hrel
  cases gk with
  | zero => exact absurd HA.out (by simp [spec_l03Runs.l0])
  | succ k1 =>
   have H := HA.out
   clear HA
   simp only [spec_l03Runs.l0] at H
   by_cases c4 : x5_1 < (a0.size : Int)
   ·rw [if_pos c4] at H
    have c4b0 : decide (x5_1 < (a0.size : Int)) = true := decide_eq_true c4
    clear c4
    have H' := Aside0.mk H
    clear H
    go_wp2
    repeat (go_quiet (fail); try go_wp2)
    go_loopg [3, 6] k1 (fun kq v3 v6 w' => ∃ (x3_2 : List (S46)) (x6_2 : Int), v6 = .int .i64 x6_2 ∧ Aside0 (spec_l03Runs.l1 kq a0 x3_2 (a0.size : Int) x5_1 x6_2 = some r) ∧ Aside0 (kq ≤ k1) ∧ Aside0 (Kd.R k46 46 w' w.heap.size (fun _ => True) v3 x3_2) ∧ Aside0 (Below w.heap.size w w'))
    case atStart => exact ⟨(x3_1), (wrap64 (x5_1 + 2)), (by first | rfl | (simp; done) | (simp [*]; done)), H', ⟨Nat.le_refl _⟩, ⟨by (with_reducible repeat (first | apply Kd.R_alloc | apply Kd.R_drewN | apply Kd.R_drew)); exact HO_3.out⟩, ⟨by repeat (first | (with_reducible first | exact HB.out | apply below_alloc | apply pw_below_drewN | apply below_drew1) | exact HB.out)⟩⟩
    case round =>
     clear H'
     try clear p2
     try clear c3
     try clear c4
     try clear c4b0
     try clear p2
     obtain ⟨x3_2, x6_2, rfl, HA, HK2, HO_3, HB⟩ := hrel
     cases gk with
     | zero => exact absurd HA.out (by simp [spec_l03Runs.l1])
     | succ k2 =>
      have H := HA.out
      clear HA
      simp only [spec_l03Runs.l1] at H
      by_cases c5 : x6_2 ≤ (a0.size : Int)
      ·rw [if_pos c5] at H
       have c5b0 : decide (x6_2 ≤ (a0.size : Int)) = true := decide_eq_true c5
       clear c5
       replace H := Option.bind_eq_some_iff.mp H
       obtain ⟨t338, A60, H⟩ := H
       replace H : (if (wrap64 (x6_2 - x5_1)) < (wrap64 (2 * t338)) then (spec_l03Runs.l1 k2 a0 x3_2 (a0.size : Int) x5_1 (wrap64 (x6_2 + 1))) else (if x5_1 > 0 then (if 0 ≤ (wrap64 (x5_1 - 1)) then (if (wrap64 (x5_1 - 1)) < (a0.size : Int) then (if 0 ≤ (wrap64 ((wrap64 (x5_1 - 1)) + t338)) then (if (wrap64 ((wrap64 (x5_1 - 1)) + t338)) < (a0.size : Int) then (if (bt a0 (wrap64 (x5_1 - 1))) = (bt a0 (wrap64 ((wrap64 (x5_1 - 1)) + t338))) then (spec_l03Runs.l1 k2 a0 x3_2 (a0.size : Int) x5_1 (wrap64 (x6_2 + 1))) else (if x6_2 < (a0.size : Int) then (if 0 ≤ x6_2 then (if x6_2 < (a0.size : Int) then (if 0 ≤ (wrap64 (x6_2 - t338)) then (if (wrap64 (x6_2 - t338)) < (a0.size : Int) then (if (bt a0 x6_2) = (bt a0 (wrap64 (x6_2 - t338))) then (spec_l03Runs.l1 k2 a0 x3_2 (a0.size : Int) x5_1 (wrap64 (x6_2 + 1))) else (if x3_2.length < 5864062014805 then (spec_l03Runs.l1 k2 a0 (x3_2 ++ [(⟨x5_1, x6_2, t338⟩ : S46)]) (a0.size : Int) x5_1 (wrap64 (x6_2 + 1))) else (none))) else (none)) else (none)) else (none)) else (none)) else (if x3_2.length < 5864062014805 then (spec_l03Runs.l1 k2 a0 (x3_2 ++ [(⟨x5_1, x6_2, t338⟩ : S46)]) (a0.size : Int) x5_1 (wrap64 (x6_2 + 1))) else (none)))) else (none)) else (none)) else (none)) else (none)) else (if x6_2 < (a0.size : Int) then (if 0 ≤ x6_2 then (if x6_2 < (a0.size : Int) then (if 0 ≤ (wrap64 (x6_2 - t338)) then (if (wrap64 (x6_2 - t338)) < (a0.size : Int) then (if (bt a0 x6_2) = (bt a0 (wrap64 (x6_2 - t338))) then (spec_l03Runs.l1 k2 a0 x3_2 (a0.size : Int) x5_1 (wrap64 (x6_2 + 1))) else (if x3_2.length < 5864062014805 then (spec_l03Runs.l1 k2 a0 (x3_2 ++ [(⟨x5_1, x6_2, t338⟩ : S46)]) (a0.size : Int) x5_1 (wrap64 (x6_2 + 1))) else (none))) else (none)) else (none)) else (none)) else (none)) else (if x3_2.length < 5864062014805 then (spec_l03Runs.l1 k2 a0 (x3_2 ++ [(⟨x5_1, x6_2, t338⟩ : S46)]) (a0.size : Int) x5_1 (wrap64 (x6_2 + 1))) else (none))))) = some r := H
       have A6 := Aside0.mk A60
       clear A60
       by_cases c7 : (wrap64 (x6_2 - x5_1)) < (wrap64 (2 * t338))
       ·rw [if_pos c7] at H
        have c7b0 : decide ((wrap64 (x6_2 - x5_1)) < (wrap64 (2 * t338))) = true := decide_eq_true c7
        clear c7
        have H' := Aside0.mk H
        clear H
        go_wp2_with (first | (go_at_call 57; (with_reducible refine (spec_l03Period.calls k2 a0 x5_1 x6_2 t338 _ A6.out).mono ?_); rintro e w' ⟨rfl, ⟨nd, rfl⟩⟩; (try first | exact ⟨rfl, _, World.drewN_drewN _ _ _⟩ | exact ⟨rfl, _, Eq.trans (World.drewN_drewN _ _ _) (congrArg (World.drewN _) (Nat.add_assoc _ _ _))⟩)))
        repeat (go_quiet (first | (go_at_call 57; (with_reducible refine (spec_l03Period.calls k2 a0 x5_1 x6_2 t338 _ A6.out).mono ?_); rintro e w' ⟨rfl, ⟨nd, rfl⟩⟩; (try first | exact ⟨rfl, _, World.drewN_drewN _ _ _⟩ | exact ⟨rfl, _, Eq.trans (World.drewN_drewN _ _ _) (congrArg (World.drewN _) (Nat.add_assoc _ _ _))⟩))); try go_wp2_with (first | (go_at_call 57; (with_reducible refine (spec_l03Period.calls k2 a0 x5_1 x6_2 t338 _ A6.out).mono ?_); rintro e w' ⟨rfl, ⟨nd, rfl⟩⟩; (try first | exact ⟨rfl, _, World.drewN_drewN _ _ _⟩ | exact ⟨rfl, _, Eq.trans (World.drewN_drewN _ _ _) (congrArg (World.drewN _) (Nat.add_assoc _ _ _))⟩))))
        go_roundg k2
        case measure => have := HK1.out; have := HK2.out; omega
        case rel => exact ⟨(x3_2), (wrap64 (x6_2 + 1)), (by first | rfl | (simp; done) | (simp [*]; done)), H', ⟨by have := HK1.out; have := HK2.out; omega⟩, ⟨by (with_reducible repeat (first | apply Kd.R_alloc | apply Kd.R_drewN | apply Kd.R_drew)); exact HO_3.out⟩, ⟨by repeat (first | (with_reducible first | exact HB.out | apply below_alloc | apply pw_below_drewN | apply below_drew1) | exact HB.out)⟩⟩
       ·rw [if_neg c7] at H
        have c7b0 : decide ((wrap64 (x6_2 - x5_1)) < (wrap64 (2 * t338))) = false := decide_eq_false c7
        clear c7
        by_cases c8 : x5_1 > 0
        ·rw [if_pos c8] at H
         have c8b0 : decide (0 < x5_1) = true := decide_eq_true c8
         clear c8
         obtain ⟨ji9, hji9⟩ : ∃ j_ : Int, (wrap64 (x5_1 - 1)) = j_ := ⟨_, rfl⟩
         replace H : (if 0 ≤ (ji9) then (if (ji9) < (a0.size : Int) then (if 0 ≤ (wrap64 ((ji9) + t338)) then (if (wrap64 ((ji9) + t338)) < (a0.size : Int) then (if (bt a0 (ji9)) = (bt a0 (wrap64 ((ji9) + t338))) then (spec_l03Runs.l1 k2 a0 x3_2 (a0.size : Int) x5_1 (wrap64 (x6_2 + 1))) else (if x6_2 < (a0.size : Int) then (if 0 ≤ x6_2 then (if x6_2 < (a0.size : Int) then (if 0 ≤ (wrap64 (x6_2 - t338)) then (if (wrap64 (x6_2 - t338)) < (a0.size : Int) then (if (bt a0 x6_2) = (bt a0 (wrap64 (x6_2 - t338))) then (spec_l03Runs.l1 k2 a0 x3_2 (a0.size : Int) x5_1 (wrap64 (x6_2 + 1))) else (if x3_2.length < 5864062014805 then (spec_l03Runs.l1 k2 a0 (x3_2 ++ [(⟨x5_1, x6_2, t338⟩ : S46)]) (a0.size : Int) x5_1 (wrap64 (x6_2 + 1))) else (none))) else (none)) else (none)) else (none)) else (none)) else (if x3_2.length < 5864062014805 then (spec_l03Runs.l1 k2 a0 (x3_2 ++ [(⟨x5_1, x6_2, t338⟩ : S46)]) (a0.size : Int) x5_1 (wrap64 (x6_2 + 1))) else (none)))) else (none)) else (none)) else (none)) else (none)) = some r := by first | (rw [hji9] at H; exact H) | (simp only [hji9] at H ⊢; exact H)
         (try rw [hji9] at A6)
         have hji9w : (IntKind.i64.wrap (x5_1 - 1)) = ji9 := (i64_w _).trans hji9
         by_cases c10 : 0 ≤ (ji9)
         ·rw [if_pos c10] at H
          have c10b0 : decide (0 ≤ (ji9)) = true := decide_eq_true c10
          clear c10
          by_cases c11 : (ji9) < (a0.size : Int)
          ·rw [if_pos c11] at H
           have c11b0 : decide ((ji9) < (a0.size : Int)) = true := decide_eq_true c11
           clear c11
           obtain ⟨ji13, hji13⟩ : ∃ j_ : Int, (wrap64 ((ji9) + t338)) = j_ := ⟨_, rfl⟩
           replace H : (if 0 ≤ (ji13) then (if (ji13) < (a0.size : Int) then (if (bt a0 (ji9)) = (bt a0 (ji13)) then (spec_l03Runs.l1 k2 a0 x3_2 (a0.size : Int) x5_1 (wrap64 (x6_2 + 1))) else (if x6_2 < (a0.size : Int) then (if 0 ≤ x6_2 then (if x6_2 < (a0.size : Int) then (if 0 ≤ (wrap64 (x6_2 - t338)) then (if (wrap64 (x6_2 - t338)) < (a0.size : Int) then (if (bt a0 x6_2) = (bt a0 (wrap64 (x6_2 - t338))) then (spec_l03Runs.l1 k2 a0 x3_2 (a0.size : Int) x5_1 (wrap64 (x6_2 + 1))) else (if x3_2.length < 5864062014805 then (spec_l03Runs.l1 k2 a0 (x3_2 ++ [(⟨x5_1, x6_2, t338⟩ : S46)]) (a0.size : Int) x5_1 (wrap64 (x6_2 + 1))) else (none))) else (none)) else (none)) else (none)) else (none)) else (if x3_2.length < 5864062014805 then (spec_l03Runs.l1 k2 a0 (x3_2 ++ [(⟨x5_1, x6_2, t338⟩ : S46)]) (a0.size : Int) x5_1 (wrap64 (x6_2 + 1))) else (none)))) else (none)) else (none)) = some r := by first | (rw [hji13] at H; exact H) | (simp only [hji13] at H ⊢; exact H)
           (try rw [hji13] at A6)
           have hji13w : (IntKind.i64.wrap ((ji9) + t338)) = ji13 := (i64_w _).trans hji13
           by_cases c14 : 0 ≤ (ji13)
           ·rw [if_pos c14] at H
            have c14b0 : decide (0 ≤ (ji13)) = true := decide_eq_true c14
            clear c14
            by_cases c15 : (ji13) < (a0.size : Int)
            ·rw [if_pos c15] at H
             have c15b0 : decide ((ji13) < (a0.size : Int)) = true := decide_eq_true c15
             clear c15
             by_cases c17 : (bt a0 (ji9)) = (bt a0 (ji13))
             ·rw [if_pos c17] at H
              have c17b0 : ((bt a0 (ji9)) == (bt a0 (ji13))) = true := beq_iff_eq.mpr c17
              have c17b1 : ((bt a0 (ji9)) != (bt a0 (ji13))) = false := bne_eq_false_iff_eq.mpr c17
              clear c17
              have H' := Aside0.mk H
              clear H
              go_wp2_with (first | (go_at_call 57; (with_reducible refine (spec_l03Period.calls k2 a0 x5_1 x6_2 t338 _ A6.out).mono ?_); rintro e w' ⟨rfl, ⟨nd, rfl⟩⟩; (try first | exact ⟨rfl, _, World.drewN_drewN _ _ _⟩ | exact ⟨rfl, _, Eq.trans (World.drewN_drewN _ _ _) (congrArg (World.drewN _) (Nat.add_assoc _ _ _))⟩); have p12 : 0 ≤ ((ji9) : Int) := of_decide_eq_true (by first | (with_reducible assumption) | assumption); have q12 : (ji9) < (a0.size : Int) := of_decide_eq_true (by first | (with_reducible assumption) | assumption); have hx12 := bt_at a0 (ji9); replace p12 := eq_true p12; replace q12 := eq_true q12; have p16 : 0 ≤ ((ji13) : Int) := of_decide_eq_true (by first | (with_reducible assumption) | assumption); have q16 : (ji13) < (a0.size : Int) := of_decide_eq_true (by first | (with_reducible assumption) | assumption); have hx16 := bt_at a0 (ji13); replace p16 := eq_true p16; replace q16 := eq_true q16))
              repeat (go_quiet (first | (go_at_call 57; (with_reducible refine (spec_l03Period.calls k2 a0 x5_1 x6_2 t338 _ A6.out).mono ?_); rintro e w' ⟨rfl, ⟨nd, rfl⟩⟩; (try first | exact ⟨rfl, _, World.drewN_drewN _ _ _⟩ | exact ⟨rfl, _, Eq.trans (World.drewN_drewN _ _ _) (congrArg (World.drewN _) (Nat.add_assoc _ _ _))⟩); have p12 : 0 ≤ ((ji9) : Int) := of_decide_eq_true (by first | (with_reducible assumption) | assumption); have q12 : (ji9) < (a0.size : Int) := of_decide_eq_true (by first | (with_reducible assumption) | assumption); have hx12 := bt_at a0 (ji9); replace p12 := eq_true p12; replace q12 := eq_true q12; have p16 : 0 ≤ ((ji13) : Int) := of_decide_eq_true (by first | (with_reducible assumption) | assumption); have q16 : (ji13) < (a0.size : Int) := of_decide_eq_true (by first | (with_reducible assumption) | assumption); have hx16 := bt_at a0 (ji13); replace p16 := eq_true p16; replace q16 := eq_true q16)); try go_wp2_with (first | (go_at_call 57; (with_reducible refine (spec_l03Period.calls k2 a0 x5_1 x6_2 t338 _ A6.out).mono ?_); rintro e w' ⟨rfl, ⟨nd, rfl⟩⟩; (try first | exact ⟨rfl, _, World.drewN_drewN _ _ _⟩ | exact ⟨rfl, _, Eq.trans (World.drewN_drewN _ _ _) (congrArg (World.drewN _) (Nat.add_assoc _ _ _))⟩); have p12 : 0 ≤ ((ji9) : Int) := of_decide_eq_true (by first | (with_reducible assumption) | assumption); have q12 : (ji9) < (a0.size : Int) := of_decide_eq_true (by first | (with_reducible assumption) | assumption); have hx12 := bt_at a0 (ji9); replace p12 := eq_true p12; replace q12 := eq_true q12; have p16 : 0 ≤ ((ji13) : Int) := of_decide_eq_true (by first | (with_reducible assumption) | assumption); have q16 : (ji13) < (a0.size : Int) := of_decide_eq_true (by first | (with_reducible assumption) | assumption); have hx16 := bt_at a0 (ji13); replace p16 := eq_true p16; replace q16 := eq_true q16)))
              go_roundg k2
              case measure => have := HK1.out; have := HK2.out; omega
              case rel => exact ⟨(x3_2), (wrap64 (x6_2 + 1)), (by first | rfl | (simp; done) | (simp [*]; done)), H', ⟨by have := HK1.out; have := HK2.out; omega⟩, ⟨by (with_reducible repeat (first | apply Kd.R_alloc | apply Kd.R_drewN | apply Kd.R_drew)); exact HO_3.out⟩, ⟨by repeat (first | (with_reducible first | exact HB.out | apply below_alloc | apply pw_below_drewN | apply below_drew1) | exact HB.out)⟩⟩
             ·rw [if_neg c17] at H
              have c17b0 : ((bt a0 (ji9)) == (bt a0 (ji13))) = false := beq_eq_false_iff_ne.mpr c17
              have c17b1 : ((bt a0 (ji9)) != (bt a0 (ji13))) = true := bne_iff_ne.mpr c17
              by_cases c18 : x6_2 < (a0.size : Int)
              ·rw [if_pos c18] at H
               have c18b0 : decide (x6_2 < (a0.size : Int)) = true := decide_eq_true c18
               clear c18
               by_cases c19 : 0 ≤ x6_2
               ·rw [if_pos c19] at H
                have c19b0 : decide (0 ≤ x6_2) = true := decide_eq_true c19
                clear c19
                by_cases c20 : x6_2 < (a0.size : Int)
                ·rw [if_pos c20] at H
                 have c20b0 : decide (x6_2 < (a0.size : Int)) = true := decide_eq_true c20
                 clear c20
                 obtain ⟨ji22, hji22⟩ : ∃ j_ : Int, (wrap64 (x6_2 - t338)) = j_ := ⟨_, rfl⟩
                 replace H : (if 0 ≤ (ji22) then (if (ji22) < (a0.size : Int) then (if (bt a0 x6_2) = (bt a0 (ji22)) then (spec_l03Runs.l1 k2 a0 x3_2 (a0.size : Int) x5_1 (wrap64 (x6_2 + 1))) else (if x3_2.length < 5864062014805 then (spec_l03Runs.l1 k2 a0 (x3_2 ++ [(⟨x5_1, x6_2, t338⟩ : S46)]) (a0.size : Int) x5_1 (wrap64 (x6_2 + 1))) else (none))) else (none)) else (none)) = some r := by first | (rw [hji22] at H; exact H) | (simp only [hji22] at H ⊢; exact H)
                 (try rw [hji22] at A6)
                 have hji22w : (IntKind.i64.wrap (x6_2 - t338)) = ji22 := (i64_w _).trans hji22
                 by_cases c23 : 0 ≤ (ji22)
                 ·rw [if_pos c23] at H
                  have c23b0 : decide (0 ≤ (ji22)) = true := decide_eq_true c23
                  clear c23
                  by_cases c24 : (ji22) < (a0.size : Int)
                  ·rw [if_pos c24] at H
                   have c24b0 : decide ((ji22) < (a0.size : Int)) = true := decide_eq_true c24
                   clear c24
                   by_cases c26 : (bt a0 x6_2) = (bt a0 (ji22))
                   ·rw [if_pos c26] at H
                    have c26b0 : ((bt a0 x6_2) == (bt a0 (ji22))) = true := beq_iff_eq.mpr c26
                    have c26b1 : ((bt a0 x6_2) != (bt a0 (ji22))) = false := bne_eq_false_iff_eq.mpr c26
                    clear c26
                    have H' := Aside0.mk H
                    clear H
                    go_wp2_with (first | (go_at_call 57; (with_reducible refine (spec_l03Period.calls k2 a0 x5_1 x6_2 t338 _ A6.out).mono ?_); rintro e w' ⟨rfl, ⟨nd, rfl⟩⟩; (try first | exact ⟨rfl, _, World.drewN_drewN _ _ _⟩ | exact ⟨rfl, _, Eq.trans (World.drewN_drewN _ _ _) (congrArg (World.drewN _) (Nat.add_assoc _ _ _))⟩); have p12 : 0 ≤ ((ji9) : Int) := of_decide_eq_true (by first | (with_reducible assumption) | assumption); have q12 : (ji9) < (a0.size : Int) := of_decide_eq_true (by first | (with_reducible assumption) | assumption); have hx12 := bt_at a0 (ji9); replace p12 := eq_true p12; replace q12 := eq_true q12; have p16 : 0 ≤ ((ji13) : Int) := of_decide_eq_true (by first | (with_reducible assumption) | assumption); have q16 : (ji13) < (a0.size : Int) := of_decide_eq_true (by first | (with_reducible assumption) | assumption); have hx16 := bt_at a0 (ji13); replace p16 := eq_true p16; replace q16 := eq_true q16; have p21 : 0 ≤ (x6_2 : Int) := of_decide_eq_true (by first | (with_reducible assumption) | assumption); have q21 : x6_2 < (a0.size : Int) := of_decide_eq_true (by first | (with_reducible assumption) | assumption); have hx21 := bt_at a0 x6_2; replace p21 := eq_true p21; replace q21 := eq_true q21; have p25 : 0 ≤ ((ji22) : Int) := of_decide_eq_true (by first | (with_reducible assumption) | assumption); have q25 : (ji22) < (a0.size : Int) := of_decide_eq_true (by first | (with_reducible assumption) | assumption); have hx25 := bt_at a0 (ji22); replace p25 := eq_true p25; replace q25 := eq_true q25))
                    repeat (go_quiet (first | (go_at_call 57; (with_reducible refine (spec_l03Period.calls k2 a0 x5_1 x6_2 t338 _ A6.out).mono ?_); rintro e w' ⟨rfl, ⟨nd, rfl⟩⟩; (try first | exact ⟨rfl, _, World.drewN_drewN _ _ _⟩ | exact ⟨rfl, _, Eq.trans (World.drewN_drewN _ _ _) (congrArg (World.drewN _) (Nat.add_assoc _ _ _))⟩); have p12 : 0 ≤ ((ji9) : Int) := of_decide_eq_true (by first | (with_reducible assumption) | assumption); have q12 : (ji9) < (a0.size : Int) := of_decide_eq_true (by first | (with_reducible assumption) | assumption); have hx12 := bt_at a0 (ji9); replace p12 := eq_true p12; replace q12 := eq_true q12; have p16 : 0 ≤ ((ji13) : Int) := of_decide_eq_true (by first | (with_reducible assumption) | assumption); have q16 : (ji13) < (a0.size : Int) := of_decide_eq_true (by first | (with_reducible assumption) | assumption); have hx16 := bt_at a0 (ji13); replace p16 := eq_true p16; replace q16 := eq_true q16; have p21 : 0 ≤ (x6_2 : Int) := of_decide_eq_true (by first | (with_reducible assumption) | assumption); have q21 : x6_2 < (a0.size : Int) := of_decide_eq_true (by first | (with_reducible assumption) | assumption); have hx21 := bt_at a0 x6_2; replace p21 := eq_true p21; replace q21 := eq_true q21; have p25 : 0 ≤ ((ji22) : Int) := of_decide_eq_true (by first | (with_reducible assumption) | assumption); have q25 : (ji22) < (a0.size : Int) := of_decide_eq_true (by first | (with_reducible assumption) | assumption); have hx25 := bt_at a0 (ji22); replace p25 := eq_true p25; replace q25 := eq_true q25)); try go_wp2_with (first | (go_at_call 57; (with_reducible refine (spec_l03Period.calls k2 a0 x5_1 x6_2 t338 _ A6.out).mono ?_); rintro e w' ⟨rfl, ⟨nd, rfl⟩⟩; (try first | exact ⟨rfl, _, World.drewN_drewN _ _ _⟩ | exact ⟨rfl, _, Eq.trans (World.drewN_drewN _ _ _) (congrArg (World.drewN _) (Nat.add_assoc _ _ _))⟩); have p12 : 0 ≤ ((ji9) : Int) := of_decide_eq_true (by first | (with_reducible assumption) | assumption); have q12 : (ji9) < (a0.size : Int) := of_decide_eq_true (by first | (with_reducible assumption) | assumption); have hx12 := bt_at a0 (ji9); replace p12 := eq_true p12; replace q12 := eq_true q12; have p16 : 0 ≤ ((ji13) : Int) := of_decide_eq_true (by first | (with_reducible assumption) | assumption); have q16 : (ji13) < (a0.size : Int) := of_decide_eq_true (by first | (with_reducible assumption) | assumption); have hx16 := bt_at a0 (ji13); replace p16 := eq_true p16; replace q16 := eq_true q16; have p21 : 0 ≤ (x6_2 : Int) := of_decide_eq_true (by first | (with_reducible assumption) | assumption); have q21 : x6_2 < (a0.size : Int) := of_decide_eq_true (by first | (with_reducible assumption) | assumption); have hx21 := bt_at a0 x6_2; replace p21 := eq_true p21; replace q21 := eq_true q21; have p25 : 0 ≤ ((ji22) : Int) := of_decide_eq_true (by first | (with_reducible assumption) | assumption); have q25 : (ji22) < (a0.size : Int) := of_decide_eq_true (by first | (with_reducible assumption) | assumption); have hx25 := bt_at a0 (ji22); replace p25 := eq_true p25; replace q25 := eq_true q25)))
                    go_roundg k2
                    case measure => have := HK1.out; have := HK2.out; omega
                    case rel => exact ⟨(x3_2), (wrap64 (x6_2 + 1)), (by first | rfl | (simp; done) | (simp [*]; done)), H', ⟨by have := HK1.out; have := HK2.out; omega⟩, ⟨by (with_reducible repeat (first | apply Kd.R_alloc | apply Kd.R_drewN | apply Kd.R_drew)); exact HO_3.out⟩, ⟨by repeat (first | (with_reducible first | exact HB.out | apply below_alloc | apply pw_below_drewN | apply below_drew1) | exact HB.out)⟩⟩
                   ·rw [if_neg c26] at H
                    have c26b0 : ((bt a0 x6_2) == (bt a0 (ji22))) = false := beq_eq_false_iff_ne.mpr c26
                    have c26b1 : ((bt a0 x6_2) != (bt a0 (ji22))) = true := bne_iff_ne.mpr c26
                    by_cases c27 : x3_2.length < 5864062014805
                    ·rw [if_pos c27] at H
                     have LMc27 := Aside0.mk c27
                     clear c27
                     obtain ⟨y339, hy339⟩ : ∃ y_ : List (S46), y_ = (x3_2 ++ [(⟨x5_1, x6_2, t338⟩ : S46)]) := ⟨_, rfl⟩
                     replace H : (spec_l03Runs.l1 k2 a0 y339 (a0.size : Int) x5_1 (wrap64 (x6_2 + 1))) = some r := by first | (rw [hy339]; with_reducible exact H) | (have H2_ := (Option.bind_some _ _).symm.trans H; rw [hy339]; with_reducible exact H2_) | (have H2_ := (Option.bind_some _ _).symm.trans H; with_reducible exact H2_) | with_reducible exact H | (rw [hy339]; exact H) | exact H
                     have Ny339 := Aside0.mk hy339
                     clear hy339
                     have H' := Aside0.mk H
                     clear H
                     go_wp2_with (first | (go_at_call 57; (with_reducible refine (spec_l03Period.calls k2 a0 x5_1 x6_2 t338 _ A6.out).mono ?_); rintro e w' ⟨rfl, ⟨nd, rfl⟩⟩; (try first | exact ⟨rfl, _, World.drewN_drewN _ _ _⟩ | exact ⟨rfl, _, Eq.trans (World.drewN_drewN _ _ _) (congrArg (World.drewN _) (Nat.add_assoc _ _ _))⟩); have p12 : 0 ≤ ((ji9) : Int) := of_decide_eq_true (by first | (with_reducible assumption) | assumption); have q12 : (ji9) < (a0.size : Int) := of_decide_eq_true (by first | (with_reducible assumption) | assumption); have hx12 := bt_at a0 (ji9); replace p12 := eq_true p12; replace q12 := eq_true q12; have p16 : 0 ≤ ((ji13) : Int) := of_decide_eq_true (by first | (with_reducible assumption) | assumption); have q16 : (ji13) < (a0.size : Int) := of_decide_eq_true (by first | (with_reducible assumption) | assumption); have hx16 := bt_at a0 (ji13); replace p16 := eq_true p16; replace q16 := eq_true q16; have p21 : 0 ≤ (x6_2 : Int) := of_decide_eq_true (by first | (with_reducible assumption) | assumption); have q21 : x6_2 < (a0.size : Int) := of_decide_eq_true (by first | (with_reducible assumption) | assumption); have hx21 := bt_at a0 x6_2; replace p21 := eq_true p21; replace q21 := eq_true q21; have p25 : 0 ≤ ((ji22) : Int) := of_decide_eq_true (by first | (with_reducible assumption) | assumption); have q25 : (ji22) < (a0.size : Int) := of_decide_eq_true (by first | (with_reducible assumption) | assumption); have hx25 := bt_at a0 (ji22); replace p25 := eq_true p25; replace q25 := eq_true q25) | ((with_reducible refine gate_builtin (b := .append) (xs := #[.tmp 66, .tmp 71]) rfl ?_); at_builtin; refine Kd.R_append k46 (w0 := w) w.heap.size rfl (.tmp 66) (.tmp 71) 25 46 (.agg #[(.int .i64 0), (.int .i64 0), (.int .i64 0)]) 24 rfl Tryz.underlying25 info46 rfl (by decide) (by omega) u3 x3_2 (⟨x5_1, x6_2, t338⟩ : S46) [.int .i64 x5_1, .int .i64 x6_2, .int .i64 t338] (fun _ => True) (fun _ => False) rfl rfl ?aP (fun _ hk => hk.elim) ?aF ?aO ?aB ?aS ?aL ?_; (case aP => exact k46_mkM _ _ _ (⟨x5_1, x6_2, t338⟩ : S46)); (case aB => exact (by repeat (first | (with_reducible first | exact HB.out | apply below_alloc | apply pw_below_drewN | apply below_drew1) | exact HB.out))); (case aF => exact (fun _ _ => trivial)); (case aO => exact (by (with_reducible repeat (first | apply Kd.R_alloc | apply Kd.R_drewN | apply Kd.R_drew)); exact HO_3.out)); (case aS => exact (below_size (by repeat (first | (with_reducible first | exact HB.out | apply below_alloc | apply pw_below_drewN | apply below_drew1) | exact HB.out)))); (case aL => have := LMc27.out; omega); intro v340 w28 ho hb hg hat; rw [← Ny339.out] at ho; have n0_ := Aside0.mk (hb); have n1_ := Aside0.mk (ho); clear HB; clear HO_3; have HB := n0_; have HO341 := n1_; clear n0_ n1_; clear ho hb hg hat))
                     repeat (go_quiet (first | (go_at_call 57; (with_reducible refine (spec_l03Period.calls k2 a0 x5_1 x6_2 t338 _ A6.out).mono ?_); rintro e w' ⟨rfl, ⟨nd, rfl⟩⟩; (try first | exact ⟨rfl, _, World.drewN_drewN _ _ _⟩ | exact ⟨rfl, _, Eq.trans (World.drewN_drewN _ _ _) (congrArg (World.drewN _) (Nat.add_assoc _ _ _))⟩); have p12 : 0 ≤ ((ji9) : Int) := of_decide_eq_true (by first | (with_reducible assumption) | assumption); have q12 : (ji9) < (a0.size : Int) := of_decide_eq_true (by first | (with_reducible assumption) | assumption); have hx12 := bt_at a0 (ji9); replace p12 := eq_true p12; replace q12 := eq_true q12; have p16 : 0 ≤ ((ji13) : Int) := of_decide_eq_true (by first | (with_reducible assumption) | assumption); have q16 : (ji13) < (a0.size : Int) := of_decide_eq_true (by first | (with_reducible assumption) | assumption); have hx16 := bt_at a0 (ji13); replace p16 := eq_true p16; replace q16 := eq_true q16; have p21 : 0 ≤ (x6_2 : Int) := of_decide_eq_true (by first | (with_reducible assumption) | assumption); have q21 : x6_2 < (a0.size : Int) := of_decide_eq_true (by first | (with_reducible assumption) | assumption); have hx21 := bt_at a0 x6_2; replace p21 := eq_true p21; replace q21 := eq_true q21; have p25 : 0 ≤ ((ji22) : Int) := of_decide_eq_true (by first | (with_reducible assumption) | assumption); have q25 : (ji22) < (a0.size : Int) := of_decide_eq_true (by first | (with_reducible assumption) | assumption); have hx25 := bt_at a0 (ji22); replace p25 := eq_true p25; replace q25 := eq_true q25) | ((with_reducible refine gate_builtin (b := .append) (xs := #[.tmp 66, .tmp 71]) rfl ?_); at_builtin; refine Kd.R_append k46 (w0 := w) w.heap.size rfl (.tmp 66) (.tmp 71) 25 46 (.agg #[(.int .i64 0), (.int .i64 0), (.int .i64 0)]) 24 rfl Tryz.underlying25 info46 rfl (by decide) (by omega) u3 x3_2 (⟨x5_1, x6_2, t338⟩ : S46) [.int .i64 x5_1, .int .i64 x6_2, .int .i64 t338] (fun _ => True) (fun _ => False) rfl rfl ?aP (fun _ hk => hk.elim) ?aF ?aO ?aB ?aS ?aL ?_; (case aP => exact k46_mkM _ _ _ (⟨x5_1, x6_2, t338⟩ : S46)); (case aB => exact (by repeat (first | (with_reducible first | exact HB.out | apply below_alloc | apply pw_below_drewN | apply below_drew1) | exact HB.out))); (case aF => exact (fun _ _ => trivial)); (case aO => exact (by (with_reducible repeat (first | apply Kd.R_alloc | apply Kd.R_drewN | apply Kd.R_drew)); exact HO_3.out)); (case aS => exact (below_size (by repeat (first | (with_reducible first | exact HB.out | apply below_alloc | apply pw_below_drewN | apply below_drew1) | exact HB.out)))); (case aL => have := LMc27.out; omega); intro v340 w28 ho hb hg hat; rw [← Ny339.out] at ho; have n0_ := Aside0.mk (hb); have n1_ := Aside0.mk (ho); clear HB; clear HO_3; have HB := n0_; have HO341 := n1_; clear n0_ n1_; clear ho hb hg hat)); try go_wp2_with (first | (go_at_call 57; (with_reducible refine (spec_l03Period.calls k2 a0 x5_1 x6_2 t338 _ A6.out).mono ?_); rintro e w' ⟨rfl, ⟨nd, rfl⟩⟩; (try first | exact ⟨rfl, _, World.drewN_drewN _ _ _⟩ | exact ⟨rfl, _, Eq.trans (World.drewN_drewN _ _ _) (congrArg (World.drewN _) (Nat.add_assoc _ _ _))⟩); have p12 : 0 ≤ ((ji9) : Int) := of_decide_eq_true (by first | (with_reducible assumption) | assumption); have q12 : (ji9) < (a0.size : Int) := of_decide_eq_true (by first | (with_reducible assumption) | assumption); have hx12 := bt_at a0 (ji9); replace p12 := eq_true p12; replace q12 := eq_true q12; have p16 : 0 ≤ ((ji13) : Int) := of_decide_eq_true (by first | (with_reducible assumption) | assumption); have q16 : (ji13) < (a0.size : Int) := of_decide_eq_true (by first | (with_reducible assumption) | assumption); have hx16 := bt_at a0 (ji13); replace p16 := eq_true p16; replace q16 := eq_true q16; have p21 : 0 ≤ (x6_2 : Int) := of_decide_eq_true (by first | (with_reducible assumption) | assumption); have q21 : x6_2 < (a0.size : Int) := of_decide_eq_true (by first | (with_reducible assumption) | assumption); have hx21 := bt_at a0 x6_2; replace p21 := eq_true p21; replace q21 := eq_true q21; have p25 : 0 ≤ ((ji22) : Int) := of_decide_eq_true (by first | (with_reducible assumption) | assumption); have q25 : (ji22) < (a0.size : Int) := of_decide_eq_true (by first | (with_reducible assumption) | assumption); have hx25 := bt_at a0 (ji22); replace p25 := eq_true p25; replace q25 := eq_true q25) | ((with_reducible refine gate_builtin (b := .append) (xs := #[.tmp 66, .tmp 71]) rfl ?_); at_builtin; refine Kd.R_append k46 (w0 := w) w.heap.size rfl (.tmp 66) (.tmp 71) 25 46 (.agg #[(.int .i64 0), (.int .i64 0), (.int .i64 0)]) 24 rfl Tryz.underlying25 info46 rfl (by decide) (by omega) u3 x3_2 (⟨x5_1, x6_2, t338⟩ : S46) [.int .i64 x5_1, .int .i64 x6_2, .int .i64 t338] (fun _ => True) (fun _ => False) rfl rfl ?aP (fun _ hk => hk.elim) ?aF ?aO ?aB ?aS ?aL ?_; (case aP => exact k46_mkM _ _ _ (⟨x5_1, x6_2, t338⟩ : S46)); (case aB => exact (by repeat (first | (with_reducible first | exact HB.out | apply below_alloc | apply pw_below_drewN | apply below_drew1) | exact HB.out))); (case aF => exact (fun _ _ => trivial)); (case aO => exact (by (with_reducible repeat (first | apply Kd.R_alloc | apply Kd.R_drewN | apply Kd.R_drew)); exact HO_3.out)); (case aS => exact (below_size (by repeat (first | (with_reducible first | exact HB.out | apply below_alloc | apply pw_below_drewN | apply below_drew1) | exact HB.out)))); (case aL => have := LMc27.out; omega); intro v340 w28 ho hb hg hat; rw [← Ny339.out] at ho; have n0_ := Aside0.mk (hb); have n1_ := Aside0.mk (ho); clear HB; clear HO_3; have HB := n0_; have HO341 := n1_; clear n0_ n1_; clear ho hb hg hat)))
                     go_roundg k2
                     case measure => have := HK1.out; have := HK2.out; omega
                     case rel => exact ⟨(y339), (wrap64 (x6_2 + 1)), (by first | rfl | (simp; done) | (simp [*]; done)), H', ⟨by have := HK1.out; have := HK2.out; omega⟩, ⟨by (with_reducible repeat (first | apply Kd.R_alloc | apply Kd.R_drewN | apply Kd.R_drew)); exact HO341.out⟩, ⟨by repeat (first | (with_reducible first | exact HB.out | apply below_alloc | apply pw_below_drewN | apply below_drew1) | exact HB.out)⟩⟩
                    ·rw [if_neg c27] at H
                     exact absurd H (by simp)
                  ·rw [if_neg c24] at H
                   exact absurd H (by simp)
                 ·rw [if_neg c23] at H
                  exact absurd H (by simp)
                ·rw [if_neg c20] at H
                 exact absurd H (by simp)
               ·rw [if_neg c19] at H
                exact absurd H (by simp)
              ·rw [if_neg c18] at H
               have c18b0 : decide (x6_2 < (a0.size : Int)) = false := decide_eq_false c18
               clear c18
               by_cases c29 : x3_2.length < 5864062014805
               ·rw [if_pos c29] at H
                have LMc29 := Aside0.mk c29
                clear c29
                obtain ⟨y342, hy342⟩ : ∃ y_ : List (S46), y_ = (x3_2 ++ [(⟨x5_1, x6_2, t338⟩ : S46)]) := ⟨_, rfl⟩
                replace H : (spec_l03Runs.l1 k2 a0 y342 (a0.size : Int) x5_1 (wrap64 (x6_2 + 1))) = some r := by first | (rw [hy342]; with_reducible exact H) | (have H2_ := (Option.bind_some _ _).symm.trans H; rw [hy342]; with_reducible exact H2_) | (have H2_ := (Option.bind_some _ _).symm.trans H; with_reducible exact H2_) | with_reducible exact H | (rw [hy342]; exact H) | exact H
                have Ny342 := Aside0.mk hy342
                clear hy342
                have H' := Aside0.mk H
                clear H
                go_wp2_with (first | (go_at_call 57; (with_reducible refine (spec_l03Period.calls k2 a0 x5_1 x6_2 t338 _ A6.out).mono ?_); rintro e w' ⟨rfl, ⟨nd, rfl⟩⟩; (try first | exact ⟨rfl, _, World.drewN_drewN _ _ _⟩ | exact ⟨rfl, _, Eq.trans (World.drewN_drewN _ _ _) (congrArg (World.drewN _) (Nat.add_assoc _ _ _))⟩); have p12 : 0 ≤ ((ji9) : Int) := of_decide_eq_true (by first | (with_reducible assumption) | assumption); have q12 : (ji9) < (a0.size : Int) := of_decide_eq_true (by first | (with_reducible assumption) | assumption); have hx12 := bt_at a0 (ji9); replace p12 := eq_true p12; replace q12 := eq_true q12; have p16 : 0 ≤ ((ji13) : Int) := of_decide_eq_true (by first | (with_reducible assumption) | assumption); have q16 : (ji13) < (a0.size : Int) := of_decide_eq_true (by first | (with_reducible assumption) | assumption); have hx16 := bt_at a0 (ji13); replace p16 := eq_true p16; replace q16 := eq_true q16) | ((with_reducible refine gate_builtin (b := .append) (xs := #[.tmp 66, .tmp 71]) rfl ?_); at_builtin; refine Kd.R_append k46 (w0 := w) w.heap.size rfl (.tmp 66) (.tmp 71) 25 46 (.agg #[(.int .i64 0), (.int .i64 0), (.int .i64 0)]) 24 rfl Tryz.underlying25 info46 rfl (by decide) (by omega) u3 x3_2 (⟨x5_1, x6_2, t338⟩ : S46) [.int .i64 x5_1, .int .i64 x6_2, .int .i64 t338] (fun _ => True) (fun _ => False) rfl rfl ?aP (fun _ hk => hk.elim) ?aF ?aO ?aB ?aS ?aL ?_; (case aP => exact k46_mkM _ _ _ (⟨x5_1, x6_2, t338⟩ : S46)); (case aB => exact (by repeat (first | (with_reducible first | exact HB.out | apply below_alloc | apply pw_below_drewN | apply below_drew1) | exact HB.out))); (case aF => exact (fun _ _ => trivial)); (case aO => exact (by (with_reducible repeat (first | apply Kd.R_alloc | apply Kd.R_drewN | apply Kd.R_drew)); exact HO_3.out)); (case aS => exact (below_size (by repeat (first | (with_reducible first | exact HB.out | apply below_alloc | apply pw_below_drewN | apply below_drew1) | exact HB.out)))); (case aL => have := LMc29.out; omega); intro v343 w30 ho hb hg hat; rw [← Ny342.out] at ho; have n0_ := Aside0.mk (hb); have n1_ := Aside0.mk (ho); clear HB; clear HO_3; have HB := n0_; have HO344 := n1_; clear n0_ n1_; clear ho hb hg hat))
                repeat (go_quiet (first | (go_at_call 57; (with_reducible refine (spec_l03Period.calls k2 a0 x5_1 x6_2 t338 _ A6.out).mono ?_); rintro e w' ⟨rfl, ⟨nd, rfl⟩⟩; (try first | exact ⟨rfl, _, World.drewN_drewN _ _ _⟩ | exact ⟨rfl, _, Eq.trans (World.drewN_drewN _ _ _) (congrArg (World.drewN _) (Nat.add_assoc _ _ _))⟩); have p12 : 0 ≤ ((ji9) : Int) := of_decide_eq_true (by first | (with_reducible assumption) | assumption); have q12 : (ji9) < (a0.size : Int) := of_decide_eq_true (by first | (with_reducible assumption) | assumption); have hx12 := bt_at a0 (ji9); replace p12 := eq_true p12; replace q12 := eq_true q12; have p16 : 0 ≤ ((ji13) : Int) := of_decide_eq_true (by first | (with_reducible assumption) | assumption); have q16 : (ji13) < (a0.size : Int) := of_decide_eq_true (by first | (with_reducible assumption) | assumption); have hx16 := bt_at a0 (ji13); replace p16 := eq_true p16; replace q16 := eq_true q16) | ((with_reducible refine gate_builtin (b := .append) (xs := #[.tmp 66, .tmp 71]) rfl ?_); at_builtin; refine Kd.R_append k46 (w0 := w) w.heap.size rfl (.tmp 66) (.tmp 71) 25 46 (.agg #[(.int .i64 0), (.int .i64 0), (.int .i64 0)]) 24 rfl Tryz.underlying25 info46 rfl (by decide) (by omega) u3 x3_2 (⟨x5_1, x6_2, t338⟩ : S46) [.int .i64 x5_1, .int .i64 x6_2, .int .i64 t338] (fun _ => True) (fun _ => False) rfl rfl ?aP (fun _ hk => hk.elim) ?aF ?aO ?aB ?aS ?aL ?_; (case aP => exact k46_mkM _ _ _ (⟨x5_1, x6_2, t338⟩ : S46)); (case aB => exact (by repeat (first | (with_reducible first | exact HB.out | apply below_alloc | apply pw_below_drewN | apply below_drew1) | exact HB.out))); (case aF => exact (fun _ _ => trivial)); (case aO => exact (by (with_reducible repeat (first | apply Kd.R_alloc | apply Kd.R_drewN | apply Kd.R_drew)); exact HO_3.out)); (case aS => exact (below_size (by repeat (first | (with_reducible first | exact HB.out | apply below_alloc | apply pw_below_drewN | apply below_drew1) | exact HB.out)))); (case aL => have := LMc29.out; omega); intro v343 w30 ho hb hg hat; rw [← Ny342.out] at ho; have n0_ := Aside0.mk (hb); have n1_ := Aside0.mk (ho); clear HB; clear HO_3; have HB := n0_; have HO344 := n1_; clear n0_ n1_; clear ho hb hg hat)); try go_wp2_with (first | (go_at_call 57; (with_reducible refine (spec_l03Period.calls k2 a0 x5_1 x6_2 t338 _ A6.out).mono ?_); rintro e w' ⟨rfl, ⟨nd, rfl⟩⟩; (try first | exact ⟨rfl, _, World.drewN_drewN _ _ _⟩ | exact ⟨rfl, _, Eq.trans (World.drewN_drewN _ _ _) (congrArg (World.drewN _) (Nat.add_assoc _ _ _))⟩); have p12 : 0 ≤ ((ji9) : Int) := of_decide_eq_true (by first | (with_reducible assumption) | assumption); have q12 : (ji9) < (a0.size : Int) := of_decide_eq_true (by first | (with_reducible assumption) | assumption); have hx12 := bt_at a0 (ji9); replace p12 := eq_true p12; replace q12 := eq_true q12; have p16 : 0 ≤ ((ji13) : Int) := of_decide_eq_true (by first | (with_reducible assumption) | assumption); have q16 : (ji13) < (a0.size : Int) := of_decide_eq_true (by first | (with_reducible assumption) | assumption); have hx16 := bt_at a0 (ji13); replace p16 := eq_true p16; replace q16 := eq_true q16) | ((with_reducible refine gate_builtin (b := .append) (xs := #[.tmp 66, .tmp 71]) rfl ?_); at_builtin; refine Kd.R_append k46 (w0 := w) w.heap.size rfl (.tmp 66) (.tmp 71) 25 46 (.agg #[(.int .i64 0), (.int .i64 0), (.int .i64 0)]) 24 rfl Tryz.underlying25 info46 rfl (by decide) (by omega) u3 x3_2 (⟨x5_1, x6_2, t338⟩ : S46) [.int .i64 x5_1, .int .i64 x6_2, .int .i64 t338] (fun _ => True) (fun _ => False) rfl rfl ?aP (fun _ hk => hk.elim) ?aF ?aO ?aB ?aS ?aL ?_; (case aP => exact k46_mkM _ _ _ (⟨x5_1, x6_2, t338⟩ : S46)); (case aB => exact (by repeat (first | (with_reducible first | exact HB.out | apply below_alloc | apply pw_below_drewN | apply below_drew1) | exact HB.out))); (case aF => exact (fun _ _ => trivial)); (case aO => exact (by (with_reducible repeat (first | apply Kd.R_alloc | apply Kd.R_drewN | apply Kd.R_drew)); exact HO_3.out)); (case aS => exact (below_size (by repeat (first | (with_reducible first | exact HB.out | apply below_alloc | apply pw_below_drewN | apply below_drew1) | exact HB.out)))); (case aL => have := LMc29.out; omega); intro v343 w30 ho hb hg hat; rw [← Ny342.out] at ho; have n0_ := Aside0.mk (hb); have n1_ := Aside0.mk (ho); clear HB; clear HO_3; have HB := n0_; have HO344 := n1_; clear n0_ n1_; clear ho hb hg hat)))
                go_roundg k2
                case measure => have := HK1.out; have := HK2.out; omega
                case rel => exact ⟨(y342), (wrap64 (x6_2 + 1)), (by first | rfl | (simp; done) | (simp [*]; done)), H', ⟨by have := HK1.out; have := HK2.out; omega⟩, ⟨by (with_reducible repeat (first | apply Kd.R_alloc | apply Kd.R_drewN | apply Kd.R_drew)); exact HO344.out⟩, ⟨by repeat (first | (with_reducible first | exact HB.out | apply below_alloc | apply pw_below_drewN | apply below_drew1) | exact HB.out)⟩⟩
               ·rw [if_neg c29] at H
                exact absurd H (by simp)
            ·rw [if_neg c15] at H
             exact absurd H (by simp)
           ·rw [if_neg c14] at H
            exact absurd H (by simp)
          ·rw [if_neg c11] at H
           exact absurd H (by simp)
         ·rw [if_neg c10] at H
          exact absurd H (by simp)
        ·rw [if_neg c8] at H
         have c8b0 : decide (0 < x5_1) = false := decide_eq_false c8
         clear c8
         by_cases c31 : x6_2 < (a0.size : Int)
         ·rw [if_pos c31] at H
          have c31b0 : decide (x6_2 < (a0.size : Int)) = true := decide_eq_true c31
          clear c31
          by_cases c32 : 0 ≤ x6_2
          ·rw [if_pos c32] at H
           have c32b0 : decide (0 ≤ x6_2) = true := decide_eq_true c32
           clear c32
           by_cases c33 : x6_2 < (a0.size : Int)
           ·rw [if_pos c33] at H
            have c33b0 : decide (x6_2 < (a0.size : Int)) = true := decide_eq_true c33
            clear c33
            obtain ⟨ji35, hji35⟩ : ∃ j_ : Int, (wrap64 (x6_2 - t338)) = j_ := ⟨_, rfl⟩
            replace H : (if 0 ≤ (ji35) then (if (ji35) < (a0.size : Int) then (if (bt a0 x6_2) = (bt a0 (ji35)) then (spec_l03Runs.l1 k2 a0 x3_2 (a0.size : Int) x5_1 (wrap64 (x6_2 + 1))) else (if x3_2.length < 5864062014805 then (spec_l03Runs.l1 k2 a0 (x3_2 ++ [(⟨x5_1, x6_2, t338⟩ : S46)]) (a0.size : Int) x5_1 (wrap64 (x6_2 + 1))) else (none))) else (none)) else (none)) = some r := by first | (rw [hji35] at H; exact H) | (simp only [hji35] at H ⊢; exact H)
            (try rw [hji35] at A6)
            have hji35w : (IntKind.i64.wrap (x6_2 - t338)) = ji35 := (i64_w _).trans hji35
            by_cases c36 : 0 ≤ (ji35)
            ·rw [if_pos c36] at H
             have c36b0 : decide (0 ≤ (ji35)) = true := decide_eq_true c36
             clear c36
             by_cases c37 : (ji35) < (a0.size : Int)
             ·rw [if_pos c37] at H
              have c37b0 : decide ((ji35) < (a0.size : Int)) = true := decide_eq_true c37
              clear c37
              by_cases c39 : (bt a0 x6_2) = (bt a0 (ji35))
              ·rw [if_pos c39] at H
               have c39b0 : ((bt a0 x6_2) == (bt a0 (ji35))) = true := beq_iff_eq.mpr c39
               have c39b1 : ((bt a0 x6_2) != (bt a0 (ji35))) = false := bne_eq_false_iff_eq.mpr c39
               clear c39
               have H' := Aside0.mk H
               clear H
               go_wp2_with (first | (go_at_call 57; (with_reducible refine (spec_l03Period.calls k2 a0 x5_1 x6_2 t338 _ A6.out).mono ?_); rintro e w' ⟨rfl, ⟨nd, rfl⟩⟩; (try first | exact ⟨rfl, _, World.drewN_drewN _ _ _⟩ | exact ⟨rfl, _, Eq.trans (World.drewN_drewN _ _ _) (congrArg (World.drewN _) (Nat.add_assoc _ _ _))⟩); have p34 : 0 ≤ (x6_2 : Int) := of_decide_eq_true (by first | (with_reducible assumption) | assumption); have q34 : x6_2 < (a0.size : Int) := of_decide_eq_true (by first | (with_reducible assumption) | assumption); have hx34 := bt_at a0 x6_2; replace p34 := eq_true p34; replace q34 := eq_true q34; have p38 : 0 ≤ ((ji35) : Int) := of_decide_eq_true (by first | (with_reducible assumption) | assumption); have q38 : (ji35) < (a0.size : Int) := of_decide_eq_true (by first | (with_reducible assumption) | assumption); have hx38 := bt_at a0 (ji35); replace p38 := eq_true p38; replace q38 := eq_true q38))
               repeat (go_quiet (first | (go_at_call 57; (with_reducible refine (spec_l03Period.calls k2 a0 x5_1 x6_2 t338 _ A6.out).mono ?_); rintro e w' ⟨rfl, ⟨nd, rfl⟩⟩; (try first | exact ⟨rfl, _, World.drewN_drewN _ _ _⟩ | exact ⟨rfl, _, Eq.trans (World.drewN_drewN _ _ _) (congrArg (World.drewN _) (Nat.add_assoc _ _ _))⟩); have p34 : 0 ≤ (x6_2 : Int) := of_decide_eq_true (by first | (with_reducible assumption) | assumption); have q34 : x6_2 < (a0.size : Int) := of_decide_eq_true (by first | (with_reducible assumption) | assumption); have hx34 := bt_at a0 x6_2; replace p34 := eq_true p34; replace q34 := eq_true q34; have p38 : 0 ≤ ((ji35) : Int) := of_decide_eq_true (by first | (with_reducible assumption) | assumption); have q38 : (ji35) < (a0.size : Int) := of_decide_eq_true (by first | (with_reducible assumption) | assumption); have hx38 := bt_at a0 (ji35); replace p38 := eq_true p38; replace q38 := eq_true q38)); try go_wp2_with (first | (go_at_call 57; (with_reducible refine (spec_l03Period.calls k2 a0 x5_1 x6_2 t338 _ A6.out).mono ?_); rintro e w' ⟨rfl, ⟨nd, rfl⟩⟩; (try first | exact ⟨rfl, _, World.drewN_drewN _ _ _⟩ | exact ⟨rfl, _, Eq.trans (World.drewN_drewN _ _ _) (congrArg (World.drewN _) (Nat.add_assoc _ _ _))⟩); have p34 : 0 ≤ (x6_2 : Int) := of_decide_eq_true (by first | (with_reducible assumption) | assumption); have q34 : x6_2 < (a0.size : Int) := of_decide_eq_true (by first | (with_reducible assumption) | assumption); have hx34 := bt_at a0 x6_2; replace p34 := eq_true p34; replace q34 := eq_true q34; have p38 : 0 ≤ ((ji35) : Int) := of_decide_eq_true (by first | (with_reducible assumption) | assumption); have q38 : (ji35) < (a0.size : Int) := of_decide_eq_true (by first | (with_reducible assumption) | assumption); have hx38 := bt_at a0 (ji35); replace p38 := eq_true p38; replace q38 := eq_true q38)))
               go_roundg k2
               case measure => have := HK1.out; have := HK2.out; omega
               case rel => exact ⟨(x3_2), (wrap64 (x6_2 + 1)), (by first | rfl | (simp; done) | (simp [*]; done)), H', ⟨by have := HK1.out; have := HK2.out; omega⟩, ⟨by (with_reducible repeat (first | apply Kd.R_alloc | apply Kd.R_drewN | apply Kd.R_drew)); exact HO_3.out⟩, ⟨by repeat (first | (with_reducible first | exact HB.out | apply below_alloc | apply pw_below_drewN | apply below_drew1) | exact HB.out)⟩⟩
              ·rw [if_neg c39] at H
               have c39b0 : ((bt a0 x6_2) == (bt a0 (ji35))) = false := beq_eq_false_iff_ne.mpr c39
               have c39b1 : ((bt a0 x6_2) != (bt a0 (ji35))) = true := bne_iff_ne.mpr c39
               by_cases c40 : x3_2.length < 5864062014805
               ·rw [if_pos c40] at H
                have LMc40 := Aside0.mk c40
                clear c40
                obtain ⟨y345, hy345⟩ : ∃ y_ : List (S46), y_ = (x3_2 ++ [(⟨x5_1, x6_2, t338⟩ : S46)]) := ⟨_, rfl⟩
                replace H : (spec_l03Runs.l1 k2 a0 y345 (a0.size : Int) x5_1 (wrap64 (x6_2 + 1))) = some r := by first | (rw [hy345]; with_reducible exact H) | (have H2_ := (Option.bind_some _ _).symm.trans H; rw [hy345]; with_reducible exact H2_) | (have H2_ := (Option.bind_some _ _).symm.trans H; with_reducible exact H2_) | with_reducible exact H | (rw [hy345]; exact H) | exact H
                have Ny345 := Aside0.mk hy345
                clear hy345
                have H' := Aside0.mk H
                clear H
                go_wp2_with (first | (go_at_call 57; (with_reducible refine (spec_l03Period.calls k2 a0 x5_1 x6_2 t338 _ A6.out).mono ?_); rintro e w' ⟨rfl, ⟨nd, rfl⟩⟩; (try first | exact ⟨rfl, _, World.drewN_drewN _ _ _⟩ | exact ⟨rfl, _, Eq.trans (World.drewN_drewN _ _ _) (congrArg (World.drewN _) (Nat.add_assoc _ _ _))⟩); have p34 : 0 ≤ (x6_2 : Int) := of_decide_eq_true (by first | (with_reducible assumption) | assumption); have q34 : x6_2 < (a0.size : Int) := of_decide_eq_true (by first | (with_reducible assumption) | assumption); have hx34 := bt_at a0 x6_2; replace p34 := eq_true p34; replace q34 := eq_true q34; have p38 : 0 ≤ ((ji35) : Int) := of_decide_eq_true (by first | (with_reducible assumption) | assumption); have q38 : (ji35) < (a0.size : Int) := of_decide_eq_true (by first | (with_reducible assumption) | assumption); have hx38 := bt_at a0 (ji35); replace p38 := eq_true p38; replace q38 := eq_true q38) | ((with_reducible refine gate_builtin (b := .append) (xs := #[.tmp 66, .tmp 71]) rfl ?_); at_builtin; refine Kd.R_append k46 (w0 := w) w.heap.size rfl (.tmp 66) (.tmp 71) 25 46 (.agg #[(.int .i64 0), (.int .i64 0), (.int .i64 0)]) 24 rfl Tryz.underlying25 info46 rfl (by decide) (by omega) u3 x3_2 (⟨x5_1, x6_2, t338⟩ : S46) [.int .i64 x5_1, .int .i64 x6_2, .int .i64 t338] (fun _ => True) (fun _ => False) rfl rfl ?aP (fun _ hk => hk.elim) ?aF ?aO ?aB ?aS ?aL ?_; (case aP => exact k46_mkM _ _ _ (⟨x5_1, x6_2, t338⟩ : S46)); (case aB => exact (by repeat (first | (with_reducible first | exact HB.out | apply below_alloc | apply pw_below_drewN | apply below_drew1) | exact HB.out))); (case aF => exact (fun _ _ => trivial)); (case aO => exact (by (with_reducible repeat (first | apply Kd.R_alloc | apply Kd.R_drewN | apply Kd.R_drew)); exact HO_3.out)); (case aS => exact (below_size (by repeat (first | (with_reducible first | exact HB.out | apply below_alloc | apply pw_below_drewN | apply below_drew1) | exact HB.out)))); (case aL => have := LMc40.out; omega); intro v346 w41 ho hb hg hat; rw [← Ny345.out] at ho; have n0_ := Aside0.mk (hb); have n1_ := Aside0.mk (ho); clear HB; clear HO_3; have HB := n0_; have HO347 := n1_; clear n0_ n1_; clear ho hb hg hat))
                repeat (go_quiet (first | (go_at_call 57; (with_reducible refine (spec_l03Period.calls k2 a0 x5_1 x6_2 t338 _ A6.out).mono ?_); rintro e w' ⟨rfl, ⟨nd, rfl⟩⟩; (try first | exact ⟨rfl, _, World.drewN_drewN _ _ _⟩ | exact ⟨rfl, _, Eq.trans (World.drewN_drewN _ _ _) (congrArg (World.drewN _) (Nat.add_assoc _ _ _))⟩); have p34 : 0 ≤ (x6_2 : Int) := of_decide_eq_true (by first | (with_reducible assumption) | assumption); have q34 : x6_2 < (a0.size : Int) := of_decide_eq_true (by first | (with_reducible assumption) | assumption); have hx34 := bt_at a0 x6_2; replace p34 := eq_true p34; replace q34 := eq_true q34; have p38 : 0 ≤ ((ji35) : Int) := of_decide_eq_true (by first | (with_reducible assumption) | assumption); have q38 : (ji35) < (a0.size : Int) := of_decide_eq_true (by first | (with_reducible assumption) | assumption); have hx38 := bt_at a0 (ji35); replace p38 := eq_true p38; replace q38 := eq_true q38) | ((with_reducible refine gate_builtin (b := .append) (xs := #[.tmp 66, .tmp 71]) rfl ?_); at_builtin; refine Kd.R_append k46 (w0 := w) w.heap.size rfl (.tmp 66) (.tmp 71) 25 46 (.agg #[(.int .i64 0), (.int .i64 0), (.int .i64 0)]) 24 rfl Tryz.underlying25 info46 rfl (by decide) (by omega) u3 x3_2 (⟨x5_1, x6_2, t338⟩ : S46) [.int .i64 x5_1, .int .i64 x6_2, .int .i64 t338] (fun _ => True) (fun _ => False) rfl rfl ?aP (fun _ hk => hk.elim) ?aF ?aO ?aB ?aS ?aL ?_; (case aP => exact k46_mkM _ _ _ (⟨x5_1, x6_2, t338⟩ : S46)); (case aB => exact (by repeat (first | (with_reducible first | exact HB.out | apply below_alloc | apply pw_below_drewN | apply below_drew1) | exact HB.out))); (case aF => exact (fun _ _ => trivial)); (case aO => exact (by (with_reducible repeat (first | apply Kd.R_alloc | apply Kd.R_drewN | apply Kd.R_drew)); exact HO_3.out)); (case aS => exact (below_size (by repeat (first | (with_reducible first | exact HB.out | apply below_alloc | apply pw_below_drewN | apply below_drew1) | exact HB.out)))); (case aL => have := LMc40.out; omega); intro v346 w41 ho hb hg hat; rw [← Ny345.out] at ho; have n0_ := Aside0.mk (hb); have n1_ := Aside0.mk (ho); clear HB; clear HO_3; have HB := n0_; have HO347 := n1_; clear n0_ n1_; clear ho hb hg hat)); try go_wp2_with (first | (go_at_call 57; (with_reducible refine (spec_l03Period.calls k2 a0 x5_1 x6_2 t338 _ A6.out).mono ?_); rintro e w' ⟨rfl, ⟨nd, rfl⟩⟩; (try first | exact ⟨rfl, _, World.drewN_drewN _ _ _⟩ | exact ⟨rfl, _, Eq.trans (World.drewN_drewN _ _ _) (congrArg (World.drewN _) (Nat.add_assoc _ _ _))⟩); have p34 : 0 ≤ (x6_2 : Int) := of_decide_eq_true (by first | (with_reducible assumption) | assumption); have q34 : x6_2 < (a0.size : Int) := of_decide_eq_true (by first | (with_reducible assumption) | assumption); have hx34 := bt_at a0 x6_2; replace p34 := eq_true p34; replace q34 := eq_true q34; have p38 : 0 ≤ ((ji35) : Int) := of_decide_eq_true (by first | (with_reducible assumption) | assumption); have q38 : (ji35) < (a0.size : Int) := of_decide_eq_true (by first | (with_reducible assumption) | assumption); have hx38 := bt_at a0 (ji35); replace p38 := eq_true p38; replace q38 := eq_true q38) | ((with_reducible refine gate_builtin (b := .append) (xs := #[.tmp 66, .tmp 71]) rfl ?_); at_builtin; refine Kd.R_append k46 (w0 := w) w.heap.size rfl (.tmp 66) (.tmp 71) 25 46 (.agg #[(.int .i64 0), (.int .i64 0), (.int .i64 0)]) 24 rfl Tryz.underlying25 info46 rfl (by decide) (by omega) u3 x3_2 (⟨x5_1, x6_2, t338⟩ : S46) [.int .i64 x5_1, .int .i64 x6_2, .int .i64 t338] (fun _ => True) (fun _ => False) rfl rfl ?aP (fun _ hk => hk.elim) ?aF ?aO ?aB ?aS ?aL ?_; (case aP => exact k46_mkM _ _ _ (⟨x5_1, x6_2, t338⟩ : S46)); (case aB => exact (by repeat (first | (with_reducible first | exact HB.out | apply below_alloc | apply pw_below_drewN | apply below_drew1) | exact HB.out))); (case aF => exact (fun _ _ => trivial)); (case aO => exact (by (with_reducible repeat (first | apply Kd.R_alloc | apply Kd.R_drewN | apply Kd.R_drew)); exact HO_3.out)); (case aS => exact (below_size (by repeat (first | (with_reducible first | exact HB.out | apply below_alloc | apply pw_below_drewN | apply below_drew1) | exact HB.out)))); (case aL => have := LMc40.out; omega); intro v346 w41 ho hb hg hat; rw [← Ny345.out] at ho; have n0_ := Aside0.mk (hb); have n1_ := Aside0.mk (ho); clear HB; clear HO_3; have HB := n0_; have HO347 := n1_; clear n0_ n1_; clear ho hb hg hat)))
                go_roundg k2
                case measure => have := HK1.out; have := HK2.out; omega
                case rel => exact ⟨(y345), (wrap64 (x6_2 + 1)), (by first | rfl | (simp; done) | (simp [*]; done)), H', ⟨by have := HK1.out; have := HK2.out; omega⟩, ⟨by (with_reducible repeat (first | apply Kd.R_alloc | apply Kd.R_drewN | apply Kd.R_drew)); exact HO347.out⟩, ⟨by repeat (first | (with_reducible first | exact HB.out | apply below_alloc | apply pw_below_drewN | apply below_drew1) | exact HB.out)⟩⟩
               ·rw [if_neg c40] at H
                exact absurd H (by simp)
             ·rw [if_neg c37] at H
              exact absurd H (by simp)
            ·rw [if_neg c36] at H
             exact absurd H (by simp)
           ·rw [if_neg c33] at H
            exact absurd H (by simp)
          ·rw [if_neg c32] at H
           exact absurd H (by simp)
         ·rw [if_neg c31] at H
          have c31b0 : decide (x6_2 < (a0.size : Int)) = false := decide_eq_false c31
          clear c31
          by_cases c42 : x3_2.length < 5864062014805
          ·rw [if_pos c42] at H
           have LMc42 := Aside0.mk c42
           clear c42
           obtain ⟨y348, hy348⟩ : ∃ y_ : List (S46), y_ = (x3_2 ++ [(⟨x5_1, x6_2, t338⟩ : S46)]) := ⟨_, rfl⟩
           replace H : (spec_l03Runs.l1 k2 a0 y348 (a0.size : Int) x5_1 (wrap64 (x6_2 + 1))) = some r := by first | (rw [hy348]; with_reducible exact H) | (have H2_ := (Option.bind_some _ _).symm.trans H; rw [hy348]; with_reducible exact H2_) | (have H2_ := (Option.bind_some _ _).symm.trans H; with_reducible exact H2_) | with_reducible exact H | (rw [hy348]; exact H) | exact H
           have Ny348 := Aside0.mk hy348
           clear hy348
           have H' := Aside0.mk H
           clear H
           go_wp2_with (first | (go_at_call 57; (with_reducible refine (spec_l03Period.calls k2 a0 x5_1 x6_2 t338 _ A6.out).mono ?_); rintro e w' ⟨rfl, ⟨nd, rfl⟩⟩; (try first | exact ⟨rfl, _, World.drewN_drewN _ _ _⟩ | exact ⟨rfl, _, Eq.trans (World.drewN_drewN _ _ _) (congrArg (World.drewN _) (Nat.add_assoc _ _ _))⟩)) | ((with_reducible refine gate_builtin (b := .append) (xs := #[.tmp 66, .tmp 71]) rfl ?_); at_builtin; refine Kd.R_append k46 (w0 := w) w.heap.size rfl (.tmp 66) (.tmp 71) 25 46 (.agg #[(.int .i64 0), (.int .i64 0), (.int .i64 0)]) 24 rfl Tryz.underlying25 info46 rfl (by decide) (by omega) u3 x3_2 (⟨x5_1, x6_2, t338⟩ : S46) [.int .i64 x5_1, .int .i64 x6_2, .int .i64 t338] (fun _ => True) (fun _ => False) rfl rfl ?aP (fun _ hk => hk.elim) ?aF ?aO ?aB ?aS ?aL ?_; (case aP => exact k46_mkM _ _ _ (⟨x5_1, x6_2, t338⟩ : S46)); (case aB => exact (by repeat (first | (with_reducible first | exact HB.out | apply below_alloc | apply pw_below_drewN | apply below_drew1) | exact HB.out))); (case aF => exact (fun _ _ => trivial)); (case aO => exact (by (with_reducible repeat (first | apply Kd.R_alloc | apply Kd.R_drewN | apply Kd.R_drew)); exact HO_3.out)); (case aS => exact (below_size (by repeat (first | (with_reducible first | exact HB.out | apply below_alloc | apply pw_below_drewN | apply below_drew1) | exact HB.out)))); (case aL => have := LMc42.out; omega); intro v349 w43 ho hb hg hat; rw [← Ny348.out] at ho; have n0_ := Aside0.mk (hb); have n1_ := Aside0.mk (ho); clear HB; clear HO_3; have HB := n0_; have HO350 := n1_; clear n0_ n1_; clear ho hb hg hat))
           repeat (go_quiet (first | (go_at_call 57; (with_reducible refine (spec_l03Period.calls k2 a0 x5_1 x6_2 t338 _ A6.out).mono ?_); rintro e w' ⟨rfl, ⟨nd, rfl⟩⟩; (try first | exact ⟨rfl, _, World.drewN_drewN _ _ _⟩ | exact ⟨rfl, _, Eq.trans (World.drewN_drewN _ _ _) (congrArg (World.drewN _) (Nat.add_assoc _ _ _))⟩)) | ((with_reducible refine gate_builtin (b := .append) (xs := #[.tmp 66, .tmp 71]) rfl ?_); at_builtin; refine Kd.R_append k46 (w0 := w) w.heap.size rfl (.tmp 66) (.tmp 71) 25 46 (.agg #[(.int .i64 0), (.int .i64 0), (.int .i64 0)]) 24 rfl Tryz.underlying25 info46 rfl (by decide) (by omega) u3 x3_2 (⟨x5_1, x6_2, t338⟩ : S46) [.int .i64 x5_1, .int .i64 x6_2, .int .i64 t338] (fun _ => True) (fun _ => False) rfl rfl ?aP (fun _ hk => hk.elim) ?aF ?aO ?aB ?aS ?aL ?_; (case aP => exact k46_mkM _ _ _ (⟨x5_1, x6_2, t338⟩ : S46)); (case aB => exact (by repeat (first | (with_reducible first | exact HB.out | apply below_alloc | apply pw_below_drewN | apply below_drew1) | exact HB.out))); (case aF => exact (fun _ _ => trivial)); (case aO => exact (by (with_reducible repeat (first | apply Kd.R_alloc | apply Kd.R_drewN | apply Kd.R_drew)); exact HO_3.out)); (case aS => exact (below_size (by repeat (first | (with_reducible first | exact HB.out | apply below_alloc | apply pw_below_drewN | apply below_drew1) | exact HB.out)))); (case aL => have := LMc42.out; omega); intro v349 w43 ho hb hg hat; rw [← Ny348.out] at ho; have n0_ := Aside0.mk (hb); have n1_ := Aside0.mk (ho); clear HB; clear HO_3; have HB := n0_; have HO350 := n1_; clear n0_ n1_; clear ho hb hg hat)); try go_wp2_with (first | (go_at_call 57; (with_reducible refine (spec_l03Period.calls k2 a0 x5_1 x6_2 t338 _ A6.out).mono ?_); rintro e w' ⟨rfl, ⟨nd, rfl⟩⟩; (try first | exact ⟨rfl, _, World.drewN_drewN _ _ _⟩ | exact ⟨rfl, _, Eq.trans (World.drewN_drewN _ _ _) (congrArg (World.drewN _) (Nat.add_assoc _ _ _))⟩)) | ((with_reducible refine gate_builtin (b := .append) (xs := #[.tmp 66, .tmp 71]) rfl ?_); at_builtin; refine Kd.R_append k46 (w0 := w) w.heap.size rfl (.tmp 66) (.tmp 71) 25 46 (.agg #[(.int .i64 0), (.int .i64 0), (.int .i64 0)]) 24 rfl Tryz.underlying25 info46 rfl (by decide) (by omega) u3 x3_2 (⟨x5_1, x6_2, t338⟩ : S46) [.int .i64 x5_1, .int .i64 x6_2, .int .i64 t338] (fun _ => True) (fun _ => False) rfl rfl ?aP (fun _ hk => hk.elim) ?aF ?aO ?aB ?aS ?aL ?_; (case aP => exact k46_mkM _ _ _ (⟨x5_1, x6_2, t338⟩ : S46)); (case aB => exact (by repeat (first | (with_reducible first | exact HB.out | apply below_alloc | apply pw_below_drewN | apply below_drew1) | exact HB.out))); (case aF => exact (fun _ _ => trivial)); (case aO => exact (by (with_reducible repeat (first | apply Kd.R_alloc | apply Kd.R_drewN | apply Kd.R_drew)); exact HO_3.out)); (case aS => exact (below_size (by repeat (first | (with_reducible first | exact HB.out | apply below_alloc | apply pw_below_drewN | apply below_drew1) | exact HB.out)))); (case aL => have := LMc42.out; omega); intro v349 w43 ho hb hg hat; rw [← Ny348.out] at ho; have n0_ := Aside0.mk (hb); have n1_ := Aside0.mk (ho); clear HB; clear HO_3; have HB := n0_; have HO350 := n1_; clear n0_ n1_; clear ho hb hg hat)))
           go_roundg k2
           case measure => have := HK1.out; have := HK2.out; omega
           case rel => exact ⟨(y348), (wrap64 (x6_2 + 1)), (by first | rfl | (simp; done) | (simp [*]; done)), H', ⟨by have := HK1.out; have := HK2.out; omega⟩, ⟨by (with_reducible repeat (first | apply Kd.R_alloc | apply Kd.R_drewN | apply Kd.R_drew)); exact HO350.out⟩, ⟨by repeat (first | (with_reducible first | exact HB.out | apply below_alloc | apply pw_below_drewN | apply below_drew1) | exact HB.out)⟩⟩
          ·rw [if_neg c42] at H
           exact absurd H (by simp)
      ·rw [if_neg c5] at H
       have c5b0 : decide (x6_2 ≤ (a0.size : Int)) = false := decide_eq_false c5
       clear c5
       have H' := Aside0.mk H
       clear H
       go_wp2
       repeat (go_quiet (fail); try go_wp2)
       go_roundg k2
       case measure => have := HK1.out; have := HK2.out; omega
       case rel => exact ⟨(x3_2), (wrap64 (x5_1 + 1)), (by first | rfl | (simp; done) | (simp [*]; done)), H', ⟨by have := HK1.out; have := HK2.out; omega⟩, ⟨by (with_reducible repeat (first | apply Kd.R_alloc | apply Kd.R_drewN | apply Kd.R_drew)); exact HO_3.out⟩, ⟨by repeat (first | (with_reducible first | exact HB.out | apply below_alloc | apply pw_below_drewN | apply below_drew1) | exact HB.out)⟩⟩
   ·rw [if_neg c4] at H
    have c4b0 : decide (x5_1 < (a0.size : Int)) = false := decide_eq_false c4
    clear c4
    obtain rfl := Option.some.inj H
    go_wp2
    repeat (go_quiet (fail); try go_wp2)
    go_ret
    exact ⟨_, by first | rfl | (simp [errW_none, errW_some] <;> rfl) | (simp [*, errW_none, errW_some] <;> rfl), by (with_reducible repeat (first | apply Kd.R_alloc | apply Kd.R_drewN | apply Kd.R_drew)); exact HO_3.out, by repeat (first | (with_reducible first | exact HB.out | apply below_alloc | apply pw_below_drewN | apply below_drew1) | exact HB.out)⟩

end Go.Proofs.YteakipdmpjlhiabGreat.Q

namespace Go.Proofs.YteakipdmpjlhiabGreat.Q
open Go.RowKit Go.Proofs.YteakipdmpjlhiabGreatW.PrintWords Go.Proofs.YteakipdmpjlhiabGreatW.PrintLast Go.Proofs.YteakipdmpjlhiabGreatW.PrintMore
attribute [local go_sem] max2_int min2_int max_two min_two max_three min_three max_four min_four bn_leq bn_gtr bn_geq   -- for this text's walks alone
set_option linter.unusedVariables false
set_option linter.unusedSimpArgs false

/-! ### spec_RunsOf: function 7 -/
def spec_RunsOf.f (k : Nat) (a0 : ByteArray) : Option ((List (S46)) × Int) := (spec_l01Is.f k a0).bind fun t351 => (if t351 = true then ((spec_l03Runs.f k a0).bind fun t352 => (some (t352, 0))) else (some (([] : List (S46)), 1)))
set_option maxHeartbeats 8000000 in
set_option maxRecDepth 100000 in
theorem spec_RunsOf.calls (k : Nat) (a0 : ByteArray) (r1 : List (S46)) (r2 : Int) (w : World) (h : spec_RunsOf.f k a0 = some (r1, r2)) :
  Calls Tryz.prog 7 #[.string a0] w fun e w' => ∃ v0_ : Value, e = .returned (.tuple #[v0_, .int .i64 r2]) ∧ Kd.R k46 46 w' w.heap.size (fun _ => True) v0_ r1 ∧ Below w.heap.size w w' := by
 have HB := Aside0.mk (Below.refl w.heap.size w)
 have H : ((spec_l01Is.f k a0).bind fun t351 => (if t351 = true then ((spec_l03Runs.f k a0).bind fun t352 => (some (t352, 0))) else (some (([] : List (S46)), 1)))) = some (r1, r2) := h
 clear h
 replace H := Option.bind_eq_some_iff.mp H
 obtain ⟨t351, A20, H⟩ := H
 replace H : (if t351 = true then ((spec_l03Runs.f k a0).bind fun t352 => (some (t352, 0))) else (some (([] : List (S46)), 1))) = some (r1, r2) := H
 have A2 := Aside0.mk A20
 clear A20
 by_cases c3 : t351 = true
 ·subst c3
  have H1 : ((spec_l03Runs.f k a0).bind fun t352 => (some (t352, 0))) = some (r1, r2) := by rw [if_pos rfl] at H; exact H
  clear H
  have H := H1
  clear H1
  replace H := Option.bind_eq_some_iff.mp H
  obtain ⟨t352, A40, H⟩ := H
  replace H : (some (t352, 0)) = some (r1, r2) := H
  have A4 := Aside0.mk A40
  clear A40
  simp only [Option.some.injEq, Prod.mk.injEq] at H
  obtain ⟨rfl, rfl⟩ := H
  go_enter Tryz.func7, Tryz.ntmps7
  go_wp2_with (first | ((with_reducible refine gate_callee (f := 31) rfl ?_); refine goesL_ (some 5) rfl rfl Tryz.func31 (by kernel_rfl) rfl #[.string a0] rfl (by (try simp only [List.map_toArray, List.map_cons, List.map_nil]); first | done | rfl | (simp only [List.length_drop, List.length_take]; rfl)) ?_; (with_reducible refine (spec_l01Is.calls k a0 true _ A2.out).mono ?_); rintro e w' ⟨rfl, ⟨nd, rfl⟩⟩; refine ⟨_, rfl, ?_⟩) | ((with_reducible refine gate_callee (f := 32) rfl ?_); refine goesL_ (some 8) rfl rfl Tryz.func32 (by kernel_rfl) rfl #[.string a0] rfl (by (try simp only [List.map_toArray, List.map_cons, List.map_nil]); first | done | rfl | (simp only [List.length_drop, List.length_take]; rfl)) ?_; (with_reducible refine (spec_l03Runs.calls k a0 t352 _ A4.out).mono ?_); rintro e w5 ⟨v353, rfl, ho0, hb⟩; refine ⟨_, rfl, ?_⟩; have n0_ := Aside0.mk (Kd.R_lower ho0 (below_size (by repeat (first | (with_reducible first | exact HB.out | apply below_alloc | apply pw_below_drewN | apply below_drew1) | exact HB.out)))); have n1_ := Aside0.mk (below_step (by repeat (first | (with_reducible first | exact HB.out | apply below_alloc | apply pw_below_drewN | apply below_drew1) | exact HB.out)) hb); clear HB; have HO354 := n0_; have HB := n1_; clear n0_ n1_; (try clear hb); (try clear hb2); (try clear hk); (try clear hi); (try clear ho0)))
  go_ret2
  exact ⟨_, by first | rfl | (simp [errW_none, errW_some] <;> rfl) | (simp [*, errW_none, errW_some] <;> rfl), by (with_reducible repeat (first | apply Kd.R_alloc | apply Kd.R_drewN | apply Kd.R_drew)); exact HO354.out, by repeat (first | (with_reducible first | exact HB.out | apply below_alloc | apply pw_below_drewN | apply below_drew1) | exact HB.out)⟩
 ·replace c3 := Bool.eq_false_iff.mpr c3
  subst c3
  have H1 : (some (([] : List (S46)), 1)) = some (r1, r2) := by rw [if_neg (show ¬ (false = true) by decide)] at H; exact H
  clear H
  have H := H1
  clear H1
  simp only [Option.some.injEq, Prod.mk.injEq] at H
  obtain ⟨rfl, rfl⟩ := H
  go_enter Tryz.func7, Tryz.ntmps7
  go_wp2_with (first | ((with_reducible refine gate_callee (f := 31) rfl ?_); refine goesL_ (some 5) rfl rfl Tryz.func31 (by kernel_rfl) rfl #[.string a0] rfl (by (try simp only [List.map_toArray, List.map_cons, List.map_nil]); first | done | rfl | (simp only [List.length_drop, List.length_take]; rfl)) ?_; (with_reducible refine (spec_l01Is.calls k a0 false _ A2.out).mono ?_); rintro e w' ⟨rfl, ⟨nd, rfl⟩⟩; refine ⟨_, rfl, ?_⟩))
  go_ret2
  exact ⟨_, by first | rfl | (simp [errW_none, errW_some] <;> rfl) | (simp [*, errW_none, errW_some] <;> rfl), by first | exact Kd.R_nil _ _ _ _ _ | exact Kd.N_nil _ _ _ _ _ | exact Kd.V_nil _ _ _ _ _ | exact Kd.Q_nil _ _ _ _ _ | exact Kd.S_nil _ _ _ _ _, by repeat (first | (with_reducible first | exact HB.out | apply below_alloc | apply pw_below_drewN | apply below_drew1) | exact HB.out)⟩

end Go.Proofs.YteakipdmpjlhiabGreat.Q

namespace Go.Proofs.YteakipdmpjlhiabGreat.Q
open Go.RowKit Go.Proofs.YteakipdmpjlhiabGreatW.PrintWords Go.Proofs.YteakipdmpjlhiabGreatW.PrintLast Go.Proofs.YteakipdmpjlhiabGreatW.PrintMore
attribute [local go_sem] max2_int min2_int max_two min_two max_three min_three max_four min_four bn_leq bn_gtr bn_geq   -- for this text's walks alone
set_option linter.unusedVariables false
set_option linter.unusedSimpArgs false

/-! ### impl_powersIn: function 35 -/
mutual
def impl_powersIn.l0 : Nat → ByteArray → Int → List (List Int) → Int → Int → Option ((List (List Int)))
 | 0, _, _, _, _, _ => none
 | k + 1, x0, x1, x5, x9, x10 => if x10 < x9 then (impl_powersIn.l1 k x0 x1 x5 x10 1 x9 x10) else (some x5)
def impl_powersIn.l1 : Nat → ByteArray → Int → List (List Int) → Int → Int → Int → Int → Option ((List (List Int)))
 | 0, _, _, _, _, _, _, _ => none
 | k + 1, x0, x1, x5, x6, x7, x9, x10 => if (wrap64 (x6 + (wrap64 (x1 * x7)))) ≤ (x0.size : Int) then (if 0 ≤ x6 then (if x6 ≤ (wrap64 (x6 + (wrap64 (x1 * x7)))) then ((impl_hasPeriod.f (x0.extract (x6 : Int).toNat ((wrap64 (x6 + (wrap64 (x1 * x7)))) : Int).toNat) x7).bind fun t355 => (if t355 = true then (if x5.length < 5864062014805 then (impl_powersIn.l1 k x0 x1 (x5 ++ [(([x6, x7] : List Int))]) x6 (wrap64 (x7 + 1)) x9 x10) else (none)) else (impl_powersIn.l1 k x0 x1 x5 x6 (wrap64 (x7 + 1)) x9 x10))) else (none)) else (none)) else (impl_powersIn.l0 k x0 x1 x5 x9 (wrap64 (x10 + 1)))
end
def impl_powersIn.f (k : Nat) (a0 : ByteArray) (a1 : Int) : Option ((List (List Int))) := impl_powersIn.l0 k a0 a1 ([] : List (List Int)) (a0.size : Int) 0
set_option maxHeartbeats 8000000 in
set_option maxRecDepth 100000 in
theorem impl_powersIn.calls (k : Nat) (a0 : ByteArray) (a1 : Int) (r : List (List Int)) (w : World) (h : impl_powersIn.f k a0 a1 = some r) :
  Calls Tryz.prog 35 #[.string a0, .int .i64 a1] w fun e w' => ∃ v0_ : Value, e = .returned (v0_) ∧ Kd.S (Kd.slice 2 (Kd.int .i64)) 42 w' w.heap.size (fun _ => True) v0_ r ∧ Below w.heap.size w w' := by
 have HB := Aside0.mk (Below.refl w.heap.size w)
 have H : (impl_powersIn.l0 k a0 a1 ([] : List (List Int)) (a0.size : Int) 0) = some r := h
 clear h
 have H' := Aside0.mk H
 clear H
 go_enter Tryz.func35, Tryz.ntmps35
 go_wp2
 go_loopg [5, 10] k (fun kq v5 v10 w' => ∃ (x5_1 : List (List Int)) (x10_1 : Int), v10 = .int .i64 x10_1 ∧ Aside0 (impl_powersIn.l0 kq a0 a1 x5_1 (a0.size : Int) x10_1 = some r) ∧ Aside0 (kq ≤ k) ∧ Aside0 (Kd.S (Kd.slice 2 (Kd.int .i64)) 42 w' w.heap.size (fun _ => True) v5 x5_1) ∧ Aside0 (Below w.heap.size w w'))
 case atStart => exact ⟨(([] : List (List Int))), (0), (by first | rfl | (simp; done) | (simp [*]; done)), H', ⟨Nat.le_refl _⟩, ⟨by first | exact Kd.S_nil _ _ _ _ _ | exact Kd.N_nil _ _ _ _ _ | exact Kd.V_nil _ _ _ _ _ | exact Kd.Q_nil _ _ _ _ _ | exact Kd.R_nil _ _ _ _ _⟩, ⟨by repeat (first | (with_reducible first | exact HB.out | apply below_alloc | apply pw_below_drewN | apply below_drew1) | exact HB.out)⟩⟩
 case round =>
  clear H'
  try clear p2
  obtain ⟨x5_1, x10_1, rfl, HA, HK1, HO_5, HB⟩ := hrel
  cases gk with
  | zero => exact absurd HA.out (by simp [impl_powersIn.l0])
  | succ k1 =>
   have H := HA.out
   clear HA
   simp only [impl_powersIn.l0] at H
   by_cases c3 : x10_1 < (a0.size : Int)
   ·rw [if_pos c3] at H
    have c3b0 : decide (x10_1 < (a0.size : Int)) = true := decide_eq_true c3
    clear c3
    have H' := Aside0.mk H
    clear H
    go_wp2
    go_loopg [5, 7] k1 (fun kq v5 v7 w' => ∃ (x5_2 : List (List Int)) (x7_2 : Int), v7 = .int .i64 x7_2 ∧ Aside0 (impl_powersIn.l1 kq a0 a1 x5_2 x10_1 x7_2 (a0.size : Int) x10_1 = some r) ∧ Aside0 (kq ≤ k1) ∧ Aside0 (Kd.S (Kd.slice 2 (Kd.int .i64)) 42 w' w.heap.size (fun _ => True) v5 x5_2) ∧ Aside0 (Below w.heap.size w w'))
    case atStart => exact ⟨(x5_1), (1), (by first | rfl | (simp; done) | (simp [*]; done)), H', ⟨Nat.le_refl _⟩, ⟨by (with_reducible repeat (first | apply Kd.S_alloc | apply Kd.S_drewN | apply Kd.S_drew)); exact HO_5.out⟩, ⟨by repeat (first | (with_reducible first | exact HB.out | apply below_alloc | apply pw_below_drewN | apply below_drew1) | exact HB.out)⟩⟩
    case round =>
     clear H'
     try clear p2
     try clear c3
     try clear c3b0
     try clear p2
     obtain ⟨x5_2, x7_2, rfl, HA, HK2, HO_5, HB⟩ := hrel
     cases gk with
     | zero => exact absurd HA.out (by simp [impl_powersIn.l1])
     | succ k2 =>
      have H := HA.out
      clear HA
      simp only [impl_powersIn.l1] at H
      by_cases c4 : (wrap64 (x10_1 + (wrap64 (a1 * x7_2)))) ≤ (a0.size : Int)
      ·rw [if_pos c4] at H
       have c4b0 : decide ((wrap64 (x10_1 + (wrap64 (a1 * x7_2)))) ≤ (a0.size : Int)) = true := decide_eq_true c4
       clear c4
       by_cases c5 : 0 ≤ x10_1
       ·rw [if_pos c5] at H
        have c5b0 := eq_true c5
        have c5b1 : decide (0 ≤ x10_1) = true := decide_eq_true c5
        clear c5
        by_cases c6 : x10_1 ≤ (wrap64 (x10_1 + (wrap64 (a1 * x7_2))))
        ·rw [if_pos c6] at H
         have c6b0 := eq_true c6
         have c6b1 : decide (x10_1 ≤ (wrap64 (x10_1 + (wrap64 (a1 * x7_2))))) = true := decide_eq_true c6
         have c7b0 := eq_true (of_decide_eq_true (by first | (with_reducible assumption) | assumption) : (wrap64 (x10_1 + (wrap64 (a1 * x7_2)))) ≤ (a0.size : Int))
         replace H := Option.bind_eq_some_iff.mp H
         obtain ⟨t355, A80, H⟩ := H
         replace H : (if t355 = true then (if x5_2.length < 5864062014805 then (impl_powersIn.l1 k2 a0 a1 (x5_2 ++ [(([x10_1, x7_2] : List Int))]) x10_1 (wrap64 (x7_2 + 1)) (a0.size : Int) x10_1) else (none)) else (impl_powersIn.l1 k2 a0 a1 x5_2 x10_1 (wrap64 (x7_2 + 1)) (a0.size : Int) x10_1)) = some r := H
         have A8 := Aside0.mk A80
         clear A80
         by_cases c9 : t355 = true
         ·subst c9
          have H1 : (if x5_2.length < 5864062014805 then (impl_powersIn.l1 k2 a0 a1 (x5_2 ++ [(([x10_1, x7_2] : List Int))]) x10_1 (wrap64 (x7_2 + 1)) (a0.size : Int) x10_1) else (none)) = some r := by rw [if_pos rfl] at H; exact H
          clear H
          have H := H1
          clear H1
          obtain ⟨y356, hy356⟩ : ∃ y_ : List Int, y_ = (([x10_1, x7_2] : List Int)) := ⟨_, rfl⟩
          replace H : (if x5_2.length < 5864062014805 then (impl_powersIn.l1 k2 a0 a1 (x5_2 ++ [y356]) x10_1 (wrap64 (x7_2 + 1)) (a0.size : Int) x10_1) else (none)) = some r := by first | (rw [hy356]; with_reducible exact H) | (have H2_ := (Option.bind_some _ _).symm.trans H; rw [hy356]; with_reducible exact H2_) | (have H2_ := (Option.bind_some _ _).symm.trans H; with_reducible exact H2_) | with_reducible exact H | (rw [hy356]; exact H) | exact H
          have Ny356 := Aside0.mk hy356
          clear hy356
          by_cases c10 : x5_2.length < 5864062014805
          ·rw [if_pos c10] at H
           have LMc10 := Aside0.mk c10
           clear c10
           obtain ⟨y359, hy359⟩ : ∃ y_ : List (List Int), y_ = (x5_2 ++ [y356]) := ⟨_, rfl⟩
           replace H : (impl_powersIn.l1 k2 a0 a1 y359 x10_1 (wrap64 (x7_2 + 1)) (a0.size : Int) x10_1) = some r := by first | (rw [hy359]; with_reducible exact H) | (have H2_ := (Option.bind_some _ _).symm.trans H; rw [hy359]; with_reducible exact H2_) | (have H2_ := (Option.bind_some _ _).symm.trans H; with_reducible exact H2_) | with_reducible exact H | (rw [hy359]; exact H) | exact H
           have Ny359 := Aside0.mk hy359
           clear hy359
           have H' := Aside0.mk H
           clear H
           go_wp2_with (first | ((with_reducible refine gate_callee (f := 30) rfl ?_); refine goesL_ (some 32) rfl rfl Tryz.func30 (by kernel_rfl) rfl #[.string (a0.extract (x10_1 : Int).toNat ((wrap64 (x10_1 + (wrap64 (a1 * x7_2)))) : Int).toNat), .int .i64 x7_2] rfl (by (try simp only [List.map_toArray, List.map_cons, List.map_nil]); first | done | rfl | (simp only [List.length_drop, List.length_take]; rfl)) ?_; (with_reducible refine (impl_hasPeriod.calls (a0.extract (x10_1 : Int).toNat ((wrap64 (x10_1 + (wrap64 (a1 * x7_2)))) : Int).toNat) x7_2 true _ A8.out).mono ?_); rintro e w' ⟨rfl, ⟨nd, rfl⟩⟩; refine ⟨_, rfl, ?_⟩) | ((with_reducible refine gate_dst (N := 36) rfl ?_); refine Kd.R_lit (Kd.int .i64) _ 2 ?hg (N := 36) ?hd (xs := ([x10_1, x7_2] : List Int)) (inner := [.int .i64 x10_1, .int .i64 x7_2]) (ok := fun _ => True) (okp := fun _ => True) ?hr ?hp (fun _ hk => hk) trivial (Below.refl _ _) (Nat.le_refl _) (by simp) ?_; (case hd => rfl); (case hg => rfl); (case hr => first | (go_simp; done) | (go_simp; rfl)); (case hp => exact (Reps.one (show Kd.M (Kd.int .i64) _ _ _ x10_1 [.int .i64 x10_1] from rfl) (Reps.one (show Kd.M (Kd.int .i64) _ _ _ x7_2 [.int .i64 x7_2] from rfl) (Reps.none _ _)))); intro v357 w11 ho12 hb hg_ hnew_; clear hg_ hnew_; (first | rw [← Ny356.out] at ho12 | (simp only [Int.reduceToNat] at ho12; rw [← Ny356.out] at ho12)); have n0_ := Aside0.mk (Kd.S_elder' (by (with_reducible repeat (first | apply Kd.S_alloc | apply Kd.S_drewN | apply Kd.S_drew)); exact HO_5.out) (Kd.R_base ho12) hb); have n1_ := Aside0.mk (Kd.R_lower ho12 (below_size (by repeat (first | (with_reducible first | exact HB.out | apply below_alloc | apply pw_below_drewN | apply below_drew1) | exact HB.out)))); have n2_ := Aside0.mk (below_step (by repeat (first | (with_reducible first | exact HB.out | apply below_alloc | apply pw_below_drewN | apply below_drew1) | exact HB.out)) hb); clear HO_5; clear HB; have HO_5 := n0_; have HO358 := n1_; have HB := n2_; clear n0_ n1_ n2_; clear hb ho12; obtain ⟨Ao14, co14, eo14⟩ := Kd.R_slice HO358.out; subst eo14) | ((with_reducible refine gate_builtin (b := .append) (xs := #[.tmp 33, .tmp 37]) rfl ?_); at_builtin; refine Kd.S_append (Kd.slice 2 (Kd.int .i64)) (w0 := w) w.heap.size rfl (.tmp 33) (.tmp 37) 28 42 (.slice none 0 0) 24 rfl Tryz.underlying28 info42 rfl (by decide) (by omega) u5 x5_2 y356 [.slice Ao14 y356.length co14] (fun _ => True) (fun k_ => some k_ = (.slice Ao14 y356.length co14 : Value).ownBlock) rfl rfl ?aP (fun k_ hk_ => ((Kd.R_mono (ok' := fun k_ => ((fun _ => True)) k_ ∧ some k_ ≠ (u5 : Value).ownBlock) (Kd.R_apart' (HO358.out) (Kd.S_typed HO_5.out) (by decide)) (fun k_ hk => ⟨trivial, hk.2⟩))).1 k_ hk_.symm) ?aF ?aO ?aB ?aS ?aL ?_; (case aP => exact Kd.M_row (Kd.R_mono (Kd.R_tight rfl (Kd.R_mono (ok' := fun k_ => ((fun _ => True)) k_ ∧ some k_ ≠ (u5 : Value).ownBlock) (Kd.R_apart' (HO358.out) (Kd.S_typed HO_5.out) (by decide)) (fun k_ hk => ⟨trivial, hk.2⟩))) (fun _ h_ => h_))); (case aB => exact (by repeat (first | (with_reducible first | exact HB.out | apply below_alloc | apply pw_below_drewN | apply below_drew1) | exact HB.out))); (case aF => exact (fun _ _ => trivial)); (case aO => exact (by (with_reducible repeat (first | apply Kd.S_alloc | apply Kd.S_drewN | apply Kd.S_drew)); exact Kd.S_mono HO_5.out (fun k_ hk => ⟨trivial, fun e_ => hk.2 e_⟩))); (case aS => exact (below_size (by repeat (first | (with_reducible first | exact HB.out | apply below_alloc | apply pw_below_drewN | apply below_drew1) | exact HB.out)))); (case aL => have := LMc10.out; omega); intro v360 w13 ho hb hg hat; rw [← Ny359.out] at ho; have n0_ := Aside0.mk (hb); have n1_ := Aside0.mk (ho); clear HB; clear HO_5; clear HO358; have HB := n0_; have HO361 := n1_; clear n0_ n1_; clear ho hb hg hat))
           go_roundg k2
           case measure => have := HK1.out; have := HK2.out; omega
           case rel => exact ⟨(y359), (wrap64 (x7_2 + 1)), (by first | rfl | (simp; done) | (simp [*]; done)), H', ⟨by have := HK1.out; have := HK2.out; omega⟩, ⟨by (with_reducible repeat (first | apply Kd.S_alloc | apply Kd.S_drewN | apply Kd.S_drew)); exact HO361.out⟩, ⟨by repeat (first | (with_reducible first | exact HB.out | apply below_alloc | apply pw_below_drewN | apply below_drew1) | exact HB.out)⟩⟩
          ·rw [if_neg c10] at H
           exact absurd H (by simp)
         ·replace c9 := Bool.eq_false_iff.mpr c9
          subst c9
          have H1 : (impl_powersIn.l1 k2 a0 a1 x5_2 x10_1 (wrap64 (x7_2 + 1)) (a0.size : Int) x10_1) = some r := by rw [if_neg (show ¬ (false = true) by decide)] at H; exact H
          clear H
          have H := H1
          clear H1
          have H' := Aside0.mk H
          clear H
          go_wp2_with (first | ((with_reducible refine gate_callee (f := 30) rfl ?_); refine goesL_ (some 32) rfl rfl Tryz.func30 (by kernel_rfl) rfl #[.string (a0.extract (x10_1 : Int).toNat ((wrap64 (x10_1 + (wrap64 (a1 * x7_2)))) : Int).toNat), .int .i64 x7_2] rfl (by (try simp only [List.map_toArray, List.map_cons, List.map_nil]); first | done | rfl | (simp only [List.length_drop, List.length_take]; rfl)) ?_; (with_reducible refine (impl_hasPeriod.calls (a0.extract (x10_1 : Int).toNat ((wrap64 (x10_1 + (wrap64 (a1 * x7_2)))) : Int).toNat) x7_2 false _ A8.out).mono ?_); rintro e w' ⟨rfl, ⟨nd, rfl⟩⟩; refine ⟨_, rfl, ?_⟩))
          go_roundg k2
          case measure => have := HK1.out; have := HK2.out; omega
          case rel => exact ⟨(x5_2), (wrap64 (x7_2 + 1)), (by first | rfl | (simp; done) | (simp [*]; done)), H', ⟨by have := HK1.out; have := HK2.out; omega⟩, ⟨by (with_reducible repeat (first | apply Kd.S_alloc | apply Kd.S_drewN | apply Kd.S_drew)); exact HO_5.out⟩, ⟨by repeat (first | (with_reducible first | exact HB.out | apply below_alloc | apply pw_below_drewN | apply below_drew1) | exact HB.out)⟩⟩
        ·rw [if_neg c6] at H
         exact absurd H (by simp)
       ·rw [if_neg c5] at H
        exact absurd H (by simp)
      ·rw [if_neg c4] at H
       have c4b0 : decide ((wrap64 (x10_1 + (wrap64 (a1 * x7_2)))) ≤ (a0.size : Int)) = false := decide_eq_false c4
       clear c4
       have H' := Aside0.mk H
       clear H
       go_wp2
       go_roundg k2
       case measure => have := HK1.out; have := HK2.out; omega
       case rel => exact ⟨(x5_2), (wrap64 (x10_1 + 1)), (by first | rfl | (simp; done) | (simp [*]; done)), H', ⟨by have := HK1.out; have := HK2.out; omega⟩, ⟨by (with_reducible repeat (first | apply Kd.S_alloc | apply Kd.S_drewN | apply Kd.S_drew)); exact HO_5.out⟩, ⟨by repeat (first | (with_reducible first | exact HB.out | apply below_alloc | apply pw_below_drewN | apply below_drew1) | exact HB.out)⟩⟩
   ·rw [if_neg c3] at H
    have c3b0 : decide (x10_1 < (a0.size : Int)) = false := decide_eq_false c3
    clear c3
    obtain rfl := Option.some.inj H
    go_wp2
    go_ret
    exact ⟨_, by first | rfl | (simp [errW_none, errW_some] <;> rfl) | (simp [*, errW_none, errW_some] <;> rfl), by (with_reducible repeat (first | apply Kd.S_alloc | apply Kd.S_drewN | apply Kd.S_drew)); exact HO_5.out, by repeat (first | (with_reducible first | exact HB.out | apply below_alloc | apply pw_below_drewN | apply below_drew1) | exact HB.out)⟩

end Go.Proofs.YteakipdmpjlhiabGreat.Q

namespace Go.Proofs.YteakipdmpjlhiabGreat.Q
open Go.RowKit Go.Proofs.YteakipdmpjlhiabGreatW.PrintWords Go.Proofs.YteakipdmpjlhiabGreatW.PrintLast Go.Proofs.YteakipdmpjlhiabGreatW.PrintMore
attribute [local go_sem] max2_int min2_int max_two min_two max_three min_three max_four min_four bn_leq bn_gtr bn_geq   -- for this text's walks alone
set_option linter.unusedVariables false
set_option linter.unusedSimpArgs false

/-! ### impl_PowersIn: function 8 (this session's own) -/
theorem xw_size (s : ByteArray) (w : World) : Calls Tryz.prog 49 #[.string s] w fun e w' => e = .returned (.int .i64 s.size) ∧ w' = w := by
 go_enter Tryz.func49, Tryz.ntmps49
 go_wp2
 go_ret
 exact ⟨rfl, rfl⟩
theorem xw_within (n lo hi : Int) (w : World) : Calls Tryz.prog 34 #[.int .i64 n, .int .i64 lo, .int .i64 hi] w fun e w' => e = .returned (.bool (inR n lo hi)) ∧ w' = w := by
 have hR := inR_eq n lo hi
 by_cases h1 : lo ≤ n
 ·by_cases h2 : n ≤ hi
  all_goals
   go_enter Tryz.func34, Tryz.ntmps34
   go_wp2
   go_ret
   exact ⟨by rw [hR.out]; simp [h1, h2], rfl⟩
 ·go_enter Tryz.func34, Tryz.ntmps34
  go_wp2
  go_ret
  exact ⟨by rw [hR.out, decide_eq_false (show ¬ lo ≤ n by omega)]; rfl, rfl⟩

set_option maxHeartbeats 2000000 in
theorem xw_PowersIn1 (a1 : Int) (b0 : Nat) (W : World) (h0 : W.cell? ⟨b0, 0, none⟩ = some (.int .i64 a1)) :
  Calls Tryz.prog 33 #[.pointer (some ⟨b0, 0, none⟩)] W fun e w' => e = .returned (.bool (inR a1 2 60)) ∧ Below W.heap.size W w' := by
 have hI := xw_within a1 2 60 W
 go_enter Tryz.func33, Tryz.ntmps33
 go_wp2_with (go_at_call 34; refine hI.mono ?_; rintro e w' ⟨rfl, rfl⟩)
 go_ret
 exact ⟨rfl, by repeat (first | exact Below.refl _ _ | apply pw_below_drewN | apply below_drew)⟩
def impl_PowersIn.f (k : Nat) (a0 : ByteArray) (a1 : Int) : Option ((List (List Int)) × Int) :=
 if (isW a0) = true then (if (inR a1 2 60) = true then ((impl_powersIn.f k a0 a1).bind fun t => some (t, 0)) else some ([], 2)) else some ([], 1)
set_option maxHeartbeats 4000000 in
theorem impl_PowersIn.calls (k : Nat) (a0 : ByteArray) (a1 : Int) (r1 : List (List Int)) (r2 : Int) (w : World) (h : impl_PowersIn.f k a0 a1 = some (r1, r2)) :
  Calls Tryz.prog 8 #[.string a0, .int .i64 a1] w fun e w' => ∃ v0_ : Value, e = .returned (.tuple #[v0_, .int .i64 r2]) ∧ Kd.S (Kd.slice 2 (Kd.int .i64)) 42 w' w.heap.size (fun _ => True) v0_ r1 ∧ Below w.heap.size w w' := by
 unfold impl_PowersIn.f at h
 obtain ⟨c, hc⟩ : ∃ c : Int, c = (if isW a0 then (if inR a1 2 60 then 0 else 2) else 1) := ⟨_, rfl⟩
 have hC : Aside0 (∀ (W : World), Below w.heap.size w W → w.heap.size + 1 < W.heap.size → W.cell? ⟨w.heap.size, 0, none⟩ = some (.int .i64 a1) → W.cell? ⟨w.heap.size + 1, 0, none⟩ = some (.string a0) →
   Calls Tryz.prog 27 #[.func (.func 33) #[] #[.pointer (some ⟨w.heap.size, 0, none⟩)], .slice (some ⟨w.heap.size + 1, 0, none⟩) 1 1] W fun e w' => e = .returned (.int .i64 c) ∧ Below w.heap.size w w' ∧ w.heap.size + 1 < w'.heap.size ∧ w'.cell? ⟨w.heap.size, 0, none⟩ = some (.int .i64 a1)) := ⟨fun W hB hsz h0 h1 => by
  refine (xw_wordCode (inR a1 2 60) 33 _ (enters_of Tryz.func33 (by kernel_rfl) rfl) _ 1 [a0] W (xw_C_one W (w.heap.size + 1) a0 h1) (by simp) (fun W2 hb2 => ?_)).mono ?_
  ·exact xw_PowersIn1 a1 _ W2 ((hb2.cell (p := ⟨w.heap.size, 0, none⟩) (by simp; omega)).trans h0)
  ·rintro e w' ⟨rfl, hb⟩
   refine ⟨by rw [hc]; simp, below_then hB (by omega) hb, Nat.lt_of_lt_of_le hsz hb.size, (hb.cell (p := ⟨w.heap.size, 0, none⟩) (by simp; omega)).trans h0⟩⟩
 have hq := hC.out ((w.alloc (.cells #[.int .i64 a1] 2)).alloc (.cells #[.string a0] 9)) ((((Below.refl _ w).alloc (by simp <;> omega) _).alloc (by simp <;> omega) _)) (by simp) (by simp [go_sem]) (by simp [go_sem])
 clear hC
 have hmk := xw_mkf
 cases hw : (isW a0) with
 | false =>
  rw [hw] at h hc
  obtain ⟨rfl, rfl⟩ : ([] : List (List Int)) = r1 ∧ (1 : Int) = r2 := by simpa using h
  obtain rfl : c = 1 := by simpa using hc
  clear h hc hw
  go_enter Tryz.func8, Tryz.ntmps8
  go_wp2_with (go_at_call 27; refine hq.mono ?_; rintro e w' ⟨rfl, hb, hz, hc0⟩; have hb' := Aside0.mk hb; clear hb)
  go_ret2
  exact ⟨_, rfl, Kd.S_nil _ _ _ _ _, hb'.out⟩
 | true =>
  cases hk : (inR a1 2 60) with
  | false =>
   rw [hw, hk] at h hc
   obtain ⟨rfl, rfl⟩ : ([] : List (List Int)) = r1 ∧ (2 : Int) = r2 := by simpa using h
   obtain rfl : c = 2 := by simpa using hc
   clear h hc hw hk
   go_enter Tryz.func8, Tryz.ntmps8
   go_wp2_with (go_at_call 27; refine hq.mono ?_; rintro e w' ⟨rfl, hb, hz, hc0⟩; have hb' := Aside0.mk hb; clear hb)
   go_ret2
   exact ⟨_, rfl, Kd.S_nil _ _ _ _ _, hb'.out⟩
  | true =>
   rw [hw, hk] at h hc
   obtain rfl : c = 0 := by simpa using hc
   clear hc
   simp only [if_true] at h
   obtain ⟨t, ht, h⟩ := Option.bind_eq_some_iff.mp h
   obtain ⟨rfl, rfl⟩ : t = r1 ∧ (0 : Int) = r2 := by simpa using h
   have hcal : ∀ W : World, Calls Tryz.prog 35 #[.string a0, .int .i64 a1] W fun e w' => ∃ v : Value, e = .returned v ∧ Kd.S (Kd.slice 2 (Kd.int .i64)) 42 w' W.heap.size (fun _ => True) v t ∧ Below W.heap.size W w' := fun W => impl_powersIn.calls k a0 a1 t W ht
   clear h ht hw hk
   go_enter Tryz.func8, Tryz.ntmps8
   go_wp2_with (first | (go_at_call 27; refine hq.mono ?_; rintro e w' ⟨rfl, hb, hz, hc0⟩; have hb' := Aside0.mk hb; clear hb) | (go_at_call 35; refine (hcal _).mono ?_; rintro e w2 ⟨v, rfl, ho, hb2⟩; have ho' := Aside0.mk ho; have hb2' := Aside0.mk hb2; clear ho hb2))
   go_ret2
   exact ⟨_, rfl, Kd.S_lower ho'.out hb'.out.size, below_then hb'.out hb'.out.size hb2'.out⟩



end Go.Proofs.YteakipdmpjlhiabGreat.Q

namespace Go.Proofs.YteakipdmpjlhiabGreat.Q
open Go.RowKit Go.Proofs.YteakipdmpjlhiabGreatW.PrintWords Go.Proofs.YteakipdmpjlhiabGreatW.PrintLast Go.Proofs.YteakipdmpjlhiabGreatW.PrintMore
attribute [local go_sem] max2_int min2_int max_two min_two max_three min_three max_four min_four bn_leq bn_gtr bn_geq   -- for this text's walks alone
set_option linter.unusedVariables false
set_option linter.unusedSimpArgs false

/-! ### spec_l01In: function 36 -/
def spec_l01In.f (a0 : Int) (a1 : Int) (a2 : Int) : Option (Bool) := if a0 ≥ a1 then (some (decide (a0 ≤ a2))) else (some false)
set_option maxHeartbeats 8000000 in
set_option maxRecDepth 100000 in
theorem spec_l01In.calls (a0 : Int) (a1 : Int) (a2 : Int) (r : Bool) (w : World) (h : spec_l01In.f a0 a1 a2 = some r) :
  Calls Tryz.prog 36 #[.int .i64 a0, .int .i64 a1, .int .i64 a2] w fun e w' => e = .returned (.bool r) ∧ Drawn0 w w' := by
 have H : (if a0 ≥ a1 then (some (decide (a0 ≤ a2))) else (some false)) = some r := h
 clear h
 by_cases c4 : a0 ≥ a1
 ·rw [if_pos c4] at H
  have c4b0 : decide (a1 ≤ a0) = true := decide_eq_true c4
  clear c4
  obtain rfl := Option.some.inj H
  go_enter Tryz.func36, Tryz.ntmps36
  go_wp2
  go_ret
  exact ⟨by first | rfl | (simp; done) | (simp [*]; done), by repeat (first | exact Drawn0.refl _ | apply Drawn0.step)⟩
 ·rw [if_neg c4] at H
  have c4b0 : decide (a1 ≤ a0) = false := decide_eq_false c4
  clear c4
  obtain rfl := Option.some.inj H
  go_enter Tryz.func36, Tryz.ntmps36
  go_wp2
  go_ret
  exact ⟨by first | rfl | (simp; done) | (simp [*]; done), by repeat (first | exact Drawn0.refl _ | apply Drawn0.step)⟩

end Go.Proofs.YteakipdmpjlhiabGreat.Q

namespace Go.Proofs.YteakipdmpjlhiabGreat.Q
open Go.RowKit Go.Proofs.YteakipdmpjlhiabGreatW.PrintWords Go.Proofs.YteakipdmpjlhiabGreatW.PrintLast Go.Proofs.YteakipdmpjlhiabGreatW.PrintMore
attribute [local go_sem] max2_int min2_int max_two min_two max_three min_three max_four min_four bn_leq bn_gtr bn_geq   -- for this text's walks alone
set_option linter.unusedVariables false
set_option linter.unusedSimpArgs false

/-! ### spec_l03Powers: function 37 -/
mutual
def spec_l03Powers.l0 : Nat → ByteArray → Int → List (List Int) → Int → Int → Option ((List (List Int)))
 | 0, _, _, _, _, _ => none
 | k + 1, x0, x1, x5, x6, x7 => if x7 < x6 then (spec_l03Powers.l1 k x0 x1 x5 x6 x7 1) else (some x5)
def spec_l03Powers.l1 : Nat → ByteArray → Int → List (List Int) → Int → Int → Int → Option ((List (List Int)))
 | 0, _, _, _, _, _, _ => none
 | k + 1, x0, x1, x5, x6, x7, x8 => if (wrap64 (x7 + (wrap64 (x8 * x1)))) ≤ x6 then ((spec_l03Power.f k x0 x7 x8 x1).bind fun t365 => (if t365 = true then (if x5.length < 5864062014805 then (spec_l03Powers.l1 k x0 x1 (x5 ++ [(([x7, x8] : List Int))]) x6 x7 (wrap64 (x8 + 1))) else (none)) else (spec_l03Powers.l1 k x0 x1 x5 x6 x7 (wrap64 (x8 + 1))))) else (spec_l03Powers.l0 k x0 x1 x5 x6 (wrap64 (x7 + 1)))
end
def spec_l03Powers.f (k : Nat) (a0 : ByteArray) (a1 : Int) : Option ((List (List Int))) := spec_l03Powers.l0 k a0 a1 (([] : List (List Int))) (a0.size : Int) 0
set_option maxHeartbeats 8000000 in
set_option maxRecDepth 100000 in
theorem spec_l03Powers.calls (k : Nat) (a0 : ByteArray) (a1 : Int) (r : List (List Int)) (w : World) (h : spec_l03Powers.f k a0 a1 = some r) :
  Calls Tryz.prog 37 #[.string a0, .int .i64 a1] w fun e w' => ∃ v0_ : Value, e = .returned (v0_) ∧ Kd.S (Kd.slice 2 (Kd.int .i64)) 42 w' w.heap.size (fun _ => True) v0_ r ∧ Below w.heap.size w w' := by
 have HB := Aside0.mk (Below.refl w.heap.size w)
 have H : (spec_l03Powers.l0 k a0 a1 (([] : List (List Int))) (a0.size : Int) 0) = some r := h
 clear h
 obtain ⟨y362, hy362⟩ : ∃ y_ : List (List Int), y_ = (([] : List (List Int))) := ⟨_, rfl⟩
 replace H : (spec_l03Powers.l0 k a0 a1 y362 (a0.size : Int) 0) = some r := by first | (rw [hy362]; with_reducible exact H) | (have H2_ := (Option.bind_some _ _).symm.trans H; rw [hy362]; with_reducible exact H2_) | (have H2_ := (Option.bind_some _ _).symm.trans H; with_reducible exact H2_) | with_reducible exact H | (rw [hy362]; exact H) | exact H
 have Ny362 := Aside0.mk hy362
 clear hy362
 have H' := Aside0.mk H
 clear H
 go_enter Tryz.func37, Tryz.ntmps37
 go_wp2_with (first | ((with_reducible refine gate_dst (N := 9) rfl ?_); refine Kd.S_lit (Kd.slice 2 (Kd.int .i64)) _ 42 ?hg (N := 9) ?hd (xs := ([] : List (List Int))) (inner := []) (ok := fun _ => True) (okp := fun _ => True) ?hr ?hp (fun _ hk => hk) trivial (Below.refl _ _) (Nat.le_refl _) (by simp) ?_; (case hd => rfl); (case hg => rfl); (case hr => first | (go_simp; done) | (go_simp; rfl)); (case hp => exact (Reps.none _ _)); intro v363 w3 ho4 hb hg_ hnew_; clear hg_ hnew_; (first | rw [← Ny362.out] at ho4 | (simp only [Int.reduceToNat] at ho4; rw [← Ny362.out] at ho4)); have n0_ := Aside0.mk (Kd.S_lower ho4 (below_size (by repeat (first | (with_reducible first | exact HB.out | apply below_alloc | apply pw_below_drewN | apply below_drew1) | exact HB.out)))); have n1_ := Aside0.mk (below_step (by repeat (first | (with_reducible first | exact HB.out | apply below_alloc | apply pw_below_drewN | apply below_drew1) | exact HB.out)) hb); clear HB; have HO364 := n0_; have HB := n1_; clear n0_ n1_; clear hb ho4))
 go_loopg [5, 7] k (fun kq v5 v7 w' => ∃ (x5_1 : List (List Int)) (x7_1 : Int), v7 = .int .i64 x7_1 ∧ Aside0 (spec_l03Powers.l0 kq a0 a1 x5_1 (a0.size : Int) x7_1 = some r) ∧ Aside0 (kq ≤ k) ∧ Aside0 (Kd.S (Kd.slice 2 (Kd.int .i64)) 42 w' w.heap.size (fun _ => True) v5 x5_1) ∧ Aside0 (Below w.heap.size w w'))
 case atStart => exact ⟨(y362), (0), (by first | rfl | (simp; done) | (simp [*]; done)), H', ⟨Nat.le_refl _⟩, ⟨by (with_reducible repeat (first | apply Kd.S_alloc | apply Kd.S_drewN | apply Kd.S_drew)); exact HO364.out⟩, ⟨by repeat (first | (with_reducible first | exact HB.out | apply below_alloc | apply pw_below_drewN | apply below_drew1) | exact HB.out)⟩⟩
 case round =>
  clear H'
  try clear p2
  try clear c3
  obtain ⟨x5_1, x7_1, rfl, HA, HK1, HO_5, HB⟩ := hrel
  cases gk with
  | zero => exact absurd HA.out (by simp [spec_l03Powers.l0])
  | succ k1 =>
   have H := HA.out
   clear HA
   simp only [spec_l03Powers.l0] at H
   by_cases c5 : x7_1 < (a0.size : Int)
   ·rw [if_pos c5] at H
    have c5b0 : decide (x7_1 < (a0.size : Int)) = true := decide_eq_true c5
    clear c5
    have H' := Aside0.mk H
    clear H
    go_wp2
    go_loopg [5, 8] k1 (fun kq v5 v8 w' => ∃ (x5_2 : List (List Int)) (x8_2 : Int), v8 = .int .i64 x8_2 ∧ Aside0 (spec_l03Powers.l1 kq a0 a1 x5_2 (a0.size : Int) x7_1 x8_2 = some r) ∧ Aside0 (kq ≤ k1) ∧ Aside0 (Kd.S (Kd.slice 2 (Kd.int .i64)) 42 w' w.heap.size (fun _ => True) v5 x5_2) ∧ Aside0 (Below w.heap.size w w'))
    case atStart => exact ⟨(x5_1), (1), (by first | rfl | (simp; done) | (simp [*]; done)), H', ⟨Nat.le_refl _⟩, ⟨by (with_reducible repeat (first | apply Kd.S_alloc | apply Kd.S_drewN | apply Kd.S_drew)); exact HO_5.out⟩, ⟨by repeat (first | (with_reducible first | exact HB.out | apply below_alloc | apply pw_below_drewN | apply below_drew1) | exact HB.out)⟩⟩
    case round =>
     clear H'
     try clear p2
     try clear c3
     try clear c5
     try clear c5b0
     try clear p2
     obtain ⟨x5_2, x8_2, rfl, HA, HK2, HO_5, HB⟩ := hrel
     cases gk with
     | zero => exact absurd HA.out (by simp [spec_l03Powers.l1])
     | succ k2 =>
      have H := HA.out
      clear HA
      simp only [spec_l03Powers.l1] at H
      by_cases c6 : (wrap64 (x7_1 + (wrap64 (x8_2 * a1)))) ≤ (a0.size : Int)
      ·rw [if_pos c6] at H
       have c6b0 : decide ((wrap64 (x7_1 + (wrap64 (x8_2 * a1)))) ≤ (a0.size : Int)) = true := decide_eq_true c6
       clear c6
       replace H := Option.bind_eq_some_iff.mp H
       obtain ⟨t365, A70, H⟩ := H
       replace H : (if t365 = true then (if x5_2.length < 5864062014805 then (spec_l03Powers.l1 k2 a0 a1 (x5_2 ++ [(([x7_1, x8_2] : List Int))]) (a0.size : Int) x7_1 (wrap64 (x8_2 + 1))) else (none)) else (spec_l03Powers.l1 k2 a0 a1 x5_2 (a0.size : Int) x7_1 (wrap64 (x8_2 + 1)))) = some r := H
       have A7 := Aside0.mk A70
       clear A70
       by_cases c8 : t365 = true
       ·subst c8
        have H1 : (if x5_2.length < 5864062014805 then (spec_l03Powers.l1 k2 a0 a1 (x5_2 ++ [(([x7_1, x8_2] : List Int))]) (a0.size : Int) x7_1 (wrap64 (x8_2 + 1))) else (none)) = some r := by rw [if_pos rfl] at H; exact H
        clear H
        have H := H1
        clear H1
        obtain ⟨y366, hy366⟩ : ∃ y_ : List Int, y_ = (([x7_1, x8_2] : List Int)) := ⟨_, rfl⟩
        replace H : (if x5_2.length < 5864062014805 then (spec_l03Powers.l1 k2 a0 a1 (x5_2 ++ [y366]) (a0.size : Int) x7_1 (wrap64 (x8_2 + 1))) else (none)) = some r := by first | (rw [hy366]; with_reducible exact H) | (have H2_ := (Option.bind_some _ _).symm.trans H; rw [hy366]; with_reducible exact H2_) | (have H2_ := (Option.bind_some _ _).symm.trans H; with_reducible exact H2_) | with_reducible exact H | (rw [hy366]; exact H) | exact H
        have Ny366 := Aside0.mk hy366
        clear hy366
        by_cases c9 : x5_2.length < 5864062014805
        ·rw [if_pos c9] at H
         have LMc9 := Aside0.mk c9
         clear c9
         obtain ⟨y369, hy369⟩ : ∃ y_ : List (List Int), y_ = (x5_2 ++ [y366]) := ⟨_, rfl⟩
         replace H : (spec_l03Powers.l1 k2 a0 a1 y369 (a0.size : Int) x7_1 (wrap64 (x8_2 + 1))) = some r := by first | (rw [hy369]; with_reducible exact H) | (have H2_ := (Option.bind_some _ _).symm.trans H; rw [hy369]; with_reducible exact H2_) | (have H2_ := (Option.bind_some _ _).symm.trans H; with_reducible exact H2_) | with_reducible exact H | (rw [hy369]; exact H) | exact H
         have Ny369 := Aside0.mk hy369
         clear hy369
         have H' := Aside0.mk H
         clear H
         go_wp2_with (first | ((with_reducible refine gate_callee (f := 58) rfl ?_); refine goesL_ (some 30) rfl rfl Tryz.func58 (by kernel_rfl) rfl #[.string a0, .int .i64 x7_1, .int .i64 x8_2, .int .i64 a1] rfl (by (try simp only [List.map_toArray, List.map_cons, List.map_nil]); first | done | rfl | (simp only [List.length_drop, List.length_take]; rfl)) ?_; (with_reducible refine (spec_l03Power.calls k2 a0 x7_1 x8_2 a1 true _ A7.out).mono ?_); rintro e w' ⟨rfl, ⟨nd, rfl⟩⟩; refine ⟨_, rfl, ?_⟩) | ((with_reducible refine gate_dst (N := 34) rfl ?_); refine Kd.R_lit (Kd.int .i64) _ 2 ?hg (N := 34) ?hd (xs := ([x7_1, x8_2] : List Int)) (inner := [.int .i64 x7_1, .int .i64 x8_2]) (ok := fun _ => True) (okp := fun _ => True) ?hr ?hp (fun _ hk => hk) trivial (Below.refl _ _) (Nat.le_refl _) (by simp) ?_; (case hd => rfl); (case hg => rfl); (case hr => first | (go_simp; done) | (go_simp; rfl)); (case hp => exact (Reps.one (show Kd.M (Kd.int .i64) _ _ _ x7_1 [.int .i64 x7_1] from rfl) (Reps.one (show Kd.M (Kd.int .i64) _ _ _ x8_2 [.int .i64 x8_2] from rfl) (Reps.none _ _)))); intro v367 w10 ho11 hb hg_ hnew_; clear hg_ hnew_; (first | rw [← Ny366.out] at ho11 | (simp only [Int.reduceToNat] at ho11; rw [← Ny366.out] at ho11)); have n0_ := Aside0.mk (Kd.S_elder' (by (with_reducible repeat (first | apply Kd.S_alloc | apply Kd.S_drewN | apply Kd.S_drew)); exact HO_5.out) (Kd.R_base ho11) hb); have n1_ := Aside0.mk (Kd.R_lower ho11 (below_size (by repeat (first | (with_reducible first | exact HB.out | apply below_alloc | apply pw_below_drewN | apply below_drew1) | exact HB.out)))); have n2_ := Aside0.mk (below_step (by repeat (first | (with_reducible first | exact HB.out | apply below_alloc | apply pw_below_drewN | apply below_drew1) | exact HB.out)) hb); clear HO_5; clear HB; have HO_5 := n0_; have HO368 := n1_; have HB := n2_; clear n0_ n1_ n2_; clear hb ho11; obtain ⟨Ao13, co13, eo13⟩ := Kd.R_slice HO368.out; subst eo13) | ((with_reducible refine gate_builtin (b := .append) (xs := #[.tmp 31, .tmp 35]) rfl ?_); at_builtin; refine Kd.S_append (Kd.slice 2 (Kd.int .i64)) (w0 := w) w.heap.size rfl (.tmp 31) (.tmp 35) 28 42 (.slice none 0 0) 24 rfl Tryz.underlying28 info42 rfl (by decide) (by omega) u5 x5_2 y366 [.slice Ao13 y366.length co13] (fun _ => True) (fun k_ => some k_ = (.slice Ao13 y366.length co13 : Value).ownBlock) rfl rfl ?aP (fun k_ hk_ => ((Kd.R_mono (ok' := fun k_ => ((fun _ => True)) k_ ∧ some k_ ≠ (u5 : Value).ownBlock) (Kd.R_apart' (HO368.out) (Kd.S_typed HO_5.out) (by decide)) (fun k_ hk => ⟨trivial, hk.2⟩))).1 k_ hk_.symm) ?aF ?aO ?aB ?aS ?aL ?_; (case aP => exact Kd.M_row (Kd.R_mono (Kd.R_tight rfl (Kd.R_mono (ok' := fun k_ => ((fun _ => True)) k_ ∧ some k_ ≠ (u5 : Value).ownBlock) (Kd.R_apart' (HO368.out) (Kd.S_typed HO_5.out) (by decide)) (fun k_ hk => ⟨trivial, hk.2⟩))) (fun _ h_ => h_))); (case aB => exact (by repeat (first | (with_reducible first | exact HB.out | apply below_alloc | apply pw_below_drewN | apply below_drew1) | exact HB.out))); (case aF => exact (fun _ _ => trivial)); (case aO => exact (by (with_reducible repeat (first | apply Kd.S_alloc | apply Kd.S_drewN | apply Kd.S_drew)); exact Kd.S_mono HO_5.out (fun k_ hk => ⟨trivial, fun e_ => hk.2 e_⟩))); (case aS => exact (below_size (by repeat (first | (with_reducible first | exact HB.out | apply below_alloc | apply pw_below_drewN | apply below_drew1) | exact HB.out)))); (case aL => have := LMc9.out; omega); intro v370 w12 ho hb hg hat; rw [← Ny369.out] at ho; have n0_ := Aside0.mk (hb); have n1_ := Aside0.mk (ho); clear HB; clear HO_5; clear HO368; have HB := n0_; have HO371 := n1_; clear n0_ n1_; clear ho hb hg hat))
         go_roundg k2
         case measure => have := HK1.out; have := HK2.out; omega
         case rel => exact ⟨(y369), (wrap64 (x8_2 + 1)), (by first | rfl | (simp; done) | (simp [*]; done)), H', ⟨by have := HK1.out; have := HK2.out; omega⟩, ⟨by (with_reducible repeat (first | apply Kd.S_alloc | apply Kd.S_drewN | apply Kd.S_drew)); exact HO371.out⟩, ⟨by repeat (first | (with_reducible first | exact HB.out | apply below_alloc | apply pw_below_drewN | apply below_drew1) | exact HB.out)⟩⟩
        ·rw [if_neg c9] at H
         exact absurd H (by simp)
       ·replace c8 := Bool.eq_false_iff.mpr c8
        subst c8
        have H1 : (spec_l03Powers.l1 k2 a0 a1 x5_2 (a0.size : Int) x7_1 (wrap64 (x8_2 + 1))) = some r := by rw [if_neg (show ¬ (false = true) by decide)] at H; exact H
        clear H
        have H := H1
        clear H1
        have H' := Aside0.mk H
        clear H
        go_wp2_with (first | ((with_reducible refine gate_callee (f := 58) rfl ?_); refine goesL_ (some 30) rfl rfl Tryz.func58 (by kernel_rfl) rfl #[.string a0, .int .i64 x7_1, .int .i64 x8_2, .int .i64 a1] rfl (by (try simp only [List.map_toArray, List.map_cons, List.map_nil]); first | done | rfl | (simp only [List.length_drop, List.length_take]; rfl)) ?_; (with_reducible refine (spec_l03Power.calls k2 a0 x7_1 x8_2 a1 false _ A7.out).mono ?_); rintro e w' ⟨rfl, ⟨nd, rfl⟩⟩; refine ⟨_, rfl, ?_⟩))
        go_roundg k2
        case measure => have := HK1.out; have := HK2.out; omega
        case rel => exact ⟨(x5_2), (wrap64 (x8_2 + 1)), (by first | rfl | (simp; done) | (simp [*]; done)), H', ⟨by have := HK1.out; have := HK2.out; omega⟩, ⟨by (with_reducible repeat (first | apply Kd.S_alloc | apply Kd.S_drewN | apply Kd.S_drew)); exact HO_5.out⟩, ⟨by repeat (first | (with_reducible first | exact HB.out | apply below_alloc | apply pw_below_drewN | apply below_drew1) | exact HB.out)⟩⟩
      ·rw [if_neg c6] at H
       have c6b0 : decide ((wrap64 (x7_1 + (wrap64 (x8_2 * a1)))) ≤ (a0.size : Int)) = false := decide_eq_false c6
       clear c6
       have H' := Aside0.mk H
       clear H
       go_wp2
       go_roundg k2
       case measure => have := HK1.out; have := HK2.out; omega
       case rel => exact ⟨(x5_2), (wrap64 (x7_1 + 1)), (by first | rfl | (simp; done) | (simp [*]; done)), H', ⟨by have := HK1.out; have := HK2.out; omega⟩, ⟨by (with_reducible repeat (first | apply Kd.S_alloc | apply Kd.S_drewN | apply Kd.S_drew)); exact HO_5.out⟩, ⟨by repeat (first | (with_reducible first | exact HB.out | apply below_alloc | apply pw_below_drewN | apply below_drew1) | exact HB.out)⟩⟩
   ·rw [if_neg c5] at H
    have c5b0 : decide (x7_1 < (a0.size : Int)) = false := decide_eq_false c5
    clear c5
    obtain rfl := Option.some.inj H
    go_wp2
    go_ret
    exact ⟨_, by first | rfl | (simp [errW_none, errW_some] <;> rfl) | (simp [*, errW_none, errW_some] <;> rfl), by (with_reducible repeat (first | apply Kd.S_alloc | apply Kd.S_drewN | apply Kd.S_drew)); exact HO_5.out, by repeat (first | (with_reducible first | exact HB.out | apply below_alloc | apply pw_below_drewN | apply below_drew1) | exact HB.out)⟩

end Go.Proofs.YteakipdmpjlhiabGreat.Q

namespace Go.Proofs.YteakipdmpjlhiabGreat.Q
open Go.RowKit Go.Proofs.YteakipdmpjlhiabGreatW.PrintWords Go.Proofs.YteakipdmpjlhiabGreatW.PrintLast Go.Proofs.YteakipdmpjlhiabGreatW.PrintMore
attribute [local go_sem] max2_int min2_int max_two min_two max_three min_three max_four min_four bn_leq bn_gtr bn_geq   -- for this text's walks alone
set_option linter.unusedVariables false
set_option linter.unusedSimpArgs false

/-! ### spec_PowersIn: function 9 -/
def spec_PowersIn.f (k : Nat) (a0 : ByteArray) (a1 : Int) : Option ((List (List Int)) × Int) := (spec_l01Is.f k a0).bind fun t372 => (if t372 = true then ((spec_l01In.f a1 2 60).bind fun t373 => (if t373 = true then ((spec_l03Powers.f k a0 a1).bind fun t374 => (some (t374, 0))) else (some (([] : List (List Int)), 2)))) else (some (([] : List (List Int)), 1)))
set_option maxHeartbeats 8000000 in
set_option maxRecDepth 100000 in
theorem spec_PowersIn.calls (k : Nat) (a0 : ByteArray) (a1 : Int) (r1 : List (List Int)) (r2 : Int) (w : World) (h : spec_PowersIn.f k a0 a1 = some (r1, r2)) :
  Calls Tryz.prog 9 #[.string a0, .int .i64 a1] w fun e w' => ∃ v0_ : Value, e = .returned (.tuple #[v0_, .int .i64 r2]) ∧ Kd.S (Kd.slice 2 (Kd.int .i64)) 42 w' w.heap.size (fun _ => True) v0_ r1 ∧ Below w.heap.size w w' := by
 have HB := Aside0.mk (Below.refl w.heap.size w)
 have H : ((spec_l01Is.f k a0).bind fun t372 => (if t372 = true then ((spec_l01In.f a1 2 60).bind fun t373 => (if t373 = true then ((spec_l03Powers.f k a0 a1).bind fun t374 => (some (t374, 0))) else (some (([] : List (List Int)), 2)))) else (some (([] : List (List Int)), 1)))) = some (r1, r2) := h
 clear h
 replace H := Option.bind_eq_some_iff.mp H
 obtain ⟨t372, A30, H⟩ := H
 replace H : (if t372 = true then ((spec_l01In.f a1 2 60).bind fun t373 => (if t373 = true then ((spec_l03Powers.f k a0 a1).bind fun t374 => (some (t374, 0))) else (some (([] : List (List Int)), 2)))) else (some (([] : List (List Int)), 1))) = some (r1, r2) := H
 have A3 := Aside0.mk A30
 clear A30
 by_cases c4 : t372 = true
 ·subst c4
  have H1 : ((spec_l01In.f a1 2 60).bind fun t373 => (if t373 = true then ((spec_l03Powers.f k a0 a1).bind fun t374 => (some (t374, 0))) else (some (([] : List (List Int)), 2)))) = some (r1, r2) := by rw [if_pos rfl] at H; exact H
  clear H
  have H := H1
  clear H1
  replace H := Option.bind_eq_some_iff.mp H
  obtain ⟨t373, A50, H⟩ := H
  replace H : (if t373 = true then ((spec_l03Powers.f k a0 a1).bind fun t374 => (some (t374, 0))) else (some (([] : List (List Int)), 2))) = some (r1, r2) := H
  have A5 := Aside0.mk A50
  clear A50
  by_cases c6 : t373 = true
  ·subst c6
   have H1 : ((spec_l03Powers.f k a0 a1).bind fun t374 => (some (t374, 0))) = some (r1, r2) := by rw [if_pos rfl] at H; exact H
   clear H
   have H := H1
   clear H1
   replace H := Option.bind_eq_some_iff.mp H
   obtain ⟨t374, A70, H⟩ := H
   replace H : (some (t374, 0)) = some (r1, r2) := H
   have A7 := Aside0.mk A70
   clear A70
   simp only [Option.some.injEq, Prod.mk.injEq] at H
   obtain ⟨rfl, rfl⟩ := H
   go_enter Tryz.func9, Tryz.ntmps9
   go_wp2_with (first | ((with_reducible refine gate_callee (f := 31) rfl ?_); refine goesL_ (some 8) rfl rfl Tryz.func31 (by kernel_rfl) rfl #[.string a0] rfl (by (try simp only [List.map_toArray, List.map_cons, List.map_nil]); first | done | rfl | (simp only [List.length_drop, List.length_take]; rfl)) ?_; (with_reducible refine (spec_l01Is.calls k a0 true _ A3.out).mono ?_); rintro e w' ⟨rfl, ⟨nd, rfl⟩⟩; refine ⟨_, rfl, ?_⟩) | ((with_reducible refine gate_callee (f := 36) rfl ?_); refine goesL_ (some 12) rfl rfl Tryz.func36 (by kernel_rfl) rfl #[.int .i64 a1, .int .i64 2, .int .i64 60] rfl (by (try simp only [List.map_toArray, List.map_cons, List.map_nil]); first | done | rfl | (simp only [List.length_drop, List.length_take]; rfl)) ?_; (with_reducible refine (spec_l01In.calls a1 2 60 true _ A5.out).mono ?_); rintro e w' ⟨rfl, ⟨nd, rfl⟩⟩; refine ⟨_, rfl, ?_⟩) | ((with_reducible refine gate_callee (f := 37) rfl ?_); refine goesL_ (some 16) rfl rfl Tryz.func37 (by kernel_rfl) rfl #[.string a0, .int .i64 a1] rfl (by (try simp only [List.map_toArray, List.map_cons, List.map_nil]); first | done | rfl | (simp only [List.length_drop, List.length_take]; rfl)) ?_; (with_reducible refine (spec_l03Powers.calls k a0 a1 t374 _ A7.out).mono ?_); rintro e w8 ⟨v375, rfl, ho0, hb⟩; refine ⟨_, rfl, ?_⟩; have n0_ := Aside0.mk (Kd.S_lower ho0 (below_size (by repeat (first | (with_reducible first | exact HB.out | apply below_alloc | apply pw_below_drewN | apply below_drew1) | exact HB.out)))); have n1_ := Aside0.mk (below_step (by repeat (first | (with_reducible first | exact HB.out | apply below_alloc | apply pw_below_drewN | apply below_drew1) | exact HB.out)) hb); clear HB; have HO376 := n0_; have HB := n1_; clear n0_ n1_; (try clear hb); (try clear hb2); (try clear hk); (try clear hi); (try clear ho0)))
   go_ret2
   exact ⟨_, by first | rfl | (simp [errW_none, errW_some] <;> rfl) | (simp [*, errW_none, errW_some] <;> rfl), by (with_reducible repeat (first | apply Kd.S_alloc | apply Kd.S_drewN | apply Kd.S_drew)); exact HO376.out, by repeat (first | (with_reducible first | exact HB.out | apply below_alloc | apply pw_below_drewN | apply below_drew1) | exact HB.out)⟩
  ·replace c6 := Bool.eq_false_iff.mpr c6
   subst c6
   have H1 : (some (([] : List (List Int)), 2)) = some (r1, r2) := by rw [if_neg (show ¬ (false = true) by decide)] at H; exact H
   clear H
   have H := H1
   clear H1
   simp only [Option.some.injEq, Prod.mk.injEq] at H
   obtain ⟨rfl, rfl⟩ := H
   go_enter Tryz.func9, Tryz.ntmps9
   go_wp2_with (first | ((with_reducible refine gate_callee (f := 31) rfl ?_); refine goesL_ (some 8) rfl rfl Tryz.func31 (by kernel_rfl) rfl #[.string a0] rfl (by (try simp only [List.map_toArray, List.map_cons, List.map_nil]); first | done | rfl | (simp only [List.length_drop, List.length_take]; rfl)) ?_; (with_reducible refine (spec_l01Is.calls k a0 true _ A3.out).mono ?_); rintro e w' ⟨rfl, ⟨nd, rfl⟩⟩; refine ⟨_, rfl, ?_⟩) | ((with_reducible refine gate_callee (f := 36) rfl ?_); refine goesL_ (some 12) rfl rfl Tryz.func36 (by kernel_rfl) rfl #[.int .i64 a1, .int .i64 2, .int .i64 60] rfl (by (try simp only [List.map_toArray, List.map_cons, List.map_nil]); first | done | rfl | (simp only [List.length_drop, List.length_take]; rfl)) ?_; (with_reducible refine (spec_l01In.calls a1 2 60 false _ A5.out).mono ?_); rintro e w' ⟨rfl, ⟨nd, rfl⟩⟩; refine ⟨_, rfl, ?_⟩))
   go_ret2
   exact ⟨_, by first | rfl | (simp [errW_none, errW_some] <;> rfl) | (simp [*, errW_none, errW_some] <;> rfl), by first | exact Kd.S_nil _ _ _ _ _ | exact Kd.N_nil _ _ _ _ _ | exact Kd.V_nil _ _ _ _ _ | exact Kd.Q_nil _ _ _ _ _ | exact Kd.R_nil _ _ _ _ _, by repeat (first | (with_reducible first | exact HB.out | apply below_alloc | apply pw_below_drewN | apply below_drew1) | exact HB.out)⟩
 ·replace c4 := Bool.eq_false_iff.mpr c4
  subst c4
  have H1 : (some (([] : List (List Int)), 1)) = some (r1, r2) := by rw [if_neg (show ¬ (false = true) by decide)] at H; exact H
  clear H
  have H := H1
  clear H1
  simp only [Option.some.injEq, Prod.mk.injEq] at H
  obtain ⟨rfl, rfl⟩ := H
  go_enter Tryz.func9, Tryz.ntmps9
  go_wp2_with (first | ((with_reducible refine gate_callee (f := 31) rfl ?_); refine goesL_ (some 8) rfl rfl Tryz.func31 (by kernel_rfl) rfl #[.string a0] rfl (by (try simp only [List.map_toArray, List.map_cons, List.map_nil]); first | done | rfl | (simp only [List.length_drop, List.length_take]; rfl)) ?_; (with_reducible refine (spec_l01Is.calls k a0 false _ A3.out).mono ?_); rintro e w' ⟨rfl, ⟨nd, rfl⟩⟩; refine ⟨_, rfl, ?_⟩))
  go_ret2
  exact ⟨_, by first | rfl | (simp [errW_none, errW_some] <;> rfl) | (simp [*, errW_none, errW_some] <;> rfl), by first | exact Kd.S_nil _ _ _ _ _ | exact Kd.N_nil _ _ _ _ _ | exact Kd.V_nil _ _ _ _ _ | exact Kd.Q_nil _ _ _ _ _ | exact Kd.R_nil _ _ _ _ _, by repeat (first | (with_reducible first | exact HB.out | apply below_alloc | apply pw_below_drewN | apply below_drew1) | exact HB.out)⟩

end Go.Proofs.YteakipdmpjlhiabGreat.Q

namespace Go.Proofs.YteakipdmpjlhiabGreat.Q
open Go.RowKit Go.Proofs.YteakipdmpjlhiabGreatW.PrintWords Go.Proofs.YteakipdmpjlhiabGreatW.PrintLast Go.Proofs.YteakipdmpjlhiabGreatW.PrintMore
attribute [local go_sem] max2_int min2_int max_two min_two max_three min_three max_four min_four bn_leq bn_gtr bn_geq   -- for this text's walks alone
set_option linter.unusedVariables false
set_option linter.unusedSimpArgs false

/-! ### impl_overlaps: function 38 (this session's own) -/
/-- What a row of rows of the call's own says of its cells. -/
theorem xw_rows {W : World} {base : Nat} {ok : Nat → Prop} {v : Value} {L : List (List Int)} (h : Kd.S (Kd.slice 2 (Kd.int .i64)) 42 W base ok v L) (hp : 0 < L.length) :
  ∃ g cap, v = .slice (some ⟨g, 0, none⟩) L.length cap ∧ base ≤ g ∧ g < W.heap.size ∧ L.length ≤ cap ∧ (∀ i, i < L.length → W.frozen? ⟨g, i, none⟩ = false) ∧ ∀ i, i < L.length → ∃ (A : Option Addr) (c : Nat), W.cell? ⟨g, i, none⟩ = some (.slice A (L.getD i []).length c) ∧ (L.getD i []).length ≤ c ∧ Kd.C (Kd.int .i64) W A (L.getD i []).length (L.getD i []) := by
 obtain ⟨g, cap, rfl, hg, hlt, cells, hcs⟩ := Kd.S_form h hp
 refine ⟨g, cap, rfl, hg, hlt, (Kd.S_reads' h).2.1, fun i _ => blk_frozen hcs i, fun i hi => ?_⟩
 obtain ⟨c, hcl, hM, hcc⟩ := Kd.S_get h [] (i : Int) (by omega) (by omega)
 rw [Int.toNat_natCast] at hM hcc
 obtain ⟨u, rfl, hR⟩ := hM
 obtain ⟨A, ci, rfl, hle, hC⟩ := Kd.R_reads hR
 refine ⟨A, ci, ?_, hle, hC⟩
 have := hcc 0 _ rfl
 rw [show (⟨g, 0, none⟩ : Addr).add (i * (Kd.slice 2 (Kd.int .i64)).sz + 0) = ⟨g, i, none⟩ by
  rw [show (Kd.slice 2 (Kd.int .i64)).sz = 1 from rfl, Nat.mul_one, Nat.add_zero]; exact add_plain _ _] at this
 exact this

theorem grownBy_below {w W W' : World} {row : Option Nat} (h : w.grownBy W row) (hb : Below W.heap.size W W') : w.grownBy W' row :=
 ⟨hb.os.trans h.os, hb.tape.trans h.tape, hb.output.trans h.output, Nat.le_trans h.size hb.size, fun k hk hne => (hb.block k (Nat.lt_of_lt_of_le hk h.size)).trans (h.block k hk hne)⟩
theorem grownBy_set {w W : World} {g : Nat} (h : w.grownBy W (some g)) (i : Nat) (u : Value) : w.grownBy (W.setCell ⟨g, i, none⟩ u) (some g) :=
 ⟨h.os, h.tape, h.output, by simpa [World.setCell] using h.size, fun k hk hne => (Below.heap_setCell W ⟨g, i, none⟩ u k (fun e => hne (by rw [e]))).trans (h.block k hk hne)⟩
theorem grownBy_refl (w : World) (row : Option Nat) : w.grownBy w row := ⟨rfl, rfl, rfl, Nat.le_refl _, fun _ _ _ => rfl⟩
def layV : Array Value → Nat → List Value → Array Value
 | cur, _, [] => cur
 | cur, o, v :: r => layV (cur.setIfInBounds o v) (o + 1) r
theorem layV_size : ∀ (l : List Value) (cur : Array Value) (o : Nat), (layV cur o l).size = cur.size
 | [], _, _ => rfl
 | v :: r, cur, o => by unfold layV; rw [layV_size r]; simp
theorem layV_low : ∀ (l : List Value) (cur : Array Value) (o m : Nat), m < o → (layV cur o l)[m]? = cur[m]?
 | [], _, _, _, _ => rfl
 | v :: r, cur, o, m, h => by
  unfold layV
  rw [layV_low r _ (o + 1) m (by omega), Array.getElem?_setIfInBounds, if_neg (by omega)]
theorem setCells_blk : ∀ (l : List Value) (W : World) (g o : Nat) (cur : Array Value) (t : TypeId), W.heap[g]? = some (.cells cur t (0, 0)) → (W.setCells g o l).heap[g]? = some (.cells (layV cur o l) t (0, 0))
 | [], _, _, _, _, _, h => h
 | v :: r, W, g, o, cur, t, h => setCells_blk r _ g (o + 1) _ t (blk_set h o v)
theorem setCells_grown : ∀ (l : List Value) (w W : World) (g o : Nat), w.grownBy W (some g) → w.grownBy (W.setCells g o l) (some g)
 | [], _, _, _, _, h => h
 | v :: r, w, W, g, o, h => setCells_grown r w _ g (o + 1) (grownBy_set h o v)
/-- the first index at which something holds, or -1 -/
def firstI (p : Nat → Bool) (n : Nat) : Int := match findE p 0 n with | some j => (j : Int) | none => -1
theorem firstI_hit {p : Nat → Bool} {n k : Nat} (h : k < n) (hk : p k = true) (hb : ∀ j, j < k → p j = false) : firstI p n = k := by
 unfold firstI
 cases hf : findE p 0 n with
 | none => rw [findE_none.mp hf k (Nat.zero_le _) (by omega)] at hk; cases hk
 | some j =>
  obtain ⟨_, h2, h3, h4⟩ := findE_some hf
  rcases Nat.lt_trichotomy j k with e | e | e
  ·rw [hb j e] at h3; cases h3
  ·subst e; rfl
  ·rw [h4 k (Nat.zero_le _) e] at hk; cases hk
theorem firstI_miss {p : Nat → Bool} {n : Nat} (hb : ∀ j, j < n → p j = false) : firstI p n = -1 := by
 unfold firstI
 rw [findE_none.mpr fun m _ h => hb m (by omega)]
set_option maxHeartbeats 2000000 in
theorem xw_IndexFunc_rows (vals : Nat → Value) (p : Nat → Bool) (g0 : Nat) (lb : Array Value) (eg : ∀ args w, (callFunc g0 args).run Tryz.prog w = .ok (.enter g0 args) w) (g cap n : Nat) (w : World) (hg : g < w.heap.size) (hn : n ≤ 1000000)
  (hcell : ∀ i, i < n → w.cell? ⟨g, i, none⟩ = some (vals i))
  (hp : ∀ (W : World) (i : Nat), i < n → Below w.heap.size w W → Calls Tryz.prog g0 (#[vals i] ++ lb) W fun e w' => e = .returned (.bool (p i)) ∧ Below W.heap.size W w') :
  Calls Tryz.prog 75 #[.slice (some ⟨g, 0, none⟩) n cap, .func (.func g0) #[] lb] w fun e w' => e = .returned (.int .i64 (firstI p n)) ∧ Below w.heap.size w w' := by
 have hreads : Aside0 (∀ W, Below w.heap.size w W → ∀ j, j < n → W.cell? ⟨g, j, none⟩ = some (vals j)) := ⟨fun W hW j hj => (hW.cell (p := ⟨g, j, none⟩) hg).trans (hcell j hj)⟩
 have hp' := Aside0.mk hp
 have hn' := Aside0.mk hn
 clear hp hcell hn
 go_enter Tryz.func75, Tryz.ntmps75
 go_wp2
 go_loopg [5, 8] n (fun gg _ s8 wr => ∃ kk : Nat, kk ≤ n ∧ n - kk ≤ gg ∧ s8 = .int .i64 kk ∧ Aside0 (Below w.heap.size w wr) ∧ Aside0 (∀ j, j < kk → p j = false))
 case atStart => exact ⟨0, Nat.zero_le _, by omega, rfl, ⟨Below.refl _ w⟩, ⟨fun j hj => absurd hj (Nat.not_lt_zero _)⟩⟩
 case round =>
  obtain ⟨kk, hkk, hgg, rfl, BW, A0⟩ := hrel
  by_cases hlt : kk < n
  ·have hltz : (kk : Int) < (n : Int) := by omega
   have c1 := decide_eq_true hltz
   have c2 := eq_true (show (0 : Int) ≤ (kk : Int) by omega)
   have c3 := eq_true hltz
   have c4 := eq_true hlt
   have hcell := hreads.out wr BW.out kk hlt
   have hcall := hp'.out wr kk hlt BW.out
   obtain ⟨u, hu⟩ : ∃ u, u = vals kk := ⟨_, rfl⟩
   rw [← hu] at hcell hcall
   have hw5 := Aside0.mk (show wrap64 ((kk : Int) + 1) = ((kk + 1 : Nat) : Int) by have := hn'.out; rw [w64 (by omega) (by omega)]; rfl)
   clear hu
   cases hq : p kk with
   | true =>
    rw [hq] at hcall
    have hq' := Aside0.mk hq
    clear hq
    go_wp2_with (go_at_fn g0; refine hcall.mono ?_; rintro e w' ⟨rfl, hb'⟩)
    go_ret
    exact ⟨by rw [firstI_hit hlt hq'.out A0.out]; rfl, below_then BW.out BW.out.size hb'⟩
   | false =>
    rw [hq] at hcall
    have hq' := Aside0.mk hq
    clear hq
    go_wp2_with (go_at_fn g0; refine hcall.mono ?_; rintro e w' ⟨rfl, hb'⟩)
    go_roundg (n - (kk + 1))
    case measure => omega
    case rel =>
     refine ⟨kk + 1, by omega, by omega, by rw [hw5.out], ⟨below_then BW.out BW.out.size hb'⟩, ⟨fun j hj => ?_⟩⟩
     by_cases e : j = kk
     ·subst e; exact hq'.out
     ·exact A0.out j (by omega)
  ·have hltz : ¬ (kk : Int) < (n : Int) := by omega
   have c1 := decide_eq_false hltz
   obtain rfl : kk = n := by omega
   go_wp2
   go_ret
   exact ⟨by rw [firstI_miss A0.out]; rfl, BW.out⟩
/-- the indexes that stay, of the first j -/
def keptI (p : Nat → Bool) (j : Nat) : List Nat := (List.range j).filter fun m => !p m
theorem keptI_succ (p : Nat → Bool) (j : Nat) : keptI p (j + 1) = keptI p j ++ (if p j = true then [] else [j]) := by
 unfold keptI
 rw [List.range_succ, List.filter_append]
 cases h : p j <;> simp [h]
theorem keptI_le (p : Nat → Bool) (j : Nat) : (keptI p j).length ≤ j := by
 have := List.length_filter_le (fun m => !p m) (List.range j)
 simpa [keptI] using this
theorem keptI_spec (p : Nat → Bool) : ∀ (j m x : Nat), (keptI p j)[m]? = some x → x < j ∧ (keptI p x).length = m
 | 0, m, x, h => by simp [keptI] at h
 | j + 1, m, x, h => by
  rw [keptI_succ] at h
  rcases Nat.lt_or_ge m (keptI p j).length with hlt | hge
  ·rw [List.getElem?_append_left hlt] at h
   obtain ⟨h1, h2⟩ := keptI_spec p j m x h
   exact ⟨by omega, h2⟩
  ·rw [List.getElem?_append_right hge] at h
   split at h
   ·simp at h
   ·have hm : m - (keptI p j).length = 0 := by
     rcases Nat.eq_zero_or_pos (m - (keptI p j).length) with e | e
     ·exact e
     ·rw [List.getElem?_eq_none (by simp; omega)] at h; cases h
    rw [hm] at h
    simp only [List.getElem?_cons_zero, Option.some.injEq] at h
    subst h
    exact ⟨by omega, by omega⟩
theorem keptI_all {p : Nat → Bool} : ∀ {n : Nat}, (∀ j, j < n → p j = false) → keptI p n = List.range n
 | 0, _ => rfl
 | n + 1, h => by
  rw [keptI_succ, keptI_all (fun j hj => h j (by omega)), h n (by omega), List.range_succ]; rfl
/-- the cells of the row while slices.DeleteFunc runs -/
def delInv (vals : Nat → Value) (p : Nat → Bool) (n j : Nat) (cur : Array Value) : Prop :=
 (∀ (m x : Nat), (keptI p j)[m]? = some x → cur[m]? = some (vals x)) ∧ ∀ m : Nat, j ≤ m → m < n → cur[m]? = some (vals m)
theorem delInv_skip {vals : Nat → Value} {p : Nat → Bool} {n j : Nat} {cur : Array Value} (h : delInv vals p n j cur) (hp : p j = true) : delInv vals p n (j + 1) cur := by
 refine ⟨fun m x hx => ?_, fun m h1 h2 => h.2 m (by omega) h2⟩
 rw [keptI_succ, if_pos hp, List.append_nil] at hx
 exact h.1 m x hx
theorem delInv_keep {vals : Nat → Value} {p : Nat → Bool} {n j : Nat} {cur : Array Value} (h : delInv vals p n j cur) (hp : p j = false) (hj : j < cur.size) : delInv vals p n (j + 1) (cur.setIfInBounds (keptI p j).length (vals j)) := by
 have hle := keptI_le p j
 refine ⟨fun m x hx => ?_, fun m h1 h2 => ?_⟩
 ·rw [keptI_succ, hp, if_neg (by decide)] at hx
  rw [Array.getElem?_setIfInBounds]
  rcases Nat.lt_or_ge m (keptI p j).length with hlt | hge
  ·rw [List.getElem?_append_left hlt] at hx
   rw [if_neg (by omega)]
   exact h.1 m x hx
  ·rw [List.getElem?_append_right hge] at hx
   have hm : m - (keptI p j).length = 0 := by
    rcases Nat.eq_zero_or_pos (m - (keptI p j).length) with e | e
    ·exact e
    ·rw [List.getElem?_eq_none (by simp; omega)] at hx; cases hx
   rw [hm] at hx
   simp only [List.getElem?_cons_zero, Option.some.injEq] at hx
   subst hx
   rw [if_pos (by omega), if_pos (by omega)]
 ·rw [Array.getElem?_setIfInBounds, if_neg (by omega)]
  exact h.2 m (by omega) h2
theorem delInv_start {vals : Nat → Value} {p : Nat → Bool} {n k : Nat} {cur : Array Value} (hc : ∀ m : Nat, m < n → cur[m]? = some (vals m)) (hb : ∀ j, j < k → p j = false) (hk : p k = true) (hkn : k < n) : delInv vals p n (k + 1) cur ∧ (keptI p (k + 1)).length = k := by
 have e : keptI p (k + 1) = List.range k := by rw [keptI_succ, if_pos hk, List.append_nil, keptI_all hb]
 refine ⟨⟨fun m x hx => ?_, fun m _ h2 => hc m h2⟩, by rw [e]; simp⟩
 rw [e] at hx
 obtain ⟨h1, h2⟩ := List.getElem?_eq_some_iff.mp hx
 simp only [List.length_range] at h1
 rw [List.getElem_range] at h2
 subst h2
 exact hc m (by omega)

set_option maxHeartbeats 4000000 in
set_option maxRecDepth 1000000 in
theorem xw_DeleteFunc_rows (vals : Nat → Value) (p : Nat → Bool) (g0 : Nat) (lb : Array Value) (eg : ∀ args w, (callFunc g0 args).run Tryz.prog w = .ok (.enter g0 args) w) (g cap n : Nat) (cur0 : Array Value) (w : World)
  (hblk : w.heap[g]? = some (.cells cur0 42 (0, 0))) (hcap : cur0.size = cap) (hnc : n ≤ cap) (hn : n ≤ 1000000)
  (hcell : ∀ m : Nat, m < n → cur0[m]? = some (vals m)) (hsl : ∀ m : Nat, m < n → ∃ A l c, vals m = .slice A l c)
  (hp : ∀ (W : World) (i : Nat), i < n → w.grownBy W (some g) → Calls Tryz.prog g0 (#[vals i] ++ lb) W fun e w' => e = .returned (.bool (p i)) ∧ Below W.heap.size W w') :
  Calls Tryz.prog 59 #[.slice (some ⟨g, 0, none⟩) n cap, .func (.func g0) #[] lb] w fun e w' => ∃ cur : Array Value, e = .returned (.slice (some ⟨g, 0, none⟩) (keptI p n).length cap) ∧ w'.heap[g]? = some (.cells cur 42 (0, 0)) ∧ cur.size = cap ∧ (∀ (m x : Nat), (keptI p n)[m]? = some x → cur[m]? = some (vals x)) ∧ w.grownBy w' (some g) := by
 have hIF := xw_IndexFunc_rows vals p g0 lb eg g cap n w (blk_lt hblk) hn (fun i hi => (blk_cell hblk i).trans (hcell i hi)) (fun W i hi hb => hp W i hi (grownBy_below (grownBy_refl w _) hb))
 have hp' := Aside0.mk hp
 have hcell' := Aside0.mk hcell
 have hsl' := Aside0.mk hsl
 have hblk' := Aside0.mk hblk
 have hcap' := Aside0.mk hcap
 have hn' := Aside0.mk hn
 have hnc' := Aside0.mk hnc
 clear hp hcell hsl hblk hn hnc
 cases hf : findE p 0 n with
 | none =>
  have hall : ∀ j, j < n → p j = false := fun j hj => findE_none.mp hf j (Nat.zero_le _) (by omega)
  rw [firstI_miss hall] at hIF
  have hk := keptI_all hall
  have hk' := Aside0.mk hk
  clear hf hall hk hcap
  go_enter Tryz.func59, Tryz.ntmps59
  go_wp2_with (go_at_call 75; refine hIF.mono ?_; rintro e w1 ⟨rfl, hb1⟩; have HB1 := Aside0.mk hb1; clear hb1)
  go_ret
  refine ⟨cur0, by rw [hk'.out]; simp, blk_below hblk'.out HB1.out, hcap'.out, fun m x hx => ?_, grownBy_below (grownBy_refl w _) HB1.out⟩
  rw [hk'.out] at hx
  obtain ⟨h1, h2⟩ := List.getElem?_eq_some_iff.mp hx
  simp only [List.length_range] at h1
  rw [List.getElem_range] at h2
  subst h2
  exact hcell'.out m h1
 | some k0 =>
  obtain ⟨_, hk2, hk3, hk4⟩ := findE_some hf
  have hkb : ∀ j, j < k0 → p j = false := fun j hj => hk4 j (Nat.zero_le _) hj
  rw [firstI_hit (by omega) hk3 hkb] at hIF
  obtain ⟨hd1, hd2⟩ := delInv_start hcell'.out hkb hk3 (by omega)
  have hkn := Aside0.mk (show k0 < n by omega)
  have hD := Aside0.mk hd1
  have hL := Aside0.mk hd2
  have c0 : ((k0 : Int) == -1) = false := beq_eq_false_iff_ne.mpr (by omega)
  have hw0 := Aside0.mk (show wrap64 ((k0 : Int) + 1) = ((k0 + 1 : Nat) : Int) by have := hn'.out; rw [w64 (by omega) (by omega)]; rfl)
  clear hf hk2 hk3 hk4 hkb hd1 hd2 hcell' hcap
  go_enter Tryz.func59, Tryz.ntmps59
  go_wp2_with (go_at_call 75; refine hIF.mono ?_; rintro e w1 ⟨rfl, hb1⟩; have HB1 := Aside0.mk hb1; clear hb1)
  go_loopg [5, 6, 7] n (fun gg v5 v6 _ wr => ∃ (i j : Nat) (cur : Array Value), v5 = .int .i64 i ∧ v6 = .int .i64 j ∧ j ≤ n ∧ n - j ≤ gg ∧ i = (keptI p j).length ∧ i < j ∧ Aside0 (cur.size = cap) ∧ Aside0 (delInv vals p n j cur) ∧ Aside0 (wr.heap[g]? = some (.cells cur 42 (0, 0))) ∧ Aside0 (w.grownBy wr (some g)))
  case atStart => exact ⟨k0, k0 + 1, cur0, rfl, by rw [hw0.out], by have := hkn.out; omega, by omega, hL.out.symm, by omega, hcap', hD, ⟨blk_below hblk'.out HB1.out⟩, ⟨grownBy_below (grownBy_refl w _) HB1.out⟩⟩
  case round =>
   clear hIF HB1 hL hD hblk' hw0 c0
   obtain ⟨i, j, cur, rfl, rfl, hj, hgg, hi, hij, hsz, hI, hB, hG⟩ := hrel
   have hn2 := hn'.out
   have hnc2 := hnc'.out
   by_cases hlt : j < n
   ·have hltz : (j : Int) < (n : Int) := by omega
    have c1 := decide_eq_true hltz
    have c2 := eq_true (show (0 : Int) ≤ (j : Int) by omega)
    have c3 := eq_true hltz
    have c4 := eq_true hlt
    have c5 := eq_true (show (0 : Int) ≤ (i : Int) by omega)
    have c6 := eq_true (show (i : Int) < (n : Int) by omega)
    have c7 := eq_true (show i < n by omega)
    have hsz2 := hsz.out
    obtain ⟨old, hold⟩ : ∃ u, cur[i]? = some u := ⟨_, Array.getElem?_eq_getElem (by omega)⟩
    have hold' := Aside0.mk hold
    have hcj := (blk_cell hB.out j).trans (hI.out.2 j (Nat.le_refl _) hlt)
    have hcall := hp'.out wr j hlt hG.out
    obtain ⟨u, hu⟩ : ∃ u, u = vals j := ⟨_, rfl⟩
    obtain ⟨A, l, c, hs⟩ := hsl'.out j hlt
    rw [← hu] at hcj hcall hs
    subst hs
    have hu' := Aside0.mk hu
    have hw5 := Aside0.mk (show wrap64 ((j : Int) + 1) = ((j + 1 : Nat) : Int) by rw [w64 (by omega) (by omega)]; rfl)
    have hw6 := Aside0.mk (show wrap64 ((i : Int) + 1) = ((i + 1 : Nat) : Int) by rw [w64 (by omega) (by omega)]; rfl)
    have hi' := Aside0.mk hi
    have hij' := Aside0.mk hij
    clear hu hold hn2 hnc2 hsz2 hi hij
    cases hq : p j with
    | true =>
     rw [hq] at hcall
     have hq' := Aside0.mk hq
     clear hq
     go_wp2_with (go_at_fn g0; refine hcall.mono ?_; rintro e w2 ⟨rfl, hb2⟩; have HB2 := Aside0.mk hb2; clear hb2)
     go_roundg (n - (j + 1))
     case measure => omega
     case rel => exact ⟨i, j + 1, cur, rfl, by rw [hw5.out], by omega, by omega, by rw [keptI_succ, if_pos hq'.out, List.append_nil]; exact hi'.out, by have := hij'.out; omega, hsz, ⟨delInv_skip hI.out hq'.out⟩, ⟨blk_below hB.out HB2.out⟩, ⟨grownBy_below hG.out HB2.out⟩⟩
    | false =>
     rw [hq] at hcall
     have hq' := Aside0.mk hq
     clear hq
     go_wp2_with (go_at_fn g0; refine hcall.mono ?_; rintro e w2 ⟨rfl, hb2⟩; have HB2 := Aside0.mk hb2; have hblk2 := blk_below hB.out hb2; have hci := (blk_cell hblk2 i).trans hold'.out; have hfi := blk_frozen hblk2 i; clear hb2 hblk2)
     go_roundg (n - (j + 1))
     case measure => omega
     case rel =>
      have hk1 := delInv_keep hI.out hq'.out (by have := hsz.out; have := hnc'.out; omega)
      rw [← hi'.out, ← hu'.out] at hk1
      exact ⟨i + 1, j + 1, cur.setIfInBounds i (.slice A l c), by rw [hw6.out], by rw [hw5.out], by omega, by omega, by rw [keptI_succ, hq'.out, if_neg (by decide), List.length_append, ← hi'.out]; rfl, by have := hij'.out; omega, ⟨by rw [Array.size_setIfInBounds]; exact hsz.out⟩, ⟨hk1⟩, ⟨blk_set (blk_below hB.out HB2.out) i _⟩, ⟨grownBy_set (grownBy_below hG.out HB2.out) i _⟩⟩
   ·have hltz : ¬ (j : Int) < (n : Int) := by omega
    have c1 := decide_eq_false hltz
    obtain rfl : j = n := by omega
    have c2 := eq_true (show (0 : Int) ≤ (i : Int) by omega)
    have c3 := eq_true (show (i : Int) ≤ (j : Int) by omega)
    have c4 := eq_true (show i ≤ j by omega)
    have c5 := eq_true (show (i : Int) ≤ (cap : Int) by omega)
    have c6 := eq_true (show i ≤ cap by omega)
    have c7 : ¬ i = cap := by omega
    have c8 : ¬ cap = i := by omega
    have hcl : ∀ ty, (Builtin.clear_ #[28] ty #[.slice (some ⟨g, i, none⟩) (j - i) (cap - i)]).run Tryz.prog wr = .ok (.tuple #[]) (wr.setCells g i (List.replicate (j - i) (.slice none 0 0))) := fun ty =>
     Lib.run_clear_slice wr _ _ ty _ Tryz.underlying28 Tryz.zeroValue42 rfl rfl g i _ _ (by omega) (fun t ht => by rw [blk_cell hB.out, Array.getElem?_eq_getElem (by have := hsz.out; omega)]; rfl) (fun t _ => blk_frozen hB.out _)
    have hi' := Aside0.mk hi
    clear hi hij hn2 hnc2
    go_wp2
    go_ret
    refine ⟨by rw [← hi'.out]; rfl, layV cur i (List.replicate (j - i) (.slice none 0 0)), setCells_blk _ wr g i cur _ hB.out, by rw [layV_size]; exact hsz.out, fun m x hx => ?_, setCells_grown _ w wr g i hG.out⟩
    have hm : m < i := by
     rw [hi'.out]
     exact (List.getElem?_eq_some_iff.mp hx).1
    rw [layV_low _ _ _ _ hm]
    exact hI.out.1 m x hx

def ovB (s : ByteArray) (l : List Int) : Bool := decide ((s.size : Int) ≤ rd l 0 + 2 * rd l 1) || !(bt s (rd l 0 + 2 * rd l 1) == bt s (rd l 0))
set_option maxHeartbeats 4000000 in
theorem xw_overlaps1 (s : ByteArray) (b0 : Nat) (l : List Int) (A : Option Addr) (c : Nat) (W : World) (h0 : W.cell? ⟨b0, 0, none⟩ = some (.string s)) (hC : Kd.C (Kd.int .i64) W A l.length l) (h2 : 2 ≤ l.length) (hs : s.size ≤ 1000)
  (x0 : 0 ≤ rd l 0) (x1 : rd l 0 ≤ 1000) (x2 : 0 ≤ rd l 1) (x3 : rd l 1 ≤ 1000) :
  Calls Tryz.prog 60 #[.slice A l.length c, .pointer (some ⟨b0, 0, none⟩)] W fun e w' => e = .returned (.bool (ovB s l)) ∧ Below W.heap.size W w' := by
 obtain ⟨ad, rfl, hx0⟩ := Kd.at_int hC 0 (by omega) (by omega)
 obtain ⟨ad2, he2, hx1⟩ := Kd.at_int hC 1 (by omega) (by omega)
 cases he2
 rw [show ad.add (0 : Int).toNat = ad by unfold Addr.add; simp] at hx0
 simp only [show (1 : Int).toNat = 1 from rfl, Nat.reduceMul, Nat.reduceEqDiff, Go.Addr.add, ↓reduceIte] at hx1
 have hov : Aside0 (ovB s l = (decide ((s.size : Int) ≤ rd l 0 + 2 * rd l 1) || !(bt s (rd l 0 + 2 * rd l 1) == bt s (rd l 0)))) := ⟨rfl⟩
 obtain ⟨n, hn⟩ : ∃ n : Nat, rd l 0 = n := ⟨(rd l 0).toNat, by omega⟩
 obtain ⟨q, hq⟩ : ∃ n : Nat, rd l 1 = n := ⟨(rd l 1).toNat, by omega⟩
 rw [hn, hq] at hov
 rw [hn] at hx0 x0 x1
 rw [hq] at hx1 x2 x3
 obtain ⟨m, hm⟩ : ∃ m : Nat, m = n + 2 * q := ⟨_, rfl⟩
 rw [show (n : Int) + 2 * (q : Int) = (m : Int) by omega] at hov
 have e1 : wrap64 (2 * (q : Int)) = 2 * (q : Int) := w64 (by omega) (by omega)
 have e2 : IntKind.i64.wrap (2 * (q : Int)) = 2 * (q : Int) := (i64_w _).trans e1
 have e3 : wrap64 ((n : Int) + 2 * (q : Int)) = (m : Int) := by rw [w64 (by omega) (by omega)]; omega
 have e4 : IntKind.i64.wrap ((n : Int) + 2 * (q : Int)) = (m : Int) := (i64_w _).trans e3
 have p0 := eq_true (show 0 < l.length by omega)
 have p1 := eq_true (show 1 < l.length by omega)
 have p2 := eq_true (show (0 : Int) < (l.length : Int) by omega)
 have p3 := eq_true (show (1 : Int) < (l.length : Int) by omega)
 have p4 := decide_eq_true (show (0 : Int) < (l.length : Int) by omega)
 have p5 := decide_eq_true (show (1 : Int) < (l.length : Int) by omega)
 have hnm := Aside0.mk (show n ≤ m by omega)
 clear hC hn hq hm x0 x1 x2 x3 h2
 by_cases hge : (s.size : Int) ≤ (m : Int)
 ·have c1 := decide_eq_true hge
  have c1n := decide_eq_true (show s.size ≤ m by omega)
  go_enter Tryz.func60, Tryz.ntmps60
  go_wp2
  go_quiet (fail)
  generalize hW1 : W.drewN _ = W1
  have k0 : W1.cell? ⟨b0, 0, none⟩ = some (.string s) := by rw [← hW1]; exact h0
  have k1 : W1.cell? ad = some (.int .i64 n) := by rw [← hW1]; exact hx0
  have HB1 := Aside0.mk (show Below W.heap.size W W1 by rw [← hW1]; exact pw_below_drewN (Below.refl _ _) _)
  clear hW1 h0 hx0 hx1
  go_wp2
  go_quiet ((go_at_call 49; exact Calls.quiet_of_same (xw_size _ _)))
  go_wp2
  go_ret
  exact ⟨by rw [hov.out, c1]; first | rfl | (simp [c1n]; done), by repeat (first | exact HB1.out | apply pw_below_drewN | apply below_drew)⟩
 ·have c1 := decide_eq_false hge
  have c1n := decide_eq_false (show ¬ s.size ≤ m by omega)
  have hnm2 := hnm.out
  have q0 := eq_true (show (m : Int) < s.size by omega)
  have q1 := eq_true (show (n : Int) < s.size by omega)
  have q2 := decide_eq_true (show (m : Int) < s.size by omega)
  have q3 := decide_eq_true (show (n : Int) < s.size by omega)
  have q4 := decide_eq_true (show m < s.size by omega)
  have q5 := decide_eq_true (show n < s.size by omega)
  have q6 := eq_true (show m < s.size by omega)
  have q7 := eq_true (show n < s.size by omega)
  have hx2 : ∀ h : m < s.size, ((s[m]'h).toNat : Int) = bt s m := fun h => bt_at s m h
  have hx3 : ∀ h : n < s.size, ((s[n]'h).toNat : Int) = bt s n := fun h => bt_at s n h
  clear hnm2 hnm
  by_cases he : bt s m = bt s n
  ·have f1 : (bt s m == bt s n) = true := beq_iff_eq.mpr he
   have f2 : (bt s m != bt s n) = false := by simp [bne, f1]
   clear he
   go_enter Tryz.func60, Tryz.ntmps60
   go_wp2
   go_quiet (fail)
   generalize hW1 : W.drewN _ = W1
   have k0 : W1.cell? ⟨b0, 0, none⟩ = some (.string s) := by rw [← hW1]; exact h0
   have k1 : W1.cell? ad = some (.int .i64 n) := by rw [← hW1]; exact hx0
   have HB1 := Aside0.mk (show Below W.heap.size W W1 by rw [← hW1]; exact pw_below_drewN (Below.refl _ _) _)
   clear hW1 h0 hx0 hx1
   go_wp2
   go_quiet ((go_at_call 49; exact Calls.quiet_of_same (xw_size _ _)))
   go_wp2
   go_ret
   exact ⟨by rw [hov.out, c1, f1]; first | rfl | (simp [c1n]; done), by repeat (first | exact HB1.out | apply pw_below_drewN | apply below_drew)⟩
  ·have f1 : (bt s m == bt s n) = false := beq_eq_false_iff_ne.mpr he
   have f2 : (bt s m != bt s n) = true := by simp [bne, f1]
   clear he
   go_enter Tryz.func60, Tryz.ntmps60
   go_wp2
   go_quiet (fail)
   generalize hW1 : W.drewN _ = W1
   have k0 : W1.cell? ⟨b0, 0, none⟩ = some (.string s) := by rw [← hW1]; exact h0
   have k1 : W1.cell? ad = some (.int .i64 n) := by rw [← hW1]; exact hx0
   have HB1 := Aside0.mk (show Below W.heap.size W W1 by rw [← hW1]; exact pw_below_drewN (Below.refl _ _) _)
   clear hW1 h0 hx0 hx1
   go_wp2
   go_quiet ((go_at_call 49; exact Calls.quiet_of_same (xw_size _ _)))
   go_wp2
   go_ret
   exact ⟨by rw [hov.out, c1, f1]; first | rfl | (simp [c1n]; done), by repeat (first | exact HB1.out | apply pw_below_drewN | apply below_drew)⟩

theorem S_vals {W : World} {base : Nat} {ok : Nat → Prop} {v : Value} {L : List (List Int)} (h : Kd.S (Kd.slice 2 (Kd.int .i64)) 42 W base ok v L) (hp : 0 < L.length) :
  ∃ (g cap : Nat) (cur : Array Value) (f : Nat → Nat) (vals : Nat → Value), v = .slice (some ⟨g, 0, none⟩) L.length cap ∧ base ≤ g ∧ ok g ∧ W.heap[g]? = some (.cells cur 42 (0, 0)) ∧ cur.size = cap ∧ L.length ≤ cap ∧ cap ≤ maxLen ∧ (∀ m : Nat, m < L.length → cur[m]? = some (vals m)) ∧
   ∀ m : Nat, m < L.length → Kd.R (Kd.int .i64) 2 W base (fun k => (ok k ∧ k ≠ g) ∧ f k = m) (vals m) (L.getD m []) := by
 obtain ⟨f, h0, inner, hown, hr⟩ := h
 rw [List.length_zipIdx] at hown
 rcases hown.2 with ⟨_, e0⟩ | ⟨g, cap, cur, rfl, hg, hb, hn, hm, hs, ht⟩
 ·omega
 ·rw [show (Kd.tag f (Kd.slice 2 (Kd.int .i64))).sz = 1 from rfl, Nat.mul_one] at hs ht
  have hil : inner.length = L.length := by
   have := hown.1
   rw [show (Kd.tag f (Kd.slice 2 (Kd.int .i64))).sz = 1 from rfl, Nat.mul_one] at this
   exact this
  refine ⟨g, cap, cur, f, fun m => (inner[m]?).getD (.slice none 0 0), rfl, hg, h0 g rfl, hb, hs, hn, hm, fun m hlt => ?_, fun m hlt => ?_⟩
  ·have him : inner[m]? = some inner[m] := List.getElem?_eq_getElem (by omega)
   have e1 : (cur.toList.take L.length)[m]? = inner[m]? := by rw [ht]
   rw [List.getElem?_take, if_pos hlt, Array.getElem?_toList] at e1
   rw [e1]; simp only [him, Option.getD_some]
  ·have hM := hr.2 m _ (Kd.zip_at (List.getElem?_eq_getElem hlt))
   obtain ⟨u, hu, hR⟩ := hM
   rw [show (Kd.tag f (Kd.slice 2 (Kd.int .i64))).sz = 1 from rfl, Nat.mul_one] at hu
   have hu2 : inner[m]? = some u := by
    have := congrArg (fun l => l[0]?) hu
    simpa [List.getElem?_take, List.getElem?_drop] using this
   simp only [hu2, Option.getD_some]
   rw [List.getD_eq_getElem?_getD, List.getElem?_eq_getElem hlt]
   refine Kd.R_mono hR fun k hk => ⟨⟨hk.1.1, fun e => hk.1.2 (by subst e; rfl)⟩, hk.2⟩
theorem S_of_vals {W : World} {base : Nat} {ok : Nat → Prop} {L : List (List Int)} {g cap : Nat} {cur : Array Value} {f rank : Nat → Nat} {vals : Nat → Value} {K : List Nat} (hg : base ≤ g) (hok : ok g) (hb : W.heap[g]? = some (.cells cur 42 (0, 0))) (hs : cur.size = cap) (hn : K.length ≤ cap) (hm : cap ≤ maxLen)
  (hc : ∀ (m x : Nat), K[m]? = some x → cur[m]? = some (vals x)) (hR : ∀ (m x : Nat), K[m]? = some x → Kd.R (Kd.int .i64) 2 W base (fun k => (ok k ∧ k ≠ g) ∧ f k = x) (vals x) (L.getD x [])) (hrank : ∀ (m x : Nat), K[m]? = some x → rank x = m) :
  Kd.S (Kd.slice 2 (Kd.int .i64)) 42 W base ok (.slice (some ⟨g, 0, none⟩) K.length cap) (K.map fun x => L.getD x []) := by
 refine ⟨fun k => rank (f k), fun k hk => ?_, K.map vals, ⟨?_, .inr ⟨g, cap, cur, ?_, hg, hb, ?_, hm, ?_, ?_⟩⟩, ?_, fun j p hj => ?_⟩
 ·have : g = k := by simpa [Value.ownBlock] using hk
  subst this; exact hok
 ·simp [Kd.tag, Kd.slice]
 ·simp
 ·simpa using hn
 ·simp [Kd.tag, Kd.slice, hs]
 ·apply List.ext_getElem?
  intro m
  simp only [Kd.tag, Kd.slice, Nat.mul_one, List.length_zipIdx, List.length_map, List.getElem?_take, List.getElem?_map, Array.getElem?_toList]
  by_cases h : m < K.length
  ·rw [if_pos h, hc m _ (List.getElem?_eq_getElem h), List.getElem?_eq_getElem h]; rfl
  ·rw [if_neg h, List.getElem?_eq_none (by omega)]; rfl
 ·simp [Kd.tag, Kd.slice]
 ·rw [List.getElem?_zipIdx, Nat.zero_add, List.getElem?_map] at hj
  obtain ⟨x, hx, rfl⟩ : ∃ x, K[j]? = some x ∧ p = (L.getD x [], j) := by
   cases hK : K[j]? with
   | none => rw [hK] at hj; simp at hj
   | some x => rw [hK] at hj; simp only [Option.map_some, Option.some.injEq] at hj; exact ⟨x, rfl, hj.symm⟩
  refine ⟨vals x, ?_, ?_⟩
  ·show ((K.map vals).drop (j * 1)).take 1 = [vals x]
   rw [Nat.mul_one]
   have hjl : j < (K.map vals).length := by rw [List.length_map]; exact (List.getElem?_eq_some_iff.mp hx).1
   rw [List.drop_eq_getElem_cons hjl, List.take_succ_cons, List.take_zero, List.getElem_map]
   have := (List.getElem?_eq_some_iff.mp hx).2
   rw [this]
  ·refine Kd.R_mono (hR j x hx) fun k hk => ⟨⟨hk.1.1, fun e => hk.1.2 ?_⟩, ?_⟩
   ·simpa [Value.ownBlock] using e
   ·show rank (f k) = j
    rw [hk.2]; exact hrank j x hx
def okRow (l : List Int) : Bool := decide (2 ≤ l.length) && (inR (rd l 0) 0 1000 && inR (rd l 1) 0 1000)
theorem kept_map (p : List Int → Bool) : ∀ (L : List (List Int)), (keptI (fun m => p (L.getD m [])) L.length).map (fun x => L.getD x []) = L.filter fun l => !p l := by
 intro L
 unfold keptI
 have e : L = (List.range L.length).map fun m => L.getD m [] := by
  apply List.ext_getElem
  ·simp
  ·intro i h1 h2; simp [List.getD_eq_getElem?_getD, h1]
 conv => rhs; rw [e, List.filter_map]
 rfl
set_option maxHeartbeats 2000000 in
theorem xw_IndexFunc_nil (A : Option Addr) (c g0 : Nat) (lb : Array Value) (w : World) :
  Calls Tryz.prog 75 #[.slice A 0 c, .func (.func g0) #[] lb] w fun e w' => e = .returned (.int .i64 (-1)) ∧ w' = w := by
 go_enter Tryz.func75, Tryz.ntmps75
 go_wp2
 go_loopg [5, 8] 0 (fun gg _ s8 wr => s8 = .int .i64 0 ∧ wr = w)
 case atStart => exact ⟨rfl, rfl⟩
 case round =>
  obtain ⟨rfl, rfl⟩ := hrel
  go_wp2
  go_ret
  exact ⟨rfl, rfl⟩
theorem xw_DeleteFunc_nil (A : Option Addr) (c g0 : Nat) (lb : Array Value) (w : World) :
  Calls Tryz.prog 59 #[.slice A 0 c, .func (.func g0) #[] lb] w fun e w' => e = .returned (.slice A 0 c) ∧ w' = w := by
 go_enter Tryz.func59, Tryz.ntmps59
 go_wp2_with (go_at_call 75; refine (xw_IndexFunc_nil _ _ _ _ _).mono ?_; rintro e w' ⟨rfl, rfl⟩)
 go_ret
 exact ⟨rfl, rfl⟩
/-- slices.DeleteFunc in overlaps: the rows of the call's own; the word lies in a captured variable's block. -/
theorem xw_Delete_overlaps (s : ByteArray) (b0 : Nat) (L : List (List Int)) (v : Value) (w : World) (base : Nat) (hs : s.size ≤ 1000) (hn : L.length ≤ 1000000) (hL : L.all okRow = true) (hb0 : b0 < base) (hbase : base ≤ w.heap.size) (hcell : w.cell? ⟨b0, 0, none⟩ = some (.string s))
  (hS : Kd.S (Kd.slice 2 (Kd.int .i64)) 42 w base (fun _ => True) v L) :
  Calls Tryz.prog 59 #[v, .func (.func 60) #[] #[.pointer (some ⟨b0, 0, none⟩)]] w fun e w' => ∃ v' : Value, e = .returned v' ∧ Kd.S (Kd.slice 2 (Kd.int .i64)) 42 w' base (fun _ => True) v' (L.filter fun l => !ovB s l) ∧ Below base w w' := by
 by_cases hp : 0 < L.length
 ·obtain ⟨g, cap, cur, f, vals, rfl, hg, hok, hb, hsz, hnc, hm, hc, hR⟩ := S_vals hS hp
  have hrow : ∀ (W : World), w.grownBy W (some g) → ∀ m : Nat, m < L.length → Kd.R (Kd.int .i64) 2 W base (fun k => (True ∧ k ≠ g) ∧ f k = m) (vals m) (L.getD m []) := fun W hW m hlt =>
   Kd.R_step (hR m hlt) fun k hk hkl => hW.block k hkl (fun e => hk.1.2 (by injection e))
  have hD := xw_DeleteFunc_rows vals (fun m => ovB s (L.getD m [])) 60 #[.pointer (some ⟨b0, 0, none⟩)] (enters_of Tryz.func60 (by kernel_rfl) rfl) g cap L.length cur w hb hsz hnc hn hc
   (fun m hlt => by obtain ⟨A, c, e, _, _⟩ := Kd.R_reads (hR m hlt); exact ⟨A, _, c, e⟩)
   (fun W i hi hW => by
    obtain ⟨A, c, e, hle, hC⟩ := Kd.R_reads (hrow W hW i hi)
    have hok := List.all_eq_true.mp hL (L.getD i []) (by rw [List.getD_eq_getElem?_getD, List.getElem?_eq_getElem hi]; exact List.getElem_mem hi)
    unfold okRow at hok
    rw [Bool.and_eq_true, Bool.and_eq_true, decide_eq_true_iff] at hok
    obtain ⟨a0, a1⟩ := inR_true hok.2.1
    obtain ⟨a2, a3⟩ := inR_true hok.2.2
    have hcw : W.cell? ⟨b0, 0, none⟩ = some (.string s) := (World.cell?_of_block (w := w) (w' := W) (a := ⟨b0, 0, none⟩) (hW.block b0 (by omega) (fun e => by injection e with e; omega))).trans hcell
    rw [e]
    exact xw_overlaps1 s b0 (L.getD i []) A c W hcw hC hok.1 hs a0 a1 a2 a3)
  refine hD.mono ?_
  rintro e w' ⟨cur', rfl, hb', hsz', hc', hW⟩
  refine ⟨_, rfl, ?_, ⟨hW.os, hW.tape, hW.output, hW.size, fun k hk => hW.block k (by omega) (fun e => by injection e with e; omega)⟩⟩
  rw [← kept_map (ovB s) L]
  have hkl := keptI_le (fun m => ovB s (L.getD m [])) L.length
  exact S_of_vals (rank := fun x => (keptI (fun m => ovB s (L.getD m [])) x).length) hg hok hb' hsz' (by omega) hm hc' (fun m x hx => hrow w' hW x (keptI_spec _ _ _ _ hx).1) (fun m x hx => (keptI_spec _ _ _ _ hx).2)
 ·obtain ⟨A, c, rfl⟩ := Kd.S_slice hS
  have h0 : L = [] := List.length_eq_zero_iff.mp (by omega)
  subst h0
  refine (xw_DeleteFunc_nil A c _ _ w).mono ?_
  rintro e w' ⟨rfl, rfl⟩
  exact ⟨_, rfl, hS, Below.refl _ _⟩
def impl_overlaps.f (k : Nat) (a0 : ByteArray) : Option (List (List Int)) := (impl_powersIn.f k a0 2).bind fun L => if a0.size ≤ 1000 ∧ L.length ≤ 1000000 ∧ L.all okRow = true then some (L.filter fun l => !ovB a0 l) else none
set_option maxHeartbeats 4000000 in
theorem impl_overlaps.calls (k : Nat) (a0 : ByteArray) (r : List (List Int)) (w : World) (h : impl_overlaps.f k a0 = some r) :
  Calls Tryz.prog 38 #[.string a0] w fun e w' => ∃ v : Value, e = .returned v ∧ Kd.S (Kd.slice 2 (Kd.int .i64)) 42 w' w.heap.size (fun _ => True) v r ∧ Below w.heap.size w w' := by
 unfold impl_overlaps.f at h
 obtain ⟨L, hL, h⟩ := Option.bind_eq_some_iff.mp h
 by_cases hc : a0.size ≤ 1000 ∧ L.length ≤ 1000000 ∧ L.all okRow = true
 ·rw [if_pos hc] at h
  obtain rfl := Option.some.inj h
  have hP := Aside0.mk (fun W => impl_powersIn.calls k a0 2 L W hL)
  have hD := Aside0.mk (fun v W (hW : w.heap.size + 1 ≤ W.heap.size) (hcell : W.cell? ⟨w.heap.size, 0, none⟩ = some (.string a0)) (hS : Kd.S (Kd.slice 2 (Kd.int .i64)) 42 W (w.heap.size + 1) (fun _ => True) v L) => xw_Delete_overlaps a0 w.heap.size L v W (w.heap.size + 1) hc.1 hc.2.1 hc.2.2 (by omega) hW hcell hS)
  have hmk := xw_mkf
  have hcl : (w.alloc (.cells #[.string a0] 9)).cell? ⟨w.heap.size, 0, none⟩ = some (.string a0) := by simp [go_sem]
  clear h hc hL
  go_enter Tryz.func38, Tryz.ntmps38
  go_wp2_with (first | (go_at_call 35; go_loud (refine (hP.out _).mono ?_; rintro e w2 ⟨v, rfl, ho, hb⟩; have hsz : (w.alloc (.cells #[.string a0] 9)).heap.size = w.heap.size + 1 := (by simp); rw [hsz] at ho hb; have hcell2 := (hb.cell (p := ⟨w.heap.size, 0, none⟩) (by show w.heap.size < w.heap.size + 1; omega)).trans hcl; have hsz2 := Aside0.mk (show w.heap.size + 1 ≤ w2.heap.size by have := hb.size; omega); have hb2 := Aside0.mk hb; have ho2 := Aside0.mk ho; clear hb ho hsz)) | (go_at_call 59; refine (hD.out _ _ hsz2.out hcell2 ho2.out).mono ?_; rintro e w3 ⟨v', rfl, ho3, hb3⟩; have hb4 := Aside0.mk hb3; have ho4 := Aside0.mk ho3; clear hb3 ho3))
  go_ret
  refine ⟨_, rfl, Kd.S_lower ho4.out (by omega), ?_⟩
  exact ((((Below.refl _ w).alloc (Nat.le_refl _) (.cells #[.string a0] 9)).trans (hb2.out.mono (by omega))).trans (hb4.out.mono (by omega)))
 ·rw [if_neg hc] at h; cases h


end Go.Proofs.YteakipdmpjlhiabGreat.Q

namespace Go.Proofs.YteakipdmpjlhiabGreat.Q
open Go.RowKit Go.Proofs.YteakipdmpjlhiabGreatW.PrintWords Go.Proofs.YteakipdmpjlhiabGreatW.PrintLast Go.Proofs.YteakipdmpjlhiabGreatW.PrintMore
attribute [local go_sem] max2_int min2_int max_two min_two max_three min_three max_four min_four bn_leq bn_gtr bn_geq   -- for this text's walks alone
set_option linter.unusedVariables false
set_option linter.unusedSimpArgs false

/-! ### impl_OverlapsIn: function 10 -/
def impl_OverlapsIn.f (k : Nat) (a0 : ByteArray) : Option ((List (List Int)) × Int) := (impl_wordCode.f () (([a0] : List ByteArray))).bind fun t380 => (if t380 = 0 then ((impl_overlaps.f k a0).bind fun t381 => (some (t381, 0))) else (some (([] : List (List Int)), t380)))
set_option maxHeartbeats 8000000 in
set_option maxRecDepth 100000 in
theorem impl_OverlapsIn.calls (k : Nat) (a0 : ByteArray) (r1 : List (List Int)) (r2 : Int) (w : World) (h : impl_OverlapsIn.f k a0 = some (r1, r2)) :
  Calls Tryz.prog 10 #[.string a0] w fun e w' => ∃ v0_ : Value, e = .returned (.tuple #[v0_, .int .i64 r2]) ∧ Kd.S (Kd.slice 2 (Kd.int .i64)) 42 w' w.heap.size (fun _ => True) v0_ r1 ∧ Below w.heap.size w w' := by
 have HB := Aside0.mk (Below.refl w.heap.size w)
 have H : ((impl_wordCode.f () (([a0] : List ByteArray))).bind fun t380 => (if t380 = 0 then ((impl_overlaps.f k a0).bind fun t381 => (some (t381, 0))) else (some (([] : List (List Int)), t380)))) = some (r1, r2) := h
 clear h
 obtain ⟨y377, hy377⟩ : ∃ y_ : List ByteArray, y_ = (([a0] : List ByteArray)) := ⟨_, rfl⟩
 replace H : ((impl_wordCode.f () y377).bind fun t380 => (if t380 = 0 then ((impl_overlaps.f k a0).bind fun t381 => (some (t381, 0))) else (some (([] : List (List Int)), t380)))) = some (r1, r2) := by first | (rw [hy377]; with_reducible exact H) | (have H2_ := (Option.bind_some _ _).symm.trans H; rw [hy377]; with_reducible exact H2_) | (have H2_ := (Option.bind_some _ _).symm.trans H; with_reducible exact H2_) | with_reducible exact H | (rw [hy377]; exact H) | exact H
 have Ny377 := Aside0.mk hy377
 clear hy377
 replace H := Option.bind_eq_some_iff.mp H
 obtain ⟨t380, A20, H⟩ := H
 replace H : (if t380 = 0 then ((impl_overlaps.f k a0).bind fun t381 => (some (t381, 0))) else (some (([] : List (List Int)), t380))) = some (r1, r2) := H
 have A2 := Aside0.mk A20
 clear A20
 by_cases c3 : t380 = 0
 ·rw [if_pos c3] at H
  have c3b0 : (t380 == 0) = true := beq_iff_eq.mpr c3
  have c3b1 : (t380 != 0) = false := bne_eq_false_iff_eq.mpr c3
  clear c3
  replace H := Option.bind_eq_some_iff.mp H
  obtain ⟨t381, A40, H⟩ := H
  replace H : (some (t381, 0)) = some (r1, r2) := H
  have A4 := Aside0.mk A40
  clear A40
  simp only [Option.some.injEq, Prod.mk.injEq] at H
  obtain ⟨rfl, rfl⟩ := H
  go_enter Tryz.func10, Tryz.ntmps10
  go_wp2_with (first | ((with_reducible refine gate_dst (N := 6) rfl ?_); refine Kd.R_lit Kd.string _ 9 ?hg (N := 6) ?hd (xs := ([a0] : List ByteArray)) (inner := [.string a0]) (ok := fun _ => True) (okp := fun _ => True) ?hr ?hp (fun _ hk => hk) trivial (Below.refl _ _) (Nat.le_refl _) (by simp) ?_; (case hd => rfl); (case hg => rfl); (case hr => first | (go_simp; done) | (go_simp; rfl)); (case hp => exact (Reps.one (show Kd.M Kd.string _ _ _ a0 [.string a0] from rfl) (Reps.none _ _))); intro v378 w5 ho6 hb hg_ hnew_; clear hg_ hnew_; (first | rw [← Ny377.out] at ho6 | (simp only [Int.reduceToNat] at ho6; rw [← Ny377.out] at ho6)); have n0_ := Aside0.mk (Kd.R_lower ho6 (below_size (by repeat (first | (with_reducible first | exact HB.out | apply below_alloc | apply pw_below_drewN | apply below_drew1) | exact HB.out)))); have n1_ := Aside0.mk (below_step (by repeat (first | (with_reducible first | exact HB.out | apply below_alloc | apply pw_below_drewN | apply below_drew1) | exact HB.out)) hb); clear HB; have HO379 := n0_; have HB := n1_; clear n0_ n1_; clear hb ho6; obtain ⟨Ao7, co7, eo7⟩ := Kd.R_slice HO379.out; subst eo7) | ((with_reducible refine gate_callee (f := 27) rfl ?_); refine goesL_ (some 7) rfl rfl Tryz.func27 (by kernel_rfl) rfl #[.func (.func 28) #[] #[], .slice Ao7 y377.length co7] rfl (by (try simp only [List.map_toArray, List.map_cons, List.map_nil]); first | done | rfl | (simp only [List.length_drop, List.length_take]; rfl)) ?_; (with_reducible refine (impl_wordCode.calls () _ _ y377 t380 _ ?side1 ?side2 A2.out).mono ?_); (case side1 => repeat (first | exact (Kd.R_reads' HO379.out).2.2 | (with_reducible refine Kd.C_alloc ?_ _) | (with_reducible refine Kd.C_drewN ?_ _) | (with_reducible refine Kd.C_drew ?_))); (case side2 => exact (Kd.R_reads' HO379.out).2.1); rintro e w8 ⟨rfl, hb⟩; refine ⟨_, rfl, ?_⟩; have n0_ := Aside0.mk (Kd.R_below (by (with_reducible repeat (first | apply Kd.R_alloc | apply Kd.R_drewN | apply Kd.R_drew)); exact HO379.out) hb); have n1_ := Aside0.mk (below_step (by repeat (first | (with_reducible first | exact HB.out | apply below_alloc | apply pw_below_drewN | apply below_drew1) | exact HB.out)) hb); clear HO379; clear HB; have HO379 := n0_; have HB := n1_; clear n0_ n1_; (try clear hb); (try clear hb2); (try clear hk); (try clear hi)) | ((with_reducible refine gate_callee (f := 38) rfl ?_); refine goesL_ (some 12) rfl rfl Tryz.func38 (by kernel_rfl) rfl #[.string a0] rfl (by (try simp only [List.map_toArray, List.map_cons, List.map_nil]); first | done | rfl | (simp only [List.length_drop, List.length_take]; rfl)) ?_; (with_reducible refine (impl_overlaps.calls k a0 t381 _ A4.out).mono ?_); rintro e w9 ⟨v382, rfl, ho0, hb⟩; refine ⟨_, rfl, ?_⟩; have n0_ := Aside0.mk (Kd.R_below (by (with_reducible repeat (first | apply Kd.R_alloc | apply Kd.R_drewN | apply Kd.R_drew)); exact HO379.out) hb); have n1_ := Aside0.mk (Kd.S_lower ho0 (below_size (by repeat (first | (with_reducible first | exact HB.out | apply below_alloc | apply pw_below_drewN | apply below_drew1) | exact HB.out)))); have n2_ := Aside0.mk (below_step (by repeat (first | (with_reducible first | exact HB.out | apply below_alloc | apply pw_below_drewN | apply below_drew1) | exact HB.out)) hb); clear HO379; clear HB; have HO379 := n0_; have HO383 := n1_; have HB := n2_; clear n0_ n1_ n2_; (try clear hb); (try clear hb2); (try clear hk); (try clear hi); (try clear ho0)))
  go_ret2
  exact ⟨_, by first | rfl | (simp [errW_none, errW_some] <;> rfl) | (simp [*, errW_none, errW_some] <;> rfl), by (with_reducible repeat (first | apply Kd.S_alloc | apply Kd.S_drewN | apply Kd.S_drew)); exact HO383.out, by repeat (first | (with_reducible first | exact HB.out | apply below_alloc | apply pw_below_drewN | apply below_drew1) | exact HB.out)⟩
 ·rw [if_neg c3] at H
  have c3b0 : (t380 == 0) = false := beq_eq_false_iff_ne.mpr c3
  have c3b1 : (t380 != 0) = true := bne_iff_ne.mpr c3
  simp only [Option.some.injEq, Prod.mk.injEq] at H
  obtain ⟨rfl, rfl⟩ := H
  go_enter Tryz.func10, Tryz.ntmps10
  go_wp2_with (first | ((with_reducible refine gate_dst (N := 6) rfl ?_); refine Kd.R_lit Kd.string _ 9 ?hg (N := 6) ?hd (xs := ([a0] : List ByteArray)) (inner := [.string a0]) (ok := fun _ => True) (okp := fun _ => True) ?hr ?hp (fun _ hk => hk) trivial (Below.refl _ _) (Nat.le_refl _) (by simp) ?_; (case hd => rfl); (case hg => rfl); (case hr => first | (go_simp; done) | (go_simp; rfl)); (case hp => exact (Reps.one (show Kd.M Kd.string _ _ _ a0 [.string a0] from rfl) (Reps.none _ _))); intro v378 w10 ho11 hb hg_ hnew_; clear hg_ hnew_; (first | rw [← Ny377.out] at ho11 | (simp only [Int.reduceToNat] at ho11; rw [← Ny377.out] at ho11)); have n0_ := Aside0.mk (Kd.R_lower ho11 (below_size (by repeat (first | (with_reducible first | exact HB.out | apply below_alloc | apply pw_below_drewN | apply below_drew1) | exact HB.out)))); have n1_ := Aside0.mk (below_step (by repeat (first | (with_reducible first | exact HB.out | apply below_alloc | apply pw_below_drewN | apply below_drew1) | exact HB.out)) hb); clear HB; have HO379 := n0_; have HB := n1_; clear n0_ n1_; clear hb ho11; obtain ⟨Ao12, co12, eo12⟩ := Kd.R_slice HO379.out; subst eo12) | ((with_reducible refine gate_callee (f := 27) rfl ?_); refine goesL_ (some 7) rfl rfl Tryz.func27 (by kernel_rfl) rfl #[.func (.func 28) #[] #[], .slice Ao12 y377.length co12] rfl (by (try simp only [List.map_toArray, List.map_cons, List.map_nil]); first | done | rfl | (simp only [List.length_drop, List.length_take]; rfl)) ?_; (with_reducible refine (impl_wordCode.calls () _ _ y377 t380 _ ?side1 ?side2 A2.out).mono ?_); (case side1 => repeat (first | exact (Kd.R_reads' HO379.out).2.2 | (with_reducible refine Kd.C_alloc ?_ _) | (with_reducible refine Kd.C_drewN ?_ _) | (with_reducible refine Kd.C_drew ?_))); (case side2 => exact (Kd.R_reads' HO379.out).2.1); rintro e w13 ⟨rfl, hb⟩; refine ⟨_, rfl, ?_⟩; have n0_ := Aside0.mk (Kd.R_below (by (with_reducible repeat (first | apply Kd.R_alloc | apply Kd.R_drewN | apply Kd.R_drew)); exact HO379.out) hb); have n1_ := Aside0.mk (below_step (by repeat (first | (with_reducible first | exact HB.out | apply below_alloc | apply pw_below_drewN | apply below_drew1) | exact HB.out)) hb); clear HO379; clear HB; have HO379 := n0_; have HB := n1_; clear n0_ n1_; (try clear hb); (try clear hb2); (try clear hk); (try clear hi)))
  go_ret2
  exact ⟨_, by first | rfl | (simp [errW_none, errW_some] <;> rfl) | (simp [*, errW_none, errW_some] <;> rfl), by first | exact Kd.S_nil _ _ _ _ _ | exact Kd.N_nil _ _ _ _ _ | exact Kd.V_nil _ _ _ _ _ | exact Kd.Q_nil _ _ _ _ _ | exact Kd.R_nil _ _ _ _ _, by repeat (first | (with_reducible first | exact HB.out | apply below_alloc | apply pw_below_drewN | apply below_drew1) | exact HB.out)⟩

end Go.Proofs.YteakipdmpjlhiabGreat.Q

namespace Go.Proofs.YteakipdmpjlhiabGreat.Q
open Go.RowKit Go.Proofs.YteakipdmpjlhiabGreatW.PrintWords Go.Proofs.YteakipdmpjlhiabGreatW.PrintLast Go.Proofs.YteakipdmpjlhiabGreatW.PrintMore
attribute [local go_sem] max2_int min2_int max_two min_two max_three min_three max_four min_four bn_leq bn_gtr bn_geq   -- for this text's walks alone
set_option linter.unusedVariables false
set_option linter.unusedSimpArgs false

/-! ### spec_l03Overlaps: function 39 -/
def spec_l03Overlaps.l0 : Nat → ByteArray → List (List Int) → List (List Int) → Int → Option ((List (List Int)))
 | 0, _, _, _, _ => none
 | k + 1, x0, x3, x4, x5 => if x5 < (x3.length : Int) then (if 0 ≤ x5 then (if 0 < ((rd_L6 x3 x5).length : Int) then (if 1 < ((rd_L6 x3 x5).length : Int) then (if (wrap64 ((rd (rd_L6 x3 x5) 0) + (wrap64 (2 * (rd (rd_L6 x3 x5) 1))))) < (x0.size : Int) then (if 0 ≤ (wrap64 ((rd (rd_L6 x3 x5) 0) + (wrap64 (2 * (rd (rd_L6 x3 x5) 1))))) then (if 0 ≤ (rd (rd_L6 x3 x5) 0) then (if (rd (rd_L6 x3 x5) 0) < (x0.size : Int) then (if (bt x0 (wrap64 ((rd (rd_L6 x3 x5) 0) + (wrap64 (2 * (rd (rd_L6 x3 x5) 1)))))) = (bt x0 (rd (rd_L6 x3 x5) 0)) then (if x4.length < 5864062014805 then (spec_l03Overlaps.l0 k x0 x3 (x4 ++ [(([rd (rd_L6 x3 x5) 0, rd (rd_L6 x3 x5) 1] : List Int))]) (wrap64 (x5 + 1))) else (none)) else (spec_l03Overlaps.l0 k x0 x3 x4 (wrap64 (x5 + 1)))) else (none)) else (none)) else (none)) else (spec_l03Overlaps.l0 k x0 x3 x4 (wrap64 (x5 + 1)))) else (none)) else (none)) else (none)) else (some x4)
def spec_l03Overlaps.f (k : Nat) (a0 : ByteArray) : Option ((List (List Int))) := (spec_l03Powers.f k a0 2).bind fun t384 => (spec_l03Overlaps.l0 k a0 t384 (([] : List (List Int))) 0)
set_option maxHeartbeats 8000000 in
set_option maxRecDepth 100000 in
theorem spec_l03Overlaps.calls (k : Nat) (a0 : ByteArray) (r : List (List Int)) (w : World) (h : spec_l03Overlaps.f k a0 = some r) :
  Calls Tryz.prog 39 #[.string a0] w fun e w' => ∃ v0_ : Value, e = .returned (v0_) ∧ Kd.S (Kd.slice 2 (Kd.int .i64)) 42 w' w.heap.size (fun _ => True) v0_ r ∧ Below w.heap.size w w' := by
 have HB := Aside0.mk (Below.refl w.heap.size w)
 have H : ((spec_l03Powers.f k a0 2).bind fun t384 => (spec_l03Overlaps.l0 k a0 t384 (([] : List (List Int))) 0)) = some r := h
 clear h
 replace H := Option.bind_eq_some_iff.mp H
 obtain ⟨t384, A20, H⟩ := H
 replace H : (spec_l03Overlaps.l0 k a0 t384 (([] : List (List Int))) 0) = some r := H
 have A2 := Aside0.mk A20
 clear A20
 obtain ⟨y387, hy387⟩ : ∃ y_ : List (List Int), y_ = (([] : List (List Int))) := ⟨_, rfl⟩
 replace H : (spec_l03Overlaps.l0 k a0 t384 y387 0) = some r := by first | (rw [hy387]; with_reducible exact H) | (have H2_ := (Option.bind_some _ _).symm.trans H; rw [hy387]; with_reducible exact H2_) | (have H2_ := (Option.bind_some _ _).symm.trans H; with_reducible exact H2_) | with_reducible exact H | (rw [hy387]; exact H) | exact H
 have Ny387 := Aside0.mk hy387
 clear hy387
 have H' := Aside0.mk H
 clear H
 go_enter Tryz.func39, Tryz.ntmps39
 go_wp2_with (first | (go_at_call 37; (with_reducible refine (spec_l03Powers.calls k a0 2 t384 _ A2.out).mono ?_); rintro e w3 ⟨v385, rfl, ho0, hb⟩; have n0_ := Aside0.mk (Kd.S_lower ho0 (below_size (by repeat (first | (with_reducible first | exact HB.out | apply below_alloc | apply pw_below_drewN | apply below_drew1) | exact HB.out)))); have n1_ := Aside0.mk (below_step (by repeat (first | (with_reducible first | exact HB.out | apply below_alloc | apply pw_below_drewN | apply below_drew1) | exact HB.out)) hb); clear HB; have HO386 := n0_; have HB := n1_; clear n0_ n1_; (try clear hb); (try clear hb2); (try clear hk); (try clear hi); (try clear ho0)) | ((with_reducible refine gate_dst (N := 10) rfl ?_); refine Kd.S_lit (Kd.slice 2 (Kd.int .i64)) _ 42 ?hg (N := 10) ?hd (xs := ([] : List (List Int))) (inner := []) (ok := fun _ => True) (okp := fun _ => True) ?hr ?hp (fun _ hk => hk) trivial (Below.refl _ _) (Nat.le_refl _) (by simp) ?_; (case hd => rfl); (case hg => rfl); (case hr => first | (go_simp; done) | (go_simp; rfl)); (case hp => exact (Reps.none _ _)); intro v388 w4 ho5 hb hg_ hnew_; clear hg_ hnew_; (first | rw [← Ny387.out] at ho5 | (simp only [Int.reduceToNat] at ho5; rw [← Ny387.out] at ho5)); have n0_ := Aside0.mk (Kd.S_elder' (by (with_reducible repeat (first | apply Kd.S_alloc | apply Kd.S_drewN | apply Kd.S_drew)); exact HO386.out) (Kd.S_base ho5) hb); have n1_ := Aside0.mk (Kd.S_lower (Kd.S_new' ho5 (Kd.S_lt (by (with_reducible repeat (first | apply Kd.S_alloc | apply Kd.S_drewN | apply Kd.S_drew)); exact HO386.out))) (below_size (by repeat (first | (with_reducible first | exact HB.out | apply below_alloc | apply pw_below_drewN | apply below_drew1) | exact HB.out)))); have n2_ := Aside0.mk (below_step (by repeat (first | (with_reducible first | exact HB.out | apply below_alloc | apply pw_below_drewN | apply below_drew1) | exact HB.out)) hb); clear HO386; clear HB; have HO386 := n0_; have HO389 := n1_; have HB := n2_; clear n0_ n1_ n2_; clear hb ho5))
 repeat (go_quiet (first | (go_at_call 37; (with_reducible refine (spec_l03Powers.calls k a0 2 t384 _ A2.out).mono ?_); rintro e w3 ⟨v385, rfl, ho0, hb⟩; have n0_ := Aside0.mk (Kd.S_lower ho0 (below_size (by repeat (first | (with_reducible first | exact HB.out | apply below_alloc | apply pw_below_drewN | apply below_drew1) | exact HB.out)))); have n1_ := Aside0.mk (below_step (by repeat (first | (with_reducible first | exact HB.out | apply below_alloc | apply pw_below_drewN | apply below_drew1) | exact HB.out)) hb); clear HB; have HO386 := n0_; have HB := n1_; clear n0_ n1_; (try clear hb); (try clear hb2); (try clear hk); (try clear hi); (try clear ho0)) | ((with_reducible refine gate_dst (N := 10) rfl ?_); refine Kd.S_lit (Kd.slice 2 (Kd.int .i64)) _ 42 ?hg (N := 10) ?hd (xs := ([] : List (List Int))) (inner := []) (ok := fun _ => True) (okp := fun _ => True) ?hr ?hp (fun _ hk => hk) trivial (Below.refl _ _) (Nat.le_refl _) (by simp) ?_; (case hd => rfl); (case hg => rfl); (case hr => first | (go_simp; done) | (go_simp; rfl)); (case hp => exact (Reps.none _ _)); intro v388 w4 ho5 hb hg_ hnew_; clear hg_ hnew_; (first | rw [← Ny387.out] at ho5 | (simp only [Int.reduceToNat] at ho5; rw [← Ny387.out] at ho5)); have n0_ := Aside0.mk (Kd.S_elder' (by (with_reducible repeat (first | apply Kd.S_alloc | apply Kd.S_drewN | apply Kd.S_drew)); exact HO386.out) (Kd.S_base ho5) hb); have n1_ := Aside0.mk (Kd.S_lower (Kd.S_new' ho5 (Kd.S_lt (by (with_reducible repeat (first | apply Kd.S_alloc | apply Kd.S_drewN | apply Kd.S_drew)); exact HO386.out))) (below_size (by repeat (first | (with_reducible first | exact HB.out | apply below_alloc | apply pw_below_drewN | apply below_drew1) | exact HB.out)))); have n2_ := Aside0.mk (below_step (by repeat (first | (with_reducible first | exact HB.out | apply below_alloc | apply pw_below_drewN | apply below_drew1) | exact HB.out)) hb); clear HO386; clear HB; have HO386 := n0_; have HO389 := n1_; have HB := n2_; clear n0_ n1_ n2_; clear hb ho5)); try go_wp2_with (first | (go_at_call 37; (with_reducible refine (spec_l03Powers.calls k a0 2 t384 _ A2.out).mono ?_); rintro e w3 ⟨v385, rfl, ho0, hb⟩; have n0_ := Aside0.mk (Kd.S_lower ho0 (below_size (by repeat (first | (with_reducible first | exact HB.out | apply below_alloc | apply pw_below_drewN | apply below_drew1) | exact HB.out)))); have n1_ := Aside0.mk (below_step (by repeat (first | (with_reducible first | exact HB.out | apply below_alloc | apply pw_below_drewN | apply below_drew1) | exact HB.out)) hb); clear HB; have HO386 := n0_; have HB := n1_; clear n0_ n1_; (try clear hb); (try clear hb2); (try clear hk); (try clear hi); (try clear ho0)) | ((with_reducible refine gate_dst (N := 10) rfl ?_); refine Kd.S_lit (Kd.slice 2 (Kd.int .i64)) _ 42 ?hg (N := 10) ?hd (xs := ([] : List (List Int))) (inner := []) (ok := fun _ => True) (okp := fun _ => True) ?hr ?hp (fun _ hk => hk) trivial (Below.refl _ _) (Nat.le_refl _) (by simp) ?_; (case hd => rfl); (case hg => rfl); (case hr => first | (go_simp; done) | (go_simp; rfl)); (case hp => exact (Reps.none _ _)); intro v388 w4 ho5 hb hg_ hnew_; clear hg_ hnew_; (first | rw [← Ny387.out] at ho5 | (simp only [Int.reduceToNat] at ho5; rw [← Ny387.out] at ho5)); have n0_ := Aside0.mk (Kd.S_elder' (by (with_reducible repeat (first | apply Kd.S_alloc | apply Kd.S_drewN | apply Kd.S_drew)); exact HO386.out) (Kd.S_base ho5) hb); have n1_ := Aside0.mk (Kd.S_lower (Kd.S_new' ho5 (Kd.S_lt (by (with_reducible repeat (first | apply Kd.S_alloc | apply Kd.S_drewN | apply Kd.S_drew)); exact HO386.out))) (below_size (by repeat (first | (with_reducible first | exact HB.out | apply below_alloc | apply pw_below_drewN | apply below_drew1) | exact HB.out)))); have n2_ := Aside0.mk (below_step (by repeat (first | (with_reducible first | exact HB.out | apply below_alloc | apply pw_below_drewN | apply below_drew1) | exact HB.out)) hb); clear HO386; clear HB; have HO386 := n0_; have HO389 := n1_; have HB := n2_; clear n0_ n1_ n2_; clear hb ho5)))
 go_loopg [4, 5] k (fun kq v4 v5 w' => ∃ (x4_1 : List (List Int)) (x5_1 : Int), v5 = .int .i64 x5_1 ∧ Aside0 (spec_l03Overlaps.l0 kq a0 t384 x4_1 x5_1 = some r) ∧ Aside0 (kq ≤ k) ∧ Aside0 (Kd.S (Kd.slice 2 (Kd.int .i64)) 42 w' w.heap.size (fun k_ => some k_ ≠ (v4 : Value).ownBlock) v385 t384) ∧ Aside0 (Kd.S (Kd.slice 2 (Kd.int .i64)) 42 w' w.heap.size (fun k_ => some k_ ≠ (v385 : Value).ownBlock) v4 x4_1) ∧ Aside0 (Below w.heap.size w w'))
 case atStart => exact ⟨(y387), (0), (by first | rfl | (simp; done) | (simp [*]; done)), H', ⟨Nat.le_refl _⟩, ⟨by (with_reducible repeat (first | apply Kd.S_alloc | apply Kd.S_drewN | apply Kd.S_drew)); exact Kd.S_mono HO386.out (fun _ hk => hk.2)⟩, ⟨by (with_reducible repeat (first | apply Kd.S_alloc | apply Kd.S_drewN | apply Kd.S_drew)); exact Kd.S_mono HO389.out (fun _ hk => hk.2)⟩, ⟨by repeat (first | (with_reducible first | exact HB.out | apply below_alloc | apply pw_below_drewN | apply below_drew1) | exact HB.out)⟩⟩
 case round =>
  clear H'
  try clear p2
  try clear c3
  obtain ⟨x4_1, x5_1, rfl, HA, HK1, HO_3, HO_4, HB⟩ := hrel
  cases gk with
  | zero => exact absurd HA.out (by simp [spec_l03Overlaps.l0])
  | succ k1 =>
   have H := HA.out
   clear HA
   simp only [spec_l03Overlaps.l0] at H
   by_cases c6 : x5_1 < (t384.length : Int)
   ·rw [if_pos c6] at H
    have c6b0 : decide (x5_1 < (t384.length : Int)) = true := decide_eq_true c6
    clear c6
    by_cases c7 : 0 ≤ x5_1
    ·rw [if_pos c7] at H
     have c7b0 : decide (0 ≤ x5_1) = true := decide_eq_true c7
     clear c7
     by_cases c8 : 0 < ((rd_L6 t384 x5_1).length : Int)
     ·rw [if_pos c8] at H
      have c8b0 : decide (0 < ((rd_L6 t384 x5_1).length : Int)) = true := decide_eq_true c8
      have c8b1 : decide (0 < (rd_L6 t384 x5_1).length) = true := decide_eq_true (by omega)
      clear c8
      by_cases c9 : 1 < ((rd_L6 t384 x5_1).length : Int)
      ·rw [if_pos c9] at H
       have c9b0 : decide (1 < ((rd_L6 t384 x5_1).length : Int)) = true := decide_eq_true c9
       have c9b1 : decide (1 < (rd_L6 t384 x5_1).length) = true := decide_eq_true (by omega)
       clear c9
       by_cases c10 : (wrap64 ((rd (rd_L6 t384 x5_1) 0) + (wrap64 (2 * (rd (rd_L6 t384 x5_1) 1))))) < (a0.size : Int)
       ·rw [if_pos c10] at H
        have c10b0 : decide ((wrap64 ((rd (rd_L6 t384 x5_1) 0) + (wrap64 (2 * (rd (rd_L6 t384 x5_1) 1))))) < (a0.size : Int)) = true := decide_eq_true c10
        clear c10
        obtain ⟨ji11, hji11⟩ : ∃ j_ : Int, (wrap64 ((rd (rd_L6 t384 x5_1) 0) + (wrap64 (2 * (rd (rd_L6 t384 x5_1) 1))))) = j_ := ⟨_, rfl⟩
        replace H : (if 0 ≤ (ji11) then (if 0 ≤ (rd (rd_L6 t384 x5_1) 0) then (if (rd (rd_L6 t384 x5_1) 0) < (a0.size : Int) then (if (bt a0 (ji11)) = (bt a0 (rd (rd_L6 t384 x5_1) 0)) then (if x4_1.length < 5864062014805 then (spec_l03Overlaps.l0 k1 a0 t384 (x4_1 ++ [(([rd (rd_L6 t384 x5_1) 0, rd (rd_L6 t384 x5_1) 1] : List Int))]) (wrap64 (x5_1 + 1))) else (none)) else (spec_l03Overlaps.l0 k1 a0 t384 x4_1 (wrap64 (x5_1 + 1)))) else (none)) else (none)) else (none)) = some r := by first | (rw [hji11] at H; exact H) | (simp only [hji11] at H ⊢; exact H)
        (try rw [hji11] at c10b0)
        have hji11w : (IntKind.i64.wrap ((rd (rd_L6 t384 x5_1) 0) + (wrap64 (2 * (rd (rd_L6 t384 x5_1) 1))))) = ji11 := (i64_w _).trans hji11
        by_cases c12 : 0 ≤ (ji11)
        ·rw [if_pos c12] at H
         have c12b0 : decide (0 ≤ (ji11)) = true := decide_eq_true c12
         clear c12
         by_cases c14 : 0 ≤ (rd (rd_L6 t384 x5_1) 0)
         ·rw [if_pos c14] at H
          have c14b0 : decide (0 ≤ (rd (rd_L6 t384 x5_1) 0)) = true := decide_eq_true c14
          clear c14
          by_cases c15 : (rd (rd_L6 t384 x5_1) 0) < (a0.size : Int)
          ·rw [if_pos c15] at H
           have c15b0 : decide ((rd (rd_L6 t384 x5_1) 0) < (a0.size : Int)) = true := decide_eq_true c15
           clear c15
           by_cases c17 : (bt a0 (ji11)) = (bt a0 (rd (rd_L6 t384 x5_1) 0))
           ·rw [if_pos c17] at H
            have c17b0 : ((bt a0 (ji11)) == (bt a0 (rd (rd_L6 t384 x5_1) 0))) = true := beq_iff_eq.mpr c17
            have c17b1 : ((bt a0 (ji11)) != (bt a0 (rd (rd_L6 t384 x5_1) 0))) = false := bne_eq_false_iff_eq.mpr c17
            clear c17
            obtain ⟨y394, hy394⟩ : ∃ y_ : List Int, y_ = (([rd (rd_L6 t384 x5_1) 0, rd (rd_L6 t384 x5_1) 1] : List Int)) := ⟨_, rfl⟩
            replace H : (if x4_1.length < 5864062014805 then (spec_l03Overlaps.l0 k1 a0 t384 (x4_1 ++ [y394]) (wrap64 (x5_1 + 1))) else (none)) = some r := by first | (rw [hy394]; with_reducible exact H) | (have H2_ := (Option.bind_some _ _).symm.trans H; rw [hy394]; with_reducible exact H2_) | (have H2_ := (Option.bind_some _ _).symm.trans H; with_reducible exact H2_) | with_reducible exact H | (rw [hy394]; exact H) | exact H
            have Ny394 := Aside0.mk hy394
            clear hy394
            by_cases c18 : x4_1.length < 5864062014805
            ·rw [if_pos c18] at H
             have LMc18 := Aside0.mk c18
             clear c18
             obtain ⟨y397, hy397⟩ : ∃ y_ : List (List Int), y_ = (x4_1 ++ [y394]) := ⟨_, rfl⟩
             replace H : (spec_l03Overlaps.l0 k1 a0 t384 y397 (wrap64 (x5_1 + 1))) = some r := by first | (rw [hy397]; with_reducible exact H) | (have H2_ := (Option.bind_some _ _).symm.trans H; rw [hy397]; with_reducible exact H2_) | (have H2_ := (Option.bind_some _ _).symm.trans H; with_reducible exact H2_) | with_reducible exact H | (rw [hy397]; exact H) | exact H
             have Ny397 := Aside0.mk hy397
             clear hy397
             have H' := Aside0.mk H
             clear H
             obtain ⟨Ao19, co19, eo19⟩ := Kd.S_slice HO_3.out
             subst eo19
             have p390 : 0 ≤ (x5_1 : Int) := of_decide_eq_true (by first | (with_reducible assumption) | assumption)
             have q390 : x5_1 < (t384.length : Int) := of_decide_eq_true (by first | (with_reducible assumption) | assumption)
             obtain ⟨ad390, A390_0, c390_0, e390, hx390_0, hl390_0, hi390_0⟩ := at_L6 (Kd.S_reads' HO_3.out).2.2 x5_1 p390 q390
             cases e390
             obtain ⟨ce390, hce390, hMe390, hcc390⟩ := Kd.S_get HO_3.out [] x5_1 p390 (by first | exact q390 | exact of_decide_eq_true (by first | (with_reducible assumption) | assumption) | (have e_ := (Kd.S_reads' HO_3.out).1; omega))
             obtain ⟨ve390_0, rfl, ge390_0⟩ := hMe390
             have hv390_0 := hcc390 0 _ rfl
             rw [Nat.add_zero, show ((Kd.slice 2 (Kd.int .i64))).sz = 1 from rfl, Nat.mul_one] at hv390_0
             replace hv390_0 := Option.some.inj (hv390_0.symm.trans hx390_0)
             rw [hv390_0] at ge390_0
             have HL390_0 := Aside0.mk (show Kd.R (Kd.int .i64) 2 _ _ _ _ (rd_L6 t384 x5_1) from ge390_0)
             clear hv390_0 ge390_0
             clear hcc390 hce390
             have HR390_0 := Aside0.mk hi390_0
             have HC390_0 := Aside0.mk hl390_0
             clear hi390_0 hl390_0
             replace p390 := eq_true p390
             replace q390 := eq_true q390
             have p391 : 0 ≤ (0 : Int) := (by omega)
             have q391 : 0 < ((rd_L6 t384 x5_1).length : Int) := of_decide_eq_true (by first | (with_reducible assumption) | assumption)
             obtain ⟨ad391, e391, hx391_0⟩ := Kd.at_int (by repeat (first | (with_reducible exact HR390_0.out) | (with_reducible refine Kd.C_alloc ?_ _) | (with_reducible refine Kd.C_drewN ?_ _) | (with_reducible refine Kd.C_drew ?_) | exact HR390_0.out)) 0 p391 q391
             cases e391
             have qi391 : (0 < (rd_L6 t384 x5_1).length) = True := eq_true (by omega)
             (try rw [show ((0 : Int)).toNat = 0 from rfl] at hx391_0)
             (try rw [Addr.add_zero'] at hx391_0)
             replace p391 := eq_true p391
             replace q391 := eq_true q391
             have p392 : 0 ≤ (x5_1 : Int) := of_decide_eq_true (by first | (with_reducible assumption) | assumption)
             have q392 : x5_1 < (t384.length : Int) := of_decide_eq_true (by first | (with_reducible assumption) | assumption)
             obtain ⟨ad392, A392_0, c392_0, e392, hx392_0, hl392_0, hi392_0⟩ := at_L6 (Kd.S_reads' HO_3.out).2.2 x5_1 p392 q392
             obtain rfl : ad390 = ad392 := (by injection e392)
             obtain ⟨ce392, hce392, hMe392, hcc392⟩ := Kd.S_get HO_3.out [] x5_1 p392 (by first | exact q392 | exact of_decide_eq_true (by first | (with_reducible assumption) | assumption) | (have e_ := (Kd.S_reads' HO_3.out).1; omega))
             obtain ⟨ve392_0, rfl, ge392_0⟩ := hMe392
             have hv392_0 := hcc392 0 _ rfl
             rw [Nat.add_zero, show ((Kd.slice 2 (Kd.int .i64))).sz = 1 from rfl, Nat.mul_one] at hv392_0
             replace hv392_0 := Option.some.inj (hv392_0.symm.trans hx392_0)
             rw [hv392_0] at ge392_0
             have HL392_0 := Aside0.mk (show Kd.R (Kd.int .i64) 2 _ _ _ _ (rd_L6 t384 x5_1) from ge392_0)
             clear hv392_0 ge392_0
             clear hcc392 hce392
             have HR392_0 := Aside0.mk hi392_0
             have HC392_0 := Aside0.mk hl392_0
             clear hi392_0 hl392_0
             replace p392 := eq_true p392
             replace q392 := eq_true q392
             have ea_ := Option.some.inj (hx390_0.symm.trans hx392_0)
             injection ea_ with ea_ en_ ec_
             subst ea_
             subst ec_
             clear en_
             have p393 : 0 ≤ (1 : Int) := (by omega)
             have q393 : 1 < ((rd_L6 t384 x5_1).length : Int) := of_decide_eq_true (by first | (with_reducible assumption) | assumption)
             obtain ⟨ad393, e393, hx393_0⟩ := Kd.at_int (by repeat (first | (with_reducible exact HR392_0.out) | (with_reducible refine Kd.C_alloc ?_ _) | (with_reducible refine Kd.C_drewN ?_ _) | (with_reducible refine Kd.C_drew ?_) | exact HR392_0.out)) 1 p393 q393
             cases e393
             (try simp only [show (1 : Int).toNat = 1 from rfl, Nat.reduceMul, Nat.reduceEqDiff, Go.Addr.add, ↓reduceIte] at hx393_0)
             have qi393 : (1 < (rd_L6 t384 x5_1).length) = True := eq_true (by omega)
             (try rw [show ((1 : Int)).toNat = 1 from rfl] at hx393_0)
             replace p393 := eq_true p393
             replace q393 := eq_true q393
             have p13 : 0 ≤ ((ji11) : Int) := of_decide_eq_true (by first | (with_reducible assumption) | assumption)
             have q13 : (ji11) < (a0.size : Int) := of_decide_eq_true (by first | (with_reducible assumption) | assumption)
             have hx13 := bt_at a0 (ji11)
             replace p13 := eq_true p13
             replace q13 := eq_true q13
             have p16 : 0 ≤ ((rd (rd_L6 t384 x5_1) 0) : Int) := of_decide_eq_true (by first | (with_reducible assumption) | assumption)
             have q16 : (rd (rd_L6 t384 x5_1) 0) < (a0.size : Int) := of_decide_eq_true (by first | (with_reducible assumption) | assumption)
             have hx16 := bt_at a0 (rd (rd_L6 t384 x5_1) 0)
             replace p16 := eq_true p16
             replace q16 := eq_true q16
             go_wp2_with (first | ((with_reducible refine gate_dst (N := 51) rfl ?_); refine Kd.R_lit (Kd.int .i64) _ 2 ?hg (N := 51) ?hd (xs := ([rd (rd_L6 t384 x5_1) 0, rd (rd_L6 t384 x5_1) 1] : List Int)) (inner := [.int .i64 (rd (rd_L6 t384 x5_1) 0), .int .i64 (rd (rd_L6 t384 x5_1) 1)]) (ok := fun _ => True) (okp := fun _ => True) ?hr ?hp (fun _ hk => hk) trivial (Below.refl _ _) (Nat.le_refl _) (by simp) ?_; (case hd => rfl); (case hg => rfl); (case hr => first | (go_simp; done) | (go_simp; rfl)); (case hp => exact (Reps.one (show Kd.M (Kd.int .i64) _ _ _ (rd (rd_L6 t384 x5_1) 0) [.int .i64 (rd (rd_L6 t384 x5_1) 0)] from rfl) (Reps.one (show Kd.M (Kd.int .i64) _ _ _ (rd (rd_L6 t384 x5_1) 1) [.int .i64 (rd (rd_L6 t384 x5_1) 1)] from rfl) (Reps.none _ _)))); intro v395 w20 ho21 hb hg_ hnew_; clear hg_ hnew_; (first | rw [← Ny394.out] at ho21 | (simp only [Int.reduceToNat] at ho21; rw [← Ny394.out] at ho21)); have n0_ := Aside0.mk (Kd.S_elder' (by (with_reducible repeat (first | apply Kd.S_alloc | apply Kd.S_drewN | apply Kd.S_drew)); exact HO_3.out) (Kd.R_base ho21) hb); have n1_ := Aside0.mk (Kd.S_elder' (by (with_reducible repeat (first | apply Kd.S_alloc | apply Kd.S_drewN | apply Kd.S_drew)); exact HO_4.out) (Kd.R_base ho21) hb); have n2_ := Aside0.mk (Kd.R_elder' (by (with_reducible repeat (first | apply Kd.R_alloc | apply Kd.R_drewN | apply Kd.R_drew)); exact HL390_0.out) (Kd.R_base ho21) hb); have n3_ := Aside0.mk (Kd.R_elder' (by (with_reducible repeat (first | apply Kd.R_alloc | apply Kd.R_drewN | apply Kd.R_drew)); exact HL392_0.out) (Kd.R_base ho21) hb); have n4_ := Aside0.mk (Kd.R_lower (Kd.R_new' (Kd.R_new' ho21 (Kd.R_lt (by (with_reducible repeat (first | apply Kd.R_alloc | apply Kd.R_drewN | apply Kd.R_drew)); exact HL390_0.out))) (Kd.R_lt (by (with_reducible repeat (first | apply Kd.R_alloc | apply Kd.R_drewN | apply Kd.R_drew)); exact HL392_0.out))) (below_size (by repeat (first | (with_reducible first | exact HB.out | apply below_alloc | apply pw_below_drewN | apply below_drew1) | exact HB.out)))); have n5_ := Aside0.mk (Kd.C_below (by repeat (first | (with_reducible exact HR390_0.out) | (with_reducible refine Kd.C_alloc ?_ _) | (with_reducible refine Kd.C_drewN ?_ _) | (with_reducible refine Kd.C_drew ?_) | exact HR390_0.out)) hb); have n6_ := Aside0.mk (Kd.C_below (by repeat (first | (with_reducible exact HR392_0.out) | (with_reducible refine Kd.C_alloc ?_ _) | (with_reducible refine Kd.C_drewN ?_ _) | (with_reducible refine Kd.C_drew ?_) | exact HR392_0.out)) hb); have n7_ := Aside0.mk (below_step (by repeat (first | (with_reducible first | exact HB.out | apply below_alloc | apply pw_below_drewN | apply below_drew1) | exact HB.out)) hb); clear HO_3; clear HO_4; clear HL390_0; clear HL392_0; clear HR390_0; clear HR392_0; clear HB; have HO_3 := n0_; have HO_4 := n1_; have HL390_0 := n2_; have HL392_0 := n3_; have HO396 := n4_; have HR390_0 := n5_; have HR392_0 := n6_; have HB := n7_; clear n0_ n1_ n2_ n3_ n4_ n5_ n6_ n7_; clear hb ho21; obtain ⟨Ao23, co23, eo23⟩ := Kd.R_slice HO396.out; subst eo23) | ((with_reducible refine gate_builtin (b := .append) (xs := #[.tmp 48, .tmp 52]) rfl ?_); at_builtin; refine Kd.S_append (Kd.slice 2 (Kd.int .i64)) (w0 := w) w.heap.size rfl (.tmp 48) (.tmp 52) 28 42 (.slice none 0 0) 24 rfl Tryz.underlying28 info42 rfl (by decide) (by omega) u4 x4_1 y394 [.slice Ao23 y394.length co23] (fun k_ => some k_ ≠ (.slice (some ad390) t384.length co19 : Value).ownBlock) (fun k_ => some k_ = (.slice Ao23 y394.length co23 : Value).ownBlock) rfl rfl ?aP (fun k_ hk_ => ((Kd.R_mono (ok' := fun k_ => ((fun k_ => some k_ ≠ (.slice (some ad390) t384.length co19 : Value).ownBlock)) k_ ∧ some k_ ≠ (u4 : Value).ownBlock) (Kd.R_apart' (Kd.R_apart' (HO396.out) (Kd.S_typed HO_3.out) (by decide)) (Kd.S_typed HO_4.out) (by decide)) (fun k_ hk => ⟨hk.1.2, hk.2⟩))).1 k_ hk_.symm) ?aF ?aO ?aB ?aS ?aL ?_; (case aP => exact Kd.M_row (Kd.R_mono (Kd.R_tight rfl (Kd.R_mono (ok' := fun k_ => ((fun k_ => some k_ ≠ (.slice (some ad390) t384.length co19 : Value).ownBlock)) k_ ∧ some k_ ≠ (u4 : Value).ownBlock) (Kd.R_apart' (Kd.R_apart' (HO396.out) (Kd.S_typed HO_3.out) (by decide)) (Kd.S_typed HO_4.out) (by decide)) (fun k_ hk => ⟨hk.1.2, hk.2⟩))) (fun _ h_ => h_))); (case aB => exact (by repeat (first | (with_reducible first | exact HB.out | apply below_alloc | apply pw_below_drewN | apply below_drew1) | exact HB.out))); (case aF => exact (fun k_ hk => Kd.fresh' (Kd.S_lt (by (with_reducible repeat (first | apply Kd.S_alloc | apply Kd.S_drewN | apply Kd.S_drew)); exact HO_3.out)) k_ hk)); (case aO => exact (by (with_reducible repeat (first | apply Kd.S_alloc | apply Kd.S_drewN | apply Kd.S_drew)); exact Kd.S_mono HO_4.out (fun k_ hk => ⟨hk.1, fun e_ => hk.2 e_⟩))); (case aS => exact (below_size (by repeat (first | (with_reducible first | exact HB.out | apply below_alloc | apply pw_below_drewN | apply below_drew1) | exact HB.out)))); (case aL => have := LMc18.out; omega); intro v398 w22 ho hb hg hat; rw [← Ny397.out] at ho; have n0_ := Aside0.mk (Kd.S_after (ok := (fun k_ => some k_ ≠ (.slice Ao23 y394.length co23 : Value).ownBlock)) (by (with_reducible repeat (first | apply Kd.S_alloc | apply Kd.S_drewN | apply Kd.S_drew)); exact Kd.S_mono HO_3.out (fun _ hk => ⟨hk.2, hk.1⟩)) hg hat); have n1_ := Aside0.mk (Kd.R_after (ok := (fun k_ => some k_ ≠ (.slice (some ad390) t384.length co19 : Value).ownBlock ∧ some k_ ≠ (.slice Ao23 y394.length co23 : Value).ownBlock)) (by (with_reducible repeat (first | apply Kd.R_alloc | apply Kd.R_drewN | apply Kd.R_drew)); exact Kd.R_mono HL390_0.out (fun _ hk => ⟨⟨hk.1.2, hk.2⟩, hk.1.1⟩)) hg hat); have n2_ := Aside0.mk (Kd.R_after (ok := (fun k_ => some k_ ≠ (.slice (some ad390) t384.length co19 : Value).ownBlock ∧ some k_ ≠ (.slice Ao23 y394.length co23 : Value).ownBlock)) (by (with_reducible repeat (first | apply Kd.R_alloc | apply Kd.R_drewN | apply Kd.R_drew)); exact Kd.R_mono HL392_0.out (fun _ hk => ⟨⟨hk.1.2, hk.2⟩, hk.1.1⟩)) hg hat); have n3_ := Aside0.mk (hb); have n4_ := Aside0.mk (ho); clear HO_3; clear HL390_0; clear HL392_0; clear HB; clear HO_4; clear HO396; have HO_3 := n0_; have HL390_0 := n1_; have HL392_0 := n2_; have HB := n3_; have HO399 := n4_; clear n0_ n1_ n2_ n3_ n4_; clear ho hb hg hat))
             repeat (go_quiet (first | ((with_reducible refine gate_dst (N := 51) rfl ?_); refine Kd.R_lit (Kd.int .i64) _ 2 ?hg (N := 51) ?hd (xs := ([rd (rd_L6 t384 x5_1) 0, rd (rd_L6 t384 x5_1) 1] : List Int)) (inner := [.int .i64 (rd (rd_L6 t384 x5_1) 0), .int .i64 (rd (rd_L6 t384 x5_1) 1)]) (ok := fun _ => True) (okp := fun _ => True) ?hr ?hp (fun _ hk => hk) trivial (Below.refl _ _) (Nat.le_refl _) (by simp) ?_; (case hd => rfl); (case hg => rfl); (case hr => first | (go_simp; done) | (go_simp; rfl)); (case hp => exact (Reps.one (show Kd.M (Kd.int .i64) _ _ _ (rd (rd_L6 t384 x5_1) 0) [.int .i64 (rd (rd_L6 t384 x5_1) 0)] from rfl) (Reps.one (show Kd.M (Kd.int .i64) _ _ _ (rd (rd_L6 t384 x5_1) 1) [.int .i64 (rd (rd_L6 t384 x5_1) 1)] from rfl) (Reps.none _ _)))); intro v395 w20 ho21 hb hg_ hnew_; clear hg_ hnew_; (first | rw [← Ny394.out] at ho21 | (simp only [Int.reduceToNat] at ho21; rw [← Ny394.out] at ho21)); have n0_ := Aside0.mk (Kd.S_elder' (by (with_reducible repeat (first | apply Kd.S_alloc | apply Kd.S_drewN | apply Kd.S_drew)); exact HO_3.out) (Kd.R_base ho21) hb); have n1_ := Aside0.mk (Kd.S_elder' (by (with_reducible repeat (first | apply Kd.S_alloc | apply Kd.S_drewN | apply Kd.S_drew)); exact HO_4.out) (Kd.R_base ho21) hb); have n2_ := Aside0.mk (Kd.R_elder' (by (with_reducible repeat (first | apply Kd.R_alloc | apply Kd.R_drewN | apply Kd.R_drew)); exact HL390_0.out) (Kd.R_base ho21) hb); have n3_ := Aside0.mk (Kd.R_elder' (by (with_reducible repeat (first | apply Kd.R_alloc | apply Kd.R_drewN | apply Kd.R_drew)); exact HL392_0.out) (Kd.R_base ho21) hb); have n4_ := Aside0.mk (Kd.R_lower (Kd.R_new' (Kd.R_new' ho21 (Kd.R_lt (by (with_reducible repeat (first | apply Kd.R_alloc | apply Kd.R_drewN | apply Kd.R_drew)); exact HL390_0.out))) (Kd.R_lt (by (with_reducible repeat (first | apply Kd.R_alloc | apply Kd.R_drewN | apply Kd.R_drew)); exact HL392_0.out))) (below_size (by repeat (first | (with_reducible first | exact HB.out | apply below_alloc | apply pw_below_drewN | apply below_drew1) | exact HB.out)))); have n5_ := Aside0.mk (Kd.C_below (by repeat (first | (with_reducible exact HR390_0.out) | (with_reducible refine Kd.C_alloc ?_ _) | (with_reducible refine Kd.C_drewN ?_ _) | (with_reducible refine Kd.C_drew ?_) | exact HR390_0.out)) hb); have n6_ := Aside0.mk (Kd.C_below (by repeat (first | (with_reducible exact HR392_0.out) | (with_reducible refine Kd.C_alloc ?_ _) | (with_reducible refine Kd.C_drewN ?_ _) | (with_reducible refine Kd.C_drew ?_) | exact HR392_0.out)) hb); have n7_ := Aside0.mk (below_step (by repeat (first | (with_reducible first | exact HB.out | apply below_alloc | apply pw_below_drewN | apply below_drew1) | exact HB.out)) hb); clear HO_3; clear HO_4; clear HL390_0; clear HL392_0; clear HR390_0; clear HR392_0; clear HB; have HO_3 := n0_; have HO_4 := n1_; have HL390_0 := n2_; have HL392_0 := n3_; have HO396 := n4_; have HR390_0 := n5_; have HR392_0 := n6_; have HB := n7_; clear n0_ n1_ n2_ n3_ n4_ n5_ n6_ n7_; clear hb ho21; obtain ⟨Ao23, co23, eo23⟩ := Kd.R_slice HO396.out; subst eo23) | ((with_reducible refine gate_builtin (b := .append) (xs := #[.tmp 48, .tmp 52]) rfl ?_); at_builtin; refine Kd.S_append (Kd.slice 2 (Kd.int .i64)) (w0 := w) w.heap.size rfl (.tmp 48) (.tmp 52) 28 42 (.slice none 0 0) 24 rfl Tryz.underlying28 info42 rfl (by decide) (by omega) u4 x4_1 y394 [.slice Ao23 y394.length co23] (fun k_ => some k_ ≠ (.slice (some ad390) t384.length co19 : Value).ownBlock) (fun k_ => some k_ = (.slice Ao23 y394.length co23 : Value).ownBlock) rfl rfl ?aP (fun k_ hk_ => ((Kd.R_mono (ok' := fun k_ => ((fun k_ => some k_ ≠ (.slice (some ad390) t384.length co19 : Value).ownBlock)) k_ ∧ some k_ ≠ (u4 : Value).ownBlock) (Kd.R_apart' (Kd.R_apart' (HO396.out) (Kd.S_typed HO_3.out) (by decide)) (Kd.S_typed HO_4.out) (by decide)) (fun k_ hk => ⟨hk.1.2, hk.2⟩))).1 k_ hk_.symm) ?aF ?aO ?aB ?aS ?aL ?_; (case aP => exact Kd.M_row (Kd.R_mono (Kd.R_tight rfl (Kd.R_mono (ok' := fun k_ => ((fun k_ => some k_ ≠ (.slice (some ad390) t384.length co19 : Value).ownBlock)) k_ ∧ some k_ ≠ (u4 : Value).ownBlock) (Kd.R_apart' (Kd.R_apart' (HO396.out) (Kd.S_typed HO_3.out) (by decide)) (Kd.S_typed HO_4.out) (by decide)) (fun k_ hk => ⟨hk.1.2, hk.2⟩))) (fun _ h_ => h_))); (case aB => exact (by repeat (first | (with_reducible first | exact HB.out | apply below_alloc | apply pw_below_drewN | apply below_drew1) | exact HB.out))); (case aF => exact (fun k_ hk => Kd.fresh' (Kd.S_lt (by (with_reducible repeat (first | apply Kd.S_alloc | apply Kd.S_drewN | apply Kd.S_drew)); exact HO_3.out)) k_ hk)); (case aO => exact (by (with_reducible repeat (first | apply Kd.S_alloc | apply Kd.S_drewN | apply Kd.S_drew)); exact Kd.S_mono HO_4.out (fun k_ hk => ⟨hk.1, fun e_ => hk.2 e_⟩))); (case aS => exact (below_size (by repeat (first | (with_reducible first | exact HB.out | apply below_alloc | apply pw_below_drewN | apply below_drew1) | exact HB.out)))); (case aL => have := LMc18.out; omega); intro v398 w22 ho hb hg hat; rw [← Ny397.out] at ho; have n0_ := Aside0.mk (Kd.S_after (ok := (fun k_ => some k_ ≠ (.slice Ao23 y394.length co23 : Value).ownBlock)) (by (with_reducible repeat (first | apply Kd.S_alloc | apply Kd.S_drewN | apply Kd.S_drew)); exact Kd.S_mono HO_3.out (fun _ hk => ⟨hk.2, hk.1⟩)) hg hat); have n1_ := Aside0.mk (Kd.R_after (ok := (fun k_ => some k_ ≠ (.slice (some ad390) t384.length co19 : Value).ownBlock ∧ some k_ ≠ (.slice Ao23 y394.length co23 : Value).ownBlock)) (by (with_reducible repeat (first | apply Kd.R_alloc | apply Kd.R_drewN | apply Kd.R_drew)); exact Kd.R_mono HL390_0.out (fun _ hk => ⟨⟨hk.1.2, hk.2⟩, hk.1.1⟩)) hg hat); have n2_ := Aside0.mk (Kd.R_after (ok := (fun k_ => some k_ ≠ (.slice (some ad390) t384.length co19 : Value).ownBlock ∧ some k_ ≠ (.slice Ao23 y394.length co23 : Value).ownBlock)) (by (with_reducible repeat (first | apply Kd.R_alloc | apply Kd.R_drewN | apply Kd.R_drew)); exact Kd.R_mono HL392_0.out (fun _ hk => ⟨⟨hk.1.2, hk.2⟩, hk.1.1⟩)) hg hat); have n3_ := Aside0.mk (hb); have n4_ := Aside0.mk (ho); clear HO_3; clear HL390_0; clear HL392_0; clear HB; clear HO_4; clear HO396; have HO_3 := n0_; have HL390_0 := n1_; have HL392_0 := n2_; have HB := n3_; have HO399 := n4_; clear n0_ n1_ n2_ n3_ n4_; clear ho hb hg hat)); try go_wp2_with (first | ((with_reducible refine gate_dst (N := 51) rfl ?_); refine Kd.R_lit (Kd.int .i64) _ 2 ?hg (N := 51) ?hd (xs := ([rd (rd_L6 t384 x5_1) 0, rd (rd_L6 t384 x5_1) 1] : List Int)) (inner := [.int .i64 (rd (rd_L6 t384 x5_1) 0), .int .i64 (rd (rd_L6 t384 x5_1) 1)]) (ok := fun _ => True) (okp := fun _ => True) ?hr ?hp (fun _ hk => hk) trivial (Below.refl _ _) (Nat.le_refl _) (by simp) ?_; (case hd => rfl); (case hg => rfl); (case hr => first | (go_simp; done) | (go_simp; rfl)); (case hp => exact (Reps.one (show Kd.M (Kd.int .i64) _ _ _ (rd (rd_L6 t384 x5_1) 0) [.int .i64 (rd (rd_L6 t384 x5_1) 0)] from rfl) (Reps.one (show Kd.M (Kd.int .i64) _ _ _ (rd (rd_L6 t384 x5_1) 1) [.int .i64 (rd (rd_L6 t384 x5_1) 1)] from rfl) (Reps.none _ _)))); intro v395 w20 ho21 hb hg_ hnew_; clear hg_ hnew_; (first | rw [← Ny394.out] at ho21 | (simp only [Int.reduceToNat] at ho21; rw [← Ny394.out] at ho21)); have n0_ := Aside0.mk (Kd.S_elder' (by (with_reducible repeat (first | apply Kd.S_alloc | apply Kd.S_drewN | apply Kd.S_drew)); exact HO_3.out) (Kd.R_base ho21) hb); have n1_ := Aside0.mk (Kd.S_elder' (by (with_reducible repeat (first | apply Kd.S_alloc | apply Kd.S_drewN | apply Kd.S_drew)); exact HO_4.out) (Kd.R_base ho21) hb); have n2_ := Aside0.mk (Kd.R_elder' (by (with_reducible repeat (first | apply Kd.R_alloc | apply Kd.R_drewN | apply Kd.R_drew)); exact HL390_0.out) (Kd.R_base ho21) hb); have n3_ := Aside0.mk (Kd.R_elder' (by (with_reducible repeat (first | apply Kd.R_alloc | apply Kd.R_drewN | apply Kd.R_drew)); exact HL392_0.out) (Kd.R_base ho21) hb); have n4_ := Aside0.mk (Kd.R_lower (Kd.R_new' (Kd.R_new' ho21 (Kd.R_lt (by (with_reducible repeat (first | apply Kd.R_alloc | apply Kd.R_drewN | apply Kd.R_drew)); exact HL390_0.out))) (Kd.R_lt (by (with_reducible repeat (first | apply Kd.R_alloc | apply Kd.R_drewN | apply Kd.R_drew)); exact HL392_0.out))) (below_size (by repeat (first | (with_reducible first | exact HB.out | apply below_alloc | apply pw_below_drewN | apply below_drew1) | exact HB.out)))); have n5_ := Aside0.mk (Kd.C_below (by repeat (first | (with_reducible exact HR390_0.out) | (with_reducible refine Kd.C_alloc ?_ _) | (with_reducible refine Kd.C_drewN ?_ _) | (with_reducible refine Kd.C_drew ?_) | exact HR390_0.out)) hb); have n6_ := Aside0.mk (Kd.C_below (by repeat (first | (with_reducible exact HR392_0.out) | (with_reducible refine Kd.C_alloc ?_ _) | (with_reducible refine Kd.C_drewN ?_ _) | (with_reducible refine Kd.C_drew ?_) | exact HR392_0.out)) hb); have n7_ := Aside0.mk (below_step (by repeat (first | (with_reducible first | exact HB.out | apply below_alloc | apply pw_below_drewN | apply below_drew1) | exact HB.out)) hb); clear HO_3; clear HO_4; clear HL390_0; clear HL392_0; clear HR390_0; clear HR392_0; clear HB; have HO_3 := n0_; have HO_4 := n1_; have HL390_0 := n2_; have HL392_0 := n3_; have HO396 := n4_; have HR390_0 := n5_; have HR392_0 := n6_; have HB := n7_; clear n0_ n1_ n2_ n3_ n4_ n5_ n6_ n7_; clear hb ho21; obtain ⟨Ao23, co23, eo23⟩ := Kd.R_slice HO396.out; subst eo23) | ((with_reducible refine gate_builtin (b := .append) (xs := #[.tmp 48, .tmp 52]) rfl ?_); at_builtin; refine Kd.S_append (Kd.slice 2 (Kd.int .i64)) (w0 := w) w.heap.size rfl (.tmp 48) (.tmp 52) 28 42 (.slice none 0 0) 24 rfl Tryz.underlying28 info42 rfl (by decide) (by omega) u4 x4_1 y394 [.slice Ao23 y394.length co23] (fun k_ => some k_ ≠ (.slice (some ad390) t384.length co19 : Value).ownBlock) (fun k_ => some k_ = (.slice Ao23 y394.length co23 : Value).ownBlock) rfl rfl ?aP (fun k_ hk_ => ((Kd.R_mono (ok' := fun k_ => ((fun k_ => some k_ ≠ (.slice (some ad390) t384.length co19 : Value).ownBlock)) k_ ∧ some k_ ≠ (u4 : Value).ownBlock) (Kd.R_apart' (Kd.R_apart' (HO396.out) (Kd.S_typed HO_3.out) (by decide)) (Kd.S_typed HO_4.out) (by decide)) (fun k_ hk => ⟨hk.1.2, hk.2⟩))).1 k_ hk_.symm) ?aF ?aO ?aB ?aS ?aL ?_; (case aP => exact Kd.M_row (Kd.R_mono (Kd.R_tight rfl (Kd.R_mono (ok' := fun k_ => ((fun k_ => some k_ ≠ (.slice (some ad390) t384.length co19 : Value).ownBlock)) k_ ∧ some k_ ≠ (u4 : Value).ownBlock) (Kd.R_apart' (Kd.R_apart' (HO396.out) (Kd.S_typed HO_3.out) (by decide)) (Kd.S_typed HO_4.out) (by decide)) (fun k_ hk => ⟨hk.1.2, hk.2⟩))) (fun _ h_ => h_))); (case aB => exact (by repeat (first | (with_reducible first | exact HB.out | apply below_alloc | apply pw_below_drewN | apply below_drew1) | exact HB.out))); (case aF => exact (fun k_ hk => Kd.fresh' (Kd.S_lt (by (with_reducible repeat (first | apply Kd.S_alloc | apply Kd.S_drewN | apply Kd.S_drew)); exact HO_3.out)) k_ hk)); (case aO => exact (by (with_reducible repeat (first | apply Kd.S_alloc | apply Kd.S_drewN | apply Kd.S_drew)); exact Kd.S_mono HO_4.out (fun k_ hk => ⟨hk.1, fun e_ => hk.2 e_⟩))); (case aS => exact (below_size (by repeat (first | (with_reducible first | exact HB.out | apply below_alloc | apply pw_below_drewN | apply below_drew1) | exact HB.out)))); (case aL => have := LMc18.out; omega); intro v398 w22 ho hb hg hat; rw [← Ny397.out] at ho; have n0_ := Aside0.mk (Kd.S_after (ok := (fun k_ => some k_ ≠ (.slice Ao23 y394.length co23 : Value).ownBlock)) (by (with_reducible repeat (first | apply Kd.S_alloc | apply Kd.S_drewN | apply Kd.S_drew)); exact Kd.S_mono HO_3.out (fun _ hk => ⟨hk.2, hk.1⟩)) hg hat); have n1_ := Aside0.mk (Kd.R_after (ok := (fun k_ => some k_ ≠ (.slice (some ad390) t384.length co19 : Value).ownBlock ∧ some k_ ≠ (.slice Ao23 y394.length co23 : Value).ownBlock)) (by (with_reducible repeat (first | apply Kd.R_alloc | apply Kd.R_drewN | apply Kd.R_drew)); exact Kd.R_mono HL390_0.out (fun _ hk => ⟨⟨hk.1.2, hk.2⟩, hk.1.1⟩)) hg hat); have n2_ := Aside0.mk (Kd.R_after (ok := (fun k_ => some k_ ≠ (.slice (some ad390) t384.length co19 : Value).ownBlock ∧ some k_ ≠ (.slice Ao23 y394.length co23 : Value).ownBlock)) (by (with_reducible repeat (first | apply Kd.R_alloc | apply Kd.R_drewN | apply Kd.R_drew)); exact Kd.R_mono HL392_0.out (fun _ hk => ⟨⟨hk.1.2, hk.2⟩, hk.1.1⟩)) hg hat); have n3_ := Aside0.mk (hb); have n4_ := Aside0.mk (ho); clear HO_3; clear HL390_0; clear HL392_0; clear HB; clear HO_4; clear HO396; have HO_3 := n0_; have HL390_0 := n1_; have HL392_0 := n2_; have HB := n3_; have HO399 := n4_; clear n0_ n1_ n2_ n3_ n4_; clear ho hb hg hat)))
             go_roundg k1
             case measure => have := HK1.out; omega
             case rel => exact ⟨(y397), (wrap64 (x5_1 + 1)), (by first | rfl | (simp; done) | (simp [*]; done)), H', ⟨by have := HK1.out; omega⟩, ⟨by (with_reducible repeat (first | apply Kd.S_alloc | apply Kd.S_drewN | apply Kd.S_drew)); exact Kd.S_mono HO_3.out (fun _ hk => hk.2)⟩, ⟨by (with_reducible repeat (first | apply Kd.S_alloc | apply Kd.S_drewN | apply Kd.S_drew)); exact HO399.out⟩, ⟨by repeat (first | (with_reducible first | exact HB.out | apply below_alloc | apply pw_below_drewN | apply below_drew1) | exact HB.out)⟩⟩
            ·rw [if_neg c18] at H
             exact absurd H (by simp)
           ·rw [if_neg c17] at H
            have c17b0 : ((bt a0 (ji11)) == (bt a0 (rd (rd_L6 t384 x5_1) 0))) = false := beq_eq_false_iff_ne.mpr c17
            have c17b1 : ((bt a0 (ji11)) != (bt a0 (rd (rd_L6 t384 x5_1) 0))) = true := bne_iff_ne.mpr c17
            have H' := Aside0.mk H
            clear H
            obtain ⟨Ao24, co24, eo24⟩ := Kd.S_slice HO_3.out
            subst eo24
            have p390 : 0 ≤ (x5_1 : Int) := of_decide_eq_true (by first | (with_reducible assumption) | assumption)
            have q390 : x5_1 < (t384.length : Int) := of_decide_eq_true (by first | (with_reducible assumption) | assumption)
            obtain ⟨ad390, A390_0, c390_0, e390, hx390_0, hl390_0, hi390_0⟩ := at_L6 (Kd.S_reads' HO_3.out).2.2 x5_1 p390 q390
            cases e390
            obtain ⟨ce390, hce390, hMe390, hcc390⟩ := Kd.S_get HO_3.out [] x5_1 p390 (by first | exact q390 | exact of_decide_eq_true (by first | (with_reducible assumption) | assumption) | (have e_ := (Kd.S_reads' HO_3.out).1; omega))
            obtain ⟨ve390_0, rfl, ge390_0⟩ := hMe390
            have hv390_0 := hcc390 0 _ rfl
            rw [Nat.add_zero, show ((Kd.slice 2 (Kd.int .i64))).sz = 1 from rfl, Nat.mul_one] at hv390_0
            replace hv390_0 := Option.some.inj (hv390_0.symm.trans hx390_0)
            rw [hv390_0] at ge390_0
            have HL390_0 := Aside0.mk (show Kd.R (Kd.int .i64) 2 _ _ _ _ (rd_L6 t384 x5_1) from ge390_0)
            clear hv390_0 ge390_0
            clear hcc390 hce390
            have HR390_0 := Aside0.mk hi390_0
            have HC390_0 := Aside0.mk hl390_0
            clear hi390_0 hl390_0
            replace p390 := eq_true p390
            replace q390 := eq_true q390
            have p391 : 0 ≤ (0 : Int) := (by omega)
            have q391 : 0 < ((rd_L6 t384 x5_1).length : Int) := of_decide_eq_true (by first | (with_reducible assumption) | assumption)
            obtain ⟨ad391, e391, hx391_0⟩ := Kd.at_int (by repeat (first | (with_reducible exact HR390_0.out) | (with_reducible refine Kd.C_alloc ?_ _) | (with_reducible refine Kd.C_drewN ?_ _) | (with_reducible refine Kd.C_drew ?_) | exact HR390_0.out)) 0 p391 q391
            cases e391
            have qi391 : (0 < (rd_L6 t384 x5_1).length) = True := eq_true (by omega)
            (try rw [show ((0 : Int)).toNat = 0 from rfl] at hx391_0)
            (try rw [Addr.add_zero'] at hx391_0)
            replace p391 := eq_true p391
            replace q391 := eq_true q391
            have p392 : 0 ≤ (x5_1 : Int) := of_decide_eq_true (by first | (with_reducible assumption) | assumption)
            have q392 : x5_1 < (t384.length : Int) := of_decide_eq_true (by first | (with_reducible assumption) | assumption)
            obtain ⟨ad392, A392_0, c392_0, e392, hx392_0, hl392_0, hi392_0⟩ := at_L6 (Kd.S_reads' HO_3.out).2.2 x5_1 p392 q392
            obtain rfl : ad390 = ad392 := (by injection e392)
            obtain ⟨ce392, hce392, hMe392, hcc392⟩ := Kd.S_get HO_3.out [] x5_1 p392 (by first | exact q392 | exact of_decide_eq_true (by first | (with_reducible assumption) | assumption) | (have e_ := (Kd.S_reads' HO_3.out).1; omega))
            obtain ⟨ve392_0, rfl, ge392_0⟩ := hMe392
            have hv392_0 := hcc392 0 _ rfl
            rw [Nat.add_zero, show ((Kd.slice 2 (Kd.int .i64))).sz = 1 from rfl, Nat.mul_one] at hv392_0
            replace hv392_0 := Option.some.inj (hv392_0.symm.trans hx392_0)
            rw [hv392_0] at ge392_0
            have HL392_0 := Aside0.mk (show Kd.R (Kd.int .i64) 2 _ _ _ _ (rd_L6 t384 x5_1) from ge392_0)
            clear hv392_0 ge392_0
            clear hcc392 hce392
            have HR392_0 := Aside0.mk hi392_0
            have HC392_0 := Aside0.mk hl392_0
            clear hi392_0 hl392_0
            replace p392 := eq_true p392
            replace q392 := eq_true q392
            have ea_ := Option.some.inj (hx390_0.symm.trans hx392_0)
            injection ea_ with ea_ en_ ec_
            subst ea_
            subst ec_
            clear en_
            have p393 : 0 ≤ (1 : Int) := (by omega)
            have q393 : 1 < ((rd_L6 t384 x5_1).length : Int) := of_decide_eq_true (by first | (with_reducible assumption) | assumption)
            obtain ⟨ad393, e393, hx393_0⟩ := Kd.at_int (by repeat (first | (with_reducible exact HR392_0.out) | (with_reducible refine Kd.C_alloc ?_ _) | (with_reducible refine Kd.C_drewN ?_ _) | (with_reducible refine Kd.C_drew ?_) | exact HR392_0.out)) 1 p393 q393
            cases e393
            (try simp only [show (1 : Int).toNat = 1 from rfl, Nat.reduceMul, Nat.reduceEqDiff, Go.Addr.add, ↓reduceIte] at hx393_0)
            have qi393 : (1 < (rd_L6 t384 x5_1).length) = True := eq_true (by omega)
            (try rw [show ((1 : Int)).toNat = 1 from rfl] at hx393_0)
            replace p393 := eq_true p393
            replace q393 := eq_true q393
            have p13 : 0 ≤ ((ji11) : Int) := of_decide_eq_true (by first | (with_reducible assumption) | assumption)
            have q13 : (ji11) < (a0.size : Int) := of_decide_eq_true (by first | (with_reducible assumption) | assumption)
            have hx13 := bt_at a0 (ji11)
            replace p13 := eq_true p13
            replace q13 := eq_true q13
            have p16 : 0 ≤ ((rd (rd_L6 t384 x5_1) 0) : Int) := of_decide_eq_true (by first | (with_reducible assumption) | assumption)
            have q16 : (rd (rd_L6 t384 x5_1) 0) < (a0.size : Int) := of_decide_eq_true (by first | (with_reducible assumption) | assumption)
            have hx16 := bt_at a0 (rd (rd_L6 t384 x5_1) 0)
            replace p16 := eq_true p16
            replace q16 := eq_true q16
            go_wp2
            repeat (go_quiet (fail); try go_wp2)
            go_roundg k1
            case measure => have := HK1.out; omega
            case rel => exact ⟨(x4_1), (wrap64 (x5_1 + 1)), (by first | rfl | (simp; done) | (simp [*]; done)), H', ⟨by have := HK1.out; omega⟩, ⟨by (with_reducible repeat (first | apply Kd.S_alloc | apply Kd.S_drewN | apply Kd.S_drew)); exact HO_3.out⟩, ⟨by (with_reducible repeat (first | apply Kd.S_alloc | apply Kd.S_drewN | apply Kd.S_drew)); exact HO_4.out⟩, ⟨by repeat (first | (with_reducible first | exact HB.out | apply below_alloc | apply pw_below_drewN | apply below_drew1) | exact HB.out)⟩⟩
          ·rw [if_neg c15] at H
           exact absurd H (by simp)
         ·rw [if_neg c14] at H
          exact absurd H (by simp)
        ·rw [if_neg c12] at H
         exact absurd H (by simp)
       ·rw [if_neg c10] at H
        have c10b0 : decide ((wrap64 ((rd (rd_L6 t384 x5_1) 0) + (wrap64 (2 * (rd (rd_L6 t384 x5_1) 1))))) < (a0.size : Int)) = false := decide_eq_false c10
        clear c10
        have H' := Aside0.mk H
        clear H
        obtain ⟨Ao25, co25, eo25⟩ := Kd.S_slice HO_3.out
        subst eo25
        have p390 : 0 ≤ (x5_1 : Int) := of_decide_eq_true (by first | (with_reducible assumption) | assumption)
        have q390 : x5_1 < (t384.length : Int) := of_decide_eq_true (by first | (with_reducible assumption) | assumption)
        obtain ⟨ad390, A390_0, c390_0, e390, hx390_0, hl390_0, hi390_0⟩ := at_L6 (Kd.S_reads' HO_3.out).2.2 x5_1 p390 q390
        cases e390
        obtain ⟨ce390, hce390, hMe390, hcc390⟩ := Kd.S_get HO_3.out [] x5_1 p390 (by first | exact q390 | exact of_decide_eq_true (by first | (with_reducible assumption) | assumption) | (have e_ := (Kd.S_reads' HO_3.out).1; omega))
        obtain ⟨ve390_0, rfl, ge390_0⟩ := hMe390
        have hv390_0 := hcc390 0 _ rfl
        rw [Nat.add_zero, show ((Kd.slice 2 (Kd.int .i64))).sz = 1 from rfl, Nat.mul_one] at hv390_0
        replace hv390_0 := Option.some.inj (hv390_0.symm.trans hx390_0)
        rw [hv390_0] at ge390_0
        have HL390_0 := Aside0.mk (show Kd.R (Kd.int .i64) 2 _ _ _ _ (rd_L6 t384 x5_1) from ge390_0)
        clear hv390_0 ge390_0
        clear hcc390 hce390
        have HR390_0 := Aside0.mk hi390_0
        have HC390_0 := Aside0.mk hl390_0
        clear hi390_0 hl390_0
        replace p390 := eq_true p390
        replace q390 := eq_true q390
        have p391 : 0 ≤ (0 : Int) := (by omega)
        have q391 : 0 < ((rd_L6 t384 x5_1).length : Int) := of_decide_eq_true (by first | (with_reducible assumption) | assumption)
        obtain ⟨ad391, e391, hx391_0⟩ := Kd.at_int (by repeat (first | (with_reducible exact HR390_0.out) | (with_reducible refine Kd.C_alloc ?_ _) | (with_reducible refine Kd.C_drewN ?_ _) | (with_reducible refine Kd.C_drew ?_) | exact HR390_0.out)) 0 p391 q391
        cases e391
        have qi391 : (0 < (rd_L6 t384 x5_1).length) = True := eq_true (by omega)
        (try rw [show ((0 : Int)).toNat = 0 from rfl] at hx391_0)
        (try rw [Addr.add_zero'] at hx391_0)
        replace p391 := eq_true p391
        replace q391 := eq_true q391
        have p392 : 0 ≤ (x5_1 : Int) := of_decide_eq_true (by first | (with_reducible assumption) | assumption)
        have q392 : x5_1 < (t384.length : Int) := of_decide_eq_true (by first | (with_reducible assumption) | assumption)
        obtain ⟨ad392, A392_0, c392_0, e392, hx392_0, hl392_0, hi392_0⟩ := at_L6 (Kd.S_reads' HO_3.out).2.2 x5_1 p392 q392
        obtain rfl : ad390 = ad392 := (by injection e392)
        obtain ⟨ce392, hce392, hMe392, hcc392⟩ := Kd.S_get HO_3.out [] x5_1 p392 (by first | exact q392 | exact of_decide_eq_true (by first | (with_reducible assumption) | assumption) | (have e_ := (Kd.S_reads' HO_3.out).1; omega))
        obtain ⟨ve392_0, rfl, ge392_0⟩ := hMe392
        have hv392_0 := hcc392 0 _ rfl
        rw [Nat.add_zero, show ((Kd.slice 2 (Kd.int .i64))).sz = 1 from rfl, Nat.mul_one] at hv392_0
        replace hv392_0 := Option.some.inj (hv392_0.symm.trans hx392_0)
        rw [hv392_0] at ge392_0
        have HL392_0 := Aside0.mk (show Kd.R (Kd.int .i64) 2 _ _ _ _ (rd_L6 t384 x5_1) from ge392_0)
        clear hv392_0 ge392_0
        clear hcc392 hce392
        have HR392_0 := Aside0.mk hi392_0
        have HC392_0 := Aside0.mk hl392_0
        clear hi392_0 hl392_0
        replace p392 := eq_true p392
        replace q392 := eq_true q392
        have ea_ := Option.some.inj (hx390_0.symm.trans hx392_0)
        injection ea_ with ea_ en_ ec_
        subst ea_
        subst ec_
        clear en_
        have p393 : 0 ≤ (1 : Int) := (by omega)
        have q393 : 1 < ((rd_L6 t384 x5_1).length : Int) := of_decide_eq_true (by first | (with_reducible assumption) | assumption)
        obtain ⟨ad393, e393, hx393_0⟩ := Kd.at_int (by repeat (first | (with_reducible exact HR392_0.out) | (with_reducible refine Kd.C_alloc ?_ _) | (with_reducible refine Kd.C_drewN ?_ _) | (with_reducible refine Kd.C_drew ?_) | exact HR392_0.out)) 1 p393 q393
        cases e393
        (try simp only [show (1 : Int).toNat = 1 from rfl, Nat.reduceMul, Nat.reduceEqDiff, Go.Addr.add, ↓reduceIte] at hx393_0)
        have qi393 : (1 < (rd_L6 t384 x5_1).length) = True := eq_true (by omega)
        (try rw [show ((1 : Int)).toNat = 1 from rfl] at hx393_0)
        replace p393 := eq_true p393
        replace q393 := eq_true q393
        go_wp2
        repeat (go_quiet (fail); try go_wp2)
        go_roundg k1
        case measure => have := HK1.out; omega
        case rel => exact ⟨(x4_1), (wrap64 (x5_1 + 1)), (by first | rfl | (simp; done) | (simp [*]; done)), H', ⟨by have := HK1.out; omega⟩, ⟨by (with_reducible repeat (first | apply Kd.S_alloc | apply Kd.S_drewN | apply Kd.S_drew)); exact HO_3.out⟩, ⟨by (with_reducible repeat (first | apply Kd.S_alloc | apply Kd.S_drewN | apply Kd.S_drew)); exact HO_4.out⟩, ⟨by repeat (first | (with_reducible first | exact HB.out | apply below_alloc | apply pw_below_drewN | apply below_drew1) | exact HB.out)⟩⟩
      ·rw [if_neg c9] at H
       exact absurd H (by simp)
     ·rw [if_neg c8] at H
      exact absurd H (by simp)
    ·rw [if_neg c7] at H
     exact absurd H (by simp)
   ·rw [if_neg c6] at H
    have c6b0 : decide (x5_1 < (t384.length : Int)) = false := decide_eq_false c6
    clear c6
    obtain rfl := Option.some.inj H
    obtain ⟨Ao26, co26, eo26⟩ := Kd.S_slice HO_3.out
    subst eo26
    go_wp2
    repeat (go_quiet (fail); try go_wp2)
    go_ret
    exact ⟨_, by first | rfl | (simp [errW_none, errW_some] <;> rfl) | (simp [*, errW_none, errW_some] <;> rfl), by (with_reducible repeat (first | apply Kd.S_alloc | apply Kd.S_drewN | apply Kd.S_drew)); exact Kd.S_mono HO_4.out (fun _ hk => trivial), by repeat (first | (with_reducible first | exact HB.out | apply below_alloc | apply pw_below_drewN | apply below_drew1) | exact HB.out)⟩

end Go.Proofs.YteakipdmpjlhiabGreat.Q

namespace Go.Proofs.YteakipdmpjlhiabGreat.Q
open Go.RowKit Go.Proofs.YteakipdmpjlhiabGreatW.PrintWords Go.Proofs.YteakipdmpjlhiabGreatW.PrintLast Go.Proofs.YteakipdmpjlhiabGreatW.PrintMore
attribute [local go_sem] max2_int min2_int max_two min_two max_three min_three max_four min_four bn_leq bn_gtr bn_geq   -- for this text's walks alone
set_option linter.unusedVariables false
set_option linter.unusedSimpArgs false

/-! ### spec_OverlapsIn: function 11 -/
def spec_OverlapsIn.f (k : Nat) (a0 : ByteArray) : Option ((List (List Int)) × Int) := (spec_l01Is.f k a0).bind fun t400 => (if t400 = true then ((spec_l03Overlaps.f k a0).bind fun t401 => (some (t401, 0))) else (some (([] : List (List Int)), 1)))
set_option maxHeartbeats 8000000 in
set_option maxRecDepth 100000 in
theorem spec_OverlapsIn.calls (k : Nat) (a0 : ByteArray) (r1 : List (List Int)) (r2 : Int) (w : World) (h : spec_OverlapsIn.f k a0 = some (r1, r2)) :
  Calls Tryz.prog 11 #[.string a0] w fun e w' => ∃ v0_ : Value, e = .returned (.tuple #[v0_, .int .i64 r2]) ∧ Kd.S (Kd.slice 2 (Kd.int .i64)) 42 w' w.heap.size (fun _ => True) v0_ r1 ∧ Below w.heap.size w w' := by
 have HB := Aside0.mk (Below.refl w.heap.size w)
 have H : ((spec_l01Is.f k a0).bind fun t400 => (if t400 = true then ((spec_l03Overlaps.f k a0).bind fun t401 => (some (t401, 0))) else (some (([] : List (List Int)), 1)))) = some (r1, r2) := h
 clear h
 replace H := Option.bind_eq_some_iff.mp H
 obtain ⟨t400, A20, H⟩ := H
 replace H : (if t400 = true then ((spec_l03Overlaps.f k a0).bind fun t401 => (some (t401, 0))) else (some (([] : List (List Int)), 1))) = some (r1, r2) := H
 have A2 := Aside0.mk A20
 clear A20
 by_cases c3 : t400 = true
 ·subst c3
  have H1 : ((spec_l03Overlaps.f k a0).bind fun t401 => (some (t401, 0))) = some (r1, r2) := by rw [if_pos rfl] at H; exact H
  clear H
  have H := H1
  clear H1
  replace H := Option.bind_eq_some_iff.mp H
  obtain ⟨t401, A40, H⟩ := H
  replace H : (some (t401, 0)) = some (r1, r2) := H
  have A4 := Aside0.mk A40
  clear A40
  simp only [Option.some.injEq, Prod.mk.injEq] at H
  obtain ⟨rfl, rfl⟩ := H
  go_enter Tryz.func11, Tryz.ntmps11
  go_wp2_with (first | ((with_reducible refine gate_callee (f := 31) rfl ?_); refine goesL_ (some 5) rfl rfl Tryz.func31 (by kernel_rfl) rfl #[.string a0] rfl (by (try simp only [List.map_toArray, List.map_cons, List.map_nil]); first | done | rfl | (simp only [List.length_drop, List.length_take]; rfl)) ?_; (with_reducible refine (spec_l01Is.calls k a0 true _ A2.out).mono ?_); rintro e w' ⟨rfl, ⟨nd, rfl⟩⟩; refine ⟨_, rfl, ?_⟩) | ((with_reducible refine gate_callee (f := 39) rfl ?_); refine goesL_ (some 8) rfl rfl Tryz.func39 (by kernel_rfl) rfl #[.string a0] rfl (by (try simp only [List.map_toArray, List.map_cons, List.map_nil]); first | done | rfl | (simp only [List.length_drop, List.length_take]; rfl)) ?_; (with_reducible refine (spec_l03Overlaps.calls k a0 t401 _ A4.out).mono ?_); rintro e w5 ⟨v402, rfl, ho0, hb⟩; refine ⟨_, rfl, ?_⟩; have n0_ := Aside0.mk (Kd.S_lower ho0 (below_size (by repeat (first | (with_reducible first | exact HB.out | apply below_alloc | apply pw_below_drewN | apply below_drew1) | exact HB.out)))); have n1_ := Aside0.mk (below_step (by repeat (first | (with_reducible first | exact HB.out | apply below_alloc | apply pw_below_drewN | apply below_drew1) | exact HB.out)) hb); clear HB; have HO403 := n0_; have HB := n1_; clear n0_ n1_; (try clear hb); (try clear hb2); (try clear hk); (try clear hi); (try clear ho0)))
  go_ret2
  exact ⟨_, by first | rfl | (simp [errW_none, errW_some] <;> rfl) | (simp [*, errW_none, errW_some] <;> rfl), by (with_reducible repeat (first | apply Kd.S_alloc | apply Kd.S_drewN | apply Kd.S_drew)); exact HO403.out, by repeat (first | (with_reducible first | exact HB.out | apply below_alloc | apply pw_below_drewN | apply below_drew1) | exact HB.out)⟩
 ·replace c3 := Bool.eq_false_iff.mpr c3
  subst c3
  have H1 : (some (([] : List (List Int)), 1)) = some (r1, r2) := by rw [if_neg (show ¬ (false = true) by decide)] at H; exact H
  clear H
  have H := H1
  clear H1
  simp only [Option.some.injEq, Prod.mk.injEq] at H
  obtain ⟨rfl, rfl⟩ := H
  go_enter Tryz.func11, Tryz.ntmps11
  go_wp2_with (first | ((with_reducible refine gate_callee (f := 31) rfl ?_); refine goesL_ (some 5) rfl rfl Tryz.func31 (by kernel_rfl) rfl #[.string a0] rfl (by (try simp only [List.map_toArray, List.map_cons, List.map_nil]); first | done | rfl | (simp only [List.length_drop, List.length_take]; rfl)) ?_; (with_reducible refine (spec_l01Is.calls k a0 false _ A2.out).mono ?_); rintro e w' ⟨rfl, ⟨nd, rfl⟩⟩; refine ⟨_, rfl, ?_⟩))
  go_ret2
  exact ⟨_, by first | rfl | (simp [errW_none, errW_some] <;> rfl) | (simp [*, errW_none, errW_some] <;> rfl), by first | exact Kd.S_nil _ _ _ _ _ | exact Kd.N_nil _ _ _ _ _ | exact Kd.V_nil _ _ _ _ _ | exact Kd.Q_nil _ _ _ _ _ | exact Kd.R_nil _ _ _ _ _, by repeat (first | (with_reducible first | exact HB.out | apply below_alloc | apply pw_below_drewN | apply below_drew1) | exact HB.out)⟩

end Go.Proofs.YteakipdmpjlhiabGreat.Q

namespace Go.Proofs.YteakipdmpjlhiabGreat.Q
open Go.RowKit Go.Proofs.YteakipdmpjlhiabGreatW.PrintWords Go.Proofs.YteakipdmpjlhiabGreatW.PrintLast Go.Proofs.YteakipdmpjlhiabGreatW.PrintMore
attribute [local go_sem] max2_int min2_int max_two min_two max_three min_three max_four min_four bn_leq bn_gtr bn_geq   -- for this text's walks alone
set_option linter.unusedVariables false
set_option linter.unusedSimpArgs false

/-! ### impl_sorted: function 40 (this session's own) -/
def xw_sort_ren : Go.Shelf.Ren := ⟨fun | 125 => 77 | 128 => 95 | 129 => 96 | 190 => 61 | 258 => 76 | 302 => 86 | 303 => 87 | 304 => 88 | 305 => 89 | 306 => 90 | 307 => 91 | 308 => 92 | 309 => 93 | 310 => 94 | 329 => 99 | 330 => 100 | 333 => 98 | 334 => 101 | 335 => 102 | 336 => 103 | 344 => 104 | n => n, fun | 0 => 0 | 3 => 3 | 4 => 4 | 5 => 5 | 9 => 9 | 31 => 32 | 46 => 99 | 51 => 115 | 53 => 85 | 131 => 112 | 182 => 106 | 183 => 107 | 218 => 118 | 222 => 122 | 228 => 124 | 229 => 125 | n => n, fun n => n⟩
theorem xw_sort_lays : Lays.n190 Tryz.prog xw_sort_ren := {
 mixed := by kernel_rfl
 f125 := Tryz.func77.trans (congrArg some (by kernel_rfl))
 f128 := Tryz.func95.trans (congrArg some (by kernel_rfl))
 f129 := Tryz.func96.trans (congrArg some (by kernel_rfl))
 f190 := Tryz.func61.trans (congrArg some (by kernel_rfl))
 f258 := Tryz.func76.trans (congrArg some (by kernel_rfl))
 f302 := Tryz.func86.trans (congrArg some (by kernel_rfl))
 f303 := Tryz.func87.trans (congrArg some (by kernel_rfl))
 f304 := Tryz.func88.trans (congrArg some (by kernel_rfl))
 f305 := Tryz.func89.trans (congrArg some (by kernel_rfl))
 f306 := Tryz.func90.trans (congrArg some (by kernel_rfl))
 f307 := Tryz.func91.trans (congrArg some (by kernel_rfl))
 f308 := Tryz.func92.trans (congrArg some (by kernel_rfl))
 f309 := Tryz.func93.trans (congrArg some (by kernel_rfl))
 f310 := Tryz.func94.trans (congrArg some (by kernel_rfl))
 f329 := Tryz.func99.trans (congrArg some (by kernel_rfl))
 f330 := Tryz.func100.trans (congrArg some (by kernel_rfl))
 f333 := Tryz.func98.trans (congrArg some (by kernel_rfl))
 f334 := Tryz.func101.trans (congrArg some (by kernel_rfl))
 f335 := Tryz.func102.trans (congrArg some (by kernel_rfl))
 f336 := Tryz.func103.trans (congrArg some (by kernel_rfl))
 f344 := Tryz.func104.trans (congrArg some (by kernel_rfl))
 t0 := Tryz.underlying0
 a0 := Tryz.isAgg0
 z0 := Tryz.sizeOf0
 v0 := Tryz.zeroValue0
 t3 := Tryz.underlying3
 a3 := Tryz.isAgg3
 z3 := Tryz.sizeOf3
 v3 := Tryz.zeroValue3
 t4 := Tryz.underlying4
 a4 := Tryz.isAgg4
 z4 := Tryz.sizeOf4
 v4 := Tryz.zeroValue4
 t5 := Tryz.underlying5
 a5 := Tryz.isAgg5
 z5 := Tryz.sizeOf5
 v5 := Tryz.zeroValue5
 t9 := Tryz.underlying9
 a9 := Tryz.isAgg9
 z9 := Tryz.sizeOf9
 v9 := Tryz.zeroValue9
 t31 := Tryz.underlying32
 a31 := Tryz.isAgg32
 z31 := Tryz.sizeOf32
 v31 := Tryz.zeroValue32
 t46 := Tryz.underlying99
 a46 := Tryz.isAgg99
 z46 := Tryz.sizeOf99
 v46 := Tryz.zeroValue99
 t51 := Tryz.underlying115
 a51 := Tryz.isAgg115
 z51 := Tryz.sizeOf115
 v51 := Tryz.zeroValue115
 t53 := Tryz.underlying85
 a53 := Tryz.isAgg85
 z53 := Tryz.sizeOf85
 v53 := Tryz.zeroValue85
 t131 := Tryz.underlying112
 a131 := Tryz.isAgg112
 z131 := Tryz.sizeOf112
 v131 := Tryz.zeroValue112
 t182 := Tryz.underlying106
 a182 := Tryz.isAgg106
 z182 := Tryz.sizeOf106
 v182 := Tryz.zeroValue106
 t183 := Tryz.underlying107
 a183 := Tryz.isAgg107
 z183 := Tryz.sizeOf107
 v183 := Tryz.zeroValue107
 t218 := Tryz.underlying118
 a218 := Tryz.isAgg118
 z218 := Tryz.sizeOf118
 v218 := Tryz.zeroValue118
 t222 := Tryz.underlying122
 a222 := Tryz.isAgg122
 z222 := Tryz.sizeOf122
 v222 := Tryz.zeroValue122
 t228 := Tryz.underlying124
 a228 := Tryz.isAgg124
 z228 := Tryz.sizeOf124
 v228 := Tryz.zeroValue124
 t229 := Tryz.underlying125
 a229 := Tryz.isAgg125
 z229 := Tryz.sizeOf125
 v229 := Tryz.zeroValue125 }
def xw_compact_ren : Go.Shelf.Ren := ⟨fun | 194 => 62 | n => n, fun | 0 => 0 | 3 => 3 | 4 => 4 | 9 => 9 | 31 => 32 | n => n, fun n => n⟩
theorem xw_compact_lays : Lays.n194 Tryz.prog xw_compact_ren := {
 mixed := by kernel_rfl
 f194 := Tryz.func62.trans (congrArg some (by kernel_rfl))
 t0 := Tryz.underlying0
 a0 := Tryz.isAgg0
 z0 := Tryz.sizeOf0
 v0 := Tryz.zeroValue0
 t3 := Tryz.underlying3
 a3 := Tryz.isAgg3
 z3 := Tryz.sizeOf3
 v3 := Tryz.zeroValue3
 t4 := Tryz.underlying4
 a4 := Tryz.isAgg4
 z4 := Tryz.sizeOf4
 v4 := Tryz.zeroValue4
 t9 := Tryz.underlying9
 a9 := Tryz.isAgg9
 z9 := Tryz.sizeOf9
 v9 := Tryz.zeroValue9
 t31 := Tryz.underlying32
 a31 := Tryz.isAgg32
 z31 := Tryz.sizeOf32
 v31 := Tryz.zeroValue32 }
def toW (x : List UInt8) : ByteArray := ⟨x.toArray⟩
def sortL (l : List ByteArray) : List ByteArray := ((l.map (·.data.toList)).mergeSort fun x y => decide (x ≤ y)).map toW
def compactL (l : List ByteArray) : List ByteArray := (Lib.compact (l.map (·.data.toList))).map toW
def sortW (l : List ByteArray) : List ByteArray := compactL (sortL l)
theorem encs_strs (l : List ByteArray) : (l.map (·.data.toList)).map Go.Proofs.encStr = encs Value.string l := Lib.map_encStr l
theorem encs_toW (l : List (List UInt8)) : l.map Go.Proofs.encStr = encs Value.string (l.map toW) := by
 unfold encs
 rw [List.map_map]; rfl
theorem below_grow (W : World) (os : Array Obj) : Below W.heap.size W (Go.Sort.grow W os) :=
 ⟨rfl, rfl, rfl, by show W.heap.size ≤ (W.heap ++ os).size; rw [Array.size_append]; omega, fun k hk => Go.Sort.heap_grow_old W os hk⟩
theorem compact_len {α : Type} [Inhabited α] [DecidableEq α] (l : List α) : (Lib.compact l).length ≤ l.length := by
 unfold Lib.compact Lib.compactUpTo
 rw [List.length_map]
 exact Nat.le_trans (List.length_filter_le _ _) (by simp)
theorem kept_put {enc : List UInt8 → Value} {w : World} {g q : Nat} {d : Array (List UInt8)} {P : Nat → Prop} (hP : P g) : Kept w (Go.Sort.putRow enc (Go.Sort.ahead w q) g 0 d) P := by
 refine ⟨by simp [Go.Sort.putRow, Go.Sort.mapBlock, Go.Sort.ahead], fun i hi hne => ?_⟩
 have : g ≠ i := fun e => hne (e ▸ hP)
 simp [Go.Sort.putRow, Go.Sort.mapBlock, Go.Sort.ahead, Array.getElem?_modify, this]
theorem kept_then {w W W2 : World} {P : Nat → Prop} (h : Kept w W P) (hb : Below W.heap.size W W2) : Kept w W2 P :=
 ⟨Nat.le_trans h.1 hb.size, fun i hi hne => (hb.block i (Nat.lt_of_lt_of_le hi h.1)).trans (h.2 i hi hne)⟩
theorem kept_trans {w W W2 : World} {P : Nat → Prop} (h : Kept w W P) (h2 : Kept W W2 P) : Kept w W2 P :=
 ⟨Nat.le_trans h.1 h2.1, fun i hi hne => (h2.2 i (Nat.lt_of_lt_of_le hi h.1) hne).trans (h.2 i hi hne)⟩
theorem xw_Sort (P0 : Nat → Prop) (v : Value) (l : List ByteArray) (w0 w : World) (hl : l.length ≤ 1000000) (ho : Kd.R Kd.string 9 w w0.heap.size P0 v l) (hB : Below w0.heap.size w0 w) :
  Calls Tryz.prog 61 #[v] w fun e w' => e = .returned (.tuple #[]) ∧ Kd.R Kd.string 9 w' w0.heap.size P0 v (sortL l) ∧ Below w0.heap.size w0 w' ∧ Kept w w' P0 := by
 by_cases hv : v = .slice none 0 0
 ·subst hv
  have hl : l = [] := List.length_eq_zero_iff.mp (Kd.R_reads' ho).1.symm
  subst hl
  refine (Any.slices_Sort_string_none xw_sort_lays none 0 w).mono ?_
  rintro e w' ⟨rfl, rfl⟩
  refine ⟨rfl, ?_, hB, Kept.refl _ _⟩
  rw [show sortL [] = [] by simp [sortL]]
  exact ho
 ·have hown := Kd.own_of_R ho
  obtain ⟨g, cap, rfl, hb, hlt, hn, hm, hl2, hH⟩ := Lib.holds_of_ownsRow (enc := Go.Proofs.encStr) (zs := l.map (·.data.toList)) (by rw [encs_strs]; exact hown) hv
  have hP : P0 g := ho.1 g (by simp [Value.ownBlock])
  have hc := Any.slices_Sort_string xw_sort_lays g 0 cap (l.map (·.data.toList)) w hH hlt (by rw [hl2]; omega)
  rw [hl2] at hc
  refine hc.mono ?_
  rintro e w' ⟨rfl, n, os, rfl⟩
  have hown2 : w.ownsRow w0.heap.size 9 1 (.slice (some ⟨g, 0, none⟩) l.length cap) l.length ((l.map (·.data.toList)).map Go.Proofs.encStr) := by rw [encs_strs]; exact hown
  have ho2 := Lib.ownsRow_putRow (q := n) (k := l.length) (ys := (l.map (·.data.toList)).mergeSort fun x y => decide (x ≤ y)) hown2 (by simp) (Nat.le_refl _)
  rw [List.take_of_length_le (by simp), encs_toW] at ho2
  have hR : Kd.R Kd.string 9 (Go.Sort.putRow Go.Proofs.encStr (Go.Sort.ahead w n) g 0 ((l.map (·.data.toList)).mergeSort fun x y => decide (x ≤ y)).toArray) w0.heap.size P0 (.slice (some ⟨g, 0, none⟩) l.length cap) (sortL l) := by
   refine Kd.R_of_own ?_ (fun k hk => ?_)
   ·rw [show (sortL l).length = l.length by simp [sortL]]
    exact ho2
   ·have : g = k := by simpa [Value.ownBlock] using hk
    subst this; exact hP
  have hB1 : Below w0.heap.size w0 (Go.Sort.putRow Go.Proofs.encStr (Go.Sort.ahead w n) g 0 ((l.map (·.data.toList)).mergeSort fun x y => decide (x ≤ y)).toArray) := Lib.below_putRow hB hb
  exact ⟨rfl, Kd.R_below hR (below_grow _ os), below_then hB1 hB1.size (below_grow _ os), kept_then (kept_put hP) (below_grow _ os)⟩
theorem xw_Compact (P0 : Nat → Prop) (v : Value) (l : List ByteArray) (w0 w : World) (hl : l.length ≤ 1000000) (ho : Kd.R Kd.string 9 w w0.heap.size P0 v l) (hB : Below w0.heap.size w0 w) :
  Calls Tryz.prog 62 #[v] w fun e w' => ∃ v' : Value, e = .returned v' ∧ Kd.R Kd.string 9 w' w0.heap.size P0 v' (compactL l) ∧ Below w0.heap.size w0 w' ∧ Kept w w' P0 := by
 by_cases hv : v = .slice none 0 0
 ·subst hv
  have hl : l = [] := List.length_eq_zero_iff.mp (Kd.R_reads' ho).1.symm
  subst hl
  refine (Any.slices_Compact_string_empty xw_compact_lays none 0 w).mono ?_
  rintro e w' ⟨rfl, rfl⟩
  refine ⟨_, rfl, ?_, hB, Kept.refl _ _⟩
  rw [show compactL [] = [] from rfl]
  exact ho
 ·have hown := Kd.own_of_R ho
  obtain ⟨g, cap, rfl, hb, hlt, hn, hm, hl2, hH⟩ := Lib.holds_of_ownsRow (enc := Go.Proofs.encStr) (zs := l.map (·.data.toList)) (by rw [encs_strs]; exact hown) hv
  have hP : P0 g := ho.1 g (by simp [Value.ownBlock])
  have hc := Any.slices_Compact_string xw_compact_lays g 0 cap (l.map (·.data.toList)) w hH (by rw [hl2]; omega) (by rw [hl2]; omega)
  rw [hl2] at hc
  refine hc.mono ?_
  rintro e w' ⟨rfl, n, rfl⟩
  have hown2 : w.ownsRow w0.heap.size 9 1 (.slice (some ⟨g, 0, none⟩) l.length cap) l.length ((l.map (·.data.toList)).map Go.Proofs.encStr) := by rw [encs_strs]; exact hown
  have hcl := compact_len (l.map (·.data.toList))
  rw [hl2] at hcl
  have ho2 := Lib.ownsRow_putRow (q := n) (k := (Lib.compact (l.map (·.data.toList))).length) (ys := Lib.compact (l.map (·.data.toList)) ++ List.replicate (l.length - (Lib.compact (l.map (·.data.toList))).length) []) hown2 (by simp; omega) hcl
  rw [List.take_left, encs_toW] at ho2
  refine ⟨_, rfl, ?_, Lib.below_putRow hB hb, kept_put hP⟩
  refine Kd.R_of_own ?_ (fun k hk => ?_)
  ·rw [show (compactL l).length = (Lib.compact (l.map (·.data.toList))).length by simp [compactL]]
   exact ho2
  ·have : g = k := by simpa [Value.ownBlock] using hk
   subst this; exact hP
theorem sortL_len (l : List ByteArray) : (sortL l).length = l.length := by simp [sortL]
def impl_sorted.f (l0 : List ByteArray) : Option (List ByteArray) := if l0.length ≤ 1000000 then some (sortW l0) else none
set_option maxHeartbeats 2000000 in
theorem impl_sorted.calls (P0_ : Nat → Prop) (u9000_ : Value) (l0 : List ByteArray) (r : List ByteArray) (w0 w : World) (hB : Below w0.heap.size w0 w) (ho0 : Kd.R Kd.string 9 w w0.heap.size P0_ u9000_ l0) (h : impl_sorted.f l0 = some r) :
  Calls Tryz.prog 40 #[u9000_] w fun e w' => ∃ v0_ : Value, e = .returned v0_ ∧ Kd.R Kd.string 9 w' w0.heap.size (fun k_ => (P0_ k_ ∨ w.heap.size ≤ k_)) v0_ r ∧ Below w0.heap.size w0 w' ∧ Kept w w' (fun k_ => P0_ k_) := by
 unfold impl_sorted.f at h
 by_cases hl : l0.length ≤ 1000000
 ·rw [if_pos hl] at h
  obtain rfl := Option.some.inj h
  have hS := xw_Sort P0_ u9000_ l0 w0 w hl ho0 hB
  have hC := Aside0.mk (fun W h1 h2 => xw_Compact P0_ u9000_ (sortL l0) w0 W (by rw [sortL_len]; exact hl) h1 h2)
  clear hl ho0 hB h
  go_enter Tryz.func40, Tryz.ntmps40
  go_wp2_with (first | (go_at_call 61; refine hS.mono ?_; rintro e w1 ⟨rfl, h1, h2, h3⟩; have H1 := Aside0.mk h1; have H2 := Aside0.mk h2; have K1 := Aside0.mk h3; clear h1 h2 h3) | (go_at_call 62; refine (hC.out _ H1.out H2.out).mono ?_; rintro e w2 ⟨v', rfl, h1, h2, h3⟩; have H3 := Aside0.mk h1; have H4 := Aside0.mk h2; have K2 := Aside0.mk h3; clear h1 h2 h3))
  go_ret
  exact ⟨_, rfl, Kd.R_mono H3.out (fun _ hk => .inl hk), H4.out, kept_trans K1.out K2.out⟩
 ·rw [if_neg hl] at h; cases h


end Go.Proofs.YteakipdmpjlhiabGreat.Q

namespace Go.Proofs.YteakipdmpjlhiabGreat.Q
open Go.RowKit Go.Proofs.YteakipdmpjlhiabGreatW.PrintWords Go.Proofs.YteakipdmpjlhiabGreatW.PrintLast Go.Proofs.YteakipdmpjlhiabGreatW.PrintMore
attribute [local go_sem] max2_int min2_int max_two min_two max_three min_three max_four min_four bn_leq bn_gtr bn_geq   -- for this text's walks alone
set_option linter.unusedVariables false
set_option linter.unusedSimpArgs false

/-! ### impl_SquaresOf: function 12 -/
def impl_SquaresOf.l0 : Nat → ByteArray → List ByteArray → List (List Int) → Int → Int → Option (List ByteArray × Int)
 | 0, _, _, _, _, _ => none
 | k + 1, x0, x5, x15, x16, x17 => if x17 < x16 then (if 0 ≤ x17 then (if x17 < (x15.length : Int) then (if 0 < ((rd_L6 x15 x17).length : Int) then (if 1 < ((rd_L6 x15 x17).length : Int) then (if 0 ≤ (rd (rd_L6 x15 x17) 0) then (if (rd (rd_L6 x15 x17) 0) ≤ (wrap64 ((rd (rd_L6 x15 x17) 0) + (wrap64 (2 * (rd (rd_L6 x15 x17) 1))))) then (if (wrap64 ((rd (rd_L6 x15 x17) 0) + (wrap64 (2 * (rd (rd_L6 x15 x17) 1))))) ≤ (x0.size : Int) then (if x5.length < 8796093022208 then (impl_SquaresOf.l0 k x0 (x5 ++ [x0.extract ((rd (rd_L6 x15 x17) 0) : Int).toNat ((wrap64 ((rd (rd_L6 x15 x17) 0) + (wrap64 (2 * (rd (rd_L6 x15 x17) 1))))) : Int).toNat]) x15 x16 (wrap64 (x17 + 1))) else (none)) else (none)) else (none)) else (none)) else (none)) else (none)) else (none)) else (none)) else ((impl_sorted.f x5).bind fun t537 => (some (t537, 0)))
def impl_SquaresOf.f (k : Nat) (a0 : ByteArray) : Option (List ByteArray × Int) := (impl_wordCode.f () (([a0] : List ByteArray))).bind fun t526 => (if t526 = 0 then ((impl_powersIn.f k a0 2).bind fun t527 => (impl_SquaresOf.l0 k a0 ([] : List ByteArray) t527 (t527.length : Int) 0)) else (some (([] : List ByteArray), t526)))
def impl_SquaresOf.T8 : Bool × List (List Nat × List Nat) := (true, [([], []), ([], []), ([], []), ([2], [2]), ([3], [3]), ([], []), ([5], [5]), ([6], [6]), ([], []), ([8], [8]), ([9], [9]), ([10], [10]), ([7, 11], [7, 11]), ([1, 4, 12], [1, 4, 12]), ([13], [13]), ([0, 14], [0, 14]), ([15, 15, 0, 1, 2, 3, 4, 5, 6, 7, 8, 9, 10, 11, 12, 13, 14, 15], [0, 15])])
def impl_SquaresOf.B8 : List Nat := [0, 0, 0, 4, 12, 0, 32, 96, 0, 256, 768, 1792, 4064, 8190, 16382, 32767, 65535]
theorem impl_SquaresOf.tab8 : rtab .any (opsOf Tryz.f12 8) = impl_SquaresOf.T8 := by kernel_rfl
theorem impl_SquaresOf.bits8 : waitsOk impl_SquaresOf.T8.2 impl_SquaresOf.B8 = true := by kernel_rfl
set_option maxHeartbeats 8000000 in
set_option maxRecDepth 100000 in
theorem impl_SquaresOf.calls (k : Nat) (a0 : ByteArray) (r1 : List ByteArray) (r2 : Int) (w : World) (h : impl_SquaresOf.f k a0 = some (r1, r2)) :
  Calls Tryz.prog 12 #[.string a0] w fun e w' => ∃ v0_ : Value, e = .returned (.tuple #[v0_, .int .i64 r2]) ∧ Kd.R Kd.string 9 w' w.heap.size (fun _ => True) v0_ r1 ∧ Below w.heap.size w w' := by
 have HB := Aside0.mk (Below.refl w.heap.size w)
 have H : ((impl_wordCode.f () (([a0] : List ByteArray))).bind fun t526 => (if t526 = 0 then ((impl_powersIn.f k a0 2).bind fun t527 => (impl_SquaresOf.l0 k a0 ([] : List ByteArray) t527 (t527.length : Int) 0)) else (some (([] : List ByteArray), t526)))) = some (r1, r2) := h
 clear h
 obtain ⟨y523, hy523⟩ : ∃ y_ : List ByteArray, y_ = (([a0] : List ByteArray)) := ⟨_, rfl⟩
 replace H : ((impl_wordCode.f () y523).bind fun t526 => (if t526 = 0 then ((impl_powersIn.f k a0 2).bind fun t527 => (impl_SquaresOf.l0 k a0 ([] : List ByteArray) t527 (t527.length : Int) 0)) else (some (([] : List ByteArray), t526)))) = some (r1, r2) := by first | (rw [hy523]; with_reducible exact H) | (have H2_ := (Option.bind_some _ _).symm.trans H; rw [hy523]; with_reducible exact H2_) | (have H2_ := (Option.bind_some _ _).symm.trans H; with_reducible exact H2_) | with_reducible exact H | (rw [hy523]; exact H) | exact H
 have Ny523 := Aside0.mk hy523
 clear hy523
 replace H := Option.bind_eq_some_iff.mp H
 obtain ⟨t526, A20, H⟩ := H
 replace H : (if t526 = 0 then ((impl_powersIn.f k a0 2).bind fun t527 => (impl_SquaresOf.l0 k a0 ([] : List ByteArray) t527 (t527.length : Int) 0)) else (some (([] : List ByteArray), t526))) = some (r1, r2) := H
 have A2 := Aside0.mk A20
 clear A20
 by_cases c3 : t526 = 0
 ·rw [if_pos c3] at H
  have c3b0 : (t526 == 0) = true := beq_iff_eq.mpr c3
  have c3b1 : (t526 != 0) = false := bne_eq_false_iff_eq.mpr c3
  clear c3
  replace H := Option.bind_eq_some_iff.mp H
  obtain ⟨t527, A40, H⟩ := H
  replace H : (impl_SquaresOf.l0 k a0 ([] : List ByteArray) t527 (t527.length : Int) 0) = some (r1, r2) := H
  have A4 := Aside0.mk A40
  clear A40
  have H' := Aside0.mk H
  clear H
  go_enter Tryz.func12, Tryz.ntmps12
  go_wp2_with (first | ((with_reducible refine gate_dst (N := 9) rfl ?_); refine Kd.R_lit Kd.string _ 9 ?hg (N := 9) ?hd (xs := ([a0] : List ByteArray)) (inner := [.string a0]) (ok := fun _ => True) (okp := fun _ => True) ?hr ?hp (fun _ hk => hk) trivial (Below.refl _ _) (Nat.le_refl _) (by simp) ?_; (case hd => rfl); (case hg => rfl); (case hr => first | (go_simp; done) | (go_simp; rfl)); (case hp => exact (Reps.one (show Kd.M Kd.string _ _ _ a0 [.string a0] from rfl) (Reps.none _ _))); intro v524 w5 ho6 hb hg_ hnew_; clear hg_ hnew_; (first | rw [← Ny523.out] at ho6 | (simp only [Int.reduceToNat] at ho6; rw [← Ny523.out] at ho6)); have n0_ := Aside0.mk (Kd.R_lower ho6 (below_size (by repeat (first | (with_reducible first | exact HB.out | apply below_alloc | apply pw_below_drewN | apply below_drew1) | exact HB.out)))); have n1_ := Aside0.mk (below_step (by repeat (first | (with_reducible first | exact HB.out | apply below_alloc | apply pw_below_drewN | apply below_drew1) | exact HB.out)) hb); clear HB; have HO525 := n0_; have HB := n1_; clear n0_ n1_; clear hb ho6; obtain ⟨Ao7, co7, eo7⟩ := Kd.R_slice HO525.out; subst eo7) | ((with_reducible refine gate_callee (f := 27) rfl ?_); refine goesL_ (some 10) rfl rfl Tryz.func27 (by kernel_rfl) rfl #[.func (.func 28) #[] #[], .slice Ao7 y523.length co7] rfl (by (try simp only [List.map_toArray, List.map_cons, List.map_nil]); first | done | rfl | (simp only [List.length_drop, List.length_take]; rfl)) ?_; (with_reducible refine (impl_wordCode.calls () _ _ y523 t526 _ ?side1 ?side2 A2.out).mono ?_); (case side1 => repeat (first | exact (Kd.R_reads' HO525.out).2.2 | (with_reducible refine Kd.C_alloc ?_ _) | (with_reducible refine Kd.C_drewN ?_ _) | (with_reducible refine Kd.C_drew ?_))); (case side2 => exact (Kd.R_reads' HO525.out).2.1); rintro e w8 ⟨rfl, hb⟩; refine ⟨_, rfl, ?_⟩; have n0_ := Aside0.mk (Kd.R_below (by (with_reducible repeat (first | apply Kd.R_alloc | apply Kd.R_drewN | apply Kd.R_drew)); exact HO525.out) hb); have n1_ := Aside0.mk (below_step (by repeat (first | (with_reducible first | exact HB.out | apply below_alloc | apply pw_below_drewN | apply below_drew1) | exact HB.out)) hb); clear HO525; clear HB; have HO525 := n0_; have HB := n1_; clear n0_ n1_; (try clear hb); (try clear hb2); (try clear hk); (try clear hi)) | ((with_reducible refine gate_callee (f := 35) rfl ?_); refine goesL_ (some 15) rfl rfl Tryz.func35 (by kernel_rfl) rfl #[.string a0, .int .i64 2] rfl (by (try simp only [List.map_toArray, List.map_cons, List.map_nil]); first | done | rfl | (simp only [List.length_drop, List.length_take]; rfl)) ?_; (with_reducible refine (impl_powersIn.calls k a0 2 t527 _ A4.out).mono ?_); rintro e w9 ⟨v528, rfl, ho0, hb⟩; refine ⟨_, rfl, ?_⟩; have n0_ := Aside0.mk (Kd.R_below (by (with_reducible repeat (first | apply Kd.R_alloc | apply Kd.R_drewN | apply Kd.R_drew)); exact HO525.out) hb); have n1_ := Aside0.mk (Kd.S_lower ho0 (below_size (by repeat (first | (with_reducible first | exact HB.out | apply below_alloc | apply pw_below_drewN | apply below_drew1) | exact HB.out)))); have n2_ := Aside0.mk (below_step (by repeat (first | (with_reducible first | exact HB.out | apply below_alloc | apply pw_below_drewN | apply below_drew1) | exact HB.out)) hb); clear HO525; clear HB; have HO525 := n0_; have HO529 := n1_; have HB := n2_; clear n0_ n1_ n2_; (try clear hb); (try clear hb2); (try clear hk); (try clear hi); (try clear ho0); obtain ⟨Ao10, co10, eo10⟩ := Kd.S_slice HO529.out; subst eo10))
  go_loopg [5, 17] k (fun kq v5 v17 w' => ∃ (x5_1 : List ByteArray) (x17_1 : Int), v17 = .int .i64 x17_1 ∧ Aside0 (impl_SquaresOf.l0 kq a0 x5_1 t527 (t527.length : Int) x17_1 = some (r1, r2)) ∧ Aside0 (kq ≤ k) ∧ Aside0 (Kd.R Kd.string 9 w' w.heap.size (fun _ => True) v5 x5_1) ∧ Aside0 (Kd.S (Kd.slice 2 (Kd.int .i64)) 42 w' w.heap.size (fun _ => True) (.slice Ao10 t527.length co10) t527) ∧ Aside0 (Below w.heap.size w w'))
  case atStart => exact ⟨(([] : List ByteArray)), (0), (by first | rfl | (simp; done) | (simp [*]; done)), H', ⟨Nat.le_refl _⟩, ⟨by first | exact Kd.R_nil _ _ _ _ _ | exact Kd.N_nil _ _ _ _ _ | exact Kd.V_nil _ _ _ _ _ | exact Kd.Q_nil _ _ _ _ _ | exact Kd.S_nil _ _ _ _ _⟩, ⟨by (with_reducible repeat (first | apply Kd.S_alloc | apply Kd.S_drewN | apply Kd.S_drew)); exact HO529.out⟩, ⟨by repeat (first | (with_reducible first | exact HB.out | apply below_alloc | apply pw_below_drewN | apply below_drew1) | exact HB.out)⟩⟩
  case round =>
   clear H'
   try clear c1
   try clear c2
   try clear p2
   try clear c3
   try clear c3b0
   try clear c3b1
   obtain ⟨x5_1, x17_1, rfl, HA, HK1, HO_5, HO_15, HB⟩ := hrel
   cases gk with
   | zero => exact absurd HA.out (by simp [impl_SquaresOf.l0])
   | succ k1 =>
    have H := HA.out
    clear HA
    simp only [impl_SquaresOf.l0] at H
    by_cases c11 : x17_1 < (t527.length : Int)
    ·rw [if_pos c11] at H
     have c11b0 : decide (x17_1 < (t527.length : Int)) = true := decide_eq_true c11
     clear c11
     by_cases c12 : 0 ≤ x17_1
     ·rw [if_pos c12] at H
      have c12b0 : decide (0 ≤ x17_1) = true := decide_eq_true c12
      clear c12
      by_cases c13 : x17_1 < (t527.length : Int)
      ·rw [if_pos c13] at H
       have c13b0 : decide (x17_1 < (t527.length : Int)) = true := decide_eq_true c13
       clear c13
       by_cases c14 : 0 < ((rd_L6 t527 x17_1).length : Int)
       ·rw [if_pos c14] at H
        have c14b0 : decide (0 < ((rd_L6 t527 x17_1).length : Int)) = true := decide_eq_true c14
        have c14b1 : decide (0 < (rd_L6 t527 x17_1).length) = true := decide_eq_true (by omega)
        clear c14
        by_cases c15 : 1 < ((rd_L6 t527 x17_1).length : Int)
        ·rw [if_pos c15] at H
         have c15b0 : decide (1 < ((rd_L6 t527 x17_1).length : Int)) = true := decide_eq_true c15
         have c15b1 : decide (1 < (rd_L6 t527 x17_1).length) = true := decide_eq_true (by omega)
         clear c15
         by_cases c16 : 0 ≤ (rd (rd_L6 t527 x17_1) 0)
         ·rw [if_pos c16] at H
          have c16b0 := eq_true c16
          have c16b1 : decide (0 ≤ (rd (rd_L6 t527 x17_1) 0)) = true := decide_eq_true c16
          clear c16
          by_cases c17 : (rd (rd_L6 t527 x17_1) 0) ≤ (wrap64 ((rd (rd_L6 t527 x17_1) 0) + (wrap64 (2 * (rd (rd_L6 t527 x17_1) 1)))))
          ·rw [if_pos c17] at H
           have c17b0 := eq_true c17
           have c17b1 : decide ((rd (rd_L6 t527 x17_1) 0) ≤ (wrap64 ((rd (rd_L6 t527 x17_1) 0) + (wrap64 (2 * (rd (rd_L6 t527 x17_1) 1)))))) = true := decide_eq_true c17
           by_cases c18 : (wrap64 ((rd (rd_L6 t527 x17_1) 0) + (wrap64 (2 * (rd (rd_L6 t527 x17_1) 1))))) ≤ (a0.size : Int)
           ·rw [if_pos c18] at H
            have c18b0 := eq_true c18
            have c18b1 : decide ((wrap64 ((rd (rd_L6 t527 x17_1) 0) + (wrap64 (2 * (rd (rd_L6 t527 x17_1) 1))))) ≤ (a0.size : Int)) = true := decide_eq_true c18
            by_cases c19 : x5_1.length < 8796093022208
            ·rw [if_pos c19] at H
             have LMc19 := Aside0.mk c19
             clear c19
             obtain ⟨y534, hy534⟩ : ∃ y_ : List ByteArray, y_ = (x5_1 ++ [a0.extract ((rd (rd_L6 t527 x17_1) 0) : Int).toNat ((wrap64 ((rd (rd_L6 t527 x17_1) 0) + (wrap64 (2 * (rd (rd_L6 t527 x17_1) 1))))) : Int).toNat]) := ⟨_, rfl⟩
             replace H : (impl_SquaresOf.l0 k1 a0 y534 t527 (t527.length : Int) (wrap64 (x17_1 + 1))) = some (r1, r2) := by first | (rw [hy534]; with_reducible exact H) | (have H2_ := (Option.bind_some _ _).symm.trans H; rw [hy534]; with_reducible exact H2_) | (have H2_ := (Option.bind_some _ _).symm.trans H; with_reducible exact H2_) | with_reducible exact H | (rw [hy534]; exact H) | exact H
             have Ny534 := Aside0.mk hy534
             clear hy534
             have H' := Aside0.mk H
             clear H
             have p530 : 0 ≤ (x17_1 : Int) := of_decide_eq_true (by first | (with_reducible assumption) | assumption)
             have q530 : x17_1 < (t527.length : Int) := of_decide_eq_true (by first | (with_reducible assumption) | assumption)
             obtain ⟨ad530, A530_0, c530_0, e530, hx530_0, hl530_0, hi530_0⟩ := at_L6 (Kd.S_reads' HO_15.out).2.2 x17_1 p530 q530
             cases e530
             obtain ⟨ce530, hce530, hMe530, hcc530⟩ := Kd.S_get HO_15.out [] x17_1 p530 (by first | exact q530 | exact of_decide_eq_true (by first | (with_reducible assumption) | assumption) | (have e_ := (Kd.S_reads' HO_15.out).1; omega))
             obtain ⟨ve530_0, rfl, ge530_0⟩ := hMe530
             have hv530_0 := hcc530 0 _ rfl
             rw [Nat.add_zero, show ((Kd.slice 2 (Kd.int .i64))).sz = 1 from rfl, Nat.mul_one] at hv530_0
             replace hv530_0 := Option.some.inj (hv530_0.symm.trans hx530_0)
             rw [hv530_0] at ge530_0
             have HL530_0 := Aside0.mk (show Kd.R (Kd.int .i64) 2 _ _ _ _ (rd_L6 t527 x17_1) from ge530_0)
             clear hv530_0 ge530_0
             clear hcc530 hce530
             have HR530_0 := Aside0.mk hi530_0
             have HC530_0 := Aside0.mk hl530_0
             clear hi530_0 hl530_0
             replace p530 := eq_true p530
             replace q530 := eq_true q530
             try go_wp2
             have n0_ := Aside0.mk (Kd.R_drew HO_5.out)
             have n1_ := Aside0.mk (Kd.S_drew HO_15.out)
             have n2_ := Aside0.mk (Kd.R_drew HL530_0.out)
             have n3_ := Aside0.mk (Kd.C_drew HR530_0.out)
             have n4_ := Aside0.mk (below_drew1 HB.out)
             clear HO_5
             clear HO_15
             clear HL530_0
             clear HR530_0
             clear HB
             have HO_5 := n0_
             have HO_15 := n1_
             have HL530_0 := n2_
             have HR530_0 := n3_
             have HB := n4_
             clear n0_ n1_ n2_ n3_ n4_
             have p531 : 0 ≤ (0 : Int) := (by omega)
             have q531 : 0 < ((rd_L6 t527 x17_1).length : Int) := of_decide_eq_true (by first | (with_reducible assumption) | assumption)
             obtain ⟨ad531, e531, hx531_0⟩ := Kd.at_int (by repeat (first | (with_reducible exact HR530_0.out) | (with_reducible refine Kd.C_alloc ?_ _) | (with_reducible refine Kd.C_drewN ?_ _) | (with_reducible refine Kd.C_drew ?_) | exact HR530_0.out)) 0 p531 q531
             cases e531
             have qi531 : (0 < (rd_L6 t527 x17_1).length) = True := eq_true (by omega)
             (try rw [show ((0 : Int)).toNat = 0 from rfl] at hx531_0)
             (try rw [Addr.add_zero'] at hx531_0)
             replace p531 := eq_true p531
             replace q531 := eq_true q531
             have p532 : 0 ≤ (0 : Int) := (by omega)
             have q532 : 0 < ((rd_L6 t527 x17_1).length : Int) := of_decide_eq_true (by first | (with_reducible assumption) | assumption)
             obtain ⟨ad532, e532, hx532_0⟩ := Kd.at_int (by repeat (first | (with_reducible exact HR530_0.out) | (with_reducible refine Kd.C_alloc ?_ _) | (with_reducible refine Kd.C_drewN ?_ _) | (with_reducible refine Kd.C_drew ?_) | exact HR530_0.out)) 0 p532 q532
             obtain rfl : ad531 = ad532 := (by injection e532)
             have qi532 : (0 < (rd_L6 t527 x17_1).length) = True := eq_true (by omega)
             (try rw [show ((0 : Int)).toNat = 0 from rfl] at hx532_0)
             (try rw [Addr.add_zero'] at hx532_0)
             replace p532 := eq_true p532
             replace q532 := eq_true q532
             have p533 : 0 ≤ (1 : Int) := (by omega)
             have q533 : 1 < ((rd_L6 t527 x17_1).length : Int) := of_decide_eq_true (by first | (with_reducible assumption) | assumption)
             obtain ⟨ad533, e533, hx533_0⟩ := Kd.at_int (by repeat (first | (with_reducible exact HR530_0.out) | (with_reducible refine Kd.C_alloc ?_ _) | (with_reducible refine Kd.C_drewN ?_ _) | (with_reducible refine Kd.C_drew ?_) | exact HR530_0.out)) 1 p533 q533
             obtain rfl : ad531 = ad533 := (by injection e533)
             (try simp only [show (1 : Int).toNat = 1 from rfl, Nat.reduceMul, Nat.reduceEqDiff, Go.Addr.add, ↓reduceIte] at hx533_0)
             have qi533 : (1 < (rd_L6 t527 x17_1).length) = True := eq_true (by omega)
             (try rw [show ((1 : Int)).toNat = 1 from rfl] at hx533_0)
             replace p533 := eq_true p533
             replace q533 := eq_true q533
             refine start_ (n := 17) (S := fun w' => w'.cell? ad531 = some (.int .i64 (rd (rd_L6 t527 x17_1) 0)) ∧ w'.cell? ad531 = some (.int .i64 (rd (rd_L6 t527 x17_1) 0)) ∧ w'.cell? ⟨ad531.block, ad531.off + 1, none⟩ = some (.int .i64 (rd (rd_L6 t527 x17_1) 1))) (ds := [14, 15]) #[false, false, false, false, false, false, false, false, false, false, false, false, false, false, false, false, false] (by kernel_rfl) rfl rfl ⟨hx531_0, hx532_0, hx533_0⟩ (fun hHeld => ?_); refine with_tabW impl_SquaresOf.tab8 impl_SquaresOf.bits8 (fun HT_ HW_ => ?_)
             generalize wr.drew = w20 at HO_5 HO_15 HL530_0 HR530_0 HB hx531_0 hx532_0 hx533_0 hHeld ⊢
             refine pure_ (i := 0) (N := some 21) (v := ?_) (a' := ?_) #[true, false, false, false, false, false, false, false, false, false, false, false, false, false, false, false, false] rfl rfl (any_of HT_.out (by kernel_rfl)) (fun _ _ _ h => h) (Or.inl ⟨by rfl, ?_⟩) ?_ ?_
             rotate_left
             ·intro w'
              go_simp
              with_reducible rfl
             rotate_left
             ·simp only [Act.put, List.setIfInBounds_toArray, List.set_cons_zero, List.set_cons_succ, i64_w, i32_w]
              rfl
             refine pure_ (i := 1) (N := some 22) (v := ?_) (a' := ?_) #[true, true, false, false, false, false, false, false, false, false, false, false, false, false, false, false, false] rfl rfl (any_of HT_.out (by kernel_rfl)) (fun _ _ _ h => h) (Or.inl ⟨by rfl, ?_⟩) ?_ ?_
             rotate_left
             ·intro w'
              go_simp
              with_reducible rfl
             rotate_left
             ·simp only [Act.put, List.setIfInBounds_toArray, List.set_cons_zero, List.set_cons_succ, i64_w, i32_w]
              rfl
             refine pure_ (i := 2) (N := some 23) (v := ?_) (a' := ?_) #[true, true, true, false, false, false, false, false, false, false, false, false, false, false, false, false, false] rfl rfl (any_of HT_.out (by kernel_rfl)) (fun _ _ _ h => h) (Or.inl ⟨by rfl, ?_⟩) ?_ ?_
             rotate_left
             ·intro w'
              go_simp
              with_reducible rfl
             rotate_left
             ·simp only [Act.put, List.setIfInBounds_toArray, List.set_cons_zero, List.set_cons_succ, i64_w, i32_w]
              rfl
             refine pure_ (i := 3) (N := some 24) (v := ?_) (a' := ?_) #[true, true, true, true, false, false, false, false, false, false, false, false, false, false, false, false, false] rfl rfl (any_of HT_.out (by kernel_rfl)) (fun _ _ _ h => h) (Or.inl ⟨by rfl, ?_⟩) ?_ ?_
             rotate_left
             ·intro w'
              go_simp
              with_reducible rfl
             rotate_left
             ·simp only [Act.put, List.setIfInBounds_toArray, List.set_cons_zero, List.set_cons_succ, i64_w, i32_w]
              rfl
             refine pure_ (i := 5) (N := some 26) (v := ?_) (a' := ?_) #[true, true, true, true, false, true, false, false, false, false, false, false, false, false, false, false, false] rfl rfl (any_of HT_.out (by kernel_rfl)) (fun _ _ _ h => h) (Or.inl ⟨by rfl, ?_⟩) ?_ ?_
             rotate_left
             ·intro w'
              go_simp
              with_reducible rfl
             rotate_left
             ·simp only [Act.put, List.setIfInBounds_toArray, List.set_cons_zero, List.set_cons_succ, i64_w, i32_w]
              rfl
             refine pure_ (i := 6) (N := some 27) (v := ?_) (a' := ?_) #[true, true, true, true, false, true, true, false, false, false, false, false, false, false, false, false, false] rfl rfl (any_of HT_.out (by kernel_rfl)) (fun _ _ _ h => h) (Or.inl ⟨by rfl, ?_⟩) ?_ ?_
             rotate_left
             ·intro w'
              go_simp
              with_reducible rfl
             rotate_left
             ·simp only [Act.put, List.setIfInBounds_toArray, List.set_cons_zero, List.set_cons_succ, i64_w, i32_w]
              rfl
             refine pure_ (i := 8) (N := some 29) (v := ?_) (a' := ?_) #[true, true, true, true, false, true, true, false, true, false, false, false, false, false, false, false, false] rfl rfl (any_of HT_.out (by kernel_rfl)) (fun _ _ _ h => h) (Or.inl ⟨by rfl, ?_⟩) ?_ ?_
             rotate_left
             ·intro w'
              go_simp
              with_reducible rfl
             rotate_left
             ·simp only [Act.put, List.setIfInBounds_toArray, List.set_cons_zero, List.set_cons_succ, i64_w, i32_w]
              rfl
             refine pure_ (i := 9) (N := some 30) (v := ?_) (a' := ?_) #[true, true, true, true, false, true, true, false, true, true, false, false, false, false, false, false, false] rfl rfl (any_of HT_.out (by kernel_rfl)) (fun _ _ _ h => h) (Or.inl ⟨by rfl, ?_⟩) ?_ ?_
             rotate_left
             ·intro w'
              go_simp
              with_reducible rfl
             rotate_left
             ·simp only [Act.put, List.setIfInBounds_toArray, List.set_cons_zero, List.set_cons_succ, i64_w, i32_w]
              rfl
             refine take_ (i := 4) (N := some 25) (v := ?_) (a' := ?_) #[true, true, true, true, true, true, true, false, true, true, false, false, false, false, false, false, false] rfl rfl (take_ofW HT_.out HW_.out (by kernel_rfl)) (fun _ _ _ h => h) (Or.inl ⟨by rfl, ?_⟩) hHeld ?_ ?_
             rotate_left
             ·rintro w' ⟨s0, s1, s2⟩
              go_simp
              with_reducible rfl
             rotate_left
             ·simp only [Act.put, List.setIfInBounds_toArray, List.set_cons_zero, List.set_cons_succ, i64_w, i32_w]
              rfl
             refine take_ (i := 7) (N := some 28) (v := ?_) (a' := ?_) #[true, true, true, true, true, true, true, true, true, true, false, false, false, false, false, false, false] rfl rfl (take_ofW HT_.out HW_.out (by kernel_rfl)) (fun _ _ _ h => h) (Or.inl ⟨by rfl, ?_⟩) hHeld ?_ ?_
             rotate_left
             ·rintro w' ⟨s0, s1, s2⟩
              go_simp
              with_reducible rfl
             rotate_left
             ·simp only [Act.put, List.setIfInBounds_toArray, List.set_cons_zero, List.set_cons_succ, i64_w, i32_w]
              rfl
             refine take_ (i := 10) (N := some 31) (v := ?_) (a' := ?_) #[true, true, true, true, true, true, true, true, true, true, true, false, false, false, false, false, false] rfl rfl (take_ofW HT_.out HW_.out (by kernel_rfl)) (fun _ _ _ h => h) (Or.inl ⟨by rfl, ?_⟩) hHeld ?_ ?_
             rotate_left
             ·rintro w' ⟨s0, s1, s2⟩
              go_simp
              with_reducible rfl
             rotate_left
             ·simp only [Act.put, List.setIfInBounds_toArray, List.set_cons_zero, List.set_cons_succ, i64_w, i32_w]
              rfl
             refine pure_ (i := 11) (N := some 32) (v := ?_) (a' := ?_) #[true, true, true, true, true, true, true, true, true, true, true, true, false, false, false, false, false] rfl rfl (any_of HT_.out (by kernel_rfl)) (fun _ _ _ h => h) (Or.inl ⟨by rfl, ?_⟩) ?_ ?_
             rotate_left
             ·intro w'
              go_simp
              with_reducible rfl
             rotate_left
             ·simp only [Act.put, List.setIfInBounds_toArray, List.set_cons_zero, List.set_cons_succ, i64_w, i32_w]
              rfl
             refine pure_ (i := 12) (N := some 33) (v := ?_) (a' := ?_) #[true, true, true, true, true, true, true, true, true, true, true, true, true, false, false, false, false] rfl rfl (any_of HT_.out (by kernel_rfl)) (fun _ _ _ h => h) (Or.inl ⟨by rfl, ?_⟩) ?_ ?_
             rotate_left
             ·intro w'
              go_simp
              with_reducible rfl
             rotate_left
             ·simp only [Act.put, List.setIfInBounds_toArray, List.set_cons_zero, List.set_cons_succ, i64_w, i32_w]
              rfl
             refine pure_ (i := 13) (N := some 34) (v := ?_) (a' := ?_) #[true, true, true, true, true, true, true, true, true, true, true, true, true, true, false, false, false] rfl rfl (any_of HT_.out (by kernel_rfl)) (fun _ _ _ h => h) (Or.inl ⟨by rfl, ?_⟩) ?_ ?_
             rotate_left
             ·intro w'
              go_simp
              with_reducible rfl
             rotate_left
             ·simp only [Act.put, List.setIfInBounds_toArray, List.set_cons_zero, List.set_cons_succ, i64_w, i32_w]
              rfl
             refine last_ (i := 14) (N := some 35) #[true, true, true, true, true, true, true, true, true, true, true, true, true, true, true, false, false] rfl rfl (one_of HT_.out (by kernel_rfl)) (by decide) (fun K hK => ?_)
             refine value_ (w1 := ?_) (v := ?_) (by rfl) rfl ?_ ?_
             rotate_left 2
             ·go_simp
              constructor
              ·rfl
              ·rfl
             refine hK.out _ _ ?_
             clear hK K
             refine norm_ (a' := ?_) ?_ ?_
             rotate_left
             ·show Act.put _ (some 35) _ = _
              simp only [Act.put, List.setIfInBounds_toArray, List.set_cons_zero, List.set_cons_succ, i64_w, i32_w]
              rfl
             refine last_ (i := 15) (N := some 36) #[true, true, true, true, true, true, true, true, true, true, true, true, true, true, true, true, false] rfl rfl (one_of HT_.out (by kernel_rfl)) (by decide) (fun K hK => ?_)
             refine Kd.R_append_step Kd.string (w0 := w) w.heap.size (by rfl) (.tmp 21) (.tmp 35) 32 9 (.string ⟨#[]⟩) 16 rfl Tryz.underlying32 info9 rfl (by decide) (by omega) u5 x5_1 (a0.extract ((rd (rd_L6 t527 x17_1) 0) : Int).toNat ((wrap64 ((rd (rd_L6 t527 x17_1) 0) + (wrap64 (2 * (rd (rd_L6 t527 x17_1) 1))))) : Int).toNat) [.string (a0.extract ((rd (rd_L6 t527 x17_1) 0) : Int).toNat ((wrap64 ((rd (rd_L6 t527 x17_1) 0) + (wrap64 (2 * (rd (rd_L6 t527 x17_1) 1))))) : Int).toNat)] (fun _ => True) (fun _ => False) rfl rfl ?aP (fun _ hk => hk.elim) ?aF ?aO ?aB ?aS ?aL ?_
             (case aP => exact rfl)
             (case aB => exact (by repeat (first | (with_reducible first | exact HB.out | apply below_alloc | apply pw_below_drewN | apply below_drew1) | exact HB.out)))
             (case aF => exact (fun _ _ => trivial))
             (case aO => exact (by (with_reducible repeat (first | apply Kd.R_alloc | apply Kd.R_drewN | apply Kd.R_drew)); exact HO_5.out))
             (case aS => exact (below_size (by repeat (first | (with_reducible first | exact HB.out | apply below_alloc | apply pw_below_drewN | apply below_drew1) | exact HB.out))))
             (case aL => have := LMc19.out; omega)
             intro v535 w21 ho hb hg hat
             rw [← Ny534.out] at ho
             have n0_ := Aside0.mk (Kd.S_over' (by (with_reducible repeat (first | apply Kd.S_alloc | apply Kd.S_drewN | apply Kd.S_drew)); exact HO_15.out) (Kd.R_typed (by (with_reducible repeat (first | apply Kd.R_alloc | apply Kd.R_drewN | apply Kd.R_drew)); exact HO_5.out)) (by decide) hg)
             have n1_ := Aside0.mk (Kd.R_over' (by (with_reducible repeat (first | apply Kd.R_alloc | apply Kd.R_drewN | apply Kd.R_drew)); exact HL530_0.out) (Kd.R_typed (by (with_reducible repeat (first | apply Kd.R_alloc | apply Kd.R_drewN | apply Kd.R_drew)); exact HO_5.out)) (by decide) hg)
             have n2_ := Aside0.mk (hb)
             have n3_ := Aside0.mk (ho)
             clear HO_15
             clear HL530_0
             clear HB
             clear HO_5
             have HO_15 := n0_
             have HL530_0 := n1_
             have HB := n2_
             have HO536 := n3_
             clear n0_ n1_ n2_ n3_
             clear ho hb hg hat
             refine hK.out _ _ ?_
             clear hK K
             refine norm_ (a' := ?_) ?_ ?_
             rotate_left
             ·show Act.put _ (some 36) _ = _
              simp only [Act.put, List.setIfInBounds_toArray, List.set_cons_zero, List.set_cons_succ, i64_w, i32_w]
              rfl
             refine pure_ (i := 16) (N := some 5) (v := ?_) (a' := ?_) #[true, true, true, true, true, true, true, true, true, true, true, true, true, true, true, true, true] rfl rfl (any_of HT_.out (by kernel_rfl)) (fun _ _ _ h => h) (Or.inl ⟨by rfl, ?_⟩) ?_ ?_
             rotate_left
             ·intro w'
              go_simp
              with_reducible rfl
             rotate_left
             ·simp only [Act.put, List.setIfInBounds_toArray, List.set_cons_zero, List.set_cons_succ, i64_w, i32_w]
              rfl
             refine done_ (done_of HT_.out (by kernel_rfl)) ?_
             try go_wp2
             go_roundg k1
             case measure => have := HK1.out; omega
             case rel => exact ⟨(y534), (wrap64 (x17_1 + 1)), (by first | rfl | (simp; done) | (simp [*]; done)), H', ⟨by have := HK1.out; omega⟩, ⟨by (with_reducible repeat (first | apply Kd.R_alloc | apply Kd.R_drewN | apply Kd.R_drew)); exact HO536.out⟩, ⟨by (with_reducible repeat (first | apply Kd.S_alloc | apply Kd.S_drewN | apply Kd.S_drew)); exact HO_15.out⟩, ⟨by repeat (first | (with_reducible first | exact HB.out | apply below_alloc | apply pw_below_drewN | apply below_drew1) | exact HB.out)⟩⟩
            ·rw [if_neg c19] at H
             exact absurd H (by simp)
           ·rw [if_neg c18] at H
            exact absurd H (by simp)
          ·rw [if_neg c17] at H
           exact absurd H (by simp)
         ·rw [if_neg c16] at H
          exact absurd H (by simp)
        ·rw [if_neg c15] at H
         exact absurd H (by simp)
       ·rw [if_neg c14] at H
        exact absurd H (by simp)
      ·rw [if_neg c13] at H
       exact absurd H (by simp)
     ·rw [if_neg c12] at H
      exact absurd H (by simp)
    ·rw [if_neg c11] at H
     have c11b0 : decide (x17_1 < (t527.length : Int)) = false := decide_eq_false c11
     clear c11
     replace H := Option.bind_eq_some_iff.mp H
     obtain ⟨t537, A220, H⟩ := H
     replace H : (some (t537, 0)) = some (r1, r2) := H
     have A22 := Aside0.mk A220
     clear A220
     simp only [Option.some.injEq, Prod.mk.injEq] at H
     obtain ⟨rfl, rfl⟩ := H
     obtain ⟨Ao23, co23, eo23⟩ := Kd.R_slice HO_5.out
     subst eo23
     go_wp2_with (first | ((with_reducible refine gate_callee (f := 40) rfl ?_); refine goesL_ (some 39) rfl rfl Tryz.func40 (by kernel_rfl) rfl #[.slice Ao23 x5_1.length co23] rfl (by (try simp only [List.map_toArray, List.map_cons, List.map_nil]); first | done | rfl | (simp only [List.length_drop, List.length_take]; rfl)) ?_; (with_reducible refine (impl_sorted.calls (fun k_ => some k_ = (.slice Ao23 x5_1.length co23 : Value).ownBlock) (.slice Ao23 x5_1.length co23) x5_1 t537 w _ ?side1 ?side2 A22.out).mono ?_); (case side1 => repeat (first | (with_reducible first | exact HB.out | apply below_alloc | apply pw_below_drewN | apply below_drew1) | exact HB.out)); (case side2 => exact Kd.R_tight rfl HO_5.out); rintro e w24 ⟨v538, rfl, ho0, hb, hkp⟩; refine ⟨_, rfl, ?_⟩; have n0_ := Aside0.mk (Kd.S_mono (ok' := fun k_ => True) (Kd.S_keptB ((Kd.S_apart' HO_15.out (Kd.R_typed HO_5.out) (by decide))) hkp (fun k_ hk_ hs_ => (hk_.2) hs_)) (fun k_ hk_ => trivial)); have n1_ := Aside0.mk (Kd.R_mono (ok' := fun k_ => True) ho0 (fun k_ hk_ => trivial)); have n2_ := Aside0.mk (hb); clear HO_15; clear HB; clear HO_5; have HO_15 := n0_; have HO539 := n1_; have HB := n2_; clear n0_ n1_ n2_; (try clear hb); (try clear hkp); (try clear ho0)))
     go_ret2
     exact ⟨_, by first | rfl | (simp [errW_none, errW_some] <;> rfl) | (simp [*, errW_none, errW_some] <;> rfl), by (with_reducible repeat (first | apply Kd.R_alloc | apply Kd.R_drewN | apply Kd.R_drew)); exact HO539.out, by repeat (first | (with_reducible first | exact HB.out | apply below_alloc | apply pw_below_drewN | apply below_drew1) | exact HB.out)⟩
 ·rw [if_neg c3] at H
  have c3b0 : (t526 == 0) = false := beq_eq_false_iff_ne.mpr c3
  have c3b1 : (t526 != 0) = true := bne_iff_ne.mpr c3
  simp only [Option.some.injEq, Prod.mk.injEq] at H
  obtain ⟨rfl, rfl⟩ := H
  go_enter Tryz.func12, Tryz.ntmps12
  go_wp2_with (first | ((with_reducible refine gate_dst (N := 9) rfl ?_); refine Kd.R_lit Kd.string _ 9 ?hg (N := 9) ?hd (xs := ([a0] : List ByteArray)) (inner := [.string a0]) (ok := fun _ => True) (okp := fun _ => True) ?hr ?hp (fun _ hk => hk) trivial (Below.refl _ _) (Nat.le_refl _) (by simp) ?_; (case hd => rfl); (case hg => rfl); (case hr => first | (go_simp; done) | (go_simp; rfl)); (case hp => exact (Reps.one (show Kd.M Kd.string _ _ _ a0 [.string a0] from rfl) (Reps.none _ _))); intro v524 w25 ho26 hb hg_ hnew_; clear hg_ hnew_; (first | rw [← Ny523.out] at ho26 | (simp only [Int.reduceToNat] at ho26; rw [← Ny523.out] at ho26)); have n0_ := Aside0.mk (Kd.R_lower ho26 (below_size (by repeat (first | (with_reducible first | exact HB.out | apply below_alloc | apply pw_below_drewN | apply below_drew1) | exact HB.out)))); have n1_ := Aside0.mk (below_step (by repeat (first | (with_reducible first | exact HB.out | apply below_alloc | apply pw_below_drewN | apply below_drew1) | exact HB.out)) hb); clear HB; have HO525 := n0_; have HB := n1_; clear n0_ n1_; clear hb ho26; obtain ⟨Ao27, co27, eo27⟩ := Kd.R_slice HO525.out; subst eo27) | ((with_reducible refine gate_callee (f := 27) rfl ?_); refine goesL_ (some 10) rfl rfl Tryz.func27 (by kernel_rfl) rfl #[.func (.func 28) #[] #[], .slice Ao27 y523.length co27] rfl (by (try simp only [List.map_toArray, List.map_cons, List.map_nil]); first | done | rfl | (simp only [List.length_drop, List.length_take]; rfl)) ?_; (with_reducible refine (impl_wordCode.calls () _ _ y523 t526 _ ?side1 ?side2 A2.out).mono ?_); (case side1 => repeat (first | exact (Kd.R_reads' HO525.out).2.2 | (with_reducible refine Kd.C_alloc ?_ _) | (with_reducible refine Kd.C_drewN ?_ _) | (with_reducible refine Kd.C_drew ?_))); (case side2 => exact (Kd.R_reads' HO525.out).2.1); rintro e w28 ⟨rfl, hb⟩; refine ⟨_, rfl, ?_⟩; have n0_ := Aside0.mk (Kd.R_below (by (with_reducible repeat (first | apply Kd.R_alloc | apply Kd.R_drewN | apply Kd.R_drew)); exact HO525.out) hb); have n1_ := Aside0.mk (below_step (by repeat (first | (with_reducible first | exact HB.out | apply below_alloc | apply pw_below_drewN | apply below_drew1) | exact HB.out)) hb); clear HO525; clear HB; have HO525 := n0_; have HB := n1_; clear n0_ n1_; (try clear hb); (try clear hb2); (try clear hk); (try clear hi)))
  go_ret2
  exact ⟨_, by first | rfl | (simp [errW_none, errW_some] <;> rfl) | (simp [*, errW_none, errW_some] <;> rfl), by first | exact Kd.R_nil _ _ _ _ _ | exact Kd.N_nil _ _ _ _ _ | exact Kd.V_nil _ _ _ _ _ | exact Kd.Q_nil _ _ _ _ _ | exact Kd.S_nil _ _ _ _ _, by repeat (first | (with_reducible first | exact HB.out | apply below_alloc | apply pw_below_drewN | apply below_drew1) | exact HB.out)⟩

end Go.Proofs.YteakipdmpjlhiabGreat.Q
