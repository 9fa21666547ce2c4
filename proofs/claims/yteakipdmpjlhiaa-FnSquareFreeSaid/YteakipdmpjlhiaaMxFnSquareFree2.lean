-- Printed texts of this session, joined by merge.py.
import Derived.Test.YteakipdmpjlhiaaQx0
import Derived.Test.YteakipdmpjlhiaaMxFnSquareFree1
import Derived.Test.YteakipdmpjlhiaaMxFnSquareFree0
import Derived.Test.YteakipdmpjlhiaaProg
import Derived.Below
import Derived.Deep.Draws
import Derived.Deep.AppendLies
import Derived.Maps.AppendAt
import Derived.OwnWalk
import Derived.Laws.BytesArg
import Derived.Laws.MakeOwn
import Derived.Laws.OwnMore
import Derived.Deep.OwnRows
import Derived.Tactics
import Derived.Lib.ConvBytes
import Derived.Laws.Slices
import Derived.WalkKit
import Derived.KernelRfl
import Derived.RowKit3
import Derived.Deep.LoopGhost
import Derived.Deep.QuietTactic
import Derived.BigQuiet
import Derived.WideLaws
import Derived.Deep.DeepCutAuto
import Derived.Deep.CutBlock
import Derived.Deep.RegionHeld3
import Derived.Laws.Rows
import Derived.Lib.AppendStr
import Derived.ArgAppend
import Derived.Laws.IdiomCopy
import Derived.OrdersHeld
import Derived.Laws.BitsLemmas
import Derived.RowKit
import Derived.Test.YteakipdmpjlhiaaBase
import Derived.Test.YteakipdmpjlhiaaWWords
import Derived.Test.YteakipdmpjlhiaaWLast
import Derived.Test.YteakipdmpjlhiaaWTab
import Derived.Test.YteakipdmpjlhiaaWFour
import Derived.Test.YteakipdmpjlhiaaWQPut
import Derived.Test.YteakipdmpjlhiaaWApart
import Derived.Test.YteakipdmpjlhiaaWArr
import Derived.Test.YteakipdmpjlhiaaWZeros
import Derived.Test.YteakipdmpjlhiaaWFoot
import Derived.Test.YteakipdmpjlhiaaWKept
import Derived.Test.YteakipdmpjlhiaaWShare
import Derived.Test.YteakipdmpjlhiaaWN
import Derived.Test.YteakipdmpjlhiaaWFootNe
import Derived.Test.YteakipdmpjlhiaaWAt
import Derived.Test.YteakipdmpjlhiaaWEqStruct
import Derived.Test.YteakipdmpjlhiaaWRepsOne
import Derived.Test.YteakipdmpjlhiaaWInv
import Derived.Test.YteakipdmpjlhiaaWInvWords
import Derived.Test.YteakipdmpjlhiaaWGuard
import Derived.Test.YteakipdmpjlhiaaWNEv
import Derived.Test.YteakipdmpjlhiaaWMore
namespace Go.Proofs.Yteakipdmpjlhiaa.Q
open Go.RowKit Go.Proofs.YteakipdmpjlhiaaW.PrintWords Go.Proofs.YteakipdmpjlhiaaW.PrintLast Go.Proofs.YteakipdmpjlhiaaW.PrintMore
attribute [local go_sem] max2_int min2_int max_two min_two max_three min_three max_four min_four bn_leq bn_gtr bn_geq   -- for this text's walks alone
set_option linter.unusedVariables false
set_option linter.unusedSimpArgs false

/-! ### spec_LettersNext: function 7 -/
mutual
def spec_LettersNext.l0 : Nat → ByteArray → Int → List Int → Int → Option (List Int × Int)
 | 0, _, _, _, _ => none
 | k + 1, x0, x1, x9, x10 => if x10 < x1 then (spec_LettersNext.j1 k x0 x1 x9 x10 (decide ((x0.size : Int) < 60))) else (spec_LettersNext.j1 k x0 x1 x9 x10 false)
def spec_LettersNext.j1 : Nat → ByteArray → Int → List Int → Int → Bool → Option (List Int × Int)
 | 0, _, _, _, _, _ => none
 | k + 1, x0, x1, x9, x10, x38 => if x38 = true then ((spec_l01Letter.f x10).bind fun t346 => (if x0.size + t346.size ≤ 9223372036854775807 then ((spec_l03First.f k (x0 ++ t346) ((x0.size : Int) + (t346.size : Int))).bind fun bt347 => (if bt347.2.2 = true then (spec_LettersNext.l0 k x0 x1 x9 (wrap64 (x10 + 1))) else (if x9.length < 17592186044416 then (spec_LettersNext.l0 k x0 x1 (x9 ++ [x10]) (wrap64 (x10 + 1))) else (none)))) else (none))) else (some (x9, 0))
end
def spec_LettersNext.f (k : Nat) (a0 : ByteArray) (a1 : Int) : Option (List Int × Int) := (spec_l01Is.f k a0).bind fun t338 => (if t338 = true then ((spec_l01In.f a1 1 5).bind fun t339 => (if t339 = true then ((spec_l03First.f k a0 0).bind fun bt340 => (if bt340.2.2 = true then (some (([] : List Int), 4)) else (spec_LettersNext.l0 k a0 a1 (([] : List Int)) 0))) else (some (([] : List Int), 2)))) else (some (([] : List Int), 1)))
set_option maxHeartbeats 8000000 in
set_option maxRecDepth 100000 in
theorem spec_LettersNext.calls (k : Nat) (a0 : ByteArray) (a1 : Int) (r1 : List Int) (r2 : Int) (w : World) (h : spec_LettersNext.f k a0 a1 = some (r1, r2)) :
  Calls Try.prog 7 #[.string a0, .int .i64 a1] w fun e w' => ∃ v0_ : Value, e = .returned (.tuple #[v0_, .int .i64 r2]) ∧ Kd.R (Kd.int .i64) 2 w' w.heap.size (fun _ => True) v0_ r1 ∧ Below w.heap.size w w' := by
 have HB := Aside0.mk (Below.refl w.heap.size w)
 have H : ((spec_l01Is.f k a0).bind fun t338 => (if t338 = true then ((spec_l01In.f a1 1 5).bind fun t339 => (if t339 = true then ((spec_l03First.f k a0 0).bind fun bt340 => (if bt340.2.2 = true then (some (([] : List Int), 4)) else (spec_LettersNext.l0 k a0 a1 (([] : List Int)) 0))) else (some (([] : List Int), 2)))) else (some (([] : List Int), 1)))) = some (r1, r2) := h
 clear h
 replace H := Option.bind_eq_some_iff.mp H
 obtain ⟨t338, A30, H⟩ := H
 replace H : (if t338 = true then ((spec_l01In.f a1 1 5).bind fun t339 => (if t339 = true then ((spec_l03First.f k a0 0).bind fun bt340 => (if bt340.2.2 = true then (some (([] : List Int), 4)) else (spec_LettersNext.l0 k a0 a1 (([] : List Int)) 0))) else (some (([] : List Int), 2)))) else (some (([] : List Int), 1))) = some (r1, r2) := H
 have A3 := Aside0.mk A30
 clear A30
 by_cases c4 : t338 = true
 ·subst c4
  have H1 : ((spec_l01In.f a1 1 5).bind fun t339 => (if t339 = true then ((spec_l03First.f k a0 0).bind fun bt340 => (if bt340.2.2 = true then (some (([] : List Int), 4)) else (spec_LettersNext.l0 k a0 a1 (([] : List Int)) 0))) else (some (([] : List Int), 2)))) = some (r1, r2) := by rw [if_pos rfl] at H; exact H
  clear H
  have H := H1
  clear H1
  replace H := Option.bind_eq_some_iff.mp H
  obtain ⟨t339, A50, H⟩ := H
  replace H : (if t339 = true then ((spec_l03First.f k a0 0).bind fun bt340 => (if bt340.2.2 = true then (some (([] : List Int), 4)) else (spec_LettersNext.l0 k a0 a1 (([] : List Int)) 0))) else (some (([] : List Int), 2))) = some (r1, r2) := H
  have A5 := Aside0.mk A50
  clear A50
  by_cases c6 : t339 = true
  ·subst c6
   have H1 : ((spec_l03First.f k a0 0).bind fun bt340 => (if bt340.2.2 = true then (some (([] : List Int), 4)) else (spec_LettersNext.l0 k a0 a1 (([] : List Int)) 0))) = some (r1, r2) := by rw [if_pos rfl] at H; exact H
   clear H
   have H := H1
   clear H1
   replace H := Option.bind_eq_some_iff.mp H
   obtain ⟨⟨t340, t341, t342⟩, A70, H⟩ := H
   replace H : (if t342 = true then (some (([] : List Int), 4)) else (spec_LettersNext.l0 k a0 a1 (([] : List Int)) 0)) = some (r1, r2) := H
   have A7 := Aside0.mk A70
   clear A70
   by_cases c8 : t342 = true
   ·subst c8
    have H1 : (some (([] : List Int), 4)) = some (r1, r2) := by rw [if_pos rfl] at H; exact H
    clear H
    have H := H1
    clear H1
    simp only [Option.some.injEq, Prod.mk.injEq] at H
    obtain ⟨rfl, rfl⟩ := H
    go_enter Try.func7, Try.ntmps7
    go_wp2_with (first | ((with_reducible refine gate_callee (f := 36) rfl ?_); refine goesL_ (some 17) rfl rfl Try.func36 (by kernel_rfl) rfl #[.string a0] rfl (by (try simp only [List.map_toArray, List.map_cons, List.map_nil]); first | done | rfl | (simp only [List.length_drop, List.length_take]; rfl)) ?_; (with_reducible refine (spec_l01Is.calls k a0 true _ A3.out).mono ?_); rintro e w' ⟨rfl, ⟨nd, rfl⟩⟩; refine ⟨_, rfl, ?_⟩) | ((with_reducible refine gate_callee (f := 37) rfl ?_); refine goesL_ (some 21) rfl rfl Try.func37 (by kernel_rfl) rfl #[.int .i64 a1, .int .i64 1, .int .i64 5] rfl (by (try simp only [List.map_toArray, List.map_cons, List.map_nil]); first | done | rfl | (simp only [List.length_drop, List.length_take]; rfl)) ?_; (with_reducible refine (spec_l01In.calls a1 1 5 true _ A5.out).mono ?_); rintro e w' ⟨rfl, ⟨nd, rfl⟩⟩; refine ⟨_, rfl, ?_⟩) | ((with_reducible refine gate_callee (f := 38) rfl ?_); refine goesL_ (some 25) rfl rfl Try.func38 (by kernel_rfl) rfl #[.string a0, .int .i64 0] rfl (by (try simp only [List.map_toArray, List.map_cons, List.map_nil]); first | done | rfl | (simp only [List.length_drop, List.length_take]; rfl)) ?_; (with_reducible refine (spec_l03First.calls k a0 0 t340 t341 true _ A7.out).mono ?_); rintro e w9 ⟨rfl, hb⟩; refine ⟨_, rfl, ?_⟩; have n0_ := Aside0.mk (below_step (by repeat (first | (with_reducible first | exact HB.out | apply below_alloc | apply pw_below_drewN | apply below_drew1) | exact HB.out)) hb); clear HB; have HB := n0_; clear n0_; (try clear hb); (try clear hb2); (try clear hk); (try clear hi)))
    go_ret2
    exact ⟨_, by first | rfl | (simp [errW_none, errW_some] <;> rfl) | (simp [*, errW_none, errW_some] <;> rfl), by first | exact Kd.R_nil _ _ _ _ _ | exact Kd.N_nil _ _ _ _ _ | exact Kd.V_nil _ _ _ _ _ | exact Kd.Q_nil _ _ _ _ _ | exact Kd.S_nil _ _ _ _ _, by repeat (first | (with_reducible first | exact HB.out | apply below_alloc | apply pw_below_drewN | apply below_drew1) | exact HB.out)⟩
   ·replace c8 := Bool.eq_false_iff.mpr c8
    subst c8
    have H1 : (spec_LettersNext.l0 k a0 a1 (([] : List Int)) 0) = some (r1, r2) := by rw [if_neg (show ¬ (false = true) by decide)] at H; exact H
    clear H
    have H := H1
    clear H1
    obtain ⟨y343, hy343⟩ : ∃ y_ : List Int, y_ = (([] : List Int)) := ⟨_, rfl⟩
    replace H : (spec_LettersNext.l0 k a0 a1 y343 0) = some (r1, r2) := by first | (rw [hy343]; with_reducible exact H) | (have H2_ := (Option.bind_some _ _).symm.trans H; rw [hy343]; with_reducible exact H2_) | (have H2_ := (Option.bind_some _ _).symm.trans H; with_reducible exact H2_) | with_reducible exact H | (rw [hy343]; exact H) | exact H
    have Ny343 := Aside0.mk hy343
    clear hy343
    have H' := Aside0.mk H
    clear H
    go_enter Try.func7, Try.ntmps7
    go_wp2_with (first | ((with_reducible refine gate_callee (f := 36) rfl ?_); refine goesL_ (some 17) rfl rfl Try.func36 (by kernel_rfl) rfl #[.string a0] rfl (by (try simp only [List.map_toArray, List.map_cons, List.map_nil]); first | done | rfl | (simp only [List.length_drop, List.length_take]; rfl)) ?_; (with_reducible refine (spec_l01Is.calls k a0 true _ A3.out).mono ?_); rintro e w' ⟨rfl, ⟨nd, rfl⟩⟩; refine ⟨_, rfl, ?_⟩) | ((with_reducible refine gate_callee (f := 37) rfl ?_); refine goesL_ (some 21) rfl rfl Try.func37 (by kernel_rfl) rfl #[.int .i64 a1, .int .i64 1, .int .i64 5] rfl (by (try simp only [List.map_toArray, List.map_cons, List.map_nil]); first | done | rfl | (simp only [List.length_drop, List.length_take]; rfl)) ?_; (with_reducible refine (spec_l01In.calls a1 1 5 true _ A5.out).mono ?_); rintro e w' ⟨rfl, ⟨nd, rfl⟩⟩; refine ⟨_, rfl, ?_⟩) | ((with_reducible refine gate_callee (f := 38) rfl ?_); refine goesL_ (some 25) rfl rfl Try.func38 (by kernel_rfl) rfl #[.string a0, .int .i64 0] rfl (by (try simp only [List.map_toArray, List.map_cons, List.map_nil]); first | done | rfl | (simp only [List.length_drop, List.length_take]; rfl)) ?_; (with_reducible refine (spec_l03First.calls k a0 0 t340 t341 false _ A7.out).mono ?_); rintro e w10 ⟨rfl, hb⟩; refine ⟨_, rfl, ?_⟩; have n0_ := Aside0.mk (below_step (by repeat (first | (with_reducible first | exact HB.out | apply below_alloc | apply pw_below_drewN | apply below_drew1) | exact HB.out)) hb); clear HB; have HB := n0_; clear n0_; (try clear hb); (try clear hb2); (try clear hk); (try clear hi)) | ((with_reducible refine gate_dst (N := 30) rfl ?_); (try (refine gate_guard (by rfl) ?_; dsimp only)); refine Kd.R_lit (Kd.int .i64) _ 2 ?hg (N := 30) ?hd (xs := ([] : List Int)) (inner := []) (ok := fun _ => True) (okp := fun _ => True) ?hr ?hp (fun _ hk => hk) trivial (Below.refl _ _) (Nat.le_refl _) (by simp) ?_; (case hd => rfl); (case hg => rfl); (case hr => first | (go_simp; done) | (go_simp; rfl)); (case hp => exact (Reps.none _ _)); intro v344 w11 ho12 hb hg_ hnew_; clear hg_ hnew_; (first | rw [← Ny343.out] at ho12 | (simp only [Int.reduceToNat] at ho12; rw [← Ny343.out] at ho12)); have n0_ := Aside0.mk (Kd.R_lower ho12 (below_size (by repeat (first | (with_reducible first | exact HB.out | apply below_alloc | apply pw_below_drewN | apply below_drew1) | exact HB.out)))); have n1_ := Aside0.mk (below_step (by repeat (first | (with_reducible first | exact HB.out | apply below_alloc | apply pw_below_drewN | apply below_drew1) | exact HB.out)) hb); clear HB; have HO345 := n0_; have HB := n1_; clear n0_ n1_; clear hb ho12))
    go_loopg [9, 10] k (fun kq v9 v10 w' => ∃ (x9_1 : List Int) (x10_1 : Int), v10 = .int .i64 x10_1 ∧ Aside0 (spec_LettersNext.l0 kq a0 a1 x9_1 x10_1 = some (r1, r2)) ∧ Aside0 (kq ≤ k) ∧ Aside0 (Kd.R (Kd.int .i64) 2 w' w.heap.size (fun _ => True) v9 x9_1) ∧ Aside0 (Below w.heap.size w w'))
    case atStart => exact ⟨(y343), (0), (by first | rfl | (simp; done) | (simp [*]; done)), H', ⟨Nat.le_refl _⟩, ⟨by (with_reducible repeat (first | apply Kd.R_alloc | apply Kd.R_drewN | apply Kd.R_drew)); exact HO345.out⟩, ⟨by repeat (first | (with_reducible first | exact HB.out | apply below_alloc | apply pw_below_drewN | apply below_drew1) | exact HB.out)⟩⟩
    case round =>
     clear H'
     try clear p2
     try clear c3
     try clear c4
     try clear c6
     try clear c7
     try clear c8
     obtain ⟨x9_1, x10_1, rfl, HA, HK1, HO_9, HB⟩ := hrel
     cases gk with
     | zero => exact absurd HA.out (by simp [spec_LettersNext.l0])
     | succ k1 =>
      have H := HA.out
      clear HA
      simp only [spec_LettersNext.l0] at H
      have HC13 := Aside0.mk H
      clear H
      go_upto_region 10 with (fail)
      go_cut [38] (fun v38 wc => ∃ (kq : Nat) (x38_12 : Bool), v38 = .bool x38_12 ∧ Aside0 (spec_LettersNext.j1 kq a0 a1 x9_1 x10_1 x38_12 = some (r1, r2)) ∧ Aside0 (kq ≤ k1) ∧ Aside0 (Kd.R (Kd.int .i64) 2 wc w.heap.size (fun _ => True) u9 x9_1) ∧ Aside0 (Below w.heap.size w wc))
      case first =>
       have H := HC13.out
       clear HC13
       by_cases c14 : x10_1 < a1
       ·rw [if_pos c14] at H
        have c14b0 : decide (x10_1 < a1) = true := decide_eq_true c14
        clear c14
        (first | rw [c14b0] | (simp only [i64_w, i32_w]; rw [c14b0]) | skip)
        have H' := Aside0.mk H
        clear H
        go_wp2
        go_meet
        case rel => exact ⟨_, (decide ((a0.size : Int) < 60)), (by first | rfl | (simp; done) | (simp [*]; done)), H', ⟨by have := HK1.out; first | omega | exact Nat.le_refl _⟩, ⟨by (with_reducible repeat (first | apply Kd.R_alloc | apply Kd.R_drewN | apply Kd.R_drew)); exact HO_9.out⟩, ⟨by repeat (first | (with_reducible first | exact HB.out | apply below_alloc | apply pw_below_drewN | apply below_drew1) | exact HB.out)⟩⟩
       ·rw [if_neg c14] at H
        have c14b0 : decide (x10_1 < a1) = false := decide_eq_false c14
        clear c14
        (first | rw [c14b0] | (simp only [i64_w, i32_w]; rw [c14b0]) | skip)
        have H' := Aside0.mk H
        clear H
        go_wp2
        go_meet
        case rel => exact ⟨_, (false), (by first | rfl | (simp; done) | (simp [*]; done)), H', ⟨by have := HK1.out; first | omega | exact Nat.le_refl _⟩, ⟨by (with_reducible repeat (first | apply Kd.R_alloc | apply Kd.R_drewN | apply Kd.R_drew)); exact HO_9.out⟩, ⟨by repeat (first | (with_reducible first | exact HB.out | apply below_alloc | apply pw_below_drewN | apply below_drew1) | exact HB.out)⟩⟩
      case rest =>
       clear HC13
       try clear c1
       try clear p2
       try clear c3
       try clear c4
       try clear c6
       try clear c7
       try clear c8
       try clear c14
       try clear c14b0
       try clear p2
       obtain ⟨kq, x38_12, rfl, HA, HJ12, HO_9, HB⟩ := hcut
       cases kq with
       | zero => exact absurd HA.out (by simp [spec_LettersNext.j1])
       | succ kj12 =>
        have H := HA.out
        clear HA
        simp only [spec_LettersNext.j1] at H
        by_cases c15 : x38_12 = true
        ·subst c15
         have H1 : ((spec_l01Letter.f x10_1).bind fun t346 => (if a0.size + t346.size ≤ 9223372036854775807 then ((spec_l03First.f kj12 (a0 ++ t346) ((a0.size : Int) + (t346.size : Int))).bind fun bt347 => (if bt347.2.2 = true then (spec_LettersNext.l0 kj12 a0 a1 x9_1 (wrap64 (x10_1 + 1))) else (if x9_1.length < 17592186044416 then (spec_LettersNext.l0 kj12 a0 a1 (x9_1 ++ [x10_1]) (wrap64 (x10_1 + 1))) else (none)))) else (none))) = some (r1, r2) := by rw [if_pos rfl] at H; exact H
         clear H
         have H := H1
         clear H1
         replace H := Option.bind_eq_some_iff.mp H
         obtain ⟨t346, A160, H⟩ := H
         replace H : (if a0.size + t346.size ≤ 9223372036854775807 then ((spec_l03First.f kj12 (a0 ++ t346) ((a0.size : Int) + (t346.size : Int))).bind fun bt347 => (if bt347.2.2 = true then (spec_LettersNext.l0 kj12 a0 a1 x9_1 (wrap64 (x10_1 + 1))) else (if x9_1.length < 17592186044416 then (spec_LettersNext.l0 kj12 a0 a1 (x9_1 ++ [x10_1]) (wrap64 (x10_1 + 1))) else (none)))) else (none)) = some (r1, r2) := H
         have A16 := Aside0.mk A160
         clear A160
         by_cases c17 : a0.size + t346.size ≤ 9223372036854775807
         ·rw [if_pos c17] at H
          have c17b0 := eq_true c17
          have c17b1 : decide (a0.size + t346.size ≤ 9223372036854775807) = true := decide_eq_true c17
          try have c17b2 : (9223372036854775807 < a0.size + t346.size) = False := eq_false (Nat.not_lt.2 c17)
          replace H := Option.bind_eq_some_iff.mp H
          obtain ⟨⟨t347, t348, t349⟩, A180, H⟩ := H
          replace H : (if t349 = true then (spec_LettersNext.l0 kj12 a0 a1 x9_1 (wrap64 (x10_1 + 1))) else (if x9_1.length < 17592186044416 then (spec_LettersNext.l0 kj12 a0 a1 (x9_1 ++ [x10_1]) (wrap64 (x10_1 + 1))) else (none))) = some (r1, r2) := H
          have A18 := Aside0.mk A180
          clear A180
          by_cases c19 : t349 = true
          ·subst c19
           have H1 : (spec_LettersNext.l0 kj12 a0 a1 x9_1 (wrap64 (x10_1 + 1))) = some (r1, r2) := by rw [if_pos rfl] at H; exact H
           clear H
           have H := H1
           clear H1
           have H' := Aside0.mk H
           clear H
           go_wp2_with (first | ((with_reducible refine gate_callee (f := 39) rfl ?_); refine goesL_ (some 43) rfl rfl Try.func39 (by kernel_rfl) rfl #[.int .i64 x10_1] rfl (by (try simp only [List.map_toArray, List.map_cons, List.map_nil]); first | done | rfl | (simp only [List.length_drop, List.length_take]; rfl)) ?_; (with_reducible refine (spec_l01Letter.calls x10_1 t346 _ A16.out).mono ?_); rintro e w20 ⟨rfl, hb⟩; refine ⟨_, rfl, ?_⟩; have n0_ := Aside0.mk (Kd.R_below (by (with_reducible repeat (first | apply Kd.R_alloc | apply Kd.R_drewN | apply Kd.R_drew)); exact HO_9.out) hb); have n1_ := Aside0.mk (below_step (by repeat (first | (with_reducible first | exact HB.out | apply below_alloc | apply pw_below_drewN | apply below_drew1) | exact HB.out)) hb); clear HO_9; clear HB; have HO_9 := n0_; have HB := n1_; clear n0_ n1_; (try clear hb); (try clear hb2); (try clear hk); (try clear hi)) | ((with_reducible refine gate_callee (f := 38) rfl ?_); refine goesL_ (some 49) rfl rfl Try.func38 (by kernel_rfl) rfl #[.string (a0 ++ t346), .int .i64 ((a0.size : Int) + (t346.size : Int))] rfl (by (try simp only [List.map_toArray, List.map_cons, List.map_nil]); first | done | rfl | (simp only [List.length_drop, List.length_take]; rfl)) ?_; (with_reducible refine (spec_l03First.calls kj12 (a0 ++ t346) ((a0.size : Int) + (t346.size : Int)) t347 t348 true _ A18.out).mono ?_); rintro e w21 ⟨rfl, hb⟩; refine ⟨_, rfl, ?_⟩; have n0_ := Aside0.mk (Kd.R_below (by (with_reducible repeat (first | apply Kd.R_alloc | apply Kd.R_drewN | apply Kd.R_drew)); exact HO_9.out) hb); have n1_ := Aside0.mk (below_step (by repeat (first | (with_reducible first | exact HB.out | apply below_alloc | apply pw_below_drewN | apply below_drew1) | exact HB.out)) hb); clear HO_9; clear HB; have HO_9 := n0_; have HB := n1_; clear n0_ n1_; (try clear hb); (try clear hb2); (try clear hk); (try clear hi)))
           go_roundg kj12
           case measure => have := HK1.out; have := HJ12.out; omega
           case rel => exact ⟨(x9_1), (wrap64 (x10_1 + 1)), (by first | rfl | (simp; done) | (simp [*]; done)), H', ⟨by have := HK1.out; have := HJ12.out; omega⟩, ⟨by (with_reducible repeat (first | apply Kd.R_alloc | apply Kd.R_drewN | apply Kd.R_drew)); exact HO_9.out⟩, ⟨by repeat (first | (with_reducible first | exact HB.out | apply below_alloc | apply pw_below_drewN | apply below_drew1) | exact HB.out)⟩⟩
          ·replace c19 := Bool.eq_false_iff.mpr c19
           subst c19
           have H1 : (if x9_1.length < 17592186044416 then (spec_LettersNext.l0 kj12 a0 a1 (x9_1 ++ [x10_1]) (wrap64 (x10_1 + 1))) else (none)) = some (r1, r2) := by rw [if_neg (show ¬ (false = true) by decide)] at H; exact H
           clear H
           have H := H1
           clear H1
           by_cases c22 : x9_1.length < 17592186044416
           ·rw [if_pos c22] at H
            have LMc22 := Aside0.mk c22
            clear c22
            obtain ⟨y350, hy350⟩ : ∃ y_ : List Int, y_ = (x9_1 ++ [x10_1]) := ⟨_, rfl⟩
            replace H : (spec_LettersNext.l0 kj12 a0 a1 y350 (wrap64 (x10_1 + 1))) = some (r1, r2) := by first | (rw [hy350]; with_reducible exact H) | (have H2_ := (Option.bind_some _ _).symm.trans H; rw [hy350]; with_reducible exact H2_) | (have H2_ := (Option.bind_some _ _).symm.trans H; with_reducible exact H2_) | with_reducible exact H | (rw [hy350]; exact H) | exact H
            have Ny350 := Aside0.mk hy350
            clear hy350
            have H' := Aside0.mk H
            clear H
            go_wp2_with (first | ((with_reducible refine gate_callee (f := 39) rfl ?_); refine goesL_ (some 43) rfl rfl Try.func39 (by kernel_rfl) rfl #[.int .i64 x10_1] rfl (by (try simp only [List.map_toArray, List.map_cons, List.map_nil]); first | done | rfl | (simp only [List.length_drop, List.length_take]; rfl)) ?_; (with_reducible refine (spec_l01Letter.calls x10_1 t346 _ A16.out).mono ?_); rintro e w23 ⟨rfl, hb⟩; refine ⟨_, rfl, ?_⟩; have n0_ := Aside0.mk (Kd.R_below (by (with_reducible repeat (first | apply Kd.R_alloc | apply Kd.R_drewN | apply Kd.R_drew)); exact HO_9.out) hb); have n1_ := Aside0.mk (below_step (by repeat (first | (with_reducible first | exact HB.out | apply below_alloc | apply pw_below_drewN | apply below_drew1) | exact HB.out)) hb); clear HO_9; clear HB; have HO_9 := n0_; have HB := n1_; clear n0_ n1_; (try clear hb); (try clear hb2); (try clear hk); (try clear hi)) | ((with_reducible refine gate_callee (f := 38) rfl ?_); refine goesL_ (some 49) rfl rfl Try.func38 (by kernel_rfl) rfl #[.string (a0 ++ t346), .int .i64 ((a0.size : Int) + (t346.size : Int))] rfl (by (try simp only [List.map_toArray, List.map_cons, List.map_nil]); first | done | rfl | (simp only [List.length_drop, List.length_take]; rfl)) ?_; (with_reducible refine (spec_l03First.calls kj12 (a0 ++ t346) ((a0.size : Int) + (t346.size : Int)) t347 t348 false _ A18.out).mono ?_); rintro e w24 ⟨rfl, hb⟩; refine ⟨_, rfl, ?_⟩; have n0_ := Aside0.mk (Kd.R_below (by (with_reducible repeat (first | apply Kd.R_alloc | apply Kd.R_drewN | apply Kd.R_drew)); exact HO_9.out) hb); have n1_ := Aside0.mk (below_step (by repeat (first | (with_reducible first | exact HB.out | apply below_alloc | apply pw_below_drewN | apply below_drew1) | exact HB.out)) hb); clear HO_9; clear HB; have HO_9 := n0_; have HB := n1_; clear n0_ n1_; (try clear hb); (try clear hb2); (try clear hk); (try clear hi)) | ((with_reducible refine gate_builtin (b := .append) (xs := #[.tmp 55, .tmp 57]) rfl ?_); (try (refine gate_guard (by rfl) ?_; dsimp only)); at_builtin; refine Kd.R_append (Kd.int .i64) (w0 := w) w.heap.size rfl (.tmp 55) (.tmp 57) 26 2 (.int .i64 0) 8 rfl Try.underlying26 info2 rfl (by decide) (by omega) u9 x9_1 x10_1 [.int .i64 x10_1] (fun _ => True) (fun _ => False) rfl rfl ?aP (fun _ hk => hk.elim) ?aF ?aO ?aB ?aS ?aL ?_; (case aP => exact rfl); (case aB => exact (by repeat (first | (with_reducible first | exact HB.out | apply below_alloc | apply pw_below_drewN | apply below_drew1) | exact HB.out))); (case aF => exact (fun _ _ => trivial)); (case aO => exact (by (with_reducible repeat (first | apply Kd.R_alloc | apply Kd.R_drewN | apply Kd.R_drew)); exact HO_9.out)); (case aS => exact (below_size (by repeat (first | (with_reducible first | exact HB.out | apply below_alloc | apply pw_below_drewN | apply below_drew1) | exact HB.out)))); (case aL => have := LMc22.out; omega); intro v351 w25 ho hb hg hat; rw [← Ny350.out] at ho; have n0_ := Aside0.mk (hb); have n1_ := Aside0.mk (ho); clear HB; clear HO_9; have HB := n0_; have HO352 := n1_; clear n0_ n1_; clear ho hb hg hat))
            go_roundg kj12
            case measure => have := HK1.out; have := HJ12.out; omega
            case rel => exact ⟨(y350), (wrap64 (x10_1 + 1)), (by first | rfl | (simp; done) | (simp [*]; done)), H', ⟨by have := HK1.out; have := HJ12.out; omega⟩, ⟨by (with_reducible repeat (first | apply Kd.R_alloc | apply Kd.R_drewN | apply Kd.R_drew)); exact HO352.out⟩, ⟨by repeat (first | (with_reducible first | exact HB.out | apply below_alloc | apply pw_below_drewN | apply below_drew1) | exact HB.out)⟩⟩
           ·rw [if_neg c22] at H
            exact absurd H (by simp)
         ·rw [if_neg c17] at H
          exact absurd H (by simp)
        ·replace c15 := Bool.eq_false_iff.mpr c15
         subst c15
         have H1 : (some (x9_1, 0)) = some (r1, r2) := by rw [if_neg (show ¬ (false = true) by decide)] at H; exact H
         clear H
         have H := H1
         clear H1
         simp only [Option.some.injEq, Prod.mk.injEq] at H
         obtain ⟨rfl, rfl⟩ := H
         go_wp2
         go_ret2
         exact ⟨_, by first | rfl | (simp [errW_none, errW_some] <;> rfl) | (simp [*, errW_none, errW_some] <;> rfl), by (with_reducible repeat (first | apply Kd.R_alloc | apply Kd.R_drewN | apply Kd.R_drew)); exact HO_9.out, by repeat (first | (with_reducible first | exact HB.out | apply below_alloc | apply pw_below_drewN | apply below_drew1) | exact HB.out)⟩
  ·replace c6 := Bool.eq_false_iff.mpr c6
   subst c6
   have H1 : (some (([] : List Int), 2)) = some (r1, r2) := by rw [if_neg (show ¬ (false = true) by decide)] at H; exact H
   clear H
   have H := H1
   clear H1
   simp only [Option.some.injEq, Prod.mk.injEq] at H
   obtain ⟨rfl, rfl⟩ := H
   go_enter Try.func7, Try.ntmps7
   go_wp2_with (first | ((with_reducible refine gate_callee (f := 36) rfl ?_); refine goesL_ (some 17) rfl rfl Try.func36 (by kernel_rfl) rfl #[.string a0] rfl (by (try simp only [List.map_toArray, List.map_cons, List.map_nil]); first | done | rfl | (simp only [List.length_drop, List.length_take]; rfl)) ?_; (with_reducible refine (spec_l01Is.calls k a0 true _ A3.out).mono ?_); rintro e w' ⟨rfl, ⟨nd, rfl⟩⟩; refine ⟨_, rfl, ?_⟩) | ((with_reducible refine gate_callee (f := 37) rfl ?_); refine goesL_ (some 21) rfl rfl Try.func37 (by kernel_rfl) rfl #[.int .i64 a1, .int .i64 1, .int .i64 5] rfl (by (try simp only [List.map_toArray, List.map_cons, List.map_nil]); first | done | rfl | (simp only [List.length_drop, List.length_take]; rfl)) ?_; (with_reducible refine (spec_l01In.calls a1 1 5 false _ A5.out).mono ?_); rintro e w' ⟨rfl, ⟨nd, rfl⟩⟩; refine ⟨_, rfl, ?_⟩))
   go_ret2
   exact ⟨_, by first | rfl | (simp [errW_none, errW_some] <;> rfl) | (simp [*, errW_none, errW_some] <;> rfl), by first | exact Kd.R_nil _ _ _ _ _ | exact Kd.N_nil _ _ _ _ _ | exact Kd.V_nil _ _ _ _ _ | exact Kd.Q_nil _ _ _ _ _ | exact Kd.S_nil _ _ _ _ _, by repeat (first | (with_reducible first | exact HB.out | apply below_alloc | apply pw_below_drewN | apply below_drew1) | exact HB.out)⟩
 ·replace c4 := Bool.eq_false_iff.mpr c4
  subst c4
  have H1 : (some (([] : List Int), 1)) = some (r1, r2) := by rw [if_neg (show ¬ (false = true) by decide)] at H; exact H
  clear H
  have H := H1
  clear H1
  simp only [Option.some.injEq, Prod.mk.injEq] at H
  obtain ⟨rfl, rfl⟩ := H
  go_enter Try.func7, Try.ntmps7
  go_wp2_with (first | ((with_reducible refine gate_callee (f := 36) rfl ?_); refine goesL_ (some 17) rfl rfl Try.func36 (by kernel_rfl) rfl #[.string a0] rfl (by (try simp only [List.map_toArray, List.map_cons, List.map_nil]); first | done | rfl | (simp only [List.length_drop, List.length_take]; rfl)) ?_; (with_reducible refine (spec_l01Is.calls k a0 false _ A3.out).mono ?_); rintro e w' ⟨rfl, ⟨nd, rfl⟩⟩; refine ⟨_, rfl, ?_⟩))
  go_ret2
  exact ⟨_, by first | rfl | (simp [errW_none, errW_some] <;> rfl) | (simp [*, errW_none, errW_some] <;> rfl), by first | exact Kd.R_nil _ _ _ _ _ | exact Kd.N_nil _ _ _ _ _ | exact Kd.V_nil _ _ _ _ _ | exact Kd.Q_nil _ _ _ _ _ | exact Kd.S_nil _ _ _ _ _, by repeat (first | (with_reducible first | exact HB.out | apply below_alloc | apply pw_below_drewN | apply below_drew1) | exact HB.out)⟩

end Go.Proofs.Yteakipdmpjlhiaa.Q

namespace Go.Proofs.Yteakipdmpjlhiaa.Q
open Go.RowKit Go.Proofs.YteakipdmpjlhiaaW.PrintWords Go.Proofs.YteakipdmpjlhiaaW.PrintLast Go.Proofs.YteakipdmpjlhiaaW.PrintMore
attribute [local go_sem] max2_int min2_int max_two min_two max_three min_three max_four min_four bn_leq bn_gtr bn_geq   -- for this text's walks alone
set_option linter.unusedVariables false
set_option linter.unusedSimpArgs false

/-! ### laws_likeInts: function 8 -/
def laws_likeInts.l0 : Nat → List Int → List Int → Int → Option (Bool)
 | 0, _, _, _ => none
 | k + 1, x0, x1, x5 => if x5 < (x0.length : Int) then (if 0 ≤ x5 then (if x5 < (x1.length : Int) then (if (rd x0 x5) = (rd x1 x5) then (laws_likeInts.l0 k x0 x1 (wrap64 (x5 + 1))) else (some false)) else (none)) else (none)) else (some true)
def laws_likeInts.f (k : Nat) (l0 : List Int) (l1 : List Int) : Option (Bool) := if (l0.length : Int) = (l1.length : Int) then (laws_likeInts.l0 k l0 l1 0) else (some false)
set_option maxHeartbeats 8000000 in
set_option maxRecDepth 100000 in
theorem laws_likeInts.calls (k : Nat) (A0 : Option Addr) (c0 : Nat) (l0 : List Int) (A1 : Option Addr) (c1 : Nat) (l1 : List Int) (r : Bool) (w : World) (hr0 : Kd.C (Kd.int .i64) w A0 l0.length l0) (hc0 : l0.length ≤ c0) (hr1 : Kd.C (Kd.int .i64) w A1 l1.length l1) (hc1 : l1.length ≤ c1) (h : laws_likeInts.f k l0 l1 = some r) :
  Calls Try.prog 8 #[.slice A0 l0.length c0, .slice A1 l1.length c1] w fun e w' => e = .returned (.bool r) ∧ Drawn0 w w' := by
 have HR0 := Aside0.mk hr0
 have HC0 := Aside0.mk hc0
 clear hr0 hc0
 have HR1 := Aside0.mk hr1
 have HC1 := Aside0.mk hc1
 clear hr1 hc1
 have H : (if (l0.length : Int) = (l1.length : Int) then (laws_likeInts.l0 k l0 l1 0) else (some false)) = some r := h
 clear h
 by_cases c3 : (l0.length : Int) = (l1.length : Int)
 ·rw [if_pos c3] at H
  have c3b0 : ((l0.length : Int) == (l1.length : Int)) = true := beq_iff_eq.mpr c3
  have c3b1 : ((l0.length : Int) != (l1.length : Int)) = false := bne_eq_false_iff_eq.mpr c3
  have c3b2 : (l0.length == l1.length) = true := by first | simpa using c3 | (simp at c3 ⊢; omega)
  clear c3
  have H' := Aside0.mk H
  clear H
  go_enter Try.func8, Try.ntmps8
  go_wp2
  repeat (go_quiet (fail); try go_wp2)
  go_loopg [5] k (fun kq v5 w' => ∃ (x5_1 : Int), v5 = .int .i64 x5_1 ∧ Aside0 (laws_likeInts.l0 kq l0 l1 x5_1 = some r) ∧ Aside0 (kq ≤ k) ∧ Drawn0 w w')
  case atStart => exact ⟨(0), (by first | rfl | (simp; done) | (simp [*]; done)), H', ⟨Nat.le_refl _⟩, by repeat (first | exact Drawn0.refl _ | apply Drawn0.step)⟩
  case round =>
   clear H'
   try clear c1
   try clear p2
   try clear c3
   try clear c3b0
   try clear c3b1
   try clear c3b2
   obtain ⟨x5_1, rfl, HA, HK1, ⟨m1, rfl⟩⟩ := hrel
   cases gk with
   | zero => exact absurd HA.out (by simp [laws_likeInts.l0])
   | succ k1 =>
    have H := HA.out
    clear HA
    simp only [laws_likeInts.l0] at H
    by_cases c4 : x5_1 < (l0.length : Int)
    ·rw [if_pos c4] at H
     have c4b0 : decide (x5_1 < (l0.length : Int)) = true := decide_eq_true c4
     clear c4
     by_cases c5 : 0 ≤ x5_1
     ·rw [if_pos c5] at H
      have c5b0 : decide (0 ≤ x5_1) = true := decide_eq_true c5
      clear c5
      by_cases c6 : x5_1 < (l1.length : Int)
      ·rw [if_pos c6] at H
       have c6b0 : decide (x5_1 < (l1.length : Int)) = true := decide_eq_true c6
       clear c6
       by_cases c7 : (rd l0 x5_1) = (rd l1 x5_1)
       ·rw [if_pos c7] at H
        have c7b0 : ((rd l0 x5_1) == (rd l1 x5_1)) = true := beq_iff_eq.mpr c7
        have c7b1 : ((rd l0 x5_1) != (rd l1 x5_1)) = false := bne_eq_false_iff_eq.mpr c7
        clear c7
        have H' := Aside0.mk H
        clear H
        have p353 : 0 ≤ (x5_1 : Int) := of_decide_eq_true (by first | (with_reducible assumption) | assumption)
        have q353 : x5_1 < (l0.length : Int) := of_decide_eq_true (by first | (with_reducible assumption) | assumption)
        obtain ⟨ad353, e353, hx353_0⟩ := Kd.at_int HR0.out x5_1 p353 q353
        cases e353
        replace p353 := eq_true p353
        replace q353 := eq_true q353
        have p354 : 0 ≤ (x5_1 : Int) := of_decide_eq_true (by first | (with_reducible assumption) | assumption)
        have q354 : x5_1 < (l1.length : Int) := of_decide_eq_true (by first | (with_reducible assumption) | assumption)
        obtain ⟨ad354, e354, hx354_0⟩ := Kd.at_int HR1.out x5_1 p354 q354
        cases e354
        replace p354 := eq_true p354
        replace q354 := eq_true q354
        go_wp2
        repeat (go_quiet (fail); try go_wp2)
        go_roundg k1
        case measure => have := HK1.out; omega
        case rel => exact ⟨(wrap64 (x5_1 + 1)), (by first | rfl | (simp; done) | (simp [*]; done)), H', ⟨by have := HK1.out; omega⟩, by repeat (first | exact Drawn0.refl _ | apply Drawn0.step)⟩
       ·rw [if_neg c7] at H
        have c7b0 : ((rd l0 x5_1) == (rd l1 x5_1)) = false := beq_eq_false_iff_ne.mpr c7
        have c7b1 : ((rd l0 x5_1) != (rd l1 x5_1)) = true := bne_iff_ne.mpr c7
        obtain rfl := Option.some.inj H
        have p353 : 0 ≤ (x5_1 : Int) := of_decide_eq_true (by first | (with_reducible assumption) | assumption)
        have q353 : x5_1 < (l0.length : Int) := of_decide_eq_true (by first | (with_reducible assumption) | assumption)
        obtain ⟨ad353, e353, hx353_0⟩ := Kd.at_int HR0.out x5_1 p353 q353
        cases e353
        replace p353 := eq_true p353
        replace q353 := eq_true q353
        have p354 : 0 ≤ (x5_1 : Int) := of_decide_eq_true (by first | (with_reducible assumption) | assumption)
        have q354 : x5_1 < (l1.length : Int) := of_decide_eq_true (by first | (with_reducible assumption) | assumption)
        obtain ⟨ad354, e354, hx354_0⟩ := Kd.at_int HR1.out x5_1 p354 q354
        cases e354
        replace p354 := eq_true p354
        replace q354 := eq_true q354
        go_wp2
        repeat (go_quiet (fail); try go_wp2)
        go_ret
        exact ⟨by first | rfl | (simp; done) | (simp [*]; done), by repeat (first | exact Drawn0.refl _ | apply Drawn0.step)⟩
      ·rw [if_neg c6] at H
       exact absurd H (by simp)
     ·rw [if_neg c5] at H
      exact absurd H (by simp)
    ·rw [if_neg c4] at H
     have c4b0 : decide (x5_1 < (l0.length : Int)) = false := decide_eq_false c4
     clear c4
     obtain rfl := Option.some.inj H
     go_wp2
     repeat (go_quiet (fail); try go_wp2)
     go_ret
     exact ⟨by first | rfl | (simp; done) | (simp [*]; done), by repeat (first | exact Drawn0.refl _ | apply Drawn0.step)⟩
 ·rw [if_neg c3] at H
  have c3b0 : ((l0.length : Int) == (l1.length : Int)) = false := beq_eq_false_iff_ne.mpr c3
  have c3b1 : ((l0.length : Int) != (l1.length : Int)) = true := bne_iff_ne.mpr c3
  have c3b2 : (l0.length == l1.length) = false := by first | simpa using c3 | (simp at c3 ⊢; omega)
  obtain rfl := Option.some.inj H
  go_enter Try.func8, Try.ntmps8
  go_wp2
  repeat (go_quiet (fail); try go_wp2)
  go_ret
  exact ⟨by first | rfl | (simp; done) | (simp [*]; done), by repeat (first | exact Drawn0.refl _ | apply Drawn0.step)⟩

end Go.Proofs.Yteakipdmpjlhiaa.Q

namespace Go.Proofs.Yteakipdmpjlhiaa.Q
open Go.RowKit Go.Proofs.YteakipdmpjlhiaaW.PrintWords Go.Proofs.YteakipdmpjlhiaaW.PrintLast Go.Proofs.YteakipdmpjlhiaaW.PrintMore
attribute [local go_sem] max2_int min2_int max_two min_two max_three min_three max_four min_four bn_leq bn_gtr bn_geq   -- for this text's walks alone
set_option linter.unusedVariables false
set_option linter.unusedSimpArgs false

/-! ### impl_areAll_int64: function 40 (this session's own) -/
set_option maxHeartbeats 2000000 in
/-- slices.IndexFunc over int64s, for whatever predicate (it may make memory of its own). -/
theorem xw_IndexFunc_i64 (p : Int → Bool) (g : Nat) (lb : Array Value) (eg : ∀ args w, (callFunc g args).run Try.prog w = .ok (.enter g args) w) (A : Option Addr) (c : Nat) (l : List Int) (w : World)
  (hr : Kd.C (Kd.int .i64) w A l.length l) (hc : l.length ≤ c)
  (hp : ∀ (W : World) (x : Int), x ∈ l → Below w.heap.size w W → Calls Try.prog g (#[.int .i64 x] ++ lb) W fun e w' => e = .returned (.bool (p x)) ∧ Below W.heap.size W w') :
  Calls Try.prog 84 #[.slice A l.length c, .func (.func g) #[] lb] w fun e w' => e = .returned (.int .i64 (idxL p l)) ∧ Below w.heap.size w w' := by
 have hbig : l.length ≤ 9223372036854775807 := hr.2.1
 have hreads : Aside0 (∀ W, Below w.heap.size w W → ∀ j, j < l.length → ∃ ad, A = some ad ∧ W.cell? (ad.add j) = some (.int .i64 (rd l j))) := ⟨fun W hW j hj => by
  obtain ⟨ad, e, hcl⟩ := Kd.at_int (Kd.C_below hr hW) (j : Int) (by omega) (by omega)
  exact ⟨ad, e, by simpa using hcl⟩⟩
 have hp' := Aside0.mk hp
 clear hp hr
 go_enter Try.func84, Try.ntmps84
 go_wp2
 go_loopg [5, 8] l.length (fun gg _ s8 wr => ∃ kk : Nat, kk ≤ l.length ∧ l.length - kk ≤ gg ∧ s8 = .int .i64 kk ∧ Aside0 (Below w.heap.size w wr) ∧ Aside0 (∀ j, j < kk → p (rd l j) = false))
 case atStart => exact ⟨0, Nat.zero_le _, by omega, rfl, ⟨Below.refl _ w⟩, ⟨fun j hj => absurd hj (Nat.not_lt_zero _)⟩⟩
 case round =>
  obtain ⟨kk, hkk, hg, rfl, BW, A0⟩ := hrel
  by_cases hlt : kk < l.length
  ·have hltz : (kk : Int) < (l.length : Int) := by omega
   obtain ⟨ad, rfl, hcell⟩ := hreads.out wr BW.out kk hlt
   have hmem : rd l kk ∈ l := by simp [rd, List.getD_eq_getElem?_getD, hlt]
   have hcall := hp'.out wr (rd l kk) hmem BW.out
   have hb' := Aside0.mk (show True from trivial)
   cases hq : p (rd l kk) with
   | true =>
    rw [hq] at hcall
    have hq' := Aside0.mk hq
    clear hq
    go_wp2_with (go_at_fn g; refine hcall.mono ?_; rintro e w' ⟨rfl, hb'⟩)
    go_ret
    refine ⟨?_, below_then BW.out BW.out.size hb'⟩
    rw [idxL_hit p l 0 kk hlt hq'.out A0.out]; rfl
   | false =>
    rw [hq] at hcall
    have hq' := Aside0.mk hq
    clear hq
    go_wp2_with (go_at_fn g; refine hcall.mono ?_; rintro e w' ⟨rfl, hb'⟩)
    go_roundg (l.length - (kk + 1))
    case measure => omega
    case rel =>
     refine ⟨kk + 1, by omega, by omega, by go_num, ⟨below_then BW.out BW.out.size hb'⟩, ⟨fun j hj => ?_⟩⟩
     by_cases e : j = kk
     ·subst e; exact hq'.out
     ·exact A0.out j (by omega)
  ·have hltz : ¬ (kk : Int) < (l.length : Int) := by omega
   have : kk = l.length := by omega
   subst this
   go_wp2
   go_ret
   refine ⟨?_, BW.out⟩
   rw [idxL_miss p l 0 A0.out]; rfl

set_option maxHeartbeats 2000000 in
theorem xw_ContainsFunc_i64 (p : Int → Bool) (g : Nat) (lb : Array Value) (eg : ∀ args w, (callFunc g args).run Try.prog w = .ok (.enter g args) w) (A : Option Addr) (c : Nat) (l : List Int) (w : World)
  (hr : Kd.C (Kd.int .i64) w A l.length l) (hc : l.length ≤ c)
  (hp : ∀ (W : World) (x : Int), x ∈ l → Below w.heap.size w W → Calls Try.prog g (#[.int .i64 x] ++ lb) W fun e w' => e = .returned (.bool (p x)) ∧ Below W.heap.size W w') :
  Calls Try.prog 68 #[.slice A l.length c, .func (.func g) #[] lb] w fun e w' => e = .returned (.bool (l.any p)) ∧ Below w.heap.size w w' := by
 rw [← idxL_any]
 have hC := xw_IndexFunc_i64 p g lb eg A c l w hr hc hp
 clear hp hr
 go_enter Try.func68, Try.ntmps68
 go_wp2_with (go_at_call 84; refine hC.mono ?_; rintro e w' ⟨rfl, hb⟩)
 go_ret
 exact ⟨rfl, hb⟩


set_option maxHeartbeats 2000000 in
/-- areAll over int64s, for whatever predicate that captures nothing. -/
theorem xw_areAll_i64 (p : Int → Bool) (G : Nat) (eG : ∀ args w, (callFunc G args).run Try.prog w = .ok (.enter G args) w) (A : Option Addr) (c : Nat) (l : List Int) (w : World)
  (hr : Kd.C (Kd.int .i64) w A l.length l) (hc : l.length ≤ c)
  (hp : ∀ (W : World) (x : Int), x ∈ l → Below w.heap.size w W → Calls Try.prog G #[.int .i64 x] W fun e w' => e = .returned (.bool (p x)) ∧ Below W.heap.size W w') :
  Calls Try.prog 40 #[.slice A l.length c, .func (.func G) #[] #[]] w fun e w' => e = .returned (.bool (l.all p)) ∧ Below w.heap.size w w' := by
 have hC : Aside0 (∀ (W : World), Below w.heap.size w W → w.heap.size < W.heap.size → W.cell? ⟨w.heap.size, 0, none⟩ = some (.func (.func G) #[] #[]) →
   Calls Try.prog 68 #[.slice A l.length c, .func (.func 69) #[] #[.pointer (some ⟨w.heap.size, 0, none⟩)]] W fun e w' => e = .returned (.bool (l.any fun x => !p x)) ∧ Below W.heap.size W w') := ⟨fun W hW hlt hcell => by
  refine xw_ContainsFunc_i64 (fun x => !p x) 69 _ (enters_of Try.func69 (by kernel_rfl) rfl) A c l W (Kd.C_below hr hW) hc (fun W2 x hx h2 => ?_)
  have h02 : Below w.heap.size w W2 := hW.trans (h2.mono (Nat.le_of_lt hlt))
  have hcell2 : W2.cell? ⟨w.heap.size, 0, none⟩ = some (.func (.func G) #[] #[]) := (h2.cell (p := ⟨w.heap.size, 0, none⟩) hlt).trans hcell
  have hcall := hp W2 x hx h02
  have h2' := Aside0.mk h2
  clear hr hp hcell h2 h02 hW
  go_enter Try.func69, Try.ntmps69
  go_wp2_with (go_at_fn G; refine hcall.mono ?_; rintro e w' ⟨rfl, hb⟩)
  go_ret
  exact ⟨rfl, hb⟩⟩
 clear hp hr
 rw [← not_any_not]
 go_enter Try.func40, Try.ntmps40
 have hmk := xw_mkf
 go_wp2_with (go_at_call 68; refine (hC.out _ ((Below.refl _ _).alloc (Nat.le_refl _) _) (by simp) (by simp)).mono ?_; rintro e w' ⟨rfl, hb⟩)
 go_ret
 exact ⟨rfl, ((Below.refl _ w).alloc (Nat.le_refl _) _).trans (hb.mono (by simp))⟩

theorem xw_isLetter (x : Int) (W : World) : Calls Try.prog 41 #[.int .i64 x] W fun e w' => e = .returned (.bool (inR x 0 4)) ∧ Below W.heap.size W w' := by
 go_enter Try.func41, Try.ntmps41
 go_wp2_with (go_at_call 49; refine (xw_within _ _ _ _).mono ?_; rintro e w' ⟨rfl, rfl⟩)
 go_ret
 exact ⟨rfl, Below.refl _ _⟩
/-- areAll over numbers where the predicate is 'isLetter'. -/
def impl_areAll_int64.f (l0 : List Int) (_ : Unit) : Option Bool := some (l0.all fun x => inR x 0 4)
theorem impl_areAll_int64.calls (A0 : Option Addr) (c0 : Nat) (l0 : List Int) (u : Unit) (r : Bool) (w : World) (hr0 : Kd.C (Kd.int .i64) w A0 l0.length l0) (hc0 : l0.length ≤ c0) (h : impl_areAll_int64.f l0 u = some r) :
  Calls Try.prog 40 #[.slice A0 l0.length c0, .func (.func 41) #[] #[]] w fun e w' => e = .returned (.bool r) ∧ Below w.heap.size w w' := by
 obtain rfl := Option.some.inj h
 exact xw_areAll_i64 (fun x => inR x 0 4) 41 (enters_of Try.func41 (by kernel_rfl) rfl) A0 c0 l0 w hr0 hc0 (fun W x _ _ => xw_isLetter x W)


end Go.Proofs.Yteakipdmpjlhiaa.Q

namespace Go.Proofs.Yteakipdmpjlhiaa.Q
open Go.RowKit Go.Proofs.YteakipdmpjlhiaaW.PrintWords Go.Proofs.YteakipdmpjlhiaaW.PrintLast Go.Proofs.YteakipdmpjlhiaaW.PrintMore
attribute [local go_sem] max2_int min2_int max_two min_two max_three min_three max_four min_four bn_leq bn_gtr bn_geq   -- for this text's walks alone
set_option linter.unusedVariables false
set_option linter.unusedSimpArgs false

/-! ### impl_wordOf: function 42 -/
def impl_wordOf.l0 : Nat → ByteArray → List Int → Int → Int → Option (ByteArray)
 | 0, _, _, _, _ => none
 | k + 1, x3, x6, x7, x8 => if x8 < x7 then (if 0 ≤ x8 then (if x8 < (x6.length : Int) then ((impl_letter.f (rd x6 x8)).bind fun t357 => (if x3.size + t357.size ≤ 9223372036854775807 then (impl_wordOf.l0 k (x3 ++ t357) x6 x7 (wrap64 (x8 + 1))) else (none))) else (none)) else (none)) else (some x3)
def impl_wordOf.f (k : Nat) (l0 : List Int) : Option (ByteArray) := impl_wordOf.l0 k (⟨#[]⟩ : ByteArray) l0 (l0.length : Int) 0
set_option maxHeartbeats 8000000 in
set_option maxRecDepth 100000 in
theorem impl_wordOf.calls (k : Nat) (A0 : Option Addr) (c0 : Nat) (l0 : List Int) (r : ByteArray) (w : World) (hr0 : Kd.C (Kd.int .i64) w A0 l0.length l0) (hc0 : l0.length ≤ c0) (h : impl_wordOf.f k l0 = some r) :
  Calls Try.prog 42 #[.slice A0 l0.length c0] w fun e w' => e = .returned (.string r) ∧ Below w.heap.size w w' := by
 have HR0 := Aside0.mk hr0
 have HC0 := Aside0.mk hc0
 clear hr0 hc0
 have HB := Aside0.mk (Below.refl w.heap.size w)
 have H : (impl_wordOf.l0 k (⟨#[]⟩ : ByteArray) l0 (l0.length : Int) 0) = some r := h
 clear h
 have H' := Aside0.mk H
 clear H
 go_enter Try.func42, Try.ntmps42
 go_wp2
 go_loopg [3, 8] k (fun kq v3 v8 w' => ∃ (x3_1 : ByteArray) (x8_1 : Int), v3 = .string x3_1 ∧ v8 = .int .i64 x8_1 ∧ Aside0 (impl_wordOf.l0 kq x3_1 l0 (l0.length : Int) x8_1 = some r) ∧ Aside0 (kq ≤ k) ∧ Aside0 (Below w.heap.size w w'))
 case atStart => exact ⟨((⟨#[]⟩ : ByteArray)), (0), (by first | rfl | (simp; done) | (simp [*]; done)), (by first | rfl | (simp; done) | (simp [*]; done)), H', ⟨Nat.le_refl _⟩, ⟨by repeat (first | (with_reducible first | exact HB.out | apply below_alloc | apply pw_below_drewN | apply below_drew1) | exact HB.out)⟩⟩
 case round =>
  clear H'
  obtain ⟨x3_1, x8_1, rfl, rfl, HA, HK1, HB⟩ := hrel
  cases gk with
  | zero => exact absurd HA.out (by simp [impl_wordOf.l0])
  | succ k1 =>
   have H := HA.out
   clear HA
   simp only [impl_wordOf.l0] at H
   by_cases c2 : x8_1 < (l0.length : Int)
   ·rw [if_pos c2] at H
    have c2b0 : decide (x8_1 < (l0.length : Int)) = true := decide_eq_true c2
    clear c2
    by_cases c3 : 0 ≤ x8_1
    ·rw [if_pos c3] at H
     have c3b0 : decide (0 ≤ x8_1) = true := decide_eq_true c3
     clear c3
     by_cases c4 : x8_1 < (l0.length : Int)
     ·rw [if_pos c4] at H
      have c4b0 : decide (x8_1 < (l0.length : Int)) = true := decide_eq_true c4
      clear c4
      replace H := Option.bind_eq_some_iff.mp H
      obtain ⟨t357, A50, H⟩ := H
      replace H : (if x3_1.size + t357.size ≤ 9223372036854775807 then (impl_wordOf.l0 k1 (x3_1 ++ t357) l0 (l0.length : Int) (wrap64 (x8_1 + 1))) else (none)) = some r := H
      have A5 := Aside0.mk A50
      clear A50
      by_cases c6 : x3_1.size + t357.size ≤ 9223372036854775807
      ·rw [if_pos c6] at H
       have c6b0 := eq_true c6
       have c6b1 : decide (x3_1.size + t357.size ≤ 9223372036854775807) = true := decide_eq_true c6
       try have c6b2 : (9223372036854775807 < x3_1.size + t357.size) = False := eq_false (Nat.not_lt.2 c6)
       have H' := Aside0.mk H
       clear H
       have p356 : 0 ≤ (x8_1 : Int) := of_decide_eq_true (by first | (with_reducible assumption) | assumption)
       have q356 : x8_1 < (l0.length : Int) := of_decide_eq_true (by first | (with_reducible assumption) | assumption)
       obtain ⟨ad356, e356, hx356_0⟩ := Kd.at_int HR0.out x8_1 p356 q356
       cases e356
       replace hx356_0 := (HB.out.cell (World.block_lt_of_cell? w _ hx356_0)).trans hx356_0
       replace p356 := eq_true p356
       replace q356 := eq_true q356
       go_wp2_with (first | ((with_reducible refine gate_callee (f := 35) rfl ?_); refine goesL_ (some 14) rfl rfl Try.func35 (by kernel_rfl) rfl #[.int .i64 (rd l0 x8_1)] rfl (by (try simp only [List.map_toArray, List.map_cons, List.map_nil]); first | done | rfl | (simp only [List.length_drop, List.length_take]; rfl)) ?_; (with_reducible refine (impl_letter.calls (rd l0 x8_1) t357 _ A5.out).mono ?_); rintro e w7 ⟨rfl, hb⟩; refine ⟨_, rfl, ?_⟩; have n0_ := Aside0.mk (below_step (by repeat (first | (with_reducible first | exact HB.out | apply below_alloc | apply pw_below_drewN | apply below_drew1) | exact HB.out)) hb); clear HB; have HB := n0_; clear n0_; (try clear hb); (try clear hb2); (try clear hk); (try clear hi)))
       go_roundg k1
       case measure => have := HK1.out; omega
       case rel => exact ⟨(x3_1 ++ t357), (wrap64 (x8_1 + 1)), (by first | rfl | (simp; done) | (simp [*]; done)), (by first | rfl | (simp; done) | (simp [*]; done)), H', ⟨by have := HK1.out; omega⟩, ⟨by repeat (first | (with_reducible first | exact HB.out | apply below_alloc | apply pw_below_drewN | apply below_drew1) | exact HB.out)⟩⟩
      ·rw [if_neg c6] at H
       exact absurd H (by simp)
     ·rw [if_neg c4] at H
      exact absurd H (by simp)
    ·rw [if_neg c3] at H
     exact absurd H (by simp)
   ·rw [if_neg c2] at H
    have c2b0 : decide (x8_1 < (l0.length : Int)) = false := decide_eq_false c2
    clear c2
    obtain rfl := Option.some.inj H
    go_wp2
    go_ret
    exact ⟨by first | rfl | (simp [errW_none, errW_some] <;> rfl) | (simp [*, errW_none, errW_some] <;> rfl), by repeat (first | (with_reducible first | exact HB.out | apply below_alloc | apply pw_below_drewN | apply below_drew1) | exact HB.out)⟩

end Go.Proofs.Yteakipdmpjlhiaa.Q

namespace Go.Proofs.Yteakipdmpjlhiaa.Q
open Go.RowKit Go.Proofs.YteakipdmpjlhiaaW.PrintWords Go.Proofs.YteakipdmpjlhiaaW.PrintLast Go.Proofs.YteakipdmpjlhiaaW.PrintMore
attribute [local go_sem] max2_int min2_int max_two min_two max_three min_three max_four min_four bn_leq bn_gtr bn_geq   -- for this text's walks alone
set_option linter.unusedVariables false
set_option linter.unusedSimpArgs false

/-! ### impl_WordOfLetters: function 9 -/
def impl_WordOfLetters.f (k : Nat) (l0 : List Int) : Option (ByteArray × Int) := if (l0.length : Int) > 60 then (some ((⟨#[]⟩ : ByteArray), 2)) else ((impl_areAll_int64.f l0 ()).bind fun t358 => (if t358 = true then ((impl_wordOf.f k l0).bind fun t359 => (some (t359, 0))) else (some ((⟨#[]⟩ : ByteArray), 2))))
set_option maxHeartbeats 8000000 in
set_option maxRecDepth 100000 in
theorem impl_WordOfLetters.calls (k : Nat) (A0 : Option Addr) (c0 : Nat) (l0 : List Int) (r1 : ByteArray) (r2 : Int) (w : World) (hr0 : Kd.C (Kd.int .i64) w A0 l0.length l0) (hc0 : l0.length ≤ c0) (h : impl_WordOfLetters.f k l0 = some (r1, r2)) :
  Calls Try.prog 9 #[.slice A0 l0.length c0] w fun e w' => e = .returned (.tuple #[.string r1, .int .i64 r2]) ∧ Below w.heap.size w w' := by
 have HR0 := Aside0.mk hr0
 have HC0 := Aside0.mk hc0
 clear hr0 hc0
 have HB := Aside0.mk (Below.refl w.heap.size w)
 have H : (if (l0.length : Int) > 60 then (some ((⟨#[]⟩ : ByteArray), 2)) else ((impl_areAll_int64.f l0 ()).bind fun t358 => (if t358 = true then ((impl_wordOf.f k l0).bind fun t359 => (some (t359, 0))) else (some ((⟨#[]⟩ : ByteArray), 2))))) = some (r1, r2) := h
 clear h
 by_cases c2 : (l0.length : Int) > 60
 ·rw [if_pos c2] at H
  have c2b0 : decide (60 < (l0.length : Int)) = true := decide_eq_true c2
  have c2b1 : decide (60 < l0.length) = true := decide_eq_true (by omega)
  clear c2
  simp only [Option.some.injEq, Prod.mk.injEq] at H
  obtain ⟨rfl, rfl⟩ := H
  go_enter Try.func9, Try.ntmps9
  go_wp2
  go_ret2
  exact ⟨by first | rfl | (simp [errW_none, errW_some] <;> rfl) | (simp [*, errW_none, errW_some] <;> rfl), by repeat (first | (with_reducible first | exact HB.out | apply below_alloc | apply pw_below_drewN | apply below_drew1) | exact HB.out)⟩
 ·rw [if_neg c2] at H
  have c2b0 : decide (60 < (l0.length : Int)) = false := decide_eq_false c2
  have c2b1 : decide (60 < l0.length) = false := decide_eq_false (by omega)
  clear c2
  replace H := Option.bind_eq_some_iff.mp H
  obtain ⟨t358, A30, H⟩ := H
  replace H : (if t358 = true then ((impl_wordOf.f k l0).bind fun t359 => (some (t359, 0))) else (some ((⟨#[]⟩ : ByteArray), 2))) = some (r1, r2) := H
  have A3 := Aside0.mk A30
  clear A30
  by_cases c4 : t358 = true
  ·subst c4
   have H1 : ((impl_wordOf.f k l0).bind fun t359 => (some (t359, 0))) = some (r1, r2) := by rw [if_pos rfl] at H; exact H
   clear H
   have H := H1
   clear H1
   replace H := Option.bind_eq_some_iff.mp H
   obtain ⟨t359, A50, H⟩ := H
   replace H : (some (t359, 0)) = some (r1, r2) := H
   have A5 := Aside0.mk A50
   clear A50
   simp only [Option.some.injEq, Prod.mk.injEq] at H
   obtain ⟨rfl, rfl⟩ := H
   go_enter Try.func9, Try.ntmps9
   go_wp2_with (first | (go_at_call 40; (with_reducible refine (impl_areAll_int64.calls _ _ l0 () true _ ?side1 ?side2 A3.out).mono ?_); (case side1 => repeat (first | exact HR0.out | (with_reducible refine Kd.C_alloc ?_ _) | (with_reducible refine Kd.C_drewN ?_ _) | (with_reducible refine Kd.C_drew ?_))); (case side2 => exact HC0.out); rintro e w6 ⟨rfl, hb⟩; have n0_ := Aside0.mk (below_step (by repeat (first | (with_reducible first | exact HB.out | apply below_alloc | apply pw_below_drewN | apply below_drew1) | exact HB.out)) hb); clear HB; have HB := n0_; clear n0_; (try clear hb); (try clear hb2); (try clear hk); (try clear hi)) | ((with_reducible refine gate_callee (f := 42) rfl ?_); refine goesL_ (some 13) rfl rfl Try.func42 (by kernel_rfl) rfl #[.slice A0 l0.length c0] rfl (by (try simp only [List.map_toArray, List.map_cons, List.map_nil]); first | done | rfl | (simp only [List.length_drop, List.length_take]; rfl)) ?_; (with_reducible refine (impl_wordOf.calls k _ _ l0 t359 _ ?side1 ?side2 A5.out).mono ?_); (case side1 => repeat (first | exact (Kd.C_below HR0.out HB.out) | (with_reducible refine Kd.C_alloc ?_ _) | (with_reducible refine Kd.C_drewN ?_ _) | (with_reducible refine Kd.C_drew ?_))); (case side2 => exact HC0.out); rintro e w7 ⟨rfl, hb⟩; refine ⟨_, rfl, ?_⟩; have n0_ := Aside0.mk (below_step (by repeat (first | (with_reducible first | exact HB.out | apply below_alloc | apply pw_below_drewN | apply below_drew1) | exact HB.out)) hb); clear HB; have HB := n0_; clear n0_; (try clear hb); (try clear hb2); (try clear hk); (try clear hi)))
   go_ret2
   exact ⟨by first | rfl | (simp [errW_none, errW_some] <;> rfl) | (simp [*, errW_none, errW_some] <;> rfl), by repeat (first | (with_reducible first | exact HB.out | apply below_alloc | apply pw_below_drewN | apply below_drew1) | exact HB.out)⟩
  ·replace c4 := Bool.eq_false_iff.mpr c4
   subst c4
   have H1 : (some ((⟨#[]⟩ : ByteArray), 2)) = some (r1, r2) := by rw [if_neg (show ¬ (false = true) by decide)] at H; exact H
   clear H
   have H := H1
   clear H1
   simp only [Option.some.injEq, Prod.mk.injEq] at H
   obtain ⟨rfl, rfl⟩ := H
   go_enter Try.func9, Try.ntmps9
   go_wp2_with (first | (go_at_call 40; (with_reducible refine (impl_areAll_int64.calls _ _ l0 () false _ ?side1 ?side2 A3.out).mono ?_); (case side1 => repeat (first | exact HR0.out | (with_reducible refine Kd.C_alloc ?_ _) | (with_reducible refine Kd.C_drewN ?_ _) | (with_reducible refine Kd.C_drew ?_))); (case side2 => exact HC0.out); rintro e w8 ⟨rfl, hb⟩; have n0_ := Aside0.mk (below_step (by repeat (first | (with_reducible first | exact HB.out | apply below_alloc | apply pw_below_drewN | apply below_drew1) | exact HB.out)) hb); clear HB; have HB := n0_; clear n0_; (try clear hb); (try clear hb2); (try clear hk); (try clear hi)))
   go_ret2
   exact ⟨by first | rfl | (simp [errW_none, errW_some] <;> rfl) | (simp [*, errW_none, errW_some] <;> rfl), by repeat (first | (with_reducible first | exact HB.out | apply below_alloc | apply pw_below_drewN | apply below_drew1) | exact HB.out)⟩

end Go.Proofs.Yteakipdmpjlhiaa.Q

namespace Go.Proofs.Yteakipdmpjlhiaa.Q
open Go.RowKit Go.Proofs.YteakipdmpjlhiaaW.PrintWords Go.Proofs.YteakipdmpjlhiaaW.PrintLast Go.Proofs.YteakipdmpjlhiaaW.PrintMore
attribute [local go_sem] max2_int min2_int max_two min_two max_three min_three max_four min_four bn_leq bn_gtr bn_geq   -- for this text's walks alone
set_option linter.unusedVariables false
set_option linter.unusedSimpArgs false

/-! ### impl_ProductOf: function 10 (this session's own) -/
def impl_ProductOf.f (a0 a1 : ByteArray) : Option (ByteArray × Int) := some (if isW a0 && isW a1 then (if a0.size + a1.size ≤ 60 then (a0 ++ a1, 0) else (⟨#[]⟩, 3)) else (⟨#[]⟩, 1))
set_option maxHeartbeats 4000000 in
theorem impl_ProductOf.calls (a0 a1 : ByteArray) (r1 : ByteArray) (r2 : Int) (w : World) (h : impl_ProductOf.f a0 a1 = some (r1, r2)) :
  Calls Try.prog 10 #[.string a0, .string a1] w fun e w' => e = .returned (.tuple #[.string r1, .int .i64 r2]) ∧ Below w.heap.size w w' := by
 unfold impl_ProductOf.f at h
 obtain ⟨c, hc⟩ : ∃ c : Int, c = (if isW a0 && isW a1 then 0 else 1) := ⟨_, rfl⟩
 have hq : Calls Try.prog 30 #[.func (.func 43) #[] #[], .slice (some ⟨w.heap.size, 0, none⟩) 2 2] (w.alloc (.cells #[.string a0, .string a1] 9)) fun e w' => e = .returned (.int .i64 c) ∧ Below w.heap.size w w' := by
  refine (impl_wordCode.calls () _ 2 [a0, a1] c _ (xw_C_two _ w.heap.size a0 a1 (by simp [go_sem]) (by simp [go_sem])) (by simp) (by rw [hc]; unfold impl_wordCode.f; simp)).mono ?_
  rintro e w' ⟨rfl, hb⟩
  exact ⟨rfl, below_then ((Below.refl _ w).alloc (Nat.le_refl _) _) (by simp) hb⟩
 cases hw : (isW a0 && isW a1) with
 | false =>
  rw [hw] at h hc
  obtain ⟨rfl, rfl⟩ : (⟨#[]⟩ : ByteArray) = r1 ∧ (1 : Int) = r2 := by simpa using h
  obtain rfl : c = 1 := by simpa using hc
  clear h hc hw
  go_enter Try.func10, Try.ntmps10
  go_wp2_with (go_at_call 30; refine hq.mono ?_; rintro e w' ⟨rfl, hb⟩; have hb' := Aside0.mk hb; clear hb)
  go_ret2
  exact ⟨rfl, hb'.out⟩
 | true =>
  rw [hw] at h hc
  obtain rfl : c = 0 := by simpa using hc
  rw [Bool.and_eq_true] at hw
  have s0 := isW_size hw.1
  have s1 := isW_size hw.2
  clear hc hw
  by_cases hl : a0.size + a1.size ≤ 60
  ·obtain ⟨rfl, rfl⟩ : a0 ++ a1 = r1 ∧ (0 : Int) = r2 := by simpa [hl] using h
   have t1 : ¬ (60 : Int) < (a0.size : Int) + a1.size := by omega
   have t2 := decide_eq_false t1
   have k0 : a0.size + a1.size ≤ 9223372036854775807 := by omega
   have k1 := eq_true k0
   have k2 := decide_eq_true k0
   have k3 := eq_false (Nat.not_lt.2 k0)
   clear h
   go_enter Try.func10, Try.ntmps10
   go_wp2_with (go_at_call 30; refine hq.mono ?_; rintro e w' ⟨rfl, hb⟩; have hb' := Aside0.mk hb; clear hb)
   go_ret2
   exact ⟨rfl, hb'.out⟩
  ·obtain ⟨rfl, rfl⟩ : (⟨#[]⟩ : ByteArray) = r1 ∧ (3 : Int) = r2 := by simpa [hl] using h
   have t1 : (60 : Int) < (a0.size : Int) + a1.size := by omega
   have t2 := decide_eq_true t1
   clear h
   go_enter Try.func10, Try.ntmps10
   go_wp2_with (go_at_call 30; refine hq.mono ?_; rintro e w' ⟨rfl, hb⟩; have hb' := Aside0.mk hb; clear hb)
   go_ret2
   exact ⟨rfl, hb'.out⟩


end Go.Proofs.Yteakipdmpjlhiaa.Q

namespace Go.Proofs.Yteakipdmpjlhiaa.Q
open Go.RowKit Go.Proofs.YteakipdmpjlhiaaW.PrintWords Go.Proofs.YteakipdmpjlhiaaW.PrintLast Go.Proofs.YteakipdmpjlhiaaW.PrintMore
attribute [local go_sem] max2_int min2_int max_two min_two max_three min_three max_four min_four bn_leq bn_gtr bn_geq   -- for this text's walks alone
set_option linter.unusedVariables false
set_option linter.unusedSimpArgs false

/-! ### impl_IsSquareFree: function 11 -/
def impl_IsSquareFree.f (k : Nat) (a0 : ByteArray) : Option (Bool × Int) := (impl_wordCode.f () (([a0] : List ByteArray))).bind fun t363 => (if t363 = 0 then ((impl_isSquareFree.f k a0).bind fun t364 => (some (t364, 0))) else (some (false, t363)))
set_option maxHeartbeats 8000000 in
set_option maxRecDepth 100000 in
theorem impl_IsSquareFree.calls (k : Nat) (a0 : ByteArray) (r1 : Bool) (r2 : Int) (w : World) (h : impl_IsSquareFree.f k a0 = some (r1, r2)) :
  Calls Try.prog 11 #[.string a0] w fun e w' => e = .returned (.tuple #[.bool r1, .int .i64 r2]) ∧ Below w.heap.size w w' := by
 have HB := Aside0.mk (Below.refl w.heap.size w)
 have H : ((impl_wordCode.f () (([a0] : List ByteArray))).bind fun t363 => (if t363 = 0 then ((impl_isSquareFree.f k a0).bind fun t364 => (some (t364, 0))) else (some (false, t363)))) = some (r1, r2) := h
 clear h
 obtain ⟨y360, hy360⟩ : ∃ y_ : List ByteArray, y_ = (([a0] : List ByteArray)) := ⟨_, rfl⟩
 replace H : ((impl_wordCode.f () y360).bind fun t363 => (if t363 = 0 then ((impl_isSquareFree.f k a0).bind fun t364 => (some (t364, 0))) else (some (false, t363)))) = some (r1, r2) := by first | (rw [hy360]; with_reducible exact H) | (have H2_ := (Option.bind_some _ _).symm.trans H; rw [hy360]; with_reducible exact H2_) | (have H2_ := (Option.bind_some _ _).symm.trans H; with_reducible exact H2_) | with_reducible exact H | (rw [hy360]; exact H) | exact H
 have Ny360 := Aside0.mk hy360
 clear hy360
 replace H := Option.bind_eq_some_iff.mp H
 obtain ⟨t363, A20, H⟩ := H
 replace H : (if t363 = 0 then ((impl_isSquareFree.f k a0).bind fun t364 => (some (t364, 0))) else (some (false, t363))) = some (r1, r2) := H
 have A2 := Aside0.mk A20
 clear A20
 by_cases c3 : t363 = 0
 ·rw [if_pos c3] at H
  have c3b0 : (t363 == 0) = true := beq_iff_eq.mpr c3
  have c3b1 : (t363 != 0) = false := bne_eq_false_iff_eq.mpr c3
  clear c3
  replace H := Option.bind_eq_some_iff.mp H
  obtain ⟨t364, A40, H⟩ := H
  replace H : (some (t364, 0)) = some (r1, r2) := H
  have A4 := Aside0.mk A40
  clear A40
  simp only [Option.some.injEq, Prod.mk.injEq] at H
  obtain ⟨rfl, rfl⟩ := H
  go_enter Try.func11, Try.ntmps11
  go_wp2_with (first | ((with_reducible refine gate_dst (N := 6) rfl ?_); refine Kd.R_lit Kd.string _ 9 ?hg (N := 6) ?hd (xs := ([a0] : List ByteArray)) (inner := [.string a0]) (ok := fun _ => True) (okp := fun _ => True) ?hr ?hp (fun _ hk => hk) trivial (Below.refl _ _) (Nat.le_refl _) (by simp) ?_; (case hd => rfl); (case hg => rfl); (case hr => first | (go_simp; done) | (go_simp; rfl)); (case hp => exact (Reps.one (show Kd.M Kd.string _ _ _ a0 [.string a0] from rfl) (Reps.none _ _))); intro v361 w5 ho6 hb hg_ hnew_; clear hg_ hnew_; (first | rw [← Ny360.out] at ho6 | (simp only [Int.reduceToNat] at ho6; rw [← Ny360.out] at ho6)); have n0_ := Aside0.mk (Kd.R_lower ho6 (below_size (by repeat (first | (with_reducible first | exact HB.out | apply below_alloc | apply pw_below_drewN | apply below_drew1) | exact HB.out)))); have n1_ := Aside0.mk (below_step (by repeat (first | (with_reducible first | exact HB.out | apply below_alloc | apply pw_below_drewN | apply below_drew1) | exact HB.out)) hb); clear HB; have HO362 := n0_; have HB := n1_; clear n0_ n1_; clear hb ho6; obtain ⟨Ao7, co7, eo7⟩ := Kd.R_slice HO362.out; subst eo7) | ((with_reducible refine gate_callee (f := 30) rfl ?_); refine goesL_ (some 7) rfl rfl Try.func30 (by kernel_rfl) rfl #[.func (.func 43) #[] #[], .slice Ao7 y360.length co7] rfl (by (try simp only [List.map_toArray, List.map_cons, List.map_nil]); first | done | rfl | (simp only [List.length_drop, List.length_take]; rfl)) ?_; (with_reducible refine (impl_wordCode.calls () _ _ y360 t363 _ ?side1 ?side2 A2.out).mono ?_); (case side1 => repeat (first | exact (Kd.R_reads' HO362.out).2.2 | (with_reducible refine Kd.C_alloc ?_ _) | (with_reducible refine Kd.C_drewN ?_ _) | (with_reducible refine Kd.C_drew ?_))); (case side2 => exact (Kd.R_reads' HO362.out).2.1); rintro e w8 ⟨rfl, hb⟩; refine ⟨_, rfl, ?_⟩; have n0_ := Aside0.mk (Kd.R_below (by (with_reducible repeat (first | apply Kd.R_alloc | apply Kd.R_drewN | apply Kd.R_drew)); exact HO362.out) hb); have n1_ := Aside0.mk (below_step (by repeat (first | (with_reducible first | exact HB.out | apply below_alloc | apply pw_below_drewN | apply below_drew1) | exact HB.out)) hb); clear HO362; clear HB; have HO362 := n0_; have HB := n1_; clear n0_ n1_; (try clear hb); (try clear hb2); (try clear hk); (try clear hi)) | ((with_reducible refine gate_callee (f := 33) rfl ?_); refine goesL_ (some 12) rfl rfl Try.func33 (by kernel_rfl) rfl #[.string a0] rfl (by (try simp only [List.map_toArray, List.map_cons, List.map_nil]); first | done | rfl | (simp only [List.length_drop, List.length_take]; rfl)) ?_; (with_reducible refine (impl_isSquareFree.calls k a0 t364 _ A4.out).mono ?_); rintro e w9 ⟨rfl, hb⟩; refine ⟨_, rfl, ?_⟩; have n0_ := Aside0.mk (Kd.R_below (by (with_reducible repeat (first | apply Kd.R_alloc | apply Kd.R_drewN | apply Kd.R_drew)); exact HO362.out) hb); have n1_ := Aside0.mk (below_step (by repeat (first | (with_reducible first | exact HB.out | apply below_alloc | apply pw_below_drewN | apply below_drew1) | exact HB.out)) hb); clear HO362; clear HB; have HO362 := n0_; have HB := n1_; clear n0_ n1_; (try clear hb); (try clear hb2); (try clear hk); (try clear hi)))
  go_ret2
  exact ⟨by first | rfl | (simp [errW_none, errW_some] <;> rfl) | (simp [*, errW_none, errW_some] <;> rfl), by repeat (first | (with_reducible first | exact HB.out | apply below_alloc | apply pw_below_drewN | apply below_drew1) | exact HB.out)⟩
 ·rw [if_neg c3] at H
  have c3b0 : (t363 == 0) = false := beq_eq_false_iff_ne.mpr c3
  have c3b1 : (t363 != 0) = true := bne_iff_ne.mpr c3
  simp only [Option.some.injEq, Prod.mk.injEq] at H
  obtain ⟨rfl, rfl⟩ := H
  go_enter Try.func11, Try.ntmps11
  go_wp2_with (first | ((with_reducible refine gate_dst (N := 6) rfl ?_); refine Kd.R_lit Kd.string _ 9 ?hg (N := 6) ?hd (xs := ([a0] : List ByteArray)) (inner := [.string a0]) (ok := fun _ => True) (okp := fun _ => True) ?hr ?hp (fun _ hk => hk) trivial (Below.refl _ _) (Nat.le_refl _) (by simp) ?_; (case hd => rfl); (case hg => rfl); (case hr => first | (go_simp; done) | (go_simp; rfl)); (case hp => exact (Reps.one (show Kd.M Kd.string _ _ _ a0 [.string a0] from rfl) (Reps.none _ _))); intro v361 w10 ho11 hb hg_ hnew_; clear hg_ hnew_; (first | rw [← Ny360.out] at ho11 | (simp only [Int.reduceToNat] at ho11; rw [← Ny360.out] at ho11)); have n0_ := Aside0.mk (Kd.R_lower ho11 (below_size (by repeat (first | (with_reducible first | exact HB.out | apply below_alloc | apply pw_below_drewN | apply below_drew1) | exact HB.out)))); have n1_ := Aside0.mk (below_step (by repeat (first | (with_reducible first | exact HB.out | apply below_alloc | apply pw_below_drewN | apply below_drew1) | exact HB.out)) hb); clear HB; have HO362 := n0_; have HB := n1_; clear n0_ n1_; clear hb ho11; obtain ⟨Ao12, co12, eo12⟩ := Kd.R_slice HO362.out; subst eo12) | ((with_reducible refine gate_callee (f := 30) rfl ?_); refine goesL_ (some 7) rfl rfl Try.func30 (by kernel_rfl) rfl #[.func (.func 43) #[] #[], .slice Ao12 y360.length co12] rfl (by (try simp only [List.map_toArray, List.map_cons, List.map_nil]); first | done | rfl | (simp only [List.length_drop, List.length_take]; rfl)) ?_; (with_reducible refine (impl_wordCode.calls () _ _ y360 t363 _ ?side1 ?side2 A2.out).mono ?_); (case side1 => repeat (first | exact (Kd.R_reads' HO362.out).2.2 | (with_reducible refine Kd.C_alloc ?_ _) | (with_reducible refine Kd.C_drewN ?_ _) | (with_reducible refine Kd.C_drew ?_))); (case side2 => exact (Kd.R_reads' HO362.out).2.1); rintro e w13 ⟨rfl, hb⟩; refine ⟨_, rfl, ?_⟩; have n0_ := Aside0.mk (Kd.R_below (by (with_reducible repeat (first | apply Kd.R_alloc | apply Kd.R_drewN | apply Kd.R_drew)); exact HO362.out) hb); have n1_ := Aside0.mk (below_step (by repeat (first | (with_reducible first | exact HB.out | apply below_alloc | apply pw_below_drewN | apply below_drew1) | exact HB.out)) hb); clear HO362; clear HB; have HO362 := n0_; have HB := n1_; clear n0_ n1_; (try clear hb); (try clear hb2); (try clear hk); (try clear hi)))
  go_ret2
  exact ⟨by first | rfl | (simp [errW_none, errW_some] <;> rfl) | (simp [*, errW_none, errW_some] <;> rfl), by repeat (first | (with_reducible first | exact HB.out | apply below_alloc | apply pw_below_drewN | apply below_drew1) | exact HB.out)⟩

end Go.Proofs.Yteakipdmpjlhiaa.Q

namespace Go.Proofs.Yteakipdmpjlhiaa.Q
open Go.RowKit Go.Proofs.YteakipdmpjlhiaaW.PrintWords Go.Proofs.YteakipdmpjlhiaaW.PrintLast Go.Proofs.YteakipdmpjlhiaaW.PrintMore
attribute [local go_sem] max2_int min2_int max_two min_two max_three min_three max_four min_four bn_leq bn_gtr bn_geq   -- for this text's walks alone
set_option linter.unusedVariables false
set_option linter.unusedSimpArgs false

/-! ### spec_DrawGreatestExponent: function 12 -/
def spec_DrawGreatestExponent.f (k : Nat) (l0 : List Int) : Option (ByteArray) := (spec_l03Spoil.f k l0).bind fun t365 => (some t365)
set_option maxHeartbeats 8000000 in
set_option maxRecDepth 100000 in
theorem spec_DrawGreatestExponent.calls (k : Nat) (A0 : Option Addr) (c0 : Nat) (l0 : List Int) (r : ByteArray) (w : World) (hr0 : Kd.C (Kd.int .u8) w A0 l0.length l0) (hc0 : l0.length ≤ c0) (h : spec_DrawGreatestExponent.f k l0 = some r) :
  Calls Try.prog 12 #[.slice A0 l0.length c0] w fun e w' => e = .returned (.string r) ∧ Below w.heap.size w w' := by
 have HR0 := Aside0.mk hr0
 have HC0 := Aside0.mk hc0
 clear hr0 hc0
 have HB := Aside0.mk (Below.refl w.heap.size w)
 have H : ((spec_l03Spoil.f k l0).bind fun t365 => (some t365)) = some r := h
 clear h
 replace H := Option.bind_eq_some_iff.mp H
 obtain ⟨t365, A20, H⟩ := H
 replace H : (some t365) = some r := H
 have A2 := Aside0.mk A20
 clear A20
 obtain rfl := Option.some.inj H
 go_enter Try.func12, Try.ntmps12
 go_wp2_with (first | ((with_reducible refine gate_callee (f := 27) rfl ?_); refine goesL_ (some 4) rfl rfl Try.func27 (by kernel_rfl) rfl #[.slice A0 l0.length c0] rfl (by (try simp only [List.map_toArray, List.map_cons, List.map_nil]); first | done | rfl | (simp only [List.length_drop, List.length_take]; rfl)) ?_; (with_reducible refine (spec_l03Spoil.calls k _ _ l0 t365 _ ?side1 ?side2 A2.out).mono ?_); (case side1 => repeat (first | exact HR0.out | (with_reducible refine Kd.C_alloc ?_ _) | (with_reducible refine Kd.C_drewN ?_ _) | (with_reducible refine Kd.C_drew ?_))); (case side2 => exact HC0.out); rintro e w3 ⟨rfl, hb⟩; refine ⟨_, rfl, ?_⟩; have n0_ := Aside0.mk (below_step (by repeat (first | (with_reducible first | exact HB.out | apply below_alloc | apply pw_below_drewN | apply below_drew1) | exact HB.out)) hb); clear HB; have HB := n0_; clear n0_; (try clear hb); (try clear hb2); (try clear hk); (try clear hi)))
 go_ret
 exact ⟨by first | rfl | (simp [errW_none, errW_some] <;> rfl) | (simp [*, errW_none, errW_some] <;> rfl), by repeat (first | (with_reducible first | exact HB.out | apply below_alloc | apply pw_below_drewN | apply below_drew1) | exact HB.out)⟩

end Go.Proofs.Yteakipdmpjlhiaa.Q

namespace Go.Proofs.Yteakipdmpjlhiaa.Q
open Go.RowKit Go.Proofs.YteakipdmpjlhiaaW.PrintWords Go.Proofs.YteakipdmpjlhiaaW.PrintLast Go.Proofs.YteakipdmpjlhiaaW.PrintMore
attribute [local go_sem] max2_int min2_int max_two min_two max_three min_three max_four min_four bn_leq bn_gtr bn_geq   -- for this text's walks alone
set_option linter.unusedVariables false
set_option linter.unusedSimpArgs false

/-! ### impl_period: function 44 -/
def impl_period.l0 : Nat → ByteArray → Int → Option (Int)
 | 0, _, _ => none
 | k + 1, x0, x3 => (impl_hasPeriod.f x0 x3).bind fun t366 => (if t366 = true then (some x3) else (impl_period.l0 k x0 (wrap64 (x3 + 1))))
def impl_period.f (k : Nat) (a0 : ByteArray) : Option (Int) := impl_period.l0 k a0 1
set_option maxHeartbeats 8000000 in
set_option maxRecDepth 100000 in
theorem impl_period.calls (k : Nat) (a0 : ByteArray) (r : Int) (w : World) (h : impl_period.f k a0 = some r) :
  Calls Try.prog 44 #[.string a0] w fun e w' => e = .returned (.int .i64 r) ∧ Drawn0 w w' := by
 have H : (impl_period.l0 k a0 1) = some r := h
 clear h
 have H' := Aside0.mk H
 clear H
 go_enter Try.func44, Try.ntmps44
 go_wp2
 go_loopg [3] k (fun kq v3 w' => ∃ (x3_1 : Int), v3 = .int .i64 x3_1 ∧ Aside0 (impl_period.l0 kq a0 x3_1 = some r) ∧ Aside0 (kq ≤ k) ∧ Drawn0 w w')
 case atStart => exact ⟨(1), (by first | rfl | (simp; done) | (simp [*]; done)), H', ⟨Nat.le_refl _⟩, by repeat (first | exact Drawn0.refl _ | apply Drawn0.step)⟩
 case round =>
  clear H'
  obtain ⟨x3_1, rfl, HA, HK1, ⟨m1, rfl⟩⟩ := hrel
  cases gk with
  | zero => exact absurd HA.out (by simp [impl_period.l0])
  | succ k1 =>
   have H := HA.out
   clear HA
   simp only [impl_period.l0] at H
   replace H := Option.bind_eq_some_iff.mp H
   obtain ⟨t366, A20, H⟩ := H
   replace H : (if t366 = true then (some x3_1) else (impl_period.l0 k1 a0 (wrap64 (x3_1 + 1)))) = some r := H
   have A2 := Aside0.mk A20
   clear A20
   by_cases c3 : t366 = true
   ·subst c3
    have H1 : (some x3_1) = some r := by rw [if_pos rfl] at H; exact H
    clear H
    have H := H1
    clear H1
    obtain rfl := Option.some.inj H
    go_wp2_with (first | ((with_reducible refine gate_callee (f := 66) rfl ?_); refine goesL_ (some 6) rfl rfl Try.func66 (by kernel_rfl) rfl #[.string a0, .int .i64 x3_1] rfl (by (try simp only [List.map_toArray, List.map_cons, List.map_nil]); first | done | rfl | (simp only [List.length_drop, List.length_take]; rfl)) ?_; (with_reducible refine (impl_hasPeriod.calls a0 x3_1 true _ A2.out).mono ?_); rintro e w' ⟨rfl, ⟨nd, rfl⟩⟩; refine ⟨_, rfl, ?_⟩))
    go_ret
    exact ⟨by first | rfl | (simp; done) | (simp [*]; done), by repeat (first | exact Drawn0.refl _ | apply Drawn0.step)⟩
   ·replace c3 := Bool.eq_false_iff.mpr c3
    subst c3
    have H1 : (impl_period.l0 k1 a0 (wrap64 (x3_1 + 1))) = some r := by rw [if_neg (show ¬ (false = true) by decide)] at H; exact H
    clear H
    have H := H1
    clear H1
    have H' := Aside0.mk H
    clear H
    go_wp2_with (first | ((with_reducible refine gate_callee (f := 66) rfl ?_); refine goesL_ (some 6) rfl rfl Try.func66 (by kernel_rfl) rfl #[.string a0, .int .i64 x3_1] rfl (by (try simp only [List.map_toArray, List.map_cons, List.map_nil]); first | done | rfl | (simp only [List.length_drop, List.length_take]; rfl)) ?_; (with_reducible refine (impl_hasPeriod.calls a0 x3_1 false _ A2.out).mono ?_); rintro e w' ⟨rfl, ⟨nd, rfl⟩⟩; refine ⟨_, rfl, ?_⟩))
    go_roundg k1
    case measure => have := HK1.out; omega
    case rel => exact ⟨(wrap64 (x3_1 + 1)), (by first | rfl | (simp; done) | (simp [*]; done)), H', ⟨by have := HK1.out; omega⟩, by repeat (first | exact Drawn0.refl _ | apply Drawn0.step)⟩

end Go.Proofs.Yteakipdmpjlhiaa.Q

namespace Go.Proofs.Yteakipdmpjlhiaa.Q
open Go.RowKit Go.Proofs.YteakipdmpjlhiaaW.PrintWords Go.Proofs.YteakipdmpjlhiaaW.PrintLast Go.Proofs.YteakipdmpjlhiaaW.PrintMore
attribute [local go_sem] max2_int min2_int max_two min_two max_three min_three max_four min_four bn_leq bn_gtr bn_geq   -- for this text's walks alone
set_option linter.unusedVariables false
set_option linter.unusedSimpArgs false

/-! ### impl_divisor: function 70 -/
def impl_divisor.l0 : Nat → Int → Int → Option (Int)
 | 0, _, _ => none
 | k + 1, x0, x1 => if x1 = 0 then (some x0) else (impl_divisor.l0 k x1 (Int.tmod x0 x1))
def impl_divisor.f (k : Nat) (a0 : Int) (a1 : Int) : Option (Int) := impl_divisor.l0 k a0 a1
set_option maxHeartbeats 8000000 in
set_option maxRecDepth 100000 in
theorem impl_divisor.calls (k : Nat) (a0 : Int) (a1 : Int) (r : Int) (w : World) (h : impl_divisor.f k a0 a1 = some r) :
  Calls Try.prog 70 #[.int .i64 a0, .int .i64 a1] w fun e w' => e = .returned (.int .i64 r) ∧ Drawn0 w w' := by
 have H : (impl_divisor.l0 k a0 a1) = some r := h
 clear h
 have H' := Aside0.mk H
 clear H
 go_enter Try.func70, Try.ntmps70
 go_wp2
 repeat (go_quiet (fail); try go_wp2)
 go_loopg [0, 1] k (fun kq v0 v1 w' => ∃ (x0_1 : Int) (x1_1 : Int), v0 = .int .i64 x0_1 ∧ v1 = .int .i64 x1_1 ∧ Aside0 (impl_divisor.l0 kq x0_1 x1_1 = some r) ∧ Aside0 (kq ≤ k) ∧ Drawn0 w w')
 case atStart => exact ⟨(a0), (a1), (by first | rfl | (simp; done) | (simp [*]; done)), (by first | rfl | (simp; done) | (simp [*]; done)), H', ⟨Nat.le_refl _⟩, by repeat (first | exact Drawn0.refl _ | apply Drawn0.step)⟩
 case round =>
  clear H'
  try clear p2
  obtain ⟨x0_1, x1_1, rfl, rfl, HA, HK1, ⟨m1, rfl⟩⟩ := hrel
  cases gk with
  | zero => exact absurd HA.out (by simp [impl_divisor.l0])
  | succ k1 =>
   have H := HA.out
   clear HA
   simp only [impl_divisor.l0] at H
   by_cases c3 : x1_1 = 0
   ·rw [if_pos c3] at H
    have c3b0 : (x1_1 == 0) = true := beq_iff_eq.mpr c3
    have c3b1 : (x1_1 != 0) = false := bne_eq_false_iff_eq.mpr c3
    clear c3
    obtain rfl := Option.some.inj H
    go_wp2
    repeat (go_quiet (fail); try go_wp2)
    go_ret
    exact ⟨by first | rfl | (simp; done) | (simp [*]; done), by repeat (first | exact Drawn0.refl _ | apply Drawn0.step)⟩
   ·rw [if_neg c3] at H
    have c3b0 : (x1_1 == 0) = false := beq_eq_false_iff_ne.mpr c3
    have c3b1 : (x1_1 != 0) = true := bne_iff_ne.mpr c3
    have H' := Aside0.mk H
    clear H
    go_wp2
    repeat (go_quiet (fail); try go_wp2)
    go_roundg k1
    case measure => have := HK1.out; omega
    case rel => exact ⟨(x1_1), (Int.tmod x0_1 x1_1), (by first | rfl | (simp; done) | (simp [*]; done)), (by first | rfl | (simp; done) | (simp [*]; done)), H', ⟨by have := HK1.out; omega⟩, by repeat (first | exact Drawn0.refl _ | apply Drawn0.step)⟩

end Go.Proofs.Yteakipdmpjlhiaa.Q

namespace Go.Proofs.Yteakipdmpjlhiaa.Q
open Go.RowKit Go.Proofs.YteakipdmpjlhiaaW.PrintWords Go.Proofs.YteakipdmpjlhiaaW.PrintLast Go.Proofs.YteakipdmpjlhiaaW.PrintMore
attribute [local go_sem] max2_int min2_int max_two min_two max_three min_three max_four min_four bn_leq bn_gtr bn_geq   -- for this text's walks alone
set_option linter.unusedVariables false
set_option linter.unusedSimpArgs false

/-! ### impl_lowest: function 45 -/
def impl_lowest.f (k : Nat) (a0 : Int) (a1 : Int) : Option (Int × Int) := (impl_divisor.f k a0 a1).bind fun t367 => (if t367 = 0 then (none) else (some (wrap64 (Int.tdiv a0 t367), wrap64 (Int.tdiv a1 t367))))
set_option maxHeartbeats 8000000 in
set_option maxRecDepth 100000 in
theorem impl_lowest.calls (k : Nat) (a0 : Int) (a1 : Int) (r1 : Int) (r2 : Int) (w : World) (h : impl_lowest.f k a0 a1 = some (r1, r2)) :
  Calls Try.prog 45 #[.int .i64 a0, .int .i64 a1] w fun e w' => e = .returned (.tuple #[.int .i64 r1, .int .i64 r2]) ∧ Drawn0 w w' := by
 have H : ((impl_divisor.f k a0 a1).bind fun t367 => (if t367 = 0 then (none) else (some (wrap64 (Int.tdiv a0 t367), wrap64 (Int.tdiv a1 t367))))) = some (r1, r2) := h
 clear h
 replace H := Option.bind_eq_some_iff.mp H
 obtain ⟨t367, A30, H⟩ := H
 replace H : (if t367 = 0 then (none) else (some (wrap64 (Int.tdiv a0 t367), wrap64 (Int.tdiv a1 t367)))) = some (r1, r2) := H
 have A3 := Aside0.mk A30
 clear A30
 by_cases c4 : t367 = 0
 ·rw [if_pos c4] at H
  exact absurd H (by simp)
 ·rw [if_neg c4] at H
  have c4b0 : (t367 == 0) = false := beq_eq_false_iff_ne.mpr c4
  have c4b1 : (t367 != 0) = true := bne_iff_ne.mpr c4
  simp only [Option.some.injEq, Prod.mk.injEq] at H
  obtain ⟨rfl, rfl⟩ := H
  go_enter Try.func45, Try.ntmps45
  go_wp2_with (first | (go_at_call 70; (with_reducible refine (impl_divisor.calls k a0 a1 t367 _ A3.out).mono ?_); rintro e w' ⟨rfl, ⟨nd, rfl⟩⟩; (try first | exact ⟨rfl, _, World.drewN_drewN _ _ _⟩ | exact ⟨rfl, _, Eq.trans (World.drewN_drewN _ _ _) (congrArg (World.drewN _) (Nat.add_assoc _ _ _))⟩)))
  repeat (go_quiet (fail); try go_wp2)
  go_ret2
  exact ⟨by first | rfl | (simp; done) | (simp [*]; done), by repeat (first | exact Drawn0.refl _ | apply Drawn0.step)⟩

end Go.Proofs.Yteakipdmpjlhiaa.Q

namespace Go.Proofs.Yteakipdmpjlhiaa.Q
open Go.RowKit Go.Proofs.YteakipdmpjlhiaaW.PrintWords Go.Proofs.YteakipdmpjlhiaaW.PrintLast Go.Proofs.YteakipdmpjlhiaaW.PrintMore
attribute [local go_sem] max2_int min2_int max_two min_two max_three min_three max_four min_four bn_leq bn_gtr bn_geq   -- for this text's walks alone
set_option linter.unusedVariables false
set_option linter.unusedSimpArgs false

/-! ### impl_GreatestExponent: function 13 -/
mutual
def impl_GreatestExponent.l0 : Nat → ByteArray → Int → Int → Int → Int → Option (Int × Int × Int)
 | 0, _, _, _, _, _ => none
 | k + 1, x0, x6, x7, x21, x22 => if x22 < x21 then (impl_GreatestExponent.l1 k x0 x6 x7 x22 (wrap64 (x22 + 1)) x21 x22) else ((impl_lowest.f k x6 x7).bind fun bt372 => (some (bt372.1, bt372.2, 0)))
def impl_GreatestExponent.l1 : Nat → ByteArray → Int → Int → Int → Int → Int → Int → Option (Int × Int × Int)
 | 0, _, _, _, _, _, _, _ => none
 | k + 1, x0, x6, x7, x8, x9, x21, x22 => if x9 ≤ (x0.size : Int) then (if 0 ≤ x8 then (if x8 ≤ x9 then ((impl_period.f k (x0.extract (x8 : Int).toNat (x9 : Int).toNat)).bind fun t374 => (if (wrap64 ((wrap64 (x9 - x8)) * x7)) > (wrap64 (x6 * t374)) then (impl_GreatestExponent.l1 k x0 (wrap64 (x9 - x8)) t374 x8 (wrap64 (x9 + 1)) x21 x22) else (impl_GreatestExponent.l1 k x0 x6 x7 x8 (wrap64 (x9 + 1)) x21 x22))) else (none)) else (none)) else (impl_GreatestExponent.l0 k x0 x6 x7 x21 (wrap64 (x22 + 1)))
end
def impl_GreatestExponent.f (k : Nat) (a0 : ByteArray) : Option (Int × Int × Int) := (impl_wordCode.f () (([a0] : List ByteArray))).bind fun t371 => (if t371 = 0 then (if a0.toList = ([] : List UInt8) then (some (0, 0, 4)) else (impl_GreatestExponent.l0 k a0 1 1 (a0.size : Int) 0)) else (some (0, 0, t371)))
set_option maxHeartbeats 8000000 in
set_option maxRecDepth 100000 in
theorem impl_GreatestExponent.calls (k : Nat) (a0 : ByteArray) (r1 : Int) (r2 : Int) (r3 : Int) (w : World) (h : impl_GreatestExponent.f k a0 = some (r1, r2, r3)) :
  Calls Try.prog 13 #[.string a0] w fun e w' => e = .returned (.tuple #[.int .i64 r1, .int .i64 r2, .int .i64 r3]) ∧ Below w.heap.size w w' := by
 have HB := Aside0.mk (Below.refl w.heap.size w)
 have H : ((impl_wordCode.f () (([a0] : List ByteArray))).bind fun t371 => (if t371 = 0 then (if a0.toList = ([] : List UInt8) then (some (0, 0, 4)) else (impl_GreatestExponent.l0 k a0 1 1 (a0.size : Int) 0)) else (some (0, 0, t371)))) = some (r1, r2, r3) := h
 clear h
 obtain ⟨y368, hy368⟩ : ∃ y_ : List ByteArray, y_ = (([a0] : List ByteArray)) := ⟨_, rfl⟩
 replace H : ((impl_wordCode.f () y368).bind fun t371 => (if t371 = 0 then (if a0.toList = ([] : List UInt8) then (some (0, 0, 4)) else (impl_GreatestExponent.l0 k a0 1 1 (a0.size : Int) 0)) else (some (0, 0, t371)))) = some (r1, r2, r3) := by first | (rw [hy368]; with_reducible exact H) | (have H2_ := (Option.bind_some _ _).symm.trans H; rw [hy368]; with_reducible exact H2_) | (have H2_ := (Option.bind_some _ _).symm.trans H; with_reducible exact H2_) | with_reducible exact H | (rw [hy368]; exact H) | exact H
 have Ny368 := Aside0.mk hy368
 clear hy368
 replace H := Option.bind_eq_some_iff.mp H
 obtain ⟨t371, A20, H⟩ := H
 replace H : (if t371 = 0 then (if a0.toList = ([] : List UInt8) then (some (0, 0, 4)) else (impl_GreatestExponent.l0 k a0 1 1 (a0.size : Int) 0)) else (some (0, 0, t371))) = some (r1, r2, r3) := H
 have A2 := Aside0.mk A20
 clear A20
 by_cases c3 : t371 = 0
 ·rw [if_pos c3] at H
  have c3b0 : (t371 == 0) = true := beq_iff_eq.mpr c3
  have c3b1 : (t371 != 0) = false := bne_eq_false_iff_eq.mpr c3
  clear c3
  by_cases c4 : a0.toList = ([] : List UInt8)
  ·rw [if_pos c4] at H
   have c4b0 : (a0.toList == ([] : List UInt8)) = true := beq_iff_eq.mpr c4
   have c4b1 : (a0.toList != ([] : List UInt8)) = false := bne_eq_false_iff_eq.mpr c4
   clear c4
   simp only [Option.some.injEq, Prod.mk.injEq] at H
   obtain ⟨rfl, rfl, rfl⟩ := H
   go_enter Try.func13, Try.ntmps13
   go_wp2_with (first | ((with_reducible refine gate_dst (N := 13) rfl ?_); refine Kd.R_lit Kd.string _ 9 ?hg (N := 13) ?hd (xs := ([a0] : List ByteArray)) (inner := [.string a0]) (ok := fun _ => True) (okp := fun _ => True) ?hr ?hp (fun _ hk => hk) trivial (Below.refl _ _) (Nat.le_refl _) (by simp) ?_; (case hd => rfl); (case hg => rfl); (case hr => first | (go_simp; done) | (go_simp; rfl)); (case hp => exact (Reps.one (show Kd.M Kd.string _ _ _ a0 [.string a0] from rfl) (Reps.none _ _))); intro v369 w5 ho6 hb hg_ hnew_; clear hg_ hnew_; (first | rw [← Ny368.out] at ho6 | (simp only [Int.reduceToNat] at ho6; rw [← Ny368.out] at ho6)); have n0_ := Aside0.mk (Kd.R_lower ho6 (below_size (by repeat (first | (with_reducible first | exact HB.out | apply below_alloc | apply pw_below_drewN | apply below_drew1) | exact HB.out)))); have n1_ := Aside0.mk (below_step (by repeat (first | (with_reducible first | exact HB.out | apply below_alloc | apply pw_below_drewN | apply below_drew1) | exact HB.out)) hb); clear HB; have HO370 := n0_; have HB := n1_; clear n0_ n1_; clear hb ho6; obtain ⟨Ao7, co7, eo7⟩ := Kd.R_slice HO370.out; subst eo7) | ((with_reducible refine gate_callee (f := 30) rfl ?_); refine goesL_ (some 14) rfl rfl Try.func30 (by kernel_rfl) rfl #[.func (.func 43) #[] #[], .slice Ao7 y368.length co7] rfl (by (try simp only [List.map_toArray, List.map_cons, List.map_nil]); first | done | rfl | (simp only [List.length_drop, List.length_take]; rfl)) ?_; (with_reducible refine (impl_wordCode.calls () _ _ y368 t371 _ ?side1 ?side2 A2.out).mono ?_); (case side1 => repeat (first | exact (Kd.R_reads' HO370.out).2.2 | (with_reducible refine Kd.C_alloc ?_ _) | (with_reducible refine Kd.C_drewN ?_ _) | (with_reducible refine Kd.C_drew ?_))); (case side2 => exact (Kd.R_reads' HO370.out).2.1); rintro e w8 ⟨rfl, hb⟩; refine ⟨_, rfl, ?_⟩; have n0_ := Aside0.mk (Kd.R_below (by (with_reducible repeat (first | apply Kd.R_alloc | apply Kd.R_drewN | apply Kd.R_drew)); exact HO370.out) hb); have n1_ := Aside0.mk (below_step (by repeat (first | (with_reducible first | exact HB.out | apply below_alloc | apply pw_below_drewN | apply below_drew1) | exact HB.out)) hb); clear HO370; clear HB; have HO370 := n0_; have HB := n1_; clear n0_ n1_; (try clear hb); (try clear hb2); (try clear hk); (try clear hi)))
   go_ret3
   exact ⟨by first | rfl | (simp [errW_none, errW_some] <;> rfl) | (simp [*, errW_none, errW_some] <;> rfl), by repeat (first | (with_reducible first | exact HB.out | apply below_alloc | apply pw_below_drewN | apply below_drew1) | exact HB.out)⟩
  ·rw [if_neg c4] at H
   have c4b0 : (a0.toList == ([] : List UInt8)) = false := beq_eq_false_iff_ne.mpr c4
   have c4b1 : (a0.toList != ([] : List UInt8)) = true := bne_iff_ne.mpr c4
   have H' := Aside0.mk H
   clear H
   go_enter Try.func13, Try.ntmps13
   go_wp2_with (first | ((with_reducible refine gate_dst (N := 13) rfl ?_); refine Kd.R_lit Kd.string _ 9 ?hg (N := 13) ?hd (xs := ([a0] : List ByteArray)) (inner := [.string a0]) (ok := fun _ => True) (okp := fun _ => True) ?hr ?hp (fun _ hk => hk) trivial (Below.refl _ _) (Nat.le_refl _) (by simp) ?_; (case hd => rfl); (case hg => rfl); (case hr => first | (go_simp; done) | (go_simp; rfl)); (case hp => exact (Reps.one (show Kd.M Kd.string _ _ _ a0 [.string a0] from rfl) (Reps.none _ _))); intro v369 w9 ho10 hb hg_ hnew_; clear hg_ hnew_; (first | rw [← Ny368.out] at ho10 | (simp only [Int.reduceToNat] at ho10; rw [← Ny368.out] at ho10)); have n0_ := Aside0.mk (Kd.R_lower ho10 (below_size (by repeat (first | (with_reducible first | exact HB.out | apply below_alloc | apply pw_below_drewN | apply below_drew1) | exact HB.out)))); have n1_ := Aside0.mk (below_step (by repeat (first | (with_reducible first | exact HB.out | apply below_alloc | apply pw_below_drewN | apply below_drew1) | exact HB.out)) hb); clear HB; have HO370 := n0_; have HB := n1_; clear n0_ n1_; clear hb ho10; obtain ⟨Ao11, co11, eo11⟩ := Kd.R_slice HO370.out; subst eo11) | ((with_reducible refine gate_callee (f := 30) rfl ?_); refine goesL_ (some 14) rfl rfl Try.func30 (by kernel_rfl) rfl #[.func (.func 43) #[] #[], .slice Ao11 y368.length co11] rfl (by (try simp only [List.map_toArray, List.map_cons, List.map_nil]); first | done | rfl | (simp only [List.length_drop, List.length_take]; rfl)) ?_; (with_reducible refine (impl_wordCode.calls () _ _ y368 t371 _ ?side1 ?side2 A2.out).mono ?_); (case side1 => repeat (first | exact (Kd.R_reads' HO370.out).2.2 | (with_reducible refine Kd.C_alloc ?_ _) | (with_reducible refine Kd.C_drewN ?_ _) | (with_reducible refine Kd.C_drew ?_))); (case side2 => exact (Kd.R_reads' HO370.out).2.1); rintro e w12 ⟨rfl, hb⟩; refine ⟨_, rfl, ?_⟩; have n0_ := Aside0.mk (Kd.R_below (by (with_reducible repeat (first | apply Kd.R_alloc | apply Kd.R_drewN | apply Kd.R_drew)); exact HO370.out) hb); have n1_ := Aside0.mk (below_step (by repeat (first | (with_reducible first | exact HB.out | apply below_alloc | apply pw_below_drewN | apply below_drew1) | exact HB.out)) hb); clear HO370; clear HB; have HO370 := n0_; have HB := n1_; clear n0_ n1_; (try clear hb); (try clear hb2); (try clear hk); (try clear hi)))
   go_loopg [6, 7, 22] k (fun kq v6 v7 v22 w' => ∃ (x6_1 : Int) (x7_1 : Int) (x22_1 : Int), v6 = .int .i64 x6_1 ∧ v7 = .int .i64 x7_1 ∧ v22 = .int .i64 x22_1 ∧ Aside0 (impl_GreatestExponent.l0 kq a0 x6_1 x7_1 (a0.size : Int) x22_1 = some (r1, r2, r3)) ∧ Aside0 (kq ≤ k) ∧ Aside0 (Below w.heap.size w w'))
   case atStart => exact ⟨(1), (1), (0), (by first | rfl | (simp; done) | (simp [*]; done)), (by first | rfl | (simp; done) | (simp [*]; done)), (by first | rfl | (simp; done) | (simp [*]; done)), H', ⟨Nat.le_refl _⟩, ⟨by repeat (first | (with_reducible first | exact HB.out | apply below_alloc | apply pw_below_drewN | apply below_drew1) | exact HB.out)⟩⟩
   case round =>
    clear H'
    try clear c1
    try clear p2
    try clear c3
    try clear c3b0
    try clear c3b1
    try clear c4
    try clear c4b0
    try clear c4b1
    obtain ⟨x6_1, x7_1, x22_1, rfl, rfl, rfl, HA, HK1, HB⟩ := hrel
    cases gk with
    | zero => exact absurd HA.out (by simp [impl_GreatestExponent.l0])
    | succ k1 =>
     have H := HA.out
     clear HA
     simp only [impl_GreatestExponent.l0] at H
     by_cases c13 : x22_1 < (a0.size : Int)
     ·rw [if_pos c13] at H
      have c13b0 : decide (x22_1 < (a0.size : Int)) = true := decide_eq_true c13
      clear c13
      have H' := Aside0.mk H
      clear H
      go_wp2
      go_loopg [6, 7, 9] k1 (fun kq v6 v7 v9 w' => ∃ (x6_2 : Int) (x7_2 : Int) (x9_2 : Int), v6 = .int .i64 x6_2 ∧ v7 = .int .i64 x7_2 ∧ v9 = .int .i64 x9_2 ∧ Aside0 (impl_GreatestExponent.l1 kq a0 x6_2 x7_2 x22_1 x9_2 (a0.size : Int) x22_1 = some (r1, r2, r3)) ∧ Aside0 (kq ≤ k1) ∧ Aside0 (Below w.heap.size w w'))
      case atStart => exact ⟨(x6_1), (x7_1), (wrap64 (x22_1 + 1)), (by first | rfl | (simp; done) | (simp [*]; done)), (by first | rfl | (simp; done) | (simp [*]; done)), (by first | rfl | (simp; done) | (simp [*]; done)), H', ⟨Nat.le_refl _⟩, ⟨by repeat (first | (with_reducible first | exact HB.out | apply below_alloc | apply pw_below_drewN | apply below_drew1) | exact HB.out)⟩⟩
      case round =>
       clear H'
       try clear c1
       try clear p2
       try clear c3
       try clear c3b0
       try clear c3b1
       try clear c4
       try clear c4b0
       try clear c4b1
       try clear p6
       try clear c13
       try clear c13b0
       try clear p2
       obtain ⟨x6_2, x7_2, x9_2, rfl, rfl, rfl, HA, HK2, HB⟩ := hrel
       cases gk with
       | zero => exact absurd HA.out (by simp [impl_GreatestExponent.l1])
       | succ k2 =>
        have H := HA.out
        clear HA
        simp only [impl_GreatestExponent.l1] at H
        by_cases c14 : x9_2 ≤ (a0.size : Int)
        ·rw [if_pos c14] at H
         have c14b0 : decide (x9_2 ≤ (a0.size : Int)) = true := decide_eq_true c14
         clear c14
         by_cases c15 : 0 ≤ x22_1
         ·rw [if_pos c15] at H
          have c15b0 := eq_true c15
          have c15b1 : decide (0 ≤ x22_1) = true := decide_eq_true c15
          clear c15
          by_cases c16 : x22_1 ≤ x9_2
          ·rw [if_pos c16] at H
           have c16b0 := eq_true c16
           have c16b1 : decide (x22_1 ≤ x9_2) = true := decide_eq_true c16
           clear c16
           have c17b0 := eq_true (of_decide_eq_true (by first | (with_reducible assumption) | assumption) : x9_2 ≤ (a0.size : Int))
           replace H := Option.bind_eq_some_iff.mp H
           obtain ⟨t374, A180, H⟩ := H
           replace H : (if (wrap64 ((wrap64 (x9_2 - x22_1)) * x7_2)) > (wrap64 (x6_2 * t374)) then (impl_GreatestExponent.l1 k2 a0 (wrap64 (x9_2 - x22_1)) t374 x22_1 (wrap64 (x9_2 + 1)) (a0.size : Int) x22_1) else (impl_GreatestExponent.l1 k2 a0 x6_2 x7_2 x22_1 (wrap64 (x9_2 + 1)) (a0.size : Int) x22_1)) = some (r1, r2, r3) := H
           have A18 := Aside0.mk A180
           clear A180
           by_cases c19 : (wrap64 ((wrap64 (x9_2 - x22_1)) * x7_2)) > (wrap64 (x6_2 * t374))
           ·rw [if_pos c19] at H
            have c19b0 : decide ((wrap64 (x6_2 * t374)) < (wrap64 ((wrap64 (x9_2 - x22_1)) * x7_2))) = true := decide_eq_true c19
            clear c19
            have H' := Aside0.mk H
            clear H
            go_wp2_with (first | ((with_reducible refine gate_callee (f := 44) rfl ?_); refine goesL_ (some 40) rfl rfl Try.func44 (by kernel_rfl) rfl #[.string (a0.extract (x22_1 : Int).toNat (x9_2 : Int).toNat)] rfl (by (try simp only [List.map_toArray, List.map_cons, List.map_nil]); first | done | rfl | (simp only [List.length_drop, List.length_take]; rfl)) ?_; (with_reducible refine (impl_period.calls k2 (a0.extract (x22_1 : Int).toNat (x9_2 : Int).toNat) t374 _ A18.out).mono ?_); rintro e w' ⟨rfl, ⟨nd, rfl⟩⟩; refine ⟨_, rfl, ?_⟩))
            go_roundg k2
            case measure => have := HK1.out; have := HK2.out; omega
            case rel => exact ⟨(wrap64 (x9_2 - x22_1)), (t374), (wrap64 (x9_2 + 1)), (by first | rfl | (simp; done) | (simp [*]; done)), (by first | rfl | (simp; done) | (simp [*]; done)), (by first | rfl | (simp; done) | (simp [*]; done)), H', ⟨by have := HK1.out; have := HK2.out; omega⟩, ⟨by repeat (first | (with_reducible first | exact HB.out | apply below_alloc | apply pw_below_drewN | apply below_drew1) | exact HB.out)⟩⟩
           ·rw [if_neg c19] at H
            have c19b0 : decide ((wrap64 (x6_2 * t374)) < (wrap64 ((wrap64 (x9_2 - x22_1)) * x7_2))) = false := decide_eq_false c19
            clear c19
            have H' := Aside0.mk H
            clear H
            go_wp2_with (first | ((with_reducible refine gate_callee (f := 44) rfl ?_); refine goesL_ (some 40) rfl rfl Try.func44 (by kernel_rfl) rfl #[.string (a0.extract (x22_1 : Int).toNat (x9_2 : Int).toNat)] rfl (by (try simp only [List.map_toArray, List.map_cons, List.map_nil]); first | done | rfl | (simp only [List.length_drop, List.length_take]; rfl)) ?_; (with_reducible refine (impl_period.calls k2 (a0.extract (x22_1 : Int).toNat (x9_2 : Int).toNat) t374 _ A18.out).mono ?_); rintro e w' ⟨rfl, ⟨nd, rfl⟩⟩; refine ⟨_, rfl, ?_⟩))
            go_roundg k2
            case measure => have := HK1.out; have := HK2.out; omega
            case rel => exact ⟨(x6_2), (x7_2), (wrap64 (x9_2 + 1)), (by first | rfl | (simp; done) | (simp [*]; done)), (by first | rfl | (simp; done) | (simp [*]; done)), (by first | rfl | (simp; done) | (simp [*]; done)), H', ⟨by have := HK1.out; have := HK2.out; omega⟩, ⟨by repeat (first | (with_reducible first | exact HB.out | apply below_alloc | apply pw_below_drewN | apply below_drew1) | exact HB.out)⟩⟩
          ·rw [if_neg c16] at H
           exact absurd H (by simp)
         ·rw [if_neg c15] at H
          exact absurd H (by simp)
        ·rw [if_neg c14] at H
         have c14b0 : decide (x9_2 ≤ (a0.size : Int)) = false := decide_eq_false c14
         clear c14
         have H' := Aside0.mk H
         clear H
         go_wp2
         go_roundg k2
         case measure => have := HK1.out; have := HK2.out; omega
         case rel => exact ⟨(x6_2), (x7_2), (wrap64 (x22_1 + 1)), (by first | rfl | (simp; done) | (simp [*]; done)), (by first | rfl | (simp; done) | (simp [*]; done)), (by first | rfl | (simp; done) | (simp [*]; done)), H', ⟨by have := HK1.out; have := HK2.out; omega⟩, ⟨by repeat (first | (with_reducible first | exact HB.out | apply below_alloc | apply pw_below_drewN | apply below_drew1) | exact HB.out)⟩⟩
     ·rw [if_neg c13] at H
      have c13b0 : decide (x22_1 < (a0.size : Int)) = false := decide_eq_false c13
      clear c13
      replace H := Option.bind_eq_some_iff.mp H
      obtain ⟨⟨t372, t373⟩, A200, H⟩ := H
      replace H : (some (t372, t373, 0)) = some (r1, r2, r3) := H
      have A20 := Aside0.mk A200
      clear A200
      simp only [Option.some.injEq, Prod.mk.injEq] at H
      obtain ⟨rfl, rfl, rfl⟩ := H
      go_wp2_with (first | ((with_reducible refine gate_callee (f := 45) rfl ?_); refine goesL_ (some 54) rfl rfl Try.func45 (by kernel_rfl) rfl #[.int .i64 x6_1, .int .i64 x7_1] rfl (by (try simp only [List.map_toArray, List.map_cons, List.map_nil]); first | done | rfl | (simp only [List.length_drop, List.length_take]; rfl)) ?_; (with_reducible refine (impl_lowest.calls k1 x6_1 x7_1 t372 t373 _ A20.out).mono ?_); rintro e w' ⟨rfl, ⟨nd, rfl⟩⟩; refine ⟨_, rfl, ?_⟩))
      go_ret3
      exact ⟨by first | rfl | (simp [errW_none, errW_some] <;> rfl) | (simp [*, errW_none, errW_some] <;> rfl), by repeat (first | (with_reducible first | exact HB.out | apply below_alloc | apply pw_below_drewN | apply below_drew1) | exact HB.out)⟩
 ·rw [if_neg c3] at H
  have c3b0 : (t371 == 0) = false := beq_eq_false_iff_ne.mpr c3
  have c3b1 : (t371 != 0) = true := bne_iff_ne.mpr c3
  simp only [Option.some.injEq, Prod.mk.injEq] at H
  obtain ⟨rfl, rfl, rfl⟩ := H
  go_enter Try.func13, Try.ntmps13
  go_wp2_with (first | ((with_reducible refine gate_dst (N := 13) rfl ?_); refine Kd.R_lit Kd.string _ 9 ?hg (N := 13) ?hd (xs := ([a0] : List ByteArray)) (inner := [.string a0]) (ok := fun _ => True) (okp := fun _ => True) ?hr ?hp (fun _ hk => hk) trivial (Below.refl _ _) (Nat.le_refl _) (by simp) ?_; (case hd => rfl); (case hg => rfl); (case hr => first | (go_simp; done) | (go_simp; rfl)); (case hp => exact (Reps.one (show Kd.M Kd.string _ _ _ a0 [.string a0] from rfl) (Reps.none _ _))); intro v369 w21 ho22 hb hg_ hnew_; clear hg_ hnew_; (first | rw [← Ny368.out] at ho22 | (simp only [Int.reduceToNat] at ho22; rw [← Ny368.out] at ho22)); have n0_ := Aside0.mk (Kd.R_lower ho22 (below_size (by repeat (first | (with_reducible first | exact HB.out | apply below_alloc | apply pw_below_drewN | apply below_drew1) | exact HB.out)))); have n1_ := Aside0.mk (below_step (by repeat (first | (with_reducible first | exact HB.out | apply below_alloc | apply pw_below_drewN | apply below_drew1) | exact HB.out)) hb); clear HB; have HO370 := n0_; have HB := n1_; clear n0_ n1_; clear hb ho22; obtain ⟨Ao23, co23, eo23⟩ := Kd.R_slice HO370.out; subst eo23) | ((with_reducible refine gate_callee (f := 30) rfl ?_); refine goesL_ (some 14) rfl rfl Try.func30 (by kernel_rfl) rfl #[.func (.func 43) #[] #[], .slice Ao23 y368.length co23] rfl (by (try simp only [List.map_toArray, List.map_cons, List.map_nil]); first | done | rfl | (simp only [List.length_drop, List.length_take]; rfl)) ?_; (with_reducible refine (impl_wordCode.calls () _ _ y368 t371 _ ?side1 ?side2 A2.out).mono ?_); (case side1 => repeat (first | exact (Kd.R_reads' HO370.out).2.2 | (with_reducible refine Kd.C_alloc ?_ _) | (with_reducible refine Kd.C_drewN ?_ _) | (with_reducible refine Kd.C_drew ?_))); (case side2 => exact (Kd.R_reads' HO370.out).2.1); rintro e w24 ⟨rfl, hb⟩; refine ⟨_, rfl, ?_⟩; have n0_ := Aside0.mk (Kd.R_below (by (with_reducible repeat (first | apply Kd.R_alloc | apply Kd.R_drewN | apply Kd.R_drew)); exact HO370.out) hb); have n1_ := Aside0.mk (below_step (by repeat (first | (with_reducible first | exact HB.out | apply below_alloc | apply pw_below_drewN | apply below_drew1) | exact HB.out)) hb); clear HO370; clear HB; have HO370 := n0_; have HB := n1_; clear n0_ n1_; (try clear hb); (try clear hb2); (try clear hk); (try clear hi)))
  go_ret3
  exact ⟨by first | rfl | (simp [errW_none, errW_some] <;> rfl) | (simp [*, errW_none, errW_some] <;> rfl), by repeat (first | (with_reducible first | exact HB.out | apply below_alloc | apply pw_below_drewN | apply below_drew1) | exact HB.out)⟩

end Go.Proofs.Yteakipdmpjlhiaa.Q

namespace Go.Proofs.Yteakipdmpjlhiaa.Q
open Go.RowKit Go.Proofs.YteakipdmpjlhiaaW.PrintWords Go.Proofs.YteakipdmpjlhiaaW.PrintLast Go.Proofs.YteakipdmpjlhiaaW.PrintMore
attribute [local go_sem] max2_int min2_int max_two min_two max_three min_three max_four min_four bn_leq bn_gtr bn_geq   -- for this text's walks alone
set_option linter.unusedVariables false
set_option linter.unusedSimpArgs false

/-! ### spec_l03Period: function 46 -/
mutual
def spec_l03Period.l0 : Nat → ByteArray → Int → Int → Int → Option (Int)
 | 0, _, _, _, _ => none
 | k + 1, x0, x1, x2, x7 => if x7 < (wrap64 (x2 - x1)) then (spec_l03Period.l1 k x0 x1 x2 x7 true x1) else (some (wrap64 (x2 - x1)))
def spec_l03Period.l1 : Nat → ByteArray → Int → Int → Int → Bool → Int → Option (Int)
 | 0, _, _, _, _, _, _ => none
 | k + 1, x0, x1, x2, x7, x8, x9 => if (wrap64 (x9 + x7)) < x2 then (if x8 = true then (if 0 ≤ x9 then (if x9 < (x0.size : Int) then (if 0 ≤ (wrap64 (x9 + x7)) then (if (wrap64 (x9 + x7)) < (x0.size : Int) then (spec_l03Period.l1 k x0 x1 x2 x7 ((bt x0 x9) == (bt x0 (wrap64 (x9 + x7)))) (wrap64 (x9 + 1))) else (none)) else (none)) else (none)) else (none)) else (spec_l03Period.l0 k x0 x1 x2 (wrap64 (x7 + 1)))) else (if x8 = true then (some x7) else (spec_l03Period.l0 k x0 x1 x2 (wrap64 (x7 + 1))))
end
def spec_l03Period.f (k : Nat) (a0 : ByteArray) (a1 : Int) (a2 : Int) : Option (Int) := spec_l03Period.l0 k a0 a1 a2 1
set_option maxHeartbeats 8000000 in
set_option maxRecDepth 100000 in
theorem spec_l03Period.calls (k : Nat) (a0 : ByteArray) (a1 : Int) (a2 : Int) (r : Int) (w : World) (h : spec_l03Period.f k a0 a1 a2 = some r) :
  Calls Try.prog 46 #[.string a0, .int .i64 a1, .int .i64 a2] w fun e w' => e = .returned (.int .i64 r) ∧ Drawn0 w w' := by
 have H : (spec_l03Period.l0 k a0 a1 a2 1) = some r := h
 clear h
 have H' := Aside0.mk H
 clear H
 go_enter Try.func46, Try.ntmps46
 go_wp2
 repeat (go_quiet (fail); try go_wp2)
 go_loopg [7] k (fun kq v7 w' => ∃ (x7_1 : Int), v7 = .int .i64 x7_1 ∧ Aside0 (spec_l03Period.l0 kq a0 a1 a2 x7_1 = some r) ∧ Aside0 (kq ≤ k) ∧ Drawn0 w w')
 case atStart => exact ⟨(1), (by first | rfl | (simp; done) | (simp [*]; done)), H', ⟨Nat.le_refl _⟩, by repeat (first | exact Drawn0.refl _ | apply Drawn0.step)⟩
 case round =>
  clear H'
  try clear p2
  obtain ⟨x7_1, rfl, HA, HK1, ⟨m1, rfl⟩⟩ := hrel
  cases gk with
  | zero => exact absurd HA.out (by simp [spec_l03Period.l0])
  | succ k1 =>
   have H := HA.out
   clear HA
   simp only [spec_l03Period.l0] at H
   by_cases c4 : x7_1 < (wrap64 (a2 - a1))
   ·rw [if_pos c4] at H
    have c4b0 : decide (x7_1 < (wrap64 (a2 - a1))) = true := decide_eq_true c4
    clear c4
    have H' := Aside0.mk H
    clear H
    go_wp2
    repeat (go_quiet (fail); try go_wp2)
    go_loopg [8, 9] k1 (fun kq v8 v9 w' => ∃ (x8_2 : Bool) (x9_2 : Int), v8 = .bool x8_2 ∧ v9 = .int .i64 x9_2 ∧ Aside0 (spec_l03Period.l1 kq a0 a1 a2 x7_1 x8_2 x9_2 = some r) ∧ Aside0 (kq ≤ k1) ∧ Drawn0 w w')
    case atStart => exact ⟨(true), (a1), (by first | rfl | (simp; done) | (simp [*]; done)), (by first | rfl | (simp; done) | (simp [*]; done)), H', ⟨Nat.le_refl _⟩, by repeat (first | exact Drawn0.refl _ | apply Drawn0.step)⟩
    case round =>
     clear H'
     try clear p2
     try clear c4
     try clear c4b0
     try clear p2
     obtain ⟨x8_2, x9_2, rfl, rfl, HA, HK2, ⟨m2, rfl⟩⟩ := hrel
     cases gk with
     | zero => exact absurd HA.out (by simp [spec_l03Period.l1])
     | succ k2 =>
      have H := HA.out
      clear HA
      simp only [spec_l03Period.l1] at H
      by_cases c5 : (wrap64 (x9_2 + x7_1)) < a2
      ·rw [if_pos c5] at H
       have c5b0 : decide ((wrap64 (x9_2 + x7_1)) < a2) = true := decide_eq_true c5
       clear c5
       by_cases c6 : x8_2 = true
       ·subst c6
        have H1 : (if 0 ≤ x9_2 then (if x9_2 < (a0.size : Int) then (if 0 ≤ (wrap64 (x9_2 + x7_1)) then (if (wrap64 (x9_2 + x7_1)) < (a0.size : Int) then (spec_l03Period.l1 k2 a0 a1 a2 x7_1 ((bt a0 x9_2) == (bt a0 (wrap64 (x9_2 + x7_1)))) (wrap64 (x9_2 + 1))) else (none)) else (none)) else (none)) else (none)) = some r := by rw [if_pos rfl] at H; exact H
        clear H
        have H := H1
        clear H1
        by_cases c7 : 0 ≤ x9_2
        ·rw [if_pos c7] at H
         have c7b0 : decide (0 ≤ x9_2) = true := decide_eq_true c7
         clear c7
         by_cases c8 : x9_2 < (a0.size : Int)
         ·rw [if_pos c8] at H
          have c8b0 : decide (x9_2 < (a0.size : Int)) = true := decide_eq_true c8
          clear c8
          obtain ⟨ji10, hji10⟩ : ∃ j_ : Int, (wrap64 (x9_2 + x7_1)) = j_ := ⟨_, rfl⟩
          replace H : (if 0 ≤ (ji10) then (if (ji10) < (a0.size : Int) then (spec_l03Period.l1 k2 a0 a1 a2 x7_1 ((bt a0 x9_2) == (bt a0 (ji10))) (wrap64 (x9_2 + 1))) else (none)) else (none)) = some r := by first | (rw [hji10] at H; exact H) | (simp only [hji10] at H ⊢; exact H)
          (try rw [hji10] at c5b0)
          have hji10w : (IntKind.i64.wrap (x9_2 + x7_1)) = ji10 := (i64_w _).trans hji10
          by_cases c11 : 0 ≤ (ji10)
          ·rw [if_pos c11] at H
           have c11b0 : decide (0 ≤ (ji10)) = true := decide_eq_true c11
           clear c11
           by_cases c12 : (ji10) < (a0.size : Int)
           ·rw [if_pos c12] at H
            have c12b0 : decide ((ji10) < (a0.size : Int)) = true := decide_eq_true c12
            clear c12
            have H' := Aside0.mk H
            clear H
            have p9 : 0 ≤ (x9_2 : Int) := of_decide_eq_true (by first | (with_reducible assumption) | assumption)
            have q9 : x9_2 < (a0.size : Int) := of_decide_eq_true (by first | (with_reducible assumption) | assumption)
            have hx9 := bt_at a0 x9_2
            replace p9 := eq_true p9
            replace q9 := eq_true q9
            have p13 : 0 ≤ ((ji10) : Int) := of_decide_eq_true (by first | (with_reducible assumption) | assumption)
            have q13 : (ji10) < (a0.size : Int) := of_decide_eq_true (by first | (with_reducible assumption) | assumption)
            have hx13 := bt_at a0 (ji10)
            replace p13 := eq_true p13
            replace q13 := eq_true q13
            go_wp2
            repeat (go_quiet (fail); try go_wp2)
            go_roundg k2
            case measure => have := HK1.out; have := HK2.out; omega
            case rel => exact ⟨(((bt a0 x9_2) == (bt a0 (ji10)))), (wrap64 (x9_2 + 1)), (by first | rfl | (simp; done) | (simp only [← hji10] <;> (first | rfl | simp)) | (simp [*]; done)), (by first | rfl | (simp; done) | (simp [*]; done)), H', ⟨by have := HK1.out; have := HK2.out; omega⟩, by repeat (first | exact Drawn0.refl _ | apply Drawn0.step)⟩
           ·rw [if_neg c12] at H
            exact absurd H (by simp)
          ·rw [if_neg c11] at H
           exact absurd H (by simp)
         ·rw [if_neg c8] at H
          exact absurd H (by simp)
        ·rw [if_neg c7] at H
         exact absurd H (by simp)
       ·replace c6 := Bool.eq_false_iff.mpr c6
        subst c6
        have H1 : (spec_l03Period.l0 k2 a0 a1 a2 (wrap64 (x7_1 + 1))) = some r := by rw [if_neg (show ¬ (false = true) by decide)] at H; exact H
        clear H
        have H := H1
        clear H1
        have H' := Aside0.mk H
        clear H
        go_wp2
        repeat (go_quiet (fail); try go_wp2)
        go_roundg k2
        case measure => have := HK1.out; have := HK2.out; omega
        case rel => exact ⟨(wrap64 (x7_1 + 1)), (by first | rfl | (simp; done) | (simp [*]; done)), H', ⟨by have := HK1.out; have := HK2.out; omega⟩, by repeat (first | exact Drawn0.refl _ | apply Drawn0.step)⟩
      ·rw [if_neg c5] at H
       have c5b0 : decide ((wrap64 (x9_2 + x7_1)) < a2) = false := decide_eq_false c5
       clear c5
       by_cases c14 : x8_2 = true
       ·subst c14
        have H1 : (some x7_1) = some r := by rw [if_pos rfl] at H; exact H
        clear H
        have H := H1
        clear H1
        obtain rfl := Option.some.inj H
        go_wp2
        repeat (go_quiet (fail); try go_wp2)
        go_ret
        exact ⟨by first | rfl | (simp; done) | (simp [*]; done), by repeat (first | exact Drawn0.refl _ | apply Drawn0.step)⟩
       ·replace c14 := Bool.eq_false_iff.mpr c14
        subst c14
        have H1 : (spec_l03Period.l0 k2 a0 a1 a2 (wrap64 (x7_1 + 1))) = some r := by rw [if_neg (show ¬ (false = true) by decide)] at H; exact H
        clear H
        have H := H1
        clear H1
        have H' := Aside0.mk H
        clear H
        go_wp2
        repeat (go_quiet (fail); try go_wp2)
        go_roundg k2
        case measure => have := HK1.out; have := HK2.out; omega
        case rel => exact ⟨(wrap64 (x7_1 + 1)), (by first | rfl | (simp; done) | (simp [*]; done)), H', ⟨by have := HK1.out; have := HK2.out; omega⟩, by repeat (first | exact Drawn0.refl _ | apply Drawn0.step)⟩
   ·rw [if_neg c4] at H
    have c4b0 : decide (x7_1 < (wrap64 (a2 - a1))) = false := decide_eq_false c4
    clear c4
    obtain rfl := Option.some.inj H
    go_wp2
    repeat (go_quiet (fail); try go_wp2)
    go_ret
    exact ⟨by first | rfl | (simp; done) | (simp [*]; done), by repeat (first | exact Drawn0.refl _ | apply Drawn0.step)⟩

end Go.Proofs.Yteakipdmpjlhiaa.Q

namespace Go.Proofs.Yteakipdmpjlhiaa.Q
open Go.RowKit Go.Proofs.YteakipdmpjlhiaaW.PrintWords Go.Proofs.YteakipdmpjlhiaaW.PrintLast Go.Proofs.YteakipdmpjlhiaaW.PrintMore
attribute [local go_sem] max2_int min2_int max_two min_two max_three min_three max_four min_four bn_leq bn_gtr bn_geq   -- for this text's walks alone
set_option linter.unusedVariables false
set_option linter.unusedSimpArgs false

/-! ### spec_GreatestExponent: function 14 -/
mutual
def spec_GreatestExponent.l0 : Nat → ByteArray → Int → Int → Int → Int → Option (Int × Int × Int)
 | 0, _, _, _, _, _ => none
 | k + 1, x0, x5, x6, x7, x8 => if x8 < x7 then (spec_GreatestExponent.l1 k x0 x5 x6 x7 x8 (wrap64 (x8 + 1))) else (spec_GreatestExponent.l2 k x5 x6 x5 x6)
def spec_GreatestExponent.l1 : Nat → ByteArray → Int → Int → Int → Int → Int → Option (Int × Int × Int)
 | 0, _, _, _, _, _, _ => none
 | k + 1, x0, x5, x6, x7, x8, x9 => if x9 ≤ x7 then ((spec_l03Period.f k x0 x8 x9).bind fun t376 => (if (wrap64 ((wrap64 (x9 - x8)) * x6)) > (wrap64 (x5 * t376)) then (spec_GreatestExponent.l1 k x0 (wrap64 (x9 - x8)) t376 x7 x8 (wrap64 (x9 + 1))) else (spec_GreatestExponent.l1 k x0 x5 x6 x7 x8 (wrap64 (x9 + 1))))) else (spec_GreatestExponent.l0 k x0 x5 x6 x7 (wrap64 (x8 + 1)))
def spec_GreatestExponent.l2 : Nat → Int → Int → Int → Int → Option (Int × Int × Int)
 | 0, _, _, _, _ => none
 | k + 1, x5, x6, x11, x12 => if x12 = 0 then (if x11 = 0 then (none) else (some (wrap64 (Int.tdiv x5 x11), wrap64 (Int.tdiv x6 x11), 0))) else (spec_GreatestExponent.l2 k x5 x6 x12 (Int.tmod x11 x12))
end
def spec_GreatestExponent.f (k : Nat) (a0 : ByteArray) : Option (Int × Int × Int) := (spec_l01Is.f k a0).bind fun t375 => (if t375 = true then (if a0.toList = ([] : List UInt8) then (some (0, 0, 4)) else (spec_GreatestExponent.l0 k a0 1 1 (a0.size : Int) 0)) else (some (0, 0, 1)))
set_option maxHeartbeats 8000000 in
set_option maxRecDepth 100000 in
theorem spec_GreatestExponent.calls (k : Nat) (a0 : ByteArray) (r1 : Int) (r2 : Int) (r3 : Int) (w : World) (h : spec_GreatestExponent.f k a0 = some (r1, r2, r3)) :
  Calls Try.prog 14 #[.string a0] w fun e w' => e = .returned (.tuple #[.int .i64 r1, .int .i64 r2, .int .i64 r3]) ∧ Drawn0 w w' := by
 have H : ((spec_l01Is.f k a0).bind fun t375 => (if t375 = true then (if a0.toList = ([] : List UInt8) then (some (0, 0, 4)) else (spec_GreatestExponent.l0 k a0 1 1 (a0.size : Int) 0)) else (some (0, 0, 1)))) = some (r1, r2, r3) := h
 clear h
 replace H := Option.bind_eq_some_iff.mp H
 obtain ⟨t375, A20, H⟩ := H
 replace H : (if t375 = true then (if a0.toList = ([] : List UInt8) then (some (0, 0, 4)) else (spec_GreatestExponent.l0 k a0 1 1 (a0.size : Int) 0)) else (some (0, 0, 1))) = some (r1, r2, r3) := H
 have A2 := Aside0.mk A20
 clear A20
 by_cases c3 : t375 = true
 ·subst c3
  have H1 : (if a0.toList = ([] : List UInt8) then (some (0, 0, 4)) else (spec_GreatestExponent.l0 k a0 1 1 (a0.size : Int) 0)) = some (r1, r2, r3) := by rw [if_pos rfl] at H; exact H
  clear H
  have H := H1
  clear H1
  by_cases c4 : a0.toList = ([] : List UInt8)
  ·rw [if_pos c4] at H
   have c4b0 : (a0.toList == ([] : List UInt8)) = true := beq_iff_eq.mpr c4
   have c4b1 : (a0.toList != ([] : List UInt8)) = false := bne_eq_false_iff_eq.mpr c4
   clear c4
   simp only [Option.some.injEq, Prod.mk.injEq] at H
   obtain ⟨rfl, rfl, rfl⟩ := H
   go_enter Try.func14, Try.ntmps14
   go_wp2_with (first | (go_at_call 36; (with_reducible refine (spec_l01Is.calls k a0 true _ A2.out).mono ?_); rintro e w' ⟨rfl, ⟨nd, rfl⟩⟩; (try first | exact ⟨rfl, _, World.drewN_drewN _ _ _⟩ | exact ⟨rfl, _, Eq.trans (World.drewN_drewN _ _ _) (congrArg (World.drewN _) (Nat.add_assoc _ _ _))⟩)))
   repeat (go_quiet (fail); try go_wp2)
   go_ret3
   exact ⟨by first | rfl | (simp; done) | (simp [*]; done), by repeat (first | exact Drawn0.refl _ | apply Drawn0.step)⟩
  ·rw [if_neg c4] at H
   have c4b0 : (a0.toList == ([] : List UInt8)) = false := beq_eq_false_iff_ne.mpr c4
   have c4b1 : (a0.toList != ([] : List UInt8)) = true := bne_iff_ne.mpr c4
   have H' := Aside0.mk H
   clear H
   go_enter Try.func14, Try.ntmps14
   go_wp2_with (first | (go_at_call 36; (with_reducible refine (spec_l01Is.calls k a0 true _ A2.out).mono ?_); rintro e w' ⟨rfl, ⟨nd, rfl⟩⟩; (try first | exact ⟨rfl, _, World.drewN_drewN _ _ _⟩ | exact ⟨rfl, _, Eq.trans (World.drewN_drewN _ _ _) (congrArg (World.drewN _) (Nat.add_assoc _ _ _))⟩)))
   repeat (go_quiet (fail); try go_wp2)
   go_loopg [5, 6, 8] k (fun kq v5 v6 v8 w' => ∃ (x5_1 : Int) (x6_1 : Int) (x8_1 : Int), v5 = .int .i64 x5_1 ∧ v6 = .int .i64 x6_1 ∧ v8 = .int .i64 x8_1 ∧ Aside0 (spec_GreatestExponent.l0 kq a0 x5_1 x6_1 (a0.size : Int) x8_1 = some (r1, r2, r3)) ∧ Aside0 (kq ≤ k) ∧ Drawn0 w w')
   case atStart => exact ⟨(1), (1), (0), (by first | rfl | (simp; done) | (simp [*]; done)), (by first | rfl | (simp; done) | (simp [*]; done)), (by first | rfl | (simp; done) | (simp [*]; done)), H', ⟨Nat.le_refl _⟩, by repeat (first | exact Drawn0.refl _ | apply Drawn0.step)⟩
   case round =>
    clear H'
    try clear c1
    try clear p2
    try clear c3
    try clear c4
    try clear c4b0
    try clear c4b1
    obtain ⟨x5_1, x6_1, x8_1, rfl, rfl, rfl, HA, HK1, ⟨m1, rfl⟩⟩ := hrel
    cases gk with
    | zero => exact absurd HA.out (by simp [spec_GreatestExponent.l0])
    | succ k1 =>
     have H := HA.out
     clear HA
     simp only [spec_GreatestExponent.l0] at H
     by_cases c5 : x8_1 < (a0.size : Int)
     ·rw [if_pos c5] at H
      have c5b0 : decide (x8_1 < (a0.size : Int)) = true := decide_eq_true c5
      clear c5
      have H' := Aside0.mk H
      clear H
      go_wp2
      repeat (go_quiet (fail); try go_wp2)
      go_loopg [5, 6, 9] k1 (fun kq v5 v6 v9 w' => ∃ (x5_2 : Int) (x6_2 : Int) (x9_2 : Int), v5 = .int .i64 x5_2 ∧ v6 = .int .i64 x6_2 ∧ v9 = .int .i64 x9_2 ∧ Aside0 (spec_GreatestExponent.l1 kq a0 x5_2 x6_2 (a0.size : Int) x8_1 x9_2 = some (r1, r2, r3)) ∧ Aside0 (kq ≤ k1) ∧ Drawn0 w w')
      case atStart => exact ⟨(x5_1), (x6_1), (wrap64 (x8_1 + 1)), (by first | rfl | (simp; done) | (simp [*]; done)), (by first | rfl | (simp; done) | (simp [*]; done)), (by first | rfl | (simp; done) | (simp [*]; done)), H', ⟨Nat.le_refl _⟩, by repeat (first | exact Drawn0.refl _ | apply Drawn0.step)⟩
      case round =>
       clear H'
       try clear c1
       try clear p2
       try clear c3
       try clear c4
       try clear c4b0
       try clear c4b1
       try clear c5
       try clear c5b0
       try clear p2
       obtain ⟨x5_2, x6_2, x9_2, rfl, rfl, rfl, HA, HK2, ⟨m2, rfl⟩⟩ := hrel
       cases gk with
       | zero => exact absurd HA.out (by simp [spec_GreatestExponent.l1])
       | succ k2 =>
        have H := HA.out
        clear HA
        simp only [spec_GreatestExponent.l1] at H
        by_cases c6 : x9_2 ≤ (a0.size : Int)
        ·rw [if_pos c6] at H
         have c6b0 : decide (x9_2 ≤ (a0.size : Int)) = true := decide_eq_true c6
         clear c6
         replace H := Option.bind_eq_some_iff.mp H
         obtain ⟨t376, A70, H⟩ := H
         replace H : (if (wrap64 ((wrap64 (x9_2 - x8_1)) * x6_2)) > (wrap64 (x5_2 * t376)) then (spec_GreatestExponent.l1 k2 a0 (wrap64 (x9_2 - x8_1)) t376 (a0.size : Int) x8_1 (wrap64 (x9_2 + 1))) else (spec_GreatestExponent.l1 k2 a0 x5_2 x6_2 (a0.size : Int) x8_1 (wrap64 (x9_2 + 1)))) = some (r1, r2, r3) := H
         have A7 := Aside0.mk A70
         clear A70
         by_cases c8 : (wrap64 ((wrap64 (x9_2 - x8_1)) * x6_2)) > (wrap64 (x5_2 * t376))
         ·rw [if_pos c8] at H
          have c8b0 : decide ((wrap64 (x5_2 * t376)) < (wrap64 ((wrap64 (x9_2 - x8_1)) * x6_2))) = true := decide_eq_true c8
          clear c8
          have H' := Aside0.mk H
          clear H
          go_wp2_with (first | (go_at_call 46; (with_reducible refine (spec_l03Period.calls k2 a0 x8_1 x9_2 t376 _ A7.out).mono ?_); rintro e w' ⟨rfl, ⟨nd, rfl⟩⟩; (try first | exact ⟨rfl, _, World.drewN_drewN _ _ _⟩ | exact ⟨rfl, _, Eq.trans (World.drewN_drewN _ _ _) (congrArg (World.drewN _) (Nat.add_assoc _ _ _))⟩)))
          repeat (go_quiet (fail); try go_wp2)
          go_roundg k2
          case measure => have := HK1.out; have := HK2.out; omega
          case rel => exact ⟨(wrap64 (x9_2 - x8_1)), (t376), (wrap64 (x9_2 + 1)), (by first | rfl | (simp; done) | (simp [*]; done)), (by first | rfl | (simp; done) | (simp [*]; done)), (by first | rfl | (simp; done) | (simp [*]; done)), H', ⟨by have := HK1.out; have := HK2.out; omega⟩, by repeat (first | exact Drawn0.refl _ | apply Drawn0.step)⟩
         ·rw [if_neg c8] at H
          have c8b0 : decide ((wrap64 (x5_2 * t376)) < (wrap64 ((wrap64 (x9_2 - x8_1)) * x6_2))) = false := decide_eq_false c8
          clear c8
          have H' := Aside0.mk H
          clear H
          go_wp2_with (first | (go_at_call 46; (with_reducible refine (spec_l03Period.calls k2 a0 x8_1 x9_2 t376 _ A7.out).mono ?_); rintro e w' ⟨rfl, ⟨nd, rfl⟩⟩; (try first | exact ⟨rfl, _, World.drewN_drewN _ _ _⟩ | exact ⟨rfl, _, Eq.trans (World.drewN_drewN _ _ _) (congrArg (World.drewN _) (Nat.add_assoc _ _ _))⟩)))
          repeat (go_quiet (fail); try go_wp2)
          go_roundg k2
          case measure => have := HK1.out; have := HK2.out; omega
          case rel => exact ⟨(x5_2), (x6_2), (wrap64 (x9_2 + 1)), (by first | rfl | (simp; done) | (simp [*]; done)), (by first | rfl | (simp; done) | (simp [*]; done)), (by first | rfl | (simp; done) | (simp [*]; done)), H', ⟨by have := HK1.out; have := HK2.out; omega⟩, by repeat (first | exact Drawn0.refl _ | apply Drawn0.step)⟩
        ·rw [if_neg c6] at H
         have c6b0 : decide (x9_2 ≤ (a0.size : Int)) = false := decide_eq_false c6
         clear c6
         have H' := Aside0.mk H
         clear H
         go_wp2
         repeat (go_quiet (fail); try go_wp2)
         go_roundg k2
         case measure => have := HK1.out; have := HK2.out; omega
         case rel => exact ⟨(x5_2), (x6_2), (wrap64 (x8_1 + 1)), (by first | rfl | (simp; done) | (simp [*]; done)), (by first | rfl | (simp; done) | (simp [*]; done)), (by first | rfl | (simp; done) | (simp [*]; done)), H', ⟨by have := HK1.out; have := HK2.out; omega⟩, by repeat (first | exact Drawn0.refl _ | apply Drawn0.step)⟩
     ·rw [if_neg c5] at H
      have c5b0 : decide (x8_1 < (a0.size : Int)) = false := decide_eq_false c5
      clear c5
      have H' := Aside0.mk H
      clear H
      go_wp2
      repeat (go_quiet (fail); try go_wp2)
      go_loopg [11, 12] k1 (fun kq v11 v12 w' => ∃ (x11_2 : Int) (x12_2 : Int), v11 = .int .i64 x11_2 ∧ v12 = .int .i64 x12_2 ∧ Aside0 (spec_GreatestExponent.l2 kq x5_1 x6_1 x11_2 x12_2 = some (r1, r2, r3)) ∧ Aside0 (kq ≤ k1) ∧ Drawn0 w w')
      case atStart => exact ⟨(x5_1), (x6_1), (by first | rfl | (simp; done) | (simp [*]; done)), (by first | rfl | (simp; done) | (simp [*]; done)), H', ⟨Nat.le_refl _⟩, by repeat (first | exact Drawn0.refl _ | apply Drawn0.step)⟩
      case round =>
       clear H'
       try clear c1
       try clear p2
       try clear c3
       try clear c4
       try clear c4b0
       try clear c4b1
       try clear c5
       try clear c5b0
       try clear c6
       try clear c6b0
       try clear p6
       try clear c8
       try clear c8b0
       try clear p2
       obtain ⟨x11_2, x12_2, rfl, rfl, HA, HK2, ⟨m2, rfl⟩⟩ := hrel
       cases gk with
       | zero => exact absurd HA.out (by simp [spec_GreatestExponent.l2])
       | succ k2 =>
        have H := HA.out
        clear HA
        simp only [spec_GreatestExponent.l2] at H
        by_cases c9 : x12_2 = 0
        ·rw [if_pos c9] at H
         have c9b0 : (x12_2 == 0) = true := beq_iff_eq.mpr c9
         have c9b1 : (x12_2 != 0) = false := bne_eq_false_iff_eq.mpr c9
         clear c9
         by_cases c10 : x11_2 = 0
         ·rw [if_pos c10] at H
          exact absurd H (by simp)
         ·rw [if_neg c10] at H
          have c10b0 : (x11_2 == 0) = false := beq_eq_false_iff_ne.mpr c10
          have c10b1 : (x11_2 != 0) = true := bne_iff_ne.mpr c10
          simp only [Option.some.injEq, Prod.mk.injEq] at H
          obtain ⟨rfl, rfl, rfl⟩ := H
          go_wp2
          repeat (go_quiet (fail); try go_wp2)
          go_ret3
          exact ⟨by first | rfl | (simp; done) | (simp [*]; done), by repeat (first | exact Drawn0.refl _ | apply Drawn0.step)⟩
        ·rw [if_neg c9] at H
         have c9b0 : (x12_2 == 0) = false := beq_eq_false_iff_ne.mpr c9
         have c9b1 : (x12_2 != 0) = true := bne_iff_ne.mpr c9
         have H' := Aside0.mk H
         clear H
         go_wp2
         repeat (go_quiet (fail); try go_wp2)
         go_roundg k2
         case measure => have := HK1.out; have := HK2.out; omega
         case rel => exact ⟨(x12_2), (Int.tmod x11_2 x12_2), (by first | rfl | (simp; done) | (simp [*]; done)), (by first | rfl | (simp; done) | (simp [*]; done)), H', ⟨by have := HK1.out; have := HK2.out; omega⟩, by repeat (first | exact Drawn0.refl _ | apply Drawn0.step)⟩
 ·replace c3 := Bool.eq_false_iff.mpr c3
  subst c3
  have H1 : (some (0, 0, 1)) = some (r1, r2, r3) := by rw [if_neg (show ¬ (false = true) by decide)] at H; exact H
  clear H
  have H := H1
  clear H1
  simp only [Option.some.injEq, Prod.mk.injEq] at H
  obtain ⟨rfl, rfl, rfl⟩ := H
  go_enter Try.func14, Try.ntmps14
  go_wp2_with (first | (go_at_call 36; (with_reducible refine (spec_l01Is.calls k a0 false _ A2.out).mono ?_); rintro e w' ⟨rfl, ⟨nd, rfl⟩⟩; (try first | exact ⟨rfl, _, World.drewN_drewN _ _ _⟩ | exact ⟨rfl, _, Eq.trans (World.drewN_drewN _ _ _) (congrArg (World.drewN _) (Nat.add_assoc _ _ _))⟩)))
  repeat (go_quiet (fail); try go_wp2)
  go_ret3
  exact ⟨by first | rfl | (simp; done) | (simp [*]; done), by repeat (first | exact Drawn0.refl _ | apply Drawn0.step)⟩

end Go.Proofs.Yteakipdmpjlhiaa.Q

namespace Go.Proofs.Yteakipdmpjlhiaa.Q
open Go.RowKit Go.Proofs.YteakipdmpjlhiaaW.PrintWords Go.Proofs.YteakipdmpjlhiaaW.PrintLast Go.Proofs.YteakipdmpjlhiaaW.PrintMore
attribute [local go_sem] max2_int min2_int max_two min_two max_three min_three max_four min_four bn_leq bn_gtr bn_geq   -- for this text's walks alone
set_option linter.unusedVariables false
set_option linter.unusedSimpArgs false

/-! ### impl_overlaps: function 47 (this session's own) -/
/-- What a row of rows of the call's own says of its cells. -/
theorem xw_rows {W : World} {base : Nat} {ok : Nat → Prop} {v : Value} {L : List (List Int)} (h : Kd.S (Kd.slice 2 (Kd.int .i64)) 26 W base ok v L) (hp : 0 < L.length) :
  ∃ g cap, v = .slice (some ⟨g, 0, none⟩) L.length cap ∧ base ≤ g ∧ g < W.heap.size ∧ L.length ≤ cap ∧ (∀ i, i < L.length → W.frozen? ⟨g, i, none⟩ = false) ∧ ∀ i, i < L.length → ∃ (A : Option Addr) (c : Nat), W.cell? ⟨g, i, none⟩ = some (.slice A (L.getD i []).length c) ∧ (L.getD i []).length ≤ c ∧ Kd.C (Kd.int .i64) W A (L.getD i []).length (L.getD i []) := by
 obtain ⟨g, cap, rfl, hg, hlt, cells, hcs⟩ := Kd.S_form h hp
 refine ⟨g, cap, rfl, hg, hlt, (Kd.S_reads' h).2.1, fun i _ => blk_frozen hcs i, fun i hi => ?_⟩
 obtain ⟨c, hcl, hM, hcc⟩ := Kd.S_get h [] (i : Int) (by omega) (by omega)
 rw [Int.toNat_natCast] at hM hcc
 obtain ⟨u, rfl, hR⟩ := hM
 obtain ⟨A, ci, rfl, hle, hC⟩ := Kd.R_reads hR
 refine ⟨A, ci, ?_, hle, hC⟩
 have := hcc 0 _ rfl
 rw [show (⟨g, 0, none⟩ : Addr).add (i * (Kd.slice 2 (Kd.int .i64)).sz + 0) = ⟨g, i, none⟩ by
  rw [show (Kd.slice 2 (Kd.int .i64)).sz = 1 from rfl, Nat.mul_one, Nat.add_zero]; exact add_plain _ _] at this
 exact this

theorem grownBy_below {w W W' : World} {row : Option Nat} (h : w.grownBy W row) (hb : Below W.heap.size W W') : w.grownBy W' row :=
 ⟨hb.os.trans h.os, hb.tape.trans h.tape, hb.output.trans h.output, Nat.le_trans h.size hb.size, fun k hk hne => (hb.block k (Nat.lt_of_lt_of_le hk h.size)).trans (h.block k hk hne)⟩
theorem grownBy_set {w W : World} {g : Nat} (h : w.grownBy W (some g)) (i : Nat) (u : Value) : w.grownBy (W.setCell ⟨g, i, none⟩ u) (some g) :=
 ⟨h.os, h.tape, h.output, by simpa [World.setCell] using h.size, fun k hk hne => (Below.heap_setCell W ⟨g, i, none⟩ u k (fun e => hne (by rw [e]))).trans (h.block k hk hne)⟩
theorem grownBy_refl (w : World) (row : Option Nat) : w.grownBy w row := ⟨rfl, rfl, rfl, Nat.le_refl _, fun _ _ _ => rfl⟩
def layV : Array Value → Nat → List Value → Array Value
 | cur, _, [] => cur
 | cur, o, v :: r => layV (cur.setIfInBounds o v) (o + 1) r
theorem layV_size : ∀ (l : List Value) (cur : Array Value) (o : Nat), (layV cur o l).size = cur.size
 | [], _, _ => rfl
 | v :: r, cur, o => by unfold layV; rw [layV_size r]; simp
theorem layV_low : ∀ (l : List Value) (cur : Array Value) (o m : Nat), m < o → (layV cur o l)[m]? = cur[m]?
 | [], _, _, _, _ => rfl
 | v :: r, cur, o, m, h => by
  unfold layV
  rw [layV_low r _ (o + 1) m (by omega), Array.getElem?_setIfInBounds, if_neg (by omega)]
theorem setCells_blk : ∀ (l : List Value) (W : World) (g o : Nat) (cur : Array Value) (t : TypeId), W.heap[g]? = some (.cells cur t (0, 0)) → (W.setCells g o l).heap[g]? = some (.cells (layV cur o l) t (0, 0))
 | [], _, _, _, _, _, h => h
 | v :: r, W, g, o, cur, t, h => setCells_blk r _ g (o + 1) _ t (blk_set h o v)
theorem setCells_grown : ∀ (l : List Value) (w W : World) (g o : Nat), w.grownBy W (some g) → w.grownBy (W.setCells g o l) (some g)
 | [], _, _, _, _, h => h
 | v :: r, w, W, g, o, h => setCells_grown r w _ g (o + 1) (grownBy_set h o v)
/-- the first index at which something holds, or -1 -/
def firstI (p : Nat → Bool) (n : Nat) : Int := match findE p 0 n with | some j => (j : Int) | none => -1
theorem firstI_hit {p : Nat → Bool} {n k : Nat} (h : k < n) (hk : p k = true) (hb : ∀ j, j < k → p j = false) : firstI p n = k := by
 unfold firstI
 cases hf : findE p 0 n with
 | none => rw [findE_none.mp hf k (Nat.zero_le _) (by omega)] at hk; cases hk
 | some j =>
  obtain ⟨_, h2, h3, h4⟩ := findE_some hf
  rcases Nat.lt_trichotomy j k with e | e | e
  ·rw [hb j e] at h3; cases h3
  ·subst e; rfl
  ·rw [h4 k (Nat.zero_le _) e] at hk; cases hk
theorem firstI_miss {p : Nat → Bool} {n : Nat} (hb : ∀ j, j < n → p j = false) : firstI p n = -1 := by
 unfold firstI
 rw [findE_none.mpr fun m _ h => hb m (by omega)]
set_option maxHeartbeats 2000000 in
theorem xw_IndexFunc_rows (vals : Nat → Value) (p : Nat → Bool) (g0 : Nat) (lb : Array Value) (eg : ∀ args w, (callFunc g0 args).run Try.prog w = .ok (.enter g0 args) w) (g cap n : Nat) (w : World) (hg : g < w.heap.size) (hn : n ≤ 1000000)
  (hcell : ∀ i, i < n → w.cell? ⟨g, i, none⟩ = some (vals i))
  (hp : ∀ (W : World) (i : Nat), i < n → Below w.heap.size w W → Calls Try.prog g0 (#[vals i] ++ lb) W fun e w' => e = .returned (.bool (p i)) ∧ Below W.heap.size W w') :
  Calls Try.prog 85 #[.slice (some ⟨g, 0, none⟩) n cap, .func (.func g0) #[] lb] w fun e w' => e = .returned (.int .i64 (firstI p n)) ∧ Below w.heap.size w w' := by
 have hreads : Aside0 (∀ W, Below w.heap.size w W → ∀ j, j < n → W.cell? ⟨g, j, none⟩ = some (vals j)) := ⟨fun W hW j hj => (hW.cell (p := ⟨g, j, none⟩) hg).trans (hcell j hj)⟩
 have hp' := Aside0.mk hp
 have hn' := Aside0.mk hn
 clear hp hcell hn
 go_enter Try.func85, Try.ntmps85
 go_wp2
 go_loopg [5, 8] n (fun gg _ s8 wr => ∃ kk : Nat, kk ≤ n ∧ n - kk ≤ gg ∧ s8 = .int .i64 kk ∧ Aside0 (Below w.heap.size w wr) ∧ Aside0 (∀ j, j < kk → p j = false))
 case atStart => exact ⟨0, Nat.zero_le _, by omega, rfl, ⟨Below.refl _ w⟩, ⟨fun j hj => absurd hj (Nat.not_lt_zero _)⟩⟩
 case round =>
  obtain ⟨kk, hkk, hgg, rfl, BW, A0⟩ := hrel
  by_cases hlt : kk < n
  ·have hltz : (kk : Int) < (n : Int) := by omega
   have c1 := decide_eq_true hltz
   have c2 := eq_true (show (0 : Int) ≤ (kk : Int) by omega)
   have c3 := eq_true hltz
   have c4 := eq_true hlt
   have hcell := hreads.out wr BW.out kk hlt
   have hcall := hp'.out wr kk hlt BW.out
   obtain ⟨u, hu⟩ : ∃ u, u = vals kk := ⟨_, rfl⟩
   rw [← hu] at hcell hcall
   have hw5 := Aside0.mk (show wrap64 ((kk : Int) + 1) = ((kk + 1 : Nat) : Int) by have := hn'.out; rw [w64 (by omega) (by omega)]; rfl)
   clear hu
   cases hq : p kk with
   | true =>
    rw [hq] at hcall
    have hq' := Aside0.mk hq
    clear hq
    go_wp2_with (go_at_fn g0; refine hcall.mono ?_; rintro e w' ⟨rfl, hb'⟩)
    go_ret
    exact ⟨by rw [firstI_hit hlt hq'.out A0.out]; rfl, below_then BW.out BW.out.size hb'⟩
   | false =>
    rw [hq] at hcall
    have hq' := Aside0.mk hq
    clear hq
    go_wp2_with (go_at_fn g0; refine hcall.mono ?_; rintro e w' ⟨rfl, hb'⟩)
    go_roundg (n - (kk + 1))
    case measure => omega
    case rel =>
     refine ⟨kk + 1, by omega, by omega, by rw [hw5.out], ⟨below_then BW.out BW.out.size hb'⟩, ⟨fun j hj => ?_⟩⟩
     by_cases e : j = kk
     ·subst e; exact hq'.out
     ·exact A0.out j (by omega)
  ·have hltz : ¬ (kk : Int) < (n : Int) := by omega
   have c1 := decide_eq_false hltz
   obtain rfl : kk = n := by omega
   go_wp2
   go_ret
   exact ⟨by rw [firstI_miss A0.out]; rfl, BW.out⟩
/-- the indexes that stay, of the first j -/
def keptI (p : Nat → Bool) (j : Nat) : List Nat := (List.range j).filter fun m => !p m
theorem keptI_succ (p : Nat → Bool) (j : Nat) : keptI p (j + 1) = keptI p j ++ (if p j = true then [] else [j]) := by
 unfold keptI
 rw [List.range_succ, List.filter_append]
 cases h : p j <;> simp [h]
theorem keptI_le (p : Nat → Bool) (j : Nat) : (keptI p j).length ≤ j := by
 have := List.length_filter_le (fun m => !p m) (List.range j)
 simpa [keptI] using this
theorem keptI_spec (p : Nat → Bool) : ∀ (j m x : Nat), (keptI p j)[m]? = some x → x < j ∧ (keptI p x).length = m
 | 0, m, x, h => by simp [keptI] at h
 | j + 1, m, x, h => by
  rw [keptI_succ] at h
  rcases Nat.lt_or_ge m (keptI p j).length with hlt | hge
  ·rw [List.getElem?_append_left hlt] at h
   obtain ⟨h1, h2⟩ := keptI_spec p j m x h
   exact ⟨by omega, h2⟩
  ·rw [List.getElem?_append_right hge] at h
   split at h
   ·simp at h
   ·have hm : m - (keptI p j).length = 0 := by
     rcases Nat.eq_zero_or_pos (m - (keptI p j).length) with e | e
     ·exact e
     ·rw [List.getElem?_eq_none (by simp; omega)] at h; cases h
    rw [hm] at h
    simp only [List.getElem?_cons_zero, Option.some.injEq] at h
    subst h
    exact ⟨by omega, by omega⟩
theorem keptI_all {p : Nat → Bool} : ∀ {n : Nat}, (∀ j, j < n → p j = false) → keptI p n = List.range n
 | 0, _ => rfl
 | n + 1, h => by
  rw [keptI_succ, keptI_all (fun j hj => h j (by omega)), h n (by omega), List.range_succ]; rfl
/-- the cells of the row while slices.DeleteFunc runs -/
def delInv (vals : Nat → Value) (p : Nat → Bool) (n j : Nat) (cur : Array Value) : Prop :=
 (∀ (m x : Nat), (keptI p j)[m]? = some x → cur[m]? = some (vals x)) ∧ ∀ m : Nat, j ≤ m → m < n → cur[m]? = some (vals m)
theorem delInv_skip {vals : Nat → Value} {p : Nat → Bool} {n j : Nat} {cur : Array Value} (h : delInv vals p n j cur) (hp : p j = true) : delInv vals p n (j + 1) cur := by
 refine ⟨fun m x hx => ?_, fun m h1 h2 => h.2 m (by omega) h2⟩
 rw [keptI_succ, if_pos hp, List.append_nil] at hx
 exact h.1 m x hx
theorem delInv_keep {vals : Nat → Value} {p : Nat → Bool} {n j : Nat} {cur : Array Value} (h : delInv vals p n j cur) (hp : p j = false) (hj : j < cur.size) : delInv vals p n (j + 1) (cur.setIfInBounds (keptI p j).length (vals j)) := by
 have hle := keptI_le p j
 refine ⟨fun m x hx => ?_, fun m h1 h2 => ?_⟩
 ·rw [keptI_succ, hp, if_neg (by decide)] at hx
  rw [Array.getElem?_setIfInBounds]
  rcases Nat.lt_or_ge m (keptI p j).length with hlt | hge
  ·rw [List.getElem?_append_left hlt] at hx
   rw [if_neg (by omega)]
   exact h.1 m x hx
  ·rw [List.getElem?_append_right hge] at hx
   have hm : m - (keptI p j).length = 0 := by
    rcases Nat.eq_zero_or_pos (m - (keptI p j).length) with e | e
    ·exact e
    ·rw [List.getElem?_eq_none (by simp; omega)] at hx; cases hx
   rw [hm] at hx
   simp only [List.getElem?_cons_zero, Option.some.injEq] at hx
   subst hx
   rw [if_pos (by omega), if_pos (by omega)]
 ·rw [Array.getElem?_setIfInBounds, if_neg (by omega)]
  exact h.2 m (by omega) h2
theorem delInv_start {vals : Nat → Value} {p : Nat → Bool} {n k : Nat} {cur : Array Value} (hc : ∀ m : Nat, m < n → cur[m]? = some (vals m)) (hb : ∀ j, j < k → p j = false) (hk : p k = true) (hkn : k < n) : delInv vals p n (k + 1) cur ∧ (keptI p (k + 1)).length = k := by
 have e : keptI p (k + 1) = List.range k := by rw [keptI_succ, if_pos hk, List.append_nil, keptI_all hb]
 refine ⟨⟨fun m x hx => ?_, fun m _ h2 => hc m h2⟩, by rw [e]; simp⟩
 rw [e] at hx
 obtain ⟨h1, h2⟩ := List.getElem?_eq_some_iff.mp hx
 simp only [List.length_range] at h1
 rw [List.getElem_range] at h2
 subst h2
 exact hc m (by omega)

set_option maxHeartbeats 4000000 in
set_option maxRecDepth 1000000 in
theorem xw_DeleteFunc_rows (vals : Nat → Value) (p : Nat → Bool) (g0 : Nat) (lb : Array Value) (eg : ∀ args w, (callFunc g0 args).run Try.prog w = .ok (.enter g0 args) w) (g cap n : Nat) (cur0 : Array Value) (w : World)
  (hblk : w.heap[g]? = some (.cells cur0 26 (0, 0))) (hcap : cur0.size = cap) (hnc : n ≤ cap) (hn : n ≤ 1000000)
  (hcell : ∀ m : Nat, m < n → cur0[m]? = some (vals m)) (hsl : ∀ m : Nat, m < n → ∃ A l c, vals m = .slice A l c)
  (hp : ∀ (W : World) (i : Nat), i < n → w.grownBy W (some g) → Calls Try.prog g0 (#[vals i] ++ lb) W fun e w' => e = .returned (.bool (p i)) ∧ Below W.heap.size W w') :
  Calls Try.prog 71 #[.slice (some ⟨g, 0, none⟩) n cap, .func (.func g0) #[] lb] w fun e w' => ∃ cur : Array Value, e = .returned (.slice (some ⟨g, 0, none⟩) (keptI p n).length cap) ∧ w'.heap[g]? = some (.cells cur 26 (0, 0)) ∧ cur.size = cap ∧ (∀ (m x : Nat), (keptI p n)[m]? = some x → cur[m]? = some (vals x)) ∧ w.grownBy w' (some g) := by
 have hIF := xw_IndexFunc_rows vals p g0 lb eg g cap n w (blk_lt hblk) hn (fun i hi => (blk_cell hblk i).trans (hcell i hi)) (fun W i hi hb => hp W i hi (grownBy_below (grownBy_refl w _) hb))
 have hp' := Aside0.mk hp
 have hcell' := Aside0.mk hcell
 have hsl' := Aside0.mk hsl
 have hblk' := Aside0.mk hblk
 have hcap' := Aside0.mk hcap
 have hn' := Aside0.mk hn
 have hnc' := Aside0.mk hnc
 clear hp hcell hsl hblk hn hnc
 cases hf : findE p 0 n with
 | none =>
  have hall : ∀ j, j < n → p j = false := fun j hj => findE_none.mp hf j (Nat.zero_le _) (by omega)
  rw [firstI_miss hall] at hIF
  have hk := keptI_all hall
  have hk' := Aside0.mk hk
  clear hf hall hk hcap
  go_enter Try.func71, Try.ntmps71
  go_wp2_with (go_at_call 85; refine hIF.mono ?_; rintro e w1 ⟨rfl, hb1⟩; have HB1 := Aside0.mk hb1; clear hb1)
  go_ret
  refine ⟨cur0, by rw [hk'.out]; simp, blk_below hblk'.out HB1.out, hcap'.out, fun m x hx => ?_, grownBy_below (grownBy_refl w _) HB1.out⟩
  rw [hk'.out] at hx
  obtain ⟨h1, h2⟩ := List.getElem?_eq_some_iff.mp hx
  simp only [List.length_range] at h1
  rw [List.getElem_range] at h2
  subst h2
  exact hcell'.out m h1
 | some k0 =>
  obtain ⟨_, hk2, hk3, hk4⟩ := findE_some hf
  have hkb : ∀ j, j < k0 → p j = false := fun j hj => hk4 j (Nat.zero_le _) hj
  rw [firstI_hit (by omega) hk3 hkb] at hIF
  obtain ⟨hd1, hd2⟩ := delInv_start hcell'.out hkb hk3 (by omega)
  have hkn := Aside0.mk (show k0 < n by omega)
  have hD := Aside0.mk hd1
  have hL := Aside0.mk hd2
  have c0 : ((k0 : Int) == -1) = false := beq_eq_false_iff_ne.mpr (by omega)
  have hw0 := Aside0.mk (show wrap64 ((k0 : Int) + 1) = ((k0 + 1 : Nat) : Int) by have := hn'.out; rw [w64 (by omega) (by omega)]; rfl)
  clear hf hk2 hk3 hk4 hkb hd1 hd2 hcell' hcap
  go_enter Try.func71, Try.ntmps71
  go_wp2_with (go_at_call 85; refine hIF.mono ?_; rintro e w1 ⟨rfl, hb1⟩; have HB1 := Aside0.mk hb1; clear hb1)
  go_loopg [5, 6, 7] n (fun gg v5 v6 _ wr => ∃ (i j : Nat) (cur : Array Value), v5 = .int .i64 i ∧ v6 = .int .i64 j ∧ j ≤ n ∧ n - j ≤ gg ∧ i = (keptI p j).length ∧ i < j ∧ Aside0 (cur.size = cap) ∧ Aside0 (delInv vals p n j cur) ∧ Aside0 (wr.heap[g]? = some (.cells cur 26 (0, 0))) ∧ Aside0 (w.grownBy wr (some g)))
  case atStart => exact ⟨k0, k0 + 1, cur0, rfl, by rw [hw0.out], by have := hkn.out; omega, by omega, hL.out.symm, by omega, hcap', hD, ⟨blk_below hblk'.out HB1.out⟩, ⟨grownBy_below (grownBy_refl w _) HB1.out⟩⟩
  case round =>
   clear hIF HB1 hL hD hblk' hw0 c0
   obtain ⟨i, j, cur, rfl, rfl, hj, hgg, hi, hij, hsz, hI, hB, hG⟩ := hrel
   have hn2 := hn'.out
   have hnc2 := hnc'.out
   by_cases hlt : j < n
   ·have hltz : (j : Int) < (n : Int) := by omega
    have c1 := decide_eq_true hltz
    have c2 := eq_true (show (0 : Int) ≤ (j : Int) by omega)
    have c3 := eq_true hltz
    have c4 := eq_true hlt
    have c5 := eq_true (show (0 : Int) ≤ (i : Int) by omega)
    have c6 := eq_true (show (i : Int) < (n : Int) by omega)
    have c7 := eq_true (show i < n by omega)
    have hsz2 := hsz.out
    obtain ⟨old, hold⟩ : ∃ u, cur[i]? = some u := ⟨_, Array.getElem?_eq_getElem (by omega)⟩
    have hold' := Aside0.mk hold
    have hcj := (blk_cell hB.out j).trans (hI.out.2 j (Nat.le_refl _) hlt)
    have hcall := hp'.out wr j hlt hG.out
    obtain ⟨u, hu⟩ : ∃ u, u = vals j := ⟨_, rfl⟩
    obtain ⟨A, l, c, hs⟩ := hsl'.out j hlt
    rw [← hu] at hcj hcall hs
    subst hs
    have hu' := Aside0.mk hu
    have hw5 := Aside0.mk (show wrap64 ((j : Int) + 1) = ((j + 1 : Nat) : Int) by rw [w64 (by omega) (by omega)]; rfl)
    have hw6 := Aside0.mk (show wrap64 ((i : Int) + 1) = ((i + 1 : Nat) : Int) by rw [w64 (by omega) (by omega)]; rfl)
    have hi' := Aside0.mk hi
    have hij' := Aside0.mk hij
    clear hu hold hn2 hnc2 hsz2 hi hij
    cases hq : p j with
    | true =>
     rw [hq] at hcall
     have hq' := Aside0.mk hq
     clear hq
     go_wp2_with (go_at_fn g0; refine hcall.mono ?_; rintro e w2 ⟨rfl, hb2⟩; have HB2 := Aside0.mk hb2; clear hb2)
     go_roundg (n - (j + 1))
     case measure => omega
     case rel => exact ⟨i, j + 1, cur, rfl, by rw [hw5.out], by omega, by omega, by rw [keptI_succ, if_pos hq'.out, List.append_nil]; exact hi'.out, by have := hij'.out; omega, hsz, ⟨delInv_skip hI.out hq'.out⟩, ⟨blk_below hB.out HB2.out⟩, ⟨grownBy_below hG.out HB2.out⟩⟩
    | false =>
     rw [hq] at hcall
     have hq' := Aside0.mk hq
     clear hq
     go_wp2_with (go_at_fn g0; refine hcall.mono ?_; rintro e w2 ⟨rfl, hb2⟩; have HB2 := Aside0.mk hb2; have hblk2 := blk_below hB.out hb2; have hci := (blk_cell hblk2 i).trans hold'.out; have hfi := blk_frozen hblk2 i; clear hb2 hblk2)
     go_roundg (n - (j + 1))
     case measure => omega
     case rel =>
      have hk1 := delInv_keep hI.out hq'.out (by have := hsz.out; have := hnc'.out; omega)
      rw [← hi'.out, ← hu'.out] at hk1
      exact ⟨i + 1, j + 1, cur.setIfInBounds i (.slice A l c), by rw [hw6.out], by rw [hw5.out], by omega, by omega, by rw [keptI_succ, hq'.out, if_neg (by decide), List.length_append, ← hi'.out]; rfl, by have := hij'.out; omega, ⟨by rw [Array.size_setIfInBounds]; exact hsz.out⟩, ⟨hk1⟩, ⟨blk_set (blk_below hB.out HB2.out) i _⟩, ⟨grownBy_set (grownBy_below hG.out HB2.out) i _⟩⟩
   ·have hltz : ¬ (j : Int) < (n : Int) := by omega
    have c1 := decide_eq_false hltz
    obtain rfl : j = n := by omega
    have c2 := eq_true (show (0 : Int) ≤ (i : Int) by omega)
    have c3 := eq_true (show (i : Int) ≤ (j : Int) by omega)
    have c4 := eq_true (show i ≤ j by omega)
    have c5 := eq_true (show (i : Int) ≤ (cap : Int) by omega)
    have c6 := eq_true (show i ≤ cap by omega)
    have c7 : ¬ i = cap := by omega
    have c8 : ¬ cap = i := by omega
    have hcl : ∀ ty, (Builtin.clear_ #[56] ty #[.slice (some ⟨g, i, none⟩) (j - i) (cap - i)]).run Try.prog wr = .ok (.tuple #[]) (wr.setCells g i (List.replicate (j - i) (.slice none 0 0))) := fun ty =>
     Lib.run_clear_slice wr _ _ ty _ Try.underlying56 Try.zeroValue26 rfl rfl g i _ _ (by omega) (fun t ht => by rw [blk_cell hB.out, Array.getElem?_eq_getElem (by have := hsz.out; omega)]; rfl) (fun t _ => blk_frozen hB.out _)
    have hi' := Aside0.mk hi
    clear hi hij hn2 hnc2
    go_wp2
    go_ret
    refine ⟨by rw [← hi'.out]; rfl, layV cur i (List.replicate (j - i) (.slice none 0 0)), setCells_blk _ wr g i cur _ hB.out, by rw [layV_size]; exact hsz.out, fun m x hx => ?_, setCells_grown _ w wr g i hG.out⟩
    have hm : m < i := by
     rw [hi'.out]
     exact (List.getElem?_eq_some_iff.mp hx).1
    rw [layV_low _ _ _ _ hm]
    exact hI.out.1 m x hx

def ovB (s : ByteArray) (l : List Int) : Bool := decide ((s.size : Int) ≤ rd l 0 + 2 * rd l 1) || !(bt s (rd l 0 + 2 * rd l 1) == bt s (rd l 0))
set_option maxHeartbeats 4000000 in
theorem xw_overlaps1 (s : ByteArray) (b0 : Nat) (l : List Int) (A : Option Addr) (c : Nat) (W : World) (h0 : W.cell? ⟨b0, 0, none⟩ = some (.string s)) (hC : Kd.C (Kd.int .i64) W A l.length l) (h2 : 2 ≤ l.length) (hs : s.size ≤ 1000)
  (x0 : 0 ≤ rd l 0) (x1 : rd l 0 ≤ 1000) (x2 : 0 ≤ rd l 1) (x3 : rd l 1 ≤ 1000) :
  Calls Try.prog 72 #[.slice A l.length c, .pointer (some ⟨b0, 0, none⟩)] W fun e w' => e = .returned (.bool (ovB s l)) ∧ Below W.heap.size W w' := by
 obtain ⟨ad, rfl, hx0⟩ := Kd.at_int hC 0 (by omega) (by omega)
 obtain ⟨ad2, he2, hx1⟩ := Kd.at_int hC 1 (by omega) (by omega)
 cases he2
 rw [show ad.add (0 : Int).toNat = ad by unfold Addr.add; simp] at hx0
 simp only [show (1 : Int).toNat = 1 from rfl, Nat.reduceMul, Nat.reduceEqDiff, Go.Addr.add, ↓reduceIte] at hx1
 have hov : Aside0 (ovB s l = (decide ((s.size : Int) ≤ rd l 0 + 2 * rd l 1) || !(bt s (rd l 0 + 2 * rd l 1) == bt s (rd l 0)))) := ⟨rfl⟩
 obtain ⟨n, hn⟩ : ∃ n : Nat, rd l 0 = n := ⟨(rd l 0).toNat, by omega⟩
 obtain ⟨q, hq⟩ : ∃ n : Nat, rd l 1 = n := ⟨(rd l 1).toNat, by omega⟩
 rw [hn, hq] at hov
 rw [hn] at hx0 x0 x1
 rw [hq] at hx1 x2 x3
 obtain ⟨m, hm⟩ : ∃ m : Nat, m = n + 2 * q := ⟨_, rfl⟩
 rw [show (n : Int) + 2 * (q : Int) = (m : Int) by omega] at hov
 have e1 : wrap64 (2 * (q : Int)) = 2 * (q : Int) := w64 (by omega) (by omega)
 have e2 : IntKind.i64.wrap (2 * (q : Int)) = 2 * (q : Int) := (i64_w _).trans e1
 have e3 : wrap64 ((n : Int) + 2 * (q : Int)) = (m : Int) := by rw [w64 (by omega) (by omega)]; omega
 have e4 : IntKind.i64.wrap ((n : Int) + 2 * (q : Int)) = (m : Int) := (i64_w _).trans e3
 have p0 := eq_true (show 0 < l.length by omega)
 have p1 := eq_true (show 1 < l.length by omega)
 have p2 := eq_true (show (0 : Int) < (l.length : Int) by omega)
 have p3 := eq_true (show (1 : Int) < (l.length : Int) by omega)
 have p4 := decide_eq_true (show (0 : Int) < (l.length : Int) by omega)
 have p5 := decide_eq_true (show (1 : Int) < (l.length : Int) by omega)
 have hnm := Aside0.mk (show n ≤ m by omega)
 clear hC hn hq hm x0 x1 x2 x3 h2
 by_cases hge : (s.size : Int) ≤ (m : Int)
 ·have c1 := decide_eq_true hge
  have c1n := decide_eq_true (show s.size ≤ m by omega)
  go_enter Try.func72, Try.ntmps72
  go_wp2
  go_quiet (fail)
  generalize hW1 : W.drewN _ = W1
  have k0 : W1.cell? ⟨b0, 0, none⟩ = some (.string s) := by rw [← hW1]; exact h0
  have k1 : W1.cell? ad = some (.int .i64 n) := by rw [← hW1]; exact hx0
  have HB1 := Aside0.mk (show Below W.heap.size W W1 by rw [← hW1]; exact pw_below_drewN (Below.refl _ _) _)
  clear hW1 h0 hx0 hx1
  go_wp2
  go_quiet ((go_at_call 73; exact Calls.quiet_of_same (xw_size _ _)))
  go_wp2
  go_ret
  exact ⟨by rw [hov.out, c1]; first | rfl | (simp [c1n]; done), by repeat (first | exact HB1.out | apply pw_below_drewN | apply below_drew)⟩
 ·have c1 := decide_eq_false hge
  have c1n := decide_eq_false (show ¬ s.size ≤ m by omega)
  have hnm2 := hnm.out
  have q0 := eq_true (show (m : Int) < s.size by omega)
  have q1 := eq_true (show (n : Int) < s.size by omega)
  have q2 := decide_eq_true (show (m : Int) < s.size by omega)
  have q3 := decide_eq_true (show (n : Int) < s.size by omega)
  have q4 := decide_eq_true (show m < s.size by omega)
  have q5 := decide_eq_true (show n < s.size by omega)
  have q6 := eq_true (show m < s.size by omega)
  have q7 := eq_true (show n < s.size by omega)
  have hx2 : ∀ h : m < s.size, ((s[m]'h).toNat : Int) = bt s m := fun h => bt_at s m h
  have hx3 : ∀ h : n < s.size, ((s[n]'h).toNat : Int) = bt s n := fun h => bt_at s n h
  clear hnm2 hnm
  by_cases he : bt s m = bt s n
  ·have f1 : (bt s m == bt s n) = true := beq_iff_eq.mpr he
   have f2 : (bt s m != bt s n) = false := by simp [bne, f1]
   clear he
   go_enter Try.func72, Try.ntmps72
   go_wp2
   go_quiet (fail)
   generalize hW1 : W.drewN _ = W1
   have k0 : W1.cell? ⟨b0, 0, none⟩ = some (.string s) := by rw [← hW1]; exact h0
   have k1 : W1.cell? ad = some (.int .i64 n) := by rw [← hW1]; exact hx0
   have HB1 := Aside0.mk (show Below W.heap.size W W1 by rw [← hW1]; exact pw_below_drewN (Below.refl _ _) _)
   clear hW1 h0 hx0 hx1
   go_wp2
   go_quiet ((go_at_call 73; exact Calls.quiet_of_same (xw_size _ _)))
   go_wp2
   go_ret
   exact ⟨by rw [hov.out, c1, f1]; first | rfl | (simp [c1n]; done), by repeat (first | exact HB1.out | apply pw_below_drewN | apply below_drew)⟩
  ·have f1 : (bt s m == bt s n) = false := beq_eq_false_iff_ne.mpr he
   have f2 : (bt s m != bt s n) = true := by simp [bne, f1]
   clear he
   go_enter Try.func72, Try.ntmps72
   go_wp2
   go_quiet (fail)
   generalize hW1 : W.drewN _ = W1
   have k0 : W1.cell? ⟨b0, 0, none⟩ = some (.string s) := by rw [← hW1]; exact h0
   have k1 : W1.cell? ad = some (.int .i64 n) := by rw [← hW1]; exact hx0
   have HB1 := Aside0.mk (show Below W.heap.size W W1 by rw [← hW1]; exact pw_below_drewN (Below.refl _ _) _)
   clear hW1 h0 hx0 hx1
   go_wp2
   go_quiet ((go_at_call 73; exact Calls.quiet_of_same (xw_size _ _)))
   go_wp2
   go_ret
   exact ⟨by rw [hov.out, c1, f1]; first | rfl | (simp [c1n]; done), by repeat (first | exact HB1.out | apply pw_below_drewN | apply below_drew)⟩

theorem S_vals {W : World} {base : Nat} {ok : Nat → Prop} {v : Value} {L : List (List Int)} (h : Kd.S (Kd.slice 2 (Kd.int .i64)) 26 W base ok v L) (hp : 0 < L.length) :
  ∃ (g cap : Nat) (cur : Array Value) (f : Nat → Nat) (vals : Nat → Value), v = .slice (some ⟨g, 0, none⟩) L.length cap ∧ base ≤ g ∧ ok g ∧ W.heap[g]? = some (.cells cur 26 (0, 0)) ∧ cur.size = cap ∧ L.length ≤ cap ∧ cap ≤ maxLen ∧ (∀ m : Nat, m < L.length → cur[m]? = some (vals m)) ∧
   ∀ m : Nat, m < L.length → Kd.R (Kd.int .i64) 2 W base (fun k => (ok k ∧ k ≠ g) ∧ f k = m) (vals m) (L.getD m []) := by
 obtain ⟨f, h0, inner, hown, hr⟩ := h
 rw [List.length_zipIdx] at hown
 rcases hown.2 with ⟨_, e0⟩ | ⟨g, cap, cur, rfl, hg, hb, hn, hm, hs, ht⟩
 ·omega
 ·rw [show (Kd.tag f (Kd.slice 2 (Kd.int .i64))).sz = 1 from rfl, Nat.mul_one] at hs ht
  have hil : inner.length = L.length := by
   have := hown.1
   rw [show (Kd.tag f (Kd.slice 2 (Kd.int .i64))).sz = 1 from rfl, Nat.mul_one] at this
   exact this
  refine ⟨g, cap, cur, f, fun m => (inner[m]?).getD (.slice none 0 0), rfl, hg, h0 g rfl, hb, hs, hn, hm, fun m hlt => ?_, fun m hlt => ?_⟩
  ·have him : inner[m]? = some inner[m] := List.getElem?_eq_getElem (by omega)
   have e1 : (cur.toList.take L.length)[m]? = inner[m]? := by rw [ht]
   rw [List.getElem?_take, if_pos hlt, Array.getElem?_toList] at e1
   rw [e1]; simp only [him, Option.getD_some]
  ·have hM := hr.2 m _ (Kd.zip_at (List.getElem?_eq_getElem hlt))
   obtain ⟨u, hu, hR⟩ := hM
   rw [show (Kd.tag f (Kd.slice 2 (Kd.int .i64))).sz = 1 from rfl, Nat.mul_one] at hu
   have hu2 : inner[m]? = some u := by
    have := congrArg (fun l => l[0]?) hu
    simpa [List.getElem?_take, List.getElem?_drop] using this
   simp only [hu2, Option.getD_some]
   rw [List.getD_eq_getElem?_getD, List.getElem?_eq_getElem hlt]
   refine Kd.R_mono hR fun k hk => ⟨⟨hk.1.1, fun e => hk.1.2 (by subst e; rfl)⟩, hk.2⟩
theorem S_of_vals {W : World} {base : Nat} {ok : Nat → Prop} {L : List (List Int)} {g cap : Nat} {cur : Array Value} {f rank : Nat → Nat} {vals : Nat → Value} {K : List Nat} (hg : base ≤ g) (hok : ok g) (hb : W.heap[g]? = some (.cells cur 26 (0, 0))) (hs : cur.size = cap) (hn : K.length ≤ cap) (hm : cap ≤ maxLen)
  (hc : ∀ (m x : Nat), K[m]? = some x → cur[m]? = some (vals x)) (hR : ∀ (m x : Nat), K[m]? = some x → Kd.R (Kd.int .i64) 2 W base (fun k => (ok k ∧ k ≠ g) ∧ f k = x) (vals x) (L.getD x [])) (hrank : ∀ (m x : Nat), K[m]? = some x → rank x = m) :
  Kd.S (Kd.slice 2 (Kd.int .i64)) 26 W base ok (.slice (some ⟨g, 0, none⟩) K.length cap) (K.map fun x => L.getD x []) := by
 refine ⟨fun k => rank (f k), fun k hk => ?_, K.map vals, ⟨?_, .inr ⟨g, cap, cur, ?_, hg, hb, ?_, hm, ?_, ?_⟩⟩, ?_, fun j p hj => ?_⟩
 ·have : g = k := by simpa [Value.ownBlock] using hk
  subst this; exact hok
 ·simp [Kd.tag, Kd.slice]
 ·simp
 ·simpa using hn
 ·simp [Kd.tag, Kd.slice, hs]
 ·apply List.ext_getElem?
  intro m
  simp only [Kd.tag, Kd.slice, Nat.mul_one, List.length_zipIdx, List.length_map, List.getElem?_take, List.getElem?_map, Array.getElem?_toList]
  by_cases h : m < K.length
  ·rw [if_pos h, hc m _ (List.getElem?_eq_getElem h), List.getElem?_eq_getElem h]; rfl
  ·rw [if_neg h, List.getElem?_eq_none (by omega)]; rfl
 ·simp [Kd.tag, Kd.slice]
 ·rw [List.getElem?_zipIdx, Nat.zero_add, List.getElem?_map] at hj
  obtain ⟨x, hx, rfl⟩ : ∃ x, K[j]? = some x ∧ p = (L.getD x [], j) := by
   cases hK : K[j]? with
   | none => rw [hK] at hj; simp at hj
   | some x => rw [hK] at hj; simp only [Option.map_some, Option.some.injEq] at hj; exact ⟨x, rfl, hj.symm⟩
  refine ⟨vals x, ?_, ?_⟩
  ·show ((K.map vals).drop (j * 1)).take 1 = [vals x]
   rw [Nat.mul_one]
   have hjl : j < (K.map vals).length := by rw [List.length_map]; exact (List.getElem?_eq_some_iff.mp hx).1
   rw [List.drop_eq_getElem_cons hjl, List.take_succ_cons, List.take_zero, List.getElem_map]
   have := (List.getElem?_eq_some_iff.mp hx).2
   rw [this]
  ·refine Kd.R_mono (hR j x hx) fun k hk => ⟨⟨hk.1.1, fun e => hk.1.2 ?_⟩, ?_⟩
   ·simpa [Value.ownBlock] using e
   ·show rank (f k) = j
    rw [hk.2]; exact hrank j x hx
def okRow (l : List Int) : Bool := decide (2 ≤ l.length) && (inR (rd l 0) 0 1000 && inR (rd l 1) 0 1000)
theorem kept_map (p : List Int → Bool) : ∀ (L : List (List Int)), (keptI (fun m => p (L.getD m [])) L.length).map (fun x => L.getD x []) = L.filter fun l => !p l := by
 intro L
 unfold keptI
 have e : L = (List.range L.length).map fun m => L.getD m [] := by
  apply List.ext_getElem
  ·simp
  ·intro i h1 h2; simp [List.getD_eq_getElem?_getD, h1]
 conv => rhs; rw [e, List.filter_map]
 rfl
set_option maxHeartbeats 2000000 in
theorem xw_IndexFunc_nil (A : Option Addr) (c g0 : Nat) (lb : Array Value) (w : World) :
  Calls Try.prog 85 #[.slice A 0 c, .func (.func g0) #[] lb] w fun e w' => e = .returned (.int .i64 (-1)) ∧ w' = w := by
 go_enter Try.func85, Try.ntmps85
 go_wp2
 go_loopg [5, 8] 0 (fun gg _ s8 wr => s8 = .int .i64 0 ∧ wr = w)
 case atStart => exact ⟨rfl, rfl⟩
 case round =>
  obtain ⟨rfl, rfl⟩ := hrel
  go_wp2
  go_ret
  exact ⟨rfl, rfl⟩
theorem xw_DeleteFunc_nil (A : Option Addr) (c g0 : Nat) (lb : Array Value) (w : World) :
  Calls Try.prog 71 #[.slice A 0 c, .func (.func g0) #[] lb] w fun e w' => e = .returned (.slice A 0 c) ∧ w' = w := by
 go_enter Try.func71, Try.ntmps71
 go_wp2_with (go_at_call 85; refine (xw_IndexFunc_nil _ _ _ _ _).mono ?_; rintro e w' ⟨rfl, rfl⟩)
 go_ret
 exact ⟨rfl, rfl⟩
/-- slices.DeleteFunc in overlaps: the rows of the call's own; the word lies in a captured variable's block. -/
theorem xw_Delete_overlaps (s : ByteArray) (b0 : Nat) (L : List (List Int)) (v : Value) (w : World) (base : Nat) (hs : s.size ≤ 1000) (hn : L.length ≤ 1000000) (hL : L.all okRow = true) (hb0 : b0 < base) (hbase : base ≤ w.heap.size) (hcell : w.cell? ⟨b0, 0, none⟩ = some (.string s))
  (hS : Kd.S (Kd.slice 2 (Kd.int .i64)) 26 w base (fun _ => True) v L) :
  Calls Try.prog 71 #[v, .func (.func 72) #[] #[.pointer (some ⟨b0, 0, none⟩)]] w fun e w' => ∃ v' : Value, e = .returned v' ∧ Kd.S (Kd.slice 2 (Kd.int .i64)) 26 w' base (fun _ => True) v' (L.filter fun l => !ovB s l) ∧ Below base w w' := by
 by_cases hp : 0 < L.length
 ·obtain ⟨g, cap, cur, f, vals, rfl, hg, hok, hb, hsz, hnc, hm, hc, hR⟩ := S_vals hS hp
  have hrow : ∀ (W : World), w.grownBy W (some g) → ∀ m : Nat, m < L.length → Kd.R (Kd.int .i64) 2 W base (fun k => (True ∧ k ≠ g) ∧ f k = m) (vals m) (L.getD m []) := fun W hW m hlt =>
   Kd.R_step (hR m hlt) fun k hk hkl => hW.block k hkl (fun e => hk.1.2 (by injection e))
  have hD := xw_DeleteFunc_rows vals (fun m => ovB s (L.getD m [])) 72 #[.pointer (some ⟨b0, 0, none⟩)] (enters_of Try.func72 (by kernel_rfl) rfl) g cap L.length cur w hb hsz hnc hn hc
   (fun m hlt => by obtain ⟨A, c, e, _, _⟩ := Kd.R_reads (hR m hlt); exact ⟨A, _, c, e⟩)
   (fun W i hi hW => by
    obtain ⟨A, c, e, hle, hC⟩ := Kd.R_reads (hrow W hW i hi)
    have hok := List.all_eq_true.mp hL (L.getD i []) (by rw [List.getD_eq_getElem?_getD, List.getElem?_eq_getElem hi]; exact List.getElem_mem hi)
    unfold okRow at hok
    rw [Bool.and_eq_true, Bool.and_eq_true, decide_eq_true_iff] at hok
    obtain ⟨a0, a1⟩ := inR_true hok.2.1
    obtain ⟨a2, a3⟩ := inR_true hok.2.2
    have hcw : W.cell? ⟨b0, 0, none⟩ = some (.string s) := (World.cell?_of_block (w := w) (w' := W) (a := ⟨b0, 0, none⟩) (hW.block b0 (by omega) (fun e => by injection e with e; omega))).trans hcell
    rw [e]
    exact xw_overlaps1 s b0 (L.getD i []) A c W hcw hC hok.1 hs a0 a1 a2 a3)
  refine hD.mono ?_
  rintro e w' ⟨cur', rfl, hb', hsz', hc', hW⟩
  refine ⟨_, rfl, ?_, ⟨hW.os, hW.tape, hW.output, hW.size, fun k hk => hW.block k (by omega) (fun e => by injection e with e; omega)⟩⟩
  rw [← kept_map (ovB s) L]
  have hkl := keptI_le (fun m => ovB s (L.getD m [])) L.length
  exact S_of_vals (rank := fun x => (keptI (fun m => ovB s (L.getD m [])) x).length) hg hok hb' hsz' (by omega) hm hc' (fun m x hx => hrow w' hW x (keptI_spec _ _ _ _ hx).1) (fun m x hx => (keptI_spec _ _ _ _ hx).2)
 ·obtain ⟨A, c, rfl⟩ := Kd.S_slice hS
  have h0 : L = [] := List.length_eq_zero_iff.mp (by omega)
  subst h0
  refine (xw_DeleteFunc_nil A c _ _ w).mono ?_
  rintro e w' ⟨rfl, rfl⟩
  exact ⟨_, rfl, hS, Below.refl _ _⟩
def impl_overlaps.f (k : Nat) (a0 : ByteArray) : Option (List (List Int)) := (impl_powersIn.f k a0 2).bind fun L => if a0.size ≤ 1000 ∧ L.length ≤ 1000000 ∧ L.all okRow = true then some (L.filter fun l => !ovB a0 l) else none
set_option maxHeartbeats 4000000 in
theorem impl_overlaps.calls (k : Nat) (a0 : ByteArray) (r : List (List Int)) (w : World) (h : impl_overlaps.f k a0 = some r) :
  Calls Try.prog 47 #[.string a0] w fun e w' => ∃ v : Value, e = .returned v ∧ Kd.S (Kd.slice 2 (Kd.int .i64)) 26 w' w.heap.size (fun _ => True) v r ∧ Below w.heap.size w w' := by
 unfold impl_overlaps.f at h
 obtain ⟨L, hL, h⟩ := Option.bind_eq_some_iff.mp h
 by_cases hc : a0.size ≤ 1000 ∧ L.length ≤ 1000000 ∧ L.all okRow = true
 ·rw [if_pos hc] at h
  obtain rfl := Option.some.inj h
  have hP := Aside0.mk (fun W => impl_powersIn.calls k a0 2 L W hL)
  have hD := Aside0.mk (fun v W (hW : w.heap.size + 1 ≤ W.heap.size) (hcell : W.cell? ⟨w.heap.size, 0, none⟩ = some (.string a0)) (hS : Kd.S (Kd.slice 2 (Kd.int .i64)) 26 W (w.heap.size + 1) (fun _ => True) v L) => xw_Delete_overlaps a0 w.heap.size L v W (w.heap.size + 1) hc.1 hc.2.1 hc.2.2 (by omega) hW hcell hS)
  have hmk := xw_mkf
  have hcl : (w.alloc (.cells #[.string a0] 9)).cell? ⟨w.heap.size, 0, none⟩ = some (.string a0) := by simp [go_sem]
  clear h hc hL
  go_enter Try.func47, Try.ntmps47
  go_wp2_with (first | (go_at_call 55; go_loud (refine (hP.out _).mono ?_; rintro e w2 ⟨v, rfl, ho, hb⟩; have hsz : (w.alloc (.cells #[.string a0] 9)).heap.size = w.heap.size + 1 := (by simp); rw [hsz] at ho hb; have hcell2 := (hb.cell (p := ⟨w.heap.size, 0, none⟩) (by show w.heap.size < w.heap.size + 1; omega)).trans hcl; have hsz2 := Aside0.mk (show w.heap.size + 1 ≤ w2.heap.size by have := hb.size; omega); have hb2 := Aside0.mk hb; have ho2 := Aside0.mk ho; clear hb ho hsz)) | (go_at_call 71; refine (hD.out _ _ hsz2.out hcell2 ho2.out).mono ?_; rintro e w3 ⟨v', rfl, ho3, hb3⟩; have hb4 := Aside0.mk hb3; have ho4 := Aside0.mk ho3; clear hb3 ho3))
  go_ret
  refine ⟨_, rfl, Kd.S_lower ho4.out (by omega), ?_⟩
  exact ((((Below.refl _ w).alloc (Nat.le_refl _) (.cells #[.string a0] 9)).trans (hb2.out.mono (by omega))).trans (hb4.out.mono (by omega)))
 ·rw [if_neg hc] at h; cases h


end Go.Proofs.Yteakipdmpjlhiaa.Q

namespace Go.Proofs.Yteakipdmpjlhiaa.Q
open Go.RowKit Go.Proofs.YteakipdmpjlhiaaW.PrintWords Go.Proofs.YteakipdmpjlhiaaW.PrintLast Go.Proofs.YteakipdmpjlhiaaW.PrintMore
attribute [local go_sem] max2_int min2_int max_two min_two max_three min_three max_four min_four bn_leq bn_gtr bn_geq   -- for this text's walks alone
set_option linter.unusedVariables false
set_option linter.unusedSimpArgs false

/-! ### impl_IsOverlapFree: function 15 -/
def impl_IsOverlapFree.f (k : Nat) (a0 : ByteArray) : Option (Bool × Int) := (impl_wordCode.f () (([a0] : List ByteArray))).bind fun t380 => (if t380 = 0 then ((impl_overlaps.f k a0).bind fun t381 => (some (((t381.length : Int) == 0), 0))) else (some (false, t380)))
set_option maxHeartbeats 8000000 in
set_option maxRecDepth 100000 in
theorem impl_IsOverlapFree.calls (k : Nat) (a0 : ByteArray) (r1 : Bool) (r2 : Int) (w : World) (h : impl_IsOverlapFree.f k a0 = some (r1, r2)) :
  Calls Try.prog 15 #[.string a0] w fun e w' => e = .returned (.tuple #[.bool r1, .int .i64 r2]) ∧ Below w.heap.size w w' := by
 have HB := Aside0.mk (Below.refl w.heap.size w)
 have H : ((impl_wordCode.f () (([a0] : List ByteArray))).bind fun t380 => (if t380 = 0 then ((impl_overlaps.f k a0).bind fun t381 => (some (((t381.length : Int) == 0), 0))) else (some (false, t380)))) = some (r1, r2) := h
 clear h
 obtain ⟨y377, hy377⟩ : ∃ y_ : List ByteArray, y_ = (([a0] : List ByteArray)) := ⟨_, rfl⟩
 replace H : ((impl_wordCode.f () y377).bind fun t380 => (if t380 = 0 then ((impl_overlaps.f k a0).bind fun t381 => (some (((t381.length : Int) == 0), 0))) else (some (false, t380)))) = some (r1, r2) := by first | (rw [hy377]; with_reducible exact H) | (have H2_ := (Option.bind_some _ _).symm.trans H; rw [hy377]; with_reducible exact H2_) | (have H2_ := (Option.bind_some _ _).symm.trans H; with_reducible exact H2_) | with_reducible exact H | (rw [hy377]; exact H) | exact H
 have Ny377 := Aside0.mk hy377
 clear hy377
 replace H := Option.bind_eq_some_iff.mp H
 obtain ⟨t380, A20, H⟩ := H
 replace H : (if t380 = 0 then ((impl_overlaps.f k a0).bind fun t381 => (some (((t381.length : Int) == 0), 0))) else (some (false, t380))) = some (r1, r2) := H
 have A2 := Aside0.mk A20
 clear A20
 by_cases c3 : t380 = 0
 ·rw [if_pos c3] at H
  have c3b0 : (t380 == 0) = true := beq_iff_eq.mpr c3
  have c3b1 : (t380 != 0) = false := bne_eq_false_iff_eq.mpr c3
  clear c3
  replace H := Option.bind_eq_some_iff.mp H
  obtain ⟨t381, A40, H⟩ := H
  replace H : (some (((t381.length : Int) == 0), 0)) = some (r1, r2) := H
  have A4 := Aside0.mk A40
  clear A40
  simp only [Option.some.injEq, Prod.mk.injEq] at H
  obtain ⟨rfl, rfl⟩ := H
  go_enter Try.func15, Try.ntmps15
  go_wp2_with (first | ((with_reducible refine gate_dst (N := 6) rfl ?_); refine Kd.R_lit Kd.string _ 9 ?hg (N := 6) ?hd (xs := ([a0] : List ByteArray)) (inner := [.string a0]) (ok := fun _ => True) (okp := fun _ => True) ?hr ?hp (fun _ hk => hk) trivial (Below.refl _ _) (Nat.le_refl _) (by simp) ?_; (case hd => rfl); (case hg => rfl); (case hr => first | (go_simp; done) | (go_simp; rfl)); (case hp => exact (Reps.one (show Kd.M Kd.string _ _ _ a0 [.string a0] from rfl) (Reps.none _ _))); intro v378 w5 ho6 hb hg_ hnew_; clear hg_ hnew_; (first | rw [← Ny377.out] at ho6 | (simp only [Int.reduceToNat] at ho6; rw [← Ny377.out] at ho6)); have n0_ := Aside0.mk (Kd.R_lower ho6 (below_size (by repeat (first | (with_reducible first | exact HB.out | apply below_alloc | apply pw_below_drewN | apply below_drew1) | exact HB.out)))); have n1_ := Aside0.mk (below_step (by repeat (first | (with_reducible first | exact HB.out | apply below_alloc | apply pw_below_drewN | apply below_drew1) | exact HB.out)) hb); clear HB; have HO379 := n0_; have HB := n1_; clear n0_ n1_; clear hb ho6; obtain ⟨Ao7, co7, eo7⟩ := Kd.R_slice HO379.out; subst eo7) | ((with_reducible refine gate_callee (f := 30) rfl ?_); refine goesL_ (some 7) rfl rfl Try.func30 (by kernel_rfl) rfl #[.func (.func 43) #[] #[], .slice Ao7 y377.length co7] rfl (by (try simp only [List.map_toArray, List.map_cons, List.map_nil]); first | done | rfl | (simp only [List.length_drop, List.length_take]; rfl)) ?_; (with_reducible refine (impl_wordCode.calls () _ _ y377 t380 _ ?side1 ?side2 A2.out).mono ?_); (case side1 => repeat (first | exact (Kd.R_reads' HO379.out).2.2 | (with_reducible refine Kd.C_alloc ?_ _) | (with_reducible refine Kd.C_drewN ?_ _) | (with_reducible refine Kd.C_drew ?_))); (case side2 => exact (Kd.R_reads' HO379.out).2.1); rintro e w8 ⟨rfl, hb⟩; refine ⟨_, rfl, ?_⟩; have n0_ := Aside0.mk (Kd.R_below (by (with_reducible repeat (first | apply Kd.R_alloc | apply Kd.R_drewN | apply Kd.R_drew)); exact HO379.out) hb); have n1_ := Aside0.mk (below_step (by repeat (first | (with_reducible first | exact HB.out | apply below_alloc | apply pw_below_drewN | apply below_drew1) | exact HB.out)) hb); clear HO379; clear HB; have HO379 := n0_; have HB := n1_; clear n0_ n1_; (try clear hb); (try clear hb2); (try clear hk); (try clear hi)) | ((with_reducible refine gate_callee (f := 47) rfl ?_); refine goesL_ (some 12) rfl rfl Try.func47 (by kernel_rfl) rfl #[.string a0] rfl (by (try simp only [List.map_toArray, List.map_cons, List.map_nil]); first | done | rfl | (simp only [List.length_drop, List.length_take]; rfl)) ?_; (with_reducible refine (impl_overlaps.calls k a0 t381 _ A4.out).mono ?_); rintro e w9 ⟨v382, rfl, ho0, hb⟩; refine ⟨_, rfl, ?_⟩; have n0_ := Aside0.mk (Kd.R_below (by (with_reducible repeat (first | apply Kd.R_alloc | apply Kd.R_drewN | apply Kd.R_drew)); exact HO379.out) hb); have n1_ := Aside0.mk (Kd.S_lower ho0 (below_size (by repeat (first | (with_reducible first | exact HB.out | apply below_alloc | apply pw_below_drewN | apply below_drew1) | exact HB.out)))); have n2_ := Aside0.mk (below_step (by repeat (first | (with_reducible first | exact HB.out | apply below_alloc | apply pw_below_drewN | apply below_drew1) | exact HB.out)) hb); clear HO379; clear HB; have HO379 := n0_; have HO383 := n1_; have HB := n2_; clear n0_ n1_ n2_; (try clear hb); (try clear hb2); (try clear hk); (try clear hi); (try clear ho0); obtain ⟨Ao10, co10, eo10⟩ := Kd.S_slice HO383.out; subst eo10))
  go_ret2
  exact ⟨by first | rfl | (simp [errW_none, errW_some] <;> rfl) | (simp [*, errW_none, errW_some] <;> rfl), by repeat (first | (with_reducible first | exact HB.out | apply below_alloc | apply pw_below_drewN | apply below_drew1) | exact HB.out)⟩
 ·rw [if_neg c3] at H
  have c3b0 : (t380 == 0) = false := beq_eq_false_iff_ne.mpr c3
  have c3b1 : (t380 != 0) = true := bne_iff_ne.mpr c3
  simp only [Option.some.injEq, Prod.mk.injEq] at H
  obtain ⟨rfl, rfl⟩ := H
  go_enter Try.func15, Try.ntmps15
  go_wp2_with (first | ((with_reducible refine gate_dst (N := 6) rfl ?_); refine Kd.R_lit Kd.string _ 9 ?hg (N := 6) ?hd (xs := ([a0] : List ByteArray)) (inner := [.string a0]) (ok := fun _ => True) (okp := fun _ => True) ?hr ?hp (fun _ hk => hk) trivial (Below.refl _ _) (Nat.le_refl _) (by simp) ?_; (case hd => rfl); (case hg => rfl); (case hr => first | (go_simp; done) | (go_simp; rfl)); (case hp => exact (Reps.one (show Kd.M Kd.string _ _ _ a0 [.string a0] from rfl) (Reps.none _ _))); intro v378 w11 ho12 hb hg_ hnew_; clear hg_ hnew_; (first | rw [← Ny377.out] at ho12 | (simp only [Int.reduceToNat] at ho12; rw [← Ny377.out] at ho12)); have n0_ := Aside0.mk (Kd.R_lower ho12 (below_size (by repeat (first | (with_reducible first | exact HB.out | apply below_alloc | apply pw_below_drewN | apply below_drew1) | exact HB.out)))); have n1_ := Aside0.mk (below_step (by repeat (first | (with_reducible first | exact HB.out | apply below_alloc | apply pw_below_drewN | apply below_drew1) | exact HB.out)) hb); clear HB; have HO379 := n0_; have HB := n1_; clear n0_ n1_; clear hb ho12; obtain ⟨Ao13, co13, eo13⟩ := Kd.R_slice HO379.out; subst eo13) | ((with_reducible refine gate_callee (f := 30) rfl ?_); refine goesL_ (some 7) rfl rfl Try.func30 (by kernel_rfl) rfl #[.func (.func 43) #[] #[], .slice Ao13 y377.length co13] rfl (by (try simp only [List.map_toArray, List.map_cons, List.map_nil]); first | done | rfl | (simp only [List.length_drop, List.length_take]; rfl)) ?_; (with_reducible refine (impl_wordCode.calls () _ _ y377 t380 _ ?side1 ?side2 A2.out).mono ?_); (case side1 => repeat (first | exact (Kd.R_reads' HO379.out).2.2 | (with_reducible refine Kd.C_alloc ?_ _) | (with_reducible refine Kd.C_drewN ?_ _) | (with_reducible refine Kd.C_drew ?_))); (case side2 => exact (Kd.R_reads' HO379.out).2.1); rintro e w14 ⟨rfl, hb⟩; refine ⟨_, rfl, ?_⟩; have n0_ := Aside0.mk (Kd.R_below (by (with_reducible repeat (first | apply Kd.R_alloc | apply Kd.R_drewN | apply Kd.R_drew)); exact HO379.out) hb); have n1_ := Aside0.mk (below_step (by repeat (first | (with_reducible first | exact HB.out | apply below_alloc | apply pw_below_drewN | apply below_drew1) | exact HB.out)) hb); clear HO379; clear HB; have HO379 := n0_; have HB := n1_; clear n0_ n1_; (try clear hb); (try clear hb2); (try clear hk); (try clear hi)))
  go_ret2
  exact ⟨by first | rfl | (simp [errW_none, errW_some] <;> rfl) | (simp [*, errW_none, errW_some] <;> rfl), by repeat (first | (with_reducible first | exact HB.out | apply below_alloc | apply pw_below_drewN | apply below_drew1) | exact HB.out)⟩

end Go.Proofs.Yteakipdmpjlhiaa.Q

namespace Go.Proofs.Yteakipdmpjlhiaa.Q
open Go.RowKit Go.Proofs.YteakipdmpjlhiaaW.PrintWords Go.Proofs.YteakipdmpjlhiaaW.PrintLast Go.Proofs.YteakipdmpjlhiaaW.PrintMore
attribute [local go_sem] max2_int min2_int max_two min_two max_three min_three max_four min_four bn_leq bn_gtr bn_geq   -- for this text's walks alone
set_option linter.unusedVariables false
set_option linter.unusedSimpArgs false

/-! ### spec_l01Near: function 48 -/
def spec_l01Near.f (s0_0 : List Int) (s0_1 : Int) (s0_2 : Int) (a1 : Int) : Option (Int × Int × Int) := (spec_l01Next.f s0_0 s0_1 s0_2 14).bind fun bt384 => (if bt384.1 = 0 then ((spec_l01Pick.f s0_0 bt384.2.1 bt384.2.2 (([(-1), wrap64 (a1 + 1), 1099511627776, (-4611686018427387904)] : List Int))).bind fun bt390 => (some (bt390.1, bt390.2.1, bt390.2.2))) else ((spec_l01Next.f s0_0 bt384.2.1 bt384.2.2 (wrap64 (a1 + 1))).bind fun bt393 => (some (bt393.1, bt393.2.1, bt393.2.2))))
set_option maxHeartbeats 8000000 in
set_option maxRecDepth 100000 in
theorem spec_l01Near.calls (g : Nat) (s0_0 : List Int) (s0_1 : Int) (s0_2 : Int) (a1 : Int) (r1 : Int) (r2 : Int) (r3 : Int) (w0 w : World) (hI : IsS71 w0 w g s0_0 s0_1 s0_2) (hB : Below w0.heap.size w0 w) (h : spec_l01Near.f s0_0 s0_1 s0_2 a1 = some (r1, r2, r3)) :
  Calls Try.prog 48 #[.pointer (some ⟨g, 0, none⟩), .int .i64 a1] w fun e w' => e = .returned (.int .i64 r1) ∧ IsS71 w0 w' g s0_0 r2 r3 ∧ Below w0.heap.size w0 w' ∧ KeepBut w w' g none := by
 have HI0 := Aside0.mk hI
 have HK := Aside0.mk (KeepBut.refl w g none)
 have HL := Aside0.mk hB.size
 clear hI
 have HW0 := Aside0.mk hB.size
 have HB := Aside0.mk hB
 clear hB
 have H : ((spec_l01Next.f s0_0 s0_1 s0_2 14).bind fun bt384 => (if bt384.1 = 0 then ((spec_l01Pick.f s0_0 bt384.2.1 bt384.2.2 (([(-1), wrap64 (a1 + 1), 1099511627776, (-4611686018427387904)] : List Int))).bind fun bt390 => (some (bt390.1, bt390.2.1, bt390.2.2))) else ((spec_l01Next.f s0_0 bt384.2.1 bt384.2.2 (wrap64 (a1 + 1))).bind fun bt393 => (some (bt393.1, bt393.2.1, bt393.2.2))))) = some (r1, r2, r3) := h
 clear h
 replace H := Option.bind_eq_some_iff.mp H
 obtain ⟨⟨t384, t385, t386⟩, A30, H⟩ := H
 replace H : (if t384 = 0 then ((spec_l01Pick.f s0_0 t385 t386 (([(-1), wrap64 (a1 + 1), 1099511627776, (-4611686018427387904)] : List Int))).bind fun bt390 => (some (bt390.1, bt390.2.1, bt390.2.2))) else ((spec_l01Next.f s0_0 t385 t386 (wrap64 (a1 + 1))).bind fun bt393 => (some (bt393.1, bt393.2.1, bt393.2.2)))) = some (r1, r2, r3) := H
 have A3 := Aside0.mk A30
 clear A30
 by_cases c4 : t384 = 0
 ·rw [if_pos c4] at H
  have c4b0 : (t384 == 0) = true := beq_iff_eq.mpr c4
  have c4b1 : (t384 != 0) = false := bne_eq_false_iff_eq.mpr c4
  clear c4
  obtain ⟨y387, hy387⟩ : ∃ y_ : List Int, y_ = (([(-1), wrap64 (a1 + 1), 1099511627776, (-4611686018427387904)] : List Int)) := ⟨_, rfl⟩
  replace H : ((spec_l01Pick.f s0_0 t385 t386 y387).bind fun bt390 => (some (bt390.1, bt390.2.1, bt390.2.2))) = some (r1, r2, r3) := by first | (rw [hy387]; with_reducible exact H) | (have H2_ := (Option.bind_some _ _).symm.trans H; rw [hy387]; with_reducible exact H2_) | (have H2_ := (Option.bind_some _ _).symm.trans H; with_reducible exact H2_) | with_reducible exact H | (rw [hy387]; exact H) | exact H
  have Ny387 := Aside0.mk hy387
  clear hy387
  replace H := Option.bind_eq_some_iff.mp H
  obtain ⟨⟨t390, t391, t392⟩, A50, H⟩ := H
  replace H : (some (t390, t391, t392)) = some (r1, r2, r3) := H
  have A5 := Aside0.mk A50
  clear A50
  simp only [Option.some.injEq, Prod.mk.injEq] at H
  obtain ⟨rfl, rfl, rfl⟩ := H
  go_enter Try.func48, Try.ntmps48
  go_wp2_with (first | ((with_reducible refine gate_callee (f := 63) rfl ?_); refine goesL_ (some 6) rfl rfl Try.func63 (by kernel_rfl) rfl #[.pointer (some ⟨g, 0, none⟩), .int .i64 14] rfl (by (try simp only [List.map_toArray, List.map_cons, List.map_nil]); first | done | rfl | (simp only [List.length_drop, List.length_take]; rfl)) ?_; (with_reducible refine (spec_l01Next.calls g s0_0 s0_1 s0_2 14 t384 t385 t386 w0 _ ?side1 ?side2 A3.out).mono ?_); (case side1 => repeat (first | (with_reducible first | exact HI0.out | apply IsS71.alloc | apply IsS71.drewN | apply IsS71.drew | apply IsS71.set_1 | apply IsS71.set_2) | exact HI0.out)); (case side2 => repeat (first | (with_reducible first | exact HB.out | apply below_alloc | apply pw_below_drewN | apply below_drew1 | refine below_set ?_ (IsS71.ge HI0.out)) | exact HB.out)); rintro e w6 ⟨rfl, hi, hb, hk⟩; refine ⟨_, rfl, ?_⟩; have n0_ := Aside0.mk (KeepBut.trans (by repeat (first | (with_reducible first | exact HK.out | apply KeepBut.set_ | apply keep_drewN | apply keep_drew | apply keep_alloc) | exact HK.out)) hk (.inl rfl)); have n1_ := Aside0.mk (hb); have n2_ := Aside0.mk (hi); clear HK; clear HB; clear HI0; have HK := n0_; have HB := n1_; have HI0 := n2_; clear n0_ n1_ n2_; (try clear hb); (try clear hb2); (try clear hk); (try clear hi)) | ((with_reducible refine gate_dst (N := 11) rfl ?_); refine Kd.R_lit (Kd.int .i64) _ 2 ?hg (N := 11) ?hd (xs := ([(-1), wrap64 (a1 + 1), 1099511627776, (-4611686018427387904)] : List Int)) (inner := [.int .i64 (-1), .int .i64 (wrap64 (a1 + 1)), .int .i64 1099511627776, .int .i64 (-4611686018427387904)]) (ok := fun _ => True) (okp := fun _ => True) ?hr ?hp (fun _ hk => hk) trivial (Below.refl _ _) (Nat.le_refl _) (by simp) ?_; (case hd => rfl); (case hg => rfl); (case hr => first | (go_simp; done) | (go_simp; rfl)); (case hp => exact (Reps.one (show Kd.M (Kd.int .i64) _ _ _ (-1) [.int .i64 (-1)] from rfl) (Reps.one (show Kd.M (Kd.int .i64) _ _ _ (wrap64 (a1 + 1)) [.int .i64 (wrap64 (a1 + 1))] from rfl) (Reps.one (show Kd.M (Kd.int .i64) _ _ _ 1099511627776 [.int .i64 1099511627776] from rfl) (Reps.one (show Kd.M (Kd.int .i64) _ _ _ (-4611686018427387904) [.int .i64 (-4611686018427387904)] from rfl) (Reps.none _ _)))))); intro v388 w7 ho8 hb hg_ hnew_; clear hg_ hnew_; (first | rw [← Ny387.out] at ho8 | (simp only [Int.reduceToNat] at ho8; rw [← Ny387.out] at ho8)); have n0_ := Aside0.mk (Kd.R_lower ho8 (keep_size (w := w) (g := g) (row := none) (by repeat (first | (with_reducible first | exact HK.out | apply KeepBut.set_ | apply keep_drewN | apply keep_drew | apply keep_alloc) | exact HK.out)))); have n1_ := Aside0.mk (IsS71.below (by repeat (first | (with_reducible first | exact HI0.out | apply IsS71.alloc | apply IsS71.drewN | apply IsS71.drew | apply IsS71.set_1 | apply IsS71.set_2) | exact HI0.out)) hb); have n2_ := Aside0.mk (KeepBut.trans (by repeat (first | (with_reducible first | exact HK.out | apply KeepBut.set_ | apply keep_drewN | apply keep_drew | apply keep_alloc) | exact HK.out)) (KeepBut.of_below hb g none) (.inl rfl)); have n3_ := Aside0.mk (below_step (by repeat (first | (with_reducible first | exact HB.out | apply below_alloc | apply pw_below_drewN | apply below_drew1 | refine below_set ?_ (IsS71.ge HI0.out)) | exact HB.out)) hb); clear HI0; clear HK; clear HB; have HO389 := n0_; have HI0 := n1_; have HK := n2_; have HB := n3_; clear n0_ n1_ n2_ n3_; clear hb ho8; obtain ⟨Ao9, co9, eo9⟩ := Kd.R_slice HO389.out; subst eo9) | ((with_reducible refine gate_callee (f := 28) rfl ?_); refine goesL_ (some 12) rfl rfl Try.func28 (by kernel_rfl) rfl #[.pointer (some ⟨g, 0, none⟩), .slice Ao9 y387.length co9] rfl (by (try simp only [List.map_toArray, List.map_cons, List.map_nil]); first | done | rfl | (simp only [List.length_drop, List.length_take]; rfl)) ?_; (with_reducible refine (spec_l01Pick.calls g s0_0 t385 t386 _ _ y387 t390 t391 t392 w0 _ ?side1 ?side2 ?side3 ?side4 ?side5 A5.out).mono ?_); (case side1 => repeat (first | (with_reducible first | exact HI0.out | apply IsS71.alloc | apply IsS71.drewN | apply IsS71.drew | apply IsS71.set_1 | apply IsS71.set_2) | exact HI0.out)); (case side2 => repeat (first | (with_reducible first | exact HB.out | apply below_alloc | apply pw_below_drewN | apply below_drew1 | refine below_set ?_ (IsS71.ge HI0.out)) | exact HB.out)); (case side3 => repeat (first | exact (Kd.R_reads' HO389.out).2.2 | (with_reducible refine Kd.C_alloc ?_ _) | (with_reducible refine Kd.C_drewN ?_ _) | (with_reducible refine Kd.C_drew ?_))); (case side4 => exact (Kd.R_reads' HO389.out).2.1); (case side5 => exact far_slice (IsS71.own_ne HI0.out HO389.out (by decide))); rintro e w10 ⟨rfl, hi, hb, hk⟩; refine ⟨_, rfl, ?_⟩; have n0_ := Aside0.mk (Kd.R_mono (Kd.R_keep (IsS71.apart (show IsS71 w0 _ g s0_0 t385 t386 from by repeat (first | (with_reducible first | exact HI0.out | apply IsS71.alloc | apply IsS71.drewN | apply IsS71.drew | apply IsS71.set_1 | apply IsS71.set_2) | exact HI0.out)) (by (with_reducible repeat (first | apply Kd.R_alloc | apply Kd.R_drewN | apply Kd.R_drew)); exact HO389.out) (by decide)) hk (fun _ h => h.2)) (fun _ h => h.1)); have n1_ := Aside0.mk (KeepBut.trans (by repeat (first | (with_reducible first | exact HK.out | apply KeepBut.set_ | apply keep_drewN | apply keep_drew | apply keep_alloc) | exact HK.out)) hk (.inl rfl)); have n2_ := Aside0.mk (hb); have n3_ := Aside0.mk (hi); clear HO389; clear HK; clear HB; clear HI0; have HO389 := n0_; have HK := n1_; have HB := n2_; have HI0 := n3_; clear n0_ n1_ n2_ n3_; (try clear hb); (try clear hb2); (try clear hk); (try clear hi)))
  go_ret
  exact ⟨by first | rfl | (simp [errW_none, errW_some] <;> rfl) | (simp [*, errW_none, errW_some] <;> rfl), by repeat (first | (with_reducible first | exact HI0.out | apply IsS71.alloc | apply IsS71.drewN | apply IsS71.drew | apply IsS71.set_1 | apply IsS71.set_2) | exact HI0.out), by repeat (first | (with_reducible first | exact HB.out | apply below_alloc | apply pw_below_drewN | apply below_drew1 | refine below_set ?_ (IsS71.ge HI0.out)) | exact HB.out), by repeat (first | (with_reducible first | exact HK.out | apply KeepBut.set_ | apply keep_drewN | apply keep_drew | apply keep_alloc) | exact HK.out)⟩
 ·rw [if_neg c4] at H
  have c4b0 : (t384 == 0) = false := beq_eq_false_iff_ne.mpr c4
  have c4b1 : (t384 != 0) = true := bne_iff_ne.mpr c4
  replace H := Option.bind_eq_some_iff.mp H
  obtain ⟨⟨t393, t394, t395⟩, A110, H⟩ := H
  replace H : (some (t393, t394, t395)) = some (r1, r2, r3) := H
  have A11 := Aside0.mk A110
  clear A110
  simp only [Option.some.injEq, Prod.mk.injEq] at H
  obtain ⟨rfl, rfl, rfl⟩ := H
  go_enter Try.func48, Try.ntmps48
  go_wp2_with (first | ((with_reducible refine gate_callee (f := 63) rfl ?_); refine goesL_ (some 6) rfl rfl Try.func63 (by kernel_rfl) rfl #[.pointer (some ⟨g, 0, none⟩), .int .i64 14] rfl (by (try simp only [List.map_toArray, List.map_cons, List.map_nil]); first | done | rfl | (simp only [List.length_drop, List.length_take]; rfl)) ?_; (with_reducible refine (spec_l01Next.calls g s0_0 s0_1 s0_2 14 t384 t385 t386 w0 _ ?side1 ?side2 A3.out).mono ?_); (case side1 => repeat (first | (with_reducible first | exact HI0.out | apply IsS71.alloc | apply IsS71.drewN | apply IsS71.drew | apply IsS71.set_1 | apply IsS71.set_2) | exact HI0.out)); (case side2 => repeat (first | (with_reducible first | exact HB.out | apply below_alloc | apply pw_below_drewN | apply below_drew1 | refine below_set ?_ (IsS71.ge HI0.out)) | exact HB.out)); rintro e w12 ⟨rfl, hi, hb, hk⟩; refine ⟨_, rfl, ?_⟩; have n0_ := Aside0.mk (KeepBut.trans (by repeat (first | (with_reducible first | exact HK.out | apply KeepBut.set_ | apply keep_drewN | apply keep_drew | apply keep_alloc) | exact HK.out)) hk (.inl rfl)); have n1_ := Aside0.mk (hb); have n2_ := Aside0.mk (hi); clear HK; clear HB; clear HI0; have HK := n0_; have HB := n1_; have HI0 := n2_; clear n0_ n1_ n2_; (try clear hb); (try clear hb2); (try clear hk); (try clear hi)) | ((with_reducible refine gate_callee (f := 63) rfl ?_); refine goesL_ (some 16) rfl rfl Try.func63 (by kernel_rfl) rfl #[.pointer (some ⟨g, 0, none⟩), .int .i64 (wrap64 (a1 + 1))] rfl (by (try simp only [List.map_toArray, List.map_cons, List.map_nil]); first | done | rfl | (simp only [List.length_drop, List.length_take]; rfl)) ?_; (with_reducible refine (spec_l01Next.calls g s0_0 t385 t386 (wrap64 (a1 + 1)) t393 t394 t395 w0 _ ?side1 ?side2 A11.out).mono ?_); (case side1 => repeat (first | (with_reducible first | exact HI0.out | apply IsS71.alloc | apply IsS71.drewN | apply IsS71.drew | apply IsS71.set_1 | apply IsS71.set_2) | exact HI0.out)); (case side2 => repeat (first | (with_reducible first | exact HB.out | apply below_alloc | apply pw_below_drewN | apply below_drew1 | refine below_set ?_ (IsS71.ge HI0.out)) | exact HB.out)); rintro e w13 ⟨rfl, hi, hb, hk⟩; refine ⟨_, rfl, ?_⟩; have n0_ := Aside0.mk (KeepBut.trans (by repeat (first | (with_reducible first | exact HK.out | apply KeepBut.set_ | apply keep_drewN | apply keep_drew | apply keep_alloc) | exact HK.out)) hk (.inl rfl)); have n1_ := Aside0.mk (hb); have n2_ := Aside0.mk (hi); clear HK; clear HB; clear HI0; have HK := n0_; have HB := n1_; have HI0 := n2_; clear n0_ n1_ n2_; (try clear hb); (try clear hb2); (try clear hk); (try clear hi)))
  go_ret
  exact ⟨by first | rfl | (simp [errW_none, errW_some] <;> rfl) | (simp [*, errW_none, errW_some] <;> rfl), by repeat (first | (with_reducible first | exact HI0.out | apply IsS71.alloc | apply IsS71.drewN | apply IsS71.drew | apply IsS71.set_1 | apply IsS71.set_2) | exact HI0.out), by repeat (first | (with_reducible first | exact HB.out | apply below_alloc | apply pw_below_drewN | apply below_drew1 | refine below_set ?_ (IsS71.ge HI0.out)) | exact HB.out), by repeat (first | (with_reducible first | exact HK.out | apply KeepBut.set_ | apply keep_drewN | apply keep_drew | apply keep_alloc) | exact HK.out)⟩

end Go.Proofs.Yteakipdmpjlhiaa.Q

namespace Go.Proofs.Yteakipdmpjlhiaa.Q
open Go.RowKit Go.Proofs.YteakipdmpjlhiaaW.PrintWords Go.Proofs.YteakipdmpjlhiaaW.PrintLast Go.Proofs.YteakipdmpjlhiaaW.PrintMore
attribute [local go_sem] max2_int min2_int max_two min_two max_three min_three max_four min_four bn_leq bn_gtr bn_geq   -- for this text's walks alone
set_option linter.unusedVariables false
set_option linter.unusedSimpArgs false

/-! ### spec_DrawFirstSquareFree: function 16 -/
def spec_DrawFirstSquareFree.f (k : Nat) (l0 : List Int) : Option (Int × Int) := (spec_l01From.f k l0).bind fun bt396 => ((spec_l01Near.f bt396.1 bt396.2.1 bt396.2.2 30).bind fun bt400 => ((spec_l01Pick.f bt396.1 bt400.2.1 bt400.2.2 (([1, 2, 3, 3, 3, 4, 5, 0, 6] : List Int))).bind fun bt406 => (some (bt400.1, bt406.1))))
set_option maxHeartbeats 8000000 in
set_option maxRecDepth 100000 in
theorem spec_DrawFirstSquareFree.calls (k : Nat) (A0 : Option Addr) (c0 : Nat) (l0 : List Int) (r1 : Int) (r2 : Int) (w : World) (hr0 : Kd.C (Kd.int .u8) w A0 l0.length l0) (hc0 : l0.length ≤ c0) (h : spec_DrawFirstSquareFree.f k l0 = some (r1, r2)) :
  Calls Try.prog 16 #[.slice A0 l0.length c0] w fun e w' => e = .returned (.tuple #[.int .i64 r1, .int .i64 r2]) ∧ Below w.heap.size w w' := by
 have HR0 := Aside0.mk hr0
 have HC0 := Aside0.mk hc0
 clear hr0 hc0
 have HB := Aside0.mk (Below.refl w.heap.size w)
 have H : ((spec_l01From.f k l0).bind fun bt396 => ((spec_l01Near.f bt396.1 bt396.2.1 bt396.2.2 30).bind fun bt400 => ((spec_l01Pick.f bt396.1 bt400.2.1 bt400.2.2 (([1, 2, 3, 3, 3, 4, 5, 0, 6] : List Int))).bind fun bt406 => (some (bt400.1, bt406.1))))) = some (r1, r2) := h
 clear h
 replace H := Option.bind_eq_some_iff.mp H
 obtain ⟨⟨t396, t397, t398⟩, A20, H⟩ := H
 replace H : ((spec_l01Near.f t396 t397 t398 30).bind fun bt400 => ((spec_l01Pick.f t396 bt400.2.1 bt400.2.2 (([1, 2, 3, 3, 3, 4, 5, 0, 6] : List Int))).bind fun bt406 => (some (bt400.1, bt406.1)))) = some (r1, r2) := H
 have A2 := Aside0.mk A20
 clear A20
 replace H := Option.bind_eq_some_iff.mp H
 obtain ⟨⟨t400, t401, t402⟩, A30, H⟩ := H
 replace H : ((spec_l01Pick.f t396 t401 t402 (([1, 2, 3, 3, 3, 4, 5, 0, 6] : List Int))).bind fun bt406 => (some (t400, bt406.1))) = some (r1, r2) := H
 have A3 := Aside0.mk A30
 clear A30
 obtain ⟨y403, hy403⟩ : ∃ y_ : List Int, y_ = (([1, 2, 3, 3, 3, 4, 5, 0, 6] : List Int)) := ⟨_, rfl⟩
 replace H : ((spec_l01Pick.f t396 t401 t402 y403).bind fun bt406 => (some (t400, bt406.1))) = some (r1, r2) := by first | (rw [hy403]; with_reducible exact H) | (have H2_ := (Option.bind_some _ _).symm.trans H; rw [hy403]; with_reducible exact H2_) | (have H2_ := (Option.bind_some _ _).symm.trans H; with_reducible exact H2_) | with_reducible exact H | (rw [hy403]; exact H) | exact H
 have Ny403 := Aside0.mk hy403
 clear hy403
 replace H := Option.bind_eq_some_iff.mp H
 obtain ⟨⟨t406, t407, t408⟩, A40, H⟩ := H
 replace H : (some (t400, t406)) = some (r1, r2) := H
 have A4 := Aside0.mk A40
 clear A40
 simp only [Option.some.injEq, Prod.mk.injEq] at H
 obtain ⟨rfl, rfl⟩ := H
 go_enter Try.func16, Try.ntmps16
 go_wp2_with (first | ((with_reducible refine gate_callee (f := 29) rfl ?_); refine goesL_ (some 6) rfl rfl Try.func29 (by kernel_rfl) rfl #[.slice A0 l0.length c0] rfl (by (try simp only [List.map_toArray, List.map_cons, List.map_nil]); first | done | rfl | (simp only [List.length_drop, List.length_take]; rfl)) ?_; (with_reducible refine (spec_l01From.calls k _ _ l0 t396 t397 t398 w _ ?side1 ?side2 ?side3 A2.out).mono ?_); (case side1 => repeat (first | (with_reducible first | exact HB.out | apply below_alloc | apply pw_below_drewN | apply below_drew1) | exact HB.out)); (case side2 => exact HR0.out); (case side3 => exact HC0.out); rintro e w5 ⟨g399, rfl, hi, hb, hb2⟩; refine ⟨_, rfl, ?_⟩; have n0_ := Aside0.mk (hb); have n1_ := Aside0.mk (hi); clear HB; have HB := n0_; have HI399 := n1_; clear n0_ n1_; (try clear hb); (try clear hb2); (try clear hk); (try clear hi)) | ((with_reducible refine gate_callee (f := 48) rfl ?_); refine goesL_ (some 8) rfl rfl Try.func48 (by kernel_rfl) rfl #[.pointer (some ⟨g399, 0, none⟩), .int .i64 30] rfl (by (try simp only [List.map_toArray, List.map_cons, List.map_nil]); first | done | rfl | (simp only [List.length_drop, List.length_take]; rfl)) ?_; (with_reducible refine (spec_l01Near.calls g399 t396 t397 t398 30 t400 t401 t402 w _ ?side1 ?side2 A3.out).mono ?_); (case side1 => repeat (first | (with_reducible first | exact HI399.out | apply IsS71.alloc | apply IsS71.drewN | apply IsS71.drew | apply IsS71.set_1 | apply IsS71.set_2) | exact HI399.out)); (case side2 => repeat (first | (with_reducible first | exact HB.out | apply below_alloc | apply pw_below_drewN | apply below_drew1 | refine below_set ?_ (IsS71.ge HI399.out)) | exact HB.out)); rintro e w6 ⟨rfl, hi, hb, hk⟩; refine ⟨_, rfl, ?_⟩; have n0_ := Aside0.mk (hb); have n1_ := Aside0.mk (hi); clear HB; clear HI399; have HB := n0_; have HI399 := n1_; clear n0_ n1_; (try clear hb); (try clear hb2); (try clear hk); (try clear hi)) | ((with_reducible refine gate_dst (N := 10) rfl ?_); refine Kd.R_lit (Kd.int .i64) _ 2 ?hg (N := 10) ?hd (xs := ([1, 2, 3, 3, 3, 4, 5, 0, 6] : List Int)) (inner := [.int .i64 1, .int .i64 2, .int .i64 3, .int .i64 3, .int .i64 3, .int .i64 4, .int .i64 5, .int .i64 0, .int .i64 6]) (ok := fun _ => True) (okp := fun _ => True) ?hr ?hp (fun _ hk => hk) trivial (Below.refl _ _) (Nat.le_refl _) (by simp) ?_; (case hd => rfl); (case hg => rfl); (case hr => first | (go_simp; done) | (go_simp; rfl)); (case hp => exact (Reps.one (show Kd.M (Kd.int .i64) _ _ _ 1 [.int .i64 1] from rfl) (Reps.one (show Kd.M (Kd.int .i64) _ _ _ 2 [.int .i64 2] from rfl) (Reps.one (show Kd.M (Kd.int .i64) _ _ _ 3 [.int .i64 3] from rfl) (Reps.one (show Kd.M (Kd.int .i64) _ _ _ 3 [.int .i64 3] from rfl) (Reps.one (show Kd.M (Kd.int .i64) _ _ _ 3 [.int .i64 3] from rfl) (Reps.one (show Kd.M (Kd.int .i64) _ _ _ 4 [.int .i64 4] from rfl) (Reps.one (show Kd.M (Kd.int .i64) _ _ _ 5 [.int .i64 5] from rfl) (Reps.one (show Kd.M (Kd.int .i64) _ _ _ 0 [.int .i64 0] from rfl) (Reps.one (show Kd.M (Kd.int .i64) _ _ _ 6 [.int .i64 6] from rfl) (Reps.none _ _))))))))))); intro v404 w7 ho8 hb hg_ hnew_; clear hg_ hnew_; (first | rw [← Ny403.out] at ho8 | (simp only [Int.reduceToNat] at ho8; rw [← Ny403.out] at ho8)); have n0_ := Aside0.mk (Kd.R_lower ho8 (below_size (by repeat (first | (with_reducible first | exact HB.out | apply below_alloc | apply pw_below_drewN | apply below_drew1 | refine below_set ?_ (IsS71.ge HI399.out)) | exact HB.out)))); have n1_ := Aside0.mk (IsS71.below (by repeat (first | (with_reducible first | exact HI399.out | apply IsS71.alloc | apply IsS71.drewN | apply IsS71.drew | apply IsS71.set_1 | apply IsS71.set_2) | exact HI399.out)) hb); have n2_ := Aside0.mk (below_step (by repeat (first | (with_reducible first | exact HB.out | apply below_alloc | apply pw_below_drewN | apply below_drew1 | refine below_set ?_ (IsS71.ge HI399.out)) | exact HB.out)) hb); clear HI399; clear HB; have HO405 := n0_; have HI399 := n1_; have HB := n2_; clear n0_ n1_ n2_; clear hb ho8; obtain ⟨Ao9, co9, eo9⟩ := Kd.R_slice HO405.out; subst eo9) | ((with_reducible refine gate_callee (f := 28) rfl ?_); refine goesL_ (some 11) rfl rfl Try.func28 (by kernel_rfl) rfl #[.pointer (some ⟨g399, 0, none⟩), .slice Ao9 y403.length co9] rfl (by (try simp only [List.map_toArray, List.map_cons, List.map_nil]); first | done | rfl | (simp only [List.length_drop, List.length_take]; rfl)) ?_; (with_reducible refine (spec_l01Pick.calls g399 t396 t401 t402 _ _ y403 t406 t407 t408 w _ ?side1 ?side2 ?side3 ?side4 ?side5 A4.out).mono ?_); (case side1 => repeat (first | (with_reducible first | exact HI399.out | apply IsS71.alloc | apply IsS71.drewN | apply IsS71.drew | apply IsS71.set_1 | apply IsS71.set_2) | exact HI399.out)); (case side2 => repeat (first | (with_reducible first | exact HB.out | apply below_alloc | apply pw_below_drewN | apply below_drew1 | refine below_set ?_ (IsS71.ge HI399.out)) | exact HB.out)); (case side3 => repeat (first | exact (Kd.R_reads' HO405.out).2.2 | (with_reducible refine Kd.C_alloc ?_ _) | (with_reducible refine Kd.C_drewN ?_ _) | (with_reducible refine Kd.C_drew ?_))); (case side4 => exact (Kd.R_reads' HO405.out).2.1); (case side5 => exact far_slice (IsS71.own_ne HI399.out HO405.out (by decide))); rintro e w10 ⟨rfl, hi, hb, hk⟩; refine ⟨_, rfl, ?_⟩; have n0_ := Aside0.mk (Kd.R_mono (Kd.R_keep (IsS71.apart (show IsS71 w _ g399 t396 t401 t402 from by repeat (first | (with_reducible first | exact HI399.out | apply IsS71.alloc | apply IsS71.drewN | apply IsS71.drew | apply IsS71.set_1 | apply IsS71.set_2) | exact HI399.out)) (by (with_reducible repeat (first | apply Kd.R_alloc | apply Kd.R_drewN | apply Kd.R_drew)); exact HO405.out) (by decide)) hk (fun _ h => h.2)) (fun _ h => h.1)); have n1_ := Aside0.mk (hb); have n2_ := Aside0.mk (hi); clear HO405; clear HB; clear HI399; have HO405 := n0_; have HB := n1_; have HI399 := n2_; clear n0_ n1_ n2_; (try clear hb); (try clear hb2); (try clear hk); (try clear hi)))
 go_ret2
 exact ⟨by first | rfl | (simp [errW_none, errW_some] <;> rfl) | (simp [*, errW_none, errW_some] <;> rfl), by repeat (first | (with_reducible first | exact HB.out | apply below_alloc | apply pw_below_drewN | apply below_drew1 | refine below_set ?_ (IsS71.ge HI399.out)) | exact HB.out)⟩

end Go.Proofs.Yteakipdmpjlhiaa.Q

namespace Go.Proofs.Yteakipdmpjlhiaa.Q
open Go.RowKit Go.Proofs.YteakipdmpjlhiaaW.PrintWords Go.Proofs.YteakipdmpjlhiaaW.PrintLast Go.Proofs.YteakipdmpjlhiaaW.PrintMore
attribute [local go_sem] max2_int min2_int max_two min_two max_three min_three max_four min_four bn_leq bn_gtr bn_geq   -- for this text's walks alone
set_option linter.unusedVariables false
set_option linter.unusedSimpArgs false

/-! ### impl_FirstSquareFree: function 17 (this session's own) -/
/-- the loop over letters of 'grown' -/
def grownL {S : Type} (rc : ByteArray → S → Option (Bool × S)) (k : Nat) (w : ByteArray) : Nat → Nat → S → Option (Bool × S)
 | 0, _, s => some (false, s)
 | d + 1, n, s => (impl_letter.f (n : Int)).bind fun t => if w.size + t.size ≤ 9223372036854775807 then ((impl_endsFree.f k (w ++ t)).bind fun b => if b = true then ((rc (w ++ t) s).bind fun z => if z.1 = true then some (true, z.2) else grownL rc k w d (n + 1) z.2) else grownL rc k w d (n + 1) s) else none
def grownF {S : Type} (act : ByteArray → S → Bool × S) (m kk : Nat) : Nat → ByteArray → S → Option (Bool × S)
 | 0, _, _ => none
 | k + 1, w, s => if w.size = m then some (act w s) else grownL (grownF act m kk k) k w kk 0 s
set_option maxHeartbeats 8000000 in
/-- grown, for whatever callback that keeps a state (I: what the state says of the world). -/
theorem xw_grown {S : Type} (act : ByteArray → S → Bool × S) (I : S → World → Prop) (m kk : Nat) (hkk : kk ≤ 1000) (g : Nat) (lb : Array Value) (eg : ∀ args w, (callFunc g args).run Try.prog w = .ok (.enter g args) w)
  (hmove : ∀ s W W', I s W → Below W.heap.size W W' → I s W')
  (hdo : ∀ s W x, I s W → Calls Try.prog g (#[.string x] ++ lb) W fun e w' => e = .returned (.bool (act x s).1) ∧ I (act x s).2 w') :
  ∀ (k : Nat) (w : ByteArray) (s : S) (r : Bool) (s' : S) (W : World), grownF act m kk k w s = some (r, s') → I s W →
  Calls Try.prog 50 #[.string w, .int .i64 (m : Int), .int .i64 (kk : Int), .func (.func g) #[] lb] W fun e w' => e = .returned (.bool r) ∧ I s' w' := by
 intro k
 induction k with
 | zero => intro w s r s' W h; simp [grownF] at h
 | succ k ih =>
  intro w s r s' W h hI
  simp only [grownF] at h
  by_cases hz : w.size = m
  ·rw [if_pos hz] at h
   have hc := hdo s W w hI
   have he := Option.some.inj h
   rw [he] at hc
   have c1 : ((w.size : Int) == (m : Int)) = true := beq_iff_eq.mpr (by omega)
   clear ih hdo hmove h he hI hkk hz
   simp only at hc
   go_enter Try.func50, Try.ntmps50
   go_wp2_with (first | (go_at_call 73; refine (xw_size _ _).mono ?_; rintro e w2 ⟨rfl, rfl⟩) | (go_at_fn g; refine hc.mono ?_; rintro e w' ⟨rfl, hI2⟩; have hI3 := Aside0.mk hI2; clear hI2))
   go_ret
   exact ⟨rfl, hI3.out⟩
  ·rw [if_neg hz] at h
   have c1 : ((w.size : Int) == (m : Int)) = false := beq_eq_false_iff_ne.mpr (by omega)
   have hL := Aside0.mk h
   have hI' := Aside0.mk hI
   have ih' := Aside0.mk ih
   have hmv := Aside0.mk hmove
   have hk5 := Aside0.mk hkk
   clear ih hdo hmove h hI hkk hz
   go_enter Try.func50, Try.ntmps50
   go_wp2_with (go_at_call 73; refine (xw_size _ _).mono ?_; rintro e w2 ⟨rfl, rfl⟩)
   go_loopg [9, 10, 19] kk (fun gg v9 v10 v19 wr => ∃ (d n : Nat) (t : S), n + d = kk ∧ d ≤ gg ∧ v19 = .int .i64 (n : Int) ∧ Aside0 (grownL (grownF act m kk k) k w d n t = some (r, s')) ∧ Aside0 (I t wr))
   case atStart => exact ⟨kk, 0, s, by omega, by omega, rfl, hL, hI'⟩
   case round =>
    clear hL hI'
    obtain ⟨d, n, t, hnd, hdg, rfl, hL, hI⟩ := hrel
    cases d with
    | zero =>
     obtain rfl : n = kk := by omega
     have h0 := hL.out
     simp only [grownL, Option.some.injEq, Prod.mk.injEq] at h0
     obtain ⟨rfl, rfl⟩ := h0
     have c2 : decide ((n : Int) < (n : Int)) = false := decide_eq_false (by omega)
     clear hL
     go_wp2
     go_ret
     exact ⟨rfl, hI.out⟩
    | succ d =>
     have hlt : (n : Int) < (kk : Int) := by omega
     have c2 := decide_eq_true hlt
     have h0 := hL.out
     simp only [grownL] at h0
     have hk6 := hk5.out
     have hnw := Aside0.mk (show wrap64 ((n : Int) + 1) = ((n + 1 : Nat) : Int) by rw [w64 (by omega) (by omega)]; rfl)
     obtain ⟨u, hu, h0⟩ := Option.bind_eq_some_iff.mp h0
     by_cases c7 : w.size + u.size ≤ 9223372036854775807
     ·rw [if_pos c7] at h0
      obtain ⟨b, he, h0⟩ := Option.bind_eq_some_iff.mp h0
      have c7b := decide_eq_true c7
      have c7c : (9223372036854775807 < w.size + u.size) = False := eq_false (Nat.not_lt.2 c7)
      have hLt := Aside0.mk (fun W => impl_letter.calls (n : Int) u W hu)
      have hE := Aside0.mk (fun W => impl_endsFree.calls k (w ++ u) b W he)
      clear hL hu he c7 hk6
      cases b with
      | false =>
       rw [if_neg (by decide)] at h0
       have h1 := Aside0.mk h0
       clear h0
       go_wp2_with (first | (go_at_call 35; refine (hLt.out _).mono ?_; rintro e w3 ⟨rfl, hb3⟩; have hI3 := Aside0.mk (hmv.out _ _ _ hI.out hb3); clear hb3 hI) | (go_at_call 34; refine (hE.out _).mono ?_; rintro e w4 ⟨rfl, ⟨nd, rfl⟩⟩; have hI4 := Aside0.mk (hmv.out _ _ (w3.drewN nd) hI3.out (by repeat (first | exact Below.refl _ _ | apply pw_below_drewN | apply below_drew1))); clear hI3))
       go_roundg d
       case measure => omega
       case rel => exact ⟨d, n + 1, t, by omega, by omega, by rw [hnw.out], h1, hI4⟩
      | true =>
       rw [if_pos rfl] at h0
       obtain ⟨⟨z1, z2⟩, hz, h0⟩ := Option.bind_eq_some_iff.mp h0
       have hR := Aside0.mk (fun W hW => ih'.out (w ++ u) t z1 z2 W hz hW)
       simp only at h0
       clear hz
       cases z1 with
       | true =>
        rw [if_pos rfl] at h0
        simp only [Option.some.injEq, Prod.mk.injEq] at h0
        obtain ⟨rfl, rfl⟩ := h0
        go_wp2_with (first | (go_at_call 35; refine (hLt.out _).mono ?_; rintro e w3 ⟨rfl, hb3⟩; have hI3 := Aside0.mk (hmv.out _ _ _ hI.out hb3); clear hb3 hI) | (go_at_call 34; refine (hE.out _).mono ?_; rintro e w4 ⟨rfl, ⟨nd, rfl⟩⟩; have hI4 := Aside0.mk (hmv.out _ _ (w3.drewN nd) hI3.out (by repeat (first | exact Below.refl _ _ | apply pw_below_drewN | apply below_drew1))); clear hI3) | (go_at_call 50; refine (hR.out _ hI4.out).mono ?_; rintro e w5 ⟨rfl, hI5⟩; have hI6 := Aside0.mk hI5; clear hI5))
        go_ret
        exact ⟨rfl, hI6.out⟩
       | false =>
        rw [if_neg (by decide)] at h0
        have h1 := Aside0.mk h0
        clear h0
        go_wp2_with (first | (go_at_call 35; refine (hLt.out _).mono ?_; rintro e w3 ⟨rfl, hb3⟩; have hI3 := Aside0.mk (hmv.out _ _ _ hI.out hb3); clear hb3 hI) | (go_at_call 34; refine (hE.out _).mono ?_; rintro e w4 ⟨rfl, ⟨nd, rfl⟩⟩; have hI4 := Aside0.mk (hmv.out _ _ (w3.drewN nd) hI3.out (by repeat (first | exact Below.refl _ _ | apply pw_below_drewN | apply below_drew1))); clear hI3) | (go_at_call 50; refine (hR.out _ hI4.out).mono ?_; rintro e w5 ⟨rfl, hI5⟩; have hI6 := Aside0.mk hI5; clear hI5))
        go_roundg d
        case measure => omega
        case rel => exact ⟨d, n + 1, z2, by omega, by omega, by rw [hnw.out], h1, hI6⟩
     ·rw [if_neg c7] at h0; cases h0

/-- A captured variable in a block of the call's own, and the frame. -/
def gInv (b : Nat) (t : TypeId) (w : World) (c : Value) (W : World) : Prop := W.heap[b]? = some (.cells #[c] t (0, 0)) ∧ w.heap.size ≤ b ∧ Below w.heap.size w W
theorem gInv_move {b : Nat} {t : TypeId} {w : World} {c : Value} {W W' : World} (h : gInv b t w c W) (hb : Below W.heap.size W W') : gInv b t w c W' := ⟨blk_below h.1 hb, h.2.1, below_then h.2.2 h.2.2.size hb⟩
theorem gInv_set {b : Nat} {t : TypeId} {w : World} {c : Value} {W : World} (h : gInv b t w c W) (u : Value) : gInv b t w u (W.setCell ⟨b, 0, none⟩ u) := ⟨blk_put h.1 0 u rfl, h.2.1, below_set h.2.2 h.2.1⟩
theorem gInv_new (w : World) (c : Value) (t : TypeId) : gInv w.heap.size t w c (w.alloc (.cells #[c] t)) := ⟨blk_new _ _, Nat.le_refl _, (Below.refl _ _).alloc (Nat.le_refl _) _⟩
theorem gInv_drew {b : Nat} {t : TypeId} {w : World} {c : Value} {W : World} (h : gInv b t w c W) : gInv b t w c W.drew := ⟨h.1, h.2.1, below_drew1 h.2.2⟩
theorem gInv_cell {b : Nat} {t : TypeId} {w : World} {c : Value} {W : World} (h : gInv b t w c W) : W.cell? ⟨b, 0, none⟩ = some c := (blk_cell h.1 0).trans rfl
theorem gInv_frozen {b : Nat} {t : TypeId} {w : World} {c : Value} {W : World} (h : gInv b t w c W) : W.frozen? ⟨b, 0, none⟩ = false := blk_frozen h.1 0

def fstAct (x : ByteArray) (_ : ByteArray) : Bool × ByteArray := (true, x)
set_option maxHeartbeats 2000000 in
theorem xw_FirstSquareFree1 (x : ByteArray) (s : ByteArray) (b : Nat) (w W : World) (h : gInv b 9 w (.string s) W) :
  Calls Try.prog 51 #[.string x, .pointer (some ⟨b, 0, none⟩)] W fun e w' => e = .returned (.bool true) ∧ gInv b 9 w (.string x) w' := by
 have hc := gInv_cell h
 have hf := gInv_frozen h
 have hh := Aside0.mk h
 clear h
 go_enter Try.func51, Try.ntmps51
 go_wp2
 go_ret
 exact ⟨rfl, by repeat (first | exact gInv_set hh.out _ | apply gInv_drew)⟩
def impl_FirstSquareFree.f (k : Nat) (a0 a1 : Int) : Option (ByteArray × Int) := if (inR a0 0 30 && inR a1 1 5) = true then (grownF fstAct a0.toNat a1.toNat k ⟨#[]⟩ ⟨#[]⟩).bind fun z => if z.1 = true then some (z.2, 0) else some (⟨#[]⟩, 4) else some (⟨#[]⟩, 2)
theorem xw_isLetters2 (x : Int) (W : World) : Calls Try.prog 32 #[.int .i64 x] W fun e w' => e = .returned (.bool (inR x 1 5)) ∧ w' = W := by
 go_enter Try.func32, Try.ntmps32
 go_wp2_with (go_at_call 49; refine (xw_within _ _ _ _).mono ?_; rintro e w' ⟨rfl, rfl⟩)
 go_ret
 exact ⟨rfl, rfl⟩
set_option maxHeartbeats 4000000 in
theorem impl_FirstSquareFree.calls (k : Nat) (a0 a1 : Int) (r1 : ByteArray) (r2 : Int) (w : World) (h : impl_FirstSquareFree.f k a0 a1 = some (r1, r2)) :
  Calls Try.prog 17 #[.int .i64 a0, .int .i64 a1] w fun e w' => e = .returned (.tuple #[.string r1, .int .i64 r2]) ∧ Below w.heap.size w w' := by
 unfold impl_FirstSquareFree.f at h
 have hI0 := fun W => xw_within a0 0 30 W
 have hI1 := fun W => xw_isLetters2 a1 W
 cases h0 : inR a0 0 30 with
 | false =>
  rw [h0] at h hI0
  obtain ⟨rfl, rfl⟩ : (⟨#[]⟩ : ByteArray) = r1 ∧ (2 : Int) = r2 := by simpa using h
  clear h h0 hI1
  go_enter Try.func17, Try.ntmps17
  go_wp2_with (go_at_call 49; refine (hI0 _).mono ?_; rintro e w' ⟨rfl, rfl⟩)
  go_ret2
  exact ⟨rfl, Below.refl _ _⟩
 | true =>
  cases h1 : inR a1 1 5 with
  | false =>
   rw [h0, h1] at h
   rw [h0] at hI0
   rw [h1] at hI1
   obtain ⟨rfl, rfl⟩ : (⟨#[]⟩ : ByteArray) = r1 ∧ (2 : Int) = r2 := by simpa using h
   clear h h0 h1
   go_enter Try.func17, Try.ntmps17
   go_wp2_with (first | (go_at_call 49; refine (hI0 _).mono ?_; rintro e w' ⟨rfl, rfl⟩) | (go_at_call 32; refine (hI1 _).mono ?_; rintro e w' ⟨rfl, rfl⟩))
   go_ret2
   exact ⟨rfl, Below.refl _ _⟩
  | true =>
   rw [h0, h1] at h
   rw [h0] at hI0
   rw [h1] at hI1
   obtain ⟨m0, m1⟩ := inR_true h0
   obtain ⟨m2, m3⟩ := inR_true h1
   obtain ⟨m, rfl⟩ : ∃ m : Nat, a0 = m := ⟨a0.toNat, by omega⟩
   obtain ⟨n, rfl⟩ : ∃ m : Nat, a1 = m := ⟨a1.toNat, by omega⟩
   rw [Bool.and_self, if_pos rfl, Int.toNat_natCast, Int.toNat_natCast] at h
   obtain ⟨⟨b, s⟩, hg, h⟩ := Option.bind_eq_some_iff.mp h
   have hG := Aside0.mk (fun W hW => xw_grown fstAct (fun s W => gInv w.heap.size 9 w (.string s) W) m n (by omega) 51 #[.pointer (some ⟨w.heap.size, 0, none⟩)] (enters_of Try.func51 (by kernel_rfl) rfl)
    (fun s W W' hI hb => gInv_move hI hb) (fun s W x hI => xw_FirstSquareFree1 x s _ w W hI) k ⟨#[]⟩ ⟨#[]⟩ b s W hg hW)
   have hmk := xw_mkf
   clear hg h0 h1 m0 m1 m2 m3
   cases b with
   | true =>
    obtain ⟨rfl, rfl⟩ : s = r1 ∧ (0 : Int) = r2 := by simpa using h
    clear h
    go_enter Try.func17, Try.ntmps17
    go_wp2_with (first | (go_at_call 49; refine (hI0 _).mono ?_; rintro e w' ⟨rfl, rfl⟩) | (go_at_call 32; refine (hI1 _).mono ?_; rintro e w' ⟨rfl, rfl⟩) | (go_at_call 50; refine (hG.out _ (by repeat (first | exact gInv_new _ _ _ | refine gInv_set (c := .string ⟨#[]⟩) ?_ _ | apply gInv_drew))).mono ?_; rintro e w5 ⟨rfl, hI5⟩; have hc5 := gInv_cell hI5; have hI6 := Aside0.mk hI5; clear hI5))
    go_ret2
    exact ⟨rfl, hI6.out.2.2⟩
   | false =>
    obtain ⟨rfl, rfl⟩ : (⟨#[]⟩ : ByteArray) = r1 ∧ (4 : Int) = r2 := by simpa using h
    clear h
    go_enter Try.func17, Try.ntmps17
    go_wp2_with (first | (go_at_call 49; refine (hI0 _).mono ?_; rintro e w' ⟨rfl, rfl⟩) | (go_at_call 32; refine (hI1 _).mono ?_; rintro e w' ⟨rfl, rfl⟩) | (go_at_call 50; refine (hG.out _ (by repeat (first | exact gInv_new _ _ _ | refine gInv_set (c := .string ⟨#[]⟩) ?_ _ | apply gInv_drew))).mono ?_; rintro e w5 ⟨rfl, hI5⟩; have hc5 := gInv_cell hI5; have hI6 := Aside0.mk hI5; clear hI5))
    go_ret2
    exact ⟨rfl, hI6.out.2.2⟩


end Go.Proofs.Yteakipdmpjlhiaa.Q

namespace Go.Proofs.Yteakipdmpjlhiaa.Q
open Go.RowKit Go.Proofs.YteakipdmpjlhiaaW.PrintWords Go.Proofs.YteakipdmpjlhiaaW.PrintLast Go.Proofs.YteakipdmpjlhiaaW.PrintMore
attribute [local go_sem] max2_int min2_int max_two min_two max_three min_three max_four min_four bn_leq bn_gtr bn_geq   -- for this text's walks alone
set_option linter.unusedVariables false
set_option linter.unusedSimpArgs false

/-! ### spec_l03Find: function 52 -/
mutual
def spec_l03Find.l0 : Nat → ByteArray → Int → Int → Int → Option (ByteArray × Bool)
 | 0, _, _, _, _ => none
 | k + 1, x0, x1, x2, x8 => if x8 < x2 then ((spec_l01Letter.f x8).bind fun t410 => (if x0.size + t410.size ≤ 9223372036854775807 then ((spec_l03First.f k (x0 ++ t410) ((x0.size : Int) + (t410.size : Int))).bind fun bt411 => (if bt411.2.2 = true then (spec_l03Find.l0 k x0 x1 x2 (wrap64 (x8 + 1))) else ((spec_l03Find.f k (x0 ++ t410) x1 x2).bind fun bt414 => (if bt414.2 = true then (some (bt414.1, true)) else (spec_l03Find.l0 k x0 x1 x2 (wrap64 (x8 + 1))))))) else (none))) else (some ((⟨#[]⟩ : ByteArray), false))
def spec_l03Find.f : Nat → ByteArray → Int → Int → Option (ByteArray × Bool)
 | 0, _, _, _ => none
 | k + 1, a0, a1, a2 => if (a0.size : Int) = a1 then (some (a0, true)) else (spec_l03Find.l0 k a0 a1 a2 0)
end
set_option maxHeartbeats 8000000 in
set_option maxRecDepth 100000 in
theorem spec_l03Find.calls (k : Nat) : ∀ (a0 : ByteArray) (a1 : Int) (a2 : Int) (r1 : ByteArray) (r2 : Bool) (w : World) (h : spec_l03Find.f k a0 a1 a2 = some (r1, r2)),
  Calls Try.prog 52 #[.string a0, .int .i64 a1, .int .i64 a2] w fun e w' => e = .returned (.tuple #[.string r1, .bool r2]) ∧ Below w.heap.size w w' := by
 induction k using Nat.strongRecOn with
 | _ k ih =>
 intro a0 a1 a2 r1 r2 w h
 cases k with
 | zero => exact absurd h (by simp [spec_l03Find.f])
 | succ k =>
 simp only [spec_l03Find.f] at h
 have HB := Aside0.mk (Below.refl w.heap.size w)
 have H : (if (a0.size : Int) = a1 then (some (a0, true)) else (spec_l03Find.l0 k a0 a1 a2 0)) = some (r1, r2) := h
 clear h
 by_cases c4 : (a0.size : Int) = a1
 ·rw [if_pos c4] at H
  have c4b0 : ((a0.size : Int) == a1) = true := beq_iff_eq.mpr c4
  have c4b1 : ((a0.size : Int) != a1) = false := bne_eq_false_iff_eq.mpr c4
  clear c4
  simp only [Option.some.injEq, Prod.mk.injEq] at H
  obtain ⟨rfl, rfl⟩ := H
  go_enter Try.func52, Try.ntmps52
  go_wp2
  go_ret2
  exact ⟨by first | rfl | (simp [errW_none, errW_some] <;> rfl) | (simp [*, errW_none, errW_some] <;> rfl), by repeat (first | (with_reducible first | exact HB.out | apply below_alloc | apply pw_below_drewN | apply below_drew1) | exact HB.out)⟩
 ·rw [if_neg c4] at H
  have c4b0 : ((a0.size : Int) == a1) = false := beq_eq_false_iff_ne.mpr c4
  have c4b1 : ((a0.size : Int) != a1) = true := bne_iff_ne.mpr c4
  have H' := Aside0.mk H
  clear H
  go_enter Try.func52, Try.ntmps52
  go_wp2
  go_loopg [8] k (fun kq v8 w' => ∃ (x8_1 : Int), v8 = .int .i64 x8_1 ∧ Aside0 (spec_l03Find.l0 kq a0 a1 a2 x8_1 = some (r1, r2)) ∧ Aside0 (kq ≤ k) ∧ Aside0 (Below w.heap.size w w'))
  case atStart => exact ⟨(0), (by first | rfl | (simp; done) | (simp [*]; done)), H', ⟨Nat.le_refl _⟩, ⟨by repeat (first | (with_reducible first | exact HB.out | apply below_alloc | apply pw_below_drewN | apply below_drew1) | exact HB.out)⟩⟩
  case round =>
   clear H'
   try clear p2
   try clear c4
   try clear c4b0
   try clear c4b1
   obtain ⟨x8_1, rfl, HA, HK1, HB⟩ := hrel
   cases gk with
   | zero => exact absurd HA.out (by simp [spec_l03Find.l0])
   | succ k1 =>
    have H := HA.out
    clear HA
    simp only [spec_l03Find.l0] at H
    by_cases c5 : x8_1 < a2
    ·rw [if_pos c5] at H
     have c5b0 : decide (x8_1 < a2) = true := decide_eq_true c5
     clear c5
     replace H := Option.bind_eq_some_iff.mp H
     obtain ⟨t410, A60, H⟩ := H
     replace H : (if a0.size + t410.size ≤ 9223372036854775807 then ((spec_l03First.f k1 (a0 ++ t410) ((a0.size : Int) + (t410.size : Int))).bind fun bt411 => (if bt411.2.2 = true then (spec_l03Find.l0 k1 a0 a1 a2 (wrap64 (x8_1 + 1))) else ((spec_l03Find.f k1 (a0 ++ t410) a1 a2).bind fun bt414 => (if bt414.2 = true then (some (bt414.1, true)) else (spec_l03Find.l0 k1 a0 a1 a2 (wrap64 (x8_1 + 1))))))) else (none)) = some (r1, r2) := H
     have A6 := Aside0.mk A60
     clear A60
     by_cases c7 : a0.size + t410.size ≤ 9223372036854775807
     ·rw [if_pos c7] at H
      have c7b0 := eq_true c7
      have c7b1 : decide (a0.size + t410.size ≤ 9223372036854775807) = true := decide_eq_true c7
      try have c7b2 : (9223372036854775807 < a0.size + t410.size) = False := eq_false (Nat.not_lt.2 c7)
      replace H := Option.bind_eq_some_iff.mp H
      obtain ⟨⟨t411, t412, t413⟩, A80, H⟩ := H
      replace H : (if t413 = true then (spec_l03Find.l0 k1 a0 a1 a2 (wrap64 (x8_1 + 1))) else ((spec_l03Find.f k1 (a0 ++ t410) a1 a2).bind fun bt414 => (if bt414.2 = true then (some (bt414.1, true)) else (spec_l03Find.l0 k1 a0 a1 a2 (wrap64 (x8_1 + 1)))))) = some (r1, r2) := H
      have A8 := Aside0.mk A80
      clear A80
      by_cases c9 : t413 = true
      ·subst c9
       have H1 : (spec_l03Find.l0 k1 a0 a1 a2 (wrap64 (x8_1 + 1))) = some (r1, r2) := by rw [if_pos rfl] at H; exact H
       clear H
       have H := H1
       clear H1
       have H' := Aside0.mk H
       clear H
       go_wp2_with (first | ((with_reducible refine gate_callee (f := 39) rfl ?_); refine goesL_ (some 27) rfl rfl Try.func39 (by kernel_rfl) rfl #[.int .i64 x8_1] rfl (by (try simp only [List.map_toArray, List.map_cons, List.map_nil]); first | done | rfl | (simp only [List.length_drop, List.length_take]; rfl)) ?_; (with_reducible refine (spec_l01Letter.calls x8_1 t410 _ A6.out).mono ?_); rintro e w10 ⟨rfl, hb⟩; refine ⟨_, rfl, ?_⟩; have n0_ := Aside0.mk (below_step (by repeat (first | (with_reducible first | exact HB.out | apply below_alloc | apply pw_below_drewN | apply below_drew1) | exact HB.out)) hb); clear HB; have HB := n0_; clear n0_; (try clear hb); (try clear hb2); (try clear hk); (try clear hi)) | ((with_reducible refine gate_callee (f := 38) rfl ?_); refine goesL_ (some 33) rfl rfl Try.func38 (by kernel_rfl) rfl #[.string (a0 ++ t410), .int .i64 ((a0.size : Int) + (t410.size : Int))] rfl (by (try simp only [List.map_toArray, List.map_cons, List.map_nil]); first | done | rfl | (simp only [List.length_drop, List.length_take]; rfl)) ?_; (with_reducible refine (spec_l03First.calls k1 (a0 ++ t410) ((a0.size : Int) + (t410.size : Int)) t411 t412 true _ A8.out).mono ?_); rintro e w11 ⟨rfl, hb⟩; refine ⟨_, rfl, ?_⟩; have n0_ := Aside0.mk (below_step (by repeat (first | (with_reducible first | exact HB.out | apply below_alloc | apply pw_below_drewN | apply below_drew1) | exact HB.out)) hb); clear HB; have HB := n0_; clear n0_; (try clear hb); (try clear hb2); (try clear hk); (try clear hi)))
       go_roundg k1
       case measure => have := HK1.out; omega
       case rel => exact ⟨(wrap64 (x8_1 + 1)), (by first | rfl | (simp; done) | (simp [*]; done)), H', ⟨by have := HK1.out; omega⟩, ⟨by repeat (first | (with_reducible first | exact HB.out | apply below_alloc | apply pw_below_drewN | apply below_drew1) | exact HB.out)⟩⟩
      ·replace c9 := Bool.eq_false_iff.mpr c9
       subst c9
       have H1 : ((spec_l03Find.f k1 (a0 ++ t410) a1 a2).bind fun bt414 => (if bt414.2 = true then (some (bt414.1, true)) else (spec_l03Find.l0 k1 a0 a1 a2 (wrap64 (x8_1 + 1))))) = some (r1, r2) := by rw [if_neg (show ¬ (false = true) by decide)] at H; exact H
       clear H
       have H := H1
       clear H1
       replace H := Option.bind_eq_some_iff.mp H
       obtain ⟨⟨t414, t415⟩, A120, H⟩ := H
       replace H : (if t415 = true then (some (t414, true)) else (spec_l03Find.l0 k1 a0 a1 a2 (wrap64 (x8_1 + 1)))) = some (r1, r2) := H
       have A12 := Aside0.mk A120
       clear A120
       by_cases c13 : t415 = true
       ·subst c13
        have H1 : (some (t414, true)) = some (r1, r2) := by rw [if_pos rfl] at H; exact H
        clear H
        have H := H1
        clear H1
        simp only [Option.some.injEq, Prod.mk.injEq] at H
        obtain ⟨rfl, rfl⟩ := H
        go_wp2_with (first | ((with_reducible refine gate_callee (f := 39) rfl ?_); refine goesL_ (some 27) rfl rfl Try.func39 (by kernel_rfl) rfl #[.int .i64 x8_1] rfl (by (try simp only [List.map_toArray, List.map_cons, List.map_nil]); first | done | rfl | (simp only [List.length_drop, List.length_take]; rfl)) ?_; (with_reducible refine (spec_l01Letter.calls x8_1 t410 _ A6.out).mono ?_); rintro e w14 ⟨rfl, hb⟩; refine ⟨_, rfl, ?_⟩; have n0_ := Aside0.mk (below_step (by repeat (first | (with_reducible first | exact HB.out | apply below_alloc | apply pw_below_drewN | apply below_drew1) | exact HB.out)) hb); clear HB; have HB := n0_; clear n0_; (try clear hb); (try clear hb2); (try clear hk); (try clear hi)) | ((with_reducible refine gate_callee (f := 38) rfl ?_); refine goesL_ (some 33) rfl rfl Try.func38 (by kernel_rfl) rfl #[.string (a0 ++ t410), .int .i64 ((a0.size : Int) + (t410.size : Int))] rfl (by (try simp only [List.map_toArray, List.map_cons, List.map_nil]); first | done | rfl | (simp only [List.length_drop, List.length_take]; rfl)) ?_; (with_reducible refine (spec_l03First.calls k1 (a0 ++ t410) ((a0.size : Int) + (t410.size : Int)) t411 t412 false _ A8.out).mono ?_); rintro e w15 ⟨rfl, hb⟩; refine ⟨_, rfl, ?_⟩; have n0_ := Aside0.mk (below_step (by repeat (first | (with_reducible first | exact HB.out | apply below_alloc | apply pw_below_drewN | apply below_drew1) | exact HB.out)) hb); clear HB; have HB := n0_; clear n0_; (try clear hb); (try clear hb2); (try clear hk); (try clear hi)) | ((with_reducible refine gate_callee (f := 52) rfl ?_); refine goesL_ (some 42) rfl rfl Try.func52 (by kernel_rfl) rfl #[.string (a0 ++ t410), .int .i64 a1, .int .i64 a2] rfl (by (try simp only [List.map_toArray, List.map_cons, List.map_nil]); first | done | rfl | (simp only [List.length_drop, List.length_take]; rfl)) ?_; (with_reducible refine (ih k1 (by have := HK1.out; omega) (a0 ++ t410) a1 a2 t414 true _ A12.out).mono ?_); rintro e w16 ⟨rfl, hb⟩; refine ⟨_, rfl, ?_⟩; have n0_ := Aside0.mk (below_step (by repeat (first | (with_reducible first | exact HB.out | apply below_alloc | apply pw_below_drewN | apply below_drew1) | exact HB.out)) hb); clear HB; have HB := n0_; clear n0_; (try clear hb); (try clear hb2); (try clear hk); (try clear hi)))
        go_ret2
        exact ⟨by first | rfl | (simp [errW_none, errW_some] <;> rfl) | (simp [*, errW_none, errW_some] <;> rfl), by repeat (first | (with_reducible first | exact HB.out | apply below_alloc | apply pw_below_drewN | apply below_drew1) | exact HB.out)⟩
       ·replace c13 := Bool.eq_false_iff.mpr c13
        subst c13
        have H1 : (spec_l03Find.l0 k1 a0 a1 a2 (wrap64 (x8_1 + 1))) = some (r1, r2) := by rw [if_neg (show ¬ (false = true) by decide)] at H; exact H
        clear H
        have H := H1
        clear H1
        have H' := Aside0.mk H
        clear H
        go_wp2_with (first | ((with_reducible refine gate_callee (f := 39) rfl ?_); refine goesL_ (some 27) rfl rfl Try.func39 (by kernel_rfl) rfl #[.int .i64 x8_1] rfl (by (try simp only [List.map_toArray, List.map_cons, List.map_nil]); first | done | rfl | (simp only [List.length_drop, List.length_take]; rfl)) ?_; (with_reducible refine (spec_l01Letter.calls x8_1 t410 _ A6.out).mono ?_); rintro e w17 ⟨rfl, hb⟩; refine ⟨_, rfl, ?_⟩; have n0_ := Aside0.mk (below_step (by repeat (first | (with_reducible first | exact HB.out | apply below_alloc | apply pw_below_drewN | apply below_drew1) | exact HB.out)) hb); clear HB; have HB := n0_; clear n0_; (try clear hb); (try clear hb2); (try clear hk); (try clear hi)) | ((with_reducible refine gate_callee (f := 38) rfl ?_); refine goesL_ (some 33) rfl rfl Try.func38 (by kernel_rfl) rfl #[.string (a0 ++ t410), .int .i64 ((a0.size : Int) + (t410.size : Int))] rfl (by (try simp only [List.map_toArray, List.map_cons, List.map_nil]); first | done | rfl | (simp only [List.length_drop, List.length_take]; rfl)) ?_; (with_reducible refine (spec_l03First.calls k1 (a0 ++ t410) ((a0.size : Int) + (t410.size : Int)) t411 t412 false _ A8.out).mono ?_); rintro e w18 ⟨rfl, hb⟩; refine ⟨_, rfl, ?_⟩; have n0_ := Aside0.mk (below_step (by repeat (first | (with_reducible first | exact HB.out | apply below_alloc | apply pw_below_drewN | apply below_drew1) | exact HB.out)) hb); clear HB; have HB := n0_; clear n0_; (try clear hb); (try clear hb2); (try clear hk); (try clear hi)) | ((with_reducible refine gate_callee (f := 52) rfl ?_); refine goesL_ (some 42) rfl rfl Try.func52 (by kernel_rfl) rfl #[.string (a0 ++ t410), .int .i64 a1, .int .i64 a2] rfl (by (try simp only [List.map_toArray, List.map_cons, List.map_nil]); first | done | rfl | (simp only [List.length_drop, List.length_take]; rfl)) ?_; (with_reducible refine (ih k1 (by have := HK1.out; omega) (a0 ++ t410) a1 a2 t414 false _ A12.out).mono ?_); rintro e w19 ⟨rfl, hb⟩; refine ⟨_, rfl, ?_⟩; have n0_ := Aside0.mk (below_step (by repeat (first | (with_reducible first | exact HB.out | apply below_alloc | apply pw_below_drewN | apply below_drew1) | exact HB.out)) hb); clear HB; have HB := n0_; clear n0_; (try clear hb); (try clear hb2); (try clear hk); (try clear hi)))
        go_roundg k1
        case measure => have := HK1.out; omega
        case rel => exact ⟨(wrap64 (x8_1 + 1)), (by first | rfl | (simp; done) | (simp [*]; done)), H', ⟨by have := HK1.out; omega⟩, ⟨by repeat (first | (with_reducible first | exact HB.out | apply below_alloc | apply pw_below_drewN | apply below_drew1) | exact HB.out)⟩⟩
     ·rw [if_neg c7] at H
      exact absurd H (by simp)
    ·rw [if_neg c5] at H
     have c5b0 : decide (x8_1 < a2) = false := decide_eq_false c5
     clear c5
     simp only [Option.some.injEq, Prod.mk.injEq] at H
     obtain ⟨rfl, rfl⟩ := H
     go_wp2
     go_ret2
     exact ⟨by first | rfl | (simp [errW_none, errW_some] <;> rfl) | (simp [*, errW_none, errW_some] <;> rfl), by repeat (first | (with_reducible first | exact HB.out | apply below_alloc | apply pw_below_drewN | apply below_drew1) | exact HB.out)⟩

end Go.Proofs.Yteakipdmpjlhiaa.Q

namespace Go.Proofs.Yteakipdmpjlhiaa.Q
open Go.RowKit Go.Proofs.YteakipdmpjlhiaaW.PrintWords Go.Proofs.YteakipdmpjlhiaaW.PrintLast Go.Proofs.YteakipdmpjlhiaaW.PrintMore
attribute [local go_sem] max2_int min2_int max_two min_two max_three min_three max_four min_four bn_leq bn_gtr bn_geq   -- for this text's walks alone
set_option linter.unusedVariables false
set_option linter.unusedSimpArgs false

/-! ### spec_FirstSquareFree: function 18 -/
def spec_FirstSquareFree.j0 : Nat → Int → Int → Bool → Option (ByteArray × Int)
 | 0, _, _, _ => none
 | k + 1, x0, x1, x15 => if x15 = true then (some ((⟨#[]⟩ : ByteArray), 2)) else ((spec_l03Find.f k (⟨#[]⟩ : ByteArray) x0 x1).bind fun bt418 => (if bt418.2 = true then (some (bt418.1, 0)) else (some ((⟨#[]⟩ : ByteArray), 4))))
def spec_FirstSquareFree.f (k : Nat) (a0 : Int) (a1 : Int) : Option (ByteArray × Int) := (spec_l01In.f a0 0 30).bind fun t416 => (if t416 = true then ((spec_l01In.f a1 1 5).bind fun t417 => (spec_FirstSquareFree.j0 k a0 a1 (!t417))) else (spec_FirstSquareFree.j0 k a0 a1 true))
set_option maxHeartbeats 8000000 in
set_option maxRecDepth 100000 in
theorem spec_FirstSquareFree.calls (k : Nat) (a0 : Int) (a1 : Int) (r1 : ByteArray) (r2 : Int) (w : World) (h : spec_FirstSquareFree.f k a0 a1 = some (r1, r2)) :
  Calls Try.prog 18 #[.int .i64 a0, .int .i64 a1] w fun e w' => e = .returned (.tuple #[.string r1, .int .i64 r2]) ∧ Below w.heap.size w w' := by
 have HB := Aside0.mk (Below.refl w.heap.size w)
 have H : ((spec_l01In.f a0 0 30).bind fun t416 => (if t416 = true then ((spec_l01In.f a1 1 5).bind fun t417 => (spec_FirstSquareFree.j0 k a0 a1 (!t417))) else (spec_FirstSquareFree.j0 k a0 a1 true))) = some (r1, r2) := h
 clear h
 have HC3 := Aside0.mk H
 clear H
 go_enter Try.func18, Try.ntmps18
 go_upto_region 1 with (fail)
 go_cut [15] (fun v15 wc => ∃ (kq : Nat) (x15_2 : Bool), v15 = .bool x15_2 ∧ Aside0 (spec_FirstSquareFree.j0 kq a0 a1 x15_2 = some (r1, r2)) ∧ Aside0 (kq ≤ k) ∧ Aside0 (Below w.heap.size w wc))
 case first =>
  have H := HC3.out
  clear HC3
  replace H := Option.bind_eq_some_iff.mp H
  obtain ⟨t416, A40, H⟩ := H
  replace H : (if t416 = true then ((spec_l01In.f a1 1 5).bind fun t417 => (spec_FirstSquareFree.j0 k a0 a1 (!t417))) else (spec_FirstSquareFree.j0 k a0 a1 true)) = some (r1, r2) := H
  have A4 := Aside0.mk A40
  clear A40
  by_cases c5 : t416 = true
  ·subst c5
   have H1 : ((spec_l01In.f a1 1 5).bind fun t417 => (spec_FirstSquareFree.j0 k a0 a1 (!t417))) = some (r1, r2) := by rw [if_pos rfl] at H; exact H
   clear H
   have H := H1
   clear H1
   replace H := Option.bind_eq_some_iff.mp H
   obtain ⟨t417, A60, H⟩ := H
   replace H : (spec_FirstSquareFree.j0 k a0 a1 (!t417)) = some (r1, r2) := H
   have A6 := Aside0.mk A60
   clear A60
   have H' := Aside0.mk H
   clear H
   go_wp2_with (first | ((with_reducible refine gate_callee (f := 37) rfl ?_); refine goesL_ (some 9) rfl rfl Try.func37 (by kernel_rfl) rfl #[.int .i64 a0, .int .i64 0, .int .i64 30] rfl (by (try simp only [List.map_toArray, List.map_cons, List.map_nil]); first | done | rfl | (simp only [List.length_drop, List.length_take]; rfl)) ?_; (with_reducible refine (spec_l01In.calls a0 0 30 true _ A4.out).mono ?_); rintro e w' ⟨rfl, ⟨nd, rfl⟩⟩; refine ⟨_, rfl, ?_⟩) | (go_at_call 37; (with_reducible refine (spec_l01In.calls a1 1 5 t417 _ A6.out).mono ?_); rintro e w' ⟨rfl, ⟨nd, rfl⟩⟩))
   go_meet
   case rel => exact ⟨_, (!t417), (by first | rfl | (simp; done) | (simp [*]; done)), H', ⟨by first | omega | exact Nat.le_refl _⟩, ⟨by repeat (first | (with_reducible first | exact HB.out | apply below_alloc | apply pw_below_drewN | apply below_drew1) | exact HB.out)⟩⟩
  ·replace c5 := Bool.eq_false_iff.mpr c5
   subst c5
   have H1 : (spec_FirstSquareFree.j0 k a0 a1 true) = some (r1, r2) := by rw [if_neg (show ¬ (false = true) by decide)] at H; exact H
   clear H
   have H := H1
   clear H1
   have H' := Aside0.mk H
   clear H
   go_wp2_with (first | ((with_reducible refine gate_callee (f := 37) rfl ?_); refine goesL_ (some 9) rfl rfl Try.func37 (by kernel_rfl) rfl #[.int .i64 a0, .int .i64 0, .int .i64 30] rfl (by (try simp only [List.map_toArray, List.map_cons, List.map_nil]); first | done | rfl | (simp only [List.length_drop, List.length_take]; rfl)) ?_; (with_reducible refine (spec_l01In.calls a0 0 30 false _ A4.out).mono ?_); rintro e w' ⟨rfl, ⟨nd, rfl⟩⟩; refine ⟨_, rfl, ?_⟩))
   go_meet
   case rel => exact ⟨_, (true), (by first | rfl | (simp; done) | (simp [*]; done)), H', ⟨by first | omega | exact Nat.le_refl _⟩, ⟨by repeat (first | (with_reducible first | exact HB.out | apply below_alloc | apply pw_below_drewN | apply below_drew1) | exact HB.out)⟩⟩
 case rest =>
  clear HC3
  try clear c1
  try clear p2
  try clear c3
  try clear c5
  obtain ⟨kq, x15_2, rfl, HA, HJ2, HB⟩ := hcut
  cases kq with
  | zero => exact absurd HA.out (by simp [spec_FirstSquareFree.j0])
  | succ kj2 =>
   have H := HA.out
   clear HA
   simp only [spec_FirstSquareFree.j0] at H
   by_cases c7 : x15_2 = true
   ·subst c7
    have H1 : (some ((⟨#[]⟩ : ByteArray), 2)) = some (r1, r2) := by rw [if_pos rfl] at H; exact H
    clear H
    have H := H1
    clear H1
    simp only [Option.some.injEq, Prod.mk.injEq] at H
    obtain ⟨rfl, rfl⟩ := H
    go_wp2
    go_ret2
    exact ⟨by first | rfl | (simp [errW_none, errW_some] <;> rfl) | (simp [*, errW_none, errW_some] <;> rfl), by repeat (first | (with_reducible first | exact HB.out | apply below_alloc | apply pw_below_drewN | apply below_drew1) | exact HB.out)⟩
   ·replace c7 := Bool.eq_false_iff.mpr c7
    subst c7
    have H1 : ((spec_l03Find.f kj2 (⟨#[]⟩ : ByteArray) a0 a1).bind fun bt418 => (if bt418.2 = true then (some (bt418.1, 0)) else (some ((⟨#[]⟩ : ByteArray), 4)))) = some (r1, r2) := by rw [if_neg (show ¬ (false = true) by decide)] at H; exact H
    clear H
    have H := H1
    clear H1
    replace H := Option.bind_eq_some_iff.mp H
    obtain ⟨⟨t418, t419⟩, A80, H⟩ := H
    replace H : (if t419 = true then (some (t418, 0)) else (some ((⟨#[]⟩ : ByteArray), 4))) = some (r1, r2) := H
    have A8 := Aside0.mk A80
    clear A80
    by_cases c9 : t419 = true
    ·subst c9
     have H1 : (some (t418, 0)) = some (r1, r2) := by rw [if_pos rfl] at H; exact H
     clear H
     have H := H1
     clear H1
     simp only [Option.some.injEq, Prod.mk.injEq] at H
     obtain ⟨rfl, rfl⟩ := H
     go_wp2_with (first | ((with_reducible refine gate_callee (f := 52) rfl ?_); refine goesL_ (some 19) rfl rfl Try.func52 (by kernel_rfl) rfl #[.string (⟨#[]⟩ : ByteArray), .int .i64 a0, .int .i64 a1] rfl (by (try simp only [List.map_toArray, List.map_cons, List.map_nil]); first | done | rfl | (simp only [List.length_drop, List.length_take]; rfl)) ?_; (with_reducible refine (spec_l03Find.calls kj2 (⟨#[]⟩ : ByteArray) a0 a1 t418 true _ A8.out).mono ?_); rintro e w10 ⟨rfl, hb⟩; refine ⟨_, rfl, ?_⟩; have n0_ := Aside0.mk (below_step (by repeat (first | (with_reducible first | exact HB.out | apply below_alloc | apply pw_below_drewN | apply below_drew1) | exact HB.out)) hb); clear HB; have HB := n0_; clear n0_; (try clear hb); (try clear hb2); (try clear hk); (try clear hi)))
     go_ret2
     exact ⟨by first | rfl | (simp [errW_none, errW_some] <;> rfl) | (simp [*, errW_none, errW_some] <;> rfl), by repeat (first | (with_reducible first | exact HB.out | apply below_alloc | apply pw_below_drewN | apply below_drew1) | exact HB.out)⟩
    ·replace c9 := Bool.eq_false_iff.mpr c9
     subst c9
     have H1 : (some ((⟨#[]⟩ : ByteArray), 4)) = some (r1, r2) := by rw [if_neg (show ¬ (false = true) by decide)] at H; exact H
     clear H
     have H := H1
     clear H1
     simp only [Option.some.injEq, Prod.mk.injEq] at H
     obtain ⟨rfl, rfl⟩ := H
     go_wp2_with (first | ((with_reducible refine gate_callee (f := 52) rfl ?_); refine goesL_ (some 19) rfl rfl Try.func52 (by kernel_rfl) rfl #[.string (⟨#[]⟩ : ByteArray), .int .i64 a0, .int .i64 a1] rfl (by (try simp only [List.map_toArray, List.map_cons, List.map_nil]); first | done | rfl | (simp only [List.length_drop, List.length_take]; rfl)) ?_; (with_reducible refine (spec_l03Find.calls kj2 (⟨#[]⟩ : ByteArray) a0 a1 t418 false _ A8.out).mono ?_); rintro e w11 ⟨rfl, hb⟩; refine ⟨_, rfl, ?_⟩; have n0_ := Aside0.mk (below_step (by repeat (first | (with_reducible first | exact HB.out | apply below_alloc | apply pw_below_drewN | apply below_drew1) | exact HB.out)) hb); clear HB; have HB := n0_; clear n0_; (try clear hb); (try clear hb2); (try clear hk); (try clear hi)))
     go_ret2
     exact ⟨by first | rfl | (simp [errW_none, errW_some] <;> rfl) | (simp [*, errW_none, errW_some] <;> rfl), by repeat (first | (with_reducible first | exact HB.out | apply below_alloc | apply pw_below_drewN | apply below_drew1) | exact HB.out)⟩

end Go.Proofs.Yteakipdmpjlhiaa.Q

namespace Go.Proofs.Yteakipdmpjlhiaa.Q
open Go.RowKit Go.Proofs.YteakipdmpjlhiaaW.PrintWords Go.Proofs.YteakipdmpjlhiaaW.PrintLast Go.Proofs.YteakipdmpjlhiaaW.PrintMore
attribute [local go_sem] max2_int min2_int max_two min_two max_three min_three max_four min_four bn_leq bn_gtr bn_geq   -- for this text's walks alone
set_option linter.unusedVariables false
set_option linter.unusedSimpArgs false

/-! ### spec_DrawCountSquareFree: function 19 -/
def spec_DrawCountSquareFree.f (k : Nat) (l0 : List Int) : Option (Int × Int) := (spec_l01From.f k l0).bind fun bt420 => ((spec_l01Near.f bt420.1 bt420.2.1 bt420.2.2 12).bind fun bt424 => ((spec_l01Pick.f bt420.1 bt424.2.1 bt424.2.2 (([1, 2, 3, 3, 3, 0, 4] : List Int))).bind fun bt430 => (some (bt424.1, bt430.1))))
set_option maxHeartbeats 8000000 in
set_option maxRecDepth 100000 in
theorem spec_DrawCountSquareFree.calls (k : Nat) (A0 : Option Addr) (c0 : Nat) (l0 : List Int) (r1 : Int) (r2 : Int) (w : World) (hr0 : Kd.C (Kd.int .u8) w A0 l0.length l0) (hc0 : l0.length ≤ c0) (h : spec_DrawCountSquareFree.f k l0 = some (r1, r2)) :
  Calls Try.prog 19 #[.slice A0 l0.length c0] w fun e w' => e = .returned (.tuple #[.int .i64 r1, .int .i64 r2]) ∧ Below w.heap.size w w' := by
 have HR0 := Aside0.mk hr0
 have HC0 := Aside0.mk hc0
 clear hr0 hc0
 have HB := Aside0.mk (Below.refl w.heap.size w)
 have H : ((spec_l01From.f k l0).bind fun bt420 => ((spec_l01Near.f bt420.1 bt420.2.1 bt420.2.2 12).bind fun bt424 => ((spec_l01Pick.f bt420.1 bt424.2.1 bt424.2.2 (([1, 2, 3, 3, 3, 0, 4] : List Int))).bind fun bt430 => (some (bt424.1, bt430.1))))) = some (r1, r2) := h
 clear h
 replace H := Option.bind_eq_some_iff.mp H
 obtain ⟨⟨t420, t421, t422⟩, A20, H⟩ := H
 replace H : ((spec_l01Near.f t420 t421 t422 12).bind fun bt424 => ((spec_l01Pick.f t420 bt424.2.1 bt424.2.2 (([1, 2, 3, 3, 3, 0, 4] : List Int))).bind fun bt430 => (some (bt424.1, bt430.1)))) = some (r1, r2) := H
 have A2 := Aside0.mk A20
 clear A20
 replace H := Option.bind_eq_some_iff.mp H
 obtain ⟨⟨t424, t425, t426⟩, A30, H⟩ := H
 replace H : ((spec_l01Pick.f t420 t425 t426 (([1, 2, 3, 3, 3, 0, 4] : List Int))).bind fun bt430 => (some (t424, bt430.1))) = some (r1, r2) := H
 have A3 := Aside0.mk A30
 clear A30
 obtain ⟨y427, hy427⟩ : ∃ y_ : List Int, y_ = (([1, 2, 3, 3, 3, 0, 4] : List Int)) := ⟨_, rfl⟩
 replace H : ((spec_l01Pick.f t420 t425 t426 y427).bind fun bt430 => (some (t424, bt430.1))) = some (r1, r2) := by first | (rw [hy427]; with_reducible exact H) | (have H2_ := (Option.bind_some _ _).symm.trans H; rw [hy427]; with_reducible exact H2_) | (have H2_ := (Option.bind_some _ _).symm.trans H; with_reducible exact H2_) | with_reducible exact H | (rw [hy427]; exact H) | exact H
 have Ny427 := Aside0.mk hy427
 clear hy427
 replace H := Option.bind_eq_some_iff.mp H
 obtain ⟨⟨t430, t431, t432⟩, A40, H⟩ := H
 replace H : (some (t424, t430)) = some (r1, r2) := H
 have A4 := Aside0.mk A40
 clear A40
 simp only [Option.some.injEq, Prod.mk.injEq] at H
 obtain ⟨rfl, rfl⟩ := H
 go_enter Try.func19, Try.ntmps19
 go_wp2_with (first | ((with_reducible refine gate_callee (f := 29) rfl ?_); refine goesL_ (some 6) rfl rfl Try.func29 (by kernel_rfl) rfl #[.slice A0 l0.length c0] rfl (by (try simp only [List.map_toArray, List.map_cons, List.map_nil]); first | done | rfl | (simp only [List.length_drop, List.length_take]; rfl)) ?_; (with_reducible refine (spec_l01From.calls k _ _ l0 t420 t421 t422 w _ ?side1 ?side2 ?side3 A2.out).mono ?_); (case side1 => repeat (first | (with_reducible first | exact HB.out | apply below_alloc | apply pw_below_drewN | apply below_drew1) | exact HB.out)); (case side2 => exact HR0.out); (case side3 => exact HC0.out); rintro e w5 ⟨g423, rfl, hi, hb, hb2⟩; refine ⟨_, rfl, ?_⟩; have n0_ := Aside0.mk (hb); have n1_ := Aside0.mk (hi); clear HB; have HB := n0_; have HI423 := n1_; clear n0_ n1_; (try clear hb); (try clear hb2); (try clear hk); (try clear hi)) | ((with_reducible refine gate_callee (f := 48) rfl ?_); refine goesL_ (some 8) rfl rfl Try.func48 (by kernel_rfl) rfl #[.pointer (some ⟨g423, 0, none⟩), .int .i64 12] rfl (by (try simp only [List.map_toArray, List.map_cons, List.map_nil]); first | done | rfl | (simp only [List.length_drop, List.length_take]; rfl)) ?_; (with_reducible refine (spec_l01Near.calls g423 t420 t421 t422 12 t424 t425 t426 w _ ?side1 ?side2 A3.out).mono ?_); (case side1 => repeat (first | (with_reducible first | exact HI423.out | apply IsS71.alloc | apply IsS71.drewN | apply IsS71.drew | apply IsS71.set_1 | apply IsS71.set_2) | exact HI423.out)); (case side2 => repeat (first | (with_reducible first | exact HB.out | apply below_alloc | apply pw_below_drewN | apply below_drew1 | refine below_set ?_ (IsS71.ge HI423.out)) | exact HB.out)); rintro e w6 ⟨rfl, hi, hb, hk⟩; refine ⟨_, rfl, ?_⟩; have n0_ := Aside0.mk (hb); have n1_ := Aside0.mk (hi); clear HB; clear HI423; have HB := n0_; have HI423 := n1_; clear n0_ n1_; (try clear hb); (try clear hb2); (try clear hk); (try clear hi)) | ((with_reducible refine gate_dst (N := 10) rfl ?_); refine Kd.R_lit (Kd.int .i64) _ 2 ?hg (N := 10) ?hd (xs := ([1, 2, 3, 3, 3, 0, 4] : List Int)) (inner := [.int .i64 1, .int .i64 2, .int .i64 3, .int .i64 3, .int .i64 3, .int .i64 0, .int .i64 4]) (ok := fun _ => True) (okp := fun _ => True) ?hr ?hp (fun _ hk => hk) trivial (Below.refl _ _) (Nat.le_refl _) (by simp) ?_; (case hd => rfl); (case hg => rfl); (case hr => first | (go_simp; done) | (go_simp; rfl)); (case hp => exact (Reps.one (show Kd.M (Kd.int .i64) _ _ _ 1 [.int .i64 1] from rfl) (Reps.one (show Kd.M (Kd.int .i64) _ _ _ 2 [.int .i64 2] from rfl) (Reps.one (show Kd.M (Kd.int .i64) _ _ _ 3 [.int .i64 3] from rfl) (Reps.one (show Kd.M (Kd.int .i64) _ _ _ 3 [.int .i64 3] from rfl) (Reps.one (show Kd.M (Kd.int .i64) _ _ _ 3 [.int .i64 3] from rfl) (Reps.one (show Kd.M (Kd.int .i64) _ _ _ 0 [.int .i64 0] from rfl) (Reps.one (show Kd.M (Kd.int .i64) _ _ _ 4 [.int .i64 4] from rfl) (Reps.none _ _))))))))); intro v428 w7 ho8 hb hg_ hnew_; clear hg_ hnew_; (first | rw [← Ny427.out] at ho8 | (simp only [Int.reduceToNat] at ho8; rw [← Ny427.out] at ho8)); have n0_ := Aside0.mk (Kd.R_lower ho8 (below_size (by repeat (first | (with_reducible first | exact HB.out | apply below_alloc | apply pw_below_drewN | apply below_drew1 | refine below_set ?_ (IsS71.ge HI423.out)) | exact HB.out)))); have n1_ := Aside0.mk (IsS71.below (by repeat (first | (with_reducible first | exact HI423.out | apply IsS71.alloc | apply IsS71.drewN | apply IsS71.drew | apply IsS71.set_1 | apply IsS71.set_2) | exact HI423.out)) hb); have n2_ := Aside0.mk (below_step (by repeat (first | (with_reducible first | exact HB.out | apply below_alloc | apply pw_below_drewN | apply below_drew1 | refine below_set ?_ (IsS71.ge HI423.out)) | exact HB.out)) hb); clear HI423; clear HB; have HO429 := n0_; have HI423 := n1_; have HB := n2_; clear n0_ n1_ n2_; clear hb ho8; obtain ⟨Ao9, co9, eo9⟩ := Kd.R_slice HO429.out; subst eo9) | ((with_reducible refine gate_callee (f := 28) rfl ?_); refine goesL_ (some 11) rfl rfl Try.func28 (by kernel_rfl) rfl #[.pointer (some ⟨g423, 0, none⟩), .slice Ao9 y427.length co9] rfl (by (try simp only [List.map_toArray, List.map_cons, List.map_nil]); first | done | rfl | (simp only [List.length_drop, List.length_take]; rfl)) ?_; (with_reducible refine (spec_l01Pick.calls g423 t420 t425 t426 _ _ y427 t430 t431 t432 w _ ?side1 ?side2 ?side3 ?side4 ?side5 A4.out).mono ?_); (case side1 => repeat (first | (with_reducible first | exact HI423.out | apply IsS71.alloc | apply IsS71.drewN | apply IsS71.drew | apply IsS71.set_1 | apply IsS71.set_2) | exact HI423.out)); (case side2 => repeat (first | (with_reducible first | exact HB.out | apply below_alloc | apply pw_below_drewN | apply below_drew1 | refine below_set ?_ (IsS71.ge HI423.out)) | exact HB.out)); (case side3 => repeat (first | exact (Kd.R_reads' HO429.out).2.2 | (with_reducible refine Kd.C_alloc ?_ _) | (with_reducible refine Kd.C_drewN ?_ _) | (with_reducible refine Kd.C_drew ?_))); (case side4 => exact (Kd.R_reads' HO429.out).2.1); (case side5 => exact far_slice (IsS71.own_ne HI423.out HO429.out (by decide))); rintro e w10 ⟨rfl, hi, hb, hk⟩; refine ⟨_, rfl, ?_⟩; have n0_ := Aside0.mk (Kd.R_mono (Kd.R_keep (IsS71.apart (show IsS71 w _ g423 t420 t425 t426 from by repeat (first | (with_reducible first | exact HI423.out | apply IsS71.alloc | apply IsS71.drewN | apply IsS71.drew | apply IsS71.set_1 | apply IsS71.set_2) | exact HI423.out)) (by (with_reducible repeat (first | apply Kd.R_alloc | apply Kd.R_drewN | apply Kd.R_drew)); exact HO429.out) (by decide)) hk (fun _ h => h.2)) (fun _ h => h.1)); have n1_ := Aside0.mk (hb); have n2_ := Aside0.mk (hi); clear HO429; clear HB; clear HI423; have HO429 := n0_; have HB := n1_; have HI423 := n2_; clear n0_ n1_ n2_; (try clear hb); (try clear hb2); (try clear hk); (try clear hi)))
 go_ret2
 exact ⟨by first | rfl | (simp [errW_none, errW_some] <;> rfl) | (simp [*, errW_none, errW_some] <;> rfl), by repeat (first | (with_reducible first | exact HB.out | apply below_alloc | apply pw_below_drewN | apply below_drew1 | refine below_set ?_ (IsS71.ge HI423.out)) | exact HB.out)⟩

end Go.Proofs.Yteakipdmpjlhiaa.Q

namespace Go.Proofs.Yteakipdmpjlhiaa.Q
open Go.RowKit Go.Proofs.YteakipdmpjlhiaaW.PrintWords Go.Proofs.YteakipdmpjlhiaaW.PrintLast Go.Proofs.YteakipdmpjlhiaaW.PrintMore
attribute [local go_sem] max2_int min2_int max_two min_two max_three min_three max_four min_four bn_leq bn_gtr bn_geq   -- for this text's walks alone
set_option linter.unusedVariables false
set_option linter.unusedSimpArgs false

/-! ### impl_CountSquareFree: function 20 (this session's own) -/
def cntAct (_ : ByteArray) (s : Int) : Bool × Int := (false, wrap64 (s + 1))
set_option maxHeartbeats 2000000 in
theorem xw_CountSquareFree1 (x : ByteArray) (s : Int) (b : Nat) (w W : World) (h : gInv b 2 w (.int .i64 s) W) :
  Calls Try.prog 53 #[.string x, .pointer (some ⟨b, 0, none⟩)] W fun e w' => e = .returned (.bool false) ∧ gInv b 2 w (.int .i64 (wrap64 (s + 1))) w' := by
 have hc := gInv_cell h
 have hf := gInv_frozen h
 have hh := Aside0.mk h
 clear h
 go_enter Try.func53, Try.ntmps53
 go_wp2
 go_ret
 exact ⟨rfl, by repeat (first | exact gInv_set hh.out _ | apply gInv_drew)⟩
def impl_CountSquareFree.f (k : Nat) (a0 a1 : Int) : Option (Int × Int) := if (inR a0 0 12 && inR a1 1 3) = true then (grownF cntAct a0.toNat a1.toNat k ⟨#[]⟩ 0).bind fun z => some (z.2, 0) else some (0, 2)
set_option maxHeartbeats 4000000 in
theorem impl_CountSquareFree.calls (k : Nat) (a0 a1 : Int) (r1 : Int) (r2 : Int) (w : World) (h : impl_CountSquareFree.f k a0 a1 = some (r1, r2)) :
  Calls Try.prog 20 #[.int .i64 a0, .int .i64 a1] w fun e w' => e = .returned (.tuple #[.int .i64 r1, .int .i64 r2]) ∧ Below w.heap.size w w' := by
 unfold impl_CountSquareFree.f at h
 have hI0 := fun W => xw_within a0 0 12 W
 have hI1 := fun W => xw_within a1 1 3 W
 cases h0 : inR a0 0 12 with
 | false =>
  rw [h0] at h hI0
  obtain ⟨rfl, rfl⟩ : (0 : Int) = r1 ∧ (2 : Int) = r2 := by simpa using h
  clear h h0 hI1
  go_enter Try.func20, Try.ntmps20
  go_wp2_with (go_at_call 49; refine (hI0 _).mono ?_; rintro e w' ⟨rfl, rfl⟩)
  go_ret2
  exact ⟨rfl, Below.refl _ _⟩
 | true =>
  cases h1 : inR a1 1 3 with
  | false =>
   rw [h0, h1] at h
   rw [h0] at hI0
   rw [h1] at hI1
   obtain ⟨rfl, rfl⟩ : (0 : Int) = r1 ∧ (2 : Int) = r2 := by simpa using h
   clear h h0 h1
   have tok := Aside0.mk hI0
   clear hI0
   go_enter Try.func20, Try.ntmps20
   go_wp2_with (first | (go_at_call 49; have hI0 := tok.out; clear tok; refine (hI0 _).mono ?_; rintro e w' ⟨rfl, rfl⟩; clear hI0) | (go_at_call 49; refine (hI1 _).mono ?_; rintro e w' ⟨rfl, rfl⟩))
   go_ret2
   exact ⟨rfl, Below.refl _ _⟩
  | true =>
   rw [h0, h1] at h
   rw [h0] at hI0
   rw [h1] at hI1
   obtain ⟨m0, m1⟩ := inR_true h0
   obtain ⟨m2, m3⟩ := inR_true h1
   obtain ⟨m, rfl⟩ : ∃ m : Nat, a0 = m := ⟨a0.toNat, by omega⟩
   obtain ⟨n, rfl⟩ : ∃ m : Nat, a1 = m := ⟨a1.toNat, by omega⟩
   rw [Bool.and_self, if_pos rfl, Int.toNat_natCast, Int.toNat_natCast] at h
   obtain ⟨⟨b, s⟩, hg, h⟩ := Option.bind_eq_some_iff.mp h
   obtain ⟨rfl, rfl⟩ : s = r1 ∧ (0 : Int) = r2 := by simpa using h
   have hG := Aside0.mk (fun W hW => xw_grown cntAct (fun s W => gInv w.heap.size 2 w (.int .i64 s) W) m n (by omega) 53 #[.pointer (some ⟨w.heap.size, 0, none⟩)] (enters_of Try.func53 (by kernel_rfl) rfl)
    (fun s W W' hI hb => gInv_move hI hb) (fun s W x hI => xw_CountSquareFree1 x s _ w W hI) k ⟨#[]⟩ 0 b s W hg hW)
   have hmk := xw_mkf
   clear h hg h0 h1 m0 m1 m2 m3
   have tok := Aside0.mk hI0
   clear hI0
   go_enter Try.func20, Try.ntmps20
   go_wp2_with (first | (go_at_call 49; have hI0 := tok.out; clear tok; refine (hI0 _).mono ?_; rintro e w' ⟨rfl, rfl⟩; clear hI0) | (go_at_call 49; refine (hI1 _).mono ?_; rintro e w' ⟨rfl, rfl⟩) | (go_at_call 50; refine (hG.out _ (gInv_new _ _ _)).mono ?_; rintro e w5 ⟨rfl, hI5⟩; have hc5 := gInv_cell hI5; have hI6 := Aside0.mk hI5; clear hI5))
   go_ret2
   exact ⟨rfl, hI6.out.2.2⟩


end Go.Proofs.Yteakipdmpjlhiaa.Q

namespace Go.Proofs.Yteakipdmpjlhiaa.Q
open Go.RowKit Go.Proofs.YteakipdmpjlhiaaW.PrintWords Go.Proofs.YteakipdmpjlhiaaW.PrintLast Go.Proofs.YteakipdmpjlhiaaW.PrintMore
attribute [local go_sem] max2_int min2_int max_two min_two max_three min_three max_four min_four bn_leq bn_gtr bn_geq   -- for this text's walks alone
set_option linter.unusedVariables false
set_option linter.unusedSimpArgs false

/-! ### spec_l03Count: function 54 -/
mutual
def spec_l03Count.l0 : Nat → ByteArray → Int → Int → Int → Int → Option (Int)
 | 0, _, _, _, _, _ => none
 | k + 1, x0, x1, x2, x7, x8 => if x8 < x2 then ((spec_l01Letter.f x8).bind fun t433 => (if x0.size + t433.size ≤ 9223372036854775807 then ((spec_l03First.f k (x0 ++ t433) ((x0.size : Int) + (t433.size : Int))).bind fun bt434 => (if bt434.2.2 = true then (spec_l03Count.l0 k x0 x1 x2 x7 (wrap64 (x8 + 1))) else ((spec_l03Count.f k (x0 ++ t433) x1 x2).bind fun t437 => (spec_l03Count.l0 k x0 x1 x2 (wrap64 (x7 + t437)) (wrap64 (x8 + 1)))))) else (none))) else (some x7)
def spec_l03Count.f : Nat → ByteArray → Int → Int → Option (Int)
 | 0, _, _, _ => none
 | k + 1, a0, a1, a2 => if (a0.size : Int) = a1 then (some 1) else (spec_l03Count.l0 k a0 a1 a2 0 0)
end
set_option maxHeartbeats 8000000 in
set_option maxRecDepth 100000 in
theorem spec_l03Count.calls (k : Nat) : ∀ (a0 : ByteArray) (a1 : Int) (a2 : Int) (r : Int) (w : World) (h : spec_l03Count.f k a0 a1 a2 = some r),
  Calls Try.prog 54 #[.string a0, .int .i64 a1, .int .i64 a2] w fun e w' => e = .returned (.int .i64 r) ∧ Below w.heap.size w w' := by
 induction k using Nat.strongRecOn with
 | _ k ih =>
 intro a0 a1 a2 r w h
 cases k with
 | zero => exact absurd h (by simp [spec_l03Count.f])
 | succ k =>
 simp only [spec_l03Count.f] at h
 have HB := Aside0.mk (Below.refl w.heap.size w)
 have H : (if (a0.size : Int) = a1 then (some 1) else (spec_l03Count.l0 k a0 a1 a2 0 0)) = some r := h
 clear h
 by_cases c4 : (a0.size : Int) = a1
 ·rw [if_pos c4] at H
  have c4b0 : ((a0.size : Int) == a1) = true := beq_iff_eq.mpr c4
  have c4b1 : ((a0.size : Int) != a1) = false := bne_eq_false_iff_eq.mpr c4
  clear c4
  obtain rfl := Option.some.inj H
  go_enter Try.func54, Try.ntmps54
  go_wp2
  go_ret
  exact ⟨by first | rfl | (simp [errW_none, errW_some] <;> rfl) | (simp [*, errW_none, errW_some] <;> rfl), by repeat (first | (with_reducible first | exact HB.out | apply below_alloc | apply pw_below_drewN | apply below_drew1) | exact HB.out)⟩
 ·rw [if_neg c4] at H
  have c4b0 : ((a0.size : Int) == a1) = false := beq_eq_false_iff_ne.mpr c4
  have c4b1 : ((a0.size : Int) != a1) = true := bne_iff_ne.mpr c4
  have H' := Aside0.mk H
  clear H
  go_enter Try.func54, Try.ntmps54
  go_wp2
  go_loopg [7, 8] k (fun kq v7 v8 w' => ∃ (x7_1 : Int) (x8_1 : Int), v7 = .int .i64 x7_1 ∧ v8 = .int .i64 x8_1 ∧ Aside0 (spec_l03Count.l0 kq a0 a1 a2 x7_1 x8_1 = some r) ∧ Aside0 (kq ≤ k) ∧ Aside0 (Below w.heap.size w w'))
  case atStart => exact ⟨(0), (0), (by first | rfl | (simp; done) | (simp [*]; done)), (by first | rfl | (simp; done) | (simp [*]; done)), H', ⟨Nat.le_refl _⟩, ⟨by repeat (first | (with_reducible first | exact HB.out | apply below_alloc | apply pw_below_drewN | apply below_drew1) | exact HB.out)⟩⟩
  case round =>
   clear H'
   try clear p2
   try clear c4
   try clear c4b0
   try clear c4b1
   obtain ⟨x7_1, x8_1, rfl, rfl, HA, HK1, HB⟩ := hrel
   cases gk with
   | zero => exact absurd HA.out (by simp [spec_l03Count.l0])
   | succ k1 =>
    have H := HA.out
    clear HA
    simp only [spec_l03Count.l0] at H
    by_cases c5 : x8_1 < a2
    ·rw [if_pos c5] at H
     have c5b0 : decide (x8_1 < a2) = true := decide_eq_true c5
     clear c5
     replace H := Option.bind_eq_some_iff.mp H
     obtain ⟨t433, A60, H⟩ := H
     replace H : (if a0.size + t433.size ≤ 9223372036854775807 then ((spec_l03First.f k1 (a0 ++ t433) ((a0.size : Int) + (t433.size : Int))).bind fun bt434 => (if bt434.2.2 = true then (spec_l03Count.l0 k1 a0 a1 a2 x7_1 (wrap64 (x8_1 + 1))) else ((spec_l03Count.f k1 (a0 ++ t433) a1 a2).bind fun t437 => (spec_l03Count.l0 k1 a0 a1 a2 (wrap64 (x7_1 + t437)) (wrap64 (x8_1 + 1)))))) else (none)) = some r := H
     have A6 := Aside0.mk A60
     clear A60
     by_cases c7 : a0.size + t433.size ≤ 9223372036854775807
     ·rw [if_pos c7] at H
      have c7b0 := eq_true c7
      have c7b1 : decide (a0.size + t433.size ≤ 9223372036854775807) = true := decide_eq_true c7
      try have c7b2 : (9223372036854775807 < a0.size + t433.size) = False := eq_false (Nat.not_lt.2 c7)
      replace H := Option.bind_eq_some_iff.mp H
      obtain ⟨⟨t434, t435, t436⟩, A80, H⟩ := H
      replace H : (if t436 = true then (spec_l03Count.l0 k1 a0 a1 a2 x7_1 (wrap64 (x8_1 + 1))) else ((spec_l03Count.f k1 (a0 ++ t433) a1 a2).bind fun t437 => (spec_l03Count.l0 k1 a0 a1 a2 (wrap64 (x7_1 + t437)) (wrap64 (x8_1 + 1))))) = some r := H
      have A8 := Aside0.mk A80
      clear A80
      by_cases c9 : t436 = true
      ·subst c9
       have H1 : (spec_l03Count.l0 k1 a0 a1 a2 x7_1 (wrap64 (x8_1 + 1))) = some r := by rw [if_pos rfl] at H; exact H
       clear H
       have H := H1
       clear H1
       have H' := Aside0.mk H
       clear H
       go_wp2_with (first | ((with_reducible refine gate_callee (f := 39) rfl ?_); refine goesL_ (some 24) rfl rfl Try.func39 (by kernel_rfl) rfl #[.int .i64 x8_1] rfl (by (try simp only [List.map_toArray, List.map_cons, List.map_nil]); first | done | rfl | (simp only [List.length_drop, List.length_take]; rfl)) ?_; (with_reducible refine (spec_l01Letter.calls x8_1 t433 _ A6.out).mono ?_); rintro e w10 ⟨rfl, hb⟩; refine ⟨_, rfl, ?_⟩; have n0_ := Aside0.mk (below_step (by repeat (first | (with_reducible first | exact HB.out | apply below_alloc | apply pw_below_drewN | apply below_drew1) | exact HB.out)) hb); clear HB; have HB := n0_; clear n0_; (try clear hb); (try clear hb2); (try clear hk); (try clear hi)) | ((with_reducible refine gate_callee (f := 38) rfl ?_); refine goesL_ (some 30) rfl rfl Try.func38 (by kernel_rfl) rfl #[.string (a0 ++ t433), .int .i64 ((a0.size : Int) + (t433.size : Int))] rfl (by (try simp only [List.map_toArray, List.map_cons, List.map_nil]); first | done | rfl | (simp only [List.length_drop, List.length_take]; rfl)) ?_; (with_reducible refine (spec_l03First.calls k1 (a0 ++ t433) ((a0.size : Int) + (t433.size : Int)) t434 t435 true _ A8.out).mono ?_); rintro e w11 ⟨rfl, hb⟩; refine ⟨_, rfl, ?_⟩; have n0_ := Aside0.mk (below_step (by repeat (first | (with_reducible first | exact HB.out | apply below_alloc | apply pw_below_drewN | apply below_drew1) | exact HB.out)) hb); clear HB; have HB := n0_; clear n0_; (try clear hb); (try clear hb2); (try clear hk); (try clear hi)))
       go_roundg k1
       case measure => have := HK1.out; omega
       case rel => exact ⟨(x7_1), (wrap64 (x8_1 + 1)), (by first | rfl | (simp; done) | (simp [*]; done)), (by first | rfl | (simp; done) | (simp [*]; done)), H', ⟨by have := HK1.out; omega⟩, ⟨by repeat (first | (with_reducible first | exact HB.out | apply below_alloc | apply pw_below_drewN | apply below_drew1) | exact HB.out)⟩⟩
      ·replace c9 := Bool.eq_false_iff.mpr c9
       subst c9
       have H1 : ((spec_l03Count.f k1 (a0 ++ t433) a1 a2).bind fun t437 => (spec_l03Count.l0 k1 a0 a1 a2 (wrap64 (x7_1 + t437)) (wrap64 (x8_1 + 1)))) = some r := by rw [if_neg (show ¬ (false = true) by decide)] at H; exact H
       clear H
       have H := H1
       clear H1
       replace H := Option.bind_eq_some_iff.mp H
       obtain ⟨t437, A120, H⟩ := H
       replace H : (spec_l03Count.l0 k1 a0 a1 a2 (wrap64 (x7_1 + t437)) (wrap64 (x8_1 + 1))) = some r := H
       have A12 := Aside0.mk A120
       clear A120
       have H' := Aside0.mk H
       clear H
       go_wp2_with (first | ((with_reducible refine gate_callee (f := 39) rfl ?_); refine goesL_ (some 24) rfl rfl Try.func39 (by kernel_rfl) rfl #[.int .i64 x8_1] rfl (by (try simp only [List.map_toArray, List.map_cons, List.map_nil]); first | done | rfl | (simp only [List.length_drop, List.length_take]; rfl)) ?_; (with_reducible refine (spec_l01Letter.calls x8_1 t433 _ A6.out).mono ?_); rintro e w13 ⟨rfl, hb⟩; refine ⟨_, rfl, ?_⟩; have n0_ := Aside0.mk (below_step (by repeat (first | (with_reducible first | exact HB.out | apply below_alloc | apply pw_below_drewN | apply below_drew1) | exact HB.out)) hb); clear HB; have HB := n0_; clear n0_; (try clear hb); (try clear hb2); (try clear hk); (try clear hi)) | ((with_reducible refine gate_callee (f := 38) rfl ?_); refine goesL_ (some 30) rfl rfl Try.func38 (by kernel_rfl) rfl #[.string (a0 ++ t433), .int .i64 ((a0.size : Int) + (t433.size : Int))] rfl (by (try simp only [List.map_toArray, List.map_cons, List.map_nil]); first | done | rfl | (simp only [List.length_drop, List.length_take]; rfl)) ?_; (with_reducible refine (spec_l03First.calls k1 (a0 ++ t433) ((a0.size : Int) + (t433.size : Int)) t434 t435 false _ A8.out).mono ?_); rintro e w14 ⟨rfl, hb⟩; refine ⟨_, rfl, ?_⟩; have n0_ := Aside0.mk (below_step (by repeat (first | (with_reducible first | exact HB.out | apply below_alloc | apply pw_below_drewN | apply below_drew1) | exact HB.out)) hb); clear HB; have HB := n0_; clear n0_; (try clear hb); (try clear hb2); (try clear hk); (try clear hi)) | ((with_reducible refine gate_callee (f := 54) rfl ?_); refine goesL_ (some 40) rfl rfl Try.func54 (by kernel_rfl) rfl #[.string (a0 ++ t433), .int .i64 a1, .int .i64 a2] rfl (by (try simp only [List.map_toArray, List.map_cons, List.map_nil]); first | done | rfl | (simp only [List.length_drop, List.length_take]; rfl)) ?_; (with_reducible refine (ih k1 (by have := HK1.out; omega) (a0 ++ t433) a1 a2 t437 _ A12.out).mono ?_); rintro e w15 ⟨rfl, hb⟩; refine ⟨_, rfl, ?_⟩; have n0_ := Aside0.mk (below_step (by repeat (first | (with_reducible first | exact HB.out | apply below_alloc | apply pw_below_drewN | apply below_drew1) | exact HB.out)) hb); clear HB; have HB := n0_; clear n0_; (try clear hb); (try clear hb2); (try clear hk); (try clear hi)))
       go_roundg k1
       case measure => have := HK1.out; omega
       case rel => exact ⟨(wrap64 (x7_1 + t437)), (wrap64 (x8_1 + 1)), (by first | rfl | (simp; done) | (simp [*]; done)), (by first | rfl | (simp; done) | (simp [*]; done)), H', ⟨by have := HK1.out; omega⟩, ⟨by repeat (first | (with_reducible first | exact HB.out | apply below_alloc | apply pw_below_drewN | apply below_drew1) | exact HB.out)⟩⟩
     ·rw [if_neg c7] at H
      exact absurd H (by simp)
    ·rw [if_neg c5] at H
     have c5b0 : decide (x8_1 < a2) = false := decide_eq_false c5
     clear c5
     obtain rfl := Option.some.inj H
     go_wp2
     go_ret
     exact ⟨by first | rfl | (simp [errW_none, errW_some] <;> rfl) | (simp [*, errW_none, errW_some] <;> rfl), by repeat (first | (with_reducible first | exact HB.out | apply below_alloc | apply pw_below_drewN | apply below_drew1) | exact HB.out)⟩

end Go.Proofs.Yteakipdmpjlhiaa.Q

namespace Go.Proofs.Yteakipdmpjlhiaa.Q
open Go.RowKit Go.Proofs.YteakipdmpjlhiaaW.PrintWords Go.Proofs.YteakipdmpjlhiaaW.PrintLast Go.Proofs.YteakipdmpjlhiaaW.PrintMore
attribute [local go_sem] max2_int min2_int max_two min_two max_three min_three max_four min_four bn_leq bn_gtr bn_geq   -- for this text's walks alone
set_option linter.unusedVariables false
set_option linter.unusedSimpArgs false

/-! ### spec_CountSquareFree: function 21 -/
def spec_CountSquareFree.f (k : Nat) (a0 : Int) (a1 : Int) : Option (Int × Int) := (spec_l01In.f a0 0 12).bind fun t438 => (if t438 = true then ((spec_l01In.f a1 1 3).bind fun t439 => (if t439 = true then ((spec_l03Count.f k (⟨#[]⟩ : ByteArray) a0 a1).bind fun t440 => (some (t440, 0))) else (some (0, 2)))) else (some (0, 2)))
set_option maxHeartbeats 8000000 in
set_option maxRecDepth 100000 in
theorem spec_CountSquareFree.calls (k : Nat) (a0 : Int) (a1 : Int) (r1 : Int) (r2 : Int) (w : World) (h : spec_CountSquareFree.f k a0 a1 = some (r1, r2)) :
  Calls Try.prog 21 #[.int .i64 a0, .int .i64 a1] w fun e w' => e = .returned (.tuple #[.int .i64 r1, .int .i64 r2]) ∧ Below w.heap.size w w' := by
 have HB := Aside0.mk (Below.refl w.heap.size w)
 have H : ((spec_l01In.f a0 0 12).bind fun t438 => (if t438 = true then ((spec_l01In.f a1 1 3).bind fun t439 => (if t439 = true then ((spec_l03Count.f k (⟨#[]⟩ : ByteArray) a0 a1).bind fun t440 => (some (t440, 0))) else (some (0, 2)))) else (some (0, 2)))) = some (r1, r2) := h
 clear h
 replace H := Option.bind_eq_some_iff.mp H
 obtain ⟨t438, A30, H⟩ := H
 replace H : (if t438 = true then ((spec_l01In.f a1 1 3).bind fun t439 => (if t439 = true then ((spec_l03Count.f k (⟨#[]⟩ : ByteArray) a0 a1).bind fun t440 => (some (t440, 0))) else (some (0, 2)))) else (some (0, 2))) = some (r1, r2) := H
 have A3 := Aside0.mk A30
 clear A30
 by_cases c4 : t438 = true
 ·subst c4
  have H1 : ((spec_l01In.f a1 1 3).bind fun t439 => (if t439 = true then ((spec_l03Count.f k (⟨#[]⟩ : ByteArray) a0 a1).bind fun t440 => (some (t440, 0))) else (some (0, 2)))) = some (r1, r2) := by rw [if_pos rfl] at H; exact H
  clear H
  have H := H1
  clear H1
  replace H := Option.bind_eq_some_iff.mp H
  obtain ⟨t439, A50, H⟩ := H
  replace H : (if t439 = true then ((spec_l03Count.f k (⟨#[]⟩ : ByteArray) a0 a1).bind fun t440 => (some (t440, 0))) else (some (0, 2))) = some (r1, r2) := H
  have A5 := Aside0.mk A50
  clear A50
  by_cases c6 : t439 = true
  ·subst c6
   have H1 : ((spec_l03Count.f k (⟨#[]⟩ : ByteArray) a0 a1).bind fun t440 => (some (t440, 0))) = some (r1, r2) := by rw [if_pos rfl] at H; exact H
   clear H
   have H := H1
   clear H1
   replace H := Option.bind_eq_some_iff.mp H
   obtain ⟨t440, A70, H⟩ := H
   replace H : (some (t440, 0)) = some (r1, r2) := H
   have A7 := Aside0.mk A70
   clear A70
   simp only [Option.some.injEq, Prod.mk.injEq] at H
   obtain ⟨rfl, rfl⟩ := H
   go_enter Try.func21, Try.ntmps21
   go_wp2_with (first | ((with_reducible refine gate_callee (f := 37) rfl ?_); refine goesL_ (some 7) rfl rfl Try.func37 (by kernel_rfl) rfl #[.int .i64 a0, .int .i64 0, .int .i64 12] rfl (by (try simp only [List.map_toArray, List.map_cons, List.map_nil]); first | done | rfl | (simp only [List.length_drop, List.length_take]; rfl)) ?_; (with_reducible refine (spec_l01In.calls a0 0 12 true _ A3.out).mono ?_); rintro e w' ⟨rfl, ⟨nd, rfl⟩⟩; refine ⟨_, rfl, ?_⟩) | (go_at_call 37; (with_reducible refine (spec_l01In.calls a1 1 3 true _ A5.out).mono ?_); rintro e w' ⟨rfl, ⟨nd, rfl⟩⟩) | ((with_reducible refine gate_callee (f := 54) rfl ?_); refine goesL_ (some 16) rfl rfl Try.func54 (by kernel_rfl) rfl #[.string (⟨#[]⟩ : ByteArray), .int .i64 a0, .int .i64 a1] rfl (by (try simp only [List.map_toArray, List.map_cons, List.map_nil]); first | done | rfl | (simp only [List.length_drop, List.length_take]; rfl)) ?_; (with_reducible refine (spec_l03Count.calls k (⟨#[]⟩ : ByteArray) a0 a1 t440 _ A7.out).mono ?_); rintro e w8 ⟨rfl, hb⟩; refine ⟨_, rfl, ?_⟩; have n0_ := Aside0.mk (below_step (by repeat (first | (with_reducible first | exact HB.out | apply below_alloc | apply pw_below_drewN | apply below_drew1) | exact HB.out)) hb); clear HB; have HB := n0_; clear n0_; (try clear hb); (try clear hb2); (try clear hk); (try clear hi)))
   go_ret2
   exact ⟨by first | rfl | (simp [errW_none, errW_some] <;> rfl) | (simp [*, errW_none, errW_some] <;> rfl), by repeat (first | (with_reducible first | exact HB.out | apply below_alloc | apply pw_below_drewN | apply below_drew1) | exact HB.out)⟩
  ·replace c6 := Bool.eq_false_iff.mpr c6
   subst c6
   have H1 : (some (0, 2)) = some (r1, r2) := by rw [if_neg (show ¬ (false = true) by decide)] at H; exact H
   clear H
   have H := H1
   clear H1
   simp only [Option.some.injEq, Prod.mk.injEq] at H
   obtain ⟨rfl, rfl⟩ := H
   go_enter Try.func21, Try.ntmps21
   go_wp2_with (first | ((with_reducible refine gate_callee (f := 37) rfl ?_); refine goesL_ (some 7) rfl rfl Try.func37 (by kernel_rfl) rfl #[.int .i64 a0, .int .i64 0, .int .i64 12] rfl (by (try simp only [List.map_toArray, List.map_cons, List.map_nil]); first | done | rfl | (simp only [List.length_drop, List.length_take]; rfl)) ?_; (with_reducible refine (spec_l01In.calls a0 0 12 true _ A3.out).mono ?_); rintro e w' ⟨rfl, ⟨nd, rfl⟩⟩; refine ⟨_, rfl, ?_⟩) | (go_at_call 37; (with_reducible refine (spec_l01In.calls a1 1 3 false _ A5.out).mono ?_); rintro e w' ⟨rfl, ⟨nd, rfl⟩⟩))
   go_ret2
   exact ⟨by first | rfl | (simp [errW_none, errW_some] <;> rfl) | (simp [*, errW_none, errW_some] <;> rfl), by repeat (first | (with_reducible first | exact HB.out | apply below_alloc | apply pw_below_drewN | apply below_drew1) | exact HB.out)⟩
 ·replace c4 := Bool.eq_false_iff.mpr c4
  subst c4
  have H1 : (some (0, 2)) = some (r1, r2) := by rw [if_neg (show ¬ (false = true) by decide)] at H; exact H
  clear H
  have H := H1
  clear H1
  simp only [Option.some.injEq, Prod.mk.injEq] at H
  obtain ⟨rfl, rfl⟩ := H
  go_enter Try.func21, Try.ntmps21
  go_wp2_with (first | ((with_reducible refine gate_callee (f := 37) rfl ?_); refine goesL_ (some 7) rfl rfl Try.func37 (by kernel_rfl) rfl #[.int .i64 a0, .int .i64 0, .int .i64 12] rfl (by (try simp only [List.map_toArray, List.map_cons, List.map_nil]); first | done | rfl | (simp only [List.length_drop, List.length_take]; rfl)) ?_; (with_reducible refine (spec_l01In.calls a0 0 12 false _ A3.out).mono ?_); rintro e w' ⟨rfl, ⟨nd, rfl⟩⟩; refine ⟨_, rfl, ?_⟩))
  go_ret2
  exact ⟨by first | rfl | (simp [errW_none, errW_some] <;> rfl) | (simp [*, errW_none, errW_some] <;> rfl), by repeat (first | (with_reducible first | exact HB.out | apply below_alloc | apply pw_below_drewN | apply below_drew1) | exact HB.out)⟩

end Go.Proofs.Yteakipdmpjlhiaa.Q

namespace Go.Proofs.Yteakipdmpjlhiaa.Q
open Go.RowKit Go.Proofs.YteakipdmpjlhiaaW.PrintWords Go.Proofs.YteakipdmpjlhiaaW.PrintLast Go.Proofs.YteakipdmpjlhiaaW.PrintMore
attribute [local go_sem] max2_int min2_int max_two min_two max_three min_three max_four min_four bn_leq bn_gtr bn_geq   -- for this text's walks alone
set_option linter.unusedVariables false
set_option linter.unusedSimpArgs false

/-! ### spec_DrawFirstSquare: function 22 -/
def spec_DrawFirstSquare.f (k : Nat) (l0 : List Int) : Option (ByteArray) := (spec_l03Spoil.f k l0).bind fun t441 => (some t441)
set_option maxHeartbeats 8000000 in
set_option maxRecDepth 100000 in
theorem spec_DrawFirstSquare.calls (k : Nat) (A0 : Option Addr) (c0 : Nat) (l0 : List Int) (r : ByteArray) (w : World) (hr0 : Kd.C (Kd.int .u8) w A0 l0.length l0) (hc0 : l0.length ≤ c0) (h : spec_DrawFirstSquare.f k l0 = some r) :
  Calls Try.prog 22 #[.slice A0 l0.length c0] w fun e w' => e = .returned (.string r) ∧ Below w.heap.size w w' := by
 have HR0 := Aside0.mk hr0
 have HC0 := Aside0.mk hc0
 clear hr0 hc0
 have HB := Aside0.mk (Below.refl w.heap.size w)
 have H : ((spec_l03Spoil.f k l0).bind fun t441 => (some t441)) = some r := h
 clear h
 replace H := Option.bind_eq_some_iff.mp H
 obtain ⟨t441, A20, H⟩ := H
 replace H : (some t441) = some r := H
 have A2 := Aside0.mk A20
 clear A20
 obtain rfl := Option.some.inj H
 go_enter Try.func22, Try.ntmps22
 go_wp2_with (first | ((with_reducible refine gate_callee (f := 27) rfl ?_); refine goesL_ (some 4) rfl rfl Try.func27 (by kernel_rfl) rfl #[.slice A0 l0.length c0] rfl (by (try simp only [List.map_toArray, List.map_cons, List.map_nil]); first | done | rfl | (simp only [List.length_drop, List.length_take]; rfl)) ?_; (with_reducible refine (spec_l03Spoil.calls k _ _ l0 t441 _ ?side1 ?side2 A2.out).mono ?_); (case side1 => repeat (first | exact HR0.out | (with_reducible refine Kd.C_alloc ?_ _) | (with_reducible refine Kd.C_drewN ?_ _) | (with_reducible refine Kd.C_drew ?_))); (case side2 => exact HC0.out); rintro e w3 ⟨rfl, hb⟩; refine ⟨_, rfl, ?_⟩; have n0_ := Aside0.mk (below_step (by repeat (first | (with_reducible first | exact HB.out | apply below_alloc | apply pw_below_drewN | apply below_drew1) | exact HB.out)) hb); clear HB; have HB := n0_; clear n0_; (try clear hb); (try clear hb2); (try clear hk); (try clear hi)))
 go_ret
 exact ⟨by first | rfl | (simp [errW_none, errW_some] <;> rfl) | (simp [*, errW_none, errW_some] <;> rfl), by repeat (first | (with_reducible first | exact HB.out | apply below_alloc | apply pw_below_drewN | apply below_drew1) | exact HB.out)⟩

end Go.Proofs.Yteakipdmpjlhiaa.Q

namespace Go.Proofs.Yteakipdmpjlhiaa.R
open Go.RowKit Go.Proofs.YteakipdmpjlhiaaW.PrintWords Go.Proofs.YteakipdmpjlhiaaW.PrintLast Go.Proofs.YteakipdmpjlhiaaW.PrintMore
attribute [local go_sem] max2_int min2_int max_two min_two max_three min_three max_four min_four bn_leq bn_gtr bn_geq   -- for this text's walks alone
set_option linter.unusedVariables false
set_option linter.unusedSimpArgs false



def errW : Option Int → Value
 | none => .nilIface
 | some c => .iface 0 (.int .i64 c)
theorem errW_none : errW none = .nilIface := rfl
theorem errW_some (c : Int) : errW (some c) = .iface 0 (.int .i64 c) := rfl

-- the values' own types

end Go.Proofs.Yteakipdmpjlhiaa.R
