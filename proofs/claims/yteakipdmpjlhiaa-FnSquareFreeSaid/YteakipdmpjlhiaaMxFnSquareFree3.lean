-- Printed texts of this session, joined by merge.py.
import Derived.Test.YteakipdmpjlhiaaMxFnSquareFree2
import Derived.Test.YteakipdmpjlhiaaQx0
import Derived.Test.YteakipdmpjlhiaaMxFnSquareFree1
import Derived.Test.YteakipdmpjlhiaaMxFnSquareFree0
namespace Go.Proofs.Yteakipdmpjlhiaa.R
open Go.RowKit Go.Proofs.YteakipdmpjlhiaaW.PrintWords Go.Proofs.YteakipdmpjlhiaaW.PrintLast Go.Proofs.YteakipdmpjlhiaaW.PrintMore
attribute [local go_sem] max2_int min2_int max_two min_two max_three min_three max_four min_four bn_leq bn_gtr bn_geq   -- for this text's walks alone
set_option linter.unusedVariables false
set_option linter.unusedSimpArgs false

/-! ### cmp_Or_int: function 58 -/
def cmp_Or_int.l0 : Nat → Int → List Int → Int → Int → Option (Int)
 | 0, _, _, _, _ => none
 | k + 1, x3, x6, x7, x8 => if x8 < x7 then (if 0 ≤ x8 then (if x8 < (x6.length : Int) then (if (rd x6 x8) = x3 then (cmp_Or_int.l0 k x3 x6 x7 (wrap64 (x8 + 1))) else (some (rd x6 x8))) else (none)) else (none)) else (some x3)
def cmp_Or_int.f (k : Nat) (l0 : List Int) : Option (Int) := cmp_Or_int.l0 k 0 l0 (l0.length : Int) 0
set_option maxHeartbeats 8000000 in
set_option maxRecDepth 100000 in
theorem cmp_Or_int.calls (k : Nat) (A0 : Option Addr) (c0 : Nat) (l0 : List Int) (r : Int) (w : World) (hr0 : Kd.C (Kd.int .i64) w A0 l0.length l0) (hc0 : l0.length ≤ c0) (h : cmp_Or_int.f k l0 = some r) :
  Calls Try.prog 58 #[.slice A0 l0.length c0] w fun e w' => e = .returned (.int .i64 r) ∧ Drawn0 w w' := by
 have HR0 := Aside0.mk hr0
 have HC0 := Aside0.mk hc0
 clear hr0 hc0
 have H : (cmp_Or_int.l0 k 0 l0 (l0.length : Int) 0) = some r := h
 clear h
 have H' := Aside0.mk H
 clear H
 go_enter Try.func58, Try.ntmps58
 go_wp2
 go_loopg [8] k (fun kq v8 w' => ∃ (x8_1 : Int), v8 = .int .i64 x8_1 ∧ Aside0 (cmp_Or_int.l0 kq 0 l0 (l0.length : Int) x8_1 = some r) ∧ Aside0 (kq ≤ k) ∧ Drawn0 w w')
 case atStart => exact ⟨(0), (by first | rfl | (simp; done) | (simp [*]; done)), H', ⟨Nat.le_refl _⟩, by repeat (first | exact Drawn0.refl _ | apply Drawn0.step)⟩
 case round =>
  clear H'
  obtain ⟨x8_1, rfl, HA, HK1, ⟨m1, rfl⟩⟩ := hrel
  cases gk with
  | zero => exact absurd HA.out (by simp [cmp_Or_int.l0])
  | succ k1 =>
   have H := HA.out
   clear HA
   simp only [cmp_Or_int.l0] at H
   by_cases c2 : x8_1 < (l0.length : Int)
   ·rw [if_pos c2] at H
    have c2b0 : decide (x8_1 < (l0.length : Int)) = true := decide_eq_true c2
    clear c2
    by_cases c3 : 0 ≤ x8_1
    ·rw [if_pos c3] at H
     have c3b0 : decide (0 ≤ x8_1) = true := decide_eq_true c3
     clear c3
     by_cases c4 : x8_1 < (l0.length : Int)
     ·rw [if_pos c4] at H
      have c4b0 : decide (x8_1 < (l0.length : Int)) = true := decide_eq_true c4
      clear c4
      by_cases c5 : (rd l0 x8_1) = 0
      ·rw [if_pos c5] at H
       have c5b0 : ((rd l0 x8_1) == 0) = true := beq_iff_eq.mpr c5
       have c5b1 : ((rd l0 x8_1) != 0) = false := bne_eq_false_iff_eq.mpr c5
       clear c5
       have H' := Aside0.mk H
       clear H
       have p101 : 0 ≤ (x8_1 : Int) := of_decide_eq_true (by first | (with_reducible assumption) | assumption)
       have q101 : x8_1 < (l0.length : Int) := of_decide_eq_true (by first | (with_reducible assumption) | assumption)
       obtain ⟨ad101, e101, hx101_0⟩ := Kd.at_int HR0.out x8_1 p101 q101
       cases e101
       replace p101 := eq_true p101
       replace q101 := eq_true q101
       go_wp2
       go_roundg k1
       case measure => have := HK1.out; omega
       case rel => exact ⟨(wrap64 (x8_1 + 1)), (by first | rfl | (simp; done) | (simp [*]; done)), H', ⟨by have := HK1.out; omega⟩, by repeat (first | exact Drawn0.refl _ | apply Drawn0.step)⟩
      ·rw [if_neg c5] at H
       have c5b0 : ((rd l0 x8_1) == 0) = false := beq_eq_false_iff_ne.mpr c5
       have c5b1 : ((rd l0 x8_1) != 0) = true := bne_iff_ne.mpr c5
       obtain rfl := Option.some.inj H
       have p101 : 0 ≤ (x8_1 : Int) := of_decide_eq_true (by first | (with_reducible assumption) | assumption)
       have q101 : x8_1 < (l0.length : Int) := of_decide_eq_true (by first | (with_reducible assumption) | assumption)
       obtain ⟨ad101, e101, hx101_0⟩ := Kd.at_int HR0.out x8_1 p101 q101
       cases e101
       replace p101 := eq_true p101
       replace q101 := eq_true q101
       go_wp2
       go_ret
       exact ⟨by first | rfl | (simp; done) | (simp [*]; done), by repeat (first | exact Drawn0.refl _ | apply Drawn0.step)⟩
     ·rw [if_neg c4] at H
      exact absurd H (by simp)
    ·rw [if_neg c3] at H
     exact absurd H (by simp)
   ·rw [if_neg c2] at H
    have c2b0 : decide (x8_1 < (l0.length : Int)) = false := decide_eq_false c2
    clear c2
    obtain rfl := Option.some.inj H
    go_wp2
    go_ret
    exact ⟨by first | rfl | (simp; done) | (simp [*]; done), by repeat (first | exact Drawn0.refl _ | apply Drawn0.step)⟩

/-! ### cmp_isNaN_int64: function 74 -/
def cmp_isNaN_int64.f (a0 : Int) : Option (Bool) := some (a0 != a0)
set_option maxHeartbeats 8000000 in
set_option maxRecDepth 100000 in
theorem cmp_isNaN_int64.calls (a0 : Int) (r : Bool) (w : World) (h : cmp_isNaN_int64.f a0 = some r) :
  Calls Try.prog 74 #[.int .i64 a0] w fun e w' => e = .returned (.bool r) ∧ Drawn0 w w' := by
 have H : (some (a0 != a0)) = some r := h
 clear h
 obtain rfl := Option.some.inj H
 go_enter Try.func74, Try.ntmps74
 go_wp2
 go_ret
 exact ⟨by first | rfl | (simp; done) | (simp [*]; done), by repeat (first | exact Drawn0.refl _ | apply Drawn0.step)⟩

/-! ### cmp_Compare_int64: function 59 -/
def cmp_Compare_int64.f (a0 : Int) (a1 : Int) : Option (Int) := (cmp_isNaN_int64.f a0).bind fun t102 => ((cmp_isNaN_int64.f a1).bind fun t103 => (if t102 = true then (if t103 = true then (some 0) else (some (-1))) else (if t103 = true then (some 1) else (if a0 < a1 then (some (-1)) else (if a0 > a1 then (some 1) else (some 0))))))
set_option maxHeartbeats 8000000 in
set_option maxRecDepth 100000 in
theorem cmp_Compare_int64.calls (a0 : Int) (a1 : Int) (r : Int) (w : World) (h : cmp_Compare_int64.f a0 a1 = some r) :
  Calls Try.prog 59 #[.int .i64 a0, .int .i64 a1] w fun e w' => e = .returned (.int .i64 r) ∧ Drawn0 w w' := by
 have H : ((cmp_isNaN_int64.f a0).bind fun t102 => ((cmp_isNaN_int64.f a1).bind fun t103 => (if t102 = true then (if t103 = true then (some 0) else (some (-1))) else (if t103 = true then (some 1) else (if a0 < a1 then (some (-1)) else (if a0 > a1 then (some 1) else (some 0))))))) = some r := h
 clear h
 replace H := Option.bind_eq_some_iff.mp H
 obtain ⟨t102, A30, H⟩ := H
 replace H : ((cmp_isNaN_int64.f a1).bind fun t103 => (if t102 = true then (if t103 = true then (some 0) else (some (-1))) else (if t103 = true then (some 1) else (if a0 < a1 then (some (-1)) else (if a0 > a1 then (some 1) else (some 0)))))) = some r := H
 have A3 := Aside0.mk A30
 clear A30
 replace H := Option.bind_eq_some_iff.mp H
 obtain ⟨t103, A40, H⟩ := H
 replace H : (if t102 = true then (if t103 = true then (some 0) else (some (-1))) else (if t103 = true then (some 1) else (if a0 < a1 then (some (-1)) else (if a0 > a1 then (some 1) else (some 0))))) = some r := H
 have A4 := Aside0.mk A40
 clear A40
 by_cases c5 : t102 = true
 ·subst c5
  have H1 : (if t103 = true then (some 0) else (some (-1))) = some r := by rw [if_pos rfl] at H; exact H
  clear H
  have H := H1
  clear H1
  by_cases c6 : t103 = true
  ·subst c6
   have H1 : (some 0) = some r := by rw [if_pos rfl] at H; exact H
   clear H
   have H := H1
   clear H1
   obtain rfl := Option.some.inj H
   go_enter Try.func59, Try.ntmps59
   go_wp2_with (first | ((with_reducible refine gate_callee (f := 74) rfl ?_); refine goesL_ (some 8) rfl rfl Try.func74 (by kernel_rfl) rfl #[.int .i64 a0] rfl (by (try simp only [List.map_toArray, List.map_cons, List.map_nil]); first | done | rfl | (simp only [List.length_drop, List.length_take]; rfl)) ?_; (with_reducible refine (cmp_isNaN_int64.calls a0 true _ A3.out).mono ?_); rintro e w' ⟨rfl, ⟨nd, rfl⟩⟩; refine ⟨_, rfl, ?_⟩) | ((with_reducible refine gate_callee (f := 74) rfl ?_); refine goesL_ (some 10) rfl rfl Try.func74 (by kernel_rfl) rfl #[.int .i64 a1] rfl (by (try simp only [List.map_toArray, List.map_cons, List.map_nil]); first | done | rfl | (simp only [List.length_drop, List.length_take]; rfl)) ?_; (with_reducible refine (cmp_isNaN_int64.calls a1 true _ A4.out).mono ?_); rintro e w' ⟨rfl, ⟨nd, rfl⟩⟩; refine ⟨_, rfl, ?_⟩))
   go_ret
   exact ⟨by first | rfl | (simp; done) | (simp [*]; done), by repeat (first | exact Drawn0.refl _ | apply Drawn0.step)⟩
  ·replace c6 := Bool.eq_false_iff.mpr c6
   subst c6
   have H1 : (some (-1)) = some r := by rw [if_neg (show ¬ (false = true) by decide)] at H; exact H
   clear H
   have H := H1
   clear H1
   obtain rfl := Option.some.inj H
   go_enter Try.func59, Try.ntmps59
   go_wp2_with (first | ((with_reducible refine gate_callee (f := 74) rfl ?_); refine goesL_ (some 8) rfl rfl Try.func74 (by kernel_rfl) rfl #[.int .i64 a0] rfl (by (try simp only [List.map_toArray, List.map_cons, List.map_nil]); first | done | rfl | (simp only [List.length_drop, List.length_take]; rfl)) ?_; (with_reducible refine (cmp_isNaN_int64.calls a0 true _ A3.out).mono ?_); rintro e w' ⟨rfl, ⟨nd, rfl⟩⟩; refine ⟨_, rfl, ?_⟩) | ((with_reducible refine gate_callee (f := 74) rfl ?_); refine goesL_ (some 10) rfl rfl Try.func74 (by kernel_rfl) rfl #[.int .i64 a1] rfl (by (try simp only [List.map_toArray, List.map_cons, List.map_nil]); first | done | rfl | (simp only [List.length_drop, List.length_take]; rfl)) ?_; (with_reducible refine (cmp_isNaN_int64.calls a1 false _ A4.out).mono ?_); rintro e w' ⟨rfl, ⟨nd, rfl⟩⟩; refine ⟨_, rfl, ?_⟩))
   go_ret
   exact ⟨by first | rfl | (simp; done) | (simp [*]; done), by repeat (first | exact Drawn0.refl _ | apply Drawn0.step)⟩
 ·replace c5 := Bool.eq_false_iff.mpr c5
  subst c5
  have H1 : (if t103 = true then (some 1) else (if a0 < a1 then (some (-1)) else (if a0 > a1 then (some 1) else (some 0)))) = some r := by rw [if_neg (show ¬ (false = true) by decide)] at H; exact H
  clear H
  have H := H1
  clear H1
  by_cases c7 : t103 = true
  ·subst c7
   have H1 : (some 1) = some r := by rw [if_pos rfl] at H; exact H
   clear H
   have H := H1
   clear H1
   obtain rfl := Option.some.inj H
   go_enter Try.func59, Try.ntmps59
   go_wp2_with (first | ((with_reducible refine gate_callee (f := 74) rfl ?_); refine goesL_ (some 8) rfl rfl Try.func74 (by kernel_rfl) rfl #[.int .i64 a0] rfl (by (try simp only [List.map_toArray, List.map_cons, List.map_nil]); first | done | rfl | (simp only [List.length_drop, List.length_take]; rfl)) ?_; (with_reducible refine (cmp_isNaN_int64.calls a0 false _ A3.out).mono ?_); rintro e w' ⟨rfl, ⟨nd, rfl⟩⟩; refine ⟨_, rfl, ?_⟩) | ((with_reducible refine gate_callee (f := 74) rfl ?_); refine goesL_ (some 10) rfl rfl Try.func74 (by kernel_rfl) rfl #[.int .i64 a1] rfl (by (try simp only [List.map_toArray, List.map_cons, List.map_nil]); first | done | rfl | (simp only [List.length_drop, List.length_take]; rfl)) ?_; (with_reducible refine (cmp_isNaN_int64.calls a1 true _ A4.out).mono ?_); rintro e w' ⟨rfl, ⟨nd, rfl⟩⟩; refine ⟨_, rfl, ?_⟩))
   go_ret
   exact ⟨by first | rfl | (simp; done) | (simp [*]; done), by repeat (first | exact Drawn0.refl _ | apply Drawn0.step)⟩
  ·replace c7 := Bool.eq_false_iff.mpr c7
   subst c7
   have H1 : (if a0 < a1 then (some (-1)) else (if a0 > a1 then (some 1) else (some 0))) = some r := by rw [if_neg (show ¬ (false = true) by decide)] at H; exact H
   clear H
   have H := H1
   clear H1
   by_cases c8 : a0 < a1
   ·rw [if_pos c8] at H
    have c8b0 : decide (a0 < a1) = true := decide_eq_true c8
    clear c8
    obtain rfl := Option.some.inj H
    go_enter Try.func59, Try.ntmps59
    go_wp2_with (first | ((with_reducible refine gate_callee (f := 74) rfl ?_); refine goesL_ (some 8) rfl rfl Try.func74 (by kernel_rfl) rfl #[.int .i64 a0] rfl (by (try simp only [List.map_toArray, List.map_cons, List.map_nil]); first | done | rfl | (simp only [List.length_drop, List.length_take]; rfl)) ?_; (with_reducible refine (cmp_isNaN_int64.calls a0 false _ A3.out).mono ?_); rintro e w' ⟨rfl, ⟨nd, rfl⟩⟩; refine ⟨_, rfl, ?_⟩) | ((with_reducible refine gate_callee (f := 74) rfl ?_); refine goesL_ (some 10) rfl rfl Try.func74 (by kernel_rfl) rfl #[.int .i64 a1] rfl (by (try simp only [List.map_toArray, List.map_cons, List.map_nil]); first | done | rfl | (simp only [List.length_drop, List.length_take]; rfl)) ?_; (with_reducible refine (cmp_isNaN_int64.calls a1 false _ A4.out).mono ?_); rintro e w' ⟨rfl, ⟨nd, rfl⟩⟩; refine ⟨_, rfl, ?_⟩))
    go_ret
    exact ⟨by first | rfl | (simp; done) | (simp [*]; done), by repeat (first | exact Drawn0.refl _ | apply Drawn0.step)⟩
   ·rw [if_neg c8] at H
    have c8b0 : decide (a0 < a1) = false := decide_eq_false c8
    clear c8
    by_cases c9 : a0 > a1
    ·rw [if_pos c9] at H
     have c9b0 : decide (a1 < a0) = true := decide_eq_true c9
     clear c9
     obtain rfl := Option.some.inj H
     go_enter Try.func59, Try.ntmps59
     go_wp2_with (first | ((with_reducible refine gate_callee (f := 74) rfl ?_); refine goesL_ (some 8) rfl rfl Try.func74 (by kernel_rfl) rfl #[.int .i64 a0] rfl (by (try simp only [List.map_toArray, List.map_cons, List.map_nil]); first | done | rfl | (simp only [List.length_drop, List.length_take]; rfl)) ?_; (with_reducible refine (cmp_isNaN_int64.calls a0 false _ A3.out).mono ?_); rintro e w' ⟨rfl, ⟨nd, rfl⟩⟩; refine ⟨_, rfl, ?_⟩) | ((with_reducible refine gate_callee (f := 74) rfl ?_); refine goesL_ (some 10) rfl rfl Try.func74 (by kernel_rfl) rfl #[.int .i64 a1] rfl (by (try simp only [List.map_toArray, List.map_cons, List.map_nil]); first | done | rfl | (simp only [List.length_drop, List.length_take]; rfl)) ?_; (with_reducible refine (cmp_isNaN_int64.calls a1 false _ A4.out).mono ?_); rintro e w' ⟨rfl, ⟨nd, rfl⟩⟩; refine ⟨_, rfl, ?_⟩))
     go_ret
     exact ⟨by first | rfl | (simp; done) | (simp [*]; done), by repeat (first | exact Drawn0.refl _ | apply Drawn0.step)⟩
    ·rw [if_neg c9] at H
     have c9b0 : decide (a1 < a0) = false := decide_eq_false c9
     clear c9
     obtain rfl := Option.some.inj H
     go_enter Try.func59, Try.ntmps59
     go_wp2_with (first | ((with_reducible refine gate_callee (f := 74) rfl ?_); refine goesL_ (some 8) rfl rfl Try.func74 (by kernel_rfl) rfl #[.int .i64 a0] rfl (by (try simp only [List.map_toArray, List.map_cons, List.map_nil]); first | done | rfl | (simp only [List.length_drop, List.length_take]; rfl)) ?_; (with_reducible refine (cmp_isNaN_int64.calls a0 false _ A3.out).mono ?_); rintro e w' ⟨rfl, ⟨nd, rfl⟩⟩; refine ⟨_, rfl, ?_⟩) | ((with_reducible refine gate_callee (f := 74) rfl ?_); refine goesL_ (some 10) rfl rfl Try.func74 (by kernel_rfl) rfl #[.int .i64 a1] rfl (by (try simp only [List.map_toArray, List.map_cons, List.map_nil]); first | done | rfl | (simp only [List.length_drop, List.length_take]; rfl)) ?_; (with_reducible refine (cmp_isNaN_int64.calls a1 false _ A4.out).mono ?_); rintro e w' ⟨rfl, ⟨nd, rfl⟩⟩; refine ⟨_, rfl, ?_⟩))
     go_ret
     exact ⟨by first | rfl | (simp; done) | (simp [*]; done), by repeat (first | exact Drawn0.refl _ | apply Drawn0.step)⟩

/-! ### impl_FirstSquare_lit1: function 57 -/
def impl_FirstSquare_lit1.f (k : Nat) (l0 : List Int) (l1 : List Int) : Option (Int) := if 0 < (l0.length : Int) then (if 1 < (l0.length : Int) then (if 0 < (l1.length : Int) then (if 1 < (l1.length : Int) then ((cmp_Compare_int64.f (wrap64 ((rd l0 0) + (wrap64 (2 * (rd l0 1))))) (wrap64 ((rd l1 0) + (wrap64 (2 * (rd l1 1)))))).bind fun t108 => ((cmp_Compare_int64.f (rd l0 1) (rd l1 1)).bind fun t111 => ((cmp_Or_int.f k (([t108, t111] : List Int))).bind fun t115 => (some t115)))) else (none)) else (none)) else (none)) else (none)
def impl_FirstSquare_lit1.T1 : Bool × List (List Nat × List Nat) := (true, [([], []), ([0], [0]), ([1], [1]), ([], []), ([3], [3]), ([4], [4]), ([5], [5]), ([2, 6], [2, 6]), ([], []), ([8], [8]), ([9], [9]), ([], []), ([11], [11]), ([12], [12]), ([13], [13]), ([10, 14], [10, 14]), ([7, 15], [7, 15]), ([], []), ([17], [17]), ([18], [18]), ([], []), ([20], [20]), ([21], [21]), ([19, 22, 16], [19, 22]), ([16, 23], [16, 23]), ([24, 23], [24]), ([25, 25, 0, 1, 2, 3, 4, 5, 6, 7, 8, 9, 10, 11, 12, 13, 14, 15, 16, 17, 18, 19, 20, 21, 22, 23, 24, 25], [25])])
def impl_FirstSquare_lit1.B1 : List Nat := [0, 1, 3, 0, 8, 24, 56, 127, 0, 256, 768, 0, 2048, 6144, 14336, 32512, 65535, 0, 131072, 393216, 0, 1048576, 3145728, 8388607, 16777215, 33554431, 67108863]
theorem impl_FirstSquare_lit1.tab1 : rtab .any (opsOf Try.f57 1) = impl_FirstSquare_lit1.T1 := by kernel_rfl
theorem impl_FirstSquare_lit1.bits1 : waitsOk impl_FirstSquare_lit1.T1.2 impl_FirstSquare_lit1.B1 = true := by kernel_rfl
set_option maxHeartbeats 8000000 in
set_option maxRecDepth 100000 in
theorem impl_FirstSquare_lit1.calls (k : Nat) (A0 : Option Addr) (c0 : Nat) (l0 : List Int) (A1 : Option Addr) (c1 : Nat) (l1 : List Int) (r : Int) (w : World) (hr0 : Kd.C (Kd.int .i64) w A0 l0.length l0) (hc0 : l0.length ≤ c0) (hr1 : Kd.C (Kd.int .i64) w A1 l1.length l1) (hc1 : l1.length ≤ c1) (h : impl_FirstSquare_lit1.f k l0 l1 = some r) :
  Calls Try.prog 57 #[.slice A0 l0.length c0, .slice A1 l1.length c1] w fun e w' => e = .returned (.int .i64 r) ∧ Below w.heap.size w w' := by
 have HR0 := Aside0.mk hr0
 have HC0 := Aside0.mk hc0
 clear hr0 hc0
 have HR1 := Aside0.mk hr1
 have HC1 := Aside0.mk hc1
 clear hr1 hc1
 have HB := Aside0.mk (Below.refl w.heap.size w)
 have H : (if 0 < (l0.length : Int) then (if 1 < (l0.length : Int) then (if 0 < (l1.length : Int) then (if 1 < (l1.length : Int) then ((cmp_Compare_int64.f (wrap64 ((rd l0 0) + (wrap64 (2 * (rd l0 1))))) (wrap64 ((rd l1 0) + (wrap64 (2 * (rd l1 1)))))).bind fun t108 => ((cmp_Compare_int64.f (rd l0 1) (rd l1 1)).bind fun t111 => ((cmp_Or_int.f k (([t108, t111] : List Int))).bind fun t115 => (some t115)))) else (none)) else (none)) else (none)) else (none)) = some r := h
 clear h
 by_cases c3 : 0 < (l0.length : Int)
 ·rw [if_pos c3] at H
  have c3b0 : decide (0 < (l0.length : Int)) = true := decide_eq_true c3
  have c3b1 : decide (0 < l0.length) = true := decide_eq_true (by omega)
  clear c3
  by_cases c4 : 1 < (l0.length : Int)
  ·rw [if_pos c4] at H
   have c4b0 : decide (1 < (l0.length : Int)) = true := decide_eq_true c4
   have c4b1 : decide (1 < l0.length) = true := decide_eq_true (by omega)
   clear c4
   by_cases c5 : 0 < (l1.length : Int)
   ·rw [if_pos c5] at H
    have c5b0 : decide (0 < (l1.length : Int)) = true := decide_eq_true c5
    have c5b1 : decide (0 < l1.length) = true := decide_eq_true (by omega)
    clear c5
    by_cases c6 : 1 < (l1.length : Int)
    ·rw [if_pos c6] at H
     have c6b0 : decide (1 < (l1.length : Int)) = true := decide_eq_true c6
     have c6b1 : decide (1 < l1.length) = true := decide_eq_true (by omega)
     clear c6
     replace H := Option.bind_eq_some_iff.mp H
     obtain ⟨t108, A70, H⟩ := H
     replace H : ((cmp_Compare_int64.f (rd l0 1) (rd l1 1)).bind fun t111 => ((cmp_Or_int.f k (([t108, t111] : List Int))).bind fun t115 => (some t115))) = some r := H
     have A7 := Aside0.mk A70
     clear A70
     replace H := Option.bind_eq_some_iff.mp H
     obtain ⟨t111, A80, H⟩ := H
     replace H : ((cmp_Or_int.f k (([t108, t111] : List Int))).bind fun t115 => (some t115)) = some r := H
     have A8 := Aside0.mk A80
     clear A80
     obtain ⟨y112, hy112⟩ : ∃ y_ : List Int, y_ = (([t108, t111] : List Int)) := ⟨_, rfl⟩
     replace H : ((cmp_Or_int.f k y112).bind fun t115 => (some t115)) = some r := by first | (rw [hy112]; with_reducible exact H) | (have H2_ := (Option.bind_some _ _).symm.trans H; rw [hy112]; with_reducible exact H2_) | (have H2_ := (Option.bind_some _ _).symm.trans H; with_reducible exact H2_) | with_reducible exact H | (rw [hy112]; exact H) | exact H
     have Ny112 := Aside0.mk hy112
     clear hy112
     replace H := Option.bind_eq_some_iff.mp H
     obtain ⟨t115, A90, H⟩ := H
     replace H : (some t115) = some r := H
     have A9 := Aside0.mk A90
     clear A90
     obtain rfl := Option.some.inj H
     go_enter Try.func57, Try.ntmps57
     try go_wp2
     have n0_ := Aside0.mk (below_drew1 HB.out)
     clear HB
     have HB := n0_
     clear n0_
     have p104 : 0 ≤ (0 : Int) := (by omega)
     have q104 : 0 < (l0.length : Int) := of_decide_eq_true (by first | (with_reducible assumption) | assumption)
     obtain ⟨ad104, e104, hx104_0⟩ := Kd.at_int HR0.out 0 p104 q104
     have hw104_0 := hx104_0
     (try rw [show ((0 : Int)).toNat = 0 from rfl] at hw104_0)
     (try rw [show 0 * 1 = 0 from rfl] at hw104_0)
     (try rw [Addr.add_zero'] at hw104_0)
     cases e104
     have qi104 : (0 < l0.length) = True := eq_true (by omega)
     (try rw [show ((0 : Int)).toNat = 0 from rfl] at hx104_0)
     (try rw [Addr.add_zero'] at hx104_0)
     replace hx104_0 := (HB.out.cell (World.block_lt_of_cell? w _ hx104_0)).trans hx104_0
     replace p104 := eq_true p104
     replace q104 := eq_true q104
     have p105 : 0 ≤ (1 : Int) := (by omega)
     have q105 : 1 < (l0.length : Int) := of_decide_eq_true (by first | (with_reducible assumption) | assumption)
     obtain ⟨ad105, e105, hx105_0⟩ := Kd.at_int HR0.out 1 p105 q105
     have hw105_0 := hx105_0
     (try rw [show ((1 : Int)).toNat = 1 from rfl] at hw105_0)
     (try rw [show 1 * 1 = 1 from rfl] at hw105_0)
     (try simp only [Nat.reduceMul, Nat.reduceEqDiff, Go.Addr.add, ↓reduceIte] at hw105_0)
     obtain rfl : ad104 = ad105 := (by injection e105)
     (try simp only [show (1 : Int).toNat = 1 from rfl, Nat.reduceMul, Nat.reduceEqDiff, Go.Addr.add, ↓reduceIte] at hx105_0)
     have qi105 : (1 < l0.length) = True := eq_true (by omega)
     (try rw [show ((1 : Int)).toNat = 1 from rfl] at hx105_0)
     replace hx105_0 := (HB.out.cell (World.block_lt_of_cell? w _ hx105_0)).trans hx105_0
     replace p105 := eq_true p105
     replace q105 := eq_true q105
     have p106 : 0 ≤ (0 : Int) := (by omega)
     have q106 : 0 < (l1.length : Int) := of_decide_eq_true (by first | (with_reducible assumption) | assumption)
     obtain ⟨ad106, e106, hx106_0⟩ := Kd.at_int HR1.out 0 p106 q106
     have hw106_0 := hx106_0
     (try rw [show ((0 : Int)).toNat = 0 from rfl] at hw106_0)
     (try rw [show 0 * 1 = 0 from rfl] at hw106_0)
     (try rw [Addr.add_zero'] at hw106_0)
     cases e106
     have qi106 : (0 < l1.length) = True := eq_true (by omega)
     (try rw [show ((0 : Int)).toNat = 0 from rfl] at hx106_0)
     (try rw [Addr.add_zero'] at hx106_0)
     replace hx106_0 := (HB.out.cell (World.block_lt_of_cell? w _ hx106_0)).trans hx106_0
     replace p106 := eq_true p106
     replace q106 := eq_true q106
     have p107 : 0 ≤ (1 : Int) := (by omega)
     have q107 : 1 < (l1.length : Int) := of_decide_eq_true (by first | (with_reducible assumption) | assumption)
     obtain ⟨ad107, e107, hx107_0⟩ := Kd.at_int HR1.out 1 p107 q107
     have hw107_0 := hx107_0
     (try rw [show ((1 : Int)).toNat = 1 from rfl] at hw107_0)
     (try rw [show 1 * 1 = 1 from rfl] at hw107_0)
     (try simp only [Nat.reduceMul, Nat.reduceEqDiff, Go.Addr.add, ↓reduceIte] at hw107_0)
     obtain rfl : ad106 = ad107 := (by injection e107)
     (try simp only [show (1 : Int).toNat = 1 from rfl, Nat.reduceMul, Nat.reduceEqDiff, Go.Addr.add, ↓reduceIte] at hx107_0)
     have qi107 : (1 < l1.length) = True := eq_true (by omega)
     (try rw [show ((1 : Int)).toNat = 1 from rfl] at hx107_0)
     replace hx107_0 := (HB.out.cell (World.block_lt_of_cell? w _ hx107_0)).trans hx107_0
     replace p107 := eq_true p107
     replace q107 := eq_true q107
     have p109 : 0 ≤ (1 : Int) := (by omega)
     have q109 : 1 < (l0.length : Int) := of_decide_eq_true (by first | (with_reducible assumption) | assumption)
     obtain ⟨ad109, e109, hx109_0⟩ := Kd.at_int HR0.out 1 p109 q109
     have hw109_0 := hx109_0
     (try rw [show ((1 : Int)).toNat = 1 from rfl] at hw109_0)
     (try rw [show 1 * 1 = 1 from rfl] at hw109_0)
     (try simp only [Nat.reduceMul, Nat.reduceEqDiff, Go.Addr.add, ↓reduceIte] at hw109_0)
     obtain rfl : ad104 = ad109 := (by injection e109)
     (try simp only [show (1 : Int).toNat = 1 from rfl, Nat.reduceMul, Nat.reduceEqDiff, Go.Addr.add, ↓reduceIte] at hx109_0)
     have qi109 : (1 < l0.length) = True := eq_true (by omega)
     (try rw [show ((1 : Int)).toNat = 1 from rfl] at hx109_0)
     replace hx109_0 := (HB.out.cell (World.block_lt_of_cell? w _ hx109_0)).trans hx109_0
     replace p109 := eq_true p109
     replace q109 := eq_true q109
     have p110 : 0 ≤ (1 : Int) := (by omega)
     have q110 : 1 < (l1.length : Int) := of_decide_eq_true (by first | (with_reducible assumption) | assumption)
     obtain ⟨ad110, e110, hx110_0⟩ := Kd.at_int HR1.out 1 p110 q110
     have hw110_0 := hx110_0
     (try rw [show ((1 : Int)).toNat = 1 from rfl] at hw110_0)
     (try rw [show 1 * 1 = 1 from rfl] at hw110_0)
     (try simp only [Nat.reduceMul, Nat.reduceEqDiff, Go.Addr.add, ↓reduceIte] at hw110_0)
     obtain rfl : ad106 = ad110 := (by injection e110)
     (try simp only [show (1 : Int).toNat = 1 from rfl, Nat.reduceMul, Nat.reduceEqDiff, Go.Addr.add, ↓reduceIte] at hx110_0)
     have qi110 : (1 < l1.length) = True := eq_true (by omega)
     (try rw [show ((1 : Int)).toNat = 1 from rfl] at hx110_0)
     replace hx110_0 := (HB.out.cell (World.block_lt_of_cell? w _ hx110_0)).trans hx110_0
     replace p110 := eq_true p110
     replace q110 := eq_true q110
     refine start_ (n := 27) (S := fun w' => w'.cell? ad104 = some (.int .i64 (rd l0 0)) ∧ w'.cell? ⟨ad104.block, ad104.off + 1, none⟩ = some (.int .i64 (rd l0 1)) ∧ w'.cell? ad106 = some (.int .i64 (rd l1 0)) ∧ w'.cell? ⟨ad106.block, ad106.off + 1, none⟩ = some (.int .i64 (rd l1 1)) ∧ w'.cell? ⟨ad104.block, ad104.off + 1, none⟩ = some (.int .i64 (rd l0 1)) ∧ w'.cell? ⟨ad106.block, ad106.off + 1, none⟩ = some (.int .i64 (rd l1 1))) (ds := []) #[false, false, false, false, false, false, false, false, false, false, false, false, false, false, false, false, false, false, false, false, false, false, false, false, false, false, false] (by kernel_rfl) rfl rfl ⟨((HB.out.cell (World.block_lt_of_cell? w _ hw104_0)).trans hw104_0), ((HB.out.cell (World.block_lt_of_cell? w _ hw105_0)).trans hw105_0), ((HB.out.cell (World.block_lt_of_cell? w _ hw106_0)).trans hw106_0), ((HB.out.cell (World.block_lt_of_cell? w _ hw107_0)).trans hw107_0), ((HB.out.cell (World.block_lt_of_cell? w _ hw109_0)).trans hw109_0), ((HB.out.cell (World.block_lt_of_cell? w _ hw110_0)).trans hw110_0)⟩ (fun hHeld => ?_); refine with_tabW impl_FirstSquare_lit1.tab1 impl_FirstSquare_lit1.bits1 (fun HT_ HW_ => ?_)
     generalize w.drew = w10 at HB hx104_0 hx105_0 hx106_0 hx107_0 hx109_0 hx110_0 hHeld ⊢
     refine pure_ (i := 0) (N := some 5) (v := ?_) (a' := ?_) #[true, false, false, false, false, false, false, false, false, false, false, false, false, false, false, false, false, false, false, false, false, false, false, false, false, false, false] rfl rfl (any_of HT_.out (by kernel_rfl)) (fun _ _ _ h => h) (Or.inl ⟨by rfl, ?_⟩) ?_ ?_
     rotate_left
     ·intro w'
      go_simp
      with_reducible rfl
     rotate_left
     ·simp only [Act.put, List.setIfInBounds_toArray, List.set_cons_zero, List.set_cons_succ, i64_w, i32_w]
      rfl
     refine pure_ (i := 1) (N := some 6) (v := ?_) (a' := ?_) #[true, true, false, false, false, false, false, false, false, false, false, false, false, false, false, false, false, false, false, false, false, false, false, false, false, false, false] rfl rfl (any_of HT_.out (by kernel_rfl)) (fun _ _ _ h => h) (Or.inl ⟨by rfl, ?_⟩) ?_ ?_
     rotate_left
     ·intro w'
      go_simp
      with_reducible rfl
     rotate_left
     ·simp only [Act.put, List.setIfInBounds_toArray, List.set_cons_zero, List.set_cons_succ, i64_w, i32_w]
      rfl
     refine pure_ (i := 3) (N := some 8) (v := ?_) (a' := ?_) #[true, true, false, true, false, false, false, false, false, false, false, false, false, false, false, false, false, false, false, false, false, false, false, false, false, false, false] rfl rfl (any_of HT_.out (by kernel_rfl)) (fun _ _ _ h => h) (Or.inl ⟨by rfl, ?_⟩) ?_ ?_
     rotate_left
     ·intro w'
      go_simp
      with_reducible rfl
     rotate_left
     ·simp only [Act.put, List.setIfInBounds_toArray, List.set_cons_zero, List.set_cons_succ, i64_w, i32_w]
      rfl
     refine pure_ (i := 4) (N := some 9) (v := ?_) (a' := ?_) #[true, true, false, true, true, false, false, false, false, false, false, false, false, false, false, false, false, false, false, false, false, false, false, false, false, false, false] rfl rfl (any_of HT_.out (by kernel_rfl)) (fun _ _ _ h => h) (Or.inl ⟨by rfl, ?_⟩) ?_ ?_
     rotate_left
     ·intro w'
      go_simp
      with_reducible rfl
     rotate_left
     ·simp only [Act.put, List.setIfInBounds_toArray, List.set_cons_zero, List.set_cons_succ, i64_w, i32_w]
      rfl
     refine pure_ (i := 8) (N := some 13) (v := ?_) (a' := ?_) #[true, true, false, true, true, false, false, false, true, false, false, false, false, false, false, false, false, false, false, false, false, false, false, false, false, false, false] rfl rfl (any_of HT_.out (by kernel_rfl)) (fun _ _ _ h => h) (Or.inl ⟨by rfl, ?_⟩) ?_ ?_
     rotate_left
     ·intro w'
      go_simp
      with_reducible rfl
     rotate_left
     ·simp only [Act.put, List.setIfInBounds_toArray, List.set_cons_zero, List.set_cons_succ, i64_w, i32_w]
      rfl
     refine pure_ (i := 9) (N := some 14) (v := ?_) (a' := ?_) #[true, true, false, true, true, false, false, false, true, true, false, false, false, false, false, false, false, false, false, false, false, false, false, false, false, false, false] rfl rfl (any_of HT_.out (by kernel_rfl)) (fun _ _ _ h => h) (Or.inl ⟨by rfl, ?_⟩) ?_ ?_
     rotate_left
     ·intro w'
      go_simp
      with_reducible rfl
     rotate_left
     ·simp only [Act.put, List.setIfInBounds_toArray, List.set_cons_zero, List.set_cons_succ, i64_w, i32_w]
      rfl
     refine pure_ (i := 11) (N := some 16) (v := ?_) (a' := ?_) #[true, true, false, true, true, false, false, false, true, true, false, true, false, false, false, false, false, false, false, false, false, false, false, false, false, false, false] rfl rfl (any_of HT_.out (by kernel_rfl)) (fun _ _ _ h => h) (Or.inl ⟨by rfl, ?_⟩) ?_ ?_
     rotate_left
     ·intro w'
      go_simp
      with_reducible rfl
     rotate_left
     ·simp only [Act.put, List.setIfInBounds_toArray, List.set_cons_zero, List.set_cons_succ, i64_w, i32_w]
      rfl
     refine pure_ (i := 12) (N := some 17) (v := ?_) (a' := ?_) #[true, true, false, true, true, false, false, false, true, true, false, true, true, false, false, false, false, false, false, false, false, false, false, false, false, false, false] rfl rfl (any_of HT_.out (by kernel_rfl)) (fun _ _ _ h => h) (Or.inl ⟨by rfl, ?_⟩) ?_ ?_
     rotate_left
     ·intro w'
      go_simp
      with_reducible rfl
     rotate_left
     ·simp only [Act.put, List.setIfInBounds_toArray, List.set_cons_zero, List.set_cons_succ, i64_w, i32_w]
      rfl
     refine pure_ (i := 17) (N := some 22) (v := ?_) (a' := ?_) #[true, true, false, true, true, false, false, false, true, true, false, true, true, false, false, false, false, true, false, false, false, false, false, false, false, false, false] rfl rfl (any_of HT_.out (by kernel_rfl)) (fun _ _ _ h => h) (Or.inl ⟨by rfl, ?_⟩) ?_ ?_
     rotate_left
     ·intro w'
      go_simp
      with_reducible rfl
     rotate_left
     ·simp only [Act.put, List.setIfInBounds_toArray, List.set_cons_zero, List.set_cons_succ, i64_w, i32_w]
      rfl
     refine pure_ (i := 18) (N := some 23) (v := ?_) (a' := ?_) #[true, true, false, true, true, false, false, false, true, true, false, true, true, false, false, false, false, true, true, false, false, false, false, false, false, false, false] rfl rfl (any_of HT_.out (by kernel_rfl)) (fun _ _ _ h => h) (Or.inl ⟨by rfl, ?_⟩) ?_ ?_
     rotate_left
     ·intro w'
      go_simp
      with_reducible rfl
     rotate_left
     ·simp only [Act.put, List.setIfInBounds_toArray, List.set_cons_zero, List.set_cons_succ, i64_w, i32_w]
      rfl
     refine pure_ (i := 20) (N := some 25) (v := ?_) (a' := ?_) #[true, true, false, true, true, false, false, false, true, true, false, true, true, false, false, false, false, true, true, false, true, false, false, false, false, false, false] rfl rfl (any_of HT_.out (by kernel_rfl)) (fun _ _ _ h => h) (Or.inl ⟨by rfl, ?_⟩) ?_ ?_
     rotate_left
     ·intro w'
      go_simp
      with_reducible rfl
     rotate_left
     ·simp only [Act.put, List.setIfInBounds_toArray, List.set_cons_zero, List.set_cons_succ, i64_w, i32_w]
      rfl
     refine pure_ (i := 21) (N := some 26) (v := ?_) (a' := ?_) #[true, true, false, true, true, false, false, false, true, true, false, true, true, false, false, false, false, true, true, false, true, true, false, false, false, false, false] rfl rfl (any_of HT_.out (by kernel_rfl)) (fun _ _ _ h => h) (Or.inl ⟨by rfl, ?_⟩) ?_ ?_
     rotate_left
     ·intro w'
      go_simp
      with_reducible rfl
     rotate_left
     ·simp only [Act.put, List.setIfInBounds_toArray, List.set_cons_zero, List.set_cons_succ, i64_w, i32_w]
      rfl
     refine take_ (i := 2) (N := some 7) (v := ?_) (a' := ?_) #[true, true, true, true, true, false, false, false, true, true, false, true, true, false, false, false, false, true, true, false, true, true, false, false, false, false, false] rfl rfl (take_ofW HT_.out HW_.out (by kernel_rfl)) (fun _ _ _ h => h) (Or.inl ⟨by rfl, ?_⟩) hHeld ?_ ?_
     rotate_left
     ·rintro w' ⟨s0, s1, s2, s3, s4, s5⟩
      go_simp
      with_reducible rfl
     rotate_left
     ·simp only [Act.put, List.setIfInBounds_toArray, List.set_cons_zero, List.set_cons_succ, i64_w, i32_w]
      rfl
     refine take_ (i := 5) (N := some 10) (v := ?_) (a' := ?_) #[true, true, true, true, true, true, false, false, true, true, false, true, true, false, false, false, false, true, true, false, true, true, false, false, false, false, false] rfl rfl (take_ofW HT_.out HW_.out (by kernel_rfl)) (fun _ _ _ h => h) (Or.inl ⟨by rfl, ?_⟩) hHeld ?_ ?_
     rotate_left
     ·rintro w' ⟨s0, s1, s2, s3, s4, s5⟩
      go_simp
      with_reducible rfl
     rotate_left
     ·simp only [Act.put, List.setIfInBounds_toArray, List.set_cons_zero, List.set_cons_succ, i64_w, i32_w]
      rfl
     refine pure_ (i := 6) (N := some 11) (v := ?_) (a' := ?_) #[true, true, true, true, true, true, true, false, true, true, false, true, true, false, false, false, false, true, true, false, true, true, false, false, false, false, false] rfl rfl (any_of HT_.out (by kernel_rfl)) (fun _ _ _ h => h) (Or.inl ⟨by rfl, ?_⟩) ?_ ?_
     rotate_left
     ·intro w'
      go_simp
      with_reducible rfl
     rotate_left
     ·simp only [Act.put, List.setIfInBounds_toArray, List.set_cons_zero, List.set_cons_succ, i64_w, i32_w]
      rfl
     refine pure_ (i := 7) (N := some 12) (v := ?_) (a' := ?_) #[true, true, true, true, true, true, true, true, true, true, false, true, true, false, false, false, false, true, true, false, true, true, false, false, false, false, false] rfl rfl (any_of HT_.out (by kernel_rfl)) (fun _ _ _ h => h) (Or.inl ⟨by rfl, ?_⟩) ?_ ?_
     rotate_left
     ·intro w'
      go_simp
      with_reducible rfl
     rotate_left
     ·simp only [Act.put, List.setIfInBounds_toArray, List.set_cons_zero, List.set_cons_succ, i64_w, i32_w]
      rfl
     refine take_ (i := 10) (N := some 15) (v := ?_) (a' := ?_) #[true, true, true, true, true, true, true, true, true, true, true, true, true, false, false, false, false, true, true, false, true, true, false, false, false, false, false] rfl rfl (take_ofW HT_.out HW_.out (by kernel_rfl)) (fun _ _ _ h => h) (Or.inl ⟨by rfl, ?_⟩) hHeld ?_ ?_
     rotate_left
     ·rintro w' ⟨s0, s1, s2, s3, s4, s5⟩
      go_simp
      with_reducible rfl
     rotate_left
     ·simp only [Act.put, List.setIfInBounds_toArray, List.set_cons_zero, List.set_cons_succ, i64_w, i32_w]
      rfl
     refine take_ (i := 13) (N := some 18) (v := ?_) (a' := ?_) #[true, true, true, true, true, true, true, true, true, true, true, true, true, true, false, false, false, true, true, false, true, true, false, false, false, false, false] rfl rfl (take_ofW HT_.out HW_.out (by kernel_rfl)) (fun _ _ _ h => h) (Or.inl ⟨by rfl, ?_⟩) hHeld ?_ ?_
     rotate_left
     ·rintro w' ⟨s0, s1, s2, s3, s4, s5⟩
      go_simp
      with_reducible rfl
     rotate_left
     ·simp only [Act.put, List.setIfInBounds_toArray, List.set_cons_zero, List.set_cons_succ, i64_w, i32_w]
      rfl
     refine pure_ (i := 14) (N := some 19) (v := ?_) (a' := ?_) #[true, true, true, true, true, true, true, true, true, true, true, true, true, true, true, false, false, true, true, false, true, true, false, false, false, false, false] rfl rfl (any_of HT_.out (by kernel_rfl)) (fun _ _ _ h => h) (Or.inl ⟨by rfl, ?_⟩) ?_ ?_
     rotate_left
     ·intro w'
      go_simp
      with_reducible rfl
     rotate_left
     ·simp only [Act.put, List.setIfInBounds_toArray, List.set_cons_zero, List.set_cons_succ, i64_w, i32_w]
      rfl
     refine pure_ (i := 15) (N := some 20) (v := ?_) (a' := ?_) #[true, true, true, true, true, true, true, true, true, true, true, true, true, true, true, true, false, true, true, false, true, true, false, false, false, false, false] rfl rfl (any_of HT_.out (by kernel_rfl)) (fun _ _ _ h => h) (Or.inl ⟨by rfl, ?_⟩) ?_ ?_
     rotate_left
     ·intro w'
      go_simp
      with_reducible rfl
     rotate_left
     ·simp only [Act.put, List.setIfInBounds_toArray, List.set_cons_zero, List.set_cons_succ, i64_w, i32_w]
      rfl
     refine take_ (i := 19) (N := some 24) (v := ?_) (a' := ?_) #[true, true, true, true, true, true, true, true, true, true, true, true, true, true, true, true, false, true, true, true, true, true, false, false, false, false, false] rfl rfl (take_ofW HT_.out HW_.out (by kernel_rfl)) (fun _ _ _ h => h) (Or.inl ⟨by rfl, ?_⟩) hHeld ?_ ?_
     rotate_left
     ·rintro w' ⟨s0, s1, s2, s3, s4, s5⟩
      go_simp
      with_reducible rfl
     rotate_left
     ·simp only [Act.put, List.setIfInBounds_toArray, List.set_cons_zero, List.set_cons_succ, i64_w, i32_w]
      rfl
     refine take_ (i := 22) (N := some 27) (v := ?_) (a' := ?_) #[true, true, true, true, true, true, true, true, true, true, true, true, true, true, true, true, false, true, true, true, true, true, true, false, false, false, false] rfl rfl (take_ofW HT_.out HW_.out (by kernel_rfl)) (fun _ _ _ h => h) (Or.inl ⟨by rfl, ?_⟩) hHeld ?_ ?_
     rotate_left
     ·rintro w' ⟨s0, s1, s2, s3, s4, s5⟩
      go_simp
      with_reducible rfl
     rotate_left
     ·simp only [Act.put, List.setIfInBounds_toArray, List.set_cons_zero, List.set_cons_succ, i64_w, i32_w]
      rfl
     refine one_ (i := 16) (N := some 21) #[true, true, true, true, true, true, true, true, true, true, true, true, true, true, true, true, true, true, true, true, true, true, true, false, false, false, false] rfl rfl (one_of HT_.out (by kernel_rfl)) (by decide) (fun K hK => ?_)
     refine goes_ Try.func59 (by kernel_rfl) rfl #[.int .i64 (wrap64 ((rd l0 0) + (wrap64 (2 * (rd l0 1))))), .int .i64 (wrap64 ((rd l1 0) + (wrap64 (2 * (rd l1 1)))))] (by rfl) rfl rfl (by (try simp only [List.map_toArray, List.map_cons, List.map_nil]); first | done | rfl | (simp only [List.length_drop, List.length_take]; rfl)) ?_
     with_reducible refine (cmp_Compare_int64.calls (wrap64 ((rd l0 0) + (wrap64 (2 * (rd l0 1))))) (wrap64 ((rd l1 0) + (wrap64 (2 * (rd l1 1))))) t108 _ A7.out).mono ?_
     rintro e w' ⟨rfl, ⟨nd, rfl⟩⟩
     refine ⟨_, rfl, ?_⟩
     refine hK.out _ _ ⟨((HB.out.cell (World.block_lt_of_cell? w _ hw104_0)).trans hw104_0), ((HB.out.cell (World.block_lt_of_cell? w _ hw105_0)).trans hw105_0), ((HB.out.cell (World.block_lt_of_cell? w _ hw106_0)).trans hw106_0), ((HB.out.cell (World.block_lt_of_cell? w _ hw107_0)).trans hw107_0), ((HB.out.cell (World.block_lt_of_cell? w _ hw109_0)).trans hw109_0), ((HB.out.cell (World.block_lt_of_cell? w _ hw110_0)).trans hw110_0)⟩ (fun hHeld => ?_)
     clear hK K
     refine norm_ (a' := ?_) ?_ ?_
     rotate_left
     ·show Act.put _ (some 21) _ = _
      simp only [Act.put, List.setIfInBounds_toArray, List.set_cons_zero, List.set_cons_succ, i64_w, i32_w]
      rfl
     refine one_ (i := 23) (N := some 28) #[true, true, true, true, true, true, true, true, true, true, true, true, true, true, true, true, true, true, true, true, true, true, true, true, false, false, false] rfl rfl (one_of HT_.out (by kernel_rfl)) (by decide) (fun K hK => ?_)
     refine goes_ Try.func59 (by kernel_rfl) rfl #[.int .i64 (rd l0 1), .int .i64 (rd l1 1)] (by rfl) rfl rfl (by (try simp only [List.map_toArray, List.map_cons, List.map_nil]); first | done | rfl | (simp only [List.length_drop, List.length_take]; rfl)) ?_
     with_reducible refine (cmp_Compare_int64.calls (rd l0 1) (rd l1 1) t111 _ A8.out).mono ?_
     rintro e w' ⟨rfl, ⟨nd, rfl⟩⟩
     refine ⟨_, rfl, ?_⟩
     refine hK.out _ _ ⟨((HB.out.cell (World.block_lt_of_cell? w _ hw104_0)).trans hw104_0), ((HB.out.cell (World.block_lt_of_cell? w _ hw105_0)).trans hw105_0), ((HB.out.cell (World.block_lt_of_cell? w _ hw106_0)).trans hw106_0), ((HB.out.cell (World.block_lt_of_cell? w _ hw107_0)).trans hw107_0), ((HB.out.cell (World.block_lt_of_cell? w _ hw109_0)).trans hw109_0), ((HB.out.cell (World.block_lt_of_cell? w _ hw110_0)).trans hw110_0)⟩ (fun hHeld => ?_)
     clear hK K
     refine norm_ (a' := ?_) ?_ ?_
     rotate_left
     ·show Act.put _ (some 28) _ = _
      simp only [Act.put, List.setIfInBounds_toArray, List.set_cons_zero, List.set_cons_succ, i64_w, i32_w]
      rfl
     refine one_ (i := 24) (N := some 29) #[true, true, true, true, true, true, true, true, true, true, true, true, true, true, true, true, true, true, true, true, true, true, true, true, true, false, false] rfl rfl (one_of HT_.out (by kernel_rfl)) (by decide) (fun K hK => ?_)
     refine Kd.R_lit_step (Kd.int .i64) _ 3 ?hg (N := 29) ?hd (xs := ([t108, t111] : List Int)) (inner := [.int .i64 t108, .int .i64 t111]) (ok := fun _ => True) (okp := fun _ => True) ?hr ?hp (fun _ hk => hk) trivial (Below.refl _ _) (Nat.le_refl _) (by simp) ?_; (case hd => rfl); (case hg => rfl); (case hr => first | (go_simp; done) | (go_simp; rfl)); (case hp => exact (Reps.one (show Kd.M (Kd.int .i64) _ _ _ t108 [.int .i64 t108] from rfl) (Reps.one (show Kd.M (Kd.int .i64) _ _ _ t111 [.int .i64 t111] from rfl) (Reps.none _ _))))
     intro v113 w11 ho12 hb hg_ hnew_
     clear hg_ hnew_
     (first | rw [← Ny112.out] at ho12 | (simp only [Int.reduceToNat] at ho12; rw [← Ny112.out] at ho12))
     have n0_ := Aside0.mk (Kd.R_lower ho12 (below_size (by repeat (first | (with_reducible first | exact HB.out | apply below_alloc | apply pw_below_drewN | apply below_drew1) | exact HB.out))))
     have n1_ := Aside0.mk (below_step (by repeat (first | (with_reducible first | exact HB.out | apply below_alloc | apply pw_below_drewN | apply below_drew1) | exact HB.out)) hb)
     clear HB
     have HO114 := n0_
     have HB := n1_
     clear n0_ n1_
     clear hb ho12
     obtain ⟨Ao13, co13, eo13⟩ := Kd.R_slice HO114.out
     (first | subst eo13 | (injection eo13 with f1_ f2_ f3_; have f4_ := f1_.symm; have f5_ := f3_.symm; clear f1_ f2_ f3_; subst f4_; subst f5_))
     refine hK.out _ _ ⟨((HB.out.cell (World.block_lt_of_cell? w _ hw104_0)).trans hw104_0), ((HB.out.cell (World.block_lt_of_cell? w _ hw105_0)).trans hw105_0), ((HB.out.cell (World.block_lt_of_cell? w _ hw106_0)).trans hw106_0), ((HB.out.cell (World.block_lt_of_cell? w _ hw107_0)).trans hw107_0), ((HB.out.cell (World.block_lt_of_cell? w _ hw109_0)).trans hw109_0), ((HB.out.cell (World.block_lt_of_cell? w _ hw110_0)).trans hw110_0)⟩ (fun hHeld => ?_)
     clear hK K
     refine norm_ (a' := ?_) ?_ ?_
     rotate_left
     ·show Act.put _ (some 29) _ = _
      simp only [Act.put, List.setIfInBounds_toArray, List.set_cons_zero, List.set_cons_succ, i64_w, i32_w]
      rfl
     refine one_ (i := 25) (N := some 30) #[true, true, true, true, true, true, true, true, true, true, true, true, true, true, true, true, true, true, true, true, true, true, true, true, true, true, false] rfl rfl (one_of HT_.out (by kernel_rfl)) (by decide) (fun K hK => ?_)
     refine goes_ Try.func58 (by kernel_rfl) rfl #[.slice Ao13 y112.length co13] (by rfl) rfl rfl (by (try simp only [List.map_toArray, List.map_cons, List.map_nil]); first | done | rfl | (simp only [List.length_drop, List.length_take]; rfl)) ?_
     with_reducible refine (cmp_Or_int.calls k _ _ y112 t115 _ ?side1 ?side2 A9.out).mono ?_
     (case side1 => repeat (first | exact (Kd.R_reads' HO114.out).2.2 | (with_reducible refine Kd.C_alloc ?_ _) | (with_reducible refine Kd.C_drewN ?_ _) | (with_reducible refine Kd.C_drew ?_)))
     (case side2 => exact (Kd.R_reads' HO114.out).2.1)
     rintro e w' ⟨rfl, ⟨nd, rfl⟩⟩
     refine ⟨_, rfl, ?_⟩
     refine hK.out _ _ ⟨((HB.out.cell (World.block_lt_of_cell? w _ hw104_0)).trans hw104_0), ((HB.out.cell (World.block_lt_of_cell? w _ hw105_0)).trans hw105_0), ((HB.out.cell (World.block_lt_of_cell? w _ hw106_0)).trans hw106_0), ((HB.out.cell (World.block_lt_of_cell? w _ hw107_0)).trans hw107_0), ((HB.out.cell (World.block_lt_of_cell? w _ hw109_0)).trans hw109_0), ((HB.out.cell (World.block_lt_of_cell? w _ hw110_0)).trans hw110_0)⟩ (fun hHeld => ?_)
     clear hK K
     refine norm_ (a' := ?_) ?_ ?_
     rotate_left
     ·show Act.put _ (some 30) _ = _
      simp only [Act.put, List.setIfInBounds_toArray, List.set_cons_zero, List.set_cons_succ, i64_w, i32_w]
      rfl
     refine pure_ (i := 26) (N := some 4) (v := ?_) (a' := ?_) #[true, true, true, true, true, true, true, true, true, true, true, true, true, true, true, true, true, true, true, true, true, true, true, true, true, true, true] rfl rfl (any_of HT_.out (by kernel_rfl)) (fun _ _ _ h => h) (Or.inl ⟨by rfl, ?_⟩) ?_ ?_
     rotate_left
     ·intro w'
      go_simp
      with_reducible rfl
     rotate_left
     ·simp only [Act.put, List.setIfInBounds_toArray, List.set_cons_zero, List.set_cons_succ, i64_w, i32_w]
      rfl
     refine done_ (done_of HT_.out (by kernel_rfl)) ?_
     try go_wp2
     go_ret
     exact ⟨by first | rfl | (simp [errW_none, errW_some] <;> rfl) | (simp [*, errW_none, errW_some] <;> rfl), by repeat (first | (with_reducible first | exact HB.out | apply below_alloc | apply pw_below_drewN | apply below_drew1) | exact HB.out)⟩
    ·rw [if_neg c6] at H
     exact absurd H (by simp)
   ·rw [if_neg c5] at H
    exact absurd H (by simp)
  ·rw [if_neg c4] at H
   exact absurd H (by simp)
 ·rw [if_neg c3] at H
  exact absurd H (by simp)

end Go.Proofs.Yteakipdmpjlhiaa.R

namespace Go.Proofs.Yteakipdmpjlhiaa.Q
open Go.RowKit Go.Proofs.YteakipdmpjlhiaaW.PrintWords Go.Proofs.YteakipdmpjlhiaaW.PrintLast Go.Proofs.YteakipdmpjlhiaaW.PrintMore
attribute [local go_sem] max2_int min2_int max_two min_two max_three min_three max_four min_four bn_leq bn_gtr bn_geq   -- for this text's walks alone
set_option linter.unusedVariables false
set_option linter.unusedSimpArgs false

/-! ### impl_FirstSquare: function 23 (this session's own) -/
-- IMPORT Derived.Test.YteakipdmpjlhiaaRx1
/-- the row that slices.MinFunc finds: b: the best so far, behind it the rows to come -/
def minRow (k : Nat) : List (List Int) → List Int → Option (List Int)
 | [], b => some b
 | x :: l, b => (R.impl_FirstSquare_lit1.f k x b).bind fun c => minRow k l (if c < 0 then x else b)
theorem drop_get {α : Type} (l : List α) (d : α) (i : Nat) (h : i < l.length) : l.drop i = l.getD i d :: l.drop (i + 1) := by
 rw [List.drop_eq_getElem_cons h]
 simp [List.getD_eq_getElem?_getD, h]
set_option maxHeartbeats 4000000 in
theorem xw_MinFunc (k : Nat) (L : List (List Int)) (r : List Int) (v : Value) (ok : Nat → Prop) (base : Nat) (w : World) (hp : 0 < L.length) (hbig : L.length ≤ 1000000) (h : minRow k (L.drop 1) (L.getD 0 []) = some r) (hS : Kd.S (Kd.slice 2 (Kd.int .i64)) 26 w base ok v L) :
  Calls Try.prog 56 #[v, .func (.func 57) #[] #[]] w fun e w' => ∃ (A : Option Addr) (c : Nat), e = .returned (.slice A r.length c) ∧ r.length ≤ c ∧ Kd.C (Kd.int .i64) w' A r.length r ∧ Below w.heap.size w w' := by
 obtain ⟨g, cap, rfl, _, hg, _, hfr, hrows⟩ := xw_rows hS hp
 obtain ⟨A0, c0, hcell0, hl0, hC0⟩ := hrows 0 hp
 obtain ⟨x0, hx0⟩ : ∃ x, x = L.getD 0 [] := ⟨_, rfl⟩
 rw [← hx0] at h hcell0 hl0 hC0
 clear hx0
 have hcells : Aside0 (∀ W : World, Below w.heap.size w W → ∀ i, i < L.length → ∃ (A : Option Addr) (c : Nat), W.cell? ⟨g, i, none⟩ = some (.slice A (L.getD i []).length c) ∧ (L.getD i []).length ≤ c ∧ Kd.C (Kd.int .i64) W A (L.getD i []).length (L.getD i [])) := ⟨fun W hb i hi => by
  obtain ⟨A, c, h1, h2, h3⟩ := hrows i hi
  exact ⟨A, c, (hb.cell (p := ⟨g, i, none⟩) hg).trans h1, h2, Kd.C_below h3 hb⟩⟩
 have h' := Aside0.mk h
 have hbig' := Aside0.mk hbig
 have hl0' := Aside0.mk hl0
 have hC0' := Aside0.mk hC0
 have eg := enters_of Try.func57 (by kernel_rfl) rfl
 have n0 : decide ((L.length : Int) < 1) = false := decide_eq_false (by omega)
 have n1 : decide ((0 : Int) < (L.length : Int)) = true := decide_eq_true (by omega)
 have n2 := eq_true (show (0 : Int) < (L.length : Int) by omega)
 have n3 := eq_true (show 0 < L.length by omega)
 clear hS hrows h hbig hl0 hC0
 go_enter Try.func56, Try.ntmps56
 go_wp2
 go_loopg [5, 6] L.length (fun gg v5 v6 wr => ∃ (i : Nat) (b : List Int) (A : Option Addr) (c : Nat), 1 ≤ i ∧ i ≤ L.length ∧ L.length - i ≤ gg ∧ v6 = .int .i64 i ∧ v5 = .slice A b.length c ∧ Aside0 (b.length ≤ c) ∧ Aside0 (minRow k (L.drop i) b = some r) ∧ Aside0 (Kd.C (Kd.int .i64) wr A b.length b) ∧ Aside0 (Below w.heap.size w wr))
 case atStart => exact ⟨1, _, A0, c0, Nat.le_refl _, hp, by omega, rfl, rfl, hl0', h', hC0', ⟨Below.refl _ _⟩⟩
 case round =>
  clear hl0' hC0' h'
  obtain ⟨i, b, A, c, hi1, hi2, hgg, rfl, rfl, hbc, hm, hC, HB⟩ := hrel
  by_cases hlt : i < L.length
  ·have hltz : (i : Int) < (L.length : Int) := by omega
   have c1 := decide_eq_true hltz
   have p0 := eq_true hltz
   have p1 := eq_true hlt
   have p2 := eq_true (show (0 : Int) ≤ (i : Int) by omega)
   obtain ⟨A1, cc, hcell, hle, hC1⟩ := hcells.out wr HB.out i hlt
   have hm2 := hm.out
   rw [drop_get L [] i hlt] at hm2
   simp only [minRow] at hm2
   obtain ⟨x, hx⟩ : ∃ x, x = L.getD i [] := ⟨_, rfl⟩
   rw [← hx] at hm2 hcell hle hC1
   obtain ⟨t, ht, hm3⟩ := Option.bind_eq_some_iff.mp hm2
   have hcal := R.impl_FirstSquare_lit1.calls k A1 cc x A c b t wr hC1 hle hC.out hbc.out ht
   have hm4 := Aside0.mk hm3
   have hle' := Aside0.mk hle
   have hC1' := Aside0.mk hC1
   have hb5 := hbig'.out
   have hw5 := Aside0.mk (show wrap64 ((i : Int) + 1) = ((i + 1 : Nat) : Int) by rw [w64 (by omega) (by omega)]; rfl)
   clear hm2 hm3 hm hx ht hle hC1 hb5
   by_cases hneg : t < 0
   ·have c2 := decide_eq_true hneg
    have hr5 : Aside0 (minRow k (L.drop (i + 1)) x = some r) := ⟨by have := hm4.out; rwa [if_pos hneg] at this⟩
    clear hm4 hneg
    go_wp2_with (go_at_call 57; refine hcal.mono ?_; rintro e w2 ⟨rfl, hb2⟩; have HB2 := Aside0.mk hb2; have hcell2 := (hb2.cell (p := ⟨g, i, none⟩) (Nat.lt_of_lt_of_le hg HB.out.size)).trans hcell; clear hb2)
    go_roundg (L.length - (i + 1))
    case measure => omega
    case rel => exact ⟨i + 1, x, A1, cc, by omega, by omega, by omega, by rw [hw5.out], rfl, hle', hr5, ⟨Kd.C_below hC1'.out HB2.out⟩, ⟨below_then HB.out HB.out.size HB2.out⟩⟩
   ·have c2 := decide_eq_false hneg
    have hr5 : Aside0 (minRow k (L.drop (i + 1)) b = some r) := ⟨by have := hm4.out; rwa [if_neg hneg] at this⟩
    clear hm4 hneg
    go_wp2_with (go_at_call 57; refine hcal.mono ?_; rintro e w2 ⟨rfl, hb2⟩; have HB2 := Aside0.mk hb2; clear hb2)
    go_roundg (L.length - (i + 1))
    case measure => omega
    case rel => exact ⟨i + 1, b, A, c, by omega, by omega, by omega, by rw [hw5.out], rfl, hbc, hr5, ⟨Kd.C_below hC.out HB2.out⟩, ⟨below_then HB.out HB.out.size HB2.out⟩⟩
  ·have hltz : ¬ (i : Int) < (L.length : Int) := by omega
   have c1 := decide_eq_false hltz
   obtain rfl : i = L.length := by omega
   have hm2 := hm.out
   rw [List.drop_length] at hm2
   simp only [minRow, Option.some.injEq] at hm2
   subst hm2
   clear hm
   go_wp2
   go_ret
   exact ⟨A, c, rfl, hbc.out, hC.out, HB.out⟩

def fsqTail (k : Nat) (L : List (List Int)) : Option (Int × Int × Int) := if L.length = 0 then some (0, 0, 4) else if L.length ≤ 1000000 then ((minRow k (L.drop 1) (L.getD 0 [])).bind fun b => if 2 ≤ b.length then some (rd b 0, rd b 1, 0) else none) else none
def impl_FirstSquare.f (k : Nat) (a0 : ByteArray) : Option (Int × Int × Int) := if isW a0 = true then (impl_powersIn.f k a0 2).bind fun L => fsqTail k L else some (0, 0, 1)
set_option maxHeartbeats 4000000 in
theorem impl_FirstSquare.calls (k : Nat) (a0 : ByteArray) (r1 r2 r3 : Int) (w : World) (h : impl_FirstSquare.f k a0 = some (r1, r2, r3)) :
  Calls Try.prog 23 #[.string a0] w fun e w' => e = .returned (.tuple #[.int .i64 r1, .int .i64 r2, .int .i64 r3]) ∧ Below w.heap.size w w' := by
 unfold impl_FirstSquare.f at h
 obtain ⟨c, hc⟩ : ∃ c : Int, c = (if isW a0 then 0 else 1) := ⟨_, rfl⟩
 have hq : Calls Try.prog 30 #[.func (.func 43) #[] #[], .slice (some ⟨w.heap.size, 0, none⟩) 1 1] (w.alloc (.cells #[.string a0] 9)) fun e w' => e = .returned (.int .i64 c) ∧ Below w.heap.size w w' := by
  refine (impl_wordCode.calls () _ 1 [a0] c _ (xw_C_one _ w.heap.size a0 (by simp [go_sem])) (by simp) (by rw [hc]; unfold impl_wordCode.f; simp)).mono ?_
  rintro e w' ⟨rfl, hb⟩
  exact ⟨rfl, below_then ((Below.refl _ w).alloc (Nat.le_refl _) _) (by simp) hb⟩
 cases hw : isW a0 with
 | false =>
  rw [hw] at h hc
  obtain ⟨rfl, rfl, rfl⟩ : (0 : Int) = r1 ∧ (0 : Int) = r2 ∧ (1 : Int) = r3 := by simpa using h
  obtain rfl : c = 1 := by simpa using hc
  clear h hc hw
  go_enter Try.func23, Try.ntmps23
  go_wp2_with (go_at_call 30; refine hq.mono ?_; rintro e w' ⟨rfl, hb⟩; have hb' := Aside0.mk hb; clear hb)
  go_ret3
  exact ⟨rfl, hb'.out⟩
 | true =>
  rw [hw, if_pos rfl] at h
  rw [hw] at hc
  obtain rfl : c = 0 := by simpa using hc
  obtain ⟨L, hL, h⟩ := Option.bind_eq_some_iff.mp h
  have hP := Aside0.mk (fun W => impl_powersIn.calls k a0 2 L W hL)
  clear hc hw hL
  unfold fsqTail at h
  by_cases h0 : L.length = 0
  ·rw [if_pos h0] at h
   obtain ⟨rfl, rfl, rfl⟩ : (0 : Int) = r1 ∧ (0 : Int) = r2 ∧ (4 : Int) = r3 := by simpa using h
   obtain rfl := List.length_eq_zero_iff.mp h0
   clear h h0
   go_enter Try.func23, Try.ntmps23
   go_wp2_with (first | (go_at_call 30; refine hq.mono ?_; rintro e w1 ⟨rfl, hb⟩; have hb' := Aside0.mk hb; clear hb) | (go_at_call 55; refine (hP.out _).mono ?_; rintro e w2 ⟨v, rfl, ho, hb⟩; obtain ⟨A, c, rfl⟩ := Kd.S_slice ho; have hb2' := Aside0.mk hb; clear hb ho))
   go_ret3
   exact ⟨rfl, below_then hb'.out hb'.out.size hb2'.out⟩
  ·rw [if_neg h0] at h
   by_cases hbig : L.length ≤ 1000000
   ·rw [if_pos hbig] at h
    obtain ⟨b, hb, h⟩ := Option.bind_eq_some_iff.mp h
    by_cases h2 : 2 ≤ b.length
    ·rw [if_pos h2] at h
     obtain ⟨rfl, rfl, rfl⟩ : rd b 0 = r1 ∧ rd b 1 = r2 ∧ (0 : Int) = r3 := by simpa using h
     have hM := Aside0.mk (fun v W (hS : Kd.S (Kd.slice 2 (Kd.int .i64)) 26 W w.heap.size (fun _ => True) v L) => xw_MinFunc k L b v (fun _ => True) w.heap.size W (by omega) hbig hb hS)
     have c1 : ((L.length : Int) == 0) = false := beq_eq_false_iff_ne.mpr (by omega)
     have h2' := Aside0.mk h2
     have p0 := eq_true (show 0 < b.length by omega)
     have p1 := eq_true (show 1 < b.length by omega)
     have p2 := eq_true (show (0 : Int) < (b.length : Int) by omega)
     have p3 := eq_true (show (1 : Int) < (b.length : Int) by omega)
     have p4 := decide_eq_true (show (0 : Int) < (b.length : Int) by omega)
     have p5 := decide_eq_true (show (1 : Int) < (b.length : Int) by omega)
     clear h hb hbig h0 h2
     go_enter Try.func23, Try.ntmps23
     go_wp2_with (first | (go_at_call 30; refine hq.mono ?_; rintro e w1 ⟨rfl, hb⟩; have hb' := Aside0.mk hb; clear hb) | (go_at_call 55; refine (hP.out _).mono ?_; rintro e w2 ⟨v, rfl, ho, hb⟩; obtain ⟨A, c, rfl⟩ := Kd.S_slice ho; have hb2' := Aside0.mk (below_then hb'.out hb'.out.size hb); have ho' := Aside0.mk (Kd.S_lower ho hb'.out.size); clear hb ho) | (go_at_call 56; refine (hM.out _ _ ho'.out).mono ?_; rintro e w3 ⟨A3, c3, rfl, hl3, hC3, hb3⟩; obtain ⟨ad, rfl, hx0⟩ := Kd.at_int hC3 0 (by omega) (by have := h2'.out; omega); obtain ⟨ad2, he2, hx1⟩ := Kd.at_int hC3 1 (by omega) (by have := h2'.out; omega); cases he2; have hb3' := Aside0.mk hb3; clear hb3 hC3; have hl3' := Aside0.mk hl3; clear hl3))
     have hx2 : w3.cell? ad = some (.int .i64 (rd b 0)) := by rw [show ad = ad.add (0 : Int).toNat from (by unfold Addr.add; simp)]; exact hx0
     simp only [show (1 : Int).toNat = 1 from rfl, Nat.reduceMul, Nat.reduceEqDiff, Go.Addr.add, ↓reduceIte] at hx1
     clear hx0
     go_quiet (fail)
     go_wp2
     go_ret3
     exact ⟨rfl, by repeat (first | exact below_then hb2'.out hb2'.out.size hb3'.out | apply pw_below_drewN | apply below_drew)⟩
    ·rw [if_neg h2] at h; cases h
   ·rw [if_neg hbig] at h; cases h


end Go.Proofs.Yteakipdmpjlhiaa.Q

namespace Go.Proofs.Yteakipdmpjlhiaa.Q
open Go.RowKit Go.Proofs.YteakipdmpjlhiaaW.PrintWords Go.Proofs.YteakipdmpjlhiaaW.PrintLast Go.Proofs.YteakipdmpjlhiaaW.PrintMore
attribute [local go_sem] max2_int min2_int max_two min_two max_three min_three max_four min_four bn_leq bn_gtr bn_geq   -- for this text's walks alone
set_option linter.unusedVariables false
set_option linter.unusedSimpArgs false

/-! ### spec_FirstSquare: function 24 -/
def spec_FirstSquare.f (k : Nat) (a0 : ByteArray) : Option (Int × Int × Int) := (spec_l01Is.f k a0).bind fun t442 => (if t442 = true then ((spec_l03First.f k a0 0).bind fun bt443 => (if bt443.2.2 = true then (some (bt443.1, bt443.2.1, 0)) else (some (0, 0, 4)))) else (some (0, 0, 1)))
set_option maxHeartbeats 8000000 in
set_option maxRecDepth 100000 in
theorem spec_FirstSquare.calls (k : Nat) (a0 : ByteArray) (r1 : Int) (r2 : Int) (r3 : Int) (w : World) (h : spec_FirstSquare.f k a0 = some (r1, r2, r3)) :
  Calls Try.prog 24 #[.string a0] w fun e w' => e = .returned (.tuple #[.int .i64 r1, .int .i64 r2, .int .i64 r3]) ∧ Below w.heap.size w w' := by
 have HB := Aside0.mk (Below.refl w.heap.size w)
 have H : ((spec_l01Is.f k a0).bind fun t442 => (if t442 = true then ((spec_l03First.f k a0 0).bind fun bt443 => (if bt443.2.2 = true then (some (bt443.1, bt443.2.1, 0)) else (some (0, 0, 4)))) else (some (0, 0, 1)))) = some (r1, r2, r3) := h
 clear h
 replace H := Option.bind_eq_some_iff.mp H
 obtain ⟨t442, A20, H⟩ := H
 replace H : (if t442 = true then ((spec_l03First.f k a0 0).bind fun bt443 => (if bt443.2.2 = true then (some (bt443.1, bt443.2.1, 0)) else (some (0, 0, 4)))) else (some (0, 0, 1))) = some (r1, r2, r3) := H
 have A2 := Aside0.mk A20
 clear A20
 by_cases c3 : t442 = true
 ·subst c3
  have H1 : ((spec_l03First.f k a0 0).bind fun bt443 => (if bt443.2.2 = true then (some (bt443.1, bt443.2.1, 0)) else (some (0, 0, 4)))) = some (r1, r2, r3) := by rw [if_pos rfl] at H; exact H
  clear H
  have H := H1
  clear H1
  replace H := Option.bind_eq_some_iff.mp H
  obtain ⟨⟨t443, t444, t445⟩, A40, H⟩ := H
  replace H : (if t445 = true then (some (t443, t444, 0)) else (some (0, 0, 4))) = some (r1, r2, r3) := H
  have A4 := Aside0.mk A40
  clear A40
  by_cases c5 : t445 = true
  ·subst c5
   have H1 : (some (t443, t444, 0)) = some (r1, r2, r3) := by rw [if_pos rfl] at H; exact H
   clear H
   have H := H1
   clear H1
   simp only [Option.some.injEq, Prod.mk.injEq] at H
   obtain ⟨rfl, rfl, rfl⟩ := H
   go_enter Try.func24, Try.ntmps24
   go_wp2_with (first | ((with_reducible refine gate_callee (f := 36) rfl ?_); refine goesL_ (some 9) rfl rfl Try.func36 (by kernel_rfl) rfl #[.string a0] rfl (by (try simp only [List.map_toArray, List.map_cons, List.map_nil]); first | done | rfl | (simp only [List.length_drop, List.length_take]; rfl)) ?_; (with_reducible refine (spec_l01Is.calls k a0 true _ A2.out).mono ?_); rintro e w' ⟨rfl, ⟨nd, rfl⟩⟩; refine ⟨_, rfl, ?_⟩) | ((with_reducible refine gate_callee (f := 38) rfl ?_); refine goesL_ (some 13) rfl rfl Try.func38 (by kernel_rfl) rfl #[.string a0, .int .i64 0] rfl (by (try simp only [List.map_toArray, List.map_cons, List.map_nil]); first | done | rfl | (simp only [List.length_drop, List.length_take]; rfl)) ?_; (with_reducible refine (spec_l03First.calls k a0 0 t443 t444 true _ A4.out).mono ?_); rintro e w6 ⟨rfl, hb⟩; refine ⟨_, rfl, ?_⟩; have n0_ := Aside0.mk (below_step (by repeat (first | (with_reducible first | exact HB.out | apply below_alloc | apply pw_below_drewN | apply below_drew1) | exact HB.out)) hb); clear HB; have HB := n0_; clear n0_; (try clear hb); (try clear hb2); (try clear hk); (try clear hi)))
   go_ret3
   exact ⟨by first | rfl | (simp [errW_none, errW_some] <;> rfl) | (simp [*, errW_none, errW_some] <;> rfl), by repeat (first | (with_reducible first | exact HB.out | apply below_alloc | apply pw_below_drewN | apply below_drew1) | exact HB.out)⟩
  ·replace c5 := Bool.eq_false_iff.mpr c5
   subst c5
   have H1 : (some (0, 0, 4)) = some (r1, r2, r3) := by rw [if_neg (show ¬ (false = true) by decide)] at H; exact H
   clear H
   have H := H1
   clear H1
   simp only [Option.some.injEq, Prod.mk.injEq] at H
   obtain ⟨rfl, rfl, rfl⟩ := H
   go_enter Try.func24, Try.ntmps24
   go_wp2_with (first | ((with_reducible refine gate_callee (f := 36) rfl ?_); refine goesL_ (some 9) rfl rfl Try.func36 (by kernel_rfl) rfl #[.string a0] rfl (by (try simp only [List.map_toArray, List.map_cons, List.map_nil]); first | done | rfl | (simp only [List.length_drop, List.length_take]; rfl)) ?_; (with_reducible refine (spec_l01Is.calls k a0 true _ A2.out).mono ?_); rintro e w' ⟨rfl, ⟨nd, rfl⟩⟩; refine ⟨_, rfl, ?_⟩) | ((with_reducible refine gate_callee (f := 38) rfl ?_); refine goesL_ (some 13) rfl rfl Try.func38 (by kernel_rfl) rfl #[.string a0, .int .i64 0] rfl (by (try simp only [List.map_toArray, List.map_cons, List.map_nil]); first | done | rfl | (simp only [List.length_drop, List.length_take]; rfl)) ?_; (with_reducible refine (spec_l03First.calls k a0 0 t443 t444 false _ A4.out).mono ?_); rintro e w7 ⟨rfl, hb⟩; refine ⟨_, rfl, ?_⟩; have n0_ := Aside0.mk (below_step (by repeat (first | (with_reducible first | exact HB.out | apply below_alloc | apply pw_below_drewN | apply below_drew1) | exact HB.out)) hb); clear HB; have HB := n0_; clear n0_; (try clear hb); (try clear hb2); (try clear hk); (try clear hi)))
   go_ret3
   exact ⟨by first | rfl | (simp [errW_none, errW_some] <;> rfl) | (simp [*, errW_none, errW_some] <;> rfl), by repeat (first | (with_reducible first | exact HB.out | apply below_alloc | apply pw_below_drewN | apply below_drew1) | exact HB.out)⟩
 ·replace c3 := Bool.eq_false_iff.mpr c3
  subst c3
  have H1 : (some (0, 0, 1)) = some (r1, r2, r3) := by rw [if_neg (show ¬ (false = true) by decide)] at H; exact H
  clear H
  have H := H1
  clear H1
  simp only [Option.some.injEq, Prod.mk.injEq] at H
  obtain ⟨rfl, rfl, rfl⟩ := H
  go_enter Try.func24, Try.ntmps24
  go_wp2_with (first | ((with_reducible refine gate_callee (f := 36) rfl ?_); refine goesL_ (some 9) rfl rfl Try.func36 (by kernel_rfl) rfl #[.string a0] rfl (by (try simp only [List.map_toArray, List.map_cons, List.map_nil]); first | done | rfl | (simp only [List.length_drop, List.length_take]; rfl)) ?_; (with_reducible refine (spec_l01Is.calls k a0 false _ A2.out).mono ?_); rintro e w' ⟨rfl, ⟨nd, rfl⟩⟩; refine ⟨_, rfl, ?_⟩))
  go_ret3
  exact ⟨by first | rfl | (simp [errW_none, errW_some] <;> rfl) | (simp [*, errW_none, errW_some] <;> rfl), by repeat (first | (with_reducible first | exact HB.out | apply below_alloc | apply pw_below_drewN | apply below_drew1) | exact HB.out)⟩

end Go.Proofs.Yteakipdmpjlhiaa.Q

namespace Go.Proofs.Yteakipdmpjlhiaa.Q
open Go.RowKit Go.Proofs.YteakipdmpjlhiaaW.PrintWords Go.Proofs.YteakipdmpjlhiaaW.PrintLast Go.Proofs.YteakipdmpjlhiaaW.PrintMore
attribute [local go_sem] max2_int min2_int max_two min_two max_three min_three max_four min_four bn_leq bn_gtr bn_geq   -- for this text's walks alone
set_option linter.unusedVariables false
set_option linter.unusedSimpArgs false

/-! ### spec_IsSquareFree: function 25 -/
def spec_IsSquareFree.f (k : Nat) (a0 : ByteArray) : Option (Bool × Int) := (spec_l01Is.f k a0).bind fun t446 => (if t446 = true then ((spec_l03First.f k a0 0).bind fun bt447 => (some (!bt447.2.2, 0))) else (some (false, 1)))
set_option maxHeartbeats 8000000 in
set_option maxRecDepth 100000 in
theorem spec_IsSquareFree.calls (k : Nat) (a0 : ByteArray) (r1 : Bool) (r2 : Int) (w : World) (h : spec_IsSquareFree.f k a0 = some (r1, r2)) :
  Calls Try.prog 25 #[.string a0] w fun e w' => e = .returned (.tuple #[.bool r1, .int .i64 r2]) ∧ Below w.heap.size w w' := by
 have HB := Aside0.mk (Below.refl w.heap.size w)
 have H : ((spec_l01Is.f k a0).bind fun t446 => (if t446 = true then ((spec_l03First.f k a0 0).bind fun bt447 => (some (!bt447.2.2, 0))) else (some (false, 1)))) = some (r1, r2) := h
 clear h
 replace H := Option.bind_eq_some_iff.mp H
 obtain ⟨t446, A20, H⟩ := H
 replace H : (if t446 = true then ((spec_l03First.f k a0 0).bind fun bt447 => (some (!bt447.2.2, 0))) else (some (false, 1))) = some (r1, r2) := H
 have A2 := Aside0.mk A20
 clear A20
 by_cases c3 : t446 = true
 ·subst c3
  have H1 : ((spec_l03First.f k a0 0).bind fun bt447 => (some (!bt447.2.2, 0))) = some (r1, r2) := by rw [if_pos rfl] at H; exact H
  clear H
  have H := H1
  clear H1
  replace H := Option.bind_eq_some_iff.mp H
  obtain ⟨⟨t447, t448, t449⟩, A40, H⟩ := H
  replace H : (some (!t449, 0)) = some (r1, r2) := H
  have A4 := Aside0.mk A40
  clear A40
  simp only [Option.some.injEq, Prod.mk.injEq] at H
  obtain ⟨rfl, rfl⟩ := H
  go_enter Try.func25, Try.ntmps25
  go_wp2_with (first | ((with_reducible refine gate_callee (f := 36) rfl ?_); refine goesL_ (some 8) rfl rfl Try.func36 (by kernel_rfl) rfl #[.string a0] rfl (by (try simp only [List.map_toArray, List.map_cons, List.map_nil]); first | done | rfl | (simp only [List.length_drop, List.length_take]; rfl)) ?_; (with_reducible refine (spec_l01Is.calls k a0 true _ A2.out).mono ?_); rintro e w' ⟨rfl, ⟨nd, rfl⟩⟩; refine ⟨_, rfl, ?_⟩) | ((with_reducible refine gate_callee (f := 38) rfl ?_); refine goesL_ (some 12) rfl rfl Try.func38 (by kernel_rfl) rfl #[.string a0, .int .i64 0] rfl (by (try simp only [List.map_toArray, List.map_cons, List.map_nil]); first | done | rfl | (simp only [List.length_drop, List.length_take]; rfl)) ?_; (with_reducible refine (spec_l03First.calls k a0 0 t447 t448 t449 _ A4.out).mono ?_); rintro e w5 ⟨rfl, hb⟩; refine ⟨_, rfl, ?_⟩; have n0_ := Aside0.mk (below_step (by repeat (first | (with_reducible first | exact HB.out | apply below_alloc | apply pw_below_drewN | apply below_drew1) | exact HB.out)) hb); clear HB; have HB := n0_; clear n0_; (try clear hb); (try clear hb2); (try clear hk); (try clear hi)))
  go_ret2
  exact ⟨by first | rfl | (simp [errW_none, errW_some] <;> rfl) | (simp [*, errW_none, errW_some] <;> rfl), by repeat (first | (with_reducible first | exact HB.out | apply below_alloc | apply pw_below_drewN | apply below_drew1) | exact HB.out)⟩
 ·replace c3 := Bool.eq_false_iff.mpr c3
  subst c3
  have H1 : (some (false, 1)) = some (r1, r2) := by rw [if_neg (show ¬ (false = true) by decide)] at H; exact H
  clear H
  have H := H1
  clear H1
  simp only [Option.some.injEq, Prod.mk.injEq] at H
  obtain ⟨rfl, rfl⟩ := H
  go_enter Try.func25, Try.ntmps25
  go_wp2_with (first | ((with_reducible refine gate_callee (f := 36) rfl ?_); refine goesL_ (some 8) rfl rfl Try.func36 (by kernel_rfl) rfl #[.string a0] rfl (by (try simp only [List.map_toArray, List.map_cons, List.map_nil]); first | done | rfl | (simp only [List.length_drop, List.length_take]; rfl)) ?_; (with_reducible refine (spec_l01Is.calls k a0 false _ A2.out).mono ?_); rintro e w' ⟨rfl, ⟨nd, rfl⟩⟩; refine ⟨_, rfl, ?_⟩))
  go_ret2
  exact ⟨by first | rfl | (simp [errW_none, errW_some] <;> rfl) | (simp [*, errW_none, errW_some] <;> rfl), by repeat (first | (with_reducible first | exact HB.out | apply below_alloc | apply pw_below_drewN | apply below_drew1) | exact HB.out)⟩

end Go.Proofs.Yteakipdmpjlhiaa.Q

namespace Go.Proofs.Yteakipdmpjlhiaa.Q
open Go.RowKit Go.Proofs.YteakipdmpjlhiaaW.PrintWords Go.Proofs.YteakipdmpjlhiaaW.PrintLast Go.Proofs.YteakipdmpjlhiaaW.PrintMore
attribute [local go_sem] max2_int min2_int max_two min_two max_three min_three max_four min_four bn_leq bn_gtr bn_geq   -- for this text's walks alone
set_option linter.unusedVariables false
set_option linter.unusedSimpArgs false

/-! ### spec_l03Powers: function 75 -/
mutual
def spec_l03Powers.l0 : Nat → ByteArray → Int → List (List Int) → Int → Int → Option ((List (List Int)))
 | 0, _, _, _, _, _ => none
 | k + 1, x0, x1, x5, x6, x7 => if x7 < x6 then (spec_l03Powers.l1 k x0 x1 x5 x6 x7 1) else (some x5)
def spec_l03Powers.l1 : Nat → ByteArray → Int → List (List Int) → Int → Int → Int → Option ((List (List Int)))
 | 0, _, _, _, _, _, _ => none
 | k + 1, x0, x1, x5, x6, x7, x8 => if (wrap64 (x7 + (wrap64 (x8 * x1)))) ≤ x6 then ((spec_l03Power.f k x0 x7 x8 x1).bind fun t453 => (if t453 = true then (if x5.length < 5864062014805 then (spec_l03Powers.l1 k x0 x1 (x5 ++ [(([x7, x8] : List Int))]) x6 x7 (wrap64 (x8 + 1))) else (none)) else (spec_l03Powers.l1 k x0 x1 x5 x6 x7 (wrap64 (x8 + 1))))) else (spec_l03Powers.l0 k x0 x1 x5 x6 (wrap64 (x7 + 1)))
end
def spec_l03Powers.f (k : Nat) (a0 : ByteArray) (a1 : Int) : Option ((List (List Int))) := spec_l03Powers.l0 k a0 a1 (([] : List (List Int))) (a0.size : Int) 0
set_option maxHeartbeats 8000000 in
set_option maxRecDepth 100000 in
theorem spec_l03Powers.calls (k : Nat) (a0 : ByteArray) (a1 : Int) (r : List (List Int)) (w : World) (h : spec_l03Powers.f k a0 a1 = some r) :
  Calls Try.prog 75 #[.string a0, .int .i64 a1] w fun e w' => ∃ v0_ : Value, e = .returned (v0_) ∧ Kd.S (Kd.slice 2 (Kd.int .i64)) 26 w' w.heap.size (fun _ => True) v0_ r ∧ Below w.heap.size w w' := by
 have HB := Aside0.mk (Below.refl w.heap.size w)
 have H : (spec_l03Powers.l0 k a0 a1 (([] : List (List Int))) (a0.size : Int) 0) = some r := h
 clear h
 obtain ⟨y450, hy450⟩ : ∃ y_ : List (List Int), y_ = (([] : List (List Int))) := ⟨_, rfl⟩
 replace H : (spec_l03Powers.l0 k a0 a1 y450 (a0.size : Int) 0) = some r := by first | (rw [hy450]; with_reducible exact H) | (have H2_ := (Option.bind_some _ _).symm.trans H; rw [hy450]; with_reducible exact H2_) | (have H2_ := (Option.bind_some _ _).symm.trans H; with_reducible exact H2_) | with_reducible exact H | (rw [hy450]; exact H) | exact H
 have Ny450 := Aside0.mk hy450
 clear hy450
 have H' := Aside0.mk H
 clear H
 go_enter Try.func75, Try.ntmps75
 go_wp2_with (first | ((with_reducible refine gate_dst (N := 9) rfl ?_); refine Kd.S_lit (Kd.slice 2 (Kd.int .i64)) _ 26 ?hg (N := 9) ?hd (xs := ([] : List (List Int))) (inner := []) (ok := fun _ => True) (okp := fun _ => True) ?hr ?hp (fun _ hk => hk) trivial (Below.refl _ _) (Nat.le_refl _) (by simp) ?_; (case hd => rfl); (case hg => rfl); (case hr => first | (go_simp; done) | (go_simp; rfl)); (case hp => exact (Reps.none _ _)); intro v451 w3 ho4 hb hg_ hnew_; clear hg_ hnew_; (first | rw [← Ny450.out] at ho4 | (simp only [Int.reduceToNat] at ho4; rw [← Ny450.out] at ho4)); have n0_ := Aside0.mk (Kd.S_lower ho4 (below_size (by repeat (first | (with_reducible first | exact HB.out | apply below_alloc | apply pw_below_drewN | apply below_drew1) | exact HB.out)))); have n1_ := Aside0.mk (below_step (by repeat (first | (with_reducible first | exact HB.out | apply below_alloc | apply pw_below_drewN | apply below_drew1) | exact HB.out)) hb); clear HB; have HO452 := n0_; have HB := n1_; clear n0_ n1_; clear hb ho4))
 go_loopg [5, 7] k (fun kq v5 v7 w' => ∃ (x5_1 : List (List Int)) (x7_1 : Int), v7 = .int .i64 x7_1 ∧ Aside0 (spec_l03Powers.l0 kq a0 a1 x5_1 (a0.size : Int) x7_1 = some r) ∧ Aside0 (kq ≤ k) ∧ Aside0 (Kd.S (Kd.slice 2 (Kd.int .i64)) 26 w' w.heap.size (fun _ => True) v5 x5_1) ∧ Aside0 (Below w.heap.size w w'))
 case atStart => exact ⟨(y450), (0), (by first | rfl | (simp; done) | (simp [*]; done)), H', ⟨Nat.le_refl _⟩, ⟨by (with_reducible repeat (first | apply Kd.S_alloc | apply Kd.S_drewN | apply Kd.S_drew)); exact HO452.out⟩, ⟨by repeat (first | (with_reducible first | exact HB.out | apply below_alloc | apply pw_below_drewN | apply below_drew1) | exact HB.out)⟩⟩
 case round =>
  clear H'
  try clear p2
  obtain ⟨x5_1, x7_1, rfl, HA, HK1, HO_5, HB⟩ := hrel
  cases gk with
  | zero => exact absurd HA.out (by simp [spec_l03Powers.l0])
  | succ k1 =>
   have H := HA.out
   clear HA
   simp only [spec_l03Powers.l0] at H
   by_cases c5 : x7_1 < (a0.size : Int)
   ·rw [if_pos c5] at H
    have c5b0 : decide (x7_1 < (a0.size : Int)) = true := decide_eq_true c5
    clear c5
    have H' := Aside0.mk H
    clear H
    go_wp2
    go_loopg [5, 8] k1 (fun kq v5 v8 w' => ∃ (x5_2 : List (List Int)) (x8_2 : Int), v8 = .int .i64 x8_2 ∧ Aside0 (spec_l03Powers.l1 kq a0 a1 x5_2 (a0.size : Int) x7_1 x8_2 = some r) ∧ Aside0 (kq ≤ k1) ∧ Aside0 (Kd.S (Kd.slice 2 (Kd.int .i64)) 26 w' w.heap.size (fun _ => True) v5 x5_2) ∧ Aside0 (Below w.heap.size w w'))
    case atStart => exact ⟨(x5_1), (1), (by first | rfl | (simp; done) | (simp [*]; done)), H', ⟨Nat.le_refl _⟩, ⟨by (with_reducible repeat (first | apply Kd.S_alloc | apply Kd.S_drewN | apply Kd.S_drew)); exact HO_5.out⟩, ⟨by repeat (first | (with_reducible first | exact HB.out | apply below_alloc | apply pw_below_drewN | apply below_drew1) | exact HB.out)⟩⟩
    case round =>
     clear H'
     try clear p2
     try clear c5
     try clear c5b0
     try clear p2
     obtain ⟨x5_2, x8_2, rfl, HA, HK2, HO_5, HB⟩ := hrel
     cases gk with
     | zero => exact absurd HA.out (by simp [spec_l03Powers.l1])
     | succ k2 =>
      have H := HA.out
      clear HA
      simp only [spec_l03Powers.l1] at H
      by_cases c6 : (wrap64 (x7_1 + (wrap64 (x8_2 * a1)))) ≤ (a0.size : Int)
      ·rw [if_pos c6] at H
       have c6b0 : decide ((wrap64 (x7_1 + (wrap64 (x8_2 * a1)))) ≤ (a0.size : Int)) = true := decide_eq_true c6
       clear c6
       replace H := Option.bind_eq_some_iff.mp H
       obtain ⟨t453, A70, H⟩ := H
       replace H : (if t453 = true then (if x5_2.length < 5864062014805 then (spec_l03Powers.l1 k2 a0 a1 (x5_2 ++ [(([x7_1, x8_2] : List Int))]) (a0.size : Int) x7_1 (wrap64 (x8_2 + 1))) else (none)) else (spec_l03Powers.l1 k2 a0 a1 x5_2 (a0.size : Int) x7_1 (wrap64 (x8_2 + 1)))) = some r := H
       have A7 := Aside0.mk A70
       clear A70
       by_cases c8 : t453 = true
       ·subst c8
        have H1 : (if x5_2.length < 5864062014805 then (spec_l03Powers.l1 k2 a0 a1 (x5_2 ++ [(([x7_1, x8_2] : List Int))]) (a0.size : Int) x7_1 (wrap64 (x8_2 + 1))) else (none)) = some r := by rw [if_pos rfl] at H; exact H
        clear H
        have H := H1
        clear H1
        obtain ⟨y454, hy454⟩ : ∃ y_ : List Int, y_ = (([x7_1, x8_2] : List Int)) := ⟨_, rfl⟩
        replace H : (if x5_2.length < 5864062014805 then (spec_l03Powers.l1 k2 a0 a1 (x5_2 ++ [y454]) (a0.size : Int) x7_1 (wrap64 (x8_2 + 1))) else (none)) = some r := by first | (rw [hy454]; with_reducible exact H) | (have H2_ := (Option.bind_some _ _).symm.trans H; rw [hy454]; with_reducible exact H2_) | (have H2_ := (Option.bind_some _ _).symm.trans H; with_reducible exact H2_) | with_reducible exact H | (rw [hy454]; exact H) | exact H
        have Ny454 := Aside0.mk hy454
        clear hy454
        by_cases c9 : x5_2.length < 5864062014805
        ·rw [if_pos c9] at H
         have LMc9 := Aside0.mk c9
         clear c9
         obtain ⟨y457, hy457⟩ : ∃ y_ : List (List Int), y_ = (x5_2 ++ [y454]) := ⟨_, rfl⟩
         replace H : (spec_l03Powers.l1 k2 a0 a1 y457 (a0.size : Int) x7_1 (wrap64 (x8_2 + 1))) = some r := by first | (rw [hy457]; with_reducible exact H) | (have H2_ := (Option.bind_some _ _).symm.trans H; rw [hy457]; with_reducible exact H2_) | (have H2_ := (Option.bind_some _ _).symm.trans H; with_reducible exact H2_) | with_reducible exact H | (rw [hy457]; exact H) | exact H
         have Ny457 := Aside0.mk hy457
         clear hy457
         have H' := Aside0.mk H
         clear H
         go_wp2_with (first | ((with_reducible refine gate_callee (f := 67) rfl ?_); refine goesL_ (some 30) rfl rfl Try.func67 (by kernel_rfl) rfl #[.string a0, .int .i64 x7_1, .int .i64 x8_2, .int .i64 a1] rfl (by (try simp only [List.map_toArray, List.map_cons, List.map_nil]); first | done | rfl | (simp only [List.length_drop, List.length_take]; rfl)) ?_; (with_reducible refine (spec_l03Power.calls k2 a0 x7_1 x8_2 a1 true _ A7.out).mono ?_); rintro e w' ⟨rfl, ⟨nd, rfl⟩⟩; refine ⟨_, rfl, ?_⟩) | ((with_reducible refine gate_dst (N := 34) rfl ?_); refine Kd.R_lit (Kd.int .i64) _ 2 ?hg (N := 34) ?hd (xs := ([x7_1, x8_2] : List Int)) (inner := [.int .i64 x7_1, .int .i64 x8_2]) (ok := fun _ => True) (okp := fun _ => True) ?hr ?hp (fun _ hk => hk) trivial (Below.refl _ _) (Nat.le_refl _) (by simp) ?_; (case hd => rfl); (case hg => rfl); (case hr => first | (go_simp; done) | (go_simp; rfl)); (case hp => exact (Reps.one (show Kd.M (Kd.int .i64) _ _ _ x7_1 [.int .i64 x7_1] from rfl) (Reps.one (show Kd.M (Kd.int .i64) _ _ _ x8_2 [.int .i64 x8_2] from rfl) (Reps.none _ _)))); intro v455 w10 ho11 hb hg_ hnew_; clear hg_ hnew_; (first | rw [← Ny454.out] at ho11 | (simp only [Int.reduceToNat] at ho11; rw [← Ny454.out] at ho11)); have n0_ := Aside0.mk (Kd.S_elder' (by (with_reducible repeat (first | apply Kd.S_alloc | apply Kd.S_drewN | apply Kd.S_drew)); exact HO_5.out) (Kd.R_base ho11) hb); have n1_ := Aside0.mk (Kd.R_lower ho11 (below_size (by repeat (first | (with_reducible first | exact HB.out | apply below_alloc | apply pw_below_drewN | apply below_drew1) | exact HB.out)))); have n2_ := Aside0.mk (below_step (by repeat (first | (with_reducible first | exact HB.out | apply below_alloc | apply pw_below_drewN | apply below_drew1) | exact HB.out)) hb); clear HO_5; clear HB; have HO_5 := n0_; have HO456 := n1_; have HB := n2_; clear n0_ n1_ n2_; clear hb ho11; obtain ⟨Ao13, co13, eo13⟩ := Kd.R_slice HO456.out; subst eo13) | ((with_reducible refine gate_builtin (b := .append) (xs := #[.tmp 31, .tmp 35]) rfl ?_); at_builtin; refine Kd.S_append (Kd.slice 2 (Kd.int .i64)) (w0 := w) w.heap.size rfl (.tmp 31) (.tmp 35) 56 26 (.slice none 0 0) 24 rfl Try.underlying56 info26 rfl (by decide) (by omega) u5 x5_2 y454 [.slice Ao13 y454.length co13] (fun _ => True) (fun k_ => some k_ = (.slice Ao13 y454.length co13 : Value).ownBlock) rfl rfl ?aP (fun k_ hk_ => ((Kd.R_mono (ok' := fun k_ => ((fun _ => True)) k_ ∧ some k_ ≠ (u5 : Value).ownBlock) (Kd.R_apart' (HO456.out) (Kd.S_typed HO_5.out) (by decide)) (fun k_ hk => ⟨trivial, hk.2⟩))).1 k_ hk_.symm) ?aF ?aO ?aB ?aS ?aL ?_; (case aP => exact Kd.M_row (Kd.R_mono (Kd.R_tight rfl (Kd.R_mono (ok' := fun k_ => ((fun _ => True)) k_ ∧ some k_ ≠ (u5 : Value).ownBlock) (Kd.R_apart' (HO456.out) (Kd.S_typed HO_5.out) (by decide)) (fun k_ hk => ⟨trivial, hk.2⟩))) (fun _ h_ => h_))); (case aB => exact (by repeat (first | (with_reducible first | exact HB.out | apply below_alloc | apply pw_below_drewN | apply below_drew1) | exact HB.out))); (case aF => exact (fun _ _ => trivial)); (case aO => exact (by (with_reducible repeat (first | apply Kd.S_alloc | apply Kd.S_drewN | apply Kd.S_drew)); exact Kd.S_mono HO_5.out (fun k_ hk => ⟨trivial, fun e_ => hk.2 e_⟩))); (case aS => exact (below_size (by repeat (first | (with_reducible first | exact HB.out | apply below_alloc | apply pw_below_drewN | apply below_drew1) | exact HB.out)))); (case aL => have := LMc9.out; omega); intro v458 w12 ho hb hg hat; rw [← Ny457.out] at ho; have n0_ := Aside0.mk (hb); have n1_ := Aside0.mk (ho); clear HB; clear HO_5; clear HO456; have HB := n0_; have HO459 := n1_; clear n0_ n1_; clear ho hb hg hat))
         go_roundg k2
         case measure => have := HK1.out; have := HK2.out; omega
         case rel => exact ⟨(y457), (wrap64 (x8_2 + 1)), (by first | rfl | (simp; done) | (simp [*]; done)), H', ⟨by have := HK1.out; have := HK2.out; omega⟩, ⟨by (with_reducible repeat (first | apply Kd.S_alloc | apply Kd.S_drewN | apply Kd.S_drew)); exact HO459.out⟩, ⟨by repeat (first | (with_reducible first | exact HB.out | apply below_alloc | apply pw_below_drewN | apply below_drew1) | exact HB.out)⟩⟩
        ·rw [if_neg c9] at H
         exact absurd H (by simp)
       ·replace c8 := Bool.eq_false_iff.mpr c8
        subst c8
        have H1 : (spec_l03Powers.l1 k2 a0 a1 x5_2 (a0.size : Int) x7_1 (wrap64 (x8_2 + 1))) = some r := by rw [if_neg (show ¬ (false = true) by decide)] at H; exact H
        clear H
        have H := H1
        clear H1
        have H' := Aside0.mk H
        clear H
        go_wp2_with (first | ((with_reducible refine gate_callee (f := 67) rfl ?_); refine goesL_ (some 30) rfl rfl Try.func67 (by kernel_rfl) rfl #[.string a0, .int .i64 x7_1, .int .i64 x8_2, .int .i64 a1] rfl (by (try simp only [List.map_toArray, List.map_cons, List.map_nil]); first | done | rfl | (simp only [List.length_drop, List.length_take]; rfl)) ?_; (with_reducible refine (spec_l03Power.calls k2 a0 x7_1 x8_2 a1 false _ A7.out).mono ?_); rintro e w' ⟨rfl, ⟨nd, rfl⟩⟩; refine ⟨_, rfl, ?_⟩))
        go_roundg k2
        case measure => have := HK1.out; have := HK2.out; omega
        case rel => exact ⟨(x5_2), (wrap64 (x8_2 + 1)), (by first | rfl | (simp; done) | (simp [*]; done)), H', ⟨by have := HK1.out; have := HK2.out; omega⟩, ⟨by (with_reducible repeat (first | apply Kd.S_alloc | apply Kd.S_drewN | apply Kd.S_drew)); exact HO_5.out⟩, ⟨by repeat (first | (with_reducible first | exact HB.out | apply below_alloc | apply pw_below_drewN | apply below_drew1) | exact HB.out)⟩⟩
      ·rw [if_neg c6] at H
       have c6b0 : decide ((wrap64 (x7_1 + (wrap64 (x8_2 * a1)))) ≤ (a0.size : Int)) = false := decide_eq_false c6
       clear c6
       have H' := Aside0.mk H
       clear H
       go_wp2
       go_roundg k2
       case measure => have := HK1.out; have := HK2.out; omega
       case rel => exact ⟨(x5_2), (wrap64 (x7_1 + 1)), (by first | rfl | (simp; done) | (simp [*]; done)), H', ⟨by have := HK1.out; have := HK2.out; omega⟩, ⟨by (with_reducible repeat (first | apply Kd.S_alloc | apply Kd.S_drewN | apply Kd.S_drew)); exact HO_5.out⟩, ⟨by repeat (first | (with_reducible first | exact HB.out | apply below_alloc | apply pw_below_drewN | apply below_drew1) | exact HB.out)⟩⟩
   ·rw [if_neg c5] at H
    have c5b0 : decide (x7_1 < (a0.size : Int)) = false := decide_eq_false c5
    clear c5
    obtain rfl := Option.some.inj H
    go_wp2
    go_ret
    exact ⟨_, by first | rfl | (simp [errW_none, errW_some] <;> rfl) | (simp [*, errW_none, errW_some] <;> rfl), by (with_reducible repeat (first | apply Kd.S_alloc | apply Kd.S_drewN | apply Kd.S_drew)); exact HO_5.out, by repeat (first | (with_reducible first | exact HB.out | apply below_alloc | apply pw_below_drewN | apply below_drew1) | exact HB.out)⟩

end Go.Proofs.Yteakipdmpjlhiaa.Q

namespace Go.Proofs.Yteakipdmpjlhiaa.Q
open Go.RowKit Go.Proofs.YteakipdmpjlhiaaW.PrintWords Go.Proofs.YteakipdmpjlhiaaW.PrintLast Go.Proofs.YteakipdmpjlhiaaW.PrintMore
attribute [local go_sem] max2_int min2_int max_two min_two max_three min_three max_four min_four bn_leq bn_gtr bn_geq   -- for this text's walks alone
set_option linter.unusedVariables false
set_option linter.unusedSimpArgs false

/-! ### spec_l03Overlaps: function 60 -/
def spec_l03Overlaps.l0 : Nat → ByteArray → List (List Int) → List (List Int) → Int → Option ((List (List Int)))
  | 0, _, _, _, _ => none
  | k + 1, x0, x3, x4, x5 => if x5 < (x3.length : Int) then (if 0 ≤ x5 then (if 0 < ((rd_L5 x3 x5).length : Int) then (if 1 < ((rd_L5 x3 x5).length : Int) then (if (wrap64 ((rd (rd_L5 x3 x5) 0) + (wrap64 (2 * (rd (rd_L5 x3 x5) 1))))) < (x0.size : Int) then (if 0 ≤ (wrap64 ((rd (rd_L5 x3 x5) 0) + (wrap64 (2 * (rd (rd_L5 x3 x5) 1))))) then (if 0 ≤ (rd (rd_L5 x3 x5) 0) then (if (rd (rd_L5 x3 x5) 0) < (x0.size : Int) then (if (bt x0 (wrap64 ((rd (rd_L5 x3 x5) 0) + (wrap64 (2 * (rd (rd_L5 x3 x5) 1)))))) = (bt x0 (rd (rd_L5 x3 x5) 0)) then (if x4.length < 5864062014805 then (spec_l03Overlaps.l0 k x0 x3 (x4 ++ [(([rd (rd_L5 x3 x5) 0, rd (rd_L5 x3 x5) 1] : List Int))]) (wrap64 (x5 + 1))) else (none)) else (spec_l03Overlaps.l0 k x0 x3 x4 (wrap64 (x5 + 1)))) else (none)) else (none)) else (none)) else (spec_l03Overlaps.l0 k x0 x3 x4 (wrap64 (x5 + 1)))) else (none)) else (none)) else (none)) else (some x4)
def spec_l03Overlaps.f (k : Nat) (a0 : ByteArray) : Option ((List (List Int))) := (spec_l03Powers.f k a0 2).bind fun t460 => (spec_l03Overlaps.l0 k a0 t460 (([] : List (List Int))) 0)
set_option maxHeartbeats 8000000 in
set_option maxRecDepth 100000 in
theorem spec_l03Overlaps.calls (k : Nat) (a0 : ByteArray) (r : List (List Int)) (w : World) (h : spec_l03Overlaps.f k a0 = some r) :
    Calls Try.prog 60 #[.string a0] w fun e w' => ∃ v0_ : Value, e = .returned (v0_) ∧ Kd.S (Kd.slice 2 (Kd.int .i64)) 26 w' w.heap.size (fun _ => True) v0_ r ∧ Below w.heap.size w w' := by
  have HB := Aside0.mk (Below.refl w.heap.size w)
  have H : ((spec_l03Powers.f k a0 2).bind fun t460 => (spec_l03Overlaps.l0 k a0 t460 (([] : List (List Int))) 0)) = some r := h
  clear h
  replace H := Option.bind_eq_some_iff.mp H
  obtain ⟨t460, A20, H⟩ := H
  replace H : (spec_l03Overlaps.l0 k a0 t460 (([] : List (List Int))) 0) = some r := H
  have A2 := Aside0.mk A20
  clear A20
  obtain ⟨y463, hy463⟩ : ∃ y_ : List (List Int), y_ = (([] : List (List Int))) := ⟨_, rfl⟩
  replace H : (spec_l03Overlaps.l0 k a0 t460 y463 0) = some r := by first | (rw [hy463]; with_reducible exact H) | (have H2_ := (Option.bind_some _ _).symm.trans H; rw [hy463]; with_reducible exact H2_) | (have H2_ := (Option.bind_some _ _).symm.trans H; with_reducible exact H2_) | with_reducible exact H | (rw [hy463]; exact H) | exact H
  have Ny463 := Aside0.mk hy463
  clear hy463
  have H' := Aside0.mk H
  clear H
  go_enter Try.func60, Try.ntmps60
  go_wp2_with (first | (go_at_call 75; (with_reducible refine (spec_l03Powers.calls k a0 2 t460 _ A2.out).mono ?_); rintro e w3 ⟨v461, rfl, ho0, hb⟩; have n0_ := Aside0.mk (Kd.S_lower ho0 (below_size (by repeat (first | (with_reducible first | exact HB.out | apply below_alloc | apply pw_below_drewN | apply below_drew1) | exact HB.out)))); have n1_ := Aside0.mk (below_step (by repeat (first | (with_reducible first | exact HB.out | apply below_alloc | apply pw_below_drewN | apply below_drew1) | exact HB.out)) hb); clear HB; have HO462 := n0_; have HB := n1_; clear n0_ n1_; (try clear hb); (try clear hb2); (try clear hk); (try clear hi); (try clear ho0)) | ((with_reducible refine gate_dst (N := 10) rfl ?_); refine Kd.S_lit (Kd.slice 2 (Kd.int .i64)) _ 26 ?hg (N := 10) ?hd (xs := ([] : List (List Int))) (inner := []) (ok := fun _ => True) (okp := fun _ => True) ?hr ?hp (fun _ hk => hk) trivial (Below.refl _ _) (Nat.le_refl _) (by simp) ?_; (case hd => rfl); (case hg => rfl); (case hr => first | (go_simp; done) | (go_simp; rfl)); (case hp => exact (Reps.none _ _)); intro v464 w4 ho5 hb hg_ hnew_; clear hg_ hnew_; (first | rw [← Ny463.out] at ho5 | (simp only [Int.reduceToNat] at ho5; rw [← Ny463.out] at ho5)); have n0_ := Aside0.mk (Kd.S_elder' (by (with_reducible repeat (first | apply Kd.S_alloc | apply Kd.S_drewN | apply Kd.S_drew)); exact HO462.out) (Kd.S_base ho5) hb); have n1_ := Aside0.mk (Kd.S_lower (Kd.S_new' ho5 (Kd.S_lt (by (with_reducible repeat (first | apply Kd.S_alloc | apply Kd.S_drewN | apply Kd.S_drew)); exact HO462.out))) (below_size (by repeat (first | (with_reducible first | exact HB.out | apply below_alloc | apply pw_below_drewN | apply below_drew1) | exact HB.out)))); have n2_ := Aside0.mk (below_step (by repeat (first | (with_reducible first | exact HB.out | apply below_alloc | apply pw_below_drewN | apply below_drew1) | exact HB.out)) hb); clear HO462; clear HB; have HO462 := n0_; have HO465 := n1_; have HB := n2_; clear n0_ n1_ n2_; clear hb ho5))
  repeat (go_quiet (first | (go_at_call 75; (with_reducible refine (spec_l03Powers.calls k a0 2 t460 _ A2.out).mono ?_); rintro e w3 ⟨v461, rfl, ho0, hb⟩; have n0_ := Aside0.mk (Kd.S_lower ho0 (below_size (by repeat (first | (with_reducible first | exact HB.out | apply below_alloc | apply pw_below_drewN | apply below_drew1) | exact HB.out)))); have n1_ := Aside0.mk (below_step (by repeat (first | (with_reducible first | exact HB.out | apply below_alloc | apply pw_below_drewN | apply below_drew1) | exact HB.out)) hb); clear HB; have HO462 := n0_; have HB := n1_; clear n0_ n1_; (try clear hb); (try clear hb2); (try clear hk); (try clear hi); (try clear ho0)) | ((with_reducible refine gate_dst (N := 10) rfl ?_); refine Kd.S_lit (Kd.slice 2 (Kd.int .i64)) _ 26 ?hg (N := 10) ?hd (xs := ([] : List (List Int))) (inner := []) (ok := fun _ => True) (okp := fun _ => True) ?hr ?hp (fun _ hk => hk) trivial (Below.refl _ _) (Nat.le_refl _) (by simp) ?_; (case hd => rfl); (case hg => rfl); (case hr => first | (go_simp; done) | (go_simp; rfl)); (case hp => exact (Reps.none _ _)); intro v464 w4 ho5 hb hg_ hnew_; clear hg_ hnew_; (first | rw [← Ny463.out] at ho5 | (simp only [Int.reduceToNat] at ho5; rw [← Ny463.out] at ho5)); have n0_ := Aside0.mk (Kd.S_elder' (by (with_reducible repeat (first | apply Kd.S_alloc | apply Kd.S_drewN | apply Kd.S_drew)); exact HO462.out) (Kd.S_base ho5) hb); have n1_ := Aside0.mk (Kd.S_lower (Kd.S_new' ho5 (Kd.S_lt (by (with_reducible repeat (first | apply Kd.S_alloc | apply Kd.S_drewN | apply Kd.S_drew)); exact HO462.out))) (below_size (by repeat (first | (with_reducible first | exact HB.out | apply below_alloc | apply pw_below_drewN | apply below_drew1) | exact HB.out)))); have n2_ := Aside0.mk (below_step (by repeat (first | (with_reducible first | exact HB.out | apply below_alloc | apply pw_below_drewN | apply below_drew1) | exact HB.out)) hb); clear HO462; clear HB; have HO462 := n0_; have HO465 := n1_; have HB := n2_; clear n0_ n1_ n2_; clear hb ho5)); try go_wp2_with (first | (go_at_call 75; (with_reducible refine (spec_l03Powers.calls k a0 2 t460 _ A2.out).mono ?_); rintro e w3 ⟨v461, rfl, ho0, hb⟩; have n0_ := Aside0.mk (Kd.S_lower ho0 (below_size (by repeat (first | (with_reducible first | exact HB.out | apply below_alloc | apply pw_below_drewN | apply below_drew1) | exact HB.out)))); have n1_ := Aside0.mk (below_step (by repeat (first | (with_reducible first | exact HB.out | apply below_alloc | apply pw_below_drewN | apply below_drew1) | exact HB.out)) hb); clear HB; have HO462 := n0_; have HB := n1_; clear n0_ n1_; (try clear hb); (try clear hb2); (try clear hk); (try clear hi); (try clear ho0)) | ((with_reducible refine gate_dst (N := 10) rfl ?_); refine Kd.S_lit (Kd.slice 2 (Kd.int .i64)) _ 26 ?hg (N := 10) ?hd (xs := ([] : List (List Int))) (inner := []) (ok := fun _ => True) (okp := fun _ => True) ?hr ?hp (fun _ hk => hk) trivial (Below.refl _ _) (Nat.le_refl _) (by simp) ?_; (case hd => rfl); (case hg => rfl); (case hr => first | (go_simp; done) | (go_simp; rfl)); (case hp => exact (Reps.none _ _)); intro v464 w4 ho5 hb hg_ hnew_; clear hg_ hnew_; (first | rw [← Ny463.out] at ho5 | (simp only [Int.reduceToNat] at ho5; rw [← Ny463.out] at ho5)); have n0_ := Aside0.mk (Kd.S_elder' (by (with_reducible repeat (first | apply Kd.S_alloc | apply Kd.S_drewN | apply Kd.S_drew)); exact HO462.out) (Kd.S_base ho5) hb); have n1_ := Aside0.mk (Kd.S_lower (Kd.S_new' ho5 (Kd.S_lt (by (with_reducible repeat (first | apply Kd.S_alloc | apply Kd.S_drewN | apply Kd.S_drew)); exact HO462.out))) (below_size (by repeat (first | (with_reducible first | exact HB.out | apply below_alloc | apply pw_below_drewN | apply below_drew1) | exact HB.out)))); have n2_ := Aside0.mk (below_step (by repeat (first | (with_reducible first | exact HB.out | apply below_alloc | apply pw_below_drewN | apply below_drew1) | exact HB.out)) hb); clear HO462; clear HB; have HO462 := n0_; have HO465 := n1_; have HB := n2_; clear n0_ n1_ n2_; clear hb ho5)))
  go_loopg [4, 5] k (fun kq v4 v5 w' => ∃ (x4_1 : List (List Int)) (x5_1 : Int), v5 = .int .i64 x5_1 ∧ Aside0 (spec_l03Overlaps.l0 kq a0 t460 x4_1 x5_1 = some r) ∧ Aside0 (kq ≤ k) ∧ Aside0 (Kd.S (Kd.slice 2 (Kd.int .i64)) 26 w' w.heap.size (fun k_ => some k_ ≠ (v4 : Value).ownBlock) v461 t460) ∧ Aside0 (Kd.S (Kd.slice 2 (Kd.int .i64)) 26 w' w.heap.size (fun k_ => some k_ ≠ (v461 : Value).ownBlock) v4 x4_1) ∧ Aside0 (Below w.heap.size w w'))
  case atStart => exact ⟨(y463), (0), (by first | rfl | (simp; done) | (simp [*]; done)), H', ⟨Nat.le_refl _⟩, ⟨by (with_reducible repeat (first | apply Kd.S_alloc | apply Kd.S_drewN | apply Kd.S_drew)); exact Kd.S_mono HO462.out (fun _ hk => hk.2)⟩, ⟨by (with_reducible repeat (first | apply Kd.S_alloc | apply Kd.S_drewN | apply Kd.S_drew)); exact Kd.S_mono HO465.out (fun _ hk => hk.2)⟩, ⟨by repeat (first | (with_reducible first | exact HB.out | apply below_alloc | apply pw_below_drewN | apply below_drew1) | exact HB.out)⟩⟩
  case round =>
    clear H'
    try clear p2
    obtain ⟨x4_1, x5_1, rfl, HA, HK1, HO_3, HO_4, HB⟩ := hrel
    cases gk with
    | zero => exact absurd HA.out (by simp [spec_l03Overlaps.l0])
    | succ k1 =>
      have H := HA.out
      clear HA
      simp only [spec_l03Overlaps.l0] at H
      by_cases c6 : x5_1 < (t460.length : Int)
      · rw [if_pos c6] at H
        have c6b0 : decide (x5_1 < (t460.length : Int)) = true := decide_eq_true c6
        clear c6
        by_cases c7 : 0 ≤ x5_1
        · rw [if_pos c7] at H
          have c7b0 : decide (0 ≤ x5_1) = true := decide_eq_true c7
          clear c7
          by_cases c8 : 0 < ((rd_L5 t460 x5_1).length : Int)
          · rw [if_pos c8] at H
            have c8b0 : decide (0 < ((rd_L5 t460 x5_1).length : Int)) = true := decide_eq_true c8
            have c8b1 : decide (0 < (rd_L5 t460 x5_1).length) = true := decide_eq_true (by omega)
            clear c8
            by_cases c9 : 1 < ((rd_L5 t460 x5_1).length : Int)
            · rw [if_pos c9] at H
              have c9b0 : decide (1 < ((rd_L5 t460 x5_1).length : Int)) = true := decide_eq_true c9
              have c9b1 : decide (1 < (rd_L5 t460 x5_1).length) = true := decide_eq_true (by omega)
              clear c9
              by_cases c10 : (wrap64 ((rd (rd_L5 t460 x5_1) 0) + (wrap64 (2 * (rd (rd_L5 t460 x5_1) 1))))) < (a0.size : Int)
              · rw [if_pos c10] at H
                have c10b0 : decide ((wrap64 ((rd (rd_L5 t460 x5_1) 0) + (wrap64 (2 * (rd (rd_L5 t460 x5_1) 1))))) < (a0.size : Int)) = true := decide_eq_true c10
                clear c10
                obtain ⟨ji11, hji11⟩ : ∃ j_ : Int, (wrap64 ((rd (rd_L5 t460 x5_1) 0) + (wrap64 (2 * (rd (rd_L5 t460 x5_1) 1))))) = j_ := ⟨_, rfl⟩
                replace H : (if 0 ≤ (ji11) then (if 0 ≤ (rd (rd_L5 t460 x5_1) 0) then (if (rd (rd_L5 t460 x5_1) 0) < (a0.size : Int) then (if (bt a0 (ji11)) = (bt a0 (rd (rd_L5 t460 x5_1) 0)) then (if x4_1.length < 5864062014805 then (spec_l03Overlaps.l0 k1 a0 t460 (x4_1 ++ [(([rd (rd_L5 t460 x5_1) 0, rd (rd_L5 t460 x5_1) 1] : List Int))]) (wrap64 (x5_1 + 1))) else (none)) else (spec_l03Overlaps.l0 k1 a0 t460 x4_1 (wrap64 (x5_1 + 1)))) else (none)) else (none)) else (none)) = some r := by first | (rw [hji11] at H; exact H) | (simp only [hji11] at H ⊢; exact H)
                (try rw [hji11] at c10b0)
                have hji11w : (IntKind.i64.wrap ((rd (rd_L5 t460 x5_1) 0) + (wrap64 (2 * (rd (rd_L5 t460 x5_1) 1))))) = ji11 := (i64_w _).trans hji11
                by_cases c12 : 0 ≤ (ji11)
                · rw [if_pos c12] at H
                  have c12b0 : decide (0 ≤ (ji11)) = true := decide_eq_true c12
                  clear c12
                  by_cases c14 : 0 ≤ (rd (rd_L5 t460 x5_1) 0)
                  · rw [if_pos c14] at H
                    have c14b0 : decide (0 ≤ (rd (rd_L5 t460 x5_1) 0)) = true := decide_eq_true c14
                    clear c14
                    by_cases c15 : (rd (rd_L5 t460 x5_1) 0) < (a0.size : Int)
                    · rw [if_pos c15] at H
                      have c15b0 : decide ((rd (rd_L5 t460 x5_1) 0) < (a0.size : Int)) = true := decide_eq_true c15
                      clear c15
                      by_cases c17 : (bt a0 (ji11)) = (bt a0 (rd (rd_L5 t460 x5_1) 0))
                      · rw [if_pos c17] at H
                        have c17b0 : ((bt a0 (ji11)) == (bt a0 (rd (rd_L5 t460 x5_1) 0))) = true := beq_iff_eq.mpr c17
                        have c17b1 : ((bt a0 (ji11)) != (bt a0 (rd (rd_L5 t460 x5_1) 0))) = false := bne_eq_false_iff_eq.mpr c17
                        clear c17
                        obtain ⟨y470, hy470⟩ : ∃ y_ : List Int, y_ = (([rd (rd_L5 t460 x5_1) 0, rd (rd_L5 t460 x5_1) 1] : List Int)) := ⟨_, rfl⟩
                        replace H : (if x4_1.length < 5864062014805 then (spec_l03Overlaps.l0 k1 a0 t460 (x4_1 ++ [y470]) (wrap64 (x5_1 + 1))) else (none)) = some r := by first | (rw [hy470]; with_reducible exact H) | (have H2_ := (Option.bind_some _ _).symm.trans H; rw [hy470]; with_reducible exact H2_) | (have H2_ := (Option.bind_some _ _).symm.trans H; with_reducible exact H2_) | with_reducible exact H | (rw [hy470]; exact H) | exact H
                        have Ny470 := Aside0.mk hy470
                        clear hy470
                        by_cases c18 : x4_1.length < 5864062014805
                        · rw [if_pos c18] at H
                          have LMc18 := Aside0.mk c18
                          clear c18
                          obtain ⟨y473, hy473⟩ : ∃ y_ : List (List Int), y_ = (x4_1 ++ [y470]) := ⟨_, rfl⟩
                          replace H : (spec_l03Overlaps.l0 k1 a0 t460 y473 (wrap64 (x5_1 + 1))) = some r := by first | (rw [hy473]; with_reducible exact H) | (have H2_ := (Option.bind_some _ _).symm.trans H; rw [hy473]; with_reducible exact H2_) | (have H2_ := (Option.bind_some _ _).symm.trans H; with_reducible exact H2_) | with_reducible exact H | (rw [hy473]; exact H) | exact H
                          have Ny473 := Aside0.mk hy473
                          clear hy473
                          have H' := Aside0.mk H
                          clear H
                          obtain ⟨Ao19, co19, eo19⟩ := Kd.S_slice HO_3.out
                          subst eo19
                          have p466 : 0 ≤ (x5_1 : Int) := of_decide_eq_true (by first | (with_reducible assumption) | assumption)
                          have q466 : x5_1 < (t460.length : Int) := of_decide_eq_true (by first | (with_reducible assumption) | assumption)
                          obtain ⟨ad466, A466_0, c466_0, e466, hx466_0, hl466_0, hi466_0⟩ := at_L5 (Kd.S_reads' HO_3.out).2.2 x5_1 p466 q466
                          cases e466
                          obtain ⟨ce466, hce466, hMe466, hcc466⟩ := Kd.S_get HO_3.out [] x5_1 p466 (by first | exact q466 | exact of_decide_eq_true (by first | (with_reducible assumption) | assumption) | (have e_ := (Kd.S_reads' HO_3.out).1; omega))
                          obtain ⟨ve466_0, rfl, ge466_0⟩ := hMe466
                          have hv466_0 := hcc466 0 _ rfl
                          rw [Nat.add_zero, show ((Kd.slice 2 (Kd.int .i64))).sz = 1 from rfl, Nat.mul_one] at hv466_0
                          replace hv466_0 := Option.some.inj (hv466_0.symm.trans hx466_0)
                          rw [hv466_0] at ge466_0
                          have HL466_0 := Aside0.mk (show Kd.R (Kd.int .i64) 2 _ _ _ _ (rd_L5 t460 x5_1) from ge466_0)
                          clear hv466_0 ge466_0
                          clear hcc466 hce466
                          have HR466_0 := Aside0.mk hi466_0
                          have HC466_0 := Aside0.mk hl466_0
                          clear hi466_0 hl466_0
                          replace p466 := eq_true p466
                          replace q466 := eq_true q466
                          have p467 : 0 ≤ (0 : Int) := (by omega)
                          have q467 : 0 < ((rd_L5 t460 x5_1).length : Int) := of_decide_eq_true (by first | (with_reducible assumption) | assumption)
                          obtain ⟨ad467, e467, hx467_0⟩ := Kd.at_int (by repeat (first | (with_reducible exact HR466_0.out) | (with_reducible refine Kd.C_alloc ?_ _) | (with_reducible refine Kd.C_drewN ?_ _) | (with_reducible refine Kd.C_drew ?_) | exact HR466_0.out)) 0 p467 q467
                          cases e467
                          have qi467 : (0 < (rd_L5 t460 x5_1).length) = True := eq_true (by omega)
                          (try rw [show ((0 : Int)).toNat = 0 from rfl] at hx467_0)
                          (try rw [Addr.add_zero'] at hx467_0)
                          replace p467 := eq_true p467
                          replace q467 := eq_true q467
                          have p468 : 0 ≤ (x5_1 : Int) := of_decide_eq_true (by first | (with_reducible assumption) | assumption)
                          have q468 : x5_1 < (t460.length : Int) := of_decide_eq_true (by first | (with_reducible assumption) | assumption)
                          obtain ⟨ad468, A468_0, c468_0, e468, hx468_0, hl468_0, hi468_0⟩ := at_L5 (Kd.S_reads' HO_3.out).2.2 x5_1 p468 q468
                          obtain rfl : ad466 = ad468 := (by injection e468)
                          obtain ⟨ce468, hce468, hMe468, hcc468⟩ := Kd.S_get HO_3.out [] x5_1 p468 (by first | exact q468 | exact of_decide_eq_true (by first | (with_reducible assumption) | assumption) | (have e_ := (Kd.S_reads' HO_3.out).1; omega))
                          obtain ⟨ve468_0, rfl, ge468_0⟩ := hMe468
                          have hv468_0 := hcc468 0 _ rfl
                          rw [Nat.add_zero, show ((Kd.slice 2 (Kd.int .i64))).sz = 1 from rfl, Nat.mul_one] at hv468_0
                          replace hv468_0 := Option.some.inj (hv468_0.symm.trans hx468_0)
                          rw [hv468_0] at ge468_0
                          have HL468_0 := Aside0.mk (show Kd.R (Kd.int .i64) 2 _ _ _ _ (rd_L5 t460 x5_1) from ge468_0)
                          clear hv468_0 ge468_0
                          clear hcc468 hce468
                          have HR468_0 := Aside0.mk hi468_0
                          have HC468_0 := Aside0.mk hl468_0
                          clear hi468_0 hl468_0
                          replace p468 := eq_true p468
                          replace q468 := eq_true q468
                          have ea_ := Option.some.inj (hx466_0.symm.trans hx468_0)
                          injection ea_ with ea_ en_ ec_
                          subst ea_
                          subst ec_
                          clear en_
                          have p469 : 0 ≤ (1 : Int) := (by omega)
                          have q469 : 1 < ((rd_L5 t460 x5_1).length : Int) := of_decide_eq_true (by first | (with_reducible assumption) | assumption)
                          obtain ⟨ad469, e469, hx469_0⟩ := Kd.at_int (by repeat (first | (with_reducible exact HR468_0.out) | (with_reducible refine Kd.C_alloc ?_ _) | (with_reducible refine Kd.C_drewN ?_ _) | (with_reducible refine Kd.C_drew ?_) | exact HR468_0.out)) 1 p469 q469
                          cases e469
                          (try simp only [show (1 : Int).toNat = 1 from rfl, Nat.reduceMul, Nat.reduceEqDiff, Go.Addr.add, ↓reduceIte] at hx469_0)
                          have qi469 : (1 < (rd_L5 t460 x5_1).length) = True := eq_true (by omega)
                          (try rw [show ((1 : Int)).toNat = 1 from rfl] at hx469_0)
                          replace p469 := eq_true p469
                          replace q469 := eq_true q469
                          have p13 : 0 ≤ ((ji11) : Int) := of_decide_eq_true (by first | (with_reducible assumption) | assumption)
                          have q13 : (ji11) < (a0.size : Int) := of_decide_eq_true (by first | (with_reducible assumption) | assumption)
                          have hx13 := bt_at a0 (ji11)
                          replace p13 := eq_true p13
                          replace q13 := eq_true q13
                          have p16 : 0 ≤ ((rd (rd_L5 t460 x5_1) 0) : Int) := of_decide_eq_true (by first | (with_reducible assumption) | assumption)
                          have q16 : (rd (rd_L5 t460 x5_1) 0) < (a0.size : Int) := of_decide_eq_true (by first | (with_reducible assumption) | assumption)
                          have hx16 := bt_at a0 (rd (rd_L5 t460 x5_1) 0)
                          replace p16 := eq_true p16
                          replace q16 := eq_true q16
                          go_wp2_with (first | ((with_reducible refine gate_dst (N := 51) rfl ?_); refine Kd.R_lit (Kd.int .i64) _ 2 ?hg (N := 51) ?hd (xs := ([rd (rd_L5 t460 x5_1) 0, rd (rd_L5 t460 x5_1) 1] : List Int)) (inner := [.int .i64 (rd (rd_L5 t460 x5_1) 0), .int .i64 (rd (rd_L5 t460 x5_1) 1)]) (ok := fun _ => True) (okp := fun _ => True) ?hr ?hp (fun _ hk => hk) trivial (Below.refl _ _) (Nat.le_refl _) (by simp) ?_; (case hd => rfl); (case hg => rfl); (case hr => first | (go_simp; done) | (go_simp; rfl)); (case hp => exact (Reps.one (show Kd.M (Kd.int .i64) _ _ _ (rd (rd_L5 t460 x5_1) 0) [.int .i64 (rd (rd_L5 t460 x5_1) 0)] from rfl) (Reps.one (show Kd.M (Kd.int .i64) _ _ _ (rd (rd_L5 t460 x5_1) 1) [.int .i64 (rd (rd_L5 t460 x5_1) 1)] from rfl) (Reps.none _ _)))); intro v471 w20 ho21 hb hg_ hnew_; clear hg_ hnew_; (first | rw [← Ny470.out] at ho21 | (simp only [Int.reduceToNat] at ho21; rw [← Ny470.out] at ho21)); have n0_ := Aside0.mk (Kd.S_elder' (by (with_reducible repeat (first | apply Kd.S_alloc | apply Kd.S_drewN | apply Kd.S_drew)); exact HO_3.out) (Kd.R_base ho21) hb); have n1_ := Aside0.mk (Kd.S_elder' (by (with_reducible repeat (first | apply Kd.S_alloc | apply Kd.S_drewN | apply Kd.S_drew)); exact HO_4.out) (Kd.R_base ho21) hb); have n2_ := Aside0.mk (Kd.R_elder' (by (with_reducible repeat (first | apply Kd.R_alloc | apply Kd.R_drewN | apply Kd.R_drew)); exact HL466_0.out) (Kd.R_base ho21) hb); have n3_ := Aside0.mk (Kd.R_elder' (by (with_reducible repeat (first | apply Kd.R_alloc | apply Kd.R_drewN | apply Kd.R_drew)); exact HL468_0.out) (Kd.R_base ho21) hb); have n4_ := Aside0.mk (Kd.R_lower (Kd.R_new' (Kd.R_new' ho21 (Kd.R_lt (by (with_reducible repeat (first | apply Kd.R_alloc | apply Kd.R_drewN | apply Kd.R_drew)); exact HL466_0.out))) (Kd.R_lt (by (with_reducible repeat (first | apply Kd.R_alloc | apply Kd.R_drewN | apply Kd.R_drew)); exact HL468_0.out))) (below_size (by repeat (first | (with_reducible first | exact HB.out | apply below_alloc | apply pw_below_drewN | apply below_drew1) | exact HB.out)))); have n5_ := Aside0.mk (Kd.C_below (by repeat (first | (with_reducible exact HR466_0.out) | (with_reducible refine Kd.C_alloc ?_ _) | (with_reducible refine Kd.C_drewN ?_ _) | (with_reducible refine Kd.C_drew ?_) | exact HR466_0.out)) hb); have n6_ := Aside0.mk (Kd.C_below (by repeat (first | (with_reducible exact HR468_0.out) | (with_reducible refine Kd.C_alloc ?_ _) | (with_reducible refine Kd.C_drewN ?_ _) | (with_reducible refine Kd.C_drew ?_) | exact HR468_0.out)) hb); have n7_ := Aside0.mk (below_step (by repeat (first | (with_reducible first | exact HB.out | apply below_alloc | apply pw_below_drewN | apply below_drew1) | exact HB.out)) hb); clear HO_3; clear HO_4; clear HL466_0; clear HL468_0; clear HR466_0; clear HR468_0; clear HB; have HO_3 := n0_; have HO_4 := n1_; have HL466_0 := n2_; have HL468_0 := n3_; have HO472 := n4_; have HR466_0 := n5_; have HR468_0 := n6_; have HB := n7_; clear n0_ n1_ n2_ n3_ n4_ n5_ n6_ n7_; clear hb ho21; obtain ⟨Ao23, co23, eo23⟩ := Kd.R_slice HO472.out; subst eo23) | ((with_reducible refine gate_builtin (b := .append) (xs := #[.tmp 48, .tmp 52]) rfl ?_); at_builtin; refine Kd.S_append (Kd.slice 2 (Kd.int .i64)) (w0 := w) w.heap.size rfl (.tmp 48) (.tmp 52) 56 26 (.slice none 0 0) 24 rfl Try.underlying56 info26 rfl (by decide) (by omega) u4 x4_1 y470 [.slice Ao23 y470.length co23] (fun k_ => some k_ ≠ (.slice (some ad466) t460.length co19 : Value).ownBlock) (fun k_ => some k_ = (.slice Ao23 y470.length co23 : Value).ownBlock) rfl rfl ?aP (fun k_ hk_ => ((Kd.R_mono (ok' := fun k_ => ((fun k_ => some k_ ≠ (.slice (some ad466) t460.length co19 : Value).ownBlock)) k_ ∧ some k_ ≠ (u4 : Value).ownBlock) (Kd.R_apart' (Kd.R_apart' (HO472.out) (Kd.S_typed HO_3.out) (by decide)) (Kd.S_typed HO_4.out) (by decide)) (fun k_ hk => ⟨hk.1.2, hk.2⟩))).1 k_ hk_.symm) ?aF ?aO ?aB ?aS ?aL ?_; (case aP => exact Kd.M_row (Kd.R_mono (Kd.R_tight rfl (Kd.R_mono (ok' := fun k_ => ((fun k_ => some k_ ≠ (.slice (some ad466) t460.length co19 : Value).ownBlock)) k_ ∧ some k_ ≠ (u4 : Value).ownBlock) (Kd.R_apart' (Kd.R_apart' (HO472.out) (Kd.S_typed HO_3.out) (by decide)) (Kd.S_typed HO_4.out) (by decide)) (fun k_ hk => ⟨hk.1.2, hk.2⟩))) (fun _ h_ => h_))); (case aB => exact (by repeat (first | (with_reducible first | exact HB.out | apply below_alloc | apply pw_below_drewN | apply below_drew1) | exact HB.out))); (case aF => exact (fun k_ hk => Kd.fresh' (Kd.S_lt (by (with_reducible repeat (first | apply Kd.S_alloc | apply Kd.S_drewN | apply Kd.S_drew)); exact HO_3.out)) k_ hk)); (case aO => exact (by (with_reducible repeat (first | apply Kd.S_alloc | apply Kd.S_drewN | apply Kd.S_drew)); exact Kd.S_mono HO_4.out (fun k_ hk => ⟨hk.1, fun e_ => hk.2 e_⟩))); (case aS => exact (below_size (by repeat (first | (with_reducible first | exact HB.out | apply below_alloc | apply pw_below_drewN | apply below_drew1) | exact HB.out)))); (case aL => have := LMc18.out; omega); intro v474 w22 ho hb hg hat; rw [← Ny473.out] at ho; have n0_ := Aside0.mk (Kd.S_after (ok := (fun k_ => some k_ ≠ (.slice Ao23 y470.length co23 : Value).ownBlock)) (by (with_reducible repeat (first | apply Kd.S_alloc | apply Kd.S_drewN | apply Kd.S_drew)); exact Kd.S_mono HO_3.out (fun _ hk => ⟨hk.2, hk.1⟩)) hg hat); have n1_ := Aside0.mk (Kd.R_after (ok := (fun k_ => some k_ ≠ (.slice (some ad466) t460.length co19 : Value).ownBlock ∧ some k_ ≠ (.slice Ao23 y470.length co23 : Value).ownBlock)) (by (with_reducible repeat (first | apply Kd.R_alloc | apply Kd.R_drewN | apply Kd.R_drew)); exact Kd.R_mono HL466_0.out (fun _ hk => ⟨⟨hk.1.2, hk.2⟩, hk.1.1⟩)) hg hat); have n2_ := Aside0.mk (Kd.R_after (ok := (fun k_ => some k_ ≠ (.slice (some ad466) t460.length co19 : Value).ownBlock ∧ some k_ ≠ (.slice Ao23 y470.length co23 : Value).ownBlock)) (by (with_reducible repeat (first | apply Kd.R_alloc | apply Kd.R_drewN | apply Kd.R_drew)); exact Kd.R_mono HL468_0.out (fun _ hk => ⟨⟨hk.1.2, hk.2⟩, hk.1.1⟩)) hg hat); have n3_ := Aside0.mk (hb); have n4_ := Aside0.mk (ho); clear HO_3; clear HL466_0; clear HL468_0; clear HB; clear HO_4; clear HO472; have HO_3 := n0_; have HL466_0 := n1_; have HL468_0 := n2_; have HB := n3_; have HO475 := n4_; clear n0_ n1_ n2_ n3_ n4_; clear ho hb hg hat))
                          repeat (go_quiet (first | ((with_reducible refine gate_dst (N := 51) rfl ?_); refine Kd.R_lit (Kd.int .i64) _ 2 ?hg (N := 51) ?hd (xs := ([rd (rd_L5 t460 x5_1) 0, rd (rd_L5 t460 x5_1) 1] : List Int)) (inner := [.int .i64 (rd (rd_L5 t460 x5_1) 0), .int .i64 (rd (rd_L5 t460 x5_1) 1)]) (ok := fun _ => True) (okp := fun _ => True) ?hr ?hp (fun _ hk => hk) trivial (Below.refl _ _) (Nat.le_refl _) (by simp) ?_; (case hd => rfl); (case hg => rfl); (case hr => first | (go_simp; done) | (go_simp; rfl)); (case hp => exact (Reps.one (show Kd.M (Kd.int .i64) _ _ _ (rd (rd_L5 t460 x5_1) 0) [.int .i64 (rd (rd_L5 t460 x5_1) 0)] from rfl) (Reps.one (show Kd.M (Kd.int .i64) _ _ _ (rd (rd_L5 t460 x5_1) 1) [.int .i64 (rd (rd_L5 t460 x5_1) 1)] from rfl) (Reps.none _ _)))); intro v471 w20 ho21 hb hg_ hnew_; clear hg_ hnew_; (first | rw [← Ny470.out] at ho21 | (simp only [Int.reduceToNat] at ho21; rw [← Ny470.out] at ho21)); have n0_ := Aside0.mk (Kd.S_elder' (by (with_reducible repeat (first | apply Kd.S_alloc | apply Kd.S_drewN | apply Kd.S_drew)); exact HO_3.out) (Kd.R_base ho21) hb); have n1_ := Aside0.mk (Kd.S_elder' (by (with_reducible repeat (first | apply Kd.S_alloc | apply Kd.S_drewN | apply Kd.S_drew)); exact HO_4.out) (Kd.R_base ho21) hb); have n2_ := Aside0.mk (Kd.R_elder' (by (with_reducible repeat (first | apply Kd.R_alloc | apply Kd.R_drewN | apply Kd.R_drew)); exact HL466_0.out) (Kd.R_base ho21) hb); have n3_ := Aside0.mk (Kd.R_elder' (by (with_reducible repeat (first | apply Kd.R_alloc | apply Kd.R_drewN | apply Kd.R_drew)); exact HL468_0.out) (Kd.R_base ho21) hb); have n4_ := Aside0.mk (Kd.R_lower (Kd.R_new' (Kd.R_new' ho21 (Kd.R_lt (by (with_reducible repeat (first | apply Kd.R_alloc | apply Kd.R_drewN | apply Kd.R_drew)); exact HL466_0.out))) (Kd.R_lt (by (with_reducible repeat (first | apply Kd.R_alloc | apply Kd.R_drewN | apply Kd.R_drew)); exact HL468_0.out))) (below_size (by repeat (first | (with_reducible first | exact HB.out | apply below_alloc | apply pw_below_drewN | apply below_drew1) | exact HB.out)))); have n5_ := Aside0.mk (Kd.C_below (by repeat (first | (with_reducible exact HR466_0.out) | (with_reducible refine Kd.C_alloc ?_ _) | (with_reducible refine Kd.C_drewN ?_ _) | (with_reducible refine Kd.C_drew ?_) | exact HR466_0.out)) hb); have n6_ := Aside0.mk (Kd.C_below (by repeat (first | (with_reducible exact HR468_0.out) | (with_reducible refine Kd.C_alloc ?_ _) | (with_reducible refine Kd.C_drewN ?_ _) | (with_reducible refine Kd.C_drew ?_) | exact HR468_0.out)) hb); have n7_ := Aside0.mk (below_step (by repeat (first | (with_reducible first | exact HB.out | apply below_alloc | apply pw_below_drewN | apply below_drew1) | exact HB.out)) hb); clear HO_3; clear HO_4; clear HL466_0; clear HL468_0; clear HR466_0; clear HR468_0; clear HB; have HO_3 := n0_; have HO_4 := n1_; have HL466_0 := n2_; have HL468_0 := n3_; have HO472 := n4_; have HR466_0 := n5_; have HR468_0 := n6_; have HB := n7_; clear n0_ n1_ n2_ n3_ n4_ n5_ n6_ n7_; clear hb ho21; obtain ⟨Ao23, co23, eo23⟩ := Kd.R_slice HO472.out; subst eo23) | ((with_reducible refine gate_builtin (b := .append) (xs := #[.tmp 48, .tmp 52]) rfl ?_); at_builtin; refine Kd.S_append (Kd.slice 2 (Kd.int .i64)) (w0 := w) w.heap.size rfl (.tmp 48) (.tmp 52) 56 26 (.slice none 0 0) 24 rfl Try.underlying56 info26 rfl (by decide) (by omega) u4 x4_1 y470 [.slice Ao23 y470.length co23] (fun k_ => some k_ ≠ (.slice (some ad466) t460.length co19 : Value).ownBlock) (fun k_ => some k_ = (.slice Ao23 y470.length co23 : Value).ownBlock) rfl rfl ?aP (fun k_ hk_ => ((Kd.R_mono (ok' := fun k_ => ((fun k_ => some k_ ≠ (.slice (some ad466) t460.length co19 : Value).ownBlock)) k_ ∧ some k_ ≠ (u4 : Value).ownBlock) (Kd.R_apart' (Kd.R_apart' (HO472.out) (Kd.S_typed HO_3.out) (by decide)) (Kd.S_typed HO_4.out) (by decide)) (fun k_ hk => ⟨hk.1.2, hk.2⟩))).1 k_ hk_.symm) ?aF ?aO ?aB ?aS ?aL ?_; (case aP => exact Kd.M_row (Kd.R_mono (Kd.R_tight rfl (Kd.R_mono (ok' := fun k_ => ((fun k_ => some k_ ≠ (.slice (some ad466) t460.length co19 : Value).ownBlock)) k_ ∧ some k_ ≠ (u4 : Value).ownBlock) (Kd.R_apart' (Kd.R_apart' (HO472.out) (Kd.S_typed HO_3.out) (by decide)) (Kd.S_typed HO_4.out) (by decide)) (fun k_ hk => ⟨hk.1.2, hk.2⟩))) (fun _ h_ => h_))); (case aB => exact (by repeat (first | (with_reducible first | exact HB.out | apply below_alloc | apply pw_below_drewN | apply below_drew1) | exact HB.out))); (case aF => exact (fun k_ hk => Kd.fresh' (Kd.S_lt (by (with_reducible repeat (first | apply Kd.S_alloc | apply Kd.S_drewN | apply Kd.S_drew)); exact HO_3.out)) k_ hk)); (case aO => exact (by (with_reducible repeat (first | apply Kd.S_alloc | apply Kd.S_drewN | apply Kd.S_drew)); exact Kd.S_mono HO_4.out (fun k_ hk => ⟨hk.1, fun e_ => hk.2 e_⟩))); (case aS => exact (below_size (by repeat (first | (with_reducible first | exact HB.out | apply below_alloc | apply pw_below_drewN | apply below_drew1) | exact HB.out)))); (case aL => have := LMc18.out; omega); intro v474 w22 ho hb hg hat; rw [← Ny473.out] at ho; have n0_ := Aside0.mk (Kd.S_after (ok := (fun k_ => some k_ ≠ (.slice Ao23 y470.length co23 : Value).ownBlock)) (by (with_reducible repeat (first | apply Kd.S_alloc | apply Kd.S_drewN | apply Kd.S_drew)); exact Kd.S_mono HO_3.out (fun _ hk => ⟨hk.2, hk.1⟩)) hg hat); have n1_ := Aside0.mk (Kd.R_after (ok := (fun k_ => some k_ ≠ (.slice (some ad466) t460.length co19 : Value).ownBlock ∧ some k_ ≠ (.slice Ao23 y470.length co23 : Value).ownBlock)) (by (with_reducible repeat (first | apply Kd.R_alloc | apply Kd.R_drewN | apply Kd.R_drew)); exact Kd.R_mono HL466_0.out (fun _ hk => ⟨⟨hk.1.2, hk.2⟩, hk.1.1⟩)) hg hat); have n2_ := Aside0.mk (Kd.R_after (ok := (fun k_ => some k_ ≠ (.slice (some ad466) t460.length co19 : Value).ownBlock ∧ some k_ ≠ (.slice Ao23 y470.length co23 : Value).ownBlock)) (by (with_reducible repeat (first | apply Kd.R_alloc | apply Kd.R_drewN | apply Kd.R_drew)); exact Kd.R_mono HL468_0.out (fun _ hk => ⟨⟨hk.1.2, hk.2⟩, hk.1.1⟩)) hg hat); have n3_ := Aside0.mk (hb); have n4_ := Aside0.mk (ho); clear HO_3; clear HL466_0; clear HL468_0; clear HB; clear HO_4; clear HO472; have HO_3 := n0_; have HL466_0 := n1_; have HL468_0 := n2_; have HB := n3_; have HO475 := n4_; clear n0_ n1_ n2_ n3_ n4_; clear ho hb hg hat)); try go_wp2_with (first | ((with_reducible refine gate_dst (N := 51) rfl ?_); refine Kd.R_lit (Kd.int .i64) _ 2 ?hg (N := 51) ?hd (xs := ([rd (rd_L5 t460 x5_1) 0, rd (rd_L5 t460 x5_1) 1] : List Int)) (inner := [.int .i64 (rd (rd_L5 t460 x5_1) 0), .int .i64 (rd (rd_L5 t460 x5_1) 1)]) (ok := fun _ => True) (okp := fun _ => True) ?hr ?hp (fun _ hk => hk) trivial (Below.refl _ _) (Nat.le_refl _) (by simp) ?_; (case hd => rfl); (case hg => rfl); (case hr => first | (go_simp; done) | (go_simp; rfl)); (case hp => exact (Reps.one (show Kd.M (Kd.int .i64) _ _ _ (rd (rd_L5 t460 x5_1) 0) [.int .i64 (rd (rd_L5 t460 x5_1) 0)] from rfl) (Reps.one (show Kd.M (Kd.int .i64) _ _ _ (rd (rd_L5 t460 x5_1) 1) [.int .i64 (rd (rd_L5 t460 x5_1) 1)] from rfl) (Reps.none _ _)))); intro v471 w20 ho21 hb hg_ hnew_; clear hg_ hnew_; (first | rw [← Ny470.out] at ho21 | (simp only [Int.reduceToNat] at ho21; rw [← Ny470.out] at ho21)); have n0_ := Aside0.mk (Kd.S_elder' (by (with_reducible repeat (first | apply Kd.S_alloc | apply Kd.S_drewN | apply Kd.S_drew)); exact HO_3.out) (Kd.R_base ho21) hb); have n1_ := Aside0.mk (Kd.S_elder' (by (with_reducible repeat (first | apply Kd.S_alloc | apply Kd.S_drewN | apply Kd.S_drew)); exact HO_4.out) (Kd.R_base ho21) hb); have n2_ := Aside0.mk (Kd.R_elder' (by (with_reducible repeat (first | apply Kd.R_alloc | apply Kd.R_drewN | apply Kd.R_drew)); exact HL466_0.out) (Kd.R_base ho21) hb); have n3_ := Aside0.mk (Kd.R_elder' (by (with_reducible repeat (first | apply Kd.R_alloc | apply Kd.R_drewN | apply Kd.R_drew)); exact HL468_0.out) (Kd.R_base ho21) hb); have n4_ := Aside0.mk (Kd.R_lower (Kd.R_new' (Kd.R_new' ho21 (Kd.R_lt (by (with_reducible repeat (first | apply Kd.R_alloc | apply Kd.R_drewN | apply Kd.R_drew)); exact HL466_0.out))) (Kd.R_lt (by (with_reducible repeat (first | apply Kd.R_alloc | apply Kd.R_drewN | apply Kd.R_drew)); exact HL468_0.out))) (below_size (by repeat (first | (with_reducible first | exact HB.out | apply below_alloc | apply pw_below_drewN | apply below_drew1) | exact HB.out)))); have n5_ := Aside0.mk (Kd.C_below (by repeat (first | (with_reducible exact HR466_0.out) | (with_reducible refine Kd.C_alloc ?_ _) | (with_reducible refine Kd.C_drewN ?_ _) | (with_reducible refine Kd.C_drew ?_) | exact HR466_0.out)) hb); have n6_ := Aside0.mk (Kd.C_below (by repeat (first | (with_reducible exact HR468_0.out) | (with_reducible refine Kd.C_alloc ?_ _) | (with_reducible refine Kd.C_drewN ?_ _) | (with_reducible refine Kd.C_drew ?_) | exact HR468_0.out)) hb); have n7_ := Aside0.mk (below_step (by repeat (first | (with_reducible first | exact HB.out | apply below_alloc | apply pw_below_drewN | apply below_drew1) | exact HB.out)) hb); clear HO_3; clear HO_4; clear HL466_0; clear HL468_0; clear HR466_0; clear HR468_0; clear HB; have HO_3 := n0_; have HO_4 := n1_; have HL466_0 := n2_; have HL468_0 := n3_; have HO472 := n4_; have HR466_0 := n5_; have HR468_0 := n6_; have HB := n7_; clear n0_ n1_ n2_ n3_ n4_ n5_ n6_ n7_; clear hb ho21; obtain ⟨Ao23, co23, eo23⟩ := Kd.R_slice HO472.out; subst eo23) | ((with_reducible refine gate_builtin (b := .append) (xs := #[.tmp 48, .tmp 52]) rfl ?_); at_builtin; refine Kd.S_append (Kd.slice 2 (Kd.int .i64)) (w0 := w) w.heap.size rfl (.tmp 48) (.tmp 52) 56 26 (.slice none 0 0) 24 rfl Try.underlying56 info26 rfl (by decide) (by omega) u4 x4_1 y470 [.slice Ao23 y470.length co23] (fun k_ => some k_ ≠ (.slice (some ad466) t460.length co19 : Value).ownBlock) (fun k_ => some k_ = (.slice Ao23 y470.length co23 : Value).ownBlock) rfl rfl ?aP (fun k_ hk_ => ((Kd.R_mono (ok' := fun k_ => ((fun k_ => some k_ ≠ (.slice (some ad466) t460.length co19 : Value).ownBlock)) k_ ∧ some k_ ≠ (u4 : Value).ownBlock) (Kd.R_apart' (Kd.R_apart' (HO472.out) (Kd.S_typed HO_3.out) (by decide)) (Kd.S_typed HO_4.out) (by decide)) (fun k_ hk => ⟨hk.1.2, hk.2⟩))).1 k_ hk_.symm) ?aF ?aO ?aB ?aS ?aL ?_; (case aP => exact Kd.M_row (Kd.R_mono (Kd.R_tight rfl (Kd.R_mono (ok' := fun k_ => ((fun k_ => some k_ ≠ (.slice (some ad466) t460.length co19 : Value).ownBlock)) k_ ∧ some k_ ≠ (u4 : Value).ownBlock) (Kd.R_apart' (Kd.R_apart' (HO472.out) (Kd.S_typed HO_3.out) (by decide)) (Kd.S_typed HO_4.out) (by decide)) (fun k_ hk => ⟨hk.1.2, hk.2⟩))) (fun _ h_ => h_))); (case aB => exact (by repeat (first | (with_reducible first | exact HB.out | apply below_alloc | apply pw_below_drewN | apply below_drew1) | exact HB.out))); (case aF => exact (fun k_ hk => Kd.fresh' (Kd.S_lt (by (with_reducible repeat (first | apply Kd.S_alloc | apply Kd.S_drewN | apply Kd.S_drew)); exact HO_3.out)) k_ hk)); (case aO => exact (by (with_reducible repeat (first | apply Kd.S_alloc | apply Kd.S_drewN | apply Kd.S_drew)); exact Kd.S_mono HO_4.out (fun k_ hk => ⟨hk.1, fun e_ => hk.2 e_⟩))); (case aS => exact (below_size (by repeat (first | (with_reducible first | exact HB.out | apply below_alloc | apply pw_below_drewN | apply below_drew1) | exact HB.out)))); (case aL => have := LMc18.out; omega); intro v474 w22 ho hb hg hat; rw [← Ny473.out] at ho; have n0_ := Aside0.mk (Kd.S_after (ok := (fun k_ => some k_ ≠ (.slice Ao23 y470.length co23 : Value).ownBlock)) (by (with_reducible repeat (first | apply Kd.S_alloc | apply Kd.S_drewN | apply Kd.S_drew)); exact Kd.S_mono HO_3.out (fun _ hk => ⟨hk.2, hk.1⟩)) hg hat); have n1_ := Aside0.mk (Kd.R_after (ok := (fun k_ => some k_ ≠ (.slice (some ad466) t460.length co19 : Value).ownBlock ∧ some k_ ≠ (.slice Ao23 y470.length co23 : Value).ownBlock)) (by (with_reducible repeat (first | apply Kd.R_alloc | apply Kd.R_drewN | apply Kd.R_drew)); exact Kd.R_mono HL466_0.out (fun _ hk => ⟨⟨hk.1.2, hk.2⟩, hk.1.1⟩)) hg hat); have n2_ := Aside0.mk (Kd.R_after (ok := (fun k_ => some k_ ≠ (.slice (some ad466) t460.length co19 : Value).ownBlock ∧ some k_ ≠ (.slice Ao23 y470.length co23 : Value).ownBlock)) (by (with_reducible repeat (first | apply Kd.R_alloc | apply Kd.R_drewN | apply Kd.R_drew)); exact Kd.R_mono HL468_0.out (fun _ hk => ⟨⟨hk.1.2, hk.2⟩, hk.1.1⟩)) hg hat); have n3_ := Aside0.mk (hb); have n4_ := Aside0.mk (ho); clear HO_3; clear HL466_0; clear HL468_0; clear HB; clear HO_4; clear HO472; have HO_3 := n0_; have HL466_0 := n1_; have HL468_0 := n2_; have HB := n3_; have HO475 := n4_; clear n0_ n1_ n2_ n3_ n4_; clear ho hb hg hat)))
                          go_roundg k1
                          case measure => have := HK1.out; omega
                          case rel => exact ⟨(y473), (wrap64 (x5_1 + 1)), (by first | rfl | (simp; done) | (simp [*]; done)), H', ⟨by have := HK1.out; omega⟩, ⟨by (with_reducible repeat (first | apply Kd.S_alloc | apply Kd.S_drewN | apply Kd.S_drew)); exact Kd.S_mono HO_3.out (fun _ hk => hk.2)⟩, ⟨by (with_reducible repeat (first | apply Kd.S_alloc | apply Kd.S_drewN | apply Kd.S_drew)); exact HO475.out⟩, ⟨by repeat (first | (with_reducible first | exact HB.out | apply below_alloc | apply pw_below_drewN | apply below_drew1) | exact HB.out)⟩⟩
                        · rw [if_neg c18] at H
                          exact absurd H (by simp)
                      · rw [if_neg c17] at H
                        have c17b0 : ((bt a0 (ji11)) == (bt a0 (rd (rd_L5 t460 x5_1) 0))) = false := beq_eq_false_iff_ne.mpr c17
                        have c17b1 : ((bt a0 (ji11)) != (bt a0 (rd (rd_L5 t460 x5_1) 0))) = true := bne_iff_ne.mpr c17
                        have H' := Aside0.mk H
                        clear H
                        obtain ⟨Ao24, co24, eo24⟩ := Kd.S_slice HO_3.out
                        subst eo24
                        have p466 : 0 ≤ (x5_1 : Int) := of_decide_eq_true (by first | (with_reducible assumption) | assumption)
                        have q466 : x5_1 < (t460.length : Int) := of_decide_eq_true (by first | (with_reducible assumption) | assumption)
                        obtain ⟨ad466, A466_0, c466_0, e466, hx466_0, hl466_0, hi466_0⟩ := at_L5 (Kd.S_reads' HO_3.out).2.2 x5_1 p466 q466
                        cases e466
                        obtain ⟨ce466, hce466, hMe466, hcc466⟩ := Kd.S_get HO_3.out [] x5_1 p466 (by first | exact q466 | exact of_decide_eq_true (by first | (with_reducible assumption) | assumption) | (have e_ := (Kd.S_reads' HO_3.out).1; omega))
                        obtain ⟨ve466_0, rfl, ge466_0⟩ := hMe466
                        have hv466_0 := hcc466 0 _ rfl
                        rw [Nat.add_zero, show ((Kd.slice 2 (Kd.int .i64))).sz = 1 from rfl, Nat.mul_one] at hv466_0
                        replace hv466_0 := Option.some.inj (hv466_0.symm.trans hx466_0)
                        rw [hv466_0] at ge466_0
                        have HL466_0 := Aside0.mk (show Kd.R (Kd.int .i64) 2 _ _ _ _ (rd_L5 t460 x5_1) from ge466_0)
                        clear hv466_0 ge466_0
                        clear hcc466 hce466
                        have HR466_0 := Aside0.mk hi466_0
                        have HC466_0 := Aside0.mk hl466_0
                        clear hi466_0 hl466_0
                        replace p466 := eq_true p466
                        replace q466 := eq_true q466
                        have p467 : 0 ≤ (0 : Int) := (by omega)
                        have q467 : 0 < ((rd_L5 t460 x5_1).length : Int) := of_decide_eq_true (by first | (with_reducible assumption) | assumption)
                        obtain ⟨ad467, e467, hx467_0⟩ := Kd.at_int (by repeat (first | (with_reducible exact HR466_0.out) | (with_reducible refine Kd.C_alloc ?_ _) | (with_reducible refine Kd.C_drewN ?_ _) | (with_reducible refine Kd.C_drew ?_) | exact HR466_0.out)) 0 p467 q467
                        cases e467
                        have qi467 : (0 < (rd_L5 t460 x5_1).length) = True := eq_true (by omega)
                        (try rw [show ((0 : Int)).toNat = 0 from rfl] at hx467_0)
                        (try rw [Addr.add_zero'] at hx467_0)
                        replace p467 := eq_true p467
                        replace q467 := eq_true q467
                        have p468 : 0 ≤ (x5_1 : Int) := of_decide_eq_true (by first | (with_reducible assumption) | assumption)
                        have q468 : x5_1 < (t460.length : Int) := of_decide_eq_true (by first | (with_reducible assumption) | assumption)
                        obtain ⟨ad468, A468_0, c468_0, e468, hx468_0, hl468_0, hi468_0⟩ := at_L5 (Kd.S_reads' HO_3.out).2.2 x5_1 p468 q468
                        obtain rfl : ad466 = ad468 := (by injection e468)
                        obtain ⟨ce468, hce468, hMe468, hcc468⟩ := Kd.S_get HO_3.out [] x5_1 p468 (by first | exact q468 | exact of_decide_eq_true (by first | (with_reducible assumption) | assumption) | (have e_ := (Kd.S_reads' HO_3.out).1; omega))
                        obtain ⟨ve468_0, rfl, ge468_0⟩ := hMe468
                        have hv468_0 := hcc468 0 _ rfl
                        rw [Nat.add_zero, show ((Kd.slice 2 (Kd.int .i64))).sz = 1 from rfl, Nat.mul_one] at hv468_0
                        replace hv468_0 := Option.some.inj (hv468_0.symm.trans hx468_0)
                        rw [hv468_0] at ge468_0
                        have HL468_0 := Aside0.mk (show Kd.R (Kd.int .i64) 2 _ _ _ _ (rd_L5 t460 x5_1) from ge468_0)
                        clear hv468_0 ge468_0
                        clear hcc468 hce468
                        have HR468_0 := Aside0.mk hi468_0
                        have HC468_0 := Aside0.mk hl468_0
                        clear hi468_0 hl468_0
                        replace p468 := eq_true p468
                        replace q468 := eq_true q468
                        have ea_ := Option.some.inj (hx466_0.symm.trans hx468_0)
                        injection ea_ with ea_ en_ ec_
                        subst ea_
                        subst ec_
                        clear en_
                        have p469 : 0 ≤ (1 : Int) := (by omega)
                        have q469 : 1 < ((rd_L5 t460 x5_1).length : Int) := of_decide_eq_true (by first | (with_reducible assumption) | assumption)
                        obtain ⟨ad469, e469, hx469_0⟩ := Kd.at_int (by repeat (first | (with_reducible exact HR468_0.out) | (with_reducible refine Kd.C_alloc ?_ _) | (with_reducible refine Kd.C_drewN ?_ _) | (with_reducible refine Kd.C_drew ?_) | exact HR468_0.out)) 1 p469 q469
                        cases e469
                        (try simp only [show (1 : Int).toNat = 1 from rfl, Nat.reduceMul, Nat.reduceEqDiff, Go.Addr.add, ↓reduceIte] at hx469_0)
                        have qi469 : (1 < (rd_L5 t460 x5_1).length) = True := eq_true (by omega)
                        (try rw [show ((1 : Int)).toNat = 1 from rfl] at hx469_0)
                        replace p469 := eq_true p469
                        replace q469 := eq_true q469
                        have p13 : 0 ≤ ((ji11) : Int) := of_decide_eq_true (by first | (with_reducible assumption) | assumption)
                        have q13 : (ji11) < (a0.size : Int) := of_decide_eq_true (by first | (with_reducible assumption) | assumption)
                        have hx13 := bt_at a0 (ji11)
                        replace p13 := eq_true p13
                        replace q13 := eq_true q13
                        have p16 : 0 ≤ ((rd (rd_L5 t460 x5_1) 0) : Int) := of_decide_eq_true (by first | (with_reducible assumption) | assumption)
                        have q16 : (rd (rd_L5 t460 x5_1) 0) < (a0.size : Int) := of_decide_eq_true (by first | (with_reducible assumption) | assumption)
                        have hx16 := bt_at a0 (rd (rd_L5 t460 x5_1) 0)
                        replace p16 := eq_true p16
                        replace q16 := eq_true q16
                        go_wp2
                        repeat (go_quiet (fail); try go_wp2)
                        go_roundg k1
                        case measure => have := HK1.out; omega
                        case rel => exact ⟨(x4_1), (wrap64 (x5_1 + 1)), (by first | rfl | (simp; done) | (simp [*]; done)), H', ⟨by have := HK1.out; omega⟩, ⟨by (with_reducible repeat (first | apply Kd.S_alloc | apply Kd.S_drewN | apply Kd.S_drew)); exact HO_3.out⟩, ⟨by (with_reducible repeat (first | apply Kd.S_alloc | apply Kd.S_drewN | apply Kd.S_drew)); exact HO_4.out⟩, ⟨by repeat (first | (with_reducible first | exact HB.out | apply below_alloc | apply pw_below_drewN | apply below_drew1) | exact HB.out)⟩⟩
                    · rw [if_neg c15] at H
                      exact absurd H (by simp)
                  · rw [if_neg c14] at H
                    exact absurd H (by simp)
                · rw [if_neg c12] at H
                  exact absurd H (by simp)
              · rw [if_neg c10] at H
                have c10b0 : decide ((wrap64 ((rd (rd_L5 t460 x5_1) 0) + (wrap64 (2 * (rd (rd_L5 t460 x5_1) 1))))) < (a0.size : Int)) = false := decide_eq_false c10
                clear c10
                have H' := Aside0.mk H
                clear H
                obtain ⟨Ao25, co25, eo25⟩ := Kd.S_slice HO_3.out
                subst eo25
                have p466 : 0 ≤ (x5_1 : Int) := of_decide_eq_true (by first | (with_reducible assumption) | assumption)
                have q466 : x5_1 < (t460.length : Int) := of_decide_eq_true (by first | (with_reducible assumption) | assumption)
                obtain ⟨ad466, A466_0, c466_0, e466, hx466_0, hl466_0, hi466_0⟩ := at_L5 (Kd.S_reads' HO_3.out).2.2 x5_1 p466 q466
                cases e466
                obtain ⟨ce466, hce466, hMe466, hcc466⟩ := Kd.S_get HO_3.out [] x5_1 p466 (by first | exact q466 | exact of_decide_eq_true (by first | (with_reducible assumption) | assumption) | (have e_ := (Kd.S_reads' HO_3.out).1; omega))
                obtain ⟨ve466_0, rfl, ge466_0⟩ := hMe466
                have hv466_0 := hcc466 0 _ rfl
                rw [Nat.add_zero, show ((Kd.slice 2 (Kd.int .i64))).sz = 1 from rfl, Nat.mul_one] at hv466_0
                replace hv466_0 := Option.some.inj (hv466_0.symm.trans hx466_0)
                rw [hv466_0] at ge466_0
                have HL466_0 := Aside0.mk (show Kd.R (Kd.int .i64) 2 _ _ _ _ (rd_L5 t460 x5_1) from ge466_0)
                clear hv466_0 ge466_0
                clear hcc466 hce466
                have HR466_0 := Aside0.mk hi466_0
                have HC466_0 := Aside0.mk hl466_0
                clear hi466_0 hl466_0
                replace p466 := eq_true p466
                replace q466 := eq_true q466
                have p467 : 0 ≤ (0 : Int) := (by omega)
                have q467 : 0 < ((rd_L5 t460 x5_1).length : Int) := of_decide_eq_true (by first | (with_reducible assumption) | assumption)
                obtain ⟨ad467, e467, hx467_0⟩ := Kd.at_int (by repeat (first | (with_reducible exact HR466_0.out) | (with_reducible refine Kd.C_alloc ?_ _) | (with_reducible refine Kd.C_drewN ?_ _) | (with_reducible refine Kd.C_drew ?_) | exact HR466_0.out)) 0 p467 q467
                cases e467
                have qi467 : (0 < (rd_L5 t460 x5_1).length) = True := eq_true (by omega)
                (try rw [show ((0 : Int)).toNat = 0 from rfl] at hx467_0)
                (try rw [Addr.add_zero'] at hx467_0)
                replace p467 := eq_true p467
                replace q467 := eq_true q467
                have p468 : 0 ≤ (x5_1 : Int) := of_decide_eq_true (by first | (with_reducible assumption) | assumption)
                have q468 : x5_1 < (t460.length : Int) := of_decide_eq_true (by first | (with_reducible assumption) | assumption)
                obtain ⟨ad468, A468_0, c468_0, e468, hx468_0, hl468_0, hi468_0⟩ := at_L5 (Kd.S_reads' HO_3.out).2.2 x5_1 p468 q468
                obtain rfl : ad466 = ad468 := (by injection e468)
                obtain ⟨ce468, hce468, hMe468, hcc468⟩ := Kd.S_get HO_3.out [] x5_1 p468 (by first | exact q468 | exact of_decide_eq_true (by first | (with_reducible assumption) | assumption) | (have e_ := (Kd.S_reads' HO_3.out).1; omega))
                obtain ⟨ve468_0, rfl, ge468_0⟩ := hMe468
                have hv468_0 := hcc468 0 _ rfl
                rw [Nat.add_zero, show ((Kd.slice 2 (Kd.int .i64))).sz = 1 from rfl, Nat.mul_one] at hv468_0
                replace hv468_0 := Option.some.inj (hv468_0.symm.trans hx468_0)
                rw [hv468_0] at ge468_0
                have HL468_0 := Aside0.mk (show Kd.R (Kd.int .i64) 2 _ _ _ _ (rd_L5 t460 x5_1) from ge468_0)
                clear hv468_0 ge468_0
                clear hcc468 hce468
                have HR468_0 := Aside0.mk hi468_0
                have HC468_0 := Aside0.mk hl468_0
                clear hi468_0 hl468_0
                replace p468 := eq_true p468
                replace q468 := eq_true q468
                have ea_ := Option.some.inj (hx466_0.symm.trans hx468_0)
                injection ea_ with ea_ en_ ec_
                subst ea_
                subst ec_
                clear en_
                have p469 : 0 ≤ (1 : Int) := (by omega)
                have q469 : 1 < ((rd_L5 t460 x5_1).length : Int) := of_decide_eq_true (by first | (with_reducible assumption) | assumption)
                obtain ⟨ad469, e469, hx469_0⟩ := Kd.at_int (by repeat (first | (with_reducible exact HR468_0.out) | (with_reducible refine Kd.C_alloc ?_ _) | (with_reducible refine Kd.C_drewN ?_ _) | (with_reducible refine Kd.C_drew ?_) | exact HR468_0.out)) 1 p469 q469
                cases e469
                (try simp only [show (1 : Int).toNat = 1 from rfl, Nat.reduceMul, Nat.reduceEqDiff, Go.Addr.add, ↓reduceIte] at hx469_0)
                have qi469 : (1 < (rd_L5 t460 x5_1).length) = True := eq_true (by omega)
                (try rw [show ((1 : Int)).toNat = 1 from rfl] at hx469_0)
                replace p469 := eq_true p469
                replace q469 := eq_true q469
                go_wp2
                repeat (go_quiet (fail); try go_wp2)
                go_roundg k1
                case measure => have := HK1.out; omega
                case rel => exact ⟨(x4_1), (wrap64 (x5_1 + 1)), (by first | rfl | (simp; done) | (simp [*]; done)), H', ⟨by have := HK1.out; omega⟩, ⟨by (with_reducible repeat (first | apply Kd.S_alloc | apply Kd.S_drewN | apply Kd.S_drew)); exact HO_3.out⟩, ⟨by (with_reducible repeat (first | apply Kd.S_alloc | apply Kd.S_drewN | apply Kd.S_drew)); exact HO_4.out⟩, ⟨by repeat (first | (with_reducible first | exact HB.out | apply below_alloc | apply pw_below_drewN | apply below_drew1) | exact HB.out)⟩⟩
            · rw [if_neg c9] at H
              exact absurd H (by simp)
          · rw [if_neg c8] at H
            exact absurd H (by simp)
        · rw [if_neg c7] at H
          exact absurd H (by simp)
      · rw [if_neg c6] at H
        have c6b0 : decide (x5_1 < (t460.length : Int)) = false := decide_eq_false c6
        clear c6
        obtain rfl := Option.some.inj H
        obtain ⟨Ao26, co26, eo26⟩ := Kd.S_slice HO_3.out
        subst eo26
        go_wp2
        repeat (go_quiet (fail); try go_wp2)
        go_ret
        exact ⟨_, by first | rfl | (simp [errW_none, errW_some] <;> rfl) | (simp [*, errW_none, errW_some] <;> rfl), by (with_reducible repeat (first | apply Kd.S_alloc | apply Kd.S_drewN | apply Kd.S_drew)); exact Kd.S_mono HO_4.out (fun _ hk => trivial), by repeat (first | (with_reducible first | exact HB.out | apply below_alloc | apply pw_below_drewN | apply below_drew1) | exact HB.out)⟩

end Go.Proofs.Yteakipdmpjlhiaa.Q

namespace Go.Proofs.Yteakipdmpjlhiaa.Q
open Go.RowKit Go.Proofs.YteakipdmpjlhiaaW.PrintWords Go.Proofs.YteakipdmpjlhiaaW.PrintLast Go.Proofs.YteakipdmpjlhiaaW.PrintMore
attribute [local go_sem] max2_int min2_int max_two min_two max_three min_three max_four min_four bn_leq bn_gtr bn_geq   -- for this text's walks alone
set_option linter.unusedVariables false
set_option linter.unusedSimpArgs false

/-! ### spec_IsOverlapFree: function 26 -/
def spec_IsOverlapFree.f (k : Nat) (a0 : ByteArray) : Option (Bool × Int) := (spec_l01Is.f k a0).bind fun t476 => (if t476 = true then ((spec_l03Overlaps.f k a0).bind fun t477 => (some (((t477.length : Int) == 0), 0))) else (some (false, 1)))
set_option maxHeartbeats 8000000 in
set_option maxRecDepth 100000 in
theorem spec_IsOverlapFree.calls (k : Nat) (a0 : ByteArray) (r1 : Bool) (r2 : Int) (w : World) (h : spec_IsOverlapFree.f k a0 = some (r1, r2)) :
  Calls Try.prog 26 #[.string a0] w fun e w' => e = .returned (.tuple #[.bool r1, .int .i64 r2]) ∧ Below w.heap.size w w' := by
 have HB := Aside0.mk (Below.refl w.heap.size w)
 have H : ((spec_l01Is.f k a0).bind fun t476 => (if t476 = true then ((spec_l03Overlaps.f k a0).bind fun t477 => (some (((t477.length : Int) == 0), 0))) else (some (false, 1)))) = some (r1, r2) := h
 clear h
 replace H := Option.bind_eq_some_iff.mp H
 obtain ⟨t476, A20, H⟩ := H
 replace H : (if t476 = true then ((spec_l03Overlaps.f k a0).bind fun t477 => (some (((t477.length : Int) == 0), 0))) else (some (false, 1))) = some (r1, r2) := H
 have A2 := Aside0.mk A20
 clear A20
 by_cases c3 : t476 = true
 ·subst c3
  have H1 : ((spec_l03Overlaps.f k a0).bind fun t477 => (some (((t477.length : Int) == 0), 0))) = some (r1, r2) := by rw [if_pos rfl] at H; exact H
  clear H
  have H := H1
  clear H1
  replace H := Option.bind_eq_some_iff.mp H
  obtain ⟨t477, A40, H⟩ := H
  replace H : (some (((t477.length : Int) == 0), 0)) = some (r1, r2) := H
  have A4 := Aside0.mk A40
  clear A40
  simp only [Option.some.injEq, Prod.mk.injEq] at H
  obtain ⟨rfl, rfl⟩ := H
  go_enter Try.func26, Try.ntmps26
  go_wp2_with (first | ((with_reducible refine gate_callee (f := 36) rfl ?_); refine goesL_ (some 5) rfl rfl Try.func36 (by kernel_rfl) rfl #[.string a0] rfl (by (try simp only [List.map_toArray, List.map_cons, List.map_nil]); first | done | rfl | (simp only [List.length_drop, List.length_take]; rfl)) ?_; (with_reducible refine (spec_l01Is.calls k a0 true _ A2.out).mono ?_); rintro e w' ⟨rfl, ⟨nd, rfl⟩⟩; refine ⟨_, rfl, ?_⟩) | ((with_reducible refine gate_callee (f := 60) rfl ?_); refine goesL_ (some 8) rfl rfl Try.func60 (by kernel_rfl) rfl #[.string a0] rfl (by (try simp only [List.map_toArray, List.map_cons, List.map_nil]); first | done | rfl | (simp only [List.length_drop, List.length_take]; rfl)) ?_; (with_reducible refine (spec_l03Overlaps.calls k a0 t477 _ A4.out).mono ?_); rintro e w5 ⟨v478, rfl, ho0, hb⟩; refine ⟨_, rfl, ?_⟩; have n0_ := Aside0.mk (Kd.S_lower ho0 (below_size (by repeat (first | (with_reducible first | exact HB.out | apply below_alloc | apply pw_below_drewN | apply below_drew1) | exact HB.out)))); have n1_ := Aside0.mk (below_step (by repeat (first | (with_reducible first | exact HB.out | apply below_alloc | apply pw_below_drewN | apply below_drew1) | exact HB.out)) hb); clear HB; have HO479 := n0_; have HB := n1_; clear n0_ n1_; (try clear hb); (try clear hb2); (try clear hk); (try clear hi); (try clear ho0); obtain ⟨Ao6, co6, eo6⟩ := Kd.S_slice HO479.out; subst eo6))
  go_ret2
  exact ⟨by first | rfl | (simp [errW_none, errW_some] <;> rfl) | (simp [*, errW_none, errW_some] <;> rfl), by repeat (first | (with_reducible first | exact HB.out | apply below_alloc | apply pw_below_drewN | apply below_drew1) | exact HB.out)⟩
 ·replace c3 := Bool.eq_false_iff.mpr c3
  subst c3
  have H1 : (some (false, 1)) = some (r1, r2) := by rw [if_neg (show ¬ (false = true) by decide)] at H; exact H
  clear H
  have H := H1
  clear H1
  simp only [Option.some.injEq, Prod.mk.injEq] at H
  obtain ⟨rfl, rfl⟩ := H
  go_enter Try.func26, Try.ntmps26
  go_wp2_with (first | ((with_reducible refine gate_callee (f := 36) rfl ?_); refine goesL_ (some 5) rfl rfl Try.func36 (by kernel_rfl) rfl #[.string a0] rfl (by (try simp only [List.map_toArray, List.map_cons, List.map_nil]); first | done | rfl | (simp only [List.length_drop, List.length_take]; rfl)) ?_; (with_reducible refine (spec_l01Is.calls k a0 false _ A2.out).mono ?_); rintro e w' ⟨rfl, ⟨nd, rfl⟩⟩; refine ⟨_, rfl, ?_⟩))
  go_ret2
  exact ⟨by first | rfl | (simp [errW_none, errW_some] <;> rfl) | (simp [*, errW_none, errW_some] <;> rfl), by repeat (first | (with_reducible first | exact HB.out | apply below_alloc | apply pw_below_drewN | apply below_drew1) | exact HB.out)⟩

end Go.Proofs.Yteakipdmpjlhiaa.Q

namespace Go.Proofs.Yteakipdmpjlhiaa.Q
open Go.RowKit Go.Proofs.YteakipdmpjlhiaaW.PrintWords Go.Proofs.YteakipdmpjlhiaaW.PrintLast Go.Proofs.YteakipdmpjlhiaaW.PrintMore
attribute [local go_sem] max2_int min2_int max_two min_two max_three min_three max_four min_four bn_leq bn_gtr bn_geq   -- for this text's walks alone
set_option linter.unusedVariables false
set_option linter.unusedSimpArgs false

/-! ### laws_FnSquareFree: function 3 (this session's own) -/
set_option maxHeartbeats 64000000 in
set_option maxRecDepth 100000 in
theorem laws_FnSquareFree.paths (k : Nat) (A0 : Option Addr) (cc : Nat) (l0 : List Int) (wd x y fst g : ByteArray) (kk a b bb m j n l cnt fi fq c1 c6 c10 c13 c15 c16 c18 c20 : Int) (P : List Int) (eb b1 b2 : Bool) (w : World) (hr0 : Kd.C (Kd.int .u8) w A0 l0.length l0) (hc0 : l0.length ≤ cc) (hbig : l0.length ≤ 4096) (hD1 : spec_DrawLettersNext.f k l0 = some (wd, kk)) (hI1 : impl_LettersNext.f k wd kk = some (P, c1)) (hS1 : spec_LettersNext.f k wd kk = some (P, c1)) (hL : laws_likeInts.f k P P = some true) (hD2 : spec_DrawGreatestExponent.f k l0 = some x) (hI2 : impl_GreatestExponent.f k x = some (a, b, c6)) (hS2 : spec_GreatestExponent.f k x = some (a, b, c6)) (hD3 : spec_DrawFirstSquareFree.f k l0 = some (m, j)) (hI3 : impl_FirstSquareFree.f k m j = some (fst, c10)) (hS3 : spec_FirstSquareFree.f k m j = some (fst, c10)) (hD4 : spec_DrawCountSquareFree.f k l0 = some (n, l)) (hI4 : impl_CountSquareFree.f k n l = some (cnt, c13)) (hS4 : spec_CountSquareFree.f k n l = some (cnt, c13)) (hD5 : spec_DrawFirstSquare.f k l0 = some y) (hI5 : impl_FirstSquare.f k y = some (fi, fq, c16)) (hS5 : spec_FirstSquare.f k y = some (fi, fq, c16)) (hI6 : impl_IsSquareFree.f k y = some (b1, c18)) (hS6 : spec_IsSquareFree.f k y = some (b1, c18)) (hI7 : impl_IsOverlapFree.f k y = some (b2, c20)) (hS7 : spec_IsOverlapFree.f k y = some (b2, c20)) (hPs : P.length ≤ 1000) (f1 : c1 ≠ 0 ∨ (c1 = 0 ∧ ∀ j : Nat, j < P.length → ∃ u v, impl_WordOfLetters.f k [rd P j] = some (u, 0) ∧ impl_ProductOf.f wd u = some (v, 0) ∧ impl_IsSquareFree.f k v = some (true, 0))) (f2 : c6 ≠ 0 ∨ (c6 = 0 ∧ wrap64 (2 * b) = bb ∧ impl_IsSquareFree.f k x = some (decide (a < bb), 0) ∧ impl_IsOverlapFree.f k x = some (decide (a ≤ bb), 0))) (f3 : c10 ≠ 0 ∨ (c10 = 0 ∧ impl_IsSquareFree.f k fst = some (true, 0) ∧ (fst.size : Int) = m)) (f4 : c13 ≠ 0 ∨ (c13 = 0 ∧ impl_FirstSquareFree.f k n l = some (g, c15) ∧ (c15 == 0) = eb ∧ decide (0 < cnt) = eb)) :
    Calls Try.prog 3 #[.slice A0 l0.length cc] w fun e w' => e = .returned (.bool true) ∧ Below w.heap.size w w' := by
  have HR0 := Aside0.mk hr0
  have HB := Aside0.mk (Below.refl w.heap.size w)
  have cG := Aside0.mk (fun W h => laws_big.calls A0 cc l0 false W h hc0 (by unfold laws_big.f; rw [decide_eq_false (by omega)]))
  have cD1 := Aside0.mk (fun W h => spec_DrawLettersNext.calls k A0 cc l0 _ _ W h hc0 hD1)
  have cD2 := Aside0.mk (fun W h => spec_DrawGreatestExponent.calls k A0 cc l0 _ W h hc0 hD2)
  have cD3 := Aside0.mk (fun W h => spec_DrawFirstSquareFree.calls k A0 cc l0 _ _ W h hc0 hD3)
  have cD4 := Aside0.mk (fun W h => spec_DrawCountSquareFree.calls k A0 cc l0 _ _ W h hc0 hD4)
  have cD5 := Aside0.mk (fun W h => spec_DrawFirstSquare.calls k A0 cc l0 _ W h hc0 hD5)
  have cI1 := Aside0.mk (fun W => impl_LettersNext.calls k wd kk P _ W hI1)
  have cI2 := Aside0.mk (fun W => impl_GreatestExponent.calls k x _ _ _ W hI2)
  have cI3 := Aside0.mk (fun W => impl_FirstSquareFree.calls k m j _ _ W hI3)
  have cI4 := Aside0.mk (fun W => impl_CountSquareFree.calls k n l _ _ W hI4)
  have cI5 := Aside0.mk (fun W => impl_FirstSquare.calls k y _ _ _ W hI5)
  have cI6 := Aside0.mk (fun W => impl_IsSquareFree.calls k y _ _ W hI6)
  have cI7 := Aside0.mk (fun W => impl_IsOverlapFree.calls k y _ _ W hI7)
  have cS1 := Aside0.mk (fun W => spec_LettersNext.calls k wd kk P _ W hS1)
  have cS2 := Aside0.mk (fun W => spec_GreatestExponent.calls k x _ _ _ W hS2)
  have cS3 := Aside0.mk (fun W => spec_FirstSquareFree.calls k m j _ _ W hS3)
  have cS4 := Aside0.mk (fun W => spec_CountSquareFree.calls k n l _ _ W hS4)
  have cS5 := Aside0.mk (fun W => spec_FirstSquare.calls k y _ _ _ W hS5)
  have cS6 := Aside0.mk (fun W => spec_IsSquareFree.calls k y _ _ W hS6)
  have cS7 := Aside0.mk (fun W => spec_IsOverlapFree.calls k y _ _ W hS7)
  have cE := Aside0.mk (fun W (A0 : Option Addr) (c0 : Nat) (A1 : Option Addr) (c1 : Nat) h0 h1 h2 h3 => laws_likeInts.calls k A0 c0 P A1 c1 P true W h0 h1 h2 h3 hL)
  have d1 : (fst.toList != fst.toList) = false := by simp
  have d2 : (a != a) = false := by simp
  have d3 : (b != b) = false := by simp
  have d4 : (cnt != cnt) = false := by simp
  have d5 : (fi == fi) = true := by simp
  have d6 : (fq == fq) = true := by simp
  have d7 : (c16 == c16) = true := by simp
  have d8 : (c18 == c18) = true := by simp
  have d9 : (c20 == c20) = true := by simp
  have d10 : (b1 == b1) = true := by cases b1 <;> rfl
  have d11 : (b2 == b2) = true := by cases b2 <;> rfl
  have d12 : ((0 : Int) != 0) = false := rfl
  have d13 : ((0 : Int) == 0) = true := rfl
  replace hPs := Aside0.mk hPs
  replace f1 := Aside0.mk f1
  replace f2 := Aside0.mk f2
  replace f3 := Aside0.mk f3
  replace f4 := Aside0.mk f4
  clear hr0 hc0 hbig hD1 hI1 hS1 hL hD2 hI2 hS2 hD3 hI3 hS3 hD4 hI4 hS4 hD5 hI5 hS5 hI6 hS6 hI7 hS7
  go_enter Try.func3, Try.ntmps3
  go_wp2_with (first
    | (go_at_call 4; refine (cG.out _ (Kd.C_below HR0.out HB.out)).mono ?_; rintro e w1x ⟨rfl, hd⟩; have hb := hd.below; clear hd; replace HB := Aside0.mk (below_then HB.out HB.out.size hb); clear hb)
    | (go_at_call 5; refine (cD1.out _ (Kd.C_below HR0.out HB.out)).mono ?_; rintro e w2x ⟨rfl, hb⟩; replace HB := Aside0.mk (below_then HB.out HB.out.size hb); clear hb)
    | (go_at_call 6; refine (cI1.out _ ).mono ?_; rintro e w3x ⟨vw3x, rfl, ho, hb⟩; obtain ⟨AHP, eHP, rfl⟩ := Kd.R_slice ho; have HP := Aside0.mk ho; clear ho; replace HB := Aside0.mk (below_then HB.out HB.out.size hb); clear hb)
    | (go_at_call 7; refine (cS1.out _ ).mono ?_; rintro e w4x ⟨vw4x, rfl, ho, hb⟩; obtain ⟨AHS, eHS, rfl⟩ := Kd.R_slice ho; replace HP := Aside0.mk (Kd.R_below HP.out hb); have HS := Aside0.mk ho; clear ho; replace HB := Aside0.mk (below_then HB.out HB.out.size hb); clear hb))
  rcases f1.out with hc1 | ⟨rfl, hall⟩
  all_goals as_aux_lemma =>
    clear f1
    try (have ec1 : (c1 == 0) = false := beq_eq_false_iff_ne.mpr hc1; have sc1 : (c1 != c1) = false := (by simp); clear hc1)
    try replace hall := Aside0.mk hall
    go_wp2_with (first
      | (go_at_call 8; refine (cE.out _ _ _ _ _ (Kd.R_reads' HP.out).2.2 (Kd.R_reads' HP.out).2.1 (Kd.R_reads' HS.out).2.2 (Kd.R_reads' HS.out).2.1).mono ?_; rintro e w5x ⟨rfl, hd⟩; have hb := hd.below; clear hd; replace HP := Aside0.mk (Kd.R_below HP.out hb); replace HS := Aside0.mk (Kd.R_below HS.out hb); replace HB := Aside0.mk (below_then HB.out HB.out.size hb); clear hb; clear HS)
      | (go_at_call 12; refine (cD2.out _ (Kd.C_below HR0.out HB.out)).mono ?_; rintro e w6x ⟨rfl, hb⟩; replace HB := Aside0.mk (below_then HB.out HB.out.size hb); clear hb; try clear HP)
      | (go_at_call 13; refine (cI2.out _ ).mono ?_; rintro e w7x ⟨rfl, hb⟩; replace HB := Aside0.mk (below_then HB.out HB.out.size hb); clear hb))
    first
      | (go_loopg [9] P.length (fun gg v9 wr => ∃ kk : Nat, kk ≤ P.length ∧ P.length - kk ≤ gg ∧ v9 = .int .i64 kk ∧ Aside0 (Kd.R (Kd.int .i64) 2 wr w2x.heap.size (fun _ => True) (.slice AHP P.length eHP) P) ∧ Aside0 (Below w.heap.size w wr))
         case atStart => exact ⟨0, Nat.zero_le _, by omega, rfl, ⟨by (with_reducible repeat (first | apply Kd.R_alloc | apply Kd.R_drewN | apply Kd.R_drew)); exact HP.out⟩, ⟨by repeat (first | (with_reducible first | exact HB.out | apply below_alloc | apply pw_below_drewN | apply below_drew1) | exact HB.out)⟩⟩
         case round =>
           clear HP HB
           obtain ⟨ii, hkk, hgg, rfl, HP, HB⟩ := hrel
           have hPs2 := hPs.out
           by_cases hlt : ii < P.length
           · obtain ⟨u, v, g1, g2, g3⟩ := hall.out ii hlt
             obtain ⟨z, hz⟩ : ∃ z : Int, z = (ii : Int) := ⟨_, rfl⟩
             rw [← hz] at g1 ⊢
             have hlt1 := Aside0.mk hlt
             have zl : z < (P.length : Int) := by omega
             have z0 : (0 : Int) ≤ z := by omega
             have b1_ : decide (z < (P.length : Int)) = true := decide_eq_true zl
             have hw5 := Aside0.mk (show wrap64 (z + 1) = ((ii + 1 : Nat) : Int) by rw [w64 (by omega) (by omega)]; omega)
             obtain ⟨ad, ead, hcell⟩ := Kd.at_int (Kd.R_reads' HP.out).2.2 z z0 zl
             subst ead
             obtain ⟨x0, hx0⟩ : ∃ x0, x0 = rd P z := ⟨_, rfl⟩
             rw [← hx0] at g1 hcell
             have cW := Aside0.mk (fun W (A0 : Option Addr) (c0 : Nat) h0 h1 => impl_WordOfLetters.calls k A0 c0 [x0] u 0 W h0 h1 g1)
             have cQ := Aside0.mk (fun W => impl_ProductOf.calls wd u v 0 W g2)
             have cF := Aside0.mk (fun W => impl_IsSquareFree.calls k v true 0 W g3)
             clear hx0 hPs2 hz hlt g1 g2 g3
             replace z0 := eq_true z0
             replace zl := eq_true zl
             go_wp2_with (first
               | ((with_reducible refine gate_dst (N := 99) rfl ?_); refine Kd.R_lit (Kd.int .i64) _ 2 ?hg (N := 99) ?hd (xs := ([x0] : List Int)) (inner := [.int .i64 x0]) (ok := fun _ => True) (okp := fun _ => True) ?hr ?hp (fun _ hk => hk) trivial (Below.refl _ _) (Nat.le_refl _) (by simp) ?_; (case hd => rfl); (case hg => rfl); (case hr => first | (go_simp; done) | (go_simp; rfl)); (case hp => exact (Reps.one (show Kd.M (Kd.int .i64) _ _ _ x0 [.int .i64 x0] from rfl) (Reps.none _ _))); intro vl wl hol hb hg_ hnew_; clear hg_ hnew_; replace HP := Aside0.mk (Kd.R_below HP.out hb); replace HB := Aside0.mk (below_then HB.out HB.out.size hb); clear hb; obtain ⟨Aol, col, eol⟩ := Kd.R_slice hol; subst eol; have HL := Aside0.mk hol; clear hol)
               | (go_at_call 9; refine (cW.out _ _ _ (Kd.R_reads' HL.out).2.2 (Kd.R_reads' HL.out).2.1).mono ?_; rintro e wa ⟨rfl, hb⟩; clear HL; replace HP := Aside0.mk (Kd.R_below HP.out hb); replace HB := Aside0.mk (below_then HB.out HB.out.size hb); clear hb)
               | (go_at_call 10; refine (cQ.out _).mono ?_; rintro e wb ⟨rfl, hb⟩; replace HP := Aside0.mk (Kd.R_below HP.out hb); replace HB := Aside0.mk (below_then HB.out HB.out.size hb); clear hb)
               | (go_at_call 11; refine (cF.out _).mono ?_; rintro e wc ⟨rfl, hb⟩; replace HP := Aside0.mk (Kd.R_below HP.out hb); replace HB := Aside0.mk (below_then HB.out HB.out.size hb); clear hb))
             go_roundg (P.length - (ii + 1))
             case measure => have := hlt1.out; omega
             case rel => exact ⟨ii + 1, by have := hlt1.out; omega, by omega, by first | rfl | rw [hw5.out], ⟨by (with_reducible repeat (first | apply Kd.R_alloc | apply Kd.R_drewN | apply Kd.R_drew)); exact HP.out⟩, ⟨by repeat (first | (with_reducible first | exact HB.out | apply below_alloc | apply pw_below_drewN | apply below_drew1) | exact HB.out)⟩⟩
           · have hltz : ¬ (ii : Int) < (P.length : Int) := by omega
             have b1_ := decide_eq_false hltz
             have b2_ := decide_eq_false hlt
             clear HP hkk hgg hPs2
             go_wp2_with (first
               | (go_at_call 12; refine (cD2.out _ (Kd.C_below HR0.out HB.out)).mono ?_; rintro e w6x ⟨rfl, hb⟩; replace HB := Aside0.mk (below_then HB.out HB.out.size hb); clear hb; try clear HP)
               | (go_at_call 13; refine (cI2.out _ ).mono ?_; rintro e w7x ⟨rfl, hb⟩; replace HB := Aside0.mk (below_then HB.out HB.out.size hb); clear hb))
             clear hlt hltz b1_ b2_
             rcases f2.out with hc6 | ⟨rfl, hbb, hG1, hG2⟩
             all_goals as_aux_lemma =>
               clear f2
               try have cG1 := Aside0.mk (fun W => impl_IsSquareFree.calls k x _ _ W hG1)
               try have cG2 := Aside0.mk (fun W => impl_IsOverlapFree.calls k x _ _ W hG2)
               try (obtain ⟨q1, hq1⟩ : ∃ q1 : Bool, decide (a < bb) = q1 := ⟨_, rfl⟩; obtain ⟨q2, hq2⟩ : ∃ q2 : Bool, decide (a ≤ bb) = q2 := ⟨_, rfl⟩; rw [hq1] at cG1; rw [hq2] at cG2; have dq1 : (q1 != q1) = false := (by cases q1 <;> rfl); have dq2 : (q2 != q2) = false := (by cases q2 <;> rfl); clear hG1 hG2)
               try (have ec6 : (c6 == 0) = false := beq_eq_false_iff_ne.mpr hc6; have sc6 : (c6 != c6) = false := (by simp); clear hc6)
               go_wp2_with (first
                 | (go_at_call 14; refine (cS2.out _ ).mono ?_; rintro e w8x ⟨rfl, hd⟩; have hb := hd.below; clear hd; replace HB := Aside0.mk (below_then HB.out HB.out.size hb); clear hb)
                 | (go_at_call 11; refine (cG1.out _ ).mono ?_; rintro e w9x ⟨rfl, hb⟩; replace HB := Aside0.mk (below_then HB.out HB.out.size hb); clear hb)
                 | (go_at_call 15; refine (cG2.out _ ).mono ?_; rintro e w10x ⟨rfl, hb⟩; replace HB := Aside0.mk (below_then HB.out HB.out.size hb); clear hb)
                 | (go_at_call 16; refine (cD3.out _ (Kd.C_below HR0.out HB.out)).mono ?_; rintro e w11x ⟨rfl, hb⟩; replace HB := Aside0.mk (below_then HB.out HB.out.size hb); clear hb)
                 | (go_at_call 17; refine (cI3.out _ ).mono ?_; rintro e w12x ⟨rfl, hb⟩; replace HB := Aside0.mk (below_then HB.out HB.out.size hb); clear hb))
               rcases f3.out with hc10 | ⟨rfl, hK, hM⟩
               all_goals as_aux_lemma =>
                 clear f3
                 try have cK := Aside0.mk (fun W => impl_IsSquareFree.calls k fst _ _ W hK)
                 try have dm : ((fst.size : Int) != m) = false := (by rw [hM]; simp)
                 try clear hK hM
                 try (have ec10 : (c10 == 0) = false := beq_eq_false_iff_ne.mpr hc10; have sc10 : (c10 != c10) = false := (by simp); clear hc10)
                 go_wp2_with (first
                   | (go_at_call 18; refine (cS3.out _ ).mono ?_; rintro e w13x ⟨rfl, hb⟩; replace HB := Aside0.mk (below_then HB.out HB.out.size hb); clear hb)
                   | (go_at_call 11; refine (cK.out _ ).mono ?_; rintro e w14x ⟨rfl, hb⟩; replace HB := Aside0.mk (below_then HB.out HB.out.size hb); clear hb)
                   | (go_at_call 19; refine (cD4.out _ (Kd.C_below HR0.out HB.out)).mono ?_; rintro e w15x ⟨rfl, hb⟩; replace HB := Aside0.mk (below_then HB.out HB.out.size hb); clear hb)
                   | (go_at_call 20; refine (cI4.out _ ).mono ?_; rintro e w16x ⟨rfl, hb⟩; replace HB := Aside0.mk (below_then HB.out HB.out.size hb); clear hb))
                 rcases f4.out with hc13 | ⟨rfl, hO, hO1, hO2⟩
                 all_goals as_aux_lemma =>
                   clear f4
                   try have cO := Aside0.mk (fun W => impl_FirstSquareFree.calls k n l _ _ W hO)
                   try have dO : (eb != eb) = false := (by cases eb <;> rfl)
                   try clear hO
                   try (have ec13 : (c13 == 0) = false := beq_eq_false_iff_ne.mpr hc13; have sc13 : (c13 != c13) = false := (by simp); clear hc13)
                   go_wp2_with (first
                     | (go_at_call 21; refine (cS4.out _ ).mono ?_; rintro e w17x ⟨rfl, hb⟩; replace HB := Aside0.mk (below_then HB.out HB.out.size hb); clear hb)
                     | (go_at_call 17; refine (cO.out _ ).mono ?_; rintro e w18x ⟨rfl, hb⟩; replace HB := Aside0.mk (below_then HB.out HB.out.size hb); clear hb)
                     | (go_at_call 22; refine (cD5.out _ (Kd.C_below HR0.out HB.out)).mono ?_; rintro e w19x ⟨rfl, hb⟩; replace HB := Aside0.mk (below_then HB.out HB.out.size hb); clear hb)
                     | (go_at_call 23; refine (cI5.out _ ).mono ?_; rintro e w20x ⟨rfl, hb⟩; replace HB := Aside0.mk (below_then HB.out HB.out.size hb); clear hb)
                     | (go_at_call 24; refine (cS5.out _ ).mono ?_; rintro e w21x ⟨rfl, hb⟩; replace HB := Aside0.mk (below_then HB.out HB.out.size hb); clear hb)
                     | (go_at_call 11; refine (cI6.out _ ).mono ?_; rintro e w22x ⟨rfl, hb⟩; replace HB := Aside0.mk (below_then HB.out HB.out.size hb); clear hb)
                     | (go_at_call 25; refine (cS6.out _ ).mono ?_; rintro e w23x ⟨rfl, hb⟩; replace HB := Aside0.mk (below_then HB.out HB.out.size hb); clear hb)
                     | (go_at_call 15; refine (cI7.out _ ).mono ?_; rintro e w24x ⟨rfl, hb⟩; replace HB := Aside0.mk (below_then HB.out HB.out.size hb); clear hb)
                     | (go_at_call 26; refine (cS7.out _ ).mono ?_; rintro e w25x ⟨rfl, hb⟩; replace HB := Aside0.mk (below_then HB.out HB.out.size hb); clear hb))
                   go_ret
                   exact ⟨by first | rfl | simp, HB.out⟩)
      | (rcases f2.out with hc6 | ⟨rfl, hbb, hG1, hG2⟩
         all_goals as_aux_lemma =>
           clear f2
           try have cG1 := Aside0.mk (fun W => impl_IsSquareFree.calls k x _ _ W hG1)
           try have cG2 := Aside0.mk (fun W => impl_IsOverlapFree.calls k x _ _ W hG2)
           try (obtain ⟨q1, hq1⟩ : ∃ q1 : Bool, decide (a < bb) = q1 := ⟨_, rfl⟩; obtain ⟨q2, hq2⟩ : ∃ q2 : Bool, decide (a ≤ bb) = q2 := ⟨_, rfl⟩; rw [hq1] at cG1; rw [hq2] at cG2; have dq1 : (q1 != q1) = false := (by cases q1 <;> rfl); have dq2 : (q2 != q2) = false := (by cases q2 <;> rfl); clear hG1 hG2)
           try (have ec6 : (c6 == 0) = false := beq_eq_false_iff_ne.mpr hc6; have sc6 : (c6 != c6) = false := (by simp); clear hc6)
           go_wp2_with (first
             | (go_at_call 14; refine (cS2.out _ ).mono ?_; rintro e w8x ⟨rfl, hd⟩; have hb := hd.below; clear hd; replace HB := Aside0.mk (below_then HB.out HB.out.size hb); clear hb)
             | (go_at_call 11; refine (cG1.out _ ).mono ?_; rintro e w9x ⟨rfl, hb⟩; replace HB := Aside0.mk (below_then HB.out HB.out.size hb); clear hb)
             | (go_at_call 15; refine (cG2.out _ ).mono ?_; rintro e w10x ⟨rfl, hb⟩; replace HB := Aside0.mk (below_then HB.out HB.out.size hb); clear hb)
             | (go_at_call 16; refine (cD3.out _ (Kd.C_below HR0.out HB.out)).mono ?_; rintro e w11x ⟨rfl, hb⟩; replace HB := Aside0.mk (below_then HB.out HB.out.size hb); clear hb)
             | (go_at_call 17; refine (cI3.out _ ).mono ?_; rintro e w12x ⟨rfl, hb⟩; replace HB := Aside0.mk (below_then HB.out HB.out.size hb); clear hb))
           rcases f3.out with hc10 | ⟨rfl, hK, hM⟩
           all_goals as_aux_lemma =>
             clear f3
             try have cK := Aside0.mk (fun W => impl_IsSquareFree.calls k fst _ _ W hK)
             try have dm : ((fst.size : Int) != m) = false := (by rw [hM]; simp)
             try clear hK hM
             try (have ec10 : (c10 == 0) = false := beq_eq_false_iff_ne.mpr hc10; have sc10 : (c10 != c10) = false := (by simp); clear hc10)
             go_wp2_with (first
               | (go_at_call 18; refine (cS3.out _ ).mono ?_; rintro e w13x ⟨rfl, hb⟩; replace HB := Aside0.mk (below_then HB.out HB.out.size hb); clear hb)
               | (go_at_call 11; refine (cK.out _ ).mono ?_; rintro e w14x ⟨rfl, hb⟩; replace HB := Aside0.mk (below_then HB.out HB.out.size hb); clear hb)
               | (go_at_call 19; refine (cD4.out _ (Kd.C_below HR0.out HB.out)).mono ?_; rintro e w15x ⟨rfl, hb⟩; replace HB := Aside0.mk (below_then HB.out HB.out.size hb); clear hb)
               | (go_at_call 20; refine (cI4.out _ ).mono ?_; rintro e w16x ⟨rfl, hb⟩; replace HB := Aside0.mk (below_then HB.out HB.out.size hb); clear hb))
             rcases f4.out with hc13 | ⟨rfl, hO, hO1, hO2⟩
             all_goals as_aux_lemma =>
               clear f4
               try have cO := Aside0.mk (fun W => impl_FirstSquareFree.calls k n l _ _ W hO)
               try have dO : (eb != eb) = false := (by cases eb <;> rfl)
               try clear hO
               try (have ec13 : (c13 == 0) = false := beq_eq_false_iff_ne.mpr hc13; have sc13 : (c13 != c13) = false := (by simp); clear hc13)
               go_wp2_with (first
                 | (go_at_call 21; refine (cS4.out _ ).mono ?_; rintro e w17x ⟨rfl, hb⟩; replace HB := Aside0.mk (below_then HB.out HB.out.size hb); clear hb)
                 | (go_at_call 17; refine (cO.out _ ).mono ?_; rintro e w18x ⟨rfl, hb⟩; replace HB := Aside0.mk (below_then HB.out HB.out.size hb); clear hb)
                 | (go_at_call 22; refine (cD5.out _ (Kd.C_below HR0.out HB.out)).mono ?_; rintro e w19x ⟨rfl, hb⟩; replace HB := Aside0.mk (below_then HB.out HB.out.size hb); clear hb)
                 | (go_at_call 23; refine (cI5.out _ ).mono ?_; rintro e w20x ⟨rfl, hb⟩; replace HB := Aside0.mk (below_then HB.out HB.out.size hb); clear hb)
                 | (go_at_call 24; refine (cS5.out _ ).mono ?_; rintro e w21x ⟨rfl, hb⟩; replace HB := Aside0.mk (below_then HB.out HB.out.size hb); clear hb)
                 | (go_at_call 11; refine (cI6.out _ ).mono ?_; rintro e w22x ⟨rfl, hb⟩; replace HB := Aside0.mk (below_then HB.out HB.out.size hb); clear hb)
                 | (go_at_call 25; refine (cS6.out _ ).mono ?_; rintro e w23x ⟨rfl, hb⟩; replace HB := Aside0.mk (below_then HB.out HB.out.size hb); clear hb)
                 | (go_at_call 15; refine (cI7.out _ ).mono ?_; rintro e w24x ⟨rfl, hb⟩; replace HB := Aside0.mk (below_then HB.out HB.out.size hb); clear hb)
                 | (go_at_call 26; refine (cS7.out _ ).mono ?_; rintro e w25x ⟨rfl, hb⟩; replace HB := Aside0.mk (below_then HB.out HB.out.size hb); clear hb))
               go_ret
               exact ⟨by first | rfl | simp, HB.out⟩)
set_option maxHeartbeats 2000000 in
set_option maxRecDepth 100000 in
theorem laws_FnSquareFree.long (A0 : Option Addr) (cc : Nat) (l0 : List Int) (w : World) (hr0 : Kd.C (Kd.int .u8) w A0 l0.length l0) (hc0 : l0.length ≤ cc) (hbig : l0.length > 4096) :
    Calls Try.prog 3 #[.slice A0 l0.length cc] w fun e w' => e = .returned (.bool true) ∧ Below w.heap.size w w' := by
  have cG := Aside0.mk (fun W h => laws_big.calls A0 cc l0 true W h hc0 (by unfold laws_big.f; rw [decide_eq_true (by omega)]))
  have HR0 := Aside0.mk hr0
  clear hr0 hc0 hbig
  go_enter Try.func3, Try.ntmps3
  go_wp2_with (go_at_call 4; refine (cG.out _ HR0.out).mono ?_; rintro e wg ⟨rfl, hd⟩; have HB := Aside0.mk hd.below; clear hd)
  go_ret
  exact ⟨rfl, HB.out⟩
def laws_FnSquareFree.Pure : Prop := ∀ (l0 : List Int), l0.length ≤ maxLen → l0.length * 1 ≤ 140737488351232 → (∀ x ∈ l0, (Lit.int .u8 x).wf = true) → l0.length > 4096 ∨ (l0.length ≤ 4096 ∧ ∃ (k : Nat) (wd x y fst g : ByteArray) (kk a b bb m j n l cnt fi fq c1 c6 c10 c13 c15 c16 c18 c20 : Int) (P : List Int) (eb b1 b2 : Bool),
  spec_DrawLettersNext.f k l0 = some (wd, kk) ∧ impl_LettersNext.f k wd kk = some (P, c1) ∧ spec_LettersNext.f k wd kk = some (P, c1) ∧ laws_likeInts.f k P P = some true ∧ spec_DrawGreatestExponent.f k l0 = some x ∧ impl_GreatestExponent.f k x = some (a, b, c6) ∧ spec_GreatestExponent.f k x = some (a, b, c6) ∧ spec_DrawFirstSquareFree.f k l0 = some (m, j) ∧ impl_FirstSquareFree.f k m j = some (fst, c10) ∧ spec_FirstSquareFree.f k m j = some (fst, c10) ∧ spec_DrawCountSquareFree.f k l0 = some (n, l) ∧ impl_CountSquareFree.f k n l = some (cnt, c13) ∧ spec_CountSquareFree.f k n l = some (cnt, c13) ∧ spec_DrawFirstSquare.f k l0 = some y ∧ impl_FirstSquare.f k y = some (fi, fq, c16) ∧ spec_FirstSquare.f k y = some (fi, fq, c16) ∧ impl_IsSquareFree.f k y = some (b1, c18) ∧ spec_IsSquareFree.f k y = some (b1, c18) ∧ impl_IsOverlapFree.f k y = some (b2, c20) ∧ spec_IsOverlapFree.f k y = some (b2, c20) ∧ P.length ≤ 1000 ∧
  (c1 ≠ 0 ∨ (c1 = 0 ∧ ∀ j : Nat, j < P.length → ∃ u v, impl_WordOfLetters.f k [rd P j] = some (u, 0) ∧ impl_ProductOf.f wd u = some (v, 0) ∧ impl_IsSquareFree.f k v = some (true, 0))) ∧
  (c6 ≠ 0 ∨ (c6 = 0 ∧ wrap64 (2 * b) = bb ∧ impl_IsSquareFree.f k x = some (decide (a < bb), 0) ∧ impl_IsOverlapFree.f k x = some (decide (a ≤ bb), 0))) ∧
  (c10 ≠ 0 ∨ (c10 = 0 ∧ impl_IsSquareFree.f k fst = some (true, 0) ∧ (fst.size : Int) = m)) ∧
  (c13 ≠ 0 ∨ (c13 = 0 ∧ impl_FirstSquareFree.f k n l = some (g, c15) ∧ (c15 == 0) = eb ∧ decide (0 < cnt) = eb)))
theorem laws_FnSquareFree.walk (P : laws_FnSquareFree.Pure) (a0 : Option Addr) (len0 cap0 : Nat) (z0 : List Int) (w : World) (w0 : (a0 = none ∧ len0 = 0 ∧ cap0 = 0 ∧ z0 = []) ∨ ∃ x, a0 = some x ∧ len0 ≤ cap0 ∧ cap0 ≤ maxLen ∧ z0.length = cap0 ∧ (∀ i, i < z0.length → w.cell? (x.add i) = some (.int .u8 (z0.getD i 0))) ∧ ∀ n ∈ z0, (Lit.int .u8 n).wf = true) (y0 : len0 * 1 ≤ 140737488351232) :
    Calls Try.prog 3 #[.slice a0 len0 cap0] w fun e w' => e = .returned (.bool true) ∧ Below w.heap.size w w' := by
  obtain ⟨l0, rfl, hr0, hm0, hw0, hc0⟩ := ReadsInt.ofRowC w0
  have hr := Kd.C_of_reads (d := (0 : Int)) (h1 := fun _ => rfl) hr0
  rcases P l0 hm0 y0 hw0 with h | ⟨hb, k, wd, x, y, fst, g, kk, a, b, bb, m, j, n, l, cnt, fi, fq, c1, c6, c10, c13, c15, c16, c18, c20, P, eb, b1, b2, h0, h1, h2, h3, h4, h5, h6, h7, h8, h9, h10, h11, h12, h13, h14, h15, h16, h17, h18, h19, h20, f1, f2, f3, f4⟩
  · exact laws_FnSquareFree.long _ _ l0 w hr hc0 h
  · exact laws_FnSquareFree.paths k _ _ l0 wd x y fst g kk a b bb m j n l cnt fi fq c1 c6 c10 c13 c15 c16 c18 c20 P eb b1 b2 w hr hc0 hb h0 h1 h2 h3 h4 h5 h6 h7 h8 h9 h10 h11 h12 h13 h14 h15 h16 h17 h18 h19 h20 f1 f2 f3 f4


end Go.Proofs.Yteakipdmpjlhiaa.Q
