-- Made by this session's program hyb.py out of Lean's print of the program; Lean checks it.
import Derived.Test.YtjnpobaampgakabQx0
namespace Go.Proofs.Ytjnpobaampgakab.Q
open Go.RowKit Go.Proofs.YtjnpobaampgakabW.PrintWords Go.Proofs.YtjnpobaampgakabW.PrintLast Go.Proofs.YtjnpobaampgakabW.PrintMore
attribute [local go_sem] max2_int min2_int max_two min_two max_three min_three max_four min_four bn_leq bn_gtr bn_geq   -- for this text's walks alone
set_option linter.unusedVariables false
set_option linter.unusedSimpArgs false

/-! ### impl_leastTurned: function 50 -/
def impl_leastTurned.l0 : Nat → ByteArray → ByteArray → Int → Int → Int → Option (ByteArray × Int)
  | 0, _, _, _, _, _ => none
  | k + 1, x0, x4, x5, x10, x11 => if x11 < x10 then (if 0 ≤ x11 then (if x11 ≤ (x0.size : Int) then (if (x0.extract (x11 : Int).toNat x0.size).size + (x0.extract 0 (x11 : Int).toNat).size ≤ 9223372036854775807 then (if (Op.bytesLess (((x0.extract (x11 : Int).toNat x0.size) ++ (x0.extract 0 (x11 : Int).toNat)).toList) x4.toList) = true then (impl_leastTurned.l0 k x0 ((x0.extract (x11 : Int).toNat x0.size) ++ (x0.extract 0 (x11 : Int).toNat)) x11 x10 (wrap64 (x11 + 1))) else (impl_leastTurned.l0 k x0 x4 x5 x10 (wrap64 (x11 + 1)))) else (none)) else (none)) else (none)) else (some (x4, x5))
def impl_leastTurned.f (k : Nat) (a0 : ByteArray) : Option (ByteArray × Int) := impl_leastTurned.l0 k a0 a0 0 (a0.size : Int) 0
theorem impl_leastTurned.mono_l : ∀ k, (∀ y0 y1 y2 y3 y4, LeO (impl_leastTurned.l0 k y0 y1 y2 y3 y4) (impl_leastTurned.l0 (k + 1) y0 y1 y2 y3 y4))
  | 0 => fun _ _ _ _ _ r h => by simp [impl_leastTurned.l0] at h
  | k + 1 => by
    have ih0 := impl_leastTurned.mono_l k
    · intro y0 y1 y2 y3 y4
      unfold impl_leastTurned.l0
      repeat' first
      | (with_reducible exact ih0 _ _ _ _ _)
      | (with_reducible exact LeO.refl _)
      | (with_reducible exact LeO.none _)
      | (with_reducible refine LeO.ite ?_ ?_)
      | (with_reducible refine LeO.bind ?_ (fun _ => ?_))
      | exact ih0 _ _ _ _ _
      | exact LeO.none _
      | refine LeO.ite ?_ ?_
      | refine LeO.bind ?_ (fun _ => ?_)
theorem impl_leastTurned.mono : ∀ a0 k, LeO (impl_leastTurned.f k a0) (impl_leastTurned.f (k + 1) a0) := by
  intro a0 k
  have ih0 := impl_leastTurned.mono_l k
  unfold impl_leastTurned.f
  repeat' first
      | (with_reducible exact ih0 _ _ _ _ _)
      | (with_reducible exact LeO.refl _)
      | (with_reducible exact LeO.none _)
      | (with_reducible refine LeO.ite ?_ ?_)
      | (with_reducible refine LeO.bind ?_ (fun _ => ?_))
      | exact ih0 _ _ _ _ _
      | exact LeO.none _
      | refine LeO.ite ?_ ?_
      | refine LeO.bind ?_ (fun _ => ?_)
set_option maxHeartbeats 8000000 in
set_option maxRecDepth 100000 in
theorem impl_leastTurned.calls (k : Nat) (a0 : ByteArray) (r1 : ByteArray) (r2 : Int) (w : World) (h : impl_leastTurned.f k a0 = some (r1, r2)) :
    Calls Try.prog 50 #[.string a0] w fun e w' => e = .returned (.tuple #[.string r1, .int .i64 r2]) ∧ Drawn0 w w' := by
  have H : (impl_leastTurned.l0 k a0 a0 0 (a0.size : Int) 0) = some (r1, r2) := h
  clear h
  have H' := Aside0.mk H
  clear H
  go_enter Try.func50, Try.ntmps50
  go_wp2
  repeat (go_quiet (fail); try go_wp2)
  go_loopg [4, 5, 11] k (fun kq v4 v5 v11 w' => ∃ (x4_1 : ByteArray) (x5_1 : Int) (x11_1 : Int), v4 = .string x4_1 ∧ v5 = .int .i64 x5_1 ∧ v11 = .int .i64 x11_1 ∧ Aside0 (impl_leastTurned.l0 kq a0 x4_1 x5_1 (a0.size : Int) x11_1 = some (r1, r2)) ∧ Aside0 (kq ≤ k) ∧ Drawn0 w w')
  case atStart => exact ⟨(a0), (0), (0), (by first | rfl | (simp; done) | (simp [*]; done)), (by first | rfl | (simp; done) | (simp [*]; done)), (by first | rfl | (simp; done) | (simp [*]; done)), H', ⟨Nat.le_refl _⟩, by repeat (first | exact Drawn0.refl _ | apply Drawn0.step)⟩
  case round =>
    clear H'
    obtain ⟨x4_1, x5_1, x11_1, rfl, rfl, rfl, HA, HK1, ⟨m1, rfl⟩⟩ := hrel
    cases gk with
    | zero => exact absurd HA.out (by simp [impl_leastTurned.l0])
    | succ k1 =>
      have H := HA.out
      clear HA
      simp only [impl_leastTurned.l0] at H
      by_cases c2 : x11_1 < (a0.size : Int)
      · rw [if_pos c2] at H
        have c2b0 : decide (x11_1 < (a0.size : Int)) = true := decide_eq_true c2
        clear c2
        by_cases c3 : 0 ≤ x11_1
        · rw [if_pos c3] at H
          have c3b0 := eq_true c3
          have c3b1 : decide (0 ≤ x11_1) = true := decide_eq_true c3
          clear c3
          by_cases c4 : x11_1 ≤ (a0.size : Int)
          · rw [if_pos c4] at H
            have c4b0 := eq_true c4
            have c4b1 : decide (x11_1 ≤ (a0.size : Int)) = true := decide_eq_true c4
            clear c4
            have c5b0 := eq_true (of_decide_eq_true (by first | (with_reducible assumption) | assumption) : 0 ≤ x11_1)
            have c6b0 := eq_true (of_decide_eq_true (by first | (with_reducible assumption) | assumption) : x11_1 ≤ (a0.size : Int))
            by_cases c7 : (a0.extract (x11_1 : Int).toNat a0.size).size + (a0.extract 0 (x11_1 : Int).toNat).size ≤ 9223372036854775807
            · rw [if_pos c7] at H
              have c7b0 := eq_true c7
              have c7b1 : decide ((a0.extract (x11_1 : Int).toNat a0.size).size + (a0.extract 0 (x11_1 : Int).toNat).size ≤ 9223372036854775807) = true := decide_eq_true c7
              try have c7b2 : (9223372036854775807 < (a0.extract (x11_1 : Int).toNat a0.size).size + (a0.extract 0 (x11_1 : Int).toNat).size) = False := eq_false (Nat.not_lt.2 c7)
              by_cases c8 : (Op.bytesLess (((a0.extract (x11_1 : Int).toNat a0.size) ++ (a0.extract 0 (x11_1 : Int).toNat)).toList) x4_1.toList) = true
              · rw [if_pos c8] at H
                have c8b0 : (Op.bytesLess (((a0.extract (x11_1 : Int).toNat a0.size) ++ (a0.extract 0 (x11_1 : Int).toNat)).toList) x4_1.toList) = true := c8
                clear c8
                have H' := Aside0.mk H
                clear H
                go_wp2
                repeat (go_quiet (fail); try go_wp2)
                go_roundg k1
                case measure => have := HK1.out; omega
                case rel => exact ⟨((a0.extract (x11_1 : Int).toNat a0.size) ++ (a0.extract 0 (x11_1 : Int).toNat)), (x11_1), (wrap64 (x11_1 + 1)), (by first | rfl | (simp; done) | (simp [*]; done)), (by first | rfl | (simp; done) | (simp [*]; done)), (by first | rfl | (simp; done) | (simp [*]; done)), H', ⟨by have := HK1.out; omega⟩, by repeat (first | exact Drawn0.refl _ | apply Drawn0.step)⟩
              · rw [if_neg c8] at H
                have c8b0 : (Op.bytesLess (((a0.extract (x11_1 : Int).toNat a0.size) ++ (a0.extract 0 (x11_1 : Int).toNat)).toList) x4_1.toList) = false := by simpa using c8
                clear c8
                have H' := Aside0.mk H
                clear H
                go_wp2
                repeat (go_quiet (fail); try go_wp2)
                go_roundg k1
                case measure => have := HK1.out; omega
                case rel => exact ⟨(x4_1), (x5_1), (wrap64 (x11_1 + 1)), (by first | rfl | (simp; done) | (simp [*]; done)), (by first | rfl | (simp; done) | (simp [*]; done)), (by first | rfl | (simp; done) | (simp [*]; done)), H', ⟨by have := HK1.out; omega⟩, by repeat (first | exact Drawn0.refl _ | apply Drawn0.step)⟩
            · rw [if_neg c7] at H
              exact absurd H (by simp)
          · rw [if_neg c4] at H
            exact absurd H (by simp)
        · rw [if_neg c3] at H
          exact absurd H (by simp)
      · rw [if_neg c2] at H
        have c2b0 : decide (x11_1 < (a0.size : Int)) = false := decide_eq_false c2
        clear c2
        simp only [Option.some.injEq, Prod.mk.injEq] at H
        obtain ⟨rfl, rfl⟩ := H
        go_wp2
        repeat (go_quiet (fail); try go_wp2)
        go_ret2
        exact ⟨by first | rfl | (simp; done) | (simp [*]; done), by repeat (first | exact Drawn0.refl _ | apply Drawn0.step)⟩

end Go.Proofs.Ytjnpobaampgakab.Q
