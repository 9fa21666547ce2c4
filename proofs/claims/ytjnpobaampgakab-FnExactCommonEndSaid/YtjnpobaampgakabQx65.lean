-- Made by this session's program hyb.py out of Lean's print of the program; Lean checks it.
import Derived.Test.YtjnpobaampgakabQx0
namespace Go.Proofs.Ytjnpobaampgakab.Q
open Go.RowKit Go.Proofs.YtjnpobaampgakabW.PrintWords Go.Proofs.YtjnpobaampgakabW.PrintLast Go.Proofs.YtjnpobaampgakabW.PrintMore
attribute [local go_sem] max2_int min2_int max_two min_two max_three min_three max_four min_four bn_leq bn_gtr bn_geq   -- for this text's walks alone
set_option linter.unusedVariables false
set_option linter.unusedSimpArgs false

/-! ### impl_common: function 65 (this session's own) -/
def impl_common.f (a0 a1 : ByteArray) : Option ByteArray := if a0.size ≤ 9223372036854775806 ∧ a1.size ≤ 9223372036854775806 then some (a0.extract 0 (comN a0 a1)) else none
set_option maxHeartbeats 4000000 in
theorem impl_common.calls (a0 a1 : ByteArray) (r : ByteArray) (w : World) (h : impl_common.f a0 a1 = some r) :
    Calls Try.prog 65 #[.string a0, .string a1] w fun e w' => e = .returned (.string r) ∧ Drawn0 w w' := by
  unfold impl_common.f at h
  by_cases hbig : a0.size ≤ 9223372036854775806 ∧ a1.size ≤ 9223372036854775806
  · rw [if_pos hbig] at h
    have hr : Aside0 (r = a0.extract 0 (comN a0 a1)) := ⟨(Option.some.inj h).symm⟩
    clear h
    obtain ⟨hb0, hb1⟩ := hbig
    go_enter Try.func65, Try.ntmps65
    go_wp2
    go_loopg [5] (a0.size + 1) (fun gg v5 wr => ∃ (n : Nat), n ≤ a0.size ∧ n ≤ a1.size ∧ a0.size - n < gg ∧ v5 = .int .i64 n ∧ Aside0 (∀ j, j < n → bt a0 j = bt a1 j) ∧ Drawn0 w wr)
    case atStart => exact ⟨0, Nat.zero_le _, Nat.zero_le _, by omega, rfl, ⟨fun j hj => absurd hj (Nat.not_lt_zero _)⟩, Drawn0.refl _⟩
    case round =>
      obtain ⟨n, hn0, hn1, hg, rfl, hx, ⟨m1, rfl⟩⟩ := hrel
      have hmn : Aside0 ((if (a1.size : Int) < a0.size then (a1.size : Int) else a0.size) = mn (a0.size : Int) a1.size) := ⟨rfl⟩
      by_cases hlt : n < a0.size ∧ n < a1.size
      · obtain ⟨h0, h1⟩ := hlt
        have p0 := eq_true (show (n : Int) < a0.size by omega)
        have p1 := eq_true (show (n : Int) < a1.size by omega)
        have p2 := decide_eq_true (show (n : Int) < a0.size by omega)
        have p3 := decide_eq_true (show (n : Int) < a1.size by omega)
        have hx0 : ∀ h : n < a0.size, ((a0[n]'h).toNat : Int) = bt a0 n := fun h => bt_at a0 n h
        have hx1 : ∀ h : n < a1.size, ((a1[n]'h).toNat : Int) = bt a1 n := fun h => bt_at a1 n h
        have p4 := decide_eq_true h0
        have p5 := decide_eq_true h1
        by_cases hs : (a1.size : Int) < a0.size
        all_goals
          by_cases he : bt a0 n = bt a1 n
          · have e1 : (bt a0 n == bt a1 n) = true := beq_iff_eq.mpr he
            have he' := Aside0.mk he
            clear he
            go_wp2
            go_quiet (fail)
            go_wp2
            go_roundg (a0.size - n)
            case measure => omega
            case rel => exact ⟨n + 1, by omega, by omega, by omega, by go_num, ⟨fun j hj => by
              by_cases e : j = n
              · subst e; exact he'.out
              · exact hx.out j (by omega)⟩, by repeat (first | exact Drawn0.refl _ | apply Drawn0.step)⟩
          · have e1 : (bt a0 n == bt a1 n) = false := beq_eq_false_iff_ne.mpr he
            have hc : Aside0 (comN a0 a1 = n) := ⟨comN_hit hx.out h0 h1 he⟩
            clear he
            have k1 := eq_true (show (n : Int) ≤ a0.size by omega)
            have k2 := decide_eq_true (show (n : Int) ≤ a0.size by omega)
            go_wp2
            go_quiet (fail)
            go_wp2
            go_ret
            exact ⟨by rw [hr.out, hc.out]; simp, by repeat (first | exact Drawn0.refl _ | apply Drawn0.step)⟩
      · have hc : Aside0 (comN a0 a1 = n) := ⟨comN_end hx.out (by omega)⟩
        have k1 := eq_true (show (n : Int) ≤ a0.size by omega)
        have k2 := decide_eq_true (show (n : Int) ≤ a0.size by omega)
        by_cases hs : (a1.size : Int) < a0.size
        · have p1 : ¬ (n : Int) < a1.size := by omega
          have p3 := decide_eq_false p1
          have p4 := decide_eq_false (show ¬ n < a1.size by omega)
          go_wp2
          go_quiet (fail)
          go_wp2
          go_ret
          exact ⟨by rw [hr.out, hc.out]; simp, by repeat (first | exact Drawn0.refl _ | apply Drawn0.step)⟩
        · have p1 : ¬ (n : Int) < a0.size := by omega
          have p3 := decide_eq_false p1
          have p4 := decide_eq_false (show ¬ n < a0.size by omega)
          go_wp2
          go_quiet (fail)
          go_wp2
          go_ret
          exact ⟨by rw [hr.out, hc.out]; simp, by repeat (first | exact Drawn0.refl _ | apply Drawn0.step)⟩
  · rw [if_neg hbig] at h; cases h


end Go.Proofs.Ytjnpobaampgakab.Q
