-- Made by this session's program hyb.py out of Lean's print of the program; Lean checks it.
import Derived.Test.YtjnpobaampgakadQx0
import Derived.Test.YtjnpobaampgakadQx57
import Derived.Test.YtjnpobaampgakadQx65
import Derived.Test.YtjnpobaampgakadQx77
namespace Go.Proofs.Ytjnpobaampgakad.Q
open Go.RowKit Go.Proofs.YtjnpobaampgakadW.PrintWords Go.Proofs.YtjnpobaampgakadW.PrintLast Go.Proofs.YtjnpobaampgakadW.PrintMore
attribute [local go_sem] max2_int min2_int max_two min_two max_three min_three max_four min_four bn_leq bn_gtr bn_geq   -- for this text's walks alone
set_option linter.unusedVariables false
set_option linter.unusedSimpArgs false

/-! ### impl_RunsOf: function 37 -/
mutual
def impl_RunsOf.l0 : Nat → ByteArray → List (S71) → Int → Int → Option ((List (S71)) × Int)
  | 0, _, _, _, _ => none
  | k + 1, x0, x5, x17, x18 => if x18 < x17 then (impl_RunsOf.l1 k x0 x5 x18 (wrap64 (x18 + 2)) x17 x18) else (some (x5, 0))
def impl_RunsOf.l1 : Nat → ByteArray → List (S71) → Int → Int → Int → Int → Option ((List (S71)) × Int)
  | 0, _, _, _, _, _, _ => none
  | k + 1, x0, x5, x6, x7, x17, x18 => if x7 ≤ (x0.size : Int) then (if 0 ≤ x6 then (if x6 ≤ x7 then ((impl_period.f k (x0.extract (x6 : Int).toNat (x7 : Int).toNat)).bind fun t340 => (if x6 > 0 then (if 0 ≤ (wrap64 (x6 - 1)) then (if (wrap64 (x6 - 1)) ≤ x7 then ((impl_hasPeriod.f (x0.extract ((wrap64 (x6 - 1)) : Int).toNat (x7 : Int).toNat) t340).bind fun t341 => (if t341 = true then (if (wrap64 (x7 - x6)) ≥ (wrap64 (2 * t340)) then (impl_RunsOf.l1 k x0 x5 x6 (wrap64 (x7 + 1)) x17 x18) else (impl_RunsOf.l1 k x0 x5 x6 (wrap64 (x7 + 1)) x17 x18)) else (if x7 < (x0.size : Int) then (if x6 ≤ (wrap64 (x7 + 1)) then (if (wrap64 (x7 + 1)) ≤ (x0.size : Int) then ((impl_hasPeriod.f (x0.extract (x6 : Int).toNat ((wrap64 (x7 + 1)) : Int).toNat) t340).bind fun t342 => (if (wrap64 (x7 - x6)) ≥ (wrap64 (2 * t340)) then (if t342 = true then (impl_RunsOf.l1 k x0 x5 x6 (wrap64 (x7 + 1)) x17 x18) else (if x5.length < 5864062014805 then (impl_RunsOf.l1 k x0 (x5 ++ [(⟨x6, x7, t340⟩ : S71)]) x6 (wrap64 (x7 + 1)) x17 x18) else (none))) else (impl_RunsOf.l1 k x0 x5 x6 (wrap64 (x7 + 1)) x17 x18))) else (none)) else (none)) else (if (wrap64 (x7 - x6)) ≥ (wrap64 (2 * t340)) then (if x5.length < 5864062014805 then (impl_RunsOf.l1 k x0 (x5 ++ [(⟨x6, x7, t340⟩ : S71)]) x6 (wrap64 (x7 + 1)) x17 x18) else (none)) else (impl_RunsOf.l1 k x0 x5 x6 (wrap64 (x7 + 1)) x17 x18))))) else (none)) else (none)) else (if x7 < (x0.size : Int) then (if x6 ≤ (wrap64 (x7 + 1)) then (if (wrap64 (x7 + 1)) ≤ (x0.size : Int) then ((impl_hasPeriod.f (x0.extract (x6 : Int).toNat ((wrap64 (x7 + 1)) : Int).toNat) t340).bind fun t349 => (if (wrap64 (x7 - x6)) ≥ (wrap64 (2 * t340)) then (if t349 = true then (impl_RunsOf.l1 k x0 x5 x6 (wrap64 (x7 + 1)) x17 x18) else (if x5.length < 5864062014805 then (impl_RunsOf.l1 k x0 (x5 ++ [(⟨x6, x7, t340⟩ : S71)]) x6 (wrap64 (x7 + 1)) x17 x18) else (none))) else (impl_RunsOf.l1 k x0 x5 x6 (wrap64 (x7 + 1)) x17 x18))) else (none)) else (none)) else (if (wrap64 (x7 - x6)) ≥ (wrap64 (2 * t340)) then (if x5.length < 5864062014805 then (impl_RunsOf.l1 k x0 (x5 ++ [(⟨x6, x7, t340⟩ : S71)]) x6 (wrap64 (x7 + 1)) x17 x18) else (none)) else (impl_RunsOf.l1 k x0 x5 x6 (wrap64 (x7 + 1)) x17 x18))))) else (none)) else (none)) else (impl_RunsOf.l0 k x0 x5 x17 (wrap64 (x18 + 1)))
end
def impl_RunsOf.f (k : Nat) (a0 : ByteArray) : Option ((List (S71)) × Int) := (impl_wordCode.f () (([a0] : List ByteArray))).bind fun t339 => (if t339 = 0 then (impl_RunsOf.l0 k a0 ([] : List (S71)) (a0.size : Int) 0) else (some (([] : List (S71)), t339)))
theorem impl_RunsOf.mono_l : ∀ k, (∀ y0 y1 y2 y3, LeO (impl_RunsOf.l0 k y0 y1 y2 y3) (impl_RunsOf.l0 (k + 1) y0 y1 y2 y3)) ∧ (∀ y0 y1 y2 y3 y4 y5, LeO (impl_RunsOf.l1 k y0 y1 y2 y3 y4 y5) (impl_RunsOf.l1 (k + 1) y0 y1 y2 y3 y4 y5))
  | 0 => ⟨fun _ _ _ _ r h => by simp [impl_RunsOf.l0] at h, fun _ _ _ _ _ _ r h => by simp [impl_RunsOf.l1] at h⟩
  | k + 1 => by
    obtain ⟨ih0, ih1⟩ := impl_RunsOf.mono_l k
    refine ⟨?_, ?_⟩
    · intro y0 y1 y2 y3
      unfold impl_RunsOf.l0
      repeat' first
      | (with_reducible exact ih0 _ _ _ _)
      | (with_reducible exact ih1 _ _ _ _ _ _)
      | (with_reducible exact impl_period.mono _ _)
      | (with_reducible exact LeO.refl _)
      | (with_reducible exact LeO.none _)
      | (with_reducible refine LeO.ite ?_ ?_)
      | (with_reducible refine LeO.bind ?_ (fun _ => ?_))
      | exact ih0 _ _ _ _
      | exact ih1 _ _ _ _ _ _
      | exact impl_period.mono _ _
      | exact LeO.none _
      | refine LeO.ite ?_ ?_
      | refine LeO.bind ?_ (fun _ => ?_)
    · intro y0 y1 y2 y3 y4 y5
      unfold impl_RunsOf.l1
      repeat' first
      | (with_reducible exact ih0 _ _ _ _)
      | (with_reducible exact ih1 _ _ _ _ _ _)
      | (with_reducible exact impl_period.mono _ _)
      | (with_reducible exact LeO.refl _)
      | (with_reducible exact LeO.none _)
      | (with_reducible refine LeO.ite ?_ ?_)
      | (with_reducible refine LeO.bind ?_ (fun _ => ?_))
      | exact ih0 _ _ _ _
      | exact ih1 _ _ _ _ _ _
      | exact impl_period.mono _ _
      | exact LeO.none _
      | refine LeO.ite ?_ ?_
      | refine LeO.bind ?_ (fun _ => ?_)
theorem impl_RunsOf.mono : ∀ a0 k, LeO (impl_RunsOf.f k a0) (impl_RunsOf.f (k + 1) a0) := by
  intro a0 k
  obtain ⟨ih0, ih1⟩ := impl_RunsOf.mono_l k
  unfold impl_RunsOf.f
  repeat' first
      | (with_reducible exact ih0 _ _ _ _)
      | (with_reducible exact ih1 _ _ _ _ _ _)
      | (with_reducible exact impl_period.mono _ _)
      | (with_reducible exact LeO.refl _)
      | (with_reducible exact LeO.none _)
      | (with_reducible refine LeO.ite ?_ ?_)
      | (with_reducible refine LeO.bind ?_ (fun _ => ?_))
      | exact ih0 _ _ _ _
      | exact ih1 _ _ _ _ _ _
      | exact impl_period.mono _ _
      | exact LeO.none _
      | refine LeO.ite ?_ ?_
      | refine LeO.bind ?_ (fun _ => ?_)
set_option maxHeartbeats 8000000 in
set_option maxRecDepth 100000 in
theorem impl_RunsOf.calls (k : Nat) (a0 : ByteArray) (r1 : List (S71)) (r2 : Int) (w : World) (h : impl_RunsOf.f k a0 = some (r1, r2)) :
    Calls Try.prog 37 #[.string a0] w fun e w' => ∃ v0_ : Value, e = .returned (.tuple #[v0_, .int .i64 r2]) ∧ Kd.R k71 71 w' w.heap.size (fun _ => True) v0_ r1 ∧ Below w.heap.size w w' := by
  have hu71 := Try.underlying71
  have HB := Aside0.mk (Below.refl w.heap.size w)
  have H : ((impl_wordCode.f () (([a0] : List ByteArray))).bind fun t339 => (if t339 = 0 then (impl_RunsOf.l0 k a0 ([] : List (S71)) (a0.size : Int) 0) else (some (([] : List (S71)), t339)))) = some (r1, r2) := h
  clear h
  obtain ⟨y336, hy336⟩ : ∃ y_ : List ByteArray, y_ = (([a0] : List ByteArray)) := ⟨_, rfl⟩
  replace H : ((impl_wordCode.f () y336).bind fun t339 => (if t339 = 0 then (impl_RunsOf.l0 k a0 ([] : List (S71)) (a0.size : Int) 0) else (some (([] : List (S71)), t339)))) = some (r1, r2) := by first | (rw [hy336]; with_reducible exact H) | (have H2_ := (Option.bind_some _ _).symm.trans H; rw [hy336]; with_reducible exact H2_) | (have H2_ := (Option.bind_some _ _).symm.trans H; with_reducible exact H2_) | with_reducible exact H | (rw [hy336]; exact H) | exact H
  have Ny336 := Aside0.mk hy336
  clear hy336
  replace H := Option.bind_eq_some_iff.mp H
  obtain ⟨t339, A20, H⟩ := H
  replace H : (if t339 = 0 then (impl_RunsOf.l0 k a0 ([] : List (S71)) (a0.size : Int) 0) else (some (([] : List (S71)), t339))) = some (r1, r2) := H
  have A2 := Aside0.mk A20
  clear A20
  by_cases c3 : t339 = 0
  · rw [if_pos c3] at H
    have c3b0 : (t339 == 0) = true := beq_iff_eq.mpr c3
    have c3b1 : (t339 != 0) = false := bne_eq_false_iff_eq.mpr c3
    clear c3
    have H' := Aside0.mk H
    clear H
    go_enter Try.func37, Try.ntmps37
    go_wp2_with (first | ((with_reducible refine gate_dst (N := 11) rfl ?_); (try (refine gate_guard (by rfl) ?_; dsimp only)); refine Kd.R_lit Kd.string _ 9 ?hg (N := 11) ?hd (xs := ([a0] : List ByteArray)) (inner := [.string a0]) (ok := fun _ => True) (okp := fun _ => True) ?hr ?hp (fun _ hk => hk) trivial (Below.refl _ _) (Nat.le_refl _) (by simp) ?_; (case hd => rfl); (case hg => rfl); (case hr => first | (go_simp; done) | (go_simp; rfl)); (case hp => exact (Reps.one (show Kd.M Kd.string _ _ _ a0 [.string a0] from rfl) (Reps.none _ _))); intro v337 w4 ho5 hb hg_ hnew_; clear hg_ hnew_; (first | rw [← Ny336.out] at ho5 | (simp only [Int.reduceToNat] at ho5; rw [← Ny336.out] at ho5)); have n0_ := Aside0.mk (Kd.R_lower ho5 (below_size (by repeat (first | (with_reducible first | exact HB.out | apply below_alloc | apply pw_below_drewN | apply below_drew1) | exact HB.out)))); have n1_ := Aside0.mk (below_step (by repeat (first | (with_reducible first | exact HB.out | apply below_alloc | apply pw_below_drewN | apply below_drew1) | exact HB.out)) hb); clear HB; have HO338 := n0_; have HB := n1_; clear n0_ n1_; clear hb ho5; obtain ⟨Ao6, co6, eo6⟩ := Kd.R_slice HO338.out; subst eo6) | ((with_reducible refine gate_callee (f := 57) rfl ?_); refine goesL_ (some 12) rfl rfl Try.func57 (by kernel_rfl) rfl #[.func (.func 58) #[] #[], .slice Ao6 y336.length co6] rfl (by (try simp only [List.map_toArray, List.map_cons, List.map_nil]); first | done | rfl | (simp only [List.length_drop, List.length_take]; rfl)) ?_; (with_reducible refine (impl_wordCode.calls () _ _ y336 t339 _ ?side1 ?side2 A2.out).mono ?_); (case side1 => repeat (first | exact (Kd.R_reads' HO338.out).2.2 | (with_reducible refine Kd.C_alloc ?_ _) | (with_reducible refine Kd.C_drewN ?_ _) | (with_reducible refine Kd.C_drew ?_))); (case side2 => exact (Kd.R_reads' HO338.out).2.1); rintro e w7 ⟨rfl, hb⟩; refine ⟨_, rfl, ?_⟩; have n0_ := Aside0.mk (Kd.R_below (by (with_reducible repeat (first | apply Kd.R_alloc | apply Kd.R_drewN | apply Kd.R_drew)); exact HO338.out) hb); have n1_ := Aside0.mk (below_step (by repeat (first | (with_reducible first | exact HB.out | apply below_alloc | apply pw_below_drewN | apply below_drew1) | exact HB.out)) hb); clear HO338; clear HB; have HO338 := n0_; have HB := n1_; clear n0_ n1_; (try clear hb); (try clear hb2); (try clear hk); (try clear hi)))
    go_loopg [5, 18] k (fun kq v5 v18 w' => ∃ (x5_1 : List (S71)) (x18_1 : Int), v18 = .int .i64 x18_1 ∧ Aside0 (impl_RunsOf.l0 kq a0 x5_1 (a0.size : Int) x18_1 = some (r1, r2)) ∧ Aside0 (kq ≤ k) ∧ Aside0 (Kd.R k71 71 w' w.heap.size (fun _ => True) v5 x5_1) ∧ Aside0 (Below w.heap.size w w'))
    case atStart => exact ⟨(([] : List (S71))), (0), (by first | rfl | (simp; done) | (simp [*]; done)), H', ⟨Nat.le_refl _⟩, ⟨by first | exact Kd.R_nil _ _ _ _ _ | exact Kd.N_nil _ _ _ _ _ | exact Kd.V_nil _ _ _ _ _ | exact Kd.Q_nil _ _ _ _ _ | exact Kd.S_nil _ _ _ _ _⟩, ⟨by repeat (first | (with_reducible first | exact HB.out | apply below_alloc | apply pw_below_drewN | apply below_drew1) | exact HB.out)⟩⟩
    case round =>
      clear H'
      try clear p2
      try clear c3
      try clear c3b0
      try clear c3b1
      try clear c5
      obtain ⟨x5_1, x18_1, rfl, HA, HK1, HO_5, HB⟩ := hrel
      cases gk with
      | zero => exact absurd HA.out (by simp [impl_RunsOf.l0])
      | succ k1 =>
        have H := HA.out
        clear HA
        simp only [impl_RunsOf.l0] at H
        by_cases c8 : x18_1 < (a0.size : Int)
        · rw [if_pos c8] at H
          have c8b0 : decide (x18_1 < (a0.size : Int)) = true := decide_eq_true c8
          clear c8
          have H' := Aside0.mk H
          clear H
          go_wp2
          go_loopg [5, 7] k1 (fun kq v5 v7 w' => ∃ (x5_2 : List (S71)) (x7_2 : Int), v7 = .int .i64 x7_2 ∧ Aside0 (impl_RunsOf.l1 kq a0 x5_2 x18_1 x7_2 (a0.size : Int) x18_1 = some (r1, r2)) ∧ Aside0 (kq ≤ k1) ∧ Aside0 (Kd.R k71 71 w' w.heap.size (fun _ => True) v5 x5_2) ∧ Aside0 (Below w.heap.size w w'))
          case atStart => exact ⟨(x5_1), (wrap64 (x18_1 + 2)), (by first | rfl | (simp; done) | (simp [*]; done)), H', ⟨Nat.le_refl _⟩, ⟨by (with_reducible repeat (first | apply Kd.R_alloc | apply Kd.R_drewN | apply Kd.R_drew)); exact HO_5.out⟩, ⟨by repeat (first | (with_reducible first | exact HB.out | apply below_alloc | apply pw_below_drewN | apply below_drew1) | exact HB.out)⟩⟩
          case round =>
            clear H'
            try clear p2
            try clear c3
            try clear c3b0
            try clear c3b1
            try clear c5
            try clear p6
            try clear c8
            try clear c8b0
            try clear p2
            obtain ⟨x5_2, x7_2, rfl, HA, HK2, HO_5, HB⟩ := hrel
            cases gk with
            | zero => exact absurd HA.out (by simp [impl_RunsOf.l1])
            | succ k2 =>
              have H := HA.out
              clear HA
              simp only [impl_RunsOf.l1] at H
              by_cases c9 : x7_2 ≤ (a0.size : Int)
              · rw [if_pos c9] at H
                have c9b0 : decide (x7_2 ≤ (a0.size : Int)) = true := decide_eq_true c9
                clear c9
                by_cases c10 : 0 ≤ x18_1
                · rw [if_pos c10] at H
                  have c10b0 := eq_true c10
                  have c10b1 : decide (0 ≤ x18_1) = true := decide_eq_true c10
                  clear c10
                  by_cases c11 : x18_1 ≤ x7_2
                  · rw [if_pos c11] at H
                    have c11b0 := eq_true c11
                    have c11b1 : decide (x18_1 ≤ x7_2) = true := decide_eq_true c11
                    clear c11
                    have c12b0 := eq_true (of_decide_eq_true (by first | (with_reducible assumption) | assumption) : x7_2 ≤ (a0.size : Int))
                    replace H := Option.bind_eq_some_iff.mp H
                    obtain ⟨t340, A130, H⟩ := H
                    replace H : (if x18_1 > 0 then (if 0 ≤ (wrap64 (x18_1 - 1)) then (if (wrap64 (x18_1 - 1)) ≤ x7_2 then ((impl_hasPeriod.f (a0.extract ((wrap64 (x18_1 - 1)) : Int).toNat (x7_2 : Int).toNat) t340).bind fun t341 => (if t341 = true then (if (wrap64 (x7_2 - x18_1)) ≥ (wrap64 (2 * t340)) then (impl_RunsOf.l1 k2 a0 x5_2 x18_1 (wrap64 (x7_2 + 1)) (a0.size : Int) x18_1) else (impl_RunsOf.l1 k2 a0 x5_2 x18_1 (wrap64 (x7_2 + 1)) (a0.size : Int) x18_1)) else (if x7_2 < (a0.size : Int) then (if x18_1 ≤ (wrap64 (x7_2 + 1)) then (if (wrap64 (x7_2 + 1)) ≤ (a0.size : Int) then ((impl_hasPeriod.f (a0.extract (x18_1 : Int).toNat ((wrap64 (x7_2 + 1)) : Int).toNat) t340).bind fun t342 => (if (wrap64 (x7_2 - x18_1)) ≥ (wrap64 (2 * t340)) then (if t342 = true then (impl_RunsOf.l1 k2 a0 x5_2 x18_1 (wrap64 (x7_2 + 1)) (a0.size : Int) x18_1) else (if x5_2.length < 5864062014805 then (impl_RunsOf.l1 k2 a0 (x5_2 ++ [(⟨x18_1, x7_2, t340⟩ : S71)]) x18_1 (wrap64 (x7_2 + 1)) (a0.size : Int) x18_1) else (none))) else (impl_RunsOf.l1 k2 a0 x5_2 x18_1 (wrap64 (x7_2 + 1)) (a0.size : Int) x18_1))) else (none)) else (none)) else (if (wrap64 (x7_2 - x18_1)) ≥ (wrap64 (2 * t340)) then (if x5_2.length < 5864062014805 then (impl_RunsOf.l1 k2 a0 (x5_2 ++ [(⟨x18_1, x7_2, t340⟩ : S71)]) x18_1 (wrap64 (x7_2 + 1)) (a0.size : Int) x18_1) else (none)) else (impl_RunsOf.l1 k2 a0 x5_2 x18_1 (wrap64 (x7_2 + 1)) (a0.size : Int) x18_1))))) else (none)) else (none)) else (if x7_2 < (a0.size : Int) then (if x18_1 ≤ (wrap64 (x7_2 + 1)) then (if (wrap64 (x7_2 + 1)) ≤ (a0.size : Int) then ((impl_hasPeriod.f (a0.extract (x18_1 : Int).toNat ((wrap64 (x7_2 + 1)) : Int).toNat) t340).bind fun t349 => (if (wrap64 (x7_2 - x18_1)) ≥ (wrap64 (2 * t340)) then (if t349 = true then (impl_RunsOf.l1 k2 a0 x5_2 x18_1 (wrap64 (x7_2 + 1)) (a0.size : Int) x18_1) else (if x5_2.length < 5864062014805 then (impl_RunsOf.l1 k2 a0 (x5_2 ++ [(⟨x18_1, x7_2, t340⟩ : S71)]) x18_1 (wrap64 (x7_2 + 1)) (a0.size : Int) x18_1) else (none))) else (impl_RunsOf.l1 k2 a0 x5_2 x18_1 (wrap64 (x7_2 + 1)) (a0.size : Int) x18_1))) else (none)) else (none)) else (if (wrap64 (x7_2 - x18_1)) ≥ (wrap64 (2 * t340)) then (if x5_2.length < 5864062014805 then (impl_RunsOf.l1 k2 a0 (x5_2 ++ [(⟨x18_1, x7_2, t340⟩ : S71)]) x18_1 (wrap64 (x7_2 + 1)) (a0.size : Int) x18_1) else (none)) else (impl_RunsOf.l1 k2 a0 x5_2 x18_1 (wrap64 (x7_2 + 1)) (a0.size : Int) x18_1)))) = some (r1, r2) := H
                    have A13 := Aside0.mk A130
                    clear A130
                    by_cases c14 : x18_1 > 0
                    · rw [if_pos c14] at H
                      have c14b0 : decide (0 < x18_1) = true := decide_eq_true c14
                      clear c14
                      obtain ⟨ji15, hji15⟩ : ∃ j_ : Int, (wrap64 (x18_1 - 1)) = j_ := ⟨_, rfl⟩
                      replace H : (if 0 ≤ (ji15) then (if (ji15) ≤ x7_2 then ((impl_hasPeriod.f (a0.extract ((ji15) : Int).toNat (x7_2 : Int).toNat) t340).bind fun t341 => (if t341 = true then (if (wrap64 (x7_2 - x18_1)) ≥ (wrap64 (2 * t340)) then (impl_RunsOf.l1 k2 a0 x5_2 x18_1 (wrap64 (x7_2 + 1)) (a0.size : Int) x18_1) else (impl_RunsOf.l1 k2 a0 x5_2 x18_1 (wrap64 (x7_2 + 1)) (a0.size : Int) x18_1)) else (if x7_2 < (a0.size : Int) then (if x18_1 ≤ (wrap64 (x7_2 + 1)) then (if (wrap64 (x7_2 + 1)) ≤ (a0.size : Int) then ((impl_hasPeriod.f (a0.extract (x18_1 : Int).toNat ((wrap64 (x7_2 + 1)) : Int).toNat) t340).bind fun t342 => (if (wrap64 (x7_2 - x18_1)) ≥ (wrap64 (2 * t340)) then (if t342 = true then (impl_RunsOf.l1 k2 a0 x5_2 x18_1 (wrap64 (x7_2 + 1)) (a0.size : Int) x18_1) else (if x5_2.length < 5864062014805 then (impl_RunsOf.l1 k2 a0 (x5_2 ++ [(⟨x18_1, x7_2, t340⟩ : S71)]) x18_1 (wrap64 (x7_2 + 1)) (a0.size : Int) x18_1) else (none))) else (impl_RunsOf.l1 k2 a0 x5_2 x18_1 (wrap64 (x7_2 + 1)) (a0.size : Int) x18_1))) else (none)) else (none)) else (if (wrap64 (x7_2 - x18_1)) ≥ (wrap64 (2 * t340)) then (if x5_2.length < 5864062014805 then (impl_RunsOf.l1 k2 a0 (x5_2 ++ [(⟨x18_1, x7_2, t340⟩ : S71)]) x18_1 (wrap64 (x7_2 + 1)) (a0.size : Int) x18_1) else (none)) else (impl_RunsOf.l1 k2 a0 x5_2 x18_1 (wrap64 (x7_2 + 1)) (a0.size : Int) x18_1))))) else (none)) else (none)) = some (r1, r2) := by first | (rw [hji15] at H; exact H) | (simp only [hji15] at H ⊢; exact H)
                      (try rw [hji15] at A13)
                      have hji15w : (IntKind.i64.wrap (x18_1 - 1)) = ji15 := (i64_w _).trans hji15
                      by_cases c16 : 0 ≤ (ji15)
                      · rw [if_pos c16] at H
                        have c16b0 := eq_true c16
                        have c16b1 : decide (0 ≤ (ji15)) = true := decide_eq_true c16
                        clear c16
                        by_cases c17 : (ji15) ≤ x7_2
                        · rw [if_pos c17] at H
                          have c17b0 := eq_true c17
                          have c17b1 : decide ((ji15) ≤ x7_2) = true := decide_eq_true c17
                          clear c17
                          have c18b0 := eq_true (of_decide_eq_true (by first | (with_reducible assumption) | assumption) : x7_2 ≤ (a0.size : Int))
                          replace H := Option.bind_eq_some_iff.mp H
                          obtain ⟨t341, A190, H⟩ := H
                          replace H : (if t341 = true then (if (wrap64 (x7_2 - x18_1)) ≥ (wrap64 (2 * t340)) then (impl_RunsOf.l1 k2 a0 x5_2 x18_1 (wrap64 (x7_2 + 1)) (a0.size : Int) x18_1) else (impl_RunsOf.l1 k2 a0 x5_2 x18_1 (wrap64 (x7_2 + 1)) (a0.size : Int) x18_1)) else (if x7_2 < (a0.size : Int) then (if x18_1 ≤ (wrap64 (x7_2 + 1)) then (if (wrap64 (x7_2 + 1)) ≤ (a0.size : Int) then ((impl_hasPeriod.f (a0.extract (x18_1 : Int).toNat ((wrap64 (x7_2 + 1)) : Int).toNat) t340).bind fun t342 => (if (wrap64 (x7_2 - x18_1)) ≥ (wrap64 (2 * t340)) then (if t342 = true then (impl_RunsOf.l1 k2 a0 x5_2 x18_1 (wrap64 (x7_2 + 1)) (a0.size : Int) x18_1) else (if x5_2.length < 5864062014805 then (impl_RunsOf.l1 k2 a0 (x5_2 ++ [(⟨x18_1, x7_2, t340⟩ : S71)]) x18_1 (wrap64 (x7_2 + 1)) (a0.size : Int) x18_1) else (none))) else (impl_RunsOf.l1 k2 a0 x5_2 x18_1 (wrap64 (x7_2 + 1)) (a0.size : Int) x18_1))) else (none)) else (none)) else (if (wrap64 (x7_2 - x18_1)) ≥ (wrap64 (2 * t340)) then (if x5_2.length < 5864062014805 then (impl_RunsOf.l1 k2 a0 (x5_2 ++ [(⟨x18_1, x7_2, t340⟩ : S71)]) x18_1 (wrap64 (x7_2 + 1)) (a0.size : Int) x18_1) else (none)) else (impl_RunsOf.l1 k2 a0 x5_2 x18_1 (wrap64 (x7_2 + 1)) (a0.size : Int) x18_1)))) = some (r1, r2) := H
                          have A19 := Aside0.mk A190
                          clear A190
                          by_cases c20 : t341 = true
                          · subst c20
                            have H1 : (if (wrap64 (x7_2 - x18_1)) ≥ (wrap64 (2 * t340)) then (impl_RunsOf.l1 k2 a0 x5_2 x18_1 (wrap64 (x7_2 + 1)) (a0.size : Int) x18_1) else (impl_RunsOf.l1 k2 a0 x5_2 x18_1 (wrap64 (x7_2 + 1)) (a0.size : Int) x18_1)) = some (r1, r2) := by rw [if_pos rfl] at H; exact H
                            clear H
                            have H := H1
                            clear H1
                            by_cases c21 : (wrap64 (x7_2 - x18_1)) ≥ (wrap64 (2 * t340))
                            · rw [if_pos c21] at H
                              have c21b0 : decide ((wrap64 (2 * t340)) ≤ (wrap64 (x7_2 - x18_1))) = true := decide_eq_true c21
                              clear c21
                              have H' := Aside0.mk H
                              clear H
                              go_wp2_with (first | ((with_reducible refine gate_callee (f := 65) rfl ?_); refine goesL_ (some 33) rfl rfl Try.func65 (by kernel_rfl) rfl #[.string (a0.extract (x18_1 : Int).toNat (x7_2 : Int).toNat)] rfl (by (try simp only [List.map_toArray, List.map_cons, List.map_nil]); first | done | rfl | (simp only [List.length_drop, List.length_take]; rfl)) ?_; (with_reducible refine (impl_period.calls k2 (a0.extract (x18_1 : Int).toNat (x7_2 : Int).toNat) t340 _ A13.out).mono ?_); rintro e w' ⟨rfl, ⟨nd, rfl⟩⟩; refine ⟨_, rfl, ?_⟩) | (go_at_call 77; (with_reducible refine (impl_hasPeriod.calls (a0.extract ((ji15) : Int).toNat (x7_2 : Int).toNat) t340 true _ A19.out).mono ?_); rintro e w' ⟨rfl, ⟨nd, rfl⟩⟩))
                              go_roundg k2
                              case measure => have := HK1.out; have := HK2.out; omega
                              case rel => exact ⟨(x5_2), (wrap64 (x7_2 + 1)), (by first | rfl | (simp; done) | (simp [*]; done)), H', ⟨by have := HK1.out; have := HK2.out; omega⟩, ⟨by (with_reducible repeat (first | apply Kd.R_alloc | apply Kd.R_drewN | apply Kd.R_drew)); exact HO_5.out⟩, ⟨by repeat (first | (with_reducible first | exact HB.out | apply below_alloc | apply pw_below_drewN | apply below_drew1) | exact HB.out)⟩⟩
                            · rw [if_neg c21] at H
                              have c21b0 : decide ((wrap64 (2 * t340)) ≤ (wrap64 (x7_2 - x18_1))) = false := decide_eq_false c21
                              clear c21
                              have H' := Aside0.mk H
                              clear H
                              go_wp2_with (first | ((with_reducible refine gate_callee (f := 65) rfl ?_); refine goesL_ (some 33) rfl rfl Try.func65 (by kernel_rfl) rfl #[.string (a0.extract (x18_1 : Int).toNat (x7_2 : Int).toNat)] rfl (by (try simp only [List.map_toArray, List.map_cons, List.map_nil]); first | done | rfl | (simp only [List.length_drop, List.length_take]; rfl)) ?_; (with_reducible refine (impl_period.calls k2 (a0.extract (x18_1 : Int).toNat (x7_2 : Int).toNat) t340 _ A13.out).mono ?_); rintro e w' ⟨rfl, ⟨nd, rfl⟩⟩; refine ⟨_, rfl, ?_⟩) | (go_at_call 77; (with_reducible refine (impl_hasPeriod.calls (a0.extract ((ji15) : Int).toNat (x7_2 : Int).toNat) t340 true _ A19.out).mono ?_); rintro e w' ⟨rfl, ⟨nd, rfl⟩⟩))
                              go_roundg k2
                              case measure => have := HK1.out; have := HK2.out; omega
                              case rel => exact ⟨(x5_2), (wrap64 (x7_2 + 1)), (by first | rfl | (simp; done) | (simp [*]; done)), H', ⟨by have := HK1.out; have := HK2.out; omega⟩, ⟨by (with_reducible repeat (first | apply Kd.R_alloc | apply Kd.R_drewN | apply Kd.R_drew)); exact HO_5.out⟩, ⟨by repeat (first | (with_reducible first | exact HB.out | apply below_alloc | apply pw_below_drewN | apply below_drew1) | exact HB.out)⟩⟩
                          · replace c20 := Bool.eq_false_iff.mpr c20
                            subst c20
                            have H1 : (if x7_2 < (a0.size : Int) then (if x18_1 ≤ (wrap64 (x7_2 + 1)) then (if (wrap64 (x7_2 + 1)) ≤ (a0.size : Int) then ((impl_hasPeriod.f (a0.extract (x18_1 : Int).toNat ((wrap64 (x7_2 + 1)) : Int).toNat) t340).bind fun t342 => (if (wrap64 (x7_2 - x18_1)) ≥ (wrap64 (2 * t340)) then (if t342 = true then (impl_RunsOf.l1 k2 a0 x5_2 x18_1 (wrap64 (x7_2 + 1)) (a0.size : Int) x18_1) else (if x5_2.length < 5864062014805 then (impl_RunsOf.l1 k2 a0 (x5_2 ++ [(⟨x18_1, x7_2, t340⟩ : S71)]) x18_1 (wrap64 (x7_2 + 1)) (a0.size : Int) x18_1) else (none))) else (impl_RunsOf.l1 k2 a0 x5_2 x18_1 (wrap64 (x7_2 + 1)) (a0.size : Int) x18_1))) else (none)) else (none)) else (if (wrap64 (x7_2 - x18_1)) ≥ (wrap64 (2 * t340)) then (if x5_2.length < 5864062014805 then (impl_RunsOf.l1 k2 a0 (x5_2 ++ [(⟨x18_1, x7_2, t340⟩ : S71)]) x18_1 (wrap64 (x7_2 + 1)) (a0.size : Int) x18_1) else (none)) else (impl_RunsOf.l1 k2 a0 x5_2 x18_1 (wrap64 (x7_2 + 1)) (a0.size : Int) x18_1))) = some (r1, r2) := by rw [if_neg (show ¬ (false = true) by decide)] at H; exact H
                            clear H
                            have H := H1
                            clear H1
                            by_cases c22 : x7_2 < (a0.size : Int)
                            · rw [if_pos c22] at H
                              have c22b0 : decide (x7_2 < (a0.size : Int)) = true := decide_eq_true c22
                              clear c22
                              have c23b0 := eq_true (of_decide_eq_true (by first | (with_reducible assumption) | assumption) : 0 ≤ x18_1)
                              by_cases c24 : x18_1 ≤ (wrap64 (x7_2 + 1))
                              · rw [if_pos c24] at H
                                have c24b0 := eq_true c24
                                have c24b1 : decide (x18_1 ≤ (wrap64 (x7_2 + 1))) = true := decide_eq_true c24
                                by_cases c25 : (wrap64 (x7_2 + 1)) ≤ (a0.size : Int)
                                · rw [if_pos c25] at H
                                  have c25b0 := eq_true c25
                                  have c25b1 : decide ((wrap64 (x7_2 + 1)) ≤ (a0.size : Int)) = true := decide_eq_true c25
                                  replace H := Option.bind_eq_some_iff.mp H
                                  obtain ⟨t342, A260, H⟩ := H
                                  replace H : (if (wrap64 (x7_2 - x18_1)) ≥ (wrap64 (2 * t340)) then (if t342 = true then (impl_RunsOf.l1 k2 a0 x5_2 x18_1 (wrap64 (x7_2 + 1)) (a0.size : Int) x18_1) else (if x5_2.length < 5864062014805 then (impl_RunsOf.l1 k2 a0 (x5_2 ++ [(⟨x18_1, x7_2, t340⟩ : S71)]) x18_1 (wrap64 (x7_2 + 1)) (a0.size : Int) x18_1) else (none))) else (impl_RunsOf.l1 k2 a0 x5_2 x18_1 (wrap64 (x7_2 + 1)) (a0.size : Int) x18_1)) = some (r1, r2) := H
                                  have A26 := Aside0.mk A260
                                  clear A260
                                  by_cases c27 : (wrap64 (x7_2 - x18_1)) ≥ (wrap64 (2 * t340))
                                  · rw [if_pos c27] at H
                                    have c27b0 : decide ((wrap64 (2 * t340)) ≤ (wrap64 (x7_2 - x18_1))) = true := decide_eq_true c27
                                    clear c27
                                    by_cases c28 : t342 = true
                                    · subst c28
                                      have H1 : (impl_RunsOf.l1 k2 a0 x5_2 x18_1 (wrap64 (x7_2 + 1)) (a0.size : Int) x18_1) = some (r1, r2) := by rw [if_pos rfl] at H; exact H
                                      clear H
                                      have H := H1
                                      clear H1
                                      have H' := Aside0.mk H
                                      clear H
                                      go_wp2_with (first | ((with_reducible refine gate_callee (f := 65) rfl ?_); refine goesL_ (some 33) rfl rfl Try.func65 (by kernel_rfl) rfl #[.string (a0.extract (x18_1 : Int).toNat (x7_2 : Int).toNat)] rfl (by (try simp only [List.map_toArray, List.map_cons, List.map_nil]); first | done | rfl | (simp only [List.length_drop, List.length_take]; rfl)) ?_; (with_reducible refine (impl_period.calls k2 (a0.extract (x18_1 : Int).toNat (x7_2 : Int).toNat) t340 _ A13.out).mono ?_); rintro e w' ⟨rfl, ⟨nd, rfl⟩⟩; refine ⟨_, rfl, ?_⟩) | (go_at_call 77; (with_reducible refine (impl_hasPeriod.calls (a0.extract ((ji15) : Int).toNat (x7_2 : Int).toNat) t340 false _ A19.out).mono ?_); rintro e w' ⟨rfl, ⟨nd, rfl⟩⟩) | (go_at_call 77; (with_reducible refine (impl_hasPeriod.calls (a0.extract (x18_1 : Int).toNat ((wrap64 (x7_2 + 1)) : Int).toNat) t340 true _ A26.out).mono ?_); rintro e w' ⟨rfl, ⟨nd, rfl⟩⟩))
                                      go_roundg k2
                                      case measure => have := HK1.out; have := HK2.out; omega
                                      case rel => exact ⟨(x5_2), (wrap64 (x7_2 + 1)), (by first | rfl | (simp; done) | (simp [*]; done)), H', ⟨by have := HK1.out; have := HK2.out; omega⟩, ⟨by (with_reducible repeat (first | apply Kd.R_alloc | apply Kd.R_drewN | apply Kd.R_drew)); exact HO_5.out⟩, ⟨by repeat (first | (with_reducible first | exact HB.out | apply below_alloc | apply pw_below_drewN | apply below_drew1) | exact HB.out)⟩⟩
                                    · replace c28 := Bool.eq_false_iff.mpr c28
                                      subst c28
                                      have H1 : (if x5_2.length < 5864062014805 then (impl_RunsOf.l1 k2 a0 (x5_2 ++ [(⟨x18_1, x7_2, t340⟩ : S71)]) x18_1 (wrap64 (x7_2 + 1)) (a0.size : Int) x18_1) else (none)) = some (r1, r2) := by rw [if_neg (show ¬ (false = true) by decide)] at H; exact H
                                      clear H
                                      have H := H1
                                      clear H1
                                      by_cases c29 : x5_2.length < 5864062014805
                                      · rw [if_pos c29] at H
                                        have LMc29 := Aside0.mk c29
                                        clear c29
                                        obtain ⟨y343, hy343⟩ : ∃ y_ : List (S71), y_ = (x5_2 ++ [(⟨x18_1, x7_2, t340⟩ : S71)]) := ⟨_, rfl⟩
                                        replace H : (impl_RunsOf.l1 k2 a0 y343 x18_1 (wrap64 (x7_2 + 1)) (a0.size : Int) x18_1) = some (r1, r2) := by first | (rw [hy343]; with_reducible exact H) | (have H2_ := (Option.bind_some _ _).symm.trans H; rw [hy343]; with_reducible exact H2_) | (have H2_ := (Option.bind_some _ _).symm.trans H; with_reducible exact H2_) | with_reducible exact H | (rw [hy343]; exact H) | exact H
                                        have Ny343 := Aside0.mk hy343
                                        clear hy343
                                        have H' := Aside0.mk H
                                        clear H
                                        go_wp2_with (first | ((with_reducible refine gate_callee (f := 65) rfl ?_); refine goesL_ (some 33) rfl rfl Try.func65 (by kernel_rfl) rfl #[.string (a0.extract (x18_1 : Int).toNat (x7_2 : Int).toNat)] rfl (by (try simp only [List.map_toArray, List.map_cons, List.map_nil]); first | done | rfl | (simp only [List.length_drop, List.length_take]; rfl)) ?_; (with_reducible refine (impl_period.calls k2 (a0.extract (x18_1 : Int).toNat (x7_2 : Int).toNat) t340 _ A13.out).mono ?_); rintro e w' ⟨rfl, ⟨nd, rfl⟩⟩; refine ⟨_, rfl, ?_⟩) | (go_at_call 77; (with_reducible refine (impl_hasPeriod.calls (a0.extract ((ji15) : Int).toNat (x7_2 : Int).toNat) t340 false _ A19.out).mono ?_); rintro e w' ⟨rfl, ⟨nd, rfl⟩⟩) | (go_at_call 77; (with_reducible refine (impl_hasPeriod.calls (a0.extract (x18_1 : Int).toNat ((wrap64 (x7_2 + 1)) : Int).toNat) t340 false _ A26.out).mono ?_); rintro e w' ⟨rfl, ⟨nd, rfl⟩⟩) | ((with_reducible refine gate_builtin (b := .append) (xs := #[.tmp 70, .tmp 75]) rfl ?_); (try (refine gate_guard (by rfl) ?_; dsimp only)); at_builtin; refine Kd.R_append k71 (w0 := w) w.heap.size rfl (.tmp 70) (.tmp 75) 41 71 (.agg #[(.int .i64 0), (.int .i64 0), (.int .i64 0)]) 24 rfl Try.underlying41 info71 rfl (by decide) (by omega) u5 x5_2 (⟨x18_1, x7_2, t340⟩ : S71) [.int .i64 x18_1, .int .i64 x7_2, .int .i64 t340] (fun _ => True) (fun _ => False) rfl rfl ?aP (fun _ hk => hk.elim) ?aF ?aO ?aB ?aS ?aL ?_; (case aP => exact k71_mkM _ _ _ (⟨x18_1, x7_2, t340⟩ : S71)); (case aB => exact (by repeat (first | (with_reducible first | exact HB.out | apply below_alloc | apply pw_below_drewN | apply below_drew1) | exact HB.out))); (case aF => exact (fun _ _ => trivial)); (case aO => exact (by (with_reducible repeat (first | apply Kd.R_alloc | apply Kd.R_drewN | apply Kd.R_drew)); exact HO_5.out)); (case aS => exact (below_size (by repeat (first | (with_reducible first | exact HB.out | apply below_alloc | apply pw_below_drewN | apply below_drew1) | exact HB.out)))); (case aL => have := LMc29.out; omega); intro v344 w30 ho hb hg hat; rw [← Ny343.out] at ho; have n0_ := Aside0.mk (hb); have n1_ := Aside0.mk (ho); clear HB; clear HO_5; have HB := n0_; have HO345 := n1_; clear n0_ n1_; clear ho hb hg hat))
                                        go_roundg k2
                                        case measure => have := HK1.out; have := HK2.out; omega
                                        case rel => exact ⟨(y343), (wrap64 (x7_2 + 1)), (by first | rfl | (simp; done) | (simp [*]; done)), H', ⟨by have := HK1.out; have := HK2.out; omega⟩, ⟨by (with_reducible repeat (first | apply Kd.R_alloc | apply Kd.R_drewN | apply Kd.R_drew)); exact HO345.out⟩, ⟨by repeat (first | (with_reducible first | exact HB.out | apply below_alloc | apply pw_below_drewN | apply below_drew1) | exact HB.out)⟩⟩
                                      · rw [if_neg c29] at H
                                        exact absurd H (by simp)
                                  · rw [if_neg c27] at H
                                    have c27b0 : decide ((wrap64 (2 * t340)) ≤ (wrap64 (x7_2 - x18_1))) = false := decide_eq_false c27
                                    clear c27
                                    have H' := Aside0.mk H
                                    clear H
                                    go_wp2_with (first | ((with_reducible refine gate_callee (f := 65) rfl ?_); refine goesL_ (some 33) rfl rfl Try.func65 (by kernel_rfl) rfl #[.string (a0.extract (x18_1 : Int).toNat (x7_2 : Int).toNat)] rfl (by (try simp only [List.map_toArray, List.map_cons, List.map_nil]); first | done | rfl | (simp only [List.length_drop, List.length_take]; rfl)) ?_; (with_reducible refine (impl_period.calls k2 (a0.extract (x18_1 : Int).toNat (x7_2 : Int).toNat) t340 _ A13.out).mono ?_); rintro e w' ⟨rfl, ⟨nd, rfl⟩⟩; refine ⟨_, rfl, ?_⟩) | (go_at_call 77; (with_reducible refine (impl_hasPeriod.calls (a0.extract ((ji15) : Int).toNat (x7_2 : Int).toNat) t340 false _ A19.out).mono ?_); rintro e w' ⟨rfl, ⟨nd, rfl⟩⟩) | (go_at_call 77; (with_reducible refine (impl_hasPeriod.calls (a0.extract (x18_1 : Int).toNat ((wrap64 (x7_2 + 1)) : Int).toNat) t340 t342 _ A26.out).mono ?_); rintro e w' ⟨rfl, ⟨nd, rfl⟩⟩))
                                    go_roundg k2
                                    case measure => have := HK1.out; have := HK2.out; omega
                                    case rel => exact ⟨(x5_2), (wrap64 (x7_2 + 1)), (by first | rfl | (simp; done) | (simp [*]; done)), H', ⟨by have := HK1.out; have := HK2.out; omega⟩, ⟨by (with_reducible repeat (first | apply Kd.R_alloc | apply Kd.R_drewN | apply Kd.R_drew)); exact HO_5.out⟩, ⟨by repeat (first | (with_reducible first | exact HB.out | apply below_alloc | apply pw_below_drewN | apply below_drew1) | exact HB.out)⟩⟩
                                · rw [if_neg c25] at H
                                  exact absurd H (by simp)
                              · rw [if_neg c24] at H
                                exact absurd H (by simp)
                            · rw [if_neg c22] at H
                              have c22b0 : decide (x7_2 < (a0.size : Int)) = false := decide_eq_false c22
                              clear c22
                              by_cases c31 : (wrap64 (x7_2 - x18_1)) ≥ (wrap64 (2 * t340))
                              · rw [if_pos c31] at H
                                have c31b0 : decide ((wrap64 (2 * t340)) ≤ (wrap64 (x7_2 - x18_1))) = true := decide_eq_true c31
                                clear c31
                                by_cases c32 : x5_2.length < 5864062014805
                                · rw [if_pos c32] at H
                                  have LMc32 := Aside0.mk c32
                                  clear c32
                                  obtain ⟨y346, hy346⟩ : ∃ y_ : List (S71), y_ = (x5_2 ++ [(⟨x18_1, x7_2, t340⟩ : S71)]) := ⟨_, rfl⟩
                                  replace H : (impl_RunsOf.l1 k2 a0 y346 x18_1 (wrap64 (x7_2 + 1)) (a0.size : Int) x18_1) = some (r1, r2) := by first | (rw [hy346]; with_reducible exact H) | (have H2_ := (Option.bind_some _ _).symm.trans H; rw [hy346]; with_reducible exact H2_) | (have H2_ := (Option.bind_some _ _).symm.trans H; with_reducible exact H2_) | with_reducible exact H | (rw [hy346]; exact H) | exact H
                                  have Ny346 := Aside0.mk hy346
                                  clear hy346
                                  have H' := Aside0.mk H
                                  clear H
                                  go_wp2_with (first | ((with_reducible refine gate_callee (f := 65) rfl ?_); refine goesL_ (some 33) rfl rfl Try.func65 (by kernel_rfl) rfl #[.string (a0.extract (x18_1 : Int).toNat (x7_2 : Int).toNat)] rfl (by (try simp only [List.map_toArray, List.map_cons, List.map_nil]); first | done | rfl | (simp only [List.length_drop, List.length_take]; rfl)) ?_; (with_reducible refine (impl_period.calls k2 (a0.extract (x18_1 : Int).toNat (x7_2 : Int).toNat) t340 _ A13.out).mono ?_); rintro e w' ⟨rfl, ⟨nd, rfl⟩⟩; refine ⟨_, rfl, ?_⟩) | (go_at_call 77; (with_reducible refine (impl_hasPeriod.calls (a0.extract ((ji15) : Int).toNat (x7_2 : Int).toNat) t340 false _ A19.out).mono ?_); rintro e w' ⟨rfl, ⟨nd, rfl⟩⟩) | ((with_reducible refine gate_builtin (b := .append) (xs := #[.tmp 70, .tmp 75]) rfl ?_); (try (refine gate_guard (by rfl) ?_; dsimp only)); at_builtin; refine Kd.R_append k71 (w0 := w) w.heap.size rfl (.tmp 70) (.tmp 75) 41 71 (.agg #[(.int .i64 0), (.int .i64 0), (.int .i64 0)]) 24 rfl Try.underlying41 info71 rfl (by decide) (by omega) u5 x5_2 (⟨x18_1, x7_2, t340⟩ : S71) [.int .i64 x18_1, .int .i64 x7_2, .int .i64 t340] (fun _ => True) (fun _ => False) rfl rfl ?aP (fun _ hk => hk.elim) ?aF ?aO ?aB ?aS ?aL ?_; (case aP => exact k71_mkM _ _ _ (⟨x18_1, x7_2, t340⟩ : S71)); (case aB => exact (by repeat (first | (with_reducible first | exact HB.out | apply below_alloc | apply pw_below_drewN | apply below_drew1) | exact HB.out))); (case aF => exact (fun _ _ => trivial)); (case aO => exact (by (with_reducible repeat (first | apply Kd.R_alloc | apply Kd.R_drewN | apply Kd.R_drew)); exact HO_5.out)); (case aS => exact (below_size (by repeat (first | (with_reducible first | exact HB.out | apply below_alloc | apply pw_below_drewN | apply below_drew1) | exact HB.out)))); (case aL => have := LMc32.out; omega); intro v347 w33 ho hb hg hat; rw [← Ny346.out] at ho; have n0_ := Aside0.mk (hb); have n1_ := Aside0.mk (ho); clear HB; clear HO_5; have HB := n0_; have HO348 := n1_; clear n0_ n1_; clear ho hb hg hat))
                                  go_roundg k2
                                  case measure => have := HK1.out; have := HK2.out; omega
                                  case rel => exact ⟨(y346), (wrap64 (x7_2 + 1)), (by first | rfl | (simp; done) | (simp [*]; done)), H', ⟨by have := HK1.out; have := HK2.out; omega⟩, ⟨by (with_reducible repeat (first | apply Kd.R_alloc | apply Kd.R_drewN | apply Kd.R_drew)); exact HO348.out⟩, ⟨by repeat (first | (with_reducible first | exact HB.out | apply below_alloc | apply pw_below_drewN | apply below_drew1) | exact HB.out)⟩⟩
                                · rw [if_neg c32] at H
                                  exact absurd H (by simp)
                              · rw [if_neg c31] at H
                                have c31b0 : decide ((wrap64 (2 * t340)) ≤ (wrap64 (x7_2 - x18_1))) = false := decide_eq_false c31
                                clear c31
                                have H' := Aside0.mk H
                                clear H
                                go_wp2_with (first | ((with_reducible refine gate_callee (f := 65) rfl ?_); refine goesL_ (some 33) rfl rfl Try.func65 (by kernel_rfl) rfl #[.string (a0.extract (x18_1 : Int).toNat (x7_2 : Int).toNat)] rfl (by (try simp only [List.map_toArray, List.map_cons, List.map_nil]); first | done | rfl | (simp only [List.length_drop, List.length_take]; rfl)) ?_; (with_reducible refine (impl_period.calls k2 (a0.extract (x18_1 : Int).toNat (x7_2 : Int).toNat) t340 _ A13.out).mono ?_); rintro e w' ⟨rfl, ⟨nd, rfl⟩⟩; refine ⟨_, rfl, ?_⟩) | (go_at_call 77; (with_reducible refine (impl_hasPeriod.calls (a0.extract ((ji15) : Int).toNat (x7_2 : Int).toNat) t340 false _ A19.out).mono ?_); rintro e w' ⟨rfl, ⟨nd, rfl⟩⟩))
                                go_roundg k2
                                case measure => have := HK1.out; have := HK2.out; omega
                                case rel => exact ⟨(x5_2), (wrap64 (x7_2 + 1)), (by first | rfl | (simp; done) | (simp [*]; done)), H', ⟨by have := HK1.out; have := HK2.out; omega⟩, ⟨by (with_reducible repeat (first | apply Kd.R_alloc | apply Kd.R_drewN | apply Kd.R_drew)); exact HO_5.out⟩, ⟨by repeat (first | (with_reducible first | exact HB.out | apply below_alloc | apply pw_below_drewN | apply below_drew1) | exact HB.out)⟩⟩
                        · rw [if_neg c17] at H
                          exact absurd H (by simp)
                      · rw [if_neg c16] at H
                        exact absurd H (by simp)
                    · rw [if_neg c14] at H
                      have c14b0 : decide (0 < x18_1) = false := decide_eq_false c14
                      clear c14
                      by_cases c34 : x7_2 < (a0.size : Int)
                      · rw [if_pos c34] at H
                        have c34b0 : decide (x7_2 < (a0.size : Int)) = true := decide_eq_true c34
                        clear c34
                        have c35b0 := eq_true (of_decide_eq_true (by first | (with_reducible assumption) | assumption) : 0 ≤ x18_1)
                        by_cases c36 : x18_1 ≤ (wrap64 (x7_2 + 1))
                        · rw [if_pos c36] at H
                          have c36b0 := eq_true c36
                          have c36b1 : decide (x18_1 ≤ (wrap64 (x7_2 + 1))) = true := decide_eq_true c36
                          by_cases c37 : (wrap64 (x7_2 + 1)) ≤ (a0.size : Int)
                          · rw [if_pos c37] at H
                            have c37b0 := eq_true c37
                            have c37b1 : decide ((wrap64 (x7_2 + 1)) ≤ (a0.size : Int)) = true := decide_eq_true c37
                            replace H := Option.bind_eq_some_iff.mp H
                            obtain ⟨t349, A380, H⟩ := H
                            replace H : (if (wrap64 (x7_2 - x18_1)) ≥ (wrap64 (2 * t340)) then (if t349 = true then (impl_RunsOf.l1 k2 a0 x5_2 x18_1 (wrap64 (x7_2 + 1)) (a0.size : Int) x18_1) else (if x5_2.length < 5864062014805 then (impl_RunsOf.l1 k2 a0 (x5_2 ++ [(⟨x18_1, x7_2, t340⟩ : S71)]) x18_1 (wrap64 (x7_2 + 1)) (a0.size : Int) x18_1) else (none))) else (impl_RunsOf.l1 k2 a0 x5_2 x18_1 (wrap64 (x7_2 + 1)) (a0.size : Int) x18_1)) = some (r1, r2) := H
                            have A38 := Aside0.mk A380
                            clear A380
                            by_cases c39 : (wrap64 (x7_2 - x18_1)) ≥ (wrap64 (2 * t340))
                            · rw [if_pos c39] at H
                              have c39b0 : decide ((wrap64 (2 * t340)) ≤ (wrap64 (x7_2 - x18_1))) = true := decide_eq_true c39
                              clear c39
                              by_cases c40 : t349 = true
                              · subst c40
                                have H1 : (impl_RunsOf.l1 k2 a0 x5_2 x18_1 (wrap64 (x7_2 + 1)) (a0.size : Int) x18_1) = some (r1, r2) := by rw [if_pos rfl] at H; exact H
                                clear H
                                have H := H1
                                clear H1
                                have H' := Aside0.mk H
                                clear H
                                go_wp2_with (first | ((with_reducible refine gate_callee (f := 65) rfl ?_); refine goesL_ (some 33) rfl rfl Try.func65 (by kernel_rfl) rfl #[.string (a0.extract (x18_1 : Int).toNat (x7_2 : Int).toNat)] rfl (by (try simp only [List.map_toArray, List.map_cons, List.map_nil]); first | done | rfl | (simp only [List.length_drop, List.length_take]; rfl)) ?_; (with_reducible refine (impl_period.calls k2 (a0.extract (x18_1 : Int).toNat (x7_2 : Int).toNat) t340 _ A13.out).mono ?_); rintro e w' ⟨rfl, ⟨nd, rfl⟩⟩; refine ⟨_, rfl, ?_⟩) | (go_at_call 77; (with_reducible refine (impl_hasPeriod.calls (a0.extract (x18_1 : Int).toNat ((wrap64 (x7_2 + 1)) : Int).toNat) t340 true _ A38.out).mono ?_); rintro e w' ⟨rfl, ⟨nd, rfl⟩⟩))
                                go_roundg k2
                                case measure => have := HK1.out; have := HK2.out; omega
                                case rel => exact ⟨(x5_2), (wrap64 (x7_2 + 1)), (by first | rfl | (simp; done) | (simp [*]; done)), H', ⟨by have := HK1.out; have := HK2.out; omega⟩, ⟨by (with_reducible repeat (first | apply Kd.R_alloc | apply Kd.R_drewN | apply Kd.R_drew)); exact HO_5.out⟩, ⟨by repeat (first | (with_reducible first | exact HB.out | apply below_alloc | apply pw_below_drewN | apply below_drew1) | exact HB.out)⟩⟩
                              · replace c40 := Bool.eq_false_iff.mpr c40
                                subst c40
                                have H1 : (if x5_2.length < 5864062014805 then (impl_RunsOf.l1 k2 a0 (x5_2 ++ [(⟨x18_1, x7_2, t340⟩ : S71)]) x18_1 (wrap64 (x7_2 + 1)) (a0.size : Int) x18_1) else (none)) = some (r1, r2) := by rw [if_neg (show ¬ (false = true) by decide)] at H; exact H
                                clear H
                                have H := H1
                                clear H1
                                by_cases c41 : x5_2.length < 5864062014805
                                · rw [if_pos c41] at H
                                  have LMc41 := Aside0.mk c41
                                  clear c41
                                  obtain ⟨y350, hy350⟩ : ∃ y_ : List (S71), y_ = (x5_2 ++ [(⟨x18_1, x7_2, t340⟩ : S71)]) := ⟨_, rfl⟩
                                  replace H : (impl_RunsOf.l1 k2 a0 y350 x18_1 (wrap64 (x7_2 + 1)) (a0.size : Int) x18_1) = some (r1, r2) := by first | (rw [hy350]; with_reducible exact H) | (have H2_ := (Option.bind_some _ _).symm.trans H; rw [hy350]; with_reducible exact H2_) | (have H2_ := (Option.bind_some _ _).symm.trans H; with_reducible exact H2_) | with_reducible exact H | (rw [hy350]; exact H) | exact H
                                  have Ny350 := Aside0.mk hy350
                                  clear hy350
                                  have H' := Aside0.mk H
                                  clear H
                                  go_wp2_with (first | ((with_reducible refine gate_callee (f := 65) rfl ?_); refine goesL_ (some 33) rfl rfl Try.func65 (by kernel_rfl) rfl #[.string (a0.extract (x18_1 : Int).toNat (x7_2 : Int).toNat)] rfl (by (try simp only [List.map_toArray, List.map_cons, List.map_nil]); first | done | rfl | (simp only [List.length_drop, List.length_take]; rfl)) ?_; (with_reducible refine (impl_period.calls k2 (a0.extract (x18_1 : Int).toNat (x7_2 : Int).toNat) t340 _ A13.out).mono ?_); rintro e w' ⟨rfl, ⟨nd, rfl⟩⟩; refine ⟨_, rfl, ?_⟩) | (go_at_call 77; (with_reducible refine (impl_hasPeriod.calls (a0.extract (x18_1 : Int).toNat ((wrap64 (x7_2 + 1)) : Int).toNat) t340 false _ A38.out).mono ?_); rintro e w' ⟨rfl, ⟨nd, rfl⟩⟩) | ((with_reducible refine gate_builtin (b := .append) (xs := #[.tmp 70, .tmp 75]) rfl ?_); (try (refine gate_guard (by rfl) ?_; dsimp only)); at_builtin; refine Kd.R_append k71 (w0 := w) w.heap.size rfl (.tmp 70) (.tmp 75) 41 71 (.agg #[(.int .i64 0), (.int .i64 0), (.int .i64 0)]) 24 rfl Try.underlying41 info71 rfl (by decide) (by omega) u5 x5_2 (⟨x18_1, x7_2, t340⟩ : S71) [.int .i64 x18_1, .int .i64 x7_2, .int .i64 t340] (fun _ => True) (fun _ => False) rfl rfl ?aP (fun _ hk => hk.elim) ?aF ?aO ?aB ?aS ?aL ?_; (case aP => exact k71_mkM _ _ _ (⟨x18_1, x7_2, t340⟩ : S71)); (case aB => exact (by repeat (first | (with_reducible first | exact HB.out | apply below_alloc | apply pw_below_drewN | apply below_drew1) | exact HB.out))); (case aF => exact (fun _ _ => trivial)); (case aO => exact (by (with_reducible repeat (first | apply Kd.R_alloc | apply Kd.R_drewN | apply Kd.R_drew)); exact HO_5.out)); (case aS => exact (below_size (by repeat (first | (with_reducible first | exact HB.out | apply below_alloc | apply pw_below_drewN | apply below_drew1) | exact HB.out)))); (case aL => have := LMc41.out; omega); intro v351 w42 ho hb hg hat; rw [← Ny350.out] at ho; have n0_ := Aside0.mk (hb); have n1_ := Aside0.mk (ho); clear HB; clear HO_5; have HB := n0_; have HO352 := n1_; clear n0_ n1_; clear ho hb hg hat))
                                  go_roundg k2
                                  case measure => have := HK1.out; have := HK2.out; omega
                                  case rel => exact ⟨(y350), (wrap64 (x7_2 + 1)), (by first | rfl | (simp; done) | (simp [*]; done)), H', ⟨by have := HK1.out; have := HK2.out; omega⟩, ⟨by (with_reducible repeat (first | apply Kd.R_alloc | apply Kd.R_drewN | apply Kd.R_drew)); exact HO352.out⟩, ⟨by repeat (first | (with_reducible first | exact HB.out | apply below_alloc | apply pw_below_drewN | apply below_drew1) | exact HB.out)⟩⟩
                                · rw [if_neg c41] at H
                                  exact absurd H (by simp)
                            · rw [if_neg c39] at H
                              have c39b0 : decide ((wrap64 (2 * t340)) ≤ (wrap64 (x7_2 - x18_1))) = false := decide_eq_false c39
                              clear c39
                              have H' := Aside0.mk H
                              clear H
                              go_wp2_with (first | ((with_reducible refine gate_callee (f := 65) rfl ?_); refine goesL_ (some 33) rfl rfl Try.func65 (by kernel_rfl) rfl #[.string (a0.extract (x18_1 : Int).toNat (x7_2 : Int).toNat)] rfl (by (try simp only [List.map_toArray, List.map_cons, List.map_nil]); first | done | rfl | (simp only [List.length_drop, List.length_take]; rfl)) ?_; (with_reducible refine (impl_period.calls k2 (a0.extract (x18_1 : Int).toNat (x7_2 : Int).toNat) t340 _ A13.out).mono ?_); rintro e w' ⟨rfl, ⟨nd, rfl⟩⟩; refine ⟨_, rfl, ?_⟩) | (go_at_call 77; (with_reducible refine (impl_hasPeriod.calls (a0.extract (x18_1 : Int).toNat ((wrap64 (x7_2 + 1)) : Int).toNat) t340 t349 _ A38.out).mono ?_); rintro e w' ⟨rfl, ⟨nd, rfl⟩⟩))
                              go_roundg k2
                              case measure => have := HK1.out; have := HK2.out; omega
                              case rel => exact ⟨(x5_2), (wrap64 (x7_2 + 1)), (by first | rfl | (simp; done) | (simp [*]; done)), H', ⟨by have := HK1.out; have := HK2.out; omega⟩, ⟨by (with_reducible repeat (first | apply Kd.R_alloc | apply Kd.R_drewN | apply Kd.R_drew)); exact HO_5.out⟩, ⟨by repeat (first | (with_reducible first | exact HB.out | apply below_alloc | apply pw_below_drewN | apply below_drew1) | exact HB.out)⟩⟩
                          · rw [if_neg c37] at H
                            exact absurd H (by simp)
                        · rw [if_neg c36] at H
                          exact absurd H (by simp)
                      · rw [if_neg c34] at H
                        have c34b0 : decide (x7_2 < (a0.size : Int)) = false := decide_eq_false c34
                        clear c34
                        by_cases c43 : (wrap64 (x7_2 - x18_1)) ≥ (wrap64 (2 * t340))
                        · rw [if_pos c43] at H
                          have c43b0 : decide ((wrap64 (2 * t340)) ≤ (wrap64 (x7_2 - x18_1))) = true := decide_eq_true c43
                          clear c43
                          by_cases c44 : x5_2.length < 5864062014805
                          · rw [if_pos c44] at H
                            have LMc44 := Aside0.mk c44
                            clear c44
                            obtain ⟨y353, hy353⟩ : ∃ y_ : List (S71), y_ = (x5_2 ++ [(⟨x18_1, x7_2, t340⟩ : S71)]) := ⟨_, rfl⟩
                            replace H : (impl_RunsOf.l1 k2 a0 y353 x18_1 (wrap64 (x7_2 + 1)) (a0.size : Int) x18_1) = some (r1, r2) := by first | (rw [hy353]; with_reducible exact H) | (have H2_ := (Option.bind_some _ _).symm.trans H; rw [hy353]; with_reducible exact H2_) | (have H2_ := (Option.bind_some _ _).symm.trans H; with_reducible exact H2_) | with_reducible exact H | (rw [hy353]; exact H) | exact H
                            have Ny353 := Aside0.mk hy353
                            clear hy353
                            have H' := Aside0.mk H
                            clear H
                            go_wp2_with (first | ((with_reducible refine gate_callee (f := 65) rfl ?_); refine goesL_ (some 33) rfl rfl Try.func65 (by kernel_rfl) rfl #[.string (a0.extract (x18_1 : Int).toNat (x7_2 : Int).toNat)] rfl (by (try simp only [List.map_toArray, List.map_cons, List.map_nil]); first | done | rfl | (simp only [List.length_drop, List.length_take]; rfl)) ?_; (with_reducible refine (impl_period.calls k2 (a0.extract (x18_1 : Int).toNat (x7_2 : Int).toNat) t340 _ A13.out).mono ?_); rintro e w' ⟨rfl, ⟨nd, rfl⟩⟩; refine ⟨_, rfl, ?_⟩) | ((with_reducible refine gate_builtin (b := .append) (xs := #[.tmp 70, .tmp 75]) rfl ?_); (try (refine gate_guard (by rfl) ?_; dsimp only)); at_builtin; refine Kd.R_append k71 (w0 := w) w.heap.size rfl (.tmp 70) (.tmp 75) 41 71 (.agg #[(.int .i64 0), (.int .i64 0), (.int .i64 0)]) 24 rfl Try.underlying41 info71 rfl (by decide) (by omega) u5 x5_2 (⟨x18_1, x7_2, t340⟩ : S71) [.int .i64 x18_1, .int .i64 x7_2, .int .i64 t340] (fun _ => True) (fun _ => False) rfl rfl ?aP (fun _ hk => hk.elim) ?aF ?aO ?aB ?aS ?aL ?_; (case aP => exact k71_mkM _ _ _ (⟨x18_1, x7_2, t340⟩ : S71)); (case aB => exact (by repeat (first | (with_reducible first | exact HB.out | apply below_alloc | apply pw_below_drewN | apply below_drew1) | exact HB.out))); (case aF => exact (fun _ _ => trivial)); (case aO => exact (by (with_reducible repeat (first | apply Kd.R_alloc | apply Kd.R_drewN | apply Kd.R_drew)); exact HO_5.out)); (case aS => exact (below_size (by repeat (first | (with_reducible first | exact HB.out | apply below_alloc | apply pw_below_drewN | apply below_drew1) | exact HB.out)))); (case aL => have := LMc44.out; omega); intro v354 w45 ho hb hg hat; rw [← Ny353.out] at ho; have n0_ := Aside0.mk (hb); have n1_ := Aside0.mk (ho); clear HB; clear HO_5; have HB := n0_; have HO355 := n1_; clear n0_ n1_; clear ho hb hg hat))
                            go_roundg k2
                            case measure => have := HK1.out; have := HK2.out; omega
                            case rel => exact ⟨(y353), (wrap64 (x7_2 + 1)), (by first | rfl | (simp; done) | (simp [*]; done)), H', ⟨by have := HK1.out; have := HK2.out; omega⟩, ⟨by (with_reducible repeat (first | apply Kd.R_alloc | apply Kd.R_drewN | apply Kd.R_drew)); exact HO355.out⟩, ⟨by repeat (first | (with_reducible first | exact HB.out | apply below_alloc | apply pw_below_drewN | apply below_drew1) | exact HB.out)⟩⟩
                          · rw [if_neg c44] at H
                            exact absurd H (by simp)
                        · rw [if_neg c43] at H
                          have c43b0 : decide ((wrap64 (2 * t340)) ≤ (wrap64 (x7_2 - x18_1))) = false := decide_eq_false c43
                          clear c43
                          have H' := Aside0.mk H
                          clear H
                          go_wp2_with (first | ((with_reducible refine gate_callee (f := 65) rfl ?_); refine goesL_ (some 33) rfl rfl Try.func65 (by kernel_rfl) rfl #[.string (a0.extract (x18_1 : Int).toNat (x7_2 : Int).toNat)] rfl (by (try simp only [List.map_toArray, List.map_cons, List.map_nil]); first | done | rfl | (simp only [List.length_drop, List.length_take]; rfl)) ?_; (with_reducible refine (impl_period.calls k2 (a0.extract (x18_1 : Int).toNat (x7_2 : Int).toNat) t340 _ A13.out).mono ?_); rintro e w' ⟨rfl, ⟨nd, rfl⟩⟩; refine ⟨_, rfl, ?_⟩))
                          go_roundg k2
                          case measure => have := HK1.out; have := HK2.out; omega
                          case rel => exact ⟨(x5_2), (wrap64 (x7_2 + 1)), (by first | rfl | (simp; done) | (simp [*]; done)), H', ⟨by have := HK1.out; have := HK2.out; omega⟩, ⟨by (with_reducible repeat (first | apply Kd.R_alloc | apply Kd.R_drewN | apply Kd.R_drew)); exact HO_5.out⟩, ⟨by repeat (first | (with_reducible first | exact HB.out | apply below_alloc | apply pw_below_drewN | apply below_drew1) | exact HB.out)⟩⟩
                  · rw [if_neg c11] at H
                    exact absurd H (by simp)
                · rw [if_neg c10] at H
                  exact absurd H (by simp)
              · rw [if_neg c9] at H
                have c9b0 : decide (x7_2 ≤ (a0.size : Int)) = false := decide_eq_false c9
                clear c9
                have H' := Aside0.mk H
                clear H
                go_wp2
                go_roundg k2
                case measure => have := HK1.out; have := HK2.out; omega
                case rel => exact ⟨(x5_2), (wrap64 (x18_1 + 1)), (by first | rfl | (simp; done) | (simp [*]; done)), H', ⟨by have := HK1.out; have := HK2.out; omega⟩, ⟨by (with_reducible repeat (first | apply Kd.R_alloc | apply Kd.R_drewN | apply Kd.R_drew)); exact HO_5.out⟩, ⟨by repeat (first | (with_reducible first | exact HB.out | apply below_alloc | apply pw_below_drewN | apply below_drew1) | exact HB.out)⟩⟩
        · rw [if_neg c8] at H
          have c8b0 : decide (x18_1 < (a0.size : Int)) = false := decide_eq_false c8
          clear c8
          simp only [Option.some.injEq, Prod.mk.injEq] at H
          obtain ⟨rfl, rfl⟩ := H
          go_wp2
          go_ret2
          exact ⟨_, by first | rfl | (simp [errW_none, errW_some] <;> rfl) | (simp [*, errW_none, errW_some] <;> rfl), by (with_reducible repeat (first | apply Kd.R_alloc | apply Kd.R_drewN | apply Kd.R_drew)); exact HO_5.out, by repeat (first | (with_reducible first | exact HB.out | apply below_alloc | apply pw_below_drewN | apply below_drew1) | exact HB.out)⟩
  · rw [if_neg c3] at H
    have c3b0 : (t339 == 0) = false := beq_eq_false_iff_ne.mpr c3
    have c3b1 : (t339 != 0) = true := bne_iff_ne.mpr c3
    simp only [Option.some.injEq, Prod.mk.injEq] at H
    obtain ⟨rfl, rfl⟩ := H
    go_enter Try.func37, Try.ntmps37
    go_wp2_with (first | ((with_reducible refine gate_dst (N := 11) rfl ?_); (try (refine gate_guard (by rfl) ?_; dsimp only)); refine Kd.R_lit Kd.string _ 9 ?hg (N := 11) ?hd (xs := ([a0] : List ByteArray)) (inner := [.string a0]) (ok := fun _ => True) (okp := fun _ => True) ?hr ?hp (fun _ hk => hk) trivial (Below.refl _ _) (Nat.le_refl _) (by simp) ?_; (case hd => rfl); (case hg => rfl); (case hr => first | (go_simp; done) | (go_simp; rfl)); (case hp => exact (Reps.one (show Kd.M Kd.string _ _ _ a0 [.string a0] from rfl) (Reps.none _ _))); intro v337 w46 ho47 hb hg_ hnew_; clear hg_ hnew_; (first | rw [← Ny336.out] at ho47 | (simp only [Int.reduceToNat] at ho47; rw [← Ny336.out] at ho47)); have n0_ := Aside0.mk (Kd.R_lower ho47 (below_size (by repeat (first | (with_reducible first | exact HB.out | apply below_alloc | apply pw_below_drewN | apply below_drew1) | exact HB.out)))); have n1_ := Aside0.mk (below_step (by repeat (first | (with_reducible first | exact HB.out | apply below_alloc | apply pw_below_drewN | apply below_drew1) | exact HB.out)) hb); clear HB; have HO338 := n0_; have HB := n1_; clear n0_ n1_; clear hb ho47; obtain ⟨Ao48, co48, eo48⟩ := Kd.R_slice HO338.out; subst eo48) | ((with_reducible refine gate_callee (f := 57) rfl ?_); refine goesL_ (some 12) rfl rfl Try.func57 (by kernel_rfl) rfl #[.func (.func 58) #[] #[], .slice Ao48 y336.length co48] rfl (by (try simp only [List.map_toArray, List.map_cons, List.map_nil]); first | done | rfl | (simp only [List.length_drop, List.length_take]; rfl)) ?_; (with_reducible refine (impl_wordCode.calls () _ _ y336 t339 _ ?side1 ?side2 A2.out).mono ?_); (case side1 => repeat (first | exact (Kd.R_reads' HO338.out).2.2 | (with_reducible refine Kd.C_alloc ?_ _) | (with_reducible refine Kd.C_drewN ?_ _) | (with_reducible refine Kd.C_drew ?_))); (case side2 => exact (Kd.R_reads' HO338.out).2.1); rintro e w49 ⟨rfl, hb⟩; refine ⟨_, rfl, ?_⟩; have n0_ := Aside0.mk (Kd.R_below (by (with_reducible repeat (first | apply Kd.R_alloc | apply Kd.R_drewN | apply Kd.R_drew)); exact HO338.out) hb); have n1_ := Aside0.mk (below_step (by repeat (first | (with_reducible first | exact HB.out | apply below_alloc | apply pw_below_drewN | apply below_drew1) | exact HB.out)) hb); clear HO338; clear HB; have HO338 := n0_; have HB := n1_; clear n0_ n1_; (try clear hb); (try clear hb2); (try clear hk); (try clear hi)))
    go_ret2
    exact ⟨_, by first | rfl | (simp [errW_none, errW_some] <;> rfl) | (simp [*, errW_none, errW_some] <;> rfl), by first | exact Kd.R_nil _ _ _ _ _ | exact Kd.N_nil _ _ _ _ _ | exact Kd.V_nil _ _ _ _ _ | exact Kd.Q_nil _ _ _ _ _ | exact Kd.S_nil _ _ _ _ _, by repeat (first | (with_reducible first | exact HB.out | apply below_alloc | apply pw_below_drewN | apply below_drew1) | exact HB.out)⟩

end Go.Proofs.Ytjnpobaampgakad.Q
