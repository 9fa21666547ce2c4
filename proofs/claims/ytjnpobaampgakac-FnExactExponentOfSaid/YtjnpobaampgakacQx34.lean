-- Made by this session's program hyb.py out of Lean's print of the program; Lean checks it.
import Derived.Test.YtjnpobaampgakacQx0
import Derived.Test.YtjnpobaampgakacQx47
import Derived.Test.YtjnpobaampgakacQx49
import Derived.Test.YtjnpobaampgakacQx60
namespace Go.Proofs.Ytjnpobaampgakac.Q
open Go.RowKit Go.Proofs.YtjnpobaampgakacW.PrintWords Go.Proofs.YtjnpobaampgakacW.PrintLast Go.Proofs.YtjnpobaampgakacW.PrintMore
attribute [local go_sem] max2_int min2_int max_two min_two max_three min_three max_four min_four bn_leq bn_gtr bn_geq   -- for this text's walks alone
set_option linter.unusedVariables false
set_option linter.unusedSimpArgs false

/-! ### spec_ExponentOf: function 34 (this session's own) -/
def spec_ExponentOf.f (k : Nat) (a0 : ByteArray) : Option (Int × Int × Int) := (spec_l02Given.f k a0).bind fun t108 => (if t108 = 0 then ((spec_l02Periods.f k a0).bind fun t109 => (if 0 < (t109.length : Int) then ((spec_l02Gcd.f k (a0.size : Int) (rd t109 0)).bind fun t113 => (if t113 = 0 then (none) else (some (wrap64 (Int.tdiv (a0.size : Int) t113), wrap64 (Int.tdiv (rd t109 0) t113), 0)))) else (none))) else (some (0, 0, t108)))
theorem spec_ExponentOf.mono : ∀ a0 k, LeO (spec_ExponentOf.f k a0) (spec_ExponentOf.f (k + 1) a0) := by
  intro a0 k
  unfold spec_ExponentOf.f
  exact LeO.bind (spec_l02Given.mono _ _) fun _ => LeO.ite (LeO.bind (spec_l02Periods.mono _ _) fun _ => LeO.ite (LeO.bind (spec_l02Gcd.mono _ _ _) fun _ => LeO.refl _) (LeO.refl _)) (LeO.refl _)
set_option maxHeartbeats 4000000 in
theorem spec_ExponentOf.calls (k : Nat) (a0 : ByteArray) (r1 r2 r3 : Int) (w : World) (h : spec_ExponentOf.f k a0 = some (r1, r2, r3)) :
    Calls Try.prog 34 #[.string a0] w fun e w' => e = .returned (.tuple #[.int .i64 r1, .int .i64 r2, .int .i64 r3]) ∧ Below w.heap.size w w' := by
  unfold spec_ExponentOf.f at h
  obtain ⟨g, hg, h⟩ := Option.bind_eq_some_iff.mp h
  have hg' := Aside0.mk hg
  clear hg
  by_cases h0 : g = 0
  · rw [if_pos h0] at h
    subst h0
    obtain ⟨l, hl, h⟩ := Option.bind_eq_some_iff.mp h
    have hl' := Aside0.mk hl
    clear hl
    by_cases h1 : 0 < (l.length : Int)
    · rw [if_pos h1] at h
      obtain ⟨d, hd, h⟩ := Option.bind_eq_some_iff.mp h
      have hd' := Aside0.mk hd
      clear hd
      by_cases h2 : d = 0
      · rw [if_pos h2] at h; cases h
      · rw [if_neg h2] at h
        obtain ⟨rfl, rfl, rfl⟩ : wrap64 (Int.tdiv (a0.size : Int) d) = r1 ∧ wrap64 (Int.tdiv (rd l 0) d) = r2 ∧ (0 : Int) = r3 := by simpa using h
        clear h
        have h2a := beq_eq_false_iff_ne.mpr h2
        have h1a := decide_eq_true h1
        have h1b : decide (0 < l.length) = true := decide_eq_true (by omega)
        have hper : ∀ W : World, Calls Try.prog 47 #[.string a0] W fun e w' => ∃ A c ad, e = .returned (.slice A l.length c) ∧ A = some ad ∧ w'.cell? ad = some (.int .i64 (rd l 0)) ∧ Below W.heap.size W w' := fun W => (spec_l02Periods.calls k a0 l W hl'.out).mono fun e w' ⟨v, he, ho, hb⟩ => by
          obtain ⟨A, c, rfl, hcc, hC⟩ := Kd.R_reads ho
          obtain ⟨ad, hA, hcell⟩ := Kd.at_int hC 0 (by omega) h1
          exact ⟨A, c, ad, he, hA, by rw [show ad = ad.add (0 : Int).toNat from (by unfold Addr.add; simp)]; exact hcell, hb⟩
        have hgcd : ∀ W : World, Calls Try.prog 60 #[.int .i64 a0.size, .int .i64 (rd l 0)] W fun e w' => e = .returned (.int .i64 d) ∧ Drawn0 W w' := fun W => spec_l02Gcd.calls k _ _ d W hd'.out
        go_enter Try.func34, Try.ntmps34
        go_wp2_with (go_at_call 49; refine (spec_l02Given.calls k a0 0 _ hg'.out).mono ?_; rintro e w1 ⟨rfl, hb1⟩; have hb1' := Aside0.mk hb1.below; clear hb1)
        go_region_with (go_at_call 47; refine (hper _).mono ?_; rintro e w2 ⟨A, c, ad, rfl, rfl, hcell, hb2⟩; have hb2' := Aside0.mk hb2; clear hb2)
        go_wp2_with (go_at_call 60; refine (hgcd _).mono ?_; rintro e w3 ⟨rfl, hd3⟩; have hd3' := Aside0.mk hd3.below; clear hd3)
        go_quiet (fail)
        go_wp2
        go_ret3
        exact ⟨by first | rfl | simp, pw_below_drewN (below_step (below_step (below_drew hb1'.out) hb2'.out) hd3'.out) _⟩
    · rw [if_neg h1] at h; cases h
  · rw [if_neg h0] at h
    obtain ⟨rfl, rfl, rfl⟩ : (0 : Int) = r1 ∧ (0 : Int) = r2 ∧ g = r3 := by simpa using h
    clear h
    have h0a := beq_eq_false_iff_ne.mpr h0
    have h0b := bne_iff_ne.mpr h0
    go_enter Try.func34, Try.ntmps34
    go_wp2_with (go_at_call 49; refine (spec_l02Given.calls k a0 g _ hg'.out).mono ?_; rintro e w1 ⟨rfl, hb1⟩; have hb1' := Aside0.mk hb1.below; clear hb1)
    go_ret3
    exact ⟨rfl, hb1'.out⟩


end Go.Proofs.Ytjnpobaampgakac.Q
