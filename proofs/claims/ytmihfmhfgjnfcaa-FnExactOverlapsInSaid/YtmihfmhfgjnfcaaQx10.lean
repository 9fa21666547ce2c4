-- Made by this session's program hyb.py out of Lean's print of the program; Lean checks it.
import Derived.Test.YtmihfmhfgjnfcaaQx0
import Derived.Test.YtmihfmhfgjnfcaaQx29
import Derived.Test.YtmihfmhfgjnfcaaQx30
import Derived.Test.YtmihfmhfgjnfcaaQx31
import Derived.Test.YtmihfmhfgjnfcaaQx32
import Derived.Test.YtmihfmhfgjnfcaaQx33
namespace Go.Proofs.Ytmihfmhfgjnfcaa.Q
open Go.RowKit Go.Proofs.YtmihfmhfgjnfcaaW.PrintWords Go.Proofs.YtmihfmhfgjnfcaaW.PrintLast Go.Proofs.YtmihfmhfgjnfcaaW.PrintMore
attribute [local go_sem] max2_int min2_int max_two min_two max_three min_three max_four min_four bn_leq bn_gtr bn_geq   -- for this text's walks alone
set_option linter.unusedVariables false
set_option linter.unusedSimpArgs false

/-! ### laws_FnExactOverlapsIn: function 10 (this session's own) -/
def laws_FnExactOverlapsIn.Pure : Prop := ∀ (a0 : ByteArray), a0.size ≤ 140737488351232 → (a0.size : Int) > 1048576 ∨ ((a0.size : Int) ≤ 1048576 ∧ ∃ (k : Nat) (L Lm : List (List Int)) (c mk : Int), spec_OverlapsIn.f k a0 = some (L, c) ∧ impl_OverlapsIn.f k a0 = some (L, c) ∧ laws_eqInt64SS.f k L L = some true ∧ laws_markInt64SS.f k L 1 = some (mk, Lm) ∧ Lm.length = L.length ∧ laws_heldInt64SS.f k Lm 1 = some mk ∧ 0 ≤ mk)
set_option maxHeartbeats 8000000 in
set_option maxRecDepth 100000 in
theorem laws_FnExactOverlapsIn.path (k : Nat) (a0 : ByteArray) (L Lm : List (List Int)) (c mk : Int) (w : World) (hs : ¬ (a0.size : Int) > 1048576) (hS : spec_OverlapsIn.f k a0 = some (L, c)) (hI : impl_OverlapsIn.f k a0 = some (L, c)) (hE : laws_eqInt64SS.f k L L = some true) (hM : laws_markInt64SS.f k L 1 = some (mk, Lm)) (hLm : Lm.length = L.length) (hH : laws_heldInt64SS.f k Lm 1 = some mk) (hmk : 0 ≤ mk) :
    Calls Try.prog 10 #[.string a0] w fun e w' => e = .returned (.bool true) ∧ Below w.heap.size w w' := by
  have cS := Aside0.mk (fun W => spec_OverlapsIn.calls k a0 L c W hS)
  have cI := Aside0.mk (fun W => impl_OverlapsIn.calls k a0 L c W hI)
  have cE := Aside0.mk (fun W (A0 : Option Addr) (c0 : Nat) (A1 : Option Addr) (c1 : Nat) h0 h1 h2 h3 => laws_eqInt64SS.calls k A0 c0 L A1 c1 L true W h0 h1 h2 h3 hE)
  have cM := Aside0.mk (fun P0 u w0 W h0 h1 => laws_markInt64SS.calls k P0 u L 1 mk Lm w0 W h0 h1 hM)
  have cH : Aside0 (∀ (W : World) (A0 : Option Addr) (c0 : Nat), Kd.C (Kd.slice 2 (Kd.int .i64)) W A0 Lm.length Lm → L.length ≤ c0 → Calls Try.prog 31 #[.slice A0 L.length c0, .int .i64 1] W fun e w' => e = .returned (.int .i64 mk) ∧ Drawn0 W w') := ⟨fun W A0 c0 h0 h1 => by
    have h := laws_heldInt64SS.calls k A0 c0 Lm 1 mk W h0 (by omega) hH
    rw [hLm] at h
    exact h⟩
  have d1 : decide ((1048576 : Int) < (a0.size : Int)) = false := decide_eq_false hs
  have d1n : decide (1048576 < a0.size) = false := decide_eq_false (by omega)
  have d2 : decide (mk < 0) = false := decide_eq_false (by omega)
  have d3 : (mk != mk) = false := by simp
  have d4 : (c != c) = false := by simp
  have tI := Aside0.mk (show True from trivial)
  have tE := Aside0.mk (show True from trivial)
  have tH := Aside0.mk (show True from trivial)
  have hLm' := Aside0.mk hLm
  clear hS hI hE hM hH hmk hs hLm
  go_enter Try.func10, Try.ntmps10
  go_wp2_with (first
    | (go_at_call 32; refine (cS.out _).mono ?_; rintro e w1 ⟨v1, rfl, ho, hb⟩; obtain ⟨A1, c1, rfl⟩ := Kd.S_slice ho; have B1 := Aside0.mk hb; have H1 := Aside0.mk (Kd.S_mono (ok' := fun k_ => k_ < w1.heap.size) (Kd.S_bound ho) (fun _ hk => hk.2.2.1)); clear ho hb)
    | (go_at_call 33; have t_ := tI.out; clear tI t_; refine (cI.out _).mono ?_; rintro e w2 ⟨v2, rfl, ho, hb⟩; obtain ⟨A2, c2, rfl⟩ := Kd.S_slice ho; have H2 := Aside0.mk (Kd.S_mono (ok' := fun k_ => w1.heap.size ≤ k_) (Kd.S_bound ho) (fun _ hk => hk.2.1)); have H1b := Aside0.mk (Kd.S_below H1.out hb); have B2 := Aside0.mk hb; clear H1 ho hb)
    | (go_at_call 29; have t_ := tE.out; clear tE t_; refine (cE.out _ _ _ _ _ (Kd.S_reads' H2.out).2.2 (Kd.S_reads' H2.out).2.1 (Kd.S_reads' H1b.out).2.2 (Kd.S_reads' H1b.out).2.1).mono ?_; rintro e w3 ⟨rfl, hd⟩; have hb := hd.below; have H2b := Aside0.mk (Kd.S_below H2.out hb); have H1c := Aside0.mk (Kd.S_below H1b.out hb); have B3 := Aside0.mk (below_then B2.out B2.out.size hb); clear H1b H2 hd hb)
    | (go_at_call 30; refine (cM.out _ _ _ _ B3.out H2b.out).mono ?_; rintro e w4 ⟨rfl, ho, hb, hk⟩; have H2c := Aside0.mk ho; have H1d := Aside0.mk (Kd.S_step H1c.out (w1 := w4) (fun k_ h1_ h2_ => hk.2 k_ h2_ (Nat.not_le.mpr h1_))); have B4 := Aside0.mk hb; clear H1c H2b ho hb hk)
    | (go_at_call 31; have t_ := tH.out; clear tH t_; refine (cH.out _ _ _ (Kd.S_reads' H2c.out).2.2 (Kd.S_reads' H2c.out).2.1).mono ?_; rintro e w5 ⟨rfl, hd⟩; have hb := hd.below; have H2d := Aside0.mk (Kd.S_below H2c.out hb); have H1e := Aside0.mk (Kd.S_below H1d.out hb); have B5 := Aside0.mk (below_then B4.out B4.out.size hb); clear H2c H1d hd hb)
    | (go_at_call 33; refine (cI.out _).mono ?_; rintro e w6 ⟨v3, rfl, ho, hb⟩; obtain ⟨A3, c3, rfl⟩ := Kd.S_slice ho; have H3 := Aside0.mk ho; have H2e := Aside0.mk (Kd.S_below H2d.out hb); have H1f := Aside0.mk (Kd.S_below H1e.out hb); have B6 := Aside0.mk (below_then B5.out B5.out.size hb); clear H2d H1e ho hb)
    | (go_at_call 29; refine (cE.out _ _ _ _ _ (Kd.S_reads' H3.out).2.2 (Kd.S_reads' H3.out).2.1 (Kd.S_reads' H1f.out).2.2 (Kd.S_reads' H1f.out).2.1).mono ?_; rintro e w7 ⟨rfl, hd⟩; have hb := hd.below; have H2f := Aside0.mk (Kd.S_below H2e.out hb); have B7 := Aside0.mk (below_then B6.out B6.out.size hb); clear H1f H2e H3 hd hb)
    | (go_at_call 31; refine (cH.out _ _ _ (Kd.S_reads' H2f.out).2.2 (Kd.S_reads' H2f.out).2.1).mono ?_; rintro e w8 ⟨rfl, hd⟩; have hb := hd.below; have B8 := Aside0.mk (below_then B7.out B7.out.size hb); clear hd hb))
  go_ret
  exact ⟨rfl, below_then B1.out B1.out.size B8.out⟩
set_option maxHeartbeats 2000000 in
set_option maxRecDepth 100000 in
theorem laws_FnExactOverlapsIn.long (a0 : ByteArray) (w : World) (hs : (a0.size : Int) > 1048576) :
    Calls Try.prog 10 #[.string a0] w fun e w' => e = .returned (.bool true) ∧ Below w.heap.size w w' := by
  have d1 : decide ((1048576 : Int) < (a0.size : Int)) = true := decide_eq_true hs
  have d1n : decide (1048576 < a0.size) = true := decide_eq_true (by omega)
  go_enter Try.func10, Try.ntmps10
  go_wp2
  go_ret
  exact ⟨rfl, Below.refl _ _⟩
theorem laws_FnExactOverlapsIn.walk (P : laws_FnExactOverlapsIn.Pure) (a0 : ByteArray) (w : World) (w0 : a0.size ≤ 140737488351232) : Calls Try.prog 10 #[.string a0] w fun e w' => e = .returned (.bool true) ∧ Below w.heap.size w w' := by
  rcases P a0 w0 with h | ⟨h, k, L, Lm, c, mk, h1, h2, h3, h4, h5, h6, h7⟩
  · exact laws_FnExactOverlapsIn.long a0 w h
  · exact laws_FnExactOverlapsIn.path k a0 L Lm c mk w (by omega) h1 h2 h3 h4 h5 h6 h7


end Go.Proofs.Ytmihfmhfgjnfcaa.Q
