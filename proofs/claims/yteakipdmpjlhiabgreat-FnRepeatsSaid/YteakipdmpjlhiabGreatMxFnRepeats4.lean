-- Printed texts of this session, joined by merge.py.
import Derived.Test.YteakipdmpjlhiabGreatQx0
import Derived.Test.YteakipdmpjlhiabGreatMxFnRepeats0
import Derived.Test.YteakipdmpjlhiabGreatMxFnRepeats1
import Derived.Test.YteakipdmpjlhiabGreatMxFnRepeats2
import Derived.Test.YteakipdmpjlhiabGreatMxFnRepeats3
namespace Go.Proofs.YteakipdmpjlhiabGreat.Q
open Go.RowKit Go.Proofs.YteakipdmpjlhiabGreatW.PrintWords Go.Proofs.YteakipdmpjlhiabGreatW.PrintLast Go.Proofs.YteakipdmpjlhiabGreatW.PrintMore
attribute [local go_sem] max2_int min2_int max_two min_two max_three min_three max_four min_four bn_leq bn_gtr bn_geq   -- for this text's walks alone
set_option linter.unusedVariables false
set_option linter.unusedSimpArgs false

/-! ### laws_FnRepeats: function 3 (this session's own) -/
set_option maxHeartbeats 64000000 in
set_option maxRecDepth 100000 in
theorem laws_FnRepeats.paths (k : Nat) (A0 : Option Addr) (cc : Nat) (l0 : List Int) (wd x y : ByteArray) (kx n fi fq c1 c3 c5 c7 c11 cnt c16 c18 : Int) (R : List S46) (SQ OV PW : List (List Int)) (DF : List ByteArray) (fr no : Bool) (w : World) (hr0 : Kd.C (Kd.int .u8) w A0 l0.length l0) (hc0 : l0.length ≤ cc) (hbig : l0.length ≤ 4096) (hD1 : spec_DrawRunsOf.f k l0 = some wd) (hI1 : impl_RunsOf.f k wd = some (R, c1)) (hS1 : spec_RunsOf.f k wd = some (R, c1)) (hI2 : impl_PowersIn.f k wd 2 = some (SQ, c3)) (hS2 : spec_PowersIn.f k wd 2 = some (SQ, c3)) (hI3 : impl_OverlapsIn.f k wd = some (OV, c5)) (hS3 : spec_OverlapsIn.f k wd = some (OV, c5)) (hI4 : impl_SquaresOf.f k wd = some (DF, c7)) (hS4 : spec_SquaresOf.f k wd = some (DF, c7)) (hE1 : laws_runs5.f k R R = some true) (hE2 : laws_rows5.f k SQ SQ = some true) (hE3 : laws_rows5.f k OV OV = some true) (hE4 : laws_words5.f k DF DF = some true) (hD2 : spec_DrawCountPowers.f k l0 = some (x, kx)) (hI5 : impl_CountPowers.f k x kx = some (cnt, c16)) (hS5 : spec_CountPowers.f k x kx = some (cnt, c16)) (hD3 : spec_DrawPowersIn.f k l0 = some (y, n)) (hI6 : impl_PowersIn.f k y n = some (PW, c18)) (hS6 : spec_PowersIn.f k y n = some (PW, c18)) (hE5 : laws_rows5.f k PW PW = some true) (f1 : c1 ≠ 0 ∨ (c1 = 0 ∧ SQ.length ≤ 100000 ∧ R.length ≤ 100000 ∧ impl_IsSquareFree.f k wd = some (fr, 0) ∧ impl_IsOverlapFree.f k wd = some (no, 0) ∧ impl_FirstSquare.f k wd = some (fi, fq, c11) ∧ ((SQ.length : Int) == 0) = fr ∧ ((OV.length : Int) == 0) = no ∧ (c11 == 4) = fr ∧ ((R.length : Int) == 0) = fr ∧ DF.length ≤ SQ.length ∧ (∀ j : Nat, j < SQ.length → ∃ (i q s m2 t q2 e : Int) (u : ByteArray), rd_L6 SQ (j : Int) = [i, q] ∧ impl_FactorAt.f wd i q = some (u, 0) ∧ wrap64 (i + q) = s ∧ impl_FactorAt.f wd s q = some (u, 0) ∧ c11 = 0 ∧ wrap64 (2 * q) = m2 ∧ wrap64 (i + m2) = t ∧ wrap64 (2 * fq) = q2 ∧ wrap64 (fi + q2) = e ∧ e ≤ t) ∧ (∀ j : Nat, j < R.length → ∃ (u : ByteArray) (PP : List Int) (d d2 : Int), wrap64 ((rd_T46 R (j : Int)).f1 - (rd_T46 R (j : Int)).f0) = d ∧ impl_FactorAt.f wd (rd_T46 R (j : Int)).f0 d = some (u, 0) ∧ impl_PeriodsOf.f k u = some (PP, 0) ∧ 0 < PP.length ∧ PP.length ≤ 1000 ∧ rd PP 0 = (rd_T46 R (j : Int)).f2 ∧ wrap64 (2 * (rd_T46 R (j : Int)).f2) = d2 ∧ d2 ≤ d))) :
    Calls Tryz.prog 3 #[.slice A0 l0.length cc] w fun e w' => e = .returned (.bool true) ∧ Below w.heap.size w w' := by
  rcases f1 with hc1 | ⟨rfl, hzS, hzR, hG1, hG2, hG3, hG4, hG5, hG6, hG7, hG8, hsq, hrn⟩
  all_goals as_aux_lemma =>
    have HR0 := Aside0.mk hr0
    have HB := Aside0.mk (Below.refl w.heap.size w)
    have cG := Aside0.mk (fun W h => laws_big.calls A0 cc l0 false W h hc0 (by unfold laws_big.f; rw [decide_eq_false (by omega)]))
    have cD1 := Aside0.mk (fun W h => spec_DrawRunsOf.calls k A0 cc l0 _ W h hc0 hD1)
    have cD2 := Aside0.mk (fun W h => spec_DrawCountPowers.calls k A0 cc l0 _ _ W h hc0 hD2)
    have cD3 := Aside0.mk (fun W h => spec_DrawPowersIn.calls k A0 cc l0 _ _ W h hc0 hD3)
    have cI1 := Aside0.mk (fun W => impl_RunsOf.calls k wd R _ W hI1)
    have cI2 := Aside0.mk (fun W => impl_PowersIn.calls k wd 2 SQ _ W hI2)
    have cI3 := Aside0.mk (fun W => impl_OverlapsIn.calls k wd OV _ W hI3)
    have cI4 := Aside0.mk (fun W => impl_SquaresOf.calls k wd DF _ W hI4)
    have cI5 := Aside0.mk (fun W => impl_CountPowers.calls k x kx _ _ W hI5)
    have cI6 := Aside0.mk (fun W => impl_PowersIn.calls k y n PW _ W hI6)
    have cS1 := Aside0.mk (fun W => spec_RunsOf.calls k wd R _ W hS1)
    have cS2 := Aside0.mk (fun W => spec_PowersIn.calls k wd 2 SQ _ W hS2)
    have cS3 := Aside0.mk (fun W => spec_OverlapsIn.calls k wd OV _ W hS3)
    have cS4 := Aside0.mk (fun W => spec_SquaresOf.calls k wd DF _ W hS4)
    have cS5 := Aside0.mk (fun W => spec_CountPowers.calls k x kx _ _ W hS5)
    have cS6 := Aside0.mk (fun W => spec_PowersIn.calls k y n PW _ W hS6)
    have cE1 := Aside0.mk (fun W (A0 : Option Addr) (c0 : Nat) (A1 : Option Addr) (c1 : Nat) h0 h1 h2 h3 => laws_runs5.calls k A0 c0 R A1 c1 R true W h0 h1 h2 h3 hE1)
    have cE2 := Aside0.mk (fun W (A0 : Option Addr) (c0 : Nat) (A1 : Option Addr) (c1 : Nat) h0 h1 h2 h3 => laws_rows5.calls k A0 c0 SQ A1 c1 SQ true W h0 h1 h2 h3 hE2)
    have cE3 := Aside0.mk (fun W (A0 : Option Addr) (c0 : Nat) (A1 : Option Addr) (c1 : Nat) h0 h1 h2 h3 => laws_rows5.calls k A0 c0 OV A1 c1 OV true W h0 h1 h2 h3 hE3)
    have cE4 := Aside0.mk (fun W (A0 : Option Addr) (c0 : Nat) (A1 : Option Addr) (c1 : Nat) h0 h1 h2 h3 => laws_words5.calls k A0 c0 DF A1 c1 DF true W h0 h1 h2 h3 hE4)
    have cE5 := Aside0.mk (fun W (A0 : Option Addr) (c0 : Nat) (A1 : Option Addr) (c1 : Nat) h0 h1 h2 h3 => laws_rows5.calls k A0 c0 PW A1 c1 PW true W h0 h1 h2 h3 hE5)
    try (have cF := Aside0.mk (fun W => impl_IsSquareFree.calls k wd _ _ W hG1); have cO := Aside0.mk (fun W => impl_IsOverlapFree.calls k wd _ _ W hG2); have cQ := Aside0.mk (fun W => impl_FirstSquare.calls k wd _ _ _ W hG3); clear hG1 hG2 hG3)
    try (have g4 : (SQ.length == 0) = fr := (by rw [← hG4, Bool.eq_iff_iff, beq_iff_eq, beq_iff_eq]; omega); have g5 : (OV.length == 0) = no := (by rw [← hG5, Bool.eq_iff_iff, beq_iff_eq, beq_iff_eq]; omega); have g7 : (R.length == 0) = fr := (by rw [← hG7, Bool.eq_iff_iff, beq_iff_eq, beq_iff_eq]; omega); have g8 : decide (SQ.length < DF.length) = false := decide_eq_false (by omega); have g9 : decide ((SQ.length : Int) < (DF.length : Int)) = false := decide_eq_false (by omega); have gf : (fr != fr) = false := (by cases fr <;> rfl); have gn : (no != no) = false := (by cases no <;> rfl); replace hzS := Aside0.mk hzS; replace hzR := Aside0.mk hzR; replace hsq := Aside0.mk hsq; replace hrn := Aside0.mk hrn; clear hG8)
    have d1 : (c3 != c3) = false := by simp
    have d2 : (c5 != c5) = false := by simp
    have d3 : (c7 != c7) = false := by simp
    have d4 : (cnt == cnt) = true := by simp
    have d5 : (c16 == c16) = true := by simp
    have d6 : (c18 == c18) = true := by simp
    try (have ec1 : (c1 == 0) = false := beq_eq_false_iff_ne.mpr hc1; have sc1 : (c1 != c1) = false := (by simp); clear hc1)
    have d7 : ((0 : Int) != 0) = false := rfl
    have d8 : ((0 : Int) == 0) = true := rfl
    clear hr0 hc0 hbig hD1 hI1 hS1 hI2 hS2 hI3 hS3 hI4 hS4 hE1 hE2 hE3 hE4 hD2 hI5 hS5 hD3 hI6 hS6 hE5
    have t4_ := Aside0.mk (show True from trivial)
    have t5_ := Aside0.mk (show True from trivial)
    have t11_ := Aside0.mk (show True from trivial)
    have t12_ := Aside0.mk (show True from trivial)
    go_enter Tryz.func3, Tryz.ntmps3
    go_wp2_with (first
        | (go_at_call 4; refine (cG.out _ (Kd.C_below HR0.out HB.out)).mono ?_; rintro e w1x ⟨rfl, hd⟩; have hb := hd.below; clear hd; replace HB := Aside0.mk (below_then HB.out HB.out.size hb); clear hb)
        | (go_at_call 5; refine (cD1.out _ (Kd.C_below HR0.out HB.out)).mono ?_; rintro e w2x ⟨rfl, hb⟩; replace HB := Aside0.mk (below_then HB.out HB.out.size hb); clear hb)
        | (go_at_call 6; refine (cI1.out _ ).mono ?_; rintro e w3x ⟨vw3x, rfl, ho, hb⟩; obtain ⟨AHRi, eHRi, rfl⟩ := Kd.R_slice ho; have HRi := Aside0.mk ho; clear ho; replace HB := Aside0.mk (below_then HB.out HB.out.size hb); clear hb)
        | (go_at_call 7; refine (cS1.out _ ).mono ?_; rintro e w4x ⟨vw4x, rfl, ho, hb⟩; obtain ⟨AHRs, eHRs, rfl⟩ := Kd.R_slice ho; replace HRi := Aside0.mk (Kd.R_below HRi.out hb); have HRs := Aside0.mk ho; clear ho; replace HB := Aside0.mk (below_then HB.out HB.out.size hb); clear hb)
        | (go_at_call 8; have q_ := t4_.out; clear t4_ q_; refine (cI2.out _ ).mono ?_; rintro e w5x ⟨vw5x, rfl, ho, hb⟩; obtain ⟨AHPi, eHPi, rfl⟩ := Kd.S_slice ho; replace HRi := Aside0.mk (Kd.R_below HRi.out hb); replace HRs := Aside0.mk (Kd.R_below HRs.out hb); have HPi := Aside0.mk ho; clear ho; replace HB := Aside0.mk (below_then HB.out HB.out.size hb); clear hb)
        | (go_at_call 9; have q_ := t5_.out; clear t5_ q_; refine (cS2.out _ ).mono ?_; rintro e w6x ⟨vw6x, rfl, ho, hb⟩; obtain ⟨AHPs, eHPs, rfl⟩ := Kd.S_slice ho; replace HRi := Aside0.mk (Kd.R_below HRi.out hb); replace HRs := Aside0.mk (Kd.R_below HRs.out hb); replace HPi := Aside0.mk (Kd.S_below HPi.out hb); have HPs := Aside0.mk ho; clear ho; replace HB := Aside0.mk (below_then HB.out HB.out.size hb); clear hb)
        | (go_at_call 10; refine (cI3.out _ ).mono ?_; rintro e w7x ⟨vw7x, rfl, ho, hb⟩; obtain ⟨AHOi, eHOi, rfl⟩ := Kd.S_slice ho; replace HRi := Aside0.mk (Kd.R_below HRi.out hb); replace HRs := Aside0.mk (Kd.R_below HRs.out hb); replace HPi := Aside0.mk (Kd.S_below HPi.out hb); replace HPs := Aside0.mk (Kd.S_below HPs.out hb); have HOi := Aside0.mk ho; clear ho; replace HB := Aside0.mk (below_then HB.out HB.out.size hb); clear hb)
        | (go_at_call 11; refine (cS3.out _ ).mono ?_; rintro e w8x ⟨vw8x, rfl, ho, hb⟩; obtain ⟨AHOs, eHOs, rfl⟩ := Kd.S_slice ho; replace HRi := Aside0.mk (Kd.R_below HRi.out hb); replace HRs := Aside0.mk (Kd.R_below HRs.out hb); replace HPi := Aside0.mk (Kd.S_below HPi.out hb); replace HPs := Aside0.mk (Kd.S_below HPs.out hb); replace HOi := Aside0.mk (Kd.S_below HOi.out hb); have HOs := Aside0.mk ho; clear ho; replace HB := Aside0.mk (below_then HB.out HB.out.size hb); clear hb)
        | (go_at_call 12; refine (cI4.out _ ).mono ?_; rintro e w9x ⟨vw9x, rfl, ho, hb⟩; obtain ⟨AHSi, eHSi, rfl⟩ := Kd.R_slice ho; replace HRi := Aside0.mk (Kd.R_below HRi.out hb); replace HRs := Aside0.mk (Kd.R_below HRs.out hb); replace HPi := Aside0.mk (Kd.S_below HPi.out hb); replace HPs := Aside0.mk (Kd.S_below HPs.out hb); replace HOi := Aside0.mk (Kd.S_below HOi.out hb); replace HOs := Aside0.mk (Kd.S_below HOs.out hb); have HSi := Aside0.mk ho; clear ho; replace HB := Aside0.mk (below_then HB.out HB.out.size hb); clear hb)
        | (go_at_call 13; refine (cS4.out _ ).mono ?_; rintro e w10x ⟨vw10x, rfl, ho, hb⟩; obtain ⟨AHSs, eHSs, rfl⟩ := Kd.R_slice ho; replace HRi := Aside0.mk (Kd.R_below HRi.out hb); replace HRs := Aside0.mk (Kd.R_below HRs.out hb); replace HPi := Aside0.mk (Kd.S_below HPi.out hb); replace HPs := Aside0.mk (Kd.S_below HPs.out hb); replace HOi := Aside0.mk (Kd.S_below HOi.out hb); replace HOs := Aside0.mk (Kd.S_below HOs.out hb); replace HSi := Aside0.mk (Kd.R_below HSi.out hb); have HSs := Aside0.mk ho; clear ho; replace HB := Aside0.mk (below_then HB.out HB.out.size hb); clear hb)
        | (go_at_call 14; refine (cE1.out _ _ _ _ _ (Kd.R_reads' HRi.out).2.2 (Kd.R_reads' HRi.out).2.1 (Kd.R_reads' HRs.out).2.2 (Kd.R_reads' HRs.out).2.1).mono ?_; rintro e w11x ⟨rfl, hd⟩; have hb := hd.below; clear hd; replace HRi := Aside0.mk (Kd.R_below HRi.out hb); replace HRs := Aside0.mk (Kd.R_below HRs.out hb); replace HPi := Aside0.mk (Kd.S_below HPi.out hb); replace HPs := Aside0.mk (Kd.S_below HPs.out hb); replace HOi := Aside0.mk (Kd.S_below HOi.out hb); replace HOs := Aside0.mk (Kd.S_below HOs.out hb); replace HSi := Aside0.mk (Kd.R_below HSi.out hb); replace HSs := Aside0.mk (Kd.R_below HSs.out hb); replace HB := Aside0.mk (below_then HB.out HB.out.size hb); clear hb; clear HRs)
        | (go_at_call 15; have q_ := t11_.out; clear t11_ q_; refine (cE2.out _ _ _ _ _ (Kd.S_reads' HPi.out).2.2 (Kd.S_reads' HPi.out).2.1 (Kd.S_reads' HPs.out).2.2 (Kd.S_reads' HPs.out).2.1).mono ?_; rintro e w12x ⟨rfl, hd⟩; have hb := hd.below; clear hd; replace HRi := Aside0.mk (Kd.R_below HRi.out hb); replace HPi := Aside0.mk (Kd.S_below HPi.out hb); replace HPs := Aside0.mk (Kd.S_below HPs.out hb); replace HOi := Aside0.mk (Kd.S_below HOi.out hb); replace HOs := Aside0.mk (Kd.S_below HOs.out hb); replace HSi := Aside0.mk (Kd.R_below HSi.out hb); replace HSs := Aside0.mk (Kd.R_below HSs.out hb); replace HB := Aside0.mk (below_then HB.out HB.out.size hb); clear hb; clear HPs)
        | (go_at_call 15; have q_ := t12_.out; clear t12_ q_; refine (cE3.out _ _ _ _ _ (Kd.S_reads' HOi.out).2.2 (Kd.S_reads' HOi.out).2.1 (Kd.S_reads' HOs.out).2.2 (Kd.S_reads' HOs.out).2.1).mono ?_; rintro e w13x ⟨rfl, hd⟩; have hb := hd.below; clear hd; replace HRi := Aside0.mk (Kd.R_below HRi.out hb); replace HPi := Aside0.mk (Kd.S_below HPi.out hb); replace HOi := Aside0.mk (Kd.S_below HOi.out hb); replace HOs := Aside0.mk (Kd.S_below HOs.out hb); replace HSi := Aside0.mk (Kd.R_below HSi.out hb); replace HSs := Aside0.mk (Kd.R_below HSs.out hb); replace HB := Aside0.mk (below_then HB.out HB.out.size hb); clear hb; clear HOs; clear HOi)
        | (go_at_call 16; refine (cE4.out _ _ _ _ _ (Kd.R_reads' HSi.out).2.2 (Kd.R_reads' HSi.out).2.1 (Kd.R_reads' HSs.out).2.2 (Kd.R_reads' HSs.out).2.1).mono ?_; rintro e w14x ⟨rfl, hd⟩; have hb := hd.below; clear hd; replace HRi := Aside0.mk (Kd.R_below HRi.out hb); replace HPi := Aside0.mk (Kd.S_below HPi.out hb); replace HSi := Aside0.mk (Kd.R_below HSi.out hb); replace HSs := Aside0.mk (Kd.R_below HSs.out hb); replace HB := Aside0.mk (below_then HB.out HB.out.size hb); clear hb; clear HSs; clear HSi)
        | (go_at_call 17; refine (cF.out _ ).mono ?_; rintro e w15x ⟨rfl, hb⟩; replace HRi := Aside0.mk (Kd.R_below HRi.out hb); replace HPi := Aside0.mk (Kd.S_below HPi.out hb); replace HB := Aside0.mk (below_then HB.out HB.out.size hb); clear hb)
        | (go_at_call 18; refine (cO.out _ ).mono ?_; rintro e w16x ⟨rfl, hb⟩; replace HRi := Aside0.mk (Kd.R_below HRi.out hb); replace HPi := Aside0.mk (Kd.S_below HPi.out hb); replace HB := Aside0.mk (below_then HB.out HB.out.size hb); clear hb)
        | (go_at_call 19; refine (cQ.out _ ).mono ?_; rintro e w17x ⟨rfl, hb⟩; replace HRi := Aside0.mk (Kd.R_below HRi.out hb); replace HPi := Aside0.mk (Kd.S_below HPi.out hb); replace HB := Aside0.mk (below_then HB.out HB.out.size hb); clear hb)
        | (go_at_call 22; refine (cD2.out _ (Kd.C_below HR0.out HB.out)).mono ?_; rintro e w18x ⟨rfl, hb⟩; replace HB := Aside0.mk (below_then HB.out HB.out.size hb); clear hb; try clear HRi HPi)
        | (go_at_call 23; refine (cI5.out _ ).mono ?_; rintro e w19x ⟨rfl, hb⟩; replace HB := Aside0.mk (below_then HB.out HB.out.size hb); clear hb)
        | (go_at_call 24; refine (cS5.out _ ).mono ?_; rintro e w20x ⟨rfl, hb⟩; replace HB := Aside0.mk (below_then HB.out HB.out.size hb); clear hb)
        | (go_at_call 25; refine (cD3.out _ (Kd.C_below HR0.out HB.out)).mono ?_; rintro e w21x ⟨rfl, hb⟩; replace HB := Aside0.mk (below_then HB.out HB.out.size hb); clear hb)
        | (go_at_call 8; refine (cI6.out _ ).mono ?_; rintro e w22x ⟨vw22x, rfl, ho, hb⟩; obtain ⟨AHWi, eHWi, rfl⟩ := Kd.S_slice ho; have HWi := Aside0.mk ho; clear ho; replace HB := Aside0.mk (below_then HB.out HB.out.size hb); clear hb)
        | (go_at_call 9; refine (cS6.out _ ).mono ?_; rintro e w23x ⟨vw23x, rfl, ho, hb⟩; obtain ⟨AHWs, eHWs, rfl⟩ := Kd.S_slice ho; replace HWi := Aside0.mk (Kd.S_below HWi.out hb); have HWs := Aside0.mk ho; clear ho; replace HB := Aside0.mk (below_then HB.out HB.out.size hb); clear hb)
        | (go_at_call 15; refine (cE5.out _ _ _ _ _ (Kd.S_reads' HWi.out).2.2 (Kd.S_reads' HWi.out).2.1 (Kd.S_reads' HWs.out).2.2 (Kd.S_reads' HWs.out).2.1).mono ?_; rintro e w24x ⟨rfl, hd⟩; have hb := hd.below; clear hd; replace HWi := Aside0.mk (Kd.S_below HWi.out hb); replace HWs := Aside0.mk (Kd.S_below HWs.out hb); replace HB := Aside0.mk (below_then HB.out HB.out.size hb); clear hb; clear HWi HWs))
    first
      | (go_loopg [27] SQ.length (fun gg v27 wr => ∃ kk : Nat, kk ≤ SQ.length ∧ kk ≤ 20 ∧ SQ.length - kk ≤ gg ∧ v27 = .int .i64 kk ∧ Aside0 (Kd.R k46 46 wr w2x.heap.size (fun _ => True) (.slice AHRi R.length eHRi) R) ∧ Aside0 (Kd.S (Kd.slice 2 (Kd.int .i64)) 42 wr w4x.heap.size (fun _ => True) (.slice AHPi SQ.length eHPi) SQ) ∧ Aside0 (Below w.heap.size w wr))
         case atStart => exact ⟨0, Nat.zero_le _, Nat.zero_le _, by omega, rfl, ⟨by (with_reducible repeat (first | apply Kd.R_alloc | apply Kd.R_drewN | apply Kd.R_drew)); exact HRi.out⟩, ⟨by (with_reducible repeat (first | apply Kd.S_alloc | apply Kd.S_drewN | apply Kd.S_drew)); exact HPi.out⟩, ⟨by repeat (first | (with_reducible first | exact HB.out | apply below_alloc | apply pw_below_drewN | apply below_drew1) | exact HB.out)⟩⟩
         case round =>
           clear HPi HRi HB
           obtain ⟨ii, hkk, hk20, hgg, rfl, HRi, HPi, HB⟩ := hrel
           have hzS2 := hzS.out
           obtain ⟨z, hz⟩ : ∃ z : Int, z = (ii : Int) := ⟨_, rfl⟩
           by_cases hlt : ii < SQ.length ∧ ii < 20
           · obtain ⟨si, sq, ss, m2, tt, q2, ee, u, g1, g2, g3, g4_, g5_, g6_, g7_, g8_, g9_, g10_⟩ := hsq.out ii hlt.1
             rw [← hz] at g1 ⊢
             have hlt1 := Aside0.mk hlt
             have zl : z < (SQ.length : Int) := by omega
             have z0 : (0 : Int) ≤ z := by omega
             have b1_ : decide (z < (SQ.length : Int)) = true := decide_eq_true zl
             have b2_ : decide (z < 20) = true := decide_eq_true (by omega)
             have hw5 := Aside0.mk (show wrap64 (z + 1) = ((ii + 1 : Nat) : Int) by rw [w64 (by omega) (by omega)]; omega)
             obtain ⟨ad, A2, c2, ead, hcell, hlen, hin⟩ := at_L6 (Kd.S_reads' HPi.out).2.2 z z0 zl
             subst ead
             rw [g1] at hcell hlen hin
             obtain ⟨ad2, ead2, hx0⟩ := Kd.at_int hin 0 (by omega) (by simp)
             subst ead2
             obtain ⟨ad3, ead3, hx1⟩ := Kd.at_int hin 1 (by omega) (by simp)
             cases ead3
             rw [show ((0 : Int)).toNat = 0 from rfl, Addr.add_zero', show rd [si, sq] 0 = si from rfl] at hx0
             simp only [show (1 : Int).toNat = 1 from rfl, Nat.reduceMul, Nat.reduceEqDiff, Go.Addr.add, ↓reduceIte] at hx1
             rw [show rd [si, sq] 1 = sq from rfl] at hx1
             rw [show ([si, sq] : List Int).length = 2 from rfl] at hcell
             have g3w : IntKind.i64.wrap (si + sq) = ss := (i64_w _).trans g3
             have g6w : IntKind.i64.wrap (2 * sq) = m2 := (i64_w _).trans g6_
             have g7w : IntKind.i64.wrap (si + m2) = tt := (i64_w _).trans g7_
             have g8w : IntKind.i64.wrap (2 * fq) = q2 := (i64_w _).trans g8_
             have g9w : IntKind.i64.wrap (fi + q2) = ee := (i64_w _).trans g9_
             have l1 : decide (tt < ee) = false := decide_eq_false (by omega)
             have l2 : (c11 != 0) = false := by rw [g5_]; rfl
             have l3 : (u.toList != u.toList) = false := by simp
             have cX1 := Aside0.mk (fun W => impl_FactorAt.calls wd si sq u 0 W g2)
             have cX2 := Aside0.mk (fun W => impl_FactorAt.calls wd ss sq u 0 W g4_)
             have tF := Aside0.mk (show True from trivial)
             clear hzS2 hz hlt g1 g2 g4_ g5_ g10_ hlen hin
             replace z0 := eq_true z0
             replace zl := eq_true zl
             go_wp2
             repeat (go_quiet (fail); try go_wp2_with (first
                   | (go_at_call 20; have q_ := tF.out; clear tF q_; refine (cX1.out _).mono ?_; rintro e wa ⟨rfl, hb⟩; replace HPi := Aside0.mk (Kd.S_below (by (with_reducible repeat (first | apply Kd.S_alloc | apply Kd.S_drewN | apply Kd.S_drew)); exact HPi.out) hb); replace HRi := Aside0.mk (Kd.R_below (by (with_reducible repeat (first | apply Kd.R_alloc | apply Kd.R_drewN | apply Kd.R_drew)); exact HRi.out) hb); replace HB := Aside0.mk (below_step (by repeat (first | (with_reducible first | exact HB.out | apply below_alloc | apply pw_below_drewN | apply below_drew1) | exact HB.out)) hb); clear hb)
                   | (go_at_call 20; refine (cX2.out _).mono ?_; rintro e wb ⟨rfl, hb⟩; replace HPi := Aside0.mk (Kd.S_below (by (with_reducible repeat (first | apply Kd.S_alloc | apply Kd.S_drewN | apply Kd.S_drew)); exact HPi.out) hb); replace HRi := Aside0.mk (Kd.R_below (by (with_reducible repeat (first | apply Kd.R_alloc | apply Kd.R_drewN | apply Kd.R_drew)); exact HRi.out) hb); replace HB := Aside0.mk (below_step (by repeat (first | (with_reducible first | exact HB.out | apply below_alloc | apply pw_below_drewN | apply below_drew1) | exact HB.out)) hb); clear hb)))
             go_roundg (SQ.length - (ii + 1))
             case measure => have := hlt1.out; omega
             case rel => exact ⟨ii + 1, by have := hlt1.out; omega, by have := hlt1.out; omega, by omega, by first | rfl | rw [hw5.out], ⟨by (with_reducible repeat (first | apply Kd.R_alloc | apply Kd.R_drewN | apply Kd.R_drew)); exact HRi.out⟩, ⟨by (with_reducible repeat (first | apply Kd.S_alloc | apply Kd.S_drewN | apply Kd.S_drew)); exact HPi.out⟩, ⟨by repeat (first | (with_reducible first | exact HB.out | apply below_alloc | apply pw_below_drewN | apply below_drew1) | exact HB.out)⟩⟩
           · rw [← hz]
             rcases Nat.lt_or_ge ii SQ.length with hi_ | hi_
             all_goals as_aux_lemma =>
               first
                 | (have n1_ : decide (z < (SQ.length : Int)) = false := decide_eq_false (by omega))
                 | (have n1_ : decide (z < (SQ.length : Int)) = true := decide_eq_true (by omega); have n2_ : decide (z < 20) = false := decide_eq_false (by omega))
               clear HPi hkk hgg hzS2 hz hlt hk20 hi_
               go_wp2
               go_loopg [34] R.length (fun gg v34 wr => ∃ kk : Nat, kk ≤ R.length ∧ kk ≤ 12 ∧ R.length - kk ≤ gg ∧ v34 = .int .i64 kk ∧ Aside0 (Kd.R k46 46 wr w2x.heap.size (fun _ => True) (.slice AHRi R.length eHRi) R) ∧ Aside0 (Below w.heap.size w wr))
               case atStart => exact ⟨0, Nat.zero_le _, Nat.zero_le _, by omega, rfl, ⟨by (with_reducible repeat (first | apply Kd.R_alloc | apply Kd.R_drewN | apply Kd.R_drew)); exact HRi.out⟩, ⟨by repeat (first | (with_reducible first | exact HB.out | apply below_alloc | apply pw_below_drewN | apply below_drew1) | exact HB.out)⟩⟩
               case round =>
                 clear HRi HB
                 obtain ⟨ii, hkk, hk12, hgg, rfl, HRi, HB⟩ := hrel
                 have hzR2 := hzR.out
                 obtain ⟨z, hz⟩ : ∃ z : Int, z = (ii : Int) := ⟨_, rfl⟩
                 by_cases hlt : ii < R.length ∧ ii < 12
                 · obtain ⟨u, PP, d, d2, g1, g2, g3, g4_, g5_, g6_, g7_, g8_⟩ := hrn.out ii hlt.1
                   rw [← hz] at g1 g2 g6_ g7_ ⊢
                   have hlt1 := Aside0.mk hlt
                   have zl : z < (R.length : Int) := by omega
                   have z0 : (0 : Int) ≤ z := by omega
                   have b1_ : decide (z < (R.length : Int)) = true := decide_eq_true zl
                   have b2_ : decide (z < 12) = true := decide_eq_true (by omega)
                   have hw5 := Aside0.mk (show wrap64 (z + 1) = ((ii + 1 : Nat) : Int) by rw [w64 (by omega) (by omega)]; omega)
                   obtain ⟨ad, ead, hc0, hc1_, hc2_⟩ := at_T46 (Kd.R_reads' HRi.out).2.2 z z0 zl
                   subst ead
                   obtain ⟨ra, hra⟩ : ∃ ra, ra = (rd_T46 R z).f0 := ⟨_, rfl⟩
                   obtain ⟨rb, hrb⟩ : ∃ rb, rb = (rd_T46 R z).f1 := ⟨_, rfl⟩
                   obtain ⟨rp, hrp⟩ : ∃ rp, rp = (rd_T46 R z).f2 := ⟨_, rfl⟩
                   rw [← hra] at g1 g2 hc0
                   rw [← hrb] at g1 hc1_
                   rw [← hrp] at g6_ g7_ hc2_
                   have ha0 := Aside0.mk hra
                   have hb0 := Aside0.mk hrb
                   have hp0 := Aside0.mk hrp
                   have g1w : IntKind.i64.wrap (rb - ra) = d := (i64_w _).trans g1
                   have g7w : IntKind.i64.wrap (2 * rp) = d2 := (i64_w _).trans g7_
                   have l1 : decide ((PP.length : Int) < 1) = false := decide_eq_false (by omega)
                   have l2 : decide (PP.length < 1) = false := decide_eq_false (by omega)
                   have l3 : decide (PP.length = 0) = false := decide_eq_false (by omega)
                   have l4 : (0 < PP.length) = True := eq_true g4_
                   have l5 : ((0 : Int) < (PP.length : Int)) = True := eq_true (by omega)
                   have l6 : (rp != rp) = false := by simp
                   have l7 : decide (d < d2) = false := decide_eq_false (by omega)
                   have cX1 := Aside0.mk (fun W => impl_FactorAt.calls wd ra d u 0 W g2)
                   have cX2 := Aside0.mk (fun W => impl_PeriodsOf.calls k u PP 0 W g3)
                   have hPP := Aside0.mk g4_
                   have h6 := Aside0.mk g6_
                   have zl' := Aside0.mk zl
                   have z0' := Aside0.mk z0
                   have kc0 := Aside0.mk hc0
                   have kc1 := Aside0.mk hc1_
                   clear hra hrb hrp hzR2 hz hlt g2 g3 g4_ g5_ g6_ g8_
                   replace z0 := eq_true z0
                   replace zl := eq_true zl
                   go_wp2
                   go_region_held3 (fun w' => w'.cell? (ad.add (z.toNat * 3)) = some (.int .i64 ra) ∧ w'.cell? ⟨(ad.add (z.toNat * 3)).block, (ad.add (z.toNat * 3)).off + 1, none⟩ = some (.int .i64 rb)) (first | (exact ⟨(hb.cell (World.block_lt_of_cell? _ _ (by simpa using kc0.out))).trans (by simpa using kc0.out), (hb.cell (World.block_lt_of_cell? _ _ (by simpa using kc1.out))).trans (by simpa using kc1.out)⟩) | go_keep)
                     (first | (go_at_call 20; refine (cX1.out _).mono ?_; rintro e wa ⟨rfl, hb⟩; replace HRi := Aside0.mk (Kd.R_below (by (with_reducible repeat (first | apply Kd.R_alloc | apply Kd.R_drewN | apply Kd.R_drew)); exact HRi.out) hb); replace HB := Aside0.mk (below_step (by repeat (first | (with_reducible first | exact HB.out | apply below_alloc | apply pw_below_drewN | apply below_drew1) | exact HB.out)) hb)))
                   all_goals clear hc0 hc1_ hc2_
                   all_goals go_wp2_with (first
                     | (go_at_call 21; refine (cX2.out _).mono ?_; rintro e wb ⟨vb, rfl, ho, hb⟩; obtain ⟨AP, eP, rfl⟩ := Kd.R_slice ho; have HP := Aside0.mk ho; clear ho; replace HRi := Aside0.mk (Kd.R_below (by (with_reducible repeat (first | apply Kd.R_alloc | apply Kd.R_drewN | apply Kd.R_drew)); exact HRi.out) hb); replace HB := Aside0.mk (below_step (by repeat (first | (with_reducible first | exact HB.out | apply below_alloc | apply pw_below_drewN | apply below_drew1) | exact HB.out)) hb); clear hb; obtain ⟨ad3, ead3, hc0, hc1_, hc2_⟩ := at_T46 (Kd.R_reads' HRi.out).2.2 z z0'.out zl'.out; cases ead3; rw [← ha0.out] at hc0; rw [← hb0.out] at hc1_; rw [← hp0.out] at hc2_; obtain ⟨ad2, ead2, hcp⟩ := Kd.at_int (Kd.R_reads' HP.out).2.2 0 (by omega) (by have := hPP.out; omega); (first | subst ead2 | cases ead2); rw [show ((0 : Int)).toNat = 0 from rfl, Addr.add_zero', h6.out] at hcp))
                   repeat (go_quiet (fail); try go_wp2)
                   go_roundg (R.length - (ii + 1))
                   case measure => have := hlt1.out; omega
                   case rel => exact ⟨ii + 1, by have := hlt1.out; omega, by have := hlt1.out; omega, by omega, by first | rfl | rw [hw5.out], ⟨by (with_reducible repeat (first | apply Kd.R_alloc | apply Kd.R_drewN | apply Kd.R_drew)); exact HRi.out⟩, ⟨by repeat (first | (with_reducible first | exact HB.out | apply below_alloc | apply pw_below_drewN | apply below_drew1) | exact HB.out)⟩⟩
                 · rw [← hz]
                   rcases Nat.lt_or_ge ii R.length with hi_ | hi_
                   all_goals as_aux_lemma =>
                     first
                       | (have n1_ : decide (z < (R.length : Int)) = false := decide_eq_false (by omega))
                       | (have n1_ : decide (z < (R.length : Int)) = true := decide_eq_true (by omega); have n2_ : decide (z < 12) = false := decide_eq_false (by omega))
                     clear HRi hkk hgg hzR2 hz hlt hk12 hi_
                     go_wp2_with (first
                     | (go_at_call 22; refine (cD2.out _ (Kd.C_below HR0.out HB.out)).mono ?_; rintro e w18x ⟨rfl, hb⟩; replace HB := Aside0.mk (below_then HB.out HB.out.size hb); clear hb; try clear HRi HPi)
                     | (go_at_call 23; refine (cI5.out _ ).mono ?_; rintro e w19x ⟨rfl, hb⟩; replace HB := Aside0.mk (below_then HB.out HB.out.size hb); clear hb)
                     | (go_at_call 24; refine (cS5.out _ ).mono ?_; rintro e w20x ⟨rfl, hb⟩; replace HB := Aside0.mk (below_then HB.out HB.out.size hb); clear hb)
                     | (go_at_call 25; refine (cD3.out _ (Kd.C_below HR0.out HB.out)).mono ?_; rintro e w21x ⟨rfl, hb⟩; replace HB := Aside0.mk (below_then HB.out HB.out.size hb); clear hb)
                     | (go_at_call 8; refine (cI6.out _ ).mono ?_; rintro e w22x ⟨vw22x, rfl, ho, hb⟩; obtain ⟨AHWi, eHWi, rfl⟩ := Kd.S_slice ho; have HWi := Aside0.mk ho; clear ho; replace HB := Aside0.mk (below_then HB.out HB.out.size hb); clear hb)
                     | (go_at_call 9; refine (cS6.out _ ).mono ?_; rintro e w23x ⟨vw23x, rfl, ho, hb⟩; obtain ⟨AHWs, eHWs, rfl⟩ := Kd.S_slice ho; replace HWi := Aside0.mk (Kd.S_below HWi.out hb); have HWs := Aside0.mk ho; clear ho; replace HB := Aside0.mk (below_then HB.out HB.out.size hb); clear hb)
                     | (go_at_call 15; refine (cE5.out _ _ _ _ _ (Kd.S_reads' HWi.out).2.2 (Kd.S_reads' HWi.out).2.1 (Kd.S_reads' HWs.out).2.2 (Kd.S_reads' HWs.out).2.1).mono ?_; rintro e w24x ⟨rfl, hd⟩; have hb := hd.below; clear hd; replace HWi := Aside0.mk (Kd.S_below HWi.out hb); replace HWs := Aside0.mk (Kd.S_below HWs.out hb); replace HB := Aside0.mk (below_then HB.out HB.out.size hb); clear hb; clear HWi HWs))
                     go_ret
                     exact ⟨by first | rfl | simp, HB.out⟩)
      | (go_ret
         exact ⟨by first | rfl | simp, HB.out⟩)
set_option maxHeartbeats 2000000 in
set_option maxRecDepth 100000 in
theorem laws_FnRepeats.long (A0 : Option Addr) (cc : Nat) (l0 : List Int) (w : World) (hr0 : Kd.C (Kd.int .u8) w A0 l0.length l0) (hc0 : l0.length ≤ cc) (hbig : l0.length > 4096) :
    Calls Tryz.prog 3 #[.slice A0 l0.length cc] w fun e w' => e = .returned (.bool true) ∧ Below w.heap.size w w' := by
  have cG := Aside0.mk (fun W h => laws_big.calls A0 cc l0 true W h hc0 (by unfold laws_big.f; rw [decide_eq_true (by omega)]))
  have HR0 := Aside0.mk hr0
  clear hr0 hc0 hbig
  go_enter Tryz.func3, Tryz.ntmps3
  go_wp2_with (go_at_call 4; refine (cG.out _ HR0.out).mono ?_; rintro e wg ⟨rfl, hd⟩; have HB := Aside0.mk hd.below; clear hd)
  go_ret
  exact ⟨rfl, HB.out⟩
def laws_FnRepeats.Pure : Prop := ∀ (l0 : List Int), l0.length ≤ maxLen → l0.length * 1 ≤ 140737488351232 → (∀ x ∈ l0, (Lit.int .u8 x).wf = true) → l0.length > 4096 ∨ (l0.length ≤ 4096 ∧ ∃ (k : Nat) (wd x y : ByteArray) (kx n fi fq c1 c3 c5 c7 c11 cnt c16 c18 : Int) (R : List S46) (SQ OV PW : List (List Int)) (DF : List ByteArray) (fr no : Bool),
  spec_DrawRunsOf.f k l0 = some wd ∧ impl_RunsOf.f k wd = some (R, c1) ∧ spec_RunsOf.f k wd = some (R, c1) ∧ impl_PowersIn.f k wd 2 = some (SQ, c3) ∧ spec_PowersIn.f k wd 2 = some (SQ, c3) ∧ impl_OverlapsIn.f k wd = some (OV, c5) ∧ spec_OverlapsIn.f k wd = some (OV, c5) ∧ impl_SquaresOf.f k wd = some (DF, c7) ∧ spec_SquaresOf.f k wd = some (DF, c7) ∧ laws_runs5.f k R R = some true ∧ laws_rows5.f k SQ SQ = some true ∧ laws_rows5.f k OV OV = some true ∧ laws_words5.f k DF DF = some true ∧ spec_DrawCountPowers.f k l0 = some (x, kx) ∧ impl_CountPowers.f k x kx = some (cnt, c16) ∧ spec_CountPowers.f k x kx = some (cnt, c16) ∧ spec_DrawPowersIn.f k l0 = some (y, n) ∧ impl_PowersIn.f k y n = some (PW, c18) ∧ spec_PowersIn.f k y n = some (PW, c18) ∧ laws_rows5.f k PW PW = some true ∧
  (c1 ≠ 0 ∨ (c1 = 0 ∧ SQ.length ≤ 100000 ∧ R.length ≤ 100000 ∧ impl_IsSquareFree.f k wd = some (fr, 0) ∧ impl_IsOverlapFree.f k wd = some (no, 0) ∧ impl_FirstSquare.f k wd = some (fi, fq, c11) ∧ ((SQ.length : Int) == 0) = fr ∧ ((OV.length : Int) == 0) = no ∧ (c11 == 4) = fr ∧ ((R.length : Int) == 0) = fr ∧ DF.length ≤ SQ.length ∧ (∀ j : Nat, j < SQ.length → ∃ (i q s m2 t q2 e : Int) (u : ByteArray), rd_L6 SQ (j : Int) = [i, q] ∧ impl_FactorAt.f wd i q = some (u, 0) ∧ wrap64 (i + q) = s ∧ impl_FactorAt.f wd s q = some (u, 0) ∧ c11 = 0 ∧ wrap64 (2 * q) = m2 ∧ wrap64 (i + m2) = t ∧ wrap64 (2 * fq) = q2 ∧ wrap64 (fi + q2) = e ∧ e ≤ t) ∧ (∀ j : Nat, j < R.length → ∃ (u : ByteArray) (PP : List Int) (d d2 : Int), wrap64 ((rd_T46 R (j : Int)).f1 - (rd_T46 R (j : Int)).f0) = d ∧ impl_FactorAt.f wd (rd_T46 R (j : Int)).f0 d = some (u, 0) ∧ impl_PeriodsOf.f k u = some (PP, 0) ∧ 0 < PP.length ∧ PP.length ≤ 1000 ∧ rd PP 0 = (rd_T46 R (j : Int)).f2 ∧ wrap64 (2 * (rd_T46 R (j : Int)).f2) = d2 ∧ d2 ≤ d))))
theorem laws_FnRepeats.walk (P : laws_FnRepeats.Pure) (a0 : Option Addr) (len0 cap0 : Nat) (z0 : List Int) (w : World) (w0 : (a0 = none ∧ len0 = 0 ∧ cap0 = 0 ∧ z0 = []) ∨ ∃ x, a0 = some x ∧ len0 ≤ cap0 ∧ cap0 ≤ maxLen ∧ z0.length = cap0 ∧ (∀ i, i < z0.length → w.cell? (x.add i) = some (.int .u8 (z0.getD i 0))) ∧ ∀ n ∈ z0, (Lit.int .u8 n).wf = true) (y0 : len0 * 1 ≤ 140737488351232) :
    Calls Tryz.prog 3 #[.slice a0 len0 cap0] w fun e w' => e = .returned (.bool true) ∧ Below w.heap.size w w' := by
  obtain ⟨l0, rfl, hr0, hm0, hw0, hc0⟩ := ReadsInt.ofRowC w0
  have hr := Kd.C_of_reads (d := (0 : Int)) (h1 := fun _ => rfl) hr0
  rcases P l0 hm0 y0 hw0 with h | ⟨hb, k, wd, x, y, kx, n, fi, fq, c1, c3, c5, c7, c11, cnt, c16, c18, R, SQ, OV, PW, DF, fr, no, h0, h1, h2, h3, h4, h5, h6, h7, h8, h9, h10, h11, h12, h13, h14, h15, h16, h17, h18, h19, f1⟩
  · exact laws_FnRepeats.long _ _ l0 w hr hc0 h
  · exact laws_FnRepeats.paths k _ _ l0 wd x y kx n fi fq c1 c3 c5 c7 c11 cnt c16 c18 R SQ OV PW DF fr no w hr hc0 hb h0 h1 h2 h3 h4 h5 h6 h7 h8 h9 h10 h11 h12 h13 h14 h15 h16 h17 h18 h19 f1


end Go.Proofs.YteakipdmpjlhiabGreat.Q
