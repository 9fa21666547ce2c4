-- Printed texts of this session, joined by merge.py.
import Derived.Test.YtmihfmhfgjnfcabQx0
import Derived.Test.YtmihfmhfgjnfcabMxFnDoubleWords0
import Derived.Test.YtmihfmhfgjnfcabMxFnDoubleWords1
namespace Go.Proofs.Ytmihfmhfgjnfcab.Q
open Go.RowKit Go.Proofs.YtmihfmhfgjnfcabW.PrintWords Go.Proofs.YtmihfmhfgjnfcabW.PrintLast Go.Proofs.YtmihfmhfgjnfcabW.PrintMore
attribute [local go_sem] max2_int min2_int max_two min_two max_three min_three max_four min_four bn_leq bn_gtr bn_geq   -- for this text's walks alone
set_option linter.unusedVariables false
set_option linter.unusedSimpArgs false

/-! ### spec_l01Draw: function 115 -/
def spec_l01Draw.l0 : Nat → ByteArray → ByteArray → Int → List Int → Int → Int → Option (ByteArray × Int × Int)
 | 0, _, _, _, _, _, _ => none
 | k + 1, x6, x7, x8, x1000, x1001, x1002 => if x8 > 0 then (if x7.size + x6.size ≤ 9223372036854775807 then (spec_l01Draw.l0 k x6 (x7 ++ x6) (wrap64 (x8 - 1)) x1000 x1001 x1002) else (none)) else ((spec_l01Next.f x1000 x1001 x1002 (x6.size : Int)).bind fun bt208 => (if 0 ≤ bt208.1 then (if bt208.1 ≤ (x6.size : Int) then (if x7.size + (x6.extract 0 (bt208.1 : Int).toNat).size ≤ 9223372036854775807 then (some (x7 ++ (x6.extract 0 (bt208.1 : Int).toNat), bt208.2.1, bt208.2.2)) else (none)) else (none)) else (none)))
def spec_l01Draw.f (k : Nat) (s0_0 : List Int) (s0_1 : Int) (s0_2 : Int) : Option (ByteArray × Int × Int) := (spec_l01Next.f s0_0 s0_1 s0_2 6).bind fun bt172 => (if bt172.1 = 0 then ((spec_l01Names.f).bind fun t175 => ((spec_l01Next.f s0_0 bt172.2.1 bt172.2.2 4).bind fun bt178 => (if 0 ≤ bt178.1 then (if bt178.1 < (t175.length : Int) then ((spec_l01Pick.f s0_0 bt178.2.1 bt178.2.2 (([12, 30, 61] : List Int))).bind fun bt185 => ((spec_l01Next.f s0_0 bt185.2.1 bt185.2.2 bt185.1).bind fun bt188 => ((spec_l01Named.f k (rdOf ByteArray.empty t175 bt178.1) bt188.1).bind fun bt191 => (some (bt191.1, bt188.2.1, bt188.2.2))))) else (none)) else (none)))) else (if bt172.1 = 1 then ((spec_l01Next.f s0_0 bt172.2.1 bt172.2.2 6).bind fun bt193 => ((spec_l01Pick.f s0_0 bt193.2.1 bt193.2.2 (([2, 2, 3] : List Int))).bind fun bt199 => ((spec_l01DrawOf.f k s0_0 bt199.2.1 bt199.2.2 (wrap64 (1 + bt193.1)) bt199.1).bind fun bt202 => ((spec_l01Next.f s0_0 bt202.2.1 bt202.2.2 4).bind fun bt205 => (spec_l01Draw.l0 k bt202.1 (⟨#[]⟩ : ByteArray) (wrap64 (1 + bt205.1)) s0_0 bt205.2.1 bt205.2.2))))) else (if bt172.1 = 2 then ((spec_l01Next.f s0_0 bt172.2.1 bt172.2.2 12).bind fun bt211 => ((spec_l01Pick.f s0_0 bt211.2.1 bt211.2.2 (([2, 2, 3] : List Int))).bind fun bt217 => ((spec_l01DrawOf.f k s0_0 bt217.2.1 bt217.2.2 bt211.1 bt217.1).bind fun bt220 => ((spec_l01Next.f s0_0 bt220.2.1 bt220.2.2 2).bind fun bt223 => ((spec_l01DrawOf.f k s0_0 bt223.2.1 bt223.2.2 bt223.1 2).bind fun bt226 => (if bt220.1.size + bt226.1.size ≤ 9223372036854775807 then ((spec_l01Reversed.f k bt220.1).bind fun t229 => (if (bt220.1 ++ bt226.1).size + t229.size ≤ 9223372036854775807 then (some ((bt220.1 ++ bt226.1) ++ t229, bt226.2.1, bt226.2.2)) else (none))) else (none))))))) else (if bt172.1 = 3 then ((spec_l01Pick.f s0_0 bt172.2.1 bt172.2.2 (([20, 40, 61] : List Int))).bind fun bt233 => ((spec_l01Next.f s0_0 bt233.2.1 bt233.2.2 bt233.1).bind fun bt236 => ((spec_l01Pick.f s0_0 bt236.2.1 bt236.2.2 (([1, 2, 2, 3, 3, 4, 5] : List Int))).bind fun bt242 => ((spec_l01DrawOf.f k s0_0 bt242.2.1 bt242.2.2 bt236.1 bt242.1).bind fun bt245 => (some (bt245.1, bt245.2.1, bt245.2.2)))))) else ((spec_l01Small.f k s0_0 bt172.2.1 bt172.2.2).bind fun bt248 => (some (bt248.1, bt248.2.1, bt248.2.2)))))))
def spec_l01Draw.T4 : Bool × List (List Nat × List Nat) := (true, [([], []), ([], []), ([1], [1]), ([0, 2], [0, 2]), ([3], [3]), ([], []), ([], []), ([], []), ([6, 7, 2], [6, 7]), ([5, 8, 8], [5, 8]), ([4, 9, 9], [4, 9]), ([10], [10]), ([11], [11]), ([11], [11]), ([12, 10, 0, 1, 2, 3, 4, 5, 6, 7, 8, 9, 10, 11, 12], [12]), ([13, 14, 0, 1, 2, 3, 4, 5, 6, 7, 8, 9, 10, 11, 12, 13, 14], [13])])
def spec_l01Draw.B4 : List Nat := [0, 0, 2, 7, 15, 0, 0, 0, 198, 486, 1023, 2047, 4095, 4095, 8191, 32767]
theorem spec_l01Draw.tab4 : rtab .any (opsOf Try.f115 4) = spec_l01Draw.T4 := by kernel_rfl
theorem spec_l01Draw.bits4 : waitsOk spec_l01Draw.T4.2 spec_l01Draw.B4 = true := by kernel_rfl
set_option maxHeartbeats 8000000 in
set_option maxRecDepth 100000 in
theorem spec_l01Draw.calls (k : Nat) (g : Nat) (s0_0 : List Int) (s0_1 : Int) (s0_2 : Int) (r1 : ByteArray) (r2 : Int) (r3 : Int) (w0 w : World) (hI : IsS92 w0 w g s0_0 s0_1 s0_2) (hB : Below w0.heap.size w0 w) (h : spec_l01Draw.f k s0_0 s0_1 s0_2 = some (r1, r2, r3)) :
  Calls Try.prog 115 #[.pointer (some ⟨g, 0, none⟩)] w fun e w' => e = .returned (.string r1) ∧ IsS92 w0 w' g s0_0 r2 r3 ∧ Below w0.heap.size w0 w' ∧ KeepBut w w' g none := by
 have HI0 := Aside0.mk hI
 have HK := Aside0.mk (KeepBut.refl w g none)
 have HL := Aside0.mk hB.size
 clear hI
 have HW0 := Aside0.mk hB.size
 have HB := Aside0.mk hB
 clear hB
 have H : ((spec_l01Next.f s0_0 s0_1 s0_2 6).bind fun bt172 => (if bt172.1 = 0 then ((spec_l01Names.f).bind fun t175 => ((spec_l01Next.f s0_0 bt172.2.1 bt172.2.2 4).bind fun bt178 => (if 0 ≤ bt178.1 then (if bt178.1 < (t175.length : Int) then ((spec_l01Pick.f s0_0 bt178.2.1 bt178.2.2 (([12, 30, 61] : List Int))).bind fun bt185 => ((spec_l01Next.f s0_0 bt185.2.1 bt185.2.2 bt185.1).bind fun bt188 => ((spec_l01Named.f k (rdOf ByteArray.empty t175 bt178.1) bt188.1).bind fun bt191 => (some (bt191.1, bt188.2.1, bt188.2.2))))) else (none)) else (none)))) else (if bt172.1 = 1 then ((spec_l01Next.f s0_0 bt172.2.1 bt172.2.2 6).bind fun bt193 => ((spec_l01Pick.f s0_0 bt193.2.1 bt193.2.2 (([2, 2, 3] : List Int))).bind fun bt199 => ((spec_l01DrawOf.f k s0_0 bt199.2.1 bt199.2.2 (wrap64 (1 + bt193.1)) bt199.1).bind fun bt202 => ((spec_l01Next.f s0_0 bt202.2.1 bt202.2.2 4).bind fun bt205 => (spec_l01Draw.l0 k bt202.1 (⟨#[]⟩ : ByteArray) (wrap64 (1 + bt205.1)) s0_0 bt205.2.1 bt205.2.2))))) else (if bt172.1 = 2 then ((spec_l01Next.f s0_0 bt172.2.1 bt172.2.2 12).bind fun bt211 => ((spec_l01Pick.f s0_0 bt211.2.1 bt211.2.2 (([2, 2, 3] : List Int))).bind fun bt217 => ((spec_l01DrawOf.f k s0_0 bt217.2.1 bt217.2.2 bt211.1 bt217.1).bind fun bt220 => ((spec_l01Next.f s0_0 bt220.2.1 bt220.2.2 2).bind fun bt223 => ((spec_l01DrawOf.f k s0_0 bt223.2.1 bt223.2.2 bt223.1 2).bind fun bt226 => (if bt220.1.size + bt226.1.size ≤ 9223372036854775807 then ((spec_l01Reversed.f k bt220.1).bind fun t229 => (if (bt220.1 ++ bt226.1).size + t229.size ≤ 9223372036854775807 then (some ((bt220.1 ++ bt226.1) ++ t229, bt226.2.1, bt226.2.2)) else (none))) else (none))))))) else (if bt172.1 = 3 then ((spec_l01Pick.f s0_0 bt172.2.1 bt172.2.2 (([20, 40, 61] : List Int))).bind fun bt233 => ((spec_l01Next.f s0_0 bt233.2.1 bt233.2.2 bt233.1).bind fun bt236 => ((spec_l01Pick.f s0_0 bt236.2.1 bt236.2.2 (([1, 2, 2, 3, 3, 4, 5] : List Int))).bind fun bt242 => ((spec_l01DrawOf.f k s0_0 bt242.2.1 bt242.2.2 bt236.1 bt242.1).bind fun bt245 => (some (bt245.1, bt245.2.1, bt245.2.2)))))) else ((spec_l01Small.f k s0_0 bt172.2.1 bt172.2.2).bind fun bt248 => (some (bt248.1, bt248.2.1, bt248.2.2)))))))) = some (r1, r2, r3) := h
 clear h
 replace H := Option.bind_eq_some_iff.mp H
 obtain ⟨⟨t172, t173, t174⟩, A20, H⟩ := H
 replace H : (if t172 = 0 then ((spec_l01Names.f).bind fun t175 => ((spec_l01Next.f s0_0 t173 t174 4).bind fun bt178 => (if 0 ≤ bt178.1 then (if bt178.1 < (t175.length : Int) then ((spec_l01Pick.f s0_0 bt178.2.1 bt178.2.2 (([12, 30, 61] : List Int))).bind fun bt185 => ((spec_l01Next.f s0_0 bt185.2.1 bt185.2.2 bt185.1).bind fun bt188 => ((spec_l01Named.f k (rdOf ByteArray.empty t175 bt178.1) bt188.1).bind fun bt191 => (some (bt191.1, bt188.2.1, bt188.2.2))))) else (none)) else (none)))) else (if t172 = 1 then ((spec_l01Next.f s0_0 t173 t174 6).bind fun bt193 => ((spec_l01Pick.f s0_0 bt193.2.1 bt193.2.2 (([2, 2, 3] : List Int))).bind fun bt199 => ((spec_l01DrawOf.f k s0_0 bt199.2.1 bt199.2.2 (wrap64 (1 + bt193.1)) bt199.1).bind fun bt202 => ((spec_l01Next.f s0_0 bt202.2.1 bt202.2.2 4).bind fun bt205 => (spec_l01Draw.l0 k bt202.1 (⟨#[]⟩ : ByteArray) (wrap64 (1 + bt205.1)) s0_0 bt205.2.1 bt205.2.2))))) else (if t172 = 2 then ((spec_l01Next.f s0_0 t173 t174 12).bind fun bt211 => ((spec_l01Pick.f s0_0 bt211.2.1 bt211.2.2 (([2, 2, 3] : List Int))).bind fun bt217 => ((spec_l01DrawOf.f k s0_0 bt217.2.1 bt217.2.2 bt211.1 bt217.1).bind fun bt220 => ((spec_l01Next.f s0_0 bt220.2.1 bt220.2.2 2).bind fun bt223 => ((spec_l01DrawOf.f k s0_0 bt223.2.1 bt223.2.2 bt223.1 2).bind fun bt226 => (if bt220.1.size + bt226.1.size ≤ 9223372036854775807 then ((spec_l01Reversed.f k bt220.1).bind fun t229 => (if (bt220.1 ++ bt226.1).size + t229.size ≤ 9223372036854775807 then (some ((bt220.1 ++ bt226.1) ++ t229, bt226.2.1, bt226.2.2)) else (none))) else (none))))))) else (if t172 = 3 then ((spec_l01Pick.f s0_0 t173 t174 (([20, 40, 61] : List Int))).bind fun bt233 => ((spec_l01Next.f s0_0 bt233.2.1 bt233.2.2 bt233.1).bind fun bt236 => ((spec_l01Pick.f s0_0 bt236.2.1 bt236.2.2 (([1, 2, 2, 3, 3, 4, 5] : List Int))).bind fun bt242 => ((spec_l01DrawOf.f k s0_0 bt242.2.1 bt242.2.2 bt236.1 bt242.1).bind fun bt245 => (some (bt245.1, bt245.2.1, bt245.2.2)))))) else ((spec_l01Small.f k s0_0 t173 t174).bind fun bt248 => (some (bt248.1, bt248.2.1, bt248.2.2))))))) = some (r1, r2, r3) := H
 have A2 := Aside0.mk A20
 clear A20
 by_cases c3 : t172 = 0
 ·rw [if_pos c3] at H
  have c3b0 : (t172 == 0) = true := beq_iff_eq.mpr c3
  have c3b1 : (t172 != 0) = false := bne_eq_false_iff_eq.mpr c3
  clear c3
  replace H := Option.bind_eq_some_iff.mp H
  obtain ⟨t175, A40, H⟩ := H
  replace H : ((spec_l01Next.f s0_0 t173 t174 4).bind fun bt178 => (if 0 ≤ bt178.1 then (if bt178.1 < (t175.length : Int) then ((spec_l01Pick.f s0_0 bt178.2.1 bt178.2.2 (([12, 30, 61] : List Int))).bind fun bt185 => ((spec_l01Next.f s0_0 bt185.2.1 bt185.2.2 bt185.1).bind fun bt188 => ((spec_l01Named.f k (rdOf ByteArray.empty t175 bt178.1) bt188.1).bind fun bt191 => (some (bt191.1, bt188.2.1, bt188.2.2))))) else (none)) else (none))) = some (r1, r2, r3) := H
  have A4 := Aside0.mk A40
  clear A40
  replace H := Option.bind_eq_some_iff.mp H
  obtain ⟨⟨t178, t179, t180⟩, A50, H⟩ := H
  replace H : (if 0 ≤ t178 then (if t178 < (t175.length : Int) then ((spec_l01Pick.f s0_0 t179 t180 (([12, 30, 61] : List Int))).bind fun bt185 => ((spec_l01Next.f s0_0 bt185.2.1 bt185.2.2 bt185.1).bind fun bt188 => ((spec_l01Named.f k (rdOf ByteArray.empty t175 t178) bt188.1).bind fun bt191 => (some (bt191.1, bt188.2.1, bt188.2.2))))) else (none)) else (none)) = some (r1, r2, r3) := H
  have A5 := Aside0.mk A50
  clear A50
  by_cases c6 : 0 ≤ t178
  ·rw [if_pos c6] at H
   have c6b0 : decide (0 ≤ t178) = true := decide_eq_true c6
   clear c6
   by_cases c7 : t178 < (t175.length : Int)
   ·rw [if_pos c7] at H
    have c7b0 : decide (t178 < (t175.length : Int)) = true := decide_eq_true c7
    clear c7
    obtain ⟨y182, hy182⟩ : ∃ y_ : List Int, y_ = (([12, 30, 61] : List Int)) := ⟨_, rfl⟩
    replace H : ((spec_l01Pick.f s0_0 t179 t180 y182).bind fun bt185 => ((spec_l01Next.f s0_0 bt185.2.1 bt185.2.2 bt185.1).bind fun bt188 => ((spec_l01Named.f k (rdOf ByteArray.empty t175 t178) bt188.1).bind fun bt191 => (some (bt191.1, bt188.2.1, bt188.2.2))))) = some (r1, r2, r3) := by first | (rw [hy182]; with_reducible exact H) | (have H2_ := (Option.bind_some _ _).symm.trans H; rw [hy182]; with_reducible exact H2_) | (have H2_ := (Option.bind_some _ _).symm.trans H; with_reducible exact H2_) | with_reducible exact H | (rw [hy182]; exact H) | exact H
    have Ny182 := Aside0.mk hy182
    clear hy182
    replace H := Option.bind_eq_some_iff.mp H
    obtain ⟨⟨t185, t186, t187⟩, A80, H⟩ := H
    replace H : ((spec_l01Next.f s0_0 t186 t187 t185).bind fun bt188 => ((spec_l01Named.f k (rdOf ByteArray.empty t175 t178) bt188.1).bind fun bt191 => (some (bt191.1, bt188.2.1, bt188.2.2)))) = some (r1, r2, r3) := H
    have A8 := Aside0.mk A80
    clear A80
    replace H := Option.bind_eq_some_iff.mp H
    obtain ⟨⟨t188, t189, t190⟩, A90, H⟩ := H
    replace H : ((spec_l01Named.f k (rdOf ByteArray.empty t175 t178) t188).bind fun bt191 => (some (bt191.1, t189, t190))) = some (r1, r2, r3) := H
    have A9 := Aside0.mk A90
    clear A90
    replace H := Option.bind_eq_some_iff.mp H
    obtain ⟨⟨t191, t192⟩, A100, H⟩ := H
    replace H : (some (t191, t189, t190)) = some (r1, r2, r3) := H
    have A10 := Aside0.mk A100
    clear A100
    simp only [Option.some.injEq, Prod.mk.injEq] at H
    obtain ⟨rfl, rfl, rfl⟩ := H
    go_enter Try.func115, Try.ntmps115
    try go_wp2_with (first | ((with_reducible refine gate_callee (f := 59) rfl ?_); refine goesL_ (some 11) rfl rfl Try.func59 (by kernel_rfl) rfl #[.pointer (some ⟨g, 0, none⟩), .int .i64 6] rfl (by (try simp only [List.map_toArray, List.map_cons, List.map_nil]); first | done | rfl | (simp only [List.length_drop, List.length_take]; rfl)) ?_; (with_reducible refine (spec_l01Next.calls g s0_0 s0_1 s0_2 6 t172 t173 t174 w0 _ ?side1 ?side2 A2.out).mono ?_); (case side1 => repeat (first | (with_reducible first | exact HI0.out | apply IsS92.alloc | apply IsS92.drewN | apply IsS92.drew | apply IsS92.set_1 | apply IsS92.set_2) | exact HI0.out)); (case side2 => repeat (first | (with_reducible first | exact HB.out | apply below_alloc | apply pw_below_drewN | apply below_drew1 | refine below_set ?_ (IsS92.ge HI0.out)) | exact HB.out)); rintro e w11 ⟨rfl, hi, hb, hk⟩; refine ⟨_, rfl, ?_⟩; have n0_ := Aside0.mk (KeepBut.trans (by repeat (first | (with_reducible first | exact HK.out | apply KeepBut.set_ | apply keep_drewN | apply keep_drew | apply keep_alloc) | exact HK.out)) hk (.inl rfl)); have n1_ := Aside0.mk (hb); have n2_ := Aside0.mk (hi); clear HK; clear HB; clear HI0; have HK := n0_; have HB := n1_; have HI0 := n2_; clear n0_ n1_ n2_; (try clear hb); (try clear hb2); (try clear hk); (try clear hi)) | ((with_reducible refine gate_callee (f := 135) rfl ?_); refine goesL_ (some 14) rfl rfl Try.func135 (by kernel_rfl) rfl #[] rfl (by (try simp only [List.map_toArray, List.map_cons, List.map_nil]); first | done | rfl | (simp only [List.length_drop, List.length_take]; rfl)) ?_; (with_reducible refine (spec_l01Names.calls  t175 _ A4.out).mono ?_); rintro e w12 ⟨v176, rfl, ho0, hb⟩; refine ⟨_, rfl, ?_⟩; have n0_ := Aside0.mk (Kd.R_lower ho0 (keep_size (w := w) (g := g) (row := none) (by repeat (first | (with_reducible first | exact HK.out | apply KeepBut.set_ | apply keep_drewN | apply keep_drew | apply keep_alloc) | exact HK.out)))); have n1_ := Aside0.mk (IsS92.below (by repeat (first | (with_reducible first | exact HI0.out | apply IsS92.alloc | apply IsS92.drewN | apply IsS92.drew | apply IsS92.set_1 | apply IsS92.set_2) | exact HI0.out)) hb); have n2_ := Aside0.mk (KeepBut.trans (by repeat (first | (with_reducible first | exact HK.out | apply KeepBut.set_ | apply keep_drewN | apply keep_drew | apply keep_alloc) | exact HK.out)) (KeepBut.of_below hb g none) (.inl rfl)); have n3_ := Aside0.mk (below_step (by repeat (first | (with_reducible first | exact HB.out | apply below_alloc | apply pw_below_drewN | apply below_drew1 | refine below_set ?_ (IsS92.ge HI0.out)) | exact HB.out)) hb); clear HI0; clear HK; clear HB; have HO177 := n0_; have HI0 := n1_; have HK := n2_; have HB := n3_; clear n0_ n1_ n2_ n3_; (try clear hb); (try clear hb2); (try clear hk); (try clear hi); (try clear ho0)))
    have n0_ := Aside0.mk (Kd.R_drew HO177.out)
    have n1_ := Aside0.mk (IsS92.drew HI0.out)
    have n2_ := Aside0.mk (keep_drew HK.out)
    have n3_ := Aside0.mk (below_drew1 HB.out)
    clear HO177
    clear HI0
    clear HK
    clear HB
    have HO177 := n0_
    have HI0 := n1_
    have HK := n2_
    have HB := n3_
    clear n0_ n1_ n2_ n3_
    have p181 : 0 ≤ (t178 : Int) := of_decide_eq_true (by first | (with_reducible assumption) | assumption)
    have q181 : t178 < (t175.length : Int) := of_decide_eq_true (by first | (with_reducible assumption) | assumption)
    obtain ⟨Aq_, co22, eo22⟩ := Kd.R_slice HO177.out
    subst eo22
    obtain ⟨ad181, e181, hx181_0⟩ := Kd.at_string (Kd.R_reads' HO177.out).2.2 t178 p181 q181
    cases e181
    replace p181 := eq_true p181
    replace q181 := eq_true q181
    refine start_ (n := 16) (S := fun w' => True) (ds := []) #[false, false, false, false, false, false, false, false, false, false, false, false, false, false, false, false] (by kernel_rfl) rfl rfl trivial (fun hHeld => ?_); refine with_tabW spec_l01Draw.tab4 spec_l01Draw.bits4 (fun HT_ HW_ => ?_)
    generalize w12.drew = w13 at HO177 HI0 HK HB hx181_0 hHeld ⊢
    refine pure_ (i := 0) (N := some 16) (v := ?_) (a' := ?_) #[true, false, false, false, false, false, false, false, false, false, false, false, false, false, false, false] rfl rfl (any_of HT_.out (by kernel_rfl)) (fun _ _ _ h => h) (Or.inl ⟨by rfl, ?_⟩) ?_ ?_
    rotate_left
    ·intro w'
     go_simp
     with_reducible rfl
    rotate_left
    ·simp only [Act.put, List.setIfInBounds_toArray, List.set_cons_zero, List.set_cons_succ, i64_w, i32_w]
     rfl
    refine pure_ (i := 1) (N := some 17) (v := ?_) (a' := ?_) #[true, true, false, false, false, false, false, false, false, false, false, false, false, false, false, false] rfl rfl (any_of HT_.out (by kernel_rfl)) (fun _ _ _ h => h) (Or.inl ⟨by rfl, ?_⟩) ?_ ?_
    rotate_left
    ·intro w'
     go_simp
     with_reducible rfl
    rotate_left
    ·simp only [Act.put, List.setIfInBounds_toArray, List.set_cons_zero, List.set_cons_succ, i64_w, i32_w]
     rfl
    refine pure_ (i := 5) (N := some 21) (v := ?_) (a' := ?_) #[true, true, false, false, false, true, false, false, false, false, false, false, false, false, false, false] rfl rfl (any_of HT_.out (by kernel_rfl)) (fun _ _ _ h => h) (Or.inl ⟨by rfl, ?_⟩) ?_ ?_
    rotate_left
    ·intro w'
     go_simp
     with_reducible rfl
    rotate_left
    ·simp only [Act.put, List.setIfInBounds_toArray, List.set_cons_zero, List.set_cons_succ, i64_w, i32_w]
     rfl
    refine pure_ (i := 6) (N := some 22) (v := ?_) (a' := ?_) #[true, true, false, false, false, true, true, false, false, false, false, false, false, false, false, false] rfl rfl (any_of HT_.out (by kernel_rfl)) (fun _ _ _ h => h) (Or.inl ⟨by rfl, ?_⟩) ?_ ?_
    rotate_left
    ·intro w'
     go_simp
     with_reducible rfl
    rotate_left
    ·simp only [Act.put, List.setIfInBounds_toArray, List.set_cons_zero, List.set_cons_succ, i64_w, i32_w]
     rfl
    refine inv_at [2, 3, 4, 7, 8, 9, 10, 11, 12, 13, 14, 15] (fun a0_ b a w' => ∃ (v183 : Value), a = putSel a0_ b [(2, 18, .int .i64 t178), (3, 19, .pointer (some (ad181.add (t178).toNat))), (4, 20, .string (rdOf ByteArray.empty t175 t178)), (7, 23, v183), (8, 24, .int .i64 t185), (9, 25, .int .i64 t188), (10, 26, .tuple #[.string t191, .bool t192]), (11, 15, .tuple #[.string t191, .bool t192]), (12, 27, .string t191), (13, 28, .bool t192), (14, 4, .string t191), (15, 5, .bool t192)] ∧ (Kd.R Kd.string 9 w' w.heap.size (fun _ => True) (.slice (some ad181) t175.length co22) t175) ∧ (b 2 = false → IsS92 w0 w' g s0_0 t173 t174) ∧ (KeepBut w w' g none) ∧ (Below w0.heap.size w0 w') ∧ (b 2 = true → b 8 = false → IsS92 w0 w' g s0_0 t179 t180) ∧ (b 7 = true → Kd.R (Kd.int .i64) 2 w' w.heap.size (fun _ => True) v183 y182) ∧ (b 8 = true → b 9 = false → IsS92 w0 w' g s0_0 t186 t187) ∧ (b 9 = true → IsS92 w0 w' g s0_0 t189 t190)) HT_.out HW_.out (by kernel_rfl) (by kernel_rfl) ?_ ?_ ?_
    ·exact ⟨.bool false, by simp only [putSel, Bool.false_eq_true, if_false], HO177.out, fun _ => HI0.out, HK.out, HB.out, fun h_ => absurd h_ (by decide), fun h_ => absurd h_ (by decide), fun h_ => absurd h_ (by decide), fun h_ => absurd h_ (by decide)⟩
    ·skip
     clear HB HI0 HK HO177
     refine steps_cons ?_ ?_
     ·rintro b a w' ⟨v183, ha, Q_HO177, Q_HI0, Q_HK, Q_HB, Q_HI0_e2, Q_HO184, Q_HI0_e8, Q_HI0_e9⟩ hb_ hon hoff
      refine ⟨_, rfl, fun K hK => ?_⟩
      have e17 : a.tmps[17]? = some (.pointer (some ⟨g, 0, none⟩)) := by rw [ha]; exact (putSel_off rfl).trans rfl
      replace ha := Aside0.mk ha
      have HO177 := Aside0.mk Q_HO177
      have HI0 := Aside0.mk (Q_HI0 hb_)
      have HK := Aside0.mk Q_HK
      have HB := Aside0.mk Q_HB
      refine goes_ Try.func59 (by kernel_rfl) rfl #[.pointer (some ⟨g, 0, none⟩), .int .i64 4] (by rfl) rfl rfl (by first | (simp only [List.map_toArray, List.map_cons, List.map_nil, Act.eval, Array.getD_eq_getD_getElem?, Option.getD_some, e17]; done) | (simp only [List.map_toArray, List.map_cons, List.map_nil, Act.eval, Array.getD_eq_getD_getElem?, Option.getD_some, e17]; rfl)) ?_
      with_reducible refine (spec_l01Next.calls g s0_0 t173 t174 4 t178 t179 t180 w0 _ ?side1 ?side2 A5.out).mono ?_
      (case side1 => repeat (first | (with_reducible first | exact HI0.out | apply IsS92.alloc | apply IsS92.drewN | apply IsS92.drew | apply IsS92.set_1 | apply IsS92.set_2) | exact HI0.out))
      (case side2 => repeat (first | (with_reducible first | exact HB.out | apply below_alloc | apply pw_below_drewN | apply below_drew1 | refine below_set ?_ (IsS92.ge HI0.out)) | exact HB.out))
      rintro e w14 ⟨rfl, hi, hb, hk⟩
      refine ⟨_, rfl, ?_⟩
      have n0_ := Aside0.mk (Kd.R_mono (Kd.R_keep (IsS92.apart (show IsS92 w0 _ g s0_0 t173 t174 from by repeat (first | (with_reducible first | exact HI0.out | apply IsS92.alloc | apply IsS92.drewN | apply IsS92.drew | apply IsS92.set_1 | apply IsS92.set_2) | exact HI0.out)) (by (with_reducible repeat (first | apply Kd.R_alloc | apply Kd.R_drewN | apply Kd.R_drew)); exact HO177.out) (by decide)) hk (fun _ h => h.2)) (fun _ h => h.1))
      have n1_ := Aside0.mk (KeepBut.trans (by repeat (first | (with_reducible first | exact HK.out | apply KeepBut.set_ | apply keep_drewN | apply keep_drew | apply keep_alloc) | exact HK.out)) hk (.inl rfl))
      have n2_ := Aside0.mk (hb)
      have n3_ := Aside0.mk (hi)
      have z_HO184 := fun (h0_ : b 7 = true) => (show Kd.R (Kd.int .i64) 2 w14 w.heap.size (fun _ => True) v183 y182 from by first | exact (Kd.R_mono (Kd.R_keep (IsS92.apart (show IsS92 w0 _ g s0_0 t173 t174 from by repeat (first | (with_reducible first | exact HI0.out | apply IsS92.alloc | apply IsS92.drewN | apply IsS92.drew | apply IsS92.set_1 | apply IsS92.set_2) | exact HI0.out)) (by (with_reducible repeat (first | apply Kd.R_alloc | apply Kd.R_drewN | apply Kd.R_drew)); exact (Q_HO184 h0_)) (by decide)) hk (fun _ h => h.2)) (fun _ h => h.1)) | exact Kd.R_mono (Kd.R_mono (Kd.R_keep (IsS92.apart (show IsS92 w0 _ g s0_0 t173 t174 from by repeat (first | (with_reducible first | exact HI0.out | apply IsS92.alloc | apply IsS92.drewN | apply IsS92.drew | apply IsS92.set_1 | apply IsS92.set_2) | exact HI0.out)) (by (with_reducible repeat (first | apply Kd.R_alloc | apply Kd.R_drewN | apply Kd.R_drew)); exact (Q_HO184 h0_)) (by decide)) hk (fun _ h => h.2)) (fun _ h => h.1)) (fun _ h_ => by first | trivial | exact h_ | exact h_.1))
      clear HO177
      clear HK
      clear HB
      clear HI0
      have HO177 := n0_
      have HK := n1_
      have HB := n2_
      have HI0 := n3_
      clear n0_ n1_ n2_ n3_
      (try clear hb)
      (try clear hb2)
      (try clear hk)
      (try clear hi)
      refine hK.out _ _ ⟨v183, (by rw [ha.out]; exact putSel_upk 0 hb_ rfl rfl rfl), (by (with_reducible repeat (first | apply Kd.R_alloc | apply Kd.R_drewN | apply Kd.R_drew)); exact HO177.out), fun h0_ => absurd ((up_self b 2).symm.trans h0_) (by decide), (by repeat (first | (with_reducible first | exact HK.out | apply KeepBut.set_ | apply keep_drewN | apply keep_drew | apply keep_alloc) | exact HK.out)), (by repeat (first | (with_reducible first | exact HB.out | apply below_alloc | apply pw_below_drewN | apply below_drew1 | refine below_set ?_ (IsS92.ge HI0.out)) | exact HB.out)), fun _ _ => (by repeat (first | (with_reducible first | exact HI0.out | apply IsS92.alloc | apply IsS92.drewN | apply IsS92.drew | apply IsS92.set_1 | apply IsS92.set_2) | exact HI0.out)), z_HO184, fun h0_ _ => absurd ((hoff 8 (by kernel_rfl)).symm.trans h0_) (by decide), fun h0_ => absurd ((hoff 9 (by kernel_rfl)).symm.trans h0_) (by decide)⟩
     refine steps_cons ?_ ?_
     ·rintro b a w' ⟨v183, ha, Q_HO177, Q_HI0, Q_HK, Q_HB, Q_HI0_e2, Q_HO184, Q_HI0_e8, Q_HI0_e9⟩ hb_ hon hoff
      refine ⟨_, rfl, fun K hK => ?_⟩
      have e16 : a.tmps[16]? = some (.slice (some ad181) t175.length co22) := by rw [ha]; exact (putSel_off rfl).trans rfl
      have e18 : a.tmps[18]? = some (.int .i64 t178) := by rw [ha]; exact putSel_on (e := (2, 18, .int .i64 t178)) 0 rfl rfl (hon 2 (by kernel_rfl)) rfl
      replace ha := Aside0.mk ha
      have HO177 := Aside0.mk Q_HO177
      have HK := Aside0.mk Q_HK
      have HB := Aside0.mk Q_HB
      refine value_ (w1 := w') (v := .pointer (some (ad181.add (t178).toNat))) (by rfl) rfl ?_ ?_
      ·go_simp
       (try simp only [i64_w])
       try rfl
      refine hK.out _ _ ⟨v183, (by rw [ha.out]; exact putSel_upk 1 hb_ rfl rfl rfl), Q_HO177, fun h0_ => absurd ((hon 2 (by kernel_rfl)).symm.trans h0_) (by decide), Q_HK, Q_HB, Q_HI0_e2, Q_HO184, Q_HI0_e8, Q_HI0_e9⟩
     refine steps_cons ?_ ?_
     ·rintro b a w' ⟨v183, ha, Q_HO177, Q_HI0, Q_HK, Q_HB, Q_HI0_e2, Q_HO184, Q_HI0_e8, Q_HI0_e9⟩ hb_ hon hoff
      refine ⟨_, rfl, fun K hK => ?_⟩
      have e19 : a.tmps[19]? = some (.pointer (some (ad181.add (t178).toNat))) := by rw [ha]; exact putSel_on (e := (3, 19, .pointer (some (ad181.add (t178).toNat)))) 1 rfl rfl (hon 3 (by kernel_rfl)) rfl
      replace ha := Aside0.mk ha
      have HO177 := Aside0.mk Q_HO177
      have HK := Aside0.mk Q_HK
      have HB := Aside0.mk Q_HB
      obtain ⟨ad181_z, e181_z, hx181_0_z⟩ := Kd.at_string (Kd.R_reads' HO177.out).2.2 t178 (of_eq_true p181) (of_eq_true q181)
      cases e181_z
      have hs0_ : w'.cell? (ad181.add (t178).toNat) = some (.string (rdOf ByteArray.empty t175 t178)) := (by first | exact hx181_0_z | (have h_ := hx181_0_z; (try simp only [Int.reduceToNat, Nat.zero_mul, Nat.reduceMul, Nat.reduceEqDiff, Go.Addr.add, ↓reduceIte, Addr.add_zero'] at h_); exact h_))
      refine value_ (w1 := w') (v := .string (rdOf ByteArray.empty t175 t178)) (by rfl) rfl ?_ ?_
      ·go_simp
       (try simp only [i64_w])
       try rfl
      refine hK.out _ _ ⟨v183, (by rw [ha.out]; exact putSel_upk 2 hb_ rfl rfl rfl), Q_HO177, fun h0_ => absurd ((hon 2 (by kernel_rfl)).symm.trans h0_) (by decide), Q_HK, Q_HB, Q_HI0_e2, Q_HO184, Q_HI0_e8, Q_HI0_e9⟩
     refine steps_cons ?_ ?_
     ·rintro b a w' ⟨v183, ha, Q_HO177, Q_HI0, Q_HK, Q_HB, Q_HI0_e2, Q_HO184, Q_HI0_e8, Q_HI0_e9⟩ hb_ hon hoff
      refine ⟨_, rfl, fun K hK => ?_⟩
      replace ha := Aside0.mk ha
      have HO177 := Aside0.mk Q_HO177
      have HK := Aside0.mk Q_HK
      have HB := Aside0.mk Q_HB
      refine Kd.R_lit_step (Kd.int .i64) _ 2 ?hg (N := 23) ?hd (xs := ([12, 30, 61] : List Int)) (inner := [.int .i64 12, .int .i64 30, .int .i64 61]) (ok := fun _ => True) (okp := fun _ => True) ?hr ?hp (fun _ hk => hk) trivial (Below.refl _ _) (Nat.le_refl _) (by simp) ?_; (case hd => rfl); (case hg => rfl); (case hr => first | (go_simp; done) | (go_simp; rfl)); (case hp => exact (Reps.one (show Kd.M (Kd.int .i64) _ _ _ 12 [.int .i64 12] from rfl) (Reps.one (show Kd.M (Kd.int .i64) _ _ _ 30 [.int .i64 30] from rfl) (Reps.one (show Kd.M (Kd.int .i64) _ _ _ 61 [.int .i64 61] from rfl) (Reps.none _ _)))))
      intro v183 w14 ho15 hb hg_ hnew_
      clear hg_ hnew_
      (first | rw [← Ny182.out] at ho15 | (simp only [Int.reduceToNat] at ho15; rw [← Ny182.out] at ho15))
      have n0_ := Aside0.mk (Kd.R_below (by (with_reducible repeat (first | apply Kd.R_alloc | apply Kd.R_drewN | apply Kd.R_drew)); exact HO177.out) hb)
      have n1_ := Aside0.mk (Kd.R_lower ho15 (keep_size (w := w) (g := g) (row := none) (by repeat (first | (with_reducible first | exact HK.out | apply KeepBut.set_ | apply keep_drewN | apply keep_drew | apply keep_alloc) | exact HK.out))))
      have n3_ := Aside0.mk (KeepBut.trans (by repeat (first | (with_reducible first | exact HK.out | apply KeepBut.set_ | apply keep_drewN | apply keep_drew | apply keep_alloc) | exact HK.out)) (KeepBut.of_below hb g none) (.inl rfl))
      have n4_ := Aside0.mk (below_step (by repeat (first | (with_reducible first | exact HB.out | apply below_alloc | apply pw_below_drewN | apply below_drew1) | exact HB.out)) hb)
      have z_HI0 := fun (h0_ : b 2 = false) => (show IsS92 w0 w14 g s0_0 t173 t174 from by first | exact (IsS92.below (by repeat (first | (with_reducible first | exact (Q_HI0 h0_) | apply IsS92.alloc | apply IsS92.drewN | apply IsS92.drew | apply IsS92.set_1 | apply IsS92.set_2) | exact (Q_HI0 h0_))) hb))
      have z_HI0_e2 := fun (h0_ : b 2 = true) (h1_ : b 8 = false) => (show IsS92 w0 w14 g s0_0 t179 t180 from by first | exact (IsS92.below (by repeat (first | (with_reducible first | exact (Q_HI0_e2 h0_ h1_) | apply IsS92.alloc | apply IsS92.drewN | apply IsS92.drew | apply IsS92.set_1 | apply IsS92.set_2) | exact (Q_HI0_e2 h0_ h1_))) hb))
      clear HO177
      clear HK
      clear HB
      have HO177 := n0_
      have HO184 := n1_
      have HK := n3_
      have HB := n4_
      clear n0_ n1_ n3_ n4_
      clear hb ho15
      refine hK.out _ _ ⟨v183, (by rw [ha.out]; exact putSel_upk 3 hb_ rfl rfl rfl), (by (with_reducible repeat (first | apply Kd.R_alloc | apply Kd.R_drewN | apply Kd.R_drew)); exact HO177.out), z_HI0, (by repeat (first | (with_reducible first | exact HK.out | apply KeepBut.set_ | apply keep_drewN | apply keep_drew | apply keep_alloc) | exact HK.out)), (by repeat (first | (with_reducible first | exact HB.out | apply below_alloc | apply pw_below_drewN | apply below_drew1) | exact HB.out)), z_HI0_e2, fun _ => (by (with_reducible repeat (first | apply Kd.R_alloc | apply Kd.R_drewN | apply Kd.R_drew)); exact HO184.out), fun h0_ _ => absurd ((hoff 8 (by kernel_rfl)).symm.trans h0_) (by decide), fun h0_ => absurd ((hoff 9 (by kernel_rfl)).symm.trans h0_) (by decide)⟩
     refine steps_cons ?_ ?_
     ·rintro b a w' ⟨v183, ha, Q_HO177, Q_HI0, Q_HK, Q_HB, Q_HI0_e2, Q_HO184, Q_HI0_e8, Q_HI0_e9⟩ hb_ hon hoff
      refine ⟨_, rfl, fun K hK => ?_⟩
      have e22 : a.tmps[22]? = some (.pointer (some ⟨g, 0, none⟩)) := by rw [ha]; exact (putSel_off rfl).trans rfl
      have e23 : a.tmps[23]? = some (v183) := by rw [ha]; exact putSel_on (e := (7, 23, v183)) 3 rfl rfl (hon 7 (by kernel_rfl)) rfl
      replace ha := Aside0.mk ha
      have HO177 := Aside0.mk Q_HO177
      have HK := Aside0.mk Q_HK
      have HB := Aside0.mk Q_HB
      have HI0 := Aside0.mk (Q_HI0_e2 (hon 2 (by kernel_rfl)) hb_)
      have HO184 := Aside0.mk (Q_HO184 (hon 7 (by kernel_rfl)))
      obtain ⟨Ao18, co18, eo18⟩ := Kd.R_slice HO184.out
      (first | subst eo18 | (injection eo18 with f1_ f2_ f3_; have f4_ := f1_.symm; have f5_ := f3_.symm; clear f1_ f2_ f3_; subst f4_; subst f5_))
      refine goes_ Try.func61 (by kernel_rfl) rfl #[.pointer (some ⟨g, 0, none⟩), .slice Ao18 y182.length co18] (by rfl) rfl rfl (by first | (simp only [List.map_toArray, List.map_cons, List.map_nil, Act.eval, Array.getD_eq_getD_getElem?, Option.getD_some, e22, e23]; done) | (simp only [List.map_toArray, List.map_cons, List.map_nil, Act.eval, Array.getD_eq_getD_getElem?, Option.getD_some, e22, e23]; rfl)) ?_
      with_reducible refine (spec_l01Pick.calls g s0_0 t179 t180 _ _ y182 t185 t186 t187 w0 _ ?side1 ?side2 ?side3 ?side4 ?side5 A8.out).mono ?_
      (case side1 => repeat (first | (with_reducible first | exact HI0.out | apply IsS92.alloc | apply IsS92.drewN | apply IsS92.drew | apply IsS92.set_1 | apply IsS92.set_2) | exact HI0.out))
      (case side2 => repeat (first | (with_reducible first | exact HB.out | apply below_alloc | apply pw_below_drewN | apply below_drew1 | refine below_set ?_ (IsS92.ge HI0.out)) | exact HB.out))
      (case side3 => repeat (first | exact (Kd.R_reads' HO184.out).2.2 | (with_reducible refine Kd.C_alloc ?_ _) | (with_reducible refine Kd.C_drewN ?_ _) | (with_reducible refine Kd.C_drew ?_)))
      (case side4 => exact (Kd.R_reads' HO184.out).2.1)
      (case side5 => exact far_slice (IsS92.own_ne HI0.out HO184.out (by decide)))
      rintro e w19 ⟨rfl, hi, hb, hk⟩
      refine ⟨_, rfl, ?_⟩
      have n0_ := Aside0.mk (Kd.R_mono (Kd.R_keep (IsS92.apart (show IsS92 w0 _ g s0_0 t179 t180 from by repeat (first | (with_reducible first | exact HI0.out | apply IsS92.alloc | apply IsS92.drewN | apply IsS92.drew | apply IsS92.set_1 | apply IsS92.set_2) | exact HI0.out)) (by (with_reducible repeat (first | apply Kd.R_alloc | apply Kd.R_drewN | apply Kd.R_drew)); exact HO177.out) (by decide)) hk (fun _ h => h.2)) (fun _ h => h.1))
      have n1_ := Aside0.mk (Kd.R_mono (Kd.R_keep (IsS92.apart (show IsS92 w0 _ g s0_0 t179 t180 from by repeat (first | (with_reducible first | exact HI0.out | apply IsS92.alloc | apply IsS92.drewN | apply IsS92.drew | apply IsS92.set_1 | apply IsS92.set_2) | exact HI0.out)) (by (with_reducible repeat (first | apply Kd.R_alloc | apply Kd.R_drewN | apply Kd.R_drew)); exact HO184.out) (by decide)) hk (fun _ h => h.2)) (fun _ h => h.1))
      have n2_ := Aside0.mk (KeepBut.trans (by repeat (first | (with_reducible first | exact HK.out | apply KeepBut.set_ | apply keep_drewN | apply keep_drew | apply keep_alloc) | exact HK.out)) hk (.inl rfl))
      have n3_ := Aside0.mk (hb)
      have n4_ := Aside0.mk (hi)
      clear HO177
      clear HO184
      clear HK
      clear HB
      clear HI0
      have HO177 := n0_
      have HO184 := n1_
      have HK := n2_
      have HB := n3_
      have HI0 := n4_
      clear n0_ n1_ n2_ n3_ n4_
      (try clear hb)
      (try clear hb2)
      (try clear hk)
      (try clear hi)
      refine hK.out _ _ ⟨.slice Ao18 y182.length co18, (by rw [ha.out]; exact putSel_upk 4 hb_ rfl rfl rfl), (by (with_reducible repeat (first | apply Kd.R_alloc | apply Kd.R_drewN | apply Kd.R_drew)); exact HO177.out), fun h0_ => absurd ((hon 2 (by kernel_rfl)).symm.trans h0_) (by decide), (by repeat (first | (with_reducible first | exact HK.out | apply KeepBut.set_ | apply keep_drewN | apply keep_drew | apply keep_alloc) | exact HK.out)), (by repeat (first | (with_reducible first | exact HB.out | apply below_alloc | apply pw_below_drewN | apply below_drew1 | refine below_set ?_ (IsS92.ge HI0.out)) | exact HB.out)), fun _ h1_ => absurd ((up_self b 8).symm.trans h1_) (by decide), fun _ => (by (with_reducible repeat (first | apply Kd.R_alloc | apply Kd.R_drewN | apply Kd.R_drew)); exact HO184.out), fun _ _ => (by repeat (first | (with_reducible first | exact HI0.out | apply IsS92.alloc | apply IsS92.drewN | apply IsS92.drew | apply IsS92.set_1 | apply IsS92.set_2) | exact HI0.out)), fun h0_ => absurd ((hoff 9 (by kernel_rfl)).symm.trans h0_) (by decide)⟩
     refine steps_cons ?_ ?_
     ·rintro b a w' ⟨v183, ha, Q_HO177, Q_HI0, Q_HK, Q_HB, Q_HI0_e2, Q_HO184, Q_HI0_e8, Q_HI0_e9⟩ hb_ hon hoff
      refine ⟨_, rfl, fun K hK => ?_⟩
      have e21 : a.tmps[21]? = some (.pointer (some ⟨g, 0, none⟩)) := by rw [ha]; exact (putSel_off rfl).trans rfl
      have e24 : a.tmps[24]? = some (.int .i64 t185) := by rw [ha]; exact putSel_on (e := (8, 24, .int .i64 t185)) 4 rfl rfl (hon 8 (by kernel_rfl)) rfl
      replace ha := Aside0.mk ha
      have HO177 := Aside0.mk Q_HO177
      have HK := Aside0.mk Q_HK
      have HB := Aside0.mk Q_HB
      have HO184 := Aside0.mk (Q_HO184 (hon 7 (by kernel_rfl)))
      have HI0 := Aside0.mk (Q_HI0_e8 (hon 8 (by kernel_rfl)) hb_)
      refine goes_ Try.func59 (by kernel_rfl) rfl #[.pointer (some ⟨g, 0, none⟩), .int .i64 t185] (by rfl) rfl rfl (by first | (simp only [List.map_toArray, List.map_cons, List.map_nil, Act.eval, Array.getD_eq_getD_getElem?, Option.getD_some, e21, e24]; done) | (simp only [List.map_toArray, List.map_cons, List.map_nil, Act.eval, Array.getD_eq_getD_getElem?, Option.getD_some, e21, e24]; rfl)) ?_
      with_reducible refine (spec_l01Next.calls g s0_0 t186 t187 t185 t188 t189 t190 w0 _ ?side1 ?side2 A9.out).mono ?_
      (case side1 => repeat (first | (with_reducible first | exact HI0.out | apply IsS92.alloc | apply IsS92.drewN | apply IsS92.drew | apply IsS92.set_1 | apply IsS92.set_2) | exact HI0.out))
      (case side2 => repeat (first | (with_reducible first | exact HB.out | apply below_alloc | apply pw_below_drewN | apply below_drew1 | refine below_set ?_ (IsS92.ge HI0.out)) | exact HB.out))
      rintro e w20 ⟨rfl, hi, hb, hk⟩
      refine ⟨_, rfl, ?_⟩
      have n0_ := Aside0.mk (Kd.R_mono (Kd.R_keep (IsS92.apart (show IsS92 w0 _ g s0_0 t186 t187 from by repeat (first | (with_reducible first | exact HI0.out | apply IsS92.alloc | apply IsS92.drewN | apply IsS92.drew | apply IsS92.set_1 | apply IsS92.set_2) | exact HI0.out)) (by (with_reducible repeat (first | apply Kd.R_alloc | apply Kd.R_drewN | apply Kd.R_drew)); exact HO177.out) (by decide)) hk (fun _ h => h.2)) (fun _ h => h.1))
      have n1_ := Aside0.mk (Kd.R_mono (Kd.R_keep (IsS92.apart (show IsS92 w0 _ g s0_0 t186 t187 from by repeat (first | (with_reducible first | exact HI0.out | apply IsS92.alloc | apply IsS92.drewN | apply IsS92.drew | apply IsS92.set_1 | apply IsS92.set_2) | exact HI0.out)) (by (with_reducible repeat (first | apply Kd.R_alloc | apply Kd.R_drewN | apply Kd.R_drew)); exact HO184.out) (by decide)) hk (fun _ h => h.2)) (fun _ h => h.1))
      have n2_ := Aside0.mk (KeepBut.trans (by repeat (first | (with_reducible first | exact HK.out | apply KeepBut.set_ | apply keep_drewN | apply keep_drew | apply keep_alloc) | exact HK.out)) hk (.inl rfl))
      have n3_ := Aside0.mk (hb)
      have n4_ := Aside0.mk (hi)
      clear HO177
      clear HO184
      clear HK
      clear HB
      clear HI0
      have HO177 := n0_
      have HO184 := n1_
      have HK := n2_
      have HB := n3_
      have HI0 := n4_
      clear n0_ n1_ n2_ n3_ n4_
      (try clear hb)
      (try clear hb2)
      (try clear hk)
      (try clear hi)
      refine hK.out _ _ ⟨v183, (by rw [ha.out]; exact putSel_upk 5 hb_ rfl rfl rfl), (by (with_reducible repeat (first | apply Kd.R_alloc | apply Kd.R_drewN | apply Kd.R_drew)); exact HO177.out), fun h0_ => absurd ((hon 2 (by kernel_rfl)).symm.trans h0_) (by decide), (by repeat (first | (with_reducible first | exact HK.out | apply KeepBut.set_ | apply keep_drewN | apply keep_drew | apply keep_alloc) | exact HK.out)), (by repeat (first | (with_reducible first | exact HB.out | apply below_alloc | apply pw_below_drewN | apply below_drew1 | refine below_set ?_ (IsS92.ge HI0.out)) | exact HB.out)), fun _ h1_ => absurd ((hon 8 (by kernel_rfl)).symm.trans h1_) (by decide), fun _ => (by (with_reducible repeat (first | apply Kd.R_alloc | apply Kd.R_drewN | apply Kd.R_drew)); exact HO184.out), fun _ h1_ => absurd ((up_self b 9).symm.trans h1_) (by decide), fun _ => (by repeat (first | (with_reducible first | exact HI0.out | apply IsS92.alloc | apply IsS92.drewN | apply IsS92.drew | apply IsS92.set_1 | apply IsS92.set_2) | exact HI0.out))⟩
     refine steps_cons ?_ ?_
     ·rintro b a w' ⟨v183, ha, Q_HO177, Q_HI0, Q_HK, Q_HB, Q_HI0_e2, Q_HO184, Q_HI0_e8, Q_HI0_e9⟩ hb_ hon hoff
      refine ⟨_, rfl, fun K hK => ?_⟩
      have e20 : a.tmps[20]? = some (.string (rdOf ByteArray.empty t175 t178)) := by rw [ha]; exact putSel_on (e := (4, 20, .string (rdOf ByteArray.empty t175 t178))) 2 rfl rfl (hon 4 (by kernel_rfl)) rfl
      have e25 : a.tmps[25]? = some (.int .i64 t188) := by rw [ha]; exact putSel_on (e := (9, 25, .int .i64 t188)) 5 rfl rfl (hon 9 (by kernel_rfl)) rfl
      replace ha := Aside0.mk ha
      have HO177 := Aside0.mk Q_HO177
      have HK := Aside0.mk Q_HK
      have HB := Aside0.mk Q_HB
      have HO184 := Aside0.mk (Q_HO184 (hon 7 (by kernel_rfl)))
      have HI0 := Aside0.mk (Q_HI0_e9 (hon 9 (by kernel_rfl)))
      refine goes_ Try.func136 (by kernel_rfl) rfl #[.string (rdOf ByteArray.empty t175 t178), .int .i64 t188] (by rfl) rfl rfl (by first | (simp only [List.map_toArray, List.map_cons, List.map_nil, Act.eval, Array.getD_eq_getD_getElem?, Option.getD_some, e20, e25]; done) | (simp only [List.map_toArray, List.map_cons, List.map_nil, Act.eval, Array.getD_eq_getD_getElem?, Option.getD_some, e20, e25]; rfl)) ?_
      with_reducible refine (spec_l01Named.calls k (rdOf ByteArray.empty t175 t178) t188 t191 t192 _ A10.out).mono ?_
      rintro e w21 ⟨rfl, hb⟩
      refine ⟨_, rfl, ?_⟩
      have n0_ := Aside0.mk (Kd.R_below (by (with_reducible repeat (first | apply Kd.R_alloc | apply Kd.R_drewN | apply Kd.R_drew)); exact HO177.out) hb)
      have n1_ := Aside0.mk (Kd.R_below (by (with_reducible repeat (first | apply Kd.R_alloc | apply Kd.R_drewN | apply Kd.R_drew)); exact HO184.out) hb)
      have n2_ := Aside0.mk (IsS92.below (by repeat (first | (with_reducible first | exact HI0.out | apply IsS92.alloc | apply IsS92.drewN | apply IsS92.drew | apply IsS92.set_1 | apply IsS92.set_2) | exact HI0.out)) hb)
      have n3_ := Aside0.mk (KeepBut.trans (by repeat (first | (with_reducible first | exact HK.out | apply KeepBut.set_ | apply keep_drewN | apply keep_drew | apply keep_alloc) | exact HK.out)) (KeepBut.of_below hb g none) (.inl rfl))
      have n4_ := Aside0.mk (below_step (by repeat (first | (with_reducible first | exact HB.out | apply below_alloc | apply pw_below_drewN | apply below_drew1 | refine below_set ?_ (IsS92.ge HI0.out)) | exact HB.out)) hb)
      clear HO177
      clear HO184
      clear HI0
      clear HK
      clear HB
      have HO177 := n0_
      have HO184 := n1_
      have HI0 := n2_
      have HK := n3_
      have HB := n4_
      clear n0_ n1_ n2_ n3_ n4_
      (try clear hb)
      (try clear hb2)
      (try clear hk)
      (try clear hi)
      refine hK.out _ _ ⟨v183, (by rw [ha.out]; exact putSel_upk 6 hb_ rfl rfl rfl), (by (with_reducible repeat (first | apply Kd.R_alloc | apply Kd.R_drewN | apply Kd.R_drew)); exact HO177.out), fun h0_ => absurd ((hon 2 (by kernel_rfl)).symm.trans h0_) (by decide), (by repeat (first | (with_reducible first | exact HK.out | apply KeepBut.set_ | apply keep_drewN | apply keep_drew | apply keep_alloc) | exact HK.out)), (by repeat (first | (with_reducible first | exact HB.out | apply below_alloc | apply pw_below_drewN | apply below_drew1 | refine below_set ?_ (IsS92.ge HI0.out)) | exact HB.out)), fun _ h1_ => absurd ((hon 8 (by kernel_rfl)).symm.trans h1_) (by decide), fun _ => (by (with_reducible repeat (first | apply Kd.R_alloc | apply Kd.R_drewN | apply Kd.R_drew)); exact HO184.out), fun _ h1_ => absurd ((hon 9 (by kernel_rfl)).symm.trans h1_) (by decide), fun _ => (by repeat (first | (with_reducible first | exact HI0.out | apply IsS92.alloc | apply IsS92.drewN | apply IsS92.drew | apply IsS92.set_1 | apply IsS92.set_2) | exact HI0.out))⟩
     refine steps_cons ?_ ?_
     ·rintro b a w' ⟨v183, ha, Q_HO177, Q_HI0, Q_HK, Q_HB, Q_HI0_e2, Q_HO184, Q_HI0_e8, Q_HI0_e9⟩ hb_ hon hoff
      refine ⟨_, rfl, fun K hK => ?_⟩
      have e26 : a.tmps[26]? = some (.tuple #[.string t191, .bool t192]) := by rw [ha]; exact putSel_on (e := (10, 26, .tuple #[.string t191, .bool t192])) 6 rfl rfl (hon 10 (by kernel_rfl)) rfl
      replace ha := Aside0.mk ha
      have HO177 := Aside0.mk Q_HO177
      have HK := Aside0.mk Q_HK
      have HB := Aside0.mk Q_HB
      have HO184 := Aside0.mk (Q_HO184 (hon 7 (by kernel_rfl)))
      have HI0 := Aside0.mk (Q_HI0_e9 (hon 9 (by kernel_rfl)))
      refine value_ (w1 := w') (v := .tuple #[.string t191, .bool t192]) (by rfl) rfl ?_ ?_
      ·go_simp
       (try simp only [i64_w])
       try rfl
      refine hK.out _ _ ⟨v183, (by rw [ha.out]; exact putSel_upk 7 hb_ rfl rfl rfl), Q_HO177, fun h0_ => absurd ((hon 2 (by kernel_rfl)).symm.trans h0_) (by decide), Q_HK, Q_HB, fun _ h1_ => absurd ((hon 8 (by kernel_rfl)).symm.trans h1_) (by decide), Q_HO184, fun _ h1_ => absurd ((hon 9 (by kernel_rfl)).symm.trans h1_) (by decide), Q_HI0_e9⟩
     refine steps_cons ?_ ?_
     ·rintro b a w' ⟨v183, ha, Q_HO177, Q_HI0, Q_HK, Q_HB, Q_HI0_e2, Q_HO184, Q_HI0_e8, Q_HI0_e9⟩ hb_ hon hoff
      refine ⟨_, rfl, fun K hK => ?_⟩
      have e15 : a.tmps[15]? = some (.tuple #[.string t191, .bool t192]) := by rw [ha]; exact putSel_on (e := (11, 15, .tuple #[.string t191, .bool t192])) 7 rfl rfl (hon 11 (by kernel_rfl)) rfl
      replace ha := Aside0.mk ha
      have HO177 := Aside0.mk Q_HO177
      have HK := Aside0.mk Q_HK
      have HB := Aside0.mk Q_HB
      have HO184 := Aside0.mk (Q_HO184 (hon 7 (by kernel_rfl)))
      have HI0 := Aside0.mk (Q_HI0_e9 (hon 9 (by kernel_rfl)))
      refine value_ (w1 := w') (v := .string t191) (by rfl) rfl ?_ ?_
      ·go_simp
       (try simp only [i64_w])
       try rfl
      refine hK.out _ _ ⟨v183, (by rw [ha.out]; exact putSel_upk 8 hb_ rfl rfl rfl), Q_HO177, fun h0_ => absurd ((hon 2 (by kernel_rfl)).symm.trans h0_) (by decide), Q_HK, Q_HB, fun _ h1_ => absurd ((hon 8 (by kernel_rfl)).symm.trans h1_) (by decide), Q_HO184, fun _ h1_ => absurd ((hon 9 (by kernel_rfl)).symm.trans h1_) (by decide), Q_HI0_e9⟩
     refine steps_cons ?_ ?_
     ·rintro b a w' ⟨v183, ha, Q_HO177, Q_HI0, Q_HK, Q_HB, Q_HI0_e2, Q_HO184, Q_HI0_e8, Q_HI0_e9⟩ hb_ hon hoff
      refine ⟨_, rfl, fun K hK => ?_⟩
      have e15 : a.tmps[15]? = some (.tuple #[.string t191, .bool t192]) := by rw [ha]; exact putSel_on (e := (11, 15, .tuple #[.string t191, .bool t192])) 7 rfl rfl (hon 11 (by kernel_rfl)) rfl
      replace ha := Aside0.mk ha
      have HO177 := Aside0.mk Q_HO177
      have HK := Aside0.mk Q_HK
      have HB := Aside0.mk Q_HB
      have HO184 := Aside0.mk (Q_HO184 (hon 7 (by kernel_rfl)))
      have HI0 := Aside0.mk (Q_HI0_e9 (hon 9 (by kernel_rfl)))
      refine value_ (w1 := w') (v := .bool t192) (by rfl) rfl ?_ ?_
      ·go_simp
       (try simp only [i64_w])
       try rfl
      refine hK.out _ _ ⟨v183, (by rw [ha.out]; exact putSel_upk 9 hb_ rfl rfl rfl), Q_HO177, fun h0_ => absurd ((hon 2 (by kernel_rfl)).symm.trans h0_) (by decide), Q_HK, Q_HB, fun _ h1_ => absurd ((hon 8 (by kernel_rfl)).symm.trans h1_) (by decide), Q_HO184, fun _ h1_ => absurd ((hon 9 (by kernel_rfl)).symm.trans h1_) (by decide), Q_HI0_e9⟩
     refine steps_cons ?_ ?_
     ·rintro b a w' ⟨v183, ha, Q_HO177, Q_HI0, Q_HK, Q_HB, Q_HI0_e2, Q_HO184, Q_HI0_e8, Q_HI0_e9⟩ hb_ hon hoff
      refine ⟨_, rfl, fun K hK => ?_⟩
      have e27 : a.tmps[27]? = some (.string t191) := by rw [ha]; exact putSel_on (e := (12, 27, .string t191)) 8 rfl rfl (hon 12 (by kernel_rfl)) rfl
      replace ha := Aside0.mk ha
      have HO177 := Aside0.mk Q_HO177
      have HK := Aside0.mk Q_HK
      have HB := Aside0.mk Q_HB
      have HO184 := Aside0.mk (Q_HO184 (hon 7 (by kernel_rfl)))
      have HI0 := Aside0.mk (Q_HI0_e9 (hon 9 (by kernel_rfl)))
      refine value_ (w1 := w') (v := .string t191) (by rfl) rfl ?_ ?_
      ·go_simp
       (try simp only [i64_w])
       try rfl
      refine hK.out _ _ ⟨v183, (by rw [ha.out]; exact putSel_upk 10 hb_ rfl rfl rfl), Q_HO177, fun h0_ => absurd ((hon 2 (by kernel_rfl)).symm.trans h0_) (by decide), Q_HK, Q_HB, fun _ h1_ => absurd ((hon 8 (by kernel_rfl)).symm.trans h1_) (by decide), Q_HO184, fun _ h1_ => absurd ((hon 9 (by kernel_rfl)).symm.trans h1_) (by decide), Q_HI0_e9⟩
     refine steps_cons ?_ ?_
     ·rintro b a w' ⟨v183, ha, Q_HO177, Q_HI0, Q_HK, Q_HB, Q_HI0_e2, Q_HO184, Q_HI0_e8, Q_HI0_e9⟩ hb_ hon hoff
      refine ⟨_, rfl, fun K hK => ?_⟩
      have e28 : a.tmps[28]? = some (.bool t192) := by rw [ha]; exact putSel_on (e := (13, 28, .bool t192)) 9 rfl rfl (hon 13 (by kernel_rfl)) rfl
      replace ha := Aside0.mk ha
      have HO177 := Aside0.mk Q_HO177
      have HK := Aside0.mk Q_HK
      have HB := Aside0.mk Q_HB
      have HO184 := Aside0.mk (Q_HO184 (hon 7 (by kernel_rfl)))
      have HI0 := Aside0.mk (Q_HI0_e9 (hon 9 (by kernel_rfl)))
      refine value_ (w1 := w') (v := .bool t192) (by rfl) rfl ?_ ?_
      ·go_simp
       (try simp only [i64_w])
       try rfl
      refine hK.out _ _ ⟨v183, (by rw [ha.out]; exact putSel_upk 11 hb_ rfl rfl rfl), Q_HO177, fun h0_ => absurd ((hon 2 (by kernel_rfl)).symm.trans h0_) (by decide), Q_HK, Q_HB, fun _ h1_ => absurd ((hon 8 (by kernel_rfl)).symm.trans h1_) (by decide), Q_HO184, fun _ h1_ => absurd ((hon 9 (by kernel_rfl)).symm.trans h1_) (by decide), Q_HI0_e9⟩
     exact steps_nil
    rintro b a w21 hall ⟨v183, ha, Q_HO177, Q_HI0, Q_HK, Q_HB, Q_HI0_e2, Q_HO184, Q_HI0_e8, Q_HI0_e9⟩
    clear HB HI0 HK HO177
    have hb2_ := hall 2 (by kernel_rfl)
    have hb3_ := hall 3 (by kernel_rfl)
    have hb4_ := hall 4 (by kernel_rfl)
    have hb7_ := hall 7 (by kernel_rfl)
    have hb8_ := hall 8 (by kernel_rfl)
    have hb9_ := hall 9 (by kernel_rfl)
    have hb10_ := hall 10 (by kernel_rfl)
    have hb11_ := hall 11 (by kernel_rfl)
    have hb12_ := hall 12 (by kernel_rfl)
    have hb13_ := hall 13 (by kernel_rfl)
    have hb14_ := hall 14 (by kernel_rfl)
    have hb15_ := hall 15 (by kernel_rfl)
    subst ha
    simp only [putSel, hb2_, hb3_, hb4_, hb7_, hb8_, hb9_, hb10_, hb11_, hb12_, hb13_, hb14_, hb15_, if_true, Act.put, List.setIfInBounds_toArray, List.set_cons_zero, List.set_cons_succ]
    have HO177 := Aside0.mk Q_HO177
    clear Q_HO177
    clear Q_HI0
    have HK := Aside0.mk Q_HK
    clear Q_HK
    have HB := Aside0.mk Q_HB
    clear Q_HB
    clear Q_HI0_e2
    have HO184 := Aside0.mk (Q_HO184 hb7_)
    clear Q_HO184
    clear Q_HI0_e8
    have HI0 := Aside0.mk (Q_HI0_e9 hb9_)
    clear Q_HI0_e9
    clear hall hb2_ hb3_ hb4_ hb7_ hb8_ hb9_ hb10_ hb11_ hb12_ hb13_ hb14_ hb15_
    try go_wp2
    go_ret
    exact ⟨by first | rfl | (simp [errW_none, errW_some] <;> rfl) | (simp [*, errW_none, errW_some] <;> rfl), by repeat (first | (with_reducible first | exact HI0.out | apply IsS92.alloc | apply IsS92.drewN | apply IsS92.drew | apply IsS92.set_1 | apply IsS92.set_2) | exact HI0.out), by repeat (first | (with_reducible first | exact HB.out | apply below_alloc | apply pw_below_drewN | apply below_drew1 | refine below_set ?_ (IsS92.ge HI0.out)) | exact HB.out), by repeat (first | (with_reducible first | exact HK.out | apply KeepBut.set_ | apply keep_drewN | apply keep_drew | apply keep_alloc) | exact HK.out)⟩
   ·rw [if_neg c7] at H
    exact absurd H (by simp)
  ·rw [if_neg c6] at H
   exact absurd H (by simp)
 ·rw [if_neg c3] at H
  have c3b0 : (t172 == 0) = false := beq_eq_false_iff_ne.mpr c3
  have c3b1 : (t172 != 0) = true := bne_iff_ne.mpr c3
  by_cases c23 : t172 = 1
  ·rw [if_pos c23] at H
   have c23b0 : (t172 == 1) = true := beq_iff_eq.mpr c23
   have c23b1 : (t172 != 1) = false := bne_eq_false_iff_eq.mpr c23
   clear c23
   replace H := Option.bind_eq_some_iff.mp H
   obtain ⟨⟨t193, t194, t195⟩, A240, H⟩ := H
   replace H : ((spec_l01Pick.f s0_0 t194 t195 (([2, 2, 3] : List Int))).bind fun bt199 => ((spec_l01DrawOf.f k s0_0 bt199.2.1 bt199.2.2 (wrap64 (1 + t193)) bt199.1).bind fun bt202 => ((spec_l01Next.f s0_0 bt202.2.1 bt202.2.2 4).bind fun bt205 => (spec_l01Draw.l0 k bt202.1 (⟨#[]⟩ : ByteArray) (wrap64 (1 + bt205.1)) s0_0 bt205.2.1 bt205.2.2)))) = some (r1, r2, r3) := H
   have A24 := Aside0.mk A240
   clear A240
   obtain ⟨y196, hy196⟩ : ∃ y_ : List Int, y_ = (([2, 2, 3] : List Int)) := ⟨_, rfl⟩
   replace H : ((spec_l01Pick.f s0_0 t194 t195 y196).bind fun bt199 => ((spec_l01DrawOf.f k s0_0 bt199.2.1 bt199.2.2 (wrap64 (1 + t193)) bt199.1).bind fun bt202 => ((spec_l01Next.f s0_0 bt202.2.1 bt202.2.2 4).bind fun bt205 => (spec_l01Draw.l0 k bt202.1 (⟨#[]⟩ : ByteArray) (wrap64 (1 + bt205.1)) s0_0 bt205.2.1 bt205.2.2)))) = some (r1, r2, r3) := by first | (rw [hy196]; with_reducible exact H) | (have H2_ := (Option.bind_some _ _).symm.trans H; rw [hy196]; with_reducible exact H2_) | (have H2_ := (Option.bind_some _ _).symm.trans H; with_reducible exact H2_) | with_reducible exact H | (rw [hy196]; exact H) | exact H
   have Ny196 := Aside0.mk hy196
   clear hy196
   replace H := Option.bind_eq_some_iff.mp H
   obtain ⟨⟨t199, t200, t201⟩, A250, H⟩ := H
   replace H : ((spec_l01DrawOf.f k s0_0 t200 t201 (wrap64 (1 + t193)) t199).bind fun bt202 => ((spec_l01Next.f s0_0 bt202.2.1 bt202.2.2 4).bind fun bt205 => (spec_l01Draw.l0 k bt202.1 (⟨#[]⟩ : ByteArray) (wrap64 (1 + bt205.1)) s0_0 bt205.2.1 bt205.2.2))) = some (r1, r2, r3) := H
   have A25 := Aside0.mk A250
   clear A250
   replace H := Option.bind_eq_some_iff.mp H
   obtain ⟨⟨t202, t203, t204⟩, A260, H⟩ := H
   replace H : ((spec_l01Next.f s0_0 t203 t204 4).bind fun bt205 => (spec_l01Draw.l0 k t202 (⟨#[]⟩ : ByteArray) (wrap64 (1 + bt205.1)) s0_0 bt205.2.1 bt205.2.2)) = some (r1, r2, r3) := H
   have A26 := Aside0.mk A260
   clear A260
   replace H := Option.bind_eq_some_iff.mp H
   obtain ⟨⟨t205, t206, t207⟩, A270, H⟩ := H
   replace H : (spec_l01Draw.l0 k t202 (⟨#[]⟩ : ByteArray) (wrap64 (1 + t205)) s0_0 t206 t207) = some (r1, r2, r3) := H
   have A27 := Aside0.mk A270
   clear A270
   have H' := Aside0.mk H
   clear H
   go_enter Try.func115, Try.ntmps115
   go_wp2_with (first | ((with_reducible refine gate_callee (f := 59) rfl ?_); refine goesL_ (some 11) rfl rfl Try.func59 (by kernel_rfl) rfl #[.pointer (some ⟨g, 0, none⟩), .int .i64 6] rfl (by (try simp only [List.map_toArray, List.map_cons, List.map_nil]); first | done | rfl | (simp only [List.length_drop, List.length_take]; rfl)) ?_; (with_reducible refine (spec_l01Next.calls g s0_0 s0_1 s0_2 6 t172 t173 t174 w0 _ ?side1 ?side2 A2.out).mono ?_); (case side1 => repeat (first | (with_reducible first | exact HI0.out | apply IsS92.alloc | apply IsS92.drewN | apply IsS92.drew | apply IsS92.set_1 | apply IsS92.set_2) | exact HI0.out)); (case side2 => repeat (first | (with_reducible first | exact HB.out | apply below_alloc | apply pw_below_drewN | apply below_drew1 | refine below_set ?_ (IsS92.ge HI0.out)) | exact HB.out)); rintro e w28 ⟨rfl, hi, hb, hk⟩; refine ⟨_, rfl, ?_⟩; have n0_ := Aside0.mk (KeepBut.trans (by repeat (first | (with_reducible first | exact HK.out | apply KeepBut.set_ | apply keep_drewN | apply keep_drew | apply keep_alloc) | exact HK.out)) hk (.inl rfl)); have n1_ := Aside0.mk (hb); have n2_ := Aside0.mk (hi); clear HK; clear HB; clear HI0; have HK := n0_; have HB := n1_; have HI0 := n2_; clear n0_ n1_ n2_; (try clear hb); (try clear hb2); (try clear hk); (try clear hi)) | ((with_reducible refine gate_callee (f := 59) rfl ?_); refine goesL_ (some 34) rfl rfl Try.func59 (by kernel_rfl) rfl #[.pointer (some ⟨g, 0, none⟩), .int .i64 6] rfl (by (try simp only [List.map_toArray, List.map_cons, List.map_nil]); first | done | rfl | (simp only [List.length_drop, List.length_take]; rfl)) ?_; (with_reducible refine (spec_l01Next.calls g s0_0 t173 t174 6 t193 t194 t195 w0 _ ?side1 ?side2 A24.out).mono ?_); (case side1 => repeat (first | (with_reducible first | exact HI0.out | apply IsS92.alloc | apply IsS92.drewN | apply IsS92.drew | apply IsS92.set_1 | apply IsS92.set_2) | exact HI0.out)); (case side2 => repeat (first | (with_reducible first | exact HB.out | apply below_alloc | apply pw_below_drewN | apply below_drew1 | refine below_set ?_ (IsS92.ge HI0.out)) | exact HB.out)); rintro e w29 ⟨rfl, hi, hb, hk⟩; refine ⟨_, rfl, ?_⟩; have n0_ := Aside0.mk (KeepBut.trans (by repeat (first | (with_reducible first | exact HK.out | apply KeepBut.set_ | apply keep_drewN | apply keep_drew | apply keep_alloc) | exact HK.out)) hk (.inl rfl)); have n1_ := Aside0.mk (hb); have n2_ := Aside0.mk (hi); clear HK; clear HB; clear HI0; have HK := n0_; have HB := n1_; have HI0 := n2_; clear n0_ n1_ n2_; (try clear hb); (try clear hb2); (try clear hk); (try clear hi)) | ((with_reducible refine gate_dst (N := 37) rfl ?_); refine Kd.R_lit (Kd.int .i64) _ 2 ?hg (N := 37) ?hd (xs := ([2, 2, 3] : List Int)) (inner := [.int .i64 2, .int .i64 2, .int .i64 3]) (ok := fun _ => True) (okp := fun _ => True) ?hr ?hp (fun _ hk => hk) trivial (Below.refl _ _) (Nat.le_refl _) (by simp) ?_; (case hd => rfl); (case hg => rfl); (case hr => first | (go_simp; done) | (go_simp; rfl)); (case hp => exact (Reps.one (show Kd.M (Kd.int .i64) _ _ _ 2 [.int .i64 2] from rfl) (Reps.one (show Kd.M (Kd.int .i64) _ _ _ 2 [.int .i64 2] from rfl) (Reps.one (show Kd.M (Kd.int .i64) _ _ _ 3 [.int .i64 3] from rfl) (Reps.none _ _))))); intro v197 w30 ho31 hb hg_ hnew_; clear hg_ hnew_; (first | rw [← Ny196.out] at ho31 | (simp only [Int.reduceToNat] at ho31; rw [← Ny196.out] at ho31)); have n0_ := Aside0.mk (Kd.R_lower ho31 (keep_size (w := w) (g := g) (row := none) (by repeat (first | (with_reducible first | exact HK.out | apply KeepBut.set_ | apply keep_drewN | apply keep_drew | apply keep_alloc) | exact HK.out)))); have n1_ := Aside0.mk (IsS92.below (by repeat (first | (with_reducible first | exact HI0.out | apply IsS92.alloc | apply IsS92.drewN | apply IsS92.drew | apply IsS92.set_1 | apply IsS92.set_2) | exact HI0.out)) hb); have n2_ := Aside0.mk (KeepBut.trans (by repeat (first | (with_reducible first | exact HK.out | apply KeepBut.set_ | apply keep_drewN | apply keep_drew | apply keep_alloc) | exact HK.out)) (KeepBut.of_below hb g none) (.inl rfl)); have n3_ := Aside0.mk (below_step (by repeat (first | (with_reducible first | exact HB.out | apply below_alloc | apply pw_below_drewN | apply below_drew1 | refine below_set ?_ (IsS92.ge HI0.out)) | exact HB.out)) hb); clear HI0; clear HK; clear HB; have HO198 := n0_; have HI0 := n1_; have HK := n2_; have HB := n3_; clear n0_ n1_ n2_ n3_; clear hb ho31; obtain ⟨Ao32, co32, eo32⟩ := Kd.R_slice HO198.out; subst eo32) | ((with_reducible refine gate_callee (f := 61) rfl ?_); refine goesL_ (some 38) rfl rfl Try.func61 (by kernel_rfl) rfl #[.pointer (some ⟨g, 0, none⟩), .slice Ao32 y196.length co32] rfl (by (try simp only [List.map_toArray, List.map_cons, List.map_nil]); first | done | rfl | (simp only [List.length_drop, List.length_take]; rfl)) ?_; (with_reducible refine (spec_l01Pick.calls g s0_0 t194 t195 _ _ y196 t199 t200 t201 w0 _ ?side1 ?side2 ?side3 ?side4 ?side5 A25.out).mono ?_); (case side1 => repeat (first | (with_reducible first | exact HI0.out | apply IsS92.alloc | apply IsS92.drewN | apply IsS92.drew | apply IsS92.set_1 | apply IsS92.set_2) | exact HI0.out)); (case side2 => repeat (first | (with_reducible first | exact HB.out | apply below_alloc | apply pw_below_drewN | apply below_drew1 | refine below_set ?_ (IsS92.ge HI0.out)) | exact HB.out)); (case side3 => repeat (first | exact (Kd.R_reads' HO198.out).2.2 | (with_reducible refine Kd.C_alloc ?_ _) | (with_reducible refine Kd.C_drewN ?_ _) | (with_reducible refine Kd.C_drew ?_))); (case side4 => exact (Kd.R_reads' HO198.out).2.1); (case side5 => exact far_slice (IsS92.own_ne HI0.out HO198.out (by decide))); rintro e w33 ⟨rfl, hi, hb, hk⟩; refine ⟨_, rfl, ?_⟩; have n0_ := Aside0.mk (Kd.R_mono (Kd.R_keep (IsS92.apart (show IsS92 w0 _ g s0_0 t194 t195 from by repeat (first | (with_reducible first | exact HI0.out | apply IsS92.alloc | apply IsS92.drewN | apply IsS92.drew | apply IsS92.set_1 | apply IsS92.set_2) | exact HI0.out)) (by (with_reducible repeat (first | apply Kd.R_alloc | apply Kd.R_drewN | apply Kd.R_drew)); exact HO198.out) (by decide)) hk (fun _ h => h.2)) (fun _ h => h.1)); have n1_ := Aside0.mk (KeepBut.trans (by repeat (first | (with_reducible first | exact HK.out | apply KeepBut.set_ | apply keep_drewN | apply keep_drew | apply keep_alloc) | exact HK.out)) hk (.inl rfl)); have n2_ := Aside0.mk (hb); have n3_ := Aside0.mk (hi); clear HO198; clear HK; clear HB; clear HI0; have HO198 := n0_; have HK := n1_; have HB := n2_; have HI0 := n3_; clear n0_ n1_ n2_ n3_; (try clear hb); (try clear hb2); (try clear hk); (try clear hi)) | ((with_reducible refine gate_callee (f := 60) rfl ?_); refine goesL_ (some 39) rfl rfl Try.func60 (by kernel_rfl) rfl #[.pointer (some ⟨g, 0, none⟩), .int .i64 (wrap64 (1 + t193)), .int .i64 t199] rfl (by (try simp only [List.map_toArray, List.map_cons, List.map_nil]); first | done | rfl | (simp only [List.length_drop, List.length_take]; rfl)) ?_; (with_reducible refine (spec_l01DrawOf.calls k g s0_0 t200 t201 (wrap64 (1 + t193)) t199 t202 t203 t204 w0 _ ?side1 ?side2 A26.out).mono ?_); (case side1 => repeat (first | (with_reducible first | exact HI0.out | apply IsS92.alloc | apply IsS92.drewN | apply IsS92.drew | apply IsS92.set_1 | apply IsS92.set_2) | exact HI0.out)); (case side2 => repeat (first | (with_reducible first | exact HB.out | apply below_alloc | apply pw_below_drewN | apply below_drew1 | refine below_set ?_ (IsS92.ge HI0.out)) | exact HB.out)); rintro e w34 ⟨rfl, hi, hb, hk⟩; refine ⟨_, rfl, ?_⟩; have n0_ := Aside0.mk (Kd.R_mono (Kd.R_keep (IsS92.apart (show IsS92 w0 _ g s0_0 t200 t201 from by repeat (first | (with_reducible first | exact HI0.out | apply IsS92.alloc | apply IsS92.drewN | apply IsS92.drew | apply IsS92.set_1 | apply IsS92.set_2) | exact HI0.out)) (by (with_reducible repeat (first | apply Kd.R_alloc | apply Kd.R_drewN | apply Kd.R_drew)); exact HO198.out) (by decide)) hk (fun _ h => h.2)) (fun _ h => h.1)); have n1_ := Aside0.mk (KeepBut.trans (by repeat (first | (with_reducible first | exact HK.out | apply KeepBut.set_ | apply keep_drewN | apply keep_drew | apply keep_alloc) | exact HK.out)) hk (.inl rfl)); have n2_ := Aside0.mk (hb); have n3_ := Aside0.mk (hi); clear HO198; clear HK; clear HB; clear HI0; have HO198 := n0_; have HK := n1_; have HB := n2_; have HI0 := n3_; clear n0_ n1_ n2_ n3_; (try clear hb); (try clear hb2); (try clear hk); (try clear hi)) | ((with_reducible refine gate_callee (f := 59) rfl ?_); refine goesL_ (some 41) rfl rfl Try.func59 (by kernel_rfl) rfl #[.pointer (some ⟨g, 0, none⟩), .int .i64 4] rfl (by (try simp only [List.map_toArray, List.map_cons, List.map_nil]); first | done | rfl | (simp only [List.length_drop, List.length_take]; rfl)) ?_; (with_reducible refine (spec_l01Next.calls g s0_0 t203 t204 4 t205 t206 t207 w0 _ ?side1 ?side2 A27.out).mono ?_); (case side1 => repeat (first | (with_reducible first | exact HI0.out | apply IsS92.alloc | apply IsS92.drewN | apply IsS92.drew | apply IsS92.set_1 | apply IsS92.set_2) | exact HI0.out)); (case side2 => repeat (first | (with_reducible first | exact HB.out | apply below_alloc | apply pw_below_drewN | apply below_drew1 | refine below_set ?_ (IsS92.ge HI0.out)) | exact HB.out)); rintro e w35 ⟨rfl, hi, hb, hk⟩; refine ⟨_, rfl, ?_⟩; have n0_ := Aside0.mk (Kd.R_mono (Kd.R_keep (IsS92.apart (show IsS92 w0 _ g s0_0 t203 t204 from by repeat (first | (with_reducible first | exact HI0.out | apply IsS92.alloc | apply IsS92.drewN | apply IsS92.drew | apply IsS92.set_1 | apply IsS92.set_2) | exact HI0.out)) (by (with_reducible repeat (first | apply Kd.R_alloc | apply Kd.R_drewN | apply Kd.R_drew)); exact HO198.out) (by decide)) hk (fun _ h => h.2)) (fun _ h => h.1)); have n1_ := Aside0.mk (KeepBut.trans (by repeat (first | (with_reducible first | exact HK.out | apply KeepBut.set_ | apply keep_drewN | apply keep_drew | apply keep_alloc) | exact HK.out)) hk (.inl rfl)); have n2_ := Aside0.mk (hb); have n3_ := Aside0.mk (hi); clear HO198; clear HK; clear HB; clear HI0; have HO198 := n0_; have HK := n1_; have HB := n2_; have HI0 := n3_; clear n0_ n1_ n2_ n3_; (try clear hb); (try clear hb2); (try clear hk); (try clear hi)))
   go_loopg [7, 8] k (fun kq v7 v8 w' => ∃ (x7_1 : ByteArray) (x8_1 : Int), v7 = .string x7_1 ∧ v8 = .int .i64 x8_1 ∧ Aside0 (spec_l01Draw.l0 kq t202 x7_1 x8_1 s0_0 t206 t207 = some (r1, r2, r3)) ∧ Aside0 (kq ≤ k) ∧ Aside0 (IsS92 w0 w' g s0_0 t206 t207) ∧ Aside0 (KeepBut w w' g none) ∧ Aside0 (Below w0.heap.size w0 w'))
   case atStart => exact ⟨((⟨#[]⟩ : ByteArray)), (wrap64 (1 + t205)), (by first | rfl | (simp; done) | (simp [*]; done)), (by first | rfl | (simp; done) | (simp [*]; done)), H', ⟨Nat.le_refl _⟩, ⟨by repeat (first | (with_reducible first | exact HI0.out | apply IsS92.alloc | apply IsS92.drewN | apply IsS92.drew | apply IsS92.set_1 | apply IsS92.set_2) | exact HI0.out)⟩, ⟨by repeat (first | (with_reducible first | exact HK.out | apply KeepBut.set_ | apply keep_drewN | apply keep_drew | apply keep_alloc) | exact HK.out)⟩, ⟨by repeat (first | (with_reducible first | exact HB.out | apply below_alloc | apply pw_below_drewN | apply below_drew1 | refine below_set ?_ (IsS92.ge HI0.out)) | exact HB.out)⟩⟩
   case round =>
    clear H'
    try clear c1
    try clear p1
    try clear q1
    try clear hx1
    try clear c2
    try clear p2
    try clear c3
    try clear c3b0
    try clear c3b1
    try clear c5
    try clear c6
    try clear c6b0
    try clear p6
    try clear c7
    try clear c7b0
    try clear c11
    try clear c13
    try clear p18
    try clear q18
    try clear hx18
    try clear c23
    try clear c23b0
    try clear c23b1
    try clear hx181_0
    try clear p181
    try clear q181
    obtain ⟨x7_1, x8_1, rfl, rfl, HA, HK1, HI0, HK, HB⟩ := hrel
    cases gk with
    | zero => exact absurd HA.out (by simp [spec_l01Draw.l0])
    | succ k1 =>
     have H := HA.out
     clear HA
     simp only [spec_l01Draw.l0] at H
     by_cases c36 : x8_1 > 0
     ·rw [if_pos c36] at H
      have c36b0 : decide (0 < x8_1) = true := decide_eq_true c36
      clear c36
      by_cases c37 : x7_1.size + t202.size ≤ 9223372036854775807
      ·rw [if_pos c37] at H
       have c37b0 := eq_true c37
       have c37b1 : decide (x7_1.size + t202.size ≤ 9223372036854775807) = true := decide_eq_true c37
       try have c37b2 : (9223372036854775807 < x7_1.size + t202.size) = False := eq_false (Nat.not_lt.2 c37)
       have H' := Aside0.mk H
       clear H
       go_wp2
       go_roundg k1
       case measure => have := HK1.out; omega
       case rel => exact ⟨(x7_1 ++ t202), (wrap64 (x8_1 - 1)), (by first | rfl | (simp; done) | (simp [*]; done)), (by first | rfl | (simp; done) | (simp [*]; done)), H', ⟨by have := HK1.out; omega⟩, ⟨by repeat (first | (with_reducible first | exact HI0.out | apply IsS92.alloc | apply IsS92.drewN | apply IsS92.drew | apply IsS92.set_1 | apply IsS92.set_2) | exact HI0.out)⟩, ⟨by repeat (first | (with_reducible first | exact HK.out | apply KeepBut.set_ | apply keep_drewN | apply keep_drew | apply keep_alloc) | exact HK.out)⟩, ⟨by repeat (first | (with_reducible first | exact HB.out | apply below_alloc | apply pw_below_drewN | apply below_drew1 | refine below_set ?_ (IsS92.ge HI0.out)) | exact HB.out)⟩⟩
      ·rw [if_neg c37] at H
       exact absurd H (by simp)
     ·rw [if_neg c36] at H
      have c36b0 : decide (0 < x8_1) = false := decide_eq_false c36
      clear c36
      replace H := Option.bind_eq_some_iff.mp H
      obtain ⟨⟨t208, t209, t210⟩, A380, H⟩ := H
      replace H : (if 0 ≤ t208 then (if t208 ≤ (t202.size : Int) then (if x7_1.size + (t202.extract 0 (t208 : Int).toNat).size ≤ 9223372036854775807 then (some (x7_1 ++ (t202.extract 0 (t208 : Int).toNat), t209, t210)) else (none)) else (none)) else (none)) = some (r1, r2, r3) := H
      have A38 := Aside0.mk A380
      clear A380
      by_cases c39 : 0 ≤ t208
      ·rw [if_pos c39] at H
       have c39b0 := eq_true c39
       have c39b1 : decide (0 ≤ t208) = true := decide_eq_true c39
       clear c39
       by_cases c40 : t208 ≤ (t202.size : Int)
       ·rw [if_pos c40] at H
        have c40b0 := eq_true c40
        have c40b1 : decide (t208 ≤ (t202.size : Int)) = true := decide_eq_true c40
        clear c40
        by_cases c41 : x7_1.size + (t202.extract 0 (t208 : Int).toNat).size ≤ 9223372036854775807
        ·rw [if_pos c41] at H
         have c41b0 := eq_true c41
         have c41b1 : decide (x7_1.size + (t202.extract 0 (t208 : Int).toNat).size ≤ 9223372036854775807) = true := decide_eq_true c41
         try have c41b2 : (9223372036854775807 < x7_1.size + (t202.extract 0 (t208 : Int).toNat).size) = False := eq_false (Nat.not_lt.2 c41)
         simp only [Option.some.injEq, Prod.mk.injEq] at H
         obtain ⟨rfl, rfl, rfl⟩ := H
         go_wp2_with (first | ((with_reducible refine gate_callee (f := 59) rfl ?_); refine goesL_ (some 55) rfl rfl Try.func59 (by kernel_rfl) rfl #[.pointer (some ⟨g, 0, none⟩), .int .i64 (t202.size : Int)] rfl (by (try simp only [List.map_toArray, List.map_cons, List.map_nil]); first | done | rfl | (simp only [List.length_drop, List.length_take]; rfl)) ?_; (with_reducible refine (spec_l01Next.calls g s0_0 t206 t207 (t202.size : Int) t208 t209 t210 w0 _ ?side1 ?side2 A38.out).mono ?_); (case side1 => repeat (first | (with_reducible first | exact HI0.out | apply IsS92.alloc | apply IsS92.drewN | apply IsS92.drew | apply IsS92.set_1 | apply IsS92.set_2) | exact HI0.out)); (case side2 => repeat (first | (with_reducible first | exact HB.out | apply below_alloc | apply pw_below_drewN | apply below_drew1 | refine below_set ?_ (IsS92.ge HI0.out)) | exact HB.out)); rintro e w42 ⟨rfl, hi, hb, hk⟩; refine ⟨_, rfl, ?_⟩; have n0_ := Aside0.mk (KeepBut.trans (by repeat (first | (with_reducible first | exact HK.out | apply KeepBut.set_ | apply keep_drewN | apply keep_drew | apply keep_alloc) | exact HK.out)) hk (.inl rfl)); have n1_ := Aside0.mk (hb); have n2_ := Aside0.mk (hi); clear HK; clear HB; clear HI0; have HK := n0_; have HB := n1_; have HI0 := n2_; clear n0_ n1_ n2_; (try clear hb); (try clear hb2); (try clear hk); (try clear hi)))
         go_ret
         exact ⟨by first | rfl | (simp [errW_none, errW_some] <;> rfl) | (simp [*, errW_none, errW_some] <;> rfl), by repeat (first | (with_reducible first | exact HI0.out | apply IsS92.alloc | apply IsS92.drewN | apply IsS92.drew | apply IsS92.set_1 | apply IsS92.set_2) | exact HI0.out), by repeat (first | (with_reducible first | exact HB.out | apply below_alloc | apply pw_below_drewN | apply below_drew1 | refine below_set ?_ (IsS92.ge HI0.out)) | exact HB.out), by repeat (first | (with_reducible first | exact HK.out | apply KeepBut.set_ | apply keep_drewN | apply keep_drew | apply keep_alloc) | exact HK.out)⟩
        ·rw [if_neg c41] at H
         exact absurd H (by simp)
       ·rw [if_neg c40] at H
        exact absurd H (by simp)
      ·rw [if_neg c39] at H
       exact absurd H (by simp)
  ·rw [if_neg c23] at H
   have c23b0 : (t172 == 1) = false := beq_eq_false_iff_ne.mpr c23
   have c23b1 : (t172 != 1) = true := bne_iff_ne.mpr c23
   by_cases c43 : t172 = 2
   ·rw [if_pos c43] at H
    have c43b0 : (t172 == 2) = true := beq_iff_eq.mpr c43
    have c43b1 : (t172 != 2) = false := bne_eq_false_iff_eq.mpr c43
    clear c43
    replace H := Option.bind_eq_some_iff.mp H
    obtain ⟨⟨t211, t212, t213⟩, A440, H⟩ := H
    replace H : ((spec_l01Pick.f s0_0 t212 t213 (([2, 2, 3] : List Int))).bind fun bt217 => ((spec_l01DrawOf.f k s0_0 bt217.2.1 bt217.2.2 t211 bt217.1).bind fun bt220 => ((spec_l01Next.f s0_0 bt220.2.1 bt220.2.2 2).bind fun bt223 => ((spec_l01DrawOf.f k s0_0 bt223.2.1 bt223.2.2 bt223.1 2).bind fun bt226 => (if bt220.1.size + bt226.1.size ≤ 9223372036854775807 then ((spec_l01Reversed.f k bt220.1).bind fun t229 => (if (bt220.1 ++ bt226.1).size + t229.size ≤ 9223372036854775807 then (some ((bt220.1 ++ bt226.1) ++ t229, bt226.2.1, bt226.2.2)) else (none))) else (none)))))) = some (r1, r2, r3) := H
    have A44 := Aside0.mk A440
    clear A440
    obtain ⟨y214, hy214⟩ : ∃ y_ : List Int, y_ = (([2, 2, 3] : List Int)) := ⟨_, rfl⟩
    replace H : ((spec_l01Pick.f s0_0 t212 t213 y214).bind fun bt217 => ((spec_l01DrawOf.f k s0_0 bt217.2.1 bt217.2.2 t211 bt217.1).bind fun bt220 => ((spec_l01Next.f s0_0 bt220.2.1 bt220.2.2 2).bind fun bt223 => ((spec_l01DrawOf.f k s0_0 bt223.2.1 bt223.2.2 bt223.1 2).bind fun bt226 => (if bt220.1.size + bt226.1.size ≤ 9223372036854775807 then ((spec_l01Reversed.f k bt220.1).bind fun t229 => (if (bt220.1 ++ bt226.1).size + t229.size ≤ 9223372036854775807 then (some ((bt220.1 ++ bt226.1) ++ t229, bt226.2.1, bt226.2.2)) else (none))) else (none)))))) = some (r1, r2, r3) := by first | (rw [hy214]; with_reducible exact H) | (have H2_ := (Option.bind_some _ _).symm.trans H; rw [hy214]; with_reducible exact H2_) | (have H2_ := (Option.bind_some _ _).symm.trans H; with_reducible exact H2_) | with_reducible exact H | (rw [hy214]; exact H) | exact H
    have Ny214 := Aside0.mk hy214
    clear hy214
    replace H := Option.bind_eq_some_iff.mp H
    obtain ⟨⟨t217, t218, t219⟩, A450, H⟩ := H
    replace H : ((spec_l01DrawOf.f k s0_0 t218 t219 t211 t217).bind fun bt220 => ((spec_l01Next.f s0_0 bt220.2.1 bt220.2.2 2).bind fun bt223 => ((spec_l01DrawOf.f k s0_0 bt223.2.1 bt223.2.2 bt223.1 2).bind fun bt226 => (if bt220.1.size + bt226.1.size ≤ 9223372036854775807 then ((spec_l01Reversed.f k bt220.1).bind fun t229 => (if (bt220.1 ++ bt226.1).size + t229.size ≤ 9223372036854775807 then (some ((bt220.1 ++ bt226.1) ++ t229, bt226.2.1, bt226.2.2)) else (none))) else (none))))) = some (r1, r2, r3) := H
    have A45 := Aside0.mk A450
    clear A450
    replace H := Option.bind_eq_some_iff.mp H
    obtain ⟨⟨t220, t221, t222⟩, A460, H⟩ := H
    replace H : ((spec_l01Next.f s0_0 t221 t222 2).bind fun bt223 => ((spec_l01DrawOf.f k s0_0 bt223.2.1 bt223.2.2 bt223.1 2).bind fun bt226 => (if t220.size + bt226.1.size ≤ 9223372036854775807 then ((spec_l01Reversed.f k t220).bind fun t229 => (if (t220 ++ bt226.1).size + t229.size ≤ 9223372036854775807 then (some ((t220 ++ bt226.1) ++ t229, bt226.2.1, bt226.2.2)) else (none))) else (none)))) = some (r1, r2, r3) := H
    have A46 := Aside0.mk A460
    clear A460
    replace H := Option.bind_eq_some_iff.mp H
    obtain ⟨⟨t223, t224, t225⟩, A470, H⟩ := H
    replace H : ((spec_l01DrawOf.f k s0_0 t224 t225 t223 2).bind fun bt226 => (if t220.size + bt226.1.size ≤ 9223372036854775807 then ((spec_l01Reversed.f k t220).bind fun t229 => (if (t220 ++ bt226.1).size + t229.size ≤ 9223372036854775807 then (some ((t220 ++ bt226.1) ++ t229, bt226.2.1, bt226.2.2)) else (none))) else (none))) = some (r1, r2, r3) := H
    have A47 := Aside0.mk A470
    clear A470
    replace H := Option.bind_eq_some_iff.mp H
    obtain ⟨⟨t226, t227, t228⟩, A480, H⟩ := H
    replace H : (if t220.size + t226.size ≤ 9223372036854775807 then ((spec_l01Reversed.f k t220).bind fun t229 => (if (t220 ++ t226).size + t229.size ≤ 9223372036854775807 then (some ((t220 ++ t226) ++ t229, t227, t228)) else (none))) else (none)) = some (r1, r2, r3) := H
    have A48 := Aside0.mk A480
    clear A480
    by_cases c49 : t220.size + t226.size ≤ 9223372036854775807
    ·rw [if_pos c49] at H
     have c49b0 := eq_true c49
     have c49b1 : decide (t220.size + t226.size ≤ 9223372036854775807) = true := decide_eq_true c49
     try have c49b2 : (9223372036854775807 < t220.size + t226.size) = False := eq_false (Nat.not_lt.2 c49)
     replace H := Option.bind_eq_some_iff.mp H
     obtain ⟨t229, A500, H⟩ := H
     replace H : (if (t220 ++ t226).size + t229.size ≤ 9223372036854775807 then (some ((t220 ++ t226) ++ t229, t227, t228)) else (none)) = some (r1, r2, r3) := H
     have A50 := Aside0.mk A500
     clear A500
     by_cases c51 : (t220 ++ t226).size + t229.size ≤ 9223372036854775807
     ·rw [if_pos c51] at H
      have c51b0 := eq_true c51
      have c51b1 : decide ((t220 ++ t226).size + t229.size ≤ 9223372036854775807) = true := decide_eq_true c51
      have c51q_ := c51
      rw [ByteArray.size_append] at c51q_
      have c51b3 := eq_true c51q_
      have c51b4 := decide_eq_true c51q_
      have c51b5 : (9223372036854775807 < t220.size + t226.size + t229.size) = False := eq_false (Nat.not_lt.2 c51q_)
      clear c51q_
      try have c51b2 : (9223372036854775807 < (t220 ++ t226).size + t229.size) = False := eq_false (Nat.not_lt.2 c51)
      simp only [Option.some.injEq, Prod.mk.injEq] at H
      obtain ⟨rfl, rfl, rfl⟩ := H
      go_enter Try.func115, Try.ntmps115
      go_wp2_with (first | ((with_reducible refine gate_callee (f := 59) rfl ?_); refine goesL_ (some 11) rfl rfl Try.func59 (by kernel_rfl) rfl #[.pointer (some ⟨g, 0, none⟩), .int .i64 6] rfl (by (try simp only [List.map_toArray, List.map_cons, List.map_nil]); first | done | rfl | (simp only [List.length_drop, List.length_take]; rfl)) ?_; (with_reducible refine (spec_l01Next.calls g s0_0 s0_1 s0_2 6 t172 t173 t174 w0 _ ?side1 ?side2 A2.out).mono ?_); (case side1 => repeat (first | (with_reducible first | exact HI0.out | apply IsS92.alloc | apply IsS92.drewN | apply IsS92.drew | apply IsS92.set_1 | apply IsS92.set_2) | exact HI0.out)); (case side2 => repeat (first | (with_reducible first | exact HB.out | apply below_alloc | apply pw_below_drewN | apply below_drew1 | refine below_set ?_ (IsS92.ge HI0.out)) | exact HB.out)); rintro e w52 ⟨rfl, hi, hb, hk⟩; refine ⟨_, rfl, ?_⟩; have n0_ := Aside0.mk (KeepBut.trans (by repeat (first | (with_reducible first | exact HK.out | apply KeepBut.set_ | apply keep_drewN | apply keep_drew | apply keep_alloc) | exact HK.out)) hk (.inl rfl)); have n1_ := Aside0.mk (hb); have n2_ := Aside0.mk (hi); clear HK; clear HB; clear HI0; have HK := n0_; have HB := n1_; have HI0 := n2_; clear n0_ n1_ n2_; (try clear hb); (try clear hb2); (try clear hk); (try clear hi)) | ((with_reducible refine gate_callee (f := 59) rfl ?_); refine goesL_ (some 62) rfl rfl Try.func59 (by kernel_rfl) rfl #[.pointer (some ⟨g, 0, none⟩), .int .i64 12] rfl (by (try simp only [List.map_toArray, List.map_cons, List.map_nil]); first | done | rfl | (simp only [List.length_drop, List.length_take]; rfl)) ?_; (with_reducible refine (spec_l01Next.calls g s0_0 t173 t174 12 t211 t212 t213 w0 _ ?side1 ?side2 A44.out).mono ?_); (case side1 => repeat (first | (with_reducible first | exact HI0.out | apply IsS92.alloc | apply IsS92.drewN | apply IsS92.drew | apply IsS92.set_1 | apply IsS92.set_2) | exact HI0.out)); (case side2 => repeat (first | (with_reducible first | exact HB.out | apply below_alloc | apply pw_below_drewN | apply below_drew1 | refine below_set ?_ (IsS92.ge HI0.out)) | exact HB.out)); rintro e w53 ⟨rfl, hi, hb, hk⟩; refine ⟨_, rfl, ?_⟩; have n0_ := Aside0.mk (KeepBut.trans (by repeat (first | (with_reducible first | exact HK.out | apply KeepBut.set_ | apply keep_drewN | apply keep_drew | apply keep_alloc) | exact HK.out)) hk (.inl rfl)); have n1_ := Aside0.mk (hb); have n2_ := Aside0.mk (hi); clear HK; clear HB; clear HI0; have HK := n0_; have HB := n1_; have HI0 := n2_; clear n0_ n1_ n2_; (try clear hb); (try clear hb2); (try clear hk); (try clear hi)) | ((with_reducible refine gate_dst (N := 64) rfl ?_); refine Kd.R_lit (Kd.int .i64) _ 2 ?hg (N := 64) ?hd (xs := ([2, 2, 3] : List Int)) (inner := [.int .i64 2, .int .i64 2, .int .i64 3]) (ok := fun _ => True) (okp := fun _ => True) ?hr ?hp (fun _ hk => hk) trivial (Below.refl _ _) (Nat.le_refl _) (by simp) ?_; (case hd => rfl); (case hg => rfl); (case hr => first | (go_simp; done) | (go_simp; rfl)); (case hp => exact (Reps.one (show Kd.M (Kd.int .i64) _ _ _ 2 [.int .i64 2] from rfl) (Reps.one (show Kd.M (Kd.int .i64) _ _ _ 2 [.int .i64 2] from rfl) (Reps.one (show Kd.M (Kd.int .i64) _ _ _ 3 [.int .i64 3] from rfl) (Reps.none _ _))))); intro v215 w54 ho55 hb hg_ hnew_; clear hg_ hnew_; (first | rw [← Ny214.out] at ho55 | (simp only [Int.reduceToNat] at ho55; rw [← Ny214.out] at ho55)); have n0_ := Aside0.mk (Kd.R_lower ho55 (keep_size (w := w) (g := g) (row := none) (by repeat (first | (with_reducible first | exact HK.out | apply KeepBut.set_ | apply keep_drewN | apply keep_drew | apply keep_alloc) | exact HK.out)))); have n1_ := Aside0.mk (IsS92.below (by repeat (first | (with_reducible first | exact HI0.out | apply IsS92.alloc | apply IsS92.drewN | apply IsS92.drew | apply IsS92.set_1 | apply IsS92.set_2) | exact HI0.out)) hb); have n2_ := Aside0.mk (KeepBut.trans (by repeat (first | (with_reducible first | exact HK.out | apply KeepBut.set_ | apply keep_drewN | apply keep_drew | apply keep_alloc) | exact HK.out)) (KeepBut.of_below hb g none) (.inl rfl)); have n3_ := Aside0.mk (below_step (by repeat (first | (with_reducible first | exact HB.out | apply below_alloc | apply pw_below_drewN | apply below_drew1 | refine below_set ?_ (IsS92.ge HI0.out)) | exact HB.out)) hb); clear HI0; clear HK; clear HB; have HO216 := n0_; have HI0 := n1_; have HK := n2_; have HB := n3_; clear n0_ n1_ n2_ n3_; clear hb ho55; obtain ⟨Ao56, co56, eo56⟩ := Kd.R_slice HO216.out; subst eo56) | ((with_reducible refine gate_callee (f := 61) rfl ?_); refine goesL_ (some 65) rfl rfl Try.func61 (by kernel_rfl) rfl #[.pointer (some ⟨g, 0, none⟩), .slice Ao56 y214.length co56] rfl (by (try simp only [List.map_toArray, List.map_cons, List.map_nil]); first | done | rfl | (simp only [List.length_drop, List.length_take]; rfl)) ?_; (with_reducible refine (spec_l01Pick.calls g s0_0 t212 t213 _ _ y214 t217 t218 t219 w0 _ ?side1 ?side2 ?side3 ?side4 ?side5 A45.out).mono ?_); (case side1 => repeat (first | (with_reducible first | exact HI0.out | apply IsS92.alloc | apply IsS92.drewN | apply IsS92.drew | apply IsS92.set_1 | apply IsS92.set_2) | exact HI0.out)); (case side2 => repeat (first | (with_reducible first | exact HB.out | apply below_alloc | apply pw_below_drewN | apply below_drew1 | refine below_set ?_ (IsS92.ge HI0.out)) | exact HB.out)); (case side3 => repeat (first | exact (Kd.R_reads' HO216.out).2.2 | (with_reducible refine Kd.C_alloc ?_ _) | (with_reducible refine Kd.C_drewN ?_ _) | (with_reducible refine Kd.C_drew ?_))); (case side4 => exact (Kd.R_reads' HO216.out).2.1); (case side5 => exact far_slice (IsS92.own_ne HI0.out HO216.out (by decide))); rintro e w57 ⟨rfl, hi, hb, hk⟩; refine ⟨_, rfl, ?_⟩; have n0_ := Aside0.mk (Kd.R_mono (Kd.R_keep (IsS92.apart (show IsS92 w0 _ g s0_0 t212 t213 from by repeat (first | (with_reducible first | exact HI0.out | apply IsS92.alloc | apply IsS92.drewN | apply IsS92.drew | apply IsS92.set_1 | apply IsS92.set_2) | exact HI0.out)) (by (with_reducible repeat (first | apply Kd.R_alloc | apply Kd.R_drewN | apply Kd.R_drew)); exact HO216.out) (by decide)) hk (fun _ h => h.2)) (fun _ h => h.1)); have n1_ := Aside0.mk (KeepBut.trans (by repeat (first | (with_reducible first | exact HK.out | apply KeepBut.set_ | apply keep_drewN | apply keep_drew | apply keep_alloc) | exact HK.out)) hk (.inl rfl)); have n2_ := Aside0.mk (hb); have n3_ := Aside0.mk (hi); clear HO216; clear HK; clear HB; clear HI0; have HO216 := n0_; have HK := n1_; have HB := n2_; have HI0 := n3_; clear n0_ n1_ n2_ n3_; (try clear hb); (try clear hb2); (try clear hk); (try clear hi)) | ((with_reducible refine gate_callee (f := 60) rfl ?_); refine goesL_ (some 66) rfl rfl Try.func60 (by kernel_rfl) rfl #[.pointer (some ⟨g, 0, none⟩), .int .i64 t211, .int .i64 t217] rfl (by (try simp only [List.map_toArray, List.map_cons, List.map_nil]); first | done | rfl | (simp only [List.length_drop, List.length_take]; rfl)) ?_; (with_reducible refine (spec_l01DrawOf.calls k g s0_0 t218 t219 t211 t217 t220 t221 t222 w0 _ ?side1 ?side2 A46.out).mono ?_); (case side1 => repeat (first | (with_reducible first | exact HI0.out | apply IsS92.alloc | apply IsS92.drewN | apply IsS92.drew | apply IsS92.set_1 | apply IsS92.set_2) | exact HI0.out)); (case side2 => repeat (first | (with_reducible first | exact HB.out | apply below_alloc | apply pw_below_drewN | apply below_drew1 | refine below_set ?_ (IsS92.ge HI0.out)) | exact HB.out)); rintro e w58 ⟨rfl, hi, hb, hk⟩; refine ⟨_, rfl, ?_⟩; have n0_ := Aside0.mk (Kd.R_mono (Kd.R_keep (IsS92.apart (show IsS92 w0 _ g s0_0 t218 t219 from by repeat (first | (with_reducible first | exact HI0.out | apply IsS92.alloc | apply IsS92.drewN | apply IsS92.drew | apply IsS92.set_1 | apply IsS92.set_2) | exact HI0.out)) (by (with_reducible repeat (first | apply Kd.R_alloc | apply Kd.R_drewN | apply Kd.R_drew)); exact HO216.out) (by decide)) hk (fun _ h => h.2)) (fun _ h => h.1)); have n1_ := Aside0.mk (KeepBut.trans (by repeat (first | (with_reducible first | exact HK.out | apply KeepBut.set_ | apply keep_drewN | apply keep_drew | apply keep_alloc) | exact HK.out)) hk (.inl rfl)); have n2_ := Aside0.mk (hb); have n3_ := Aside0.mk (hi); clear HO216; clear HK; clear HB; clear HI0; have HO216 := n0_; have HK := n1_; have HB := n2_; have HI0 := n3_; clear n0_ n1_ n2_ n3_; (try clear hb); (try clear hb2); (try clear hk); (try clear hi)) | ((with_reducible refine gate_callee (f := 59) rfl ?_); refine goesL_ (some 70) rfl rfl Try.func59 (by kernel_rfl) rfl #[.pointer (some ⟨g, 0, none⟩), .int .i64 2] rfl (by (try simp only [List.map_toArray, List.map_cons, List.map_nil]); first | done | rfl | (simp only [List.length_drop, List.length_take]; rfl)) ?_; (with_reducible refine (spec_l01Next.calls g s0_0 t221 t222 2 t223 t224 t225 w0 _ ?side1 ?side2 A47.out).mono ?_); (case side1 => repeat (first | (with_reducible first | exact HI0.out | apply IsS92.alloc | apply IsS92.drewN | apply IsS92.drew | apply IsS92.set_1 | apply IsS92.set_2) | exact HI0.out)); (case side2 => repeat (first | (with_reducible first | exact HB.out | apply below_alloc | apply pw_below_drewN | apply below_drew1 | refine below_set ?_ (IsS92.ge HI0.out)) | exact HB.out)); rintro e w59 ⟨rfl, hi, hb, hk⟩; refine ⟨_, rfl, ?_⟩; have n0_ := Aside0.mk (Kd.R_mono (Kd.R_keep (IsS92.apart (show IsS92 w0 _ g s0_0 t221 t222 from by repeat (first | (with_reducible first | exact HI0.out | apply IsS92.alloc | apply IsS92.drewN | apply IsS92.drew | apply IsS92.set_1 | apply IsS92.set_2) | exact HI0.out)) (by (with_reducible repeat (first | apply Kd.R_alloc | apply Kd.R_drewN | apply Kd.R_drew)); exact HO216.out) (by decide)) hk (fun _ h => h.2)) (fun _ h => h.1)); have n1_ := Aside0.mk (KeepBut.trans (by repeat (first | (with_reducible first | exact HK.out | apply KeepBut.set_ | apply keep_drewN | apply keep_drew | apply keep_alloc) | exact HK.out)) hk (.inl rfl)); have n2_ := Aside0.mk (hb); have n3_ := Aside0.mk (hi); clear HO216; clear HK; clear HB; clear HI0; have HO216 := n0_; have HK := n1_; have HB := n2_; have HI0 := n3_; clear n0_ n1_ n2_ n3_; (try clear hb); (try clear hb2); (try clear hk); (try clear hi)) | ((with_reducible refine gate_callee (f := 60) rfl ?_); refine goesL_ (some 71) rfl rfl Try.func60 (by kernel_rfl) rfl #[.pointer (some ⟨g, 0, none⟩), .int .i64 t223, .int .i64 2] rfl (by (try simp only [List.map_toArray, List.map_cons, List.map_nil]); first | done | rfl | (simp only [List.length_drop, List.length_take]; rfl)) ?_; (with_reducible refine (spec_l01DrawOf.calls k g s0_0 t224 t225 t223 2 t226 t227 t228 w0 _ ?side1 ?side2 A48.out).mono ?_); (case side1 => repeat (first | (with_reducible first | exact HI0.out | apply IsS92.alloc | apply IsS92.drewN | apply IsS92.drew | apply IsS92.set_1 | apply IsS92.set_2) | exact HI0.out)); (case side2 => repeat (first | (with_reducible first | exact HB.out | apply below_alloc | apply pw_below_drewN | apply below_drew1 | refine below_set ?_ (IsS92.ge HI0.out)) | exact HB.out)); rintro e w60 ⟨rfl, hi, hb, hk⟩; refine ⟨_, rfl, ?_⟩; have n0_ := Aside0.mk (Kd.R_mono (Kd.R_keep (IsS92.apart (show IsS92 w0 _ g s0_0 t224 t225 from by repeat (first | (with_reducible first | exact HI0.out | apply IsS92.alloc | apply IsS92.drewN | apply IsS92.drew | apply IsS92.set_1 | apply IsS92.set_2) | exact HI0.out)) (by (with_reducible repeat (first | apply Kd.R_alloc | apply Kd.R_drewN | apply Kd.R_drew)); exact HO216.out) (by decide)) hk (fun _ h => h.2)) (fun _ h => h.1)); have n1_ := Aside0.mk (KeepBut.trans (by repeat (first | (with_reducible first | exact HK.out | apply KeepBut.set_ | apply keep_drewN | apply keep_drew | apply keep_alloc) | exact HK.out)) hk (.inl rfl)); have n2_ := Aside0.mk (hb); have n3_ := Aside0.mk (hi); clear HO216; clear HK; clear HB; clear HI0; have HO216 := n0_; have HK := n1_; have HB := n2_; have HI0 := n3_; clear n0_ n1_ n2_ n3_; (try clear hb); (try clear hb2); (try clear hk); (try clear hi)) | ((with_reducible refine gate_callee (f := 137) rfl ?_); refine goesL_ (some 74) rfl rfl Try.func137 (by kernel_rfl) rfl #[.string t220] rfl (by (try simp only [List.map_toArray, List.map_cons, List.map_nil]); first | done | rfl | (simp only [List.length_drop, List.length_take]; rfl)) ?_; (with_reducible refine (spec_l01Reversed.calls k t220 t229 _ A50.out).mono ?_); rintro e w61 ⟨rfl, hb⟩; refine ⟨_, rfl, ?_⟩; have n0_ := Aside0.mk (Kd.R_below (by (with_reducible repeat (first | apply Kd.R_alloc | apply Kd.R_drewN | apply Kd.R_drew)); exact HO216.out) hb); have n1_ := Aside0.mk (IsS92.below (by repeat (first | (with_reducible first | exact HI0.out | apply IsS92.alloc | apply IsS92.drewN | apply IsS92.drew | apply IsS92.set_1 | apply IsS92.set_2) | exact HI0.out)) hb); have n2_ := Aside0.mk (KeepBut.trans (by repeat (first | (with_reducible first | exact HK.out | apply KeepBut.set_ | apply keep_drewN | apply keep_drew | apply keep_alloc) | exact HK.out)) (KeepBut.of_below hb g none) (.inl rfl)); have n3_ := Aside0.mk (below_step (by repeat (first | (with_reducible first | exact HB.out | apply below_alloc | apply pw_below_drewN | apply below_drew1 | refine below_set ?_ (IsS92.ge HI0.out)) | exact HB.out)) hb); clear HO216; clear HI0; clear HK; clear HB; have HO216 := n0_; have HI0 := n1_; have HK := n2_; have HB := n3_; clear n0_ n1_ n2_ n3_; (try clear hb); (try clear hb2); (try clear hk); (try clear hi)))
      go_ret
      exact ⟨by first | rfl | (simp [errW_none, errW_some] <;> rfl) | (simp [*, errW_none, errW_some] <;> rfl), by repeat (first | (with_reducible first | exact HI0.out | apply IsS92.alloc | apply IsS92.drewN | apply IsS92.drew | apply IsS92.set_1 | apply IsS92.set_2) | exact HI0.out), by repeat (first | (with_reducible first | exact HB.out | apply below_alloc | apply pw_below_drewN | apply below_drew1 | refine below_set ?_ (IsS92.ge HI0.out)) | exact HB.out), by repeat (first | (with_reducible first | exact HK.out | apply KeepBut.set_ | apply keep_drewN | apply keep_drew | apply keep_alloc) | exact HK.out)⟩
     ·rw [if_neg c51] at H
      exact absurd H (by simp)
    ·rw [if_neg c49] at H
     exact absurd H (by simp)
   ·rw [if_neg c43] at H
    have c43b0 : (t172 == 2) = false := beq_eq_false_iff_ne.mpr c43
    have c43b1 : (t172 != 2) = true := bne_iff_ne.mpr c43
    by_cases c62 : t172 = 3
    ·rw [if_pos c62] at H
     have c62b0 : (t172 == 3) = true := beq_iff_eq.mpr c62
     have c62b1 : (t172 != 3) = false := bne_eq_false_iff_eq.mpr c62
     clear c62
     obtain ⟨y230, hy230⟩ : ∃ y_ : List Int, y_ = (([20, 40, 61] : List Int)) := ⟨_, rfl⟩
     replace H : ((spec_l01Pick.f s0_0 t173 t174 y230).bind fun bt233 => ((spec_l01Next.f s0_0 bt233.2.1 bt233.2.2 bt233.1).bind fun bt236 => ((spec_l01Pick.f s0_0 bt236.2.1 bt236.2.2 (([1, 2, 2, 3, 3, 4, 5] : List Int))).bind fun bt242 => ((spec_l01DrawOf.f k s0_0 bt242.2.1 bt242.2.2 bt236.1 bt242.1).bind fun bt245 => (some (bt245.1, bt245.2.1, bt245.2.2)))))) = some (r1, r2, r3) := by first | (rw [hy230]; with_reducible exact H) | (have H2_ := (Option.bind_some _ _).symm.trans H; rw [hy230]; with_reducible exact H2_) | (have H2_ := (Option.bind_some _ _).symm.trans H; with_reducible exact H2_) | with_reducible exact H | (rw [hy230]; exact H) | exact H
     have Ny230 := Aside0.mk hy230
     clear hy230
     replace H := Option.bind_eq_some_iff.mp H
     obtain ⟨⟨t233, t234, t235⟩, A630, H⟩ := H
     replace H : ((spec_l01Next.f s0_0 t234 t235 t233).bind fun bt236 => ((spec_l01Pick.f s0_0 bt236.2.1 bt236.2.2 (([1, 2, 2, 3, 3, 4, 5] : List Int))).bind fun bt242 => ((spec_l01DrawOf.f k s0_0 bt242.2.1 bt242.2.2 bt236.1 bt242.1).bind fun bt245 => (some (bt245.1, bt245.2.1, bt245.2.2))))) = some (r1, r2, r3) := H
     have A63 := Aside0.mk A630
     clear A630
     replace H := Option.bind_eq_some_iff.mp H
     obtain ⟨⟨t236, t237, t238⟩, A640, H⟩ := H
     replace H : ((spec_l01Pick.f s0_0 t237 t238 (([1, 2, 2, 3, 3, 4, 5] : List Int))).bind fun bt242 => ((spec_l01DrawOf.f k s0_0 bt242.2.1 bt242.2.2 t236 bt242.1).bind fun bt245 => (some (bt245.1, bt245.2.1, bt245.2.2)))) = some (r1, r2, r3) := H
     have A64 := Aside0.mk A640
     clear A640
     obtain ⟨y239, hy239⟩ : ∃ y_ : List Int, y_ = (([1, 2, 2, 3, 3, 4, 5] : List Int)) := ⟨_, rfl⟩
     replace H : ((spec_l01Pick.f s0_0 t237 t238 y239).bind fun bt242 => ((spec_l01DrawOf.f k s0_0 bt242.2.1 bt242.2.2 t236 bt242.1).bind fun bt245 => (some (bt245.1, bt245.2.1, bt245.2.2)))) = some (r1, r2, r3) := by first | (rw [hy239]; with_reducible exact H) | (have H2_ := (Option.bind_some _ _).symm.trans H; rw [hy239]; with_reducible exact H2_) | (have H2_ := (Option.bind_some _ _).symm.trans H; with_reducible exact H2_) | with_reducible exact H | (rw [hy239]; exact H) | exact H
     have Ny239 := Aside0.mk hy239
     clear hy239
     replace H := Option.bind_eq_some_iff.mp H
     obtain ⟨⟨t242, t243, t244⟩, A650, H⟩ := H
     replace H : ((spec_l01DrawOf.f k s0_0 t243 t244 t236 t242).bind fun bt245 => (some (bt245.1, bt245.2.1, bt245.2.2))) = some (r1, r2, r3) := H
     have A65 := Aside0.mk A650
     clear A650
     replace H := Option.bind_eq_some_iff.mp H
     obtain ⟨⟨t245, t246, t247⟩, A660, H⟩ := H
     replace H : (some (t245, t246, t247)) = some (r1, r2, r3) := H
     have A66 := Aside0.mk A660
     clear A660
     simp only [Option.some.injEq, Prod.mk.injEq] at H
     obtain ⟨rfl, rfl, rfl⟩ := H
     go_enter Try.func115, Try.ntmps115
     go_wp2_with (first | ((with_reducible refine gate_callee (f := 59) rfl ?_); refine goesL_ (some 11) rfl rfl Try.func59 (by kernel_rfl) rfl #[.pointer (some ⟨g, 0, none⟩), .int .i64 6] rfl (by (try simp only [List.map_toArray, List.map_cons, List.map_nil]); first | done | rfl | (simp only [List.length_drop, List.length_take]; rfl)) ?_; (with_reducible refine (spec_l01Next.calls g s0_0 s0_1 s0_2 6 t172 t173 t174 w0 _ ?side1 ?side2 A2.out).mono ?_); (case side1 => repeat (first | (with_reducible first | exact HI0.out | apply IsS92.alloc | apply IsS92.drewN | apply IsS92.drew | apply IsS92.set_1 | apply IsS92.set_2) | exact HI0.out)); (case side2 => repeat (first | (with_reducible first | exact HB.out | apply below_alloc | apply pw_below_drewN | apply below_drew1 | refine below_set ?_ (IsS92.ge HI0.out)) | exact HB.out)); rintro e w67 ⟨rfl, hi, hb, hk⟩; refine ⟨_, rfl, ?_⟩; have n0_ := Aside0.mk (KeepBut.trans (by repeat (first | (with_reducible first | exact HK.out | apply KeepBut.set_ | apply keep_drewN | apply keep_drew | apply keep_alloc) | exact HK.out)) hk (.inl rfl)); have n1_ := Aside0.mk (hb); have n2_ := Aside0.mk (hi); clear HK; clear HB; clear HI0; have HK := n0_; have HB := n1_; have HI0 := n2_; clear n0_ n1_ n2_; (try clear hb); (try clear hb2); (try clear hk); (try clear hi)) | ((with_reducible refine gate_dst (N := 81) rfl ?_); refine Kd.R_lit (Kd.int .i64) _ 2 ?hg (N := 81) ?hd (xs := ([20, 40, 61] : List Int)) (inner := [.int .i64 20, .int .i64 40, .int .i64 61]) (ok := fun _ => True) (okp := fun _ => True) ?hr ?hp (fun _ hk => hk) trivial (Below.refl _ _) (Nat.le_refl _) (by simp) ?_; (case hd => rfl); (case hg => rfl); (case hr => first | (go_simp; done) | (go_simp; rfl)); (case hp => exact (Reps.one (show Kd.M (Kd.int .i64) _ _ _ 20 [.int .i64 20] from rfl) (Reps.one (show Kd.M (Kd.int .i64) _ _ _ 40 [.int .i64 40] from rfl) (Reps.one (show Kd.M (Kd.int .i64) _ _ _ 61 [.int .i64 61] from rfl) (Reps.none _ _))))); intro v231 w68 ho69 hb hg_ hnew_; clear hg_ hnew_; (first | rw [← Ny230.out] at ho69 | (simp only [Int.reduceToNat] at ho69; rw [← Ny230.out] at ho69)); have n0_ := Aside0.mk (Kd.R_lower ho69 (keep_size (w := w) (g := g) (row := none) (by repeat (first | (with_reducible first | exact HK.out | apply KeepBut.set_ | apply keep_drewN | apply keep_drew | apply keep_alloc) | exact HK.out)))); have n1_ := Aside0.mk (IsS92.below (by repeat (first | (with_reducible first | exact HI0.out | apply IsS92.alloc | apply IsS92.drewN | apply IsS92.drew | apply IsS92.set_1 | apply IsS92.set_2) | exact HI0.out)) hb); have n2_ := Aside0.mk (KeepBut.trans (by repeat (first | (with_reducible first | exact HK.out | apply KeepBut.set_ | apply keep_drewN | apply keep_drew | apply keep_alloc) | exact HK.out)) (KeepBut.of_below hb g none) (.inl rfl)); have n3_ := Aside0.mk (below_step (by repeat (first | (with_reducible first | exact HB.out | apply below_alloc | apply pw_below_drewN | apply below_drew1 | refine below_set ?_ (IsS92.ge HI0.out)) | exact HB.out)) hb); clear HI0; clear HK; clear HB; have HO232 := n0_; have HI0 := n1_; have HK := n2_; have HB := n3_; clear n0_ n1_ n2_ n3_; clear hb ho69; obtain ⟨Ao70, co70, eo70⟩ := Kd.R_slice HO232.out; subst eo70) | ((with_reducible refine gate_callee (f := 61) rfl ?_); refine goesL_ (some 82) rfl rfl Try.func61 (by kernel_rfl) rfl #[.pointer (some ⟨g, 0, none⟩), .slice Ao70 y230.length co70] rfl (by (try simp only [List.map_toArray, List.map_cons, List.map_nil]); first | done | rfl | (simp only [List.length_drop, List.length_take]; rfl)) ?_; (with_reducible refine (spec_l01Pick.calls g s0_0 t173 t174 _ _ y230 t233 t234 t235 w0 _ ?side1 ?side2 ?side3 ?side4 ?side5 A63.out).mono ?_); (case side1 => repeat (first | (with_reducible first | exact HI0.out | apply IsS92.alloc | apply IsS92.drewN | apply IsS92.drew | apply IsS92.set_1 | apply IsS92.set_2) | exact HI0.out)); (case side2 => repeat (first | (with_reducible first | exact HB.out | apply below_alloc | apply pw_below_drewN | apply below_drew1 | refine below_set ?_ (IsS92.ge HI0.out)) | exact HB.out)); (case side3 => repeat (first | exact (Kd.R_reads' HO232.out).2.2 | (with_reducible refine Kd.C_alloc ?_ _) | (with_reducible refine Kd.C_drewN ?_ _) | (with_reducible refine Kd.C_drew ?_))); (case side4 => exact (Kd.R_reads' HO232.out).2.1); (case side5 => exact far_slice (IsS92.own_ne HI0.out HO232.out (by decide))); rintro e w71 ⟨rfl, hi, hb, hk⟩; refine ⟨_, rfl, ?_⟩; have n0_ := Aside0.mk (Kd.R_mono (Kd.R_keep (IsS92.apart (show IsS92 w0 _ g s0_0 t173 t174 from by repeat (first | (with_reducible first | exact HI0.out | apply IsS92.alloc | apply IsS92.drewN | apply IsS92.drew | apply IsS92.set_1 | apply IsS92.set_2) | exact HI0.out)) (by (with_reducible repeat (first | apply Kd.R_alloc | apply Kd.R_drewN | apply Kd.R_drew)); exact HO232.out) (by decide)) hk (fun _ h => h.2)) (fun _ h => h.1)); have n1_ := Aside0.mk (KeepBut.trans (by repeat (first | (with_reducible first | exact HK.out | apply KeepBut.set_ | apply keep_drewN | apply keep_drew | apply keep_alloc) | exact HK.out)) hk (.inl rfl)); have n2_ := Aside0.mk (hb); have n3_ := Aside0.mk (hi); clear HO232; clear HK; clear HB; clear HI0; have HO232 := n0_; have HK := n1_; have HB := n2_; have HI0 := n3_; clear n0_ n1_ n2_ n3_; (try clear hb); (try clear hb2); (try clear hk); (try clear hi)) | ((with_reducible refine gate_callee (f := 59) rfl ?_); refine goesL_ (some 83) rfl rfl Try.func59 (by kernel_rfl) rfl #[.pointer (some ⟨g, 0, none⟩), .int .i64 t233] rfl (by (try simp only [List.map_toArray, List.map_cons, List.map_nil]); first | done | rfl | (simp only [List.length_drop, List.length_take]; rfl)) ?_; (with_reducible refine (spec_l01Next.calls g s0_0 t234 t235 t233 t236 t237 t238 w0 _ ?side1 ?side2 A64.out).mono ?_); (case side1 => repeat (first | (with_reducible first | exact HI0.out | apply IsS92.alloc | apply IsS92.drewN | apply IsS92.drew | apply IsS92.set_1 | apply IsS92.set_2) | exact HI0.out)); (case side2 => repeat (first | (with_reducible first | exact HB.out | apply below_alloc | apply pw_below_drewN | apply below_drew1 | refine below_set ?_ (IsS92.ge HI0.out)) | exact HB.out)); rintro e w72 ⟨rfl, hi, hb, hk⟩; refine ⟨_, rfl, ?_⟩; have n0_ := Aside0.mk (Kd.R_mono (Kd.R_keep (IsS92.apart (show IsS92 w0 _ g s0_0 t234 t235 from by repeat (first | (with_reducible first | exact HI0.out | apply IsS92.alloc | apply IsS92.drewN | apply IsS92.drew | apply IsS92.set_1 | apply IsS92.set_2) | exact HI0.out)) (by (with_reducible repeat (first | apply Kd.R_alloc | apply Kd.R_drewN | apply Kd.R_drew)); exact HO232.out) (by decide)) hk (fun _ h => h.2)) (fun _ h => h.1)); have n1_ := Aside0.mk (KeepBut.trans (by repeat (first | (with_reducible first | exact HK.out | apply KeepBut.set_ | apply keep_drewN | apply keep_drew | apply keep_alloc) | exact HK.out)) hk (.inl rfl)); have n2_ := Aside0.mk (hb); have n3_ := Aside0.mk (hi); clear HO232; clear HK; clear HB; clear HI0; have HO232 := n0_; have HK := n1_; have HB := n2_; have HI0 := n3_; clear n0_ n1_ n2_ n3_; (try clear hb); (try clear hb2); (try clear hk); (try clear hi)) | ((with_reducible refine gate_dst (N := 85) rfl ?_); refine Kd.R_lit (Kd.int .i64) _ 2 ?hg (N := 85) ?hd (xs := ([1, 2, 2, 3, 3, 4, 5] : List Int)) (inner := [.int .i64 1, .int .i64 2, .int .i64 2, .int .i64 3, .int .i64 3, .int .i64 4, .int .i64 5]) (ok := fun _ => True) (okp := fun _ => True) ?hr ?hp (fun _ hk => hk) trivial (Below.refl _ _) (Nat.le_refl _) (by simp) ?_; (case hd => rfl); (case hg => rfl); (case hr => first | (go_simp; done) | (go_simp; rfl)); (case hp => exact (Reps.one (show Kd.M (Kd.int .i64) _ _ _ 1 [.int .i64 1] from rfl) (Reps.one (show Kd.M (Kd.int .i64) _ _ _ 2 [.int .i64 2] from rfl) (Reps.one (show Kd.M (Kd.int .i64) _ _ _ 2 [.int .i64 2] from rfl) (Reps.one (show Kd.M (Kd.int .i64) _ _ _ 3 [.int .i64 3] from rfl) (Reps.one (show Kd.M (Kd.int .i64) _ _ _ 3 [.int .i64 3] from rfl) (Reps.one (show Kd.M (Kd.int .i64) _ _ _ 4 [.int .i64 4] from rfl) (Reps.one (show Kd.M (Kd.int .i64) _ _ _ 5 [.int .i64 5] from rfl) (Reps.none _ _))))))))); intro v240 w73 ho74 hb hg_ hnew_; clear hg_ hnew_; (first | rw [← Ny239.out] at ho74 | (simp only [Int.reduceToNat] at ho74; rw [← Ny239.out] at ho74)); have n0_ := Aside0.mk (Kd.R_elder' (by (with_reducible repeat (first | apply Kd.R_alloc | apply Kd.R_drewN | apply Kd.R_drew)); exact HO232.out) (Kd.R_base ho74) hb); have n1_ := Aside0.mk (Kd.R_lower (Kd.R_new' ho74 (Kd.R_lt (by (with_reducible repeat (first | apply Kd.R_alloc | apply Kd.R_drewN | apply Kd.R_drew)); exact HO232.out))) (keep_size (w := w) (g := g) (row := none) (by repeat (first | (with_reducible first | exact HK.out | apply KeepBut.set_ | apply keep_drewN | apply keep_drew | apply keep_alloc) | exact HK.out)))); have n2_ := Aside0.mk (IsS92.below (by repeat (first | (with_reducible first | exact HI0.out | apply IsS92.alloc | apply IsS92.drewN | apply IsS92.drew | apply IsS92.set_1 | apply IsS92.set_2) | exact HI0.out)) hb); have n3_ := Aside0.mk (KeepBut.trans (by repeat (first | (with_reducible first | exact HK.out | apply KeepBut.set_ | apply keep_drewN | apply keep_drew | apply keep_alloc) | exact HK.out)) (KeepBut.of_below hb g none) (.inl rfl)); have n4_ := Aside0.mk (below_step (by repeat (first | (with_reducible first | exact HB.out | apply below_alloc | apply pw_below_drewN | apply below_drew1 | refine below_set ?_ (IsS92.ge HI0.out)) | exact HB.out)) hb); clear HO232; clear HI0; clear HK; clear HB; have HO232 := n0_; have HO241 := n1_; have HI0 := n2_; have HK := n3_; have HB := n4_; clear n0_ n1_ n2_ n3_ n4_; clear hb ho74; obtain ⟨Ao75, co75, eo75⟩ := Kd.R_slice HO241.out; subst eo75) | ((with_reducible refine gate_callee (f := 61) rfl ?_); refine goesL_ (some 86) rfl rfl Try.func61 (by kernel_rfl) rfl #[.pointer (some ⟨g, 0, none⟩), .slice Ao75 y239.length co75] rfl (by (try simp only [List.map_toArray, List.map_cons, List.map_nil]); first | done | rfl | (simp only [List.length_drop, List.length_take]; rfl)) ?_; (with_reducible refine (spec_l01Pick.calls g s0_0 t237 t238 _ _ y239 t242 t243 t244 w0 _ ?side1 ?side2 ?side3 ?side4 ?side5 A65.out).mono ?_); (case side1 => repeat (first | (with_reducible first | exact HI0.out | apply IsS92.alloc | apply IsS92.drewN | apply IsS92.drew | apply IsS92.set_1 | apply IsS92.set_2) | exact HI0.out)); (case side2 => repeat (first | (with_reducible first | exact HB.out | apply below_alloc | apply pw_below_drewN | apply below_drew1 | refine below_set ?_ (IsS92.ge HI0.out)) | exact HB.out)); (case side3 => repeat (first | exact (Kd.R_reads' HO241.out).2.2 | (with_reducible refine Kd.C_alloc ?_ _) | (with_reducible refine Kd.C_drewN ?_ _) | (with_reducible refine Kd.C_drew ?_))); (case side4 => exact (Kd.R_reads' HO241.out).2.1); (case side5 => exact far_slice (IsS92.own_ne HI0.out HO241.out (by decide))); rintro e w76 ⟨rfl, hi, hb, hk⟩; refine ⟨_, rfl, ?_⟩; have n0_ := Aside0.mk (Kd.R_mono (Kd.R_keep (IsS92.apart (show IsS92 w0 _ g s0_0 t237 t238 from by repeat (first | (with_reducible first | exact HI0.out | apply IsS92.alloc | apply IsS92.drewN | apply IsS92.drew | apply IsS92.set_1 | apply IsS92.set_2) | exact HI0.out)) (by (with_reducible repeat (first | apply Kd.R_alloc | apply Kd.R_drewN | apply Kd.R_drew)); exact HO232.out) (by decide)) hk (fun _ h => h.2)) (fun _ h => h.1)); have n1_ := Aside0.mk (Kd.R_mono (Kd.R_keep (IsS92.apart (show IsS92 w0 _ g s0_0 t237 t238 from by repeat (first | (with_reducible first | exact HI0.out | apply IsS92.alloc | apply IsS92.drewN | apply IsS92.drew | apply IsS92.set_1 | apply IsS92.set_2) | exact HI0.out)) (by (with_reducible repeat (first | apply Kd.R_alloc | apply Kd.R_drewN | apply Kd.R_drew)); exact HO241.out) (by decide)) hk (fun _ h => h.2)) (fun _ h => h.1)); have n2_ := Aside0.mk (KeepBut.trans (by repeat (first | (with_reducible first | exact HK.out | apply KeepBut.set_ | apply keep_drewN | apply keep_drew | apply keep_alloc) | exact HK.out)) hk (.inl rfl)); have n3_ := Aside0.mk (hb); have n4_ := Aside0.mk (hi); clear HO232; clear HO241; clear HK; clear HB; clear HI0; have HO232 := n0_; have HO241 := n1_; have HK := n2_; have HB := n3_; have HI0 := n4_; clear n0_ n1_ n2_ n3_ n4_; (try clear hb); (try clear hb2); (try clear hk); (try clear hi)) | ((with_reducible refine gate_callee (f := 60) rfl ?_); refine goesL_ (some 87) rfl rfl Try.func60 (by kernel_rfl) rfl #[.pointer (some ⟨g, 0, none⟩), .int .i64 t236, .int .i64 t242] rfl (by (try simp only [List.map_toArray, List.map_cons, List.map_nil]); first | done | rfl | (simp only [List.length_drop, List.length_take]; rfl)) ?_; (with_reducible refine (spec_l01DrawOf.calls k g s0_0 t243 t244 t236 t242 t245 t246 t247 w0 _ ?side1 ?side2 A66.out).mono ?_); (case side1 => repeat (first | (with_reducible first | exact HI0.out | apply IsS92.alloc | apply IsS92.drewN | apply IsS92.drew | apply IsS92.set_1 | apply IsS92.set_2) | exact HI0.out)); (case side2 => repeat (first | (with_reducible first | exact HB.out | apply below_alloc | apply pw_below_drewN | apply below_drew1 | refine below_set ?_ (IsS92.ge HI0.out)) | exact HB.out)); rintro e w77 ⟨rfl, hi, hb, hk⟩; refine ⟨_, rfl, ?_⟩; have n0_ := Aside0.mk (Kd.R_mono (Kd.R_keep (IsS92.apart (show IsS92 w0 _ g s0_0 t243 t244 from by repeat (first | (with_reducible first | exact HI0.out | apply IsS92.alloc | apply IsS92.drewN | apply IsS92.drew | apply IsS92.set_1 | apply IsS92.set_2) | exact HI0.out)) (by (with_reducible repeat (first | apply Kd.R_alloc | apply Kd.R_drewN | apply Kd.R_drew)); exact HO232.out) (by decide)) hk (fun _ h => h.2)) (fun _ h => h.1)); have n1_ := Aside0.mk (Kd.R_mono (Kd.R_keep (IsS92.apart (show IsS92 w0 _ g s0_0 t243 t244 from by repeat (first | (with_reducible first | exact HI0.out | apply IsS92.alloc | apply IsS92.drewN | apply IsS92.drew | apply IsS92.set_1 | apply IsS92.set_2) | exact HI0.out)) (by (with_reducible repeat (first | apply Kd.R_alloc | apply Kd.R_drewN | apply Kd.R_drew)); exact HO241.out) (by decide)) hk (fun _ h => h.2)) (fun _ h => h.1)); have n2_ := Aside0.mk (KeepBut.trans (by repeat (first | (with_reducible first | exact HK.out | apply KeepBut.set_ | apply keep_drewN | apply keep_drew | apply keep_alloc) | exact HK.out)) hk (.inl rfl)); have n3_ := Aside0.mk (hb); have n4_ := Aside0.mk (hi); clear HO232; clear HO241; clear HK; clear HB; clear HI0; have HO232 := n0_; have HO241 := n1_; have HK := n2_; have HB := n3_; have HI0 := n4_; clear n0_ n1_ n2_ n3_ n4_; (try clear hb); (try clear hb2); (try clear hk); (try clear hi)))
     go_ret
     exact ⟨by first | rfl | (simp [errW_none, errW_some] <;> rfl) | (simp [*, errW_none, errW_some] <;> rfl), by repeat (first | (with_reducible first | exact HI0.out | apply IsS92.alloc | apply IsS92.drewN | apply IsS92.drew | apply IsS92.set_1 | apply IsS92.set_2) | exact HI0.out), by repeat (first | (with_reducible first | exact HB.out | apply below_alloc | apply pw_below_drewN | apply below_drew1 | refine below_set ?_ (IsS92.ge HI0.out)) | exact HB.out), by repeat (first | (with_reducible first | exact HK.out | apply KeepBut.set_ | apply keep_drewN | apply keep_drew | apply keep_alloc) | exact HK.out)⟩
    ·rw [if_neg c62] at H
     have c62b0 : (t172 == 3) = false := beq_eq_false_iff_ne.mpr c62
     have c62b1 : (t172 != 3) = true := bne_iff_ne.mpr c62
     replace H := Option.bind_eq_some_iff.mp H
     obtain ⟨⟨t248, t249, t250⟩, A780, H⟩ := H
     replace H : (some (t248, t249, t250)) = some (r1, r2, r3) := H
     have A78 := Aside0.mk A780
     clear A780
     simp only [Option.some.injEq, Prod.mk.injEq] at H
     obtain ⟨rfl, rfl, rfl⟩ := H
     go_enter Try.func115, Try.ntmps115
     go_wp2_with (first | ((with_reducible refine gate_callee (f := 59) rfl ?_); refine goesL_ (some 11) rfl rfl Try.func59 (by kernel_rfl) rfl #[.pointer (some ⟨g, 0, none⟩), .int .i64 6] rfl (by (try simp only [List.map_toArray, List.map_cons, List.map_nil]); first | done | rfl | (simp only [List.length_drop, List.length_take]; rfl)) ?_; (with_reducible refine (spec_l01Next.calls g s0_0 s0_1 s0_2 6 t172 t173 t174 w0 _ ?side1 ?side2 A2.out).mono ?_); (case side1 => repeat (first | (with_reducible first | exact HI0.out | apply IsS92.alloc | apply IsS92.drewN | apply IsS92.drew | apply IsS92.set_1 | apply IsS92.set_2) | exact HI0.out)); (case side2 => repeat (first | (with_reducible first | exact HB.out | apply below_alloc | apply pw_below_drewN | apply below_drew1 | refine below_set ?_ (IsS92.ge HI0.out)) | exact HB.out)); rintro e w79 ⟨rfl, hi, hb, hk⟩; refine ⟨_, rfl, ?_⟩; have n0_ := Aside0.mk (KeepBut.trans (by repeat (first | (with_reducible first | exact HK.out | apply KeepBut.set_ | apply keep_drewN | apply keep_drew | apply keep_alloc) | exact HK.out)) hk (.inl rfl)); have n1_ := Aside0.mk (hb); have n2_ := Aside0.mk (hi); clear HK; clear HB; clear HI0; have HK := n0_; have HB := n1_; have HI0 := n2_; clear n0_ n1_ n2_; (try clear hb); (try clear hb2); (try clear hk); (try clear hi)) | ((with_reducible refine gate_callee (f := 138) rfl ?_); refine goesL_ (some 89) rfl rfl Try.func138 (by kernel_rfl) rfl #[.pointer (some ⟨g, 0, none⟩)] rfl (by (try simp only [List.map_toArray, List.map_cons, List.map_nil]); first | done | rfl | (simp only [List.length_drop, List.length_take]; rfl)) ?_; (with_reducible refine (spec_l01Small.calls k g s0_0 t173 t174 t248 t249 t250 w0 _ ?side1 ?side2 A78.out).mono ?_); (case side1 => repeat (first | (with_reducible first | exact HI0.out | apply IsS92.alloc | apply IsS92.drewN | apply IsS92.drew | apply IsS92.set_1 | apply IsS92.set_2) | exact HI0.out)); (case side2 => repeat (first | (with_reducible first | exact HB.out | apply below_alloc | apply pw_below_drewN | apply below_drew1 | refine below_set ?_ (IsS92.ge HI0.out)) | exact HB.out)); rintro e w80 ⟨rfl, hi, hb, hk⟩; refine ⟨_, rfl, ?_⟩; have n0_ := Aside0.mk (KeepBut.trans (by repeat (first | (with_reducible first | exact HK.out | apply KeepBut.set_ | apply keep_drewN | apply keep_drew | apply keep_alloc) | exact HK.out)) hk (.inl rfl)); have n1_ := Aside0.mk (hb); have n2_ := Aside0.mk (hi); clear HK; clear HB; clear HI0; have HK := n0_; have HB := n1_; have HI0 := n2_; clear n0_ n1_ n2_; (try clear hb); (try clear hb2); (try clear hk); (try clear hi)))
     go_ret
     exact ⟨by first | rfl | (simp [errW_none, errW_some] <;> rfl) | (simp [*, errW_none, errW_some] <;> rfl), by repeat (first | (with_reducible first | exact HI0.out | apply IsS92.alloc | apply IsS92.drewN | apply IsS92.drew | apply IsS92.set_1 | apply IsS92.set_2) | exact HI0.out), by repeat (first | (with_reducible first | exact HB.out | apply below_alloc | apply pw_below_drewN | apply below_drew1 | refine below_set ?_ (IsS92.ge HI0.out)) | exact HB.out), by repeat (first | (with_reducible first | exact HK.out | apply KeepBut.set_ | apply keep_drewN | apply keep_drew | apply keep_alloc) | exact HK.out)⟩

end Go.Proofs.Ytmihfmhfgjnfcab.Q

namespace Go.Proofs.Ytmihfmhfgjnfcab.Q
open Go.RowKit Go.Proofs.YtmihfmhfgjnfcabW.PrintWords Go.Proofs.YtmihfmhfgjnfcabW.PrintLast Go.Proofs.YtmihfmhfgjnfcabW.PrintMore
attribute [local go_sem] max2_int min2_int max_two min_two max_three min_three max_four min_four bn_leq bn_gtr bn_geq   -- for this text's walks alone
set_option linter.unusedVariables false
set_option linter.unusedSimpArgs false

/-! ### spec_l01Spoil: function 63 -/
def spec_l01Spoil.f (k : Nat) (s0_0 : List Int) (s0_1 : Int) (s0_2 : Int) : Option (ByteArray × Int × Int) := (spec_l01Draw.f k s0_0 s0_1 s0_2).bind fun bt251 => ((spec_l01Bad.f k s0_0 bt251.2.1 bt251.2.2 bt251.1).bind fun bt254 => (some (bt254.1, bt254.2.1, bt254.2.2)))
set_option maxHeartbeats 8000000 in
set_option maxRecDepth 100000 in
theorem spec_l01Spoil.calls (k : Nat) (g : Nat) (s0_0 : List Int) (s0_1 : Int) (s0_2 : Int) (r1 : ByteArray) (r2 : Int) (r3 : Int) (w0 w : World) (hI : IsS92 w0 w g s0_0 s0_1 s0_2) (hB : Below w0.heap.size w0 w) (h : spec_l01Spoil.f k s0_0 s0_1 s0_2 = some (r1, r2, r3)) :
  Calls Try.prog 63 #[.pointer (some ⟨g, 0, none⟩)] w fun e w' => e = .returned (.string r1) ∧ IsS92 w0 w' g s0_0 r2 r3 ∧ Below w0.heap.size w0 w' ∧ KeepBut w w' g none := by
 have HI0 := Aside0.mk hI
 have HK := Aside0.mk (KeepBut.refl w g none)
 have HL := Aside0.mk hB.size
 clear hI
 have HW0 := Aside0.mk hB.size
 have HB := Aside0.mk hB
 clear hB
 have H : ((spec_l01Draw.f k s0_0 s0_1 s0_2).bind fun bt251 => ((spec_l01Bad.f k s0_0 bt251.2.1 bt251.2.2 bt251.1).bind fun bt254 => (some (bt254.1, bt254.2.1, bt254.2.2)))) = some (r1, r2, r3) := h
 clear h
 replace H := Option.bind_eq_some_iff.mp H
 obtain ⟨⟨t251, t252, t253⟩, A20, H⟩ := H
 replace H : ((spec_l01Bad.f k s0_0 t252 t253 t251).bind fun bt254 => (some (bt254.1, bt254.2.1, bt254.2.2))) = some (r1, r2, r3) := H
 have A2 := Aside0.mk A20
 clear A20
 replace H := Option.bind_eq_some_iff.mp H
 obtain ⟨⟨t254, t255, t256⟩, A30, H⟩ := H
 replace H : (some (t254, t255, t256)) = some (r1, r2, r3) := H
 have A3 := Aside0.mk A30
 clear A30
 simp only [Option.some.injEq, Prod.mk.injEq] at H
 obtain ⟨rfl, rfl, rfl⟩ := H
 go_enter Try.func63, Try.ntmps63
 go_wp2_with (first | ((with_reducible refine gate_callee (f := 115) rfl ?_); refine goesL_ (some 5) rfl rfl Try.func115 (by kernel_rfl) rfl #[.pointer (some ⟨g, 0, none⟩)] rfl (by (try simp only [List.map_toArray, List.map_cons, List.map_nil]); first | done | rfl | (simp only [List.length_drop, List.length_take]; rfl)) ?_; (with_reducible refine (spec_l01Draw.calls k g s0_0 s0_1 s0_2 t251 t252 t253 w0 _ ?side1 ?side2 A2.out).mono ?_); (case side1 => repeat (first | (with_reducible first | exact HI0.out | apply IsS92.alloc | apply IsS92.drewN | apply IsS92.drew | apply IsS92.set_1 | apply IsS92.set_2) | exact HI0.out)); (case side2 => repeat (first | (with_reducible first | exact HB.out | apply below_alloc | apply pw_below_drewN | apply below_drew1 | refine below_set ?_ (IsS92.ge HI0.out)) | exact HB.out)); rintro e w4 ⟨rfl, hi, hb, hk⟩; refine ⟨_, rfl, ?_⟩; have n0_ := Aside0.mk (KeepBut.trans (by repeat (first | (with_reducible first | exact HK.out | apply KeepBut.set_ | apply keep_drewN | apply keep_drew | apply keep_alloc) | exact HK.out)) hk (.inl rfl)); have n1_ := Aside0.mk (hb); have n2_ := Aside0.mk (hi); clear HK; clear HB; clear HI0; have HK := n0_; have HB := n1_; have HI0 := n2_; clear n0_ n1_ n2_; (try clear hb); (try clear hb2); (try clear hk); (try clear hi)) | ((with_reducible refine gate_callee (f := 62) rfl ?_); refine goesL_ (some 6) rfl rfl Try.func62 (by kernel_rfl) rfl #[.pointer (some ⟨g, 0, none⟩), .string t251] rfl (by (try simp only [List.map_toArray, List.map_cons, List.map_nil]); first | done | rfl | (simp only [List.length_drop, List.length_take]; rfl)) ?_; (with_reducible refine (spec_l01Bad.calls k g s0_0 t252 t253 t251 t254 t255 t256 w0 _ ?side1 ?side2 A3.out).mono ?_); (case side1 => repeat (first | (with_reducible first | exact HI0.out | apply IsS92.alloc | apply IsS92.drewN | apply IsS92.drew | apply IsS92.set_1 | apply IsS92.set_2) | exact HI0.out)); (case side2 => repeat (first | (with_reducible first | exact HB.out | apply below_alloc | apply pw_below_drewN | apply below_drew1 | refine below_set ?_ (IsS92.ge HI0.out)) | exact HB.out)); rintro e w5 ⟨rfl, hi, hb, hk⟩; refine ⟨_, rfl, ?_⟩; have n0_ := Aside0.mk (KeepBut.trans (by repeat (first | (with_reducible first | exact HK.out | apply KeepBut.set_ | apply keep_drewN | apply keep_drew | apply keep_alloc) | exact HK.out)) hk (.inl rfl)); have n1_ := Aside0.mk (hb); have n2_ := Aside0.mk (hi); clear HK; clear HB; clear HI0; have HK := n0_; have HB := n1_; have HI0 := n2_; clear n0_ n1_ n2_; (try clear hb); (try clear hb2); (try clear hk); (try clear hi)))
 go_ret
 exact ⟨by first | rfl | (simp [errW_none, errW_some] <;> rfl) | (simp [*, errW_none, errW_some] <;> rfl), by repeat (first | (with_reducible first | exact HI0.out | apply IsS92.alloc | apply IsS92.drewN | apply IsS92.drew | apply IsS92.set_1 | apply IsS92.set_2) | exact HI0.out), by repeat (first | (with_reducible first | exact HB.out | apply below_alloc | apply pw_below_drewN | apply below_drew1 | refine below_set ?_ (IsS92.ge HI0.out)) | exact HB.out), by repeat (first | (with_reducible first | exact HK.out | apply KeepBut.set_ | apply keep_drewN | apply keep_drew | apply keep_alloc) | exact HK.out)⟩

end Go.Proofs.Ytmihfmhfgjnfcab.Q

namespace Go.Proofs.Ytmihfmhfgjnfcab.Q
open Go.RowKit Go.Proofs.YtmihfmhfgjnfcabW.PrintWords Go.Proofs.YtmihfmhfgjnfcabW.PrintLast Go.Proofs.YtmihfmhfgjnfcabW.PrintMore
attribute [local go_sem] max2_int min2_int max_two min_two max_three min_three max_four min_four bn_leq bn_gtr bn_geq   -- for this text's walks alone
set_option linter.unusedVariables false
set_option linter.unusedSimpArgs false

/-! ### spec_DrawLyndonParts: function 50 -/
def spec_DrawLyndonParts.f (k : Nat) (l0 : List Int) : Option (ByteArray) := (spec_l01From.f k l0).bind fun bt748 => ((spec_l01Spoil.f k bt748.1 bt748.2.1 bt748.2.2).bind fun bt752 => (some bt752.1))
set_option maxHeartbeats 8000000 in
set_option maxRecDepth 100000 in
theorem spec_DrawLyndonParts.calls (k : Nat) (A0 : Option Addr) (c0 : Nat) (l0 : List Int) (r : ByteArray) (w : World) (hr0 : Kd.C (Kd.int .u8) w A0 l0.length l0) (hc0 : l0.length ≤ c0) (h : spec_DrawLyndonParts.f k l0 = some r) :
  Calls Try.prog 50 #[.slice A0 l0.length c0] w fun e w' => e = .returned (.string r) ∧ Below w.heap.size w w' := by
 have HR0 := Aside0.mk hr0
 have HC0 := Aside0.mk hc0
 clear hr0 hc0
 have HB := Aside0.mk (Below.refl w.heap.size w)
 have H : ((spec_l01From.f k l0).bind fun bt748 => ((spec_l01Spoil.f k bt748.1 bt748.2.1 bt748.2.2).bind fun bt752 => (some bt752.1))) = some r := h
 clear h
 replace H := Option.bind_eq_some_iff.mp H
 obtain ⟨⟨t748, t749, t750⟩, A20, H⟩ := H
 replace H : ((spec_l01Spoil.f k t748 t749 t750).bind fun bt752 => (some bt752.1)) = some r := H
 have A2 := Aside0.mk A20
 clear A20
 replace H := Option.bind_eq_some_iff.mp H
 obtain ⟨⟨t752, t753, t754⟩, A30, H⟩ := H
 replace H : (some t752) = some r := H
 have A3 := Aside0.mk A30
 clear A30
 obtain rfl := Option.some.inj H
 go_enter Try.func50, Try.ntmps50
 go_wp2_with (first | ((with_reducible refine gate_callee (f := 58) rfl ?_); refine goesL_ (some 4) rfl rfl Try.func58 (by kernel_rfl) rfl #[.slice A0 l0.length c0] rfl (by (try simp only [List.map_toArray, List.map_cons, List.map_nil]); first | done | rfl | (simp only [List.length_drop, List.length_take]; rfl)) ?_; (with_reducible refine (spec_l01From.calls k _ _ l0 t748 t749 t750 w _ ?side1 ?side2 ?side3 A2.out).mono ?_); (case side1 => repeat (first | (with_reducible first | exact HB.out | apply below_alloc | apply pw_below_drewN | apply below_drew1) | exact HB.out)); (case side2 => exact HR0.out); (case side3 => exact HC0.out); rintro e w4 ⟨g751, rfl, hi, hb, hb2⟩; refine ⟨_, rfl, ?_⟩; have n0_ := Aside0.mk (hb); have n1_ := Aside0.mk (hi); clear HB; have HB := n0_; have HI751 := n1_; clear n0_ n1_; (try clear hb); (try clear hb2); (try clear hk); (try clear hi)) | ((with_reducible refine gate_callee (f := 63) rfl ?_); refine goesL_ (some 5) rfl rfl Try.func63 (by kernel_rfl) rfl #[.pointer (some ⟨g751, 0, none⟩)] rfl (by (try simp only [List.map_toArray, List.map_cons, List.map_nil]); first | done | rfl | (simp only [List.length_drop, List.length_take]; rfl)) ?_; (with_reducible refine (spec_l01Spoil.calls k g751 t748 t749 t750 t752 t753 t754 w _ ?side1 ?side2 A3.out).mono ?_); (case side1 => repeat (first | (with_reducible first | exact HI751.out | apply IsS92.alloc | apply IsS92.drewN | apply IsS92.drew | apply IsS92.set_1 | apply IsS92.set_2) | exact HI751.out)); (case side2 => repeat (first | (with_reducible first | exact HB.out | apply below_alloc | apply pw_below_drewN | apply below_drew1 | refine below_set ?_ (IsS92.ge HI751.out)) | exact HB.out)); rintro e w5 ⟨rfl, hi, hb, hk⟩; refine ⟨_, rfl, ?_⟩; have n0_ := Aside0.mk (hb); have n1_ := Aside0.mk (hi); clear HB; clear HI751; have HB := n0_; have HI751 := n1_; clear n0_ n1_; (try clear hb); (try clear hb2); (try clear hk); (try clear hi)))
 go_ret
 exact ⟨by first | rfl | (simp [errW_none, errW_some] <;> rfl) | (simp [*, errW_none, errW_some] <;> rfl), by repeat (first | (with_reducible first | exact HB.out | apply below_alloc | apply pw_below_drewN | apply below_drew1 | refine below_set ?_ (IsS92.ge HI751.out)) | exact HB.out)⟩

end Go.Proofs.Ytmihfmhfgjnfcab.Q

namespace Go.Proofs.Ytmihfmhfgjnfcab.Q
open Go.RowKit Go.Proofs.YtmihfmhfgjnfcabW.PrintWords Go.Proofs.YtmihfmhfgjnfcabW.PrintLast Go.Proofs.YtmihfmhfgjnfcabW.PrintMore
attribute [local go_sem] max2_int min2_int max_two min_two max_three min_three max_four min_four bn_leq bn_gtr bn_geq   -- for this text's walks alone
set_option linter.unusedVariables false
set_option linter.unusedSimpArgs false

/-! ### impl_isLyndon: function 112 -/
def impl_isLyndon.l0 : Nat → ByteArray → Int → Option (Bool)
 | 0, _, _ => none
 | k + 1, x0, x3 => if x3 < (x0.size : Int) then (if 0 ≤ x3 then (if x3 ≤ (x0.size : Int) then (if (x0.extract (x3 : Int).toNat x0.size).size + (x0.extract 0 (x3 : Int).toNat).size ≤ 9223372036854775807 then (if ((Op.bytesLess x0.toList (((x0.extract (x3 : Int).toNat x0.size) ++ (x0.extract 0 (x3 : Int).toNat)).toList)) = true) then (impl_isLyndon.l0 k x0 (wrap64 (x3 + 1))) else (some false)) else (none)) else (none)) else (none)) else (some (!x0.toList.isEmpty))
def impl_isLyndon.f (k : Nat) (a0 : ByteArray) : Option (Bool) := impl_isLyndon.l0 k a0 1
set_option maxHeartbeats 8000000 in
set_option maxRecDepth 100000 in
theorem impl_isLyndon.calls (k : Nat) (a0 : ByteArray) (r : Bool) (w : World) (h : impl_isLyndon.f k a0 = some r) :
  Calls Try.prog 112 #[.string a0] w fun e w' => e = .returned (.bool r) ∧ Drawn0 w w' := by
 have H : (impl_isLyndon.l0 k a0 1) = some r := h
 clear h
 have H' := Aside0.mk H
 clear H
 go_enter Try.func112, Try.ntmps112
 go_wp2
 repeat (go_quiet (fail); try go_wp2)
 go_loopg [3] k (fun kq v3 w' => ∃ (x3_1 : Int), v3 = .int .i64 x3_1 ∧ Aside0 (impl_isLyndon.l0 kq a0 x3_1 = some r) ∧ Aside0 (kq ≤ k) ∧ Drawn0 w w')
 case atStart => exact ⟨(1), (by first | rfl | (simp; done) | (simp [*]; done)), H', ⟨Nat.le_refl _⟩, by repeat (first | exact Drawn0.refl _ | apply Drawn0.step)⟩
 case round =>
  clear H'
  try clear c1
  obtain ⟨x3_1, rfl, HA, HK1, ⟨m1, rfl⟩⟩ := hrel
  cases gk with
  | zero => exact absurd HA.out (by simp [impl_isLyndon.l0])
  | succ k1 =>
   have H := HA.out
   clear HA
   simp only [impl_isLyndon.l0] at H
   by_cases c2 : x3_1 < (a0.size : Int)
   ·rw [if_pos c2] at H
    have c2b0 : decide (x3_1 < (a0.size : Int)) = true := decide_eq_true c2
    clear c2
    by_cases c3 : 0 ≤ x3_1
    ·rw [if_pos c3] at H
     have c3b0 := eq_true c3
     have c3b1 : decide (0 ≤ x3_1) = true := decide_eq_true c3
     clear c3
     by_cases c4 : x3_1 ≤ (a0.size : Int)
     ·rw [if_pos c4] at H
      have c4b0 := eq_true c4
      have c4b1 : decide (x3_1 ≤ (a0.size : Int)) = true := decide_eq_true c4
      clear c4
      have c5b0 := eq_true (of_decide_eq_true (by first | (with_reducible assumption) | assumption) : 0 ≤ x3_1)
      have c6b0 := eq_true (of_decide_eq_true (by first | (with_reducible assumption) | assumption) : x3_1 ≤ (a0.size : Int))
      by_cases c7 : (a0.extract (x3_1 : Int).toNat a0.size).size + (a0.extract 0 (x3_1 : Int).toNat).size ≤ 9223372036854775807
      ·rw [if_pos c7] at H
       have c7b0 := eq_true c7
       have c7b1 : decide ((a0.extract (x3_1 : Int).toNat a0.size).size + (a0.extract 0 (x3_1 : Int).toNat).size ≤ 9223372036854775807) = true := decide_eq_true c7
       try have c7b2 : (9223372036854775807 < (a0.extract (x3_1 : Int).toNat a0.size).size + (a0.extract 0 (x3_1 : Int).toNat).size) = False := eq_false (Nat.not_lt.2 c7)
       by_cases c8 : ((Op.bytesLess a0.toList (((a0.extract (x3_1 : Int).toNat a0.size) ++ (a0.extract 0 (x3_1 : Int).toNat)).toList)) = true)
       ·rw [if_pos c8] at H
        have c8b0 : (Op.bytesLess a0.toList (((a0.extract (x3_1 : Int).toNat a0.size) ++ (a0.extract 0 (x3_1 : Int).toNat)).toList)) = true := c8
        clear c8
        have H' := Aside0.mk H
        clear H
        go_wp2
        repeat (go_quiet (fail); try go_wp2)
        go_roundg k1
        case measure => have := HK1.out; omega
        case rel => exact ⟨(wrap64 (x3_1 + 1)), (by first | rfl | (simp; done) | (simp [*]; done)), H', ⟨by have := HK1.out; omega⟩, by repeat (first | exact Drawn0.refl _ | apply Drawn0.step)⟩
       ·rw [if_neg c8] at H
        have c8b0 : (Op.bytesLess a0.toList (((a0.extract (x3_1 : Int).toNat a0.size) ++ (a0.extract 0 (x3_1 : Int).toNat)).toList)) = false := by simpa using c8
        clear c8
        obtain rfl := Option.some.inj H
        go_wp2
        repeat (go_quiet (fail); try go_wp2)
        go_ret
        exact ⟨by first | rfl | (simp; done) | (simp [*]; done), by repeat (first | exact Drawn0.refl _ | apply Drawn0.step)⟩
      ·rw [if_neg c7] at H
       exact absurd H (by simp)
     ·rw [if_neg c4] at H
      exact absurd H (by simp)
    ·rw [if_neg c3] at H
     exact absurd H (by simp)
   ·rw [if_neg c2] at H
    have c2b0 : decide (x3_1 < (a0.size : Int)) = false := decide_eq_false c2
    clear c2
    obtain rfl := Option.some.inj H
    go_wp2
    repeat (go_quiet (fail); try go_wp2)
    go_ret
    exact ⟨by first | rfl | (simp; done) | (simp [*]; done), by repeat (first | exact Drawn0.refl _ | apply Drawn0.step)⟩

end Go.Proofs.Ytmihfmhfgjnfcab.Q

namespace Go.Proofs.Ytmihfmhfgjnfcab.Q
open Go.RowKit Go.Proofs.YtmihfmhfgjnfcabW.PrintWords Go.Proofs.YtmihfmhfgjnfcabW.PrintLast Go.Proofs.YtmihfmhfgjnfcabW.PrintMore
attribute [local go_sem] max2_int min2_int max_two min_two max_three min_three max_four min_four bn_leq bn_gtr bn_geq   -- for this text's walks alone
set_option linter.unusedVariables false
set_option linter.unusedSimpArgs false

/-! ### impl_LyndonParts: function 51 -/
mutual
def impl_LyndonParts.l0 : Nat → ByteArray → List ByteArray → Option (List ByteArray × Int)
 | 0, _, _ => none
 | k + 1, x0, x5 => if x0.toList = ([] : List UInt8) then (some (x5, 0)) else (impl_LyndonParts.l1 k x0 x5 (x0.size : Int))
def impl_LyndonParts.l1 : Nat → ByteArray → List ByteArray → Int → Option (List ByteArray × Int)
 | 0, _, _, _ => none
 | k + 1, x0, x5, x6 => if 0 ≤ x6 then (if x6 ≤ (x0.size : Int) then ((impl_isLyndon.f k (x0.extract 0 (x6 : Int).toNat)).bind fun t759 => (if t759 = true then (if x5.length < 8796093022208 then (impl_LyndonParts.l0 k (x0.extract (x6 : Int).toNat x0.size) (x5 ++ [x0.extract 0 (x6 : Int).toNat])) else (none)) else (impl_LyndonParts.l1 k x0 x5 (wrap64 (x6 - 1))))) else (none)) else (none)
end
def impl_LyndonParts.f (k : Nat) (a0 : ByteArray) : Option (List ByteArray × Int) := (impl_wordCode.f () (([a0] : List ByteArray))).bind fun t758 => (if t758 = 0 then (impl_LyndonParts.l0 k a0 ([] : List ByteArray)) else (some (([] : List ByteArray), t758)))
set_option maxHeartbeats 8000000 in
set_option maxRecDepth 100000 in
theorem impl_LyndonParts.calls (k : Nat) (a0 : ByteArray) (r1 : List ByteArray) (r2 : Int) (w : World) (h : impl_LyndonParts.f k a0 = some (r1, r2)) :
  Calls Try.prog 51 #[.string a0] w fun e w' => ∃ v0_ : Value, e = .returned (.tuple #[v0_, .int .i64 r2]) ∧ Kd.R Kd.string 9 w' w.heap.size (fun _ => True) v0_ r1 ∧ Below w.heap.size w w' := by
 have HB := Aside0.mk (Below.refl w.heap.size w)
 have H : ((impl_wordCode.f () (([a0] : List ByteArray))).bind fun t758 => (if t758 = 0 then (impl_LyndonParts.l0 k a0 ([] : List ByteArray)) else (some (([] : List ByteArray), t758)))) = some (r1, r2) := h
 clear h
 obtain ⟨y755, hy755⟩ : ∃ y_ : List ByteArray, y_ = (([a0] : List ByteArray)) := ⟨_, rfl⟩
 replace H : ((impl_wordCode.f () y755).bind fun t758 => (if t758 = 0 then (impl_LyndonParts.l0 k a0 ([] : List ByteArray)) else (some (([] : List ByteArray), t758)))) = some (r1, r2) := by first | (rw [hy755]; with_reducible exact H) | (have H2_ := (Option.bind_some _ _).symm.trans H; rw [hy755]; with_reducible exact H2_) | (have H2_ := (Option.bind_some _ _).symm.trans H; with_reducible exact H2_) | with_reducible exact H | (rw [hy755]; exact H) | exact H
 have Ny755 := Aside0.mk hy755
 clear hy755
 replace H := Option.bind_eq_some_iff.mp H
 obtain ⟨t758, A20, H⟩ := H
 replace H : (if t758 = 0 then (impl_LyndonParts.l0 k a0 ([] : List ByteArray)) else (some (([] : List ByteArray), t758))) = some (r1, r2) := H
 have A2 := Aside0.mk A20
 clear A20
 by_cases c3 : t758 = 0
 ·rw [if_pos c3] at H
  have c3b0 : (t758 == 0) = true := beq_iff_eq.mpr c3
  have c3b1 : (t758 != 0) = false := bne_eq_false_iff_eq.mpr c3
  clear c3
  have H' := Aside0.mk H
  clear H
  go_enter Try.func51, Try.ntmps51
  go_wp2_with (first | ((with_reducible refine gate_dst (N := 8) rfl ?_); refine Kd.R_lit Kd.string _ 9 ?hg (N := 8) ?hd (xs := ([a0] : List ByteArray)) (inner := [.string a0]) (ok := fun _ => True) (okp := fun _ => True) ?hr ?hp (fun _ hk => hk) trivial (Below.refl _ _) (Nat.le_refl _) (by simp) ?_; (case hd => rfl); (case hg => rfl); (case hr => first | (go_simp; done) | (go_simp; rfl)); (case hp => exact (Reps.one (show Kd.M Kd.string _ _ _ a0 [.string a0] from rfl) (Reps.none _ _))); intro v756 w4 ho5 hb hg_ hnew_; clear hg_ hnew_; (first | rw [← Ny755.out] at ho5 | (simp only [Int.reduceToNat] at ho5; rw [← Ny755.out] at ho5)); have n0_ := Aside0.mk (Kd.R_lower ho5 (below_size (by repeat (first | (with_reducible first | exact HB.out | apply below_alloc | apply pw_below_drewN | apply below_drew1) | exact HB.out)))); have n1_ := Aside0.mk (below_step (by repeat (first | (with_reducible first | exact HB.out | apply below_alloc | apply pw_below_drewN | apply below_drew1) | exact HB.out)) hb); clear HB; have HO757 := n0_; have HB := n1_; clear n0_ n1_; clear hb ho5; obtain ⟨Ao6, co6, eo6⟩ := Kd.R_slice HO757.out; subst eo6) | ((with_reducible refine gate_callee (f := 69) rfl ?_); refine goesL_ (some 9) rfl rfl Try.func69 (by kernel_rfl) rfl #[.func (.func 70) #[] #[], .slice Ao6 y755.length co6] rfl (by (try simp only [List.map_toArray, List.map_cons, List.map_nil]); first | done | rfl | (simp only [List.length_drop, List.length_take]; rfl)) ?_; (with_reducible refine (impl_wordCode.calls () _ _ y755 t758 _ ?side1 ?side2 A2.out).mono ?_); (case side1 => repeat (first | exact (Kd.R_reads' HO757.out).2.2 | (with_reducible refine Kd.C_alloc ?_ _) | (with_reducible refine Kd.C_drewN ?_ _) | (with_reducible refine Kd.C_drew ?_))); (case side2 => exact (Kd.R_reads' HO757.out).2.1); rintro e w7 ⟨rfl, hb⟩; refine ⟨_, rfl, ?_⟩; have n0_ := Aside0.mk (Kd.R_below (by (with_reducible repeat (first | apply Kd.R_alloc | apply Kd.R_drewN | apply Kd.R_drew)); exact HO757.out) hb); have n1_ := Aside0.mk (below_step (by repeat (first | (with_reducible first | exact HB.out | apply below_alloc | apply pw_below_drewN | apply below_drew1) | exact HB.out)) hb); clear HO757; clear HB; have HO757 := n0_; have HB := n1_; clear n0_ n1_; (try clear hb); (try clear hb2); (try clear hk); (try clear hi)))
  go_loopg [0, 5] k (fun kq v0 v5 w' => ∃ (x0_1 : ByteArray) (x5_1 : List ByteArray), v0 = .string x0_1 ∧ Aside0 (impl_LyndonParts.l0 kq x0_1 x5_1 = some (r1, r2)) ∧ Aside0 (kq ≤ k) ∧ Aside0 (Kd.R Kd.string 9 w' w.heap.size (fun _ => True) v5 x5_1) ∧ Aside0 (Below w.heap.size w w'))
  case atStart => exact ⟨(a0), (([] : List ByteArray)), (by first | rfl | (simp; done) | (simp [*]; done)), H', ⟨Nat.le_refl _⟩, ⟨by first | exact Kd.R_nil _ _ _ _ _ | exact Kd.N_nil _ _ _ _ _ | exact Kd.V_nil _ _ _ _ _ | exact Kd.Q_nil _ _ _ _ _ | exact Kd.S_nil _ _ _ _ _⟩, ⟨by repeat (first | (with_reducible first | exact HB.out | apply below_alloc | apply pw_below_drewN | apply below_drew1) | exact HB.out)⟩⟩
  case round =>
   clear H'
   try clear p2
   try clear c3
   try clear c3b0
   try clear c3b1
   try clear c5
   try clear c6
   obtain ⟨x0_1, x5_1, rfl, HA, HK1, HO_5, HB⟩ := hrel
   cases gk with
   | zero => exact absurd HA.out (by simp [impl_LyndonParts.l0])
   | succ k1 =>
    have H := HA.out
    clear HA
    simp only [impl_LyndonParts.l0] at H
    by_cases c8 : x0_1.toList = ([] : List UInt8)
    ·rw [if_pos c8] at H
     have c8b0 : (x0_1.toList == ([] : List UInt8)) = true := beq_iff_eq.mpr c8
     have c8b1 : (x0_1.toList != ([] : List UInt8)) = false := bne_eq_false_iff_eq.mpr c8
     clear c8
     simp only [Option.some.injEq, Prod.mk.injEq] at H
     obtain ⟨rfl, rfl⟩ := H
     go_wp2
     go_ret2
     exact ⟨_, by first | rfl | (simp [errW_none, errW_some] <;> rfl) | (simp [*, errW_none, errW_some] <;> rfl), by (with_reducible repeat (first | apply Kd.R_alloc | apply Kd.R_drewN | apply Kd.R_drew)); exact HO_5.out, by repeat (first | (with_reducible first | exact HB.out | apply below_alloc | apply pw_below_drewN | apply below_drew1) | exact HB.out)⟩
    ·rw [if_neg c8] at H
     have c8b0 : (x0_1.toList == ([] : List UInt8)) = false := beq_eq_false_iff_ne.mpr c8
     have c8b1 : (x0_1.toList != ([] : List UInt8)) = true := bne_iff_ne.mpr c8
     have H' := Aside0.mk H
     clear H
     go_wp2
     go_loopg [6] k1 (fun kq v6 w' => ∃ (x6_2 : Int), v6 = .int .i64 x6_2 ∧ Aside0 (impl_LyndonParts.l1 kq x0_1 x5_1 x6_2 = some (r1, r2)) ∧ Aside0 (kq ≤ k1) ∧ Aside0 (Kd.R Kd.string 9 w' w.heap.size (fun _ => True) u5 x5_1) ∧ Aside0 (Below w.heap.size w w'))
     case atStart => exact ⟨((x0_1.size : Int)), (by first | rfl | (simp; done) | (simp [*]; done)), H', ⟨Nat.le_refl _⟩, ⟨by (with_reducible repeat (first | apply Kd.R_alloc | apply Kd.R_drewN | apply Kd.R_drew)); exact HO_5.out⟩, ⟨by repeat (first | (with_reducible first | exact HB.out | apply below_alloc | apply pw_below_drewN | apply below_drew1) | exact HB.out)⟩⟩
     case round =>
      clear H'
      try clear p2
      try clear c3
      try clear c3b0
      try clear c3b1
      try clear c5
      try clear c6
      try clear c8
      try clear c8b0
      try clear c8b1
      try clear p2
      obtain ⟨x6_2, rfl, HA, HK2, HO_5, HB⟩ := hrel
      cases gk with
      | zero => exact absurd HA.out (by simp [impl_LyndonParts.l1])
      | succ k2 =>
       have H := HA.out
       clear HA
       simp only [impl_LyndonParts.l1] at H
       by_cases c9 : 0 ≤ x6_2
       ·rw [if_pos c9] at H
        have c9b0 := eq_true c9
        have c9b1 : decide (0 ≤ x6_2) = true := decide_eq_true c9
        clear c9
        by_cases c10 : x6_2 ≤ (x0_1.size : Int)
        ·rw [if_pos c10] at H
         have c10b0 := eq_true c10
         have c10b1 : decide (x6_2 ≤ (x0_1.size : Int)) = true := decide_eq_true c10
         clear c10
         replace H := Option.bind_eq_some_iff.mp H
         obtain ⟨t759, A110, H⟩ := H
         replace H : (if t759 = true then (if x5_1.length < 8796093022208 then (impl_LyndonParts.l0 k2 (x0_1.extract (x6_2 : Int).toNat x0_1.size) (x5_1 ++ [x0_1.extract 0 (x6_2 : Int).toNat])) else (none)) else (impl_LyndonParts.l1 k2 x0_1 x5_1 (wrap64 (x6_2 - 1)))) = some (r1, r2) := H
         have A11 := Aside0.mk A110
         clear A110
         by_cases c12 : t759 = true
         ·subst c12
          have H1 : (if x5_1.length < 8796093022208 then (impl_LyndonParts.l0 k2 (x0_1.extract (x6_2 : Int).toNat x0_1.size) (x5_1 ++ [x0_1.extract 0 (x6_2 : Int).toNat])) else (none)) = some (r1, r2) := by rw [if_pos rfl] at H; exact H
          clear H
          have H := H1
          clear H1
          have c13b0 := eq_true (of_decide_eq_true (by first | (with_reducible assumption) | assumption) : 0 ≤ x6_2)
          have c14b0 := eq_true (of_decide_eq_true (by first | (with_reducible assumption) | assumption) : x6_2 ≤ (x0_1.size : Int))
          by_cases c15 : x5_1.length < 8796093022208
          ·rw [if_pos c15] at H
           have LMc15 := Aside0.mk c15
           clear c15
           obtain ⟨y760, hy760⟩ : ∃ y_ : List ByteArray, y_ = (x5_1 ++ [x0_1.extract 0 (x6_2 : Int).toNat]) := ⟨_, rfl⟩
           replace H : (impl_LyndonParts.l0 k2 (x0_1.extract (x6_2 : Int).toNat x0_1.size) y760) = some (r1, r2) := by first | (rw [hy760]; with_reducible exact H) | (have H2_ := (Option.bind_some _ _).symm.trans H; rw [hy760]; with_reducible exact H2_) | (have H2_ := (Option.bind_some _ _).symm.trans H; with_reducible exact H2_) | with_reducible exact H | (rw [hy760]; exact H) | exact H
           have Ny760 := Aside0.mk hy760
           clear hy760
           have c16b0 := eq_true (of_decide_eq_true (by first | (with_reducible assumption) | assumption) : 0 ≤ x6_2)
           have c17b0 := eq_true (of_decide_eq_true (by first | (with_reducible assumption) | assumption) : x6_2 ≤ (x0_1.size : Int))
           have H' := Aside0.mk H
           clear H
           go_wp2_with (first | ((with_reducible refine gate_callee (f := 112) rfl ?_); refine goesL_ (some 20) rfl rfl Try.func112 (by kernel_rfl) rfl #[.string (x0_1.extract 0 (x6_2 : Int).toNat)] rfl (by (try simp only [List.map_toArray, List.map_cons, List.map_nil]); first | done | rfl | (simp only [List.length_drop, List.length_take]; rfl)) ?_; (with_reducible refine (impl_isLyndon.calls k2 (x0_1.extract 0 (x6_2 : Int).toNat) true _ A11.out).mono ?_); rintro e w' ⟨rfl, ⟨nd, rfl⟩⟩; refine ⟨_, rfl, ?_⟩) | ((with_reducible refine gate_builtin (b := .append) (xs := #[.tmp 24, .tmp 28]) rfl ?_); at_builtin; refine Kd.R_append Kd.string (w0 := w) w.heap.size rfl (.tmp 24) (.tmp 28) 46 9 (.string ⟨#[]⟩) 16 rfl Try.underlying46 info9 rfl (by decide) (by omega) u5 x5_1 (x0_1.extract 0 (x6_2 : Int).toNat) [.string (x0_1.extract 0 (x6_2 : Int).toNat)] (fun _ => True) (fun _ => False) rfl rfl ?aP (fun _ hk => hk.elim) ?aF ?aO ?aB ?aS ?aL ?_; (case aP => exact rfl); (case aB => exact (by repeat (first | (with_reducible first | exact HB.out | apply below_alloc | apply pw_below_drewN | apply below_drew1) | exact HB.out))); (case aF => exact (fun _ _ => trivial)); (case aO => exact (by (with_reducible repeat (first | apply Kd.R_alloc | apply Kd.R_drewN | apply Kd.R_drew)); exact HO_5.out)); (case aS => exact (below_size (by repeat (first | (with_reducible first | exact HB.out | apply below_alloc | apply pw_below_drewN | apply below_drew1) | exact HB.out)))); (case aL => have := LMc15.out; omega); intro v761 w18 ho hb hg hat; rw [← Ny760.out] at ho; have n0_ := Aside0.mk (hb); have n1_ := Aside0.mk (ho); clear HB; clear HO_5; have HB := n0_; have HO762 := n1_; clear n0_ n1_; clear ho hb hg hat))
           go_roundg k2
           case measure => have := HK1.out; have := HK2.out; omega
           case rel => exact ⟨(x0_1.extract (x6_2 : Int).toNat x0_1.size), (y760), (by first | rfl | (simp; done) | (simp [*]; done)), H', ⟨by have := HK1.out; have := HK2.out; omega⟩, ⟨by (with_reducible repeat (first | apply Kd.R_alloc | apply Kd.R_drewN | apply Kd.R_drew)); exact HO762.out⟩, ⟨by repeat (first | (with_reducible first | exact HB.out | apply below_alloc | apply pw_below_drewN | apply below_drew1) | exact HB.out)⟩⟩
          ·rw [if_neg c15] at H
           exact absurd H (by simp)
         ·replace c12 := Bool.eq_false_iff.mpr c12
          subst c12
          have H1 : (impl_LyndonParts.l1 k2 x0_1 x5_1 (wrap64 (x6_2 - 1))) = some (r1, r2) := by rw [if_neg (show ¬ (false = true) by decide)] at H; exact H
          clear H
          have H := H1
          clear H1
          have H' := Aside0.mk H
          clear H
          go_wp2_with (first | ((with_reducible refine gate_callee (f := 112) rfl ?_); refine goesL_ (some 20) rfl rfl Try.func112 (by kernel_rfl) rfl #[.string (x0_1.extract 0 (x6_2 : Int).toNat)] rfl (by (try simp only [List.map_toArray, List.map_cons, List.map_nil]); first | done | rfl | (simp only [List.length_drop, List.length_take]; rfl)) ?_; (with_reducible refine (impl_isLyndon.calls k2 (x0_1.extract 0 (x6_2 : Int).toNat) false _ A11.out).mono ?_); rintro e w' ⟨rfl, ⟨nd, rfl⟩⟩; refine ⟨_, rfl, ?_⟩))
          go_roundg k2
          case measure => have := HK1.out; have := HK2.out; omega
          case rel => exact ⟨(wrap64 (x6_2 - 1)), (by first | rfl | (simp; done) | (simp [*]; done)), H', ⟨by have := HK1.out; have := HK2.out; omega⟩, ⟨by (with_reducible repeat (first | apply Kd.R_alloc | apply Kd.R_drewN | apply Kd.R_drew)); exact HO_5.out⟩, ⟨by repeat (first | (with_reducible first | exact HB.out | apply below_alloc | apply pw_below_drewN | apply below_drew1) | exact HB.out)⟩⟩
        ·rw [if_neg c10] at H
         exact absurd H (by simp)
       ·rw [if_neg c9] at H
        exact absurd H (by simp)
 ·rw [if_neg c3] at H
  have c3b0 : (t758 == 0) = false := beq_eq_false_iff_ne.mpr c3
  have c3b1 : (t758 != 0) = true := bne_iff_ne.mpr c3
  simp only [Option.some.injEq, Prod.mk.injEq] at H
  obtain ⟨rfl, rfl⟩ := H
  go_enter Try.func51, Try.ntmps51
  go_wp2_with (first | ((with_reducible refine gate_dst (N := 8) rfl ?_); refine Kd.R_lit Kd.string _ 9 ?hg (N := 8) ?hd (xs := ([a0] : List ByteArray)) (inner := [.string a0]) (ok := fun _ => True) (okp := fun _ => True) ?hr ?hp (fun _ hk => hk) trivial (Below.refl _ _) (Nat.le_refl _) (by simp) ?_; (case hd => rfl); (case hg => rfl); (case hr => first | (go_simp; done) | (go_simp; rfl)); (case hp => exact (Reps.one (show Kd.M Kd.string _ _ _ a0 [.string a0] from rfl) (Reps.none _ _))); intro v756 w19 ho20 hb hg_ hnew_; clear hg_ hnew_; (first | rw [← Ny755.out] at ho20 | (simp only [Int.reduceToNat] at ho20; rw [← Ny755.out] at ho20)); have n0_ := Aside0.mk (Kd.R_lower ho20 (below_size (by repeat (first | (with_reducible first | exact HB.out | apply below_alloc | apply pw_below_drewN | apply below_drew1) | exact HB.out)))); have n1_ := Aside0.mk (below_step (by repeat (first | (with_reducible first | exact HB.out | apply below_alloc | apply pw_below_drewN | apply below_drew1) | exact HB.out)) hb); clear HB; have HO757 := n0_; have HB := n1_; clear n0_ n1_; clear hb ho20; obtain ⟨Ao21, co21, eo21⟩ := Kd.R_slice HO757.out; subst eo21) | ((with_reducible refine gate_callee (f := 69) rfl ?_); refine goesL_ (some 9) rfl rfl Try.func69 (by kernel_rfl) rfl #[.func (.func 70) #[] #[], .slice Ao21 y755.length co21] rfl (by (try simp only [List.map_toArray, List.map_cons, List.map_nil]); first | done | rfl | (simp only [List.length_drop, List.length_take]; rfl)) ?_; (with_reducible refine (impl_wordCode.calls () _ _ y755 t758 _ ?side1 ?side2 A2.out).mono ?_); (case side1 => repeat (first | exact (Kd.R_reads' HO757.out).2.2 | (with_reducible refine Kd.C_alloc ?_ _) | (with_reducible refine Kd.C_drewN ?_ _) | (with_reducible refine Kd.C_drew ?_))); (case side2 => exact (Kd.R_reads' HO757.out).2.1); rintro e w22 ⟨rfl, hb⟩; refine ⟨_, rfl, ?_⟩; have n0_ := Aside0.mk (Kd.R_below (by (with_reducible repeat (first | apply Kd.R_alloc | apply Kd.R_drewN | apply Kd.R_drew)); exact HO757.out) hb); have n1_ := Aside0.mk (below_step (by repeat (first | (with_reducible first | exact HB.out | apply below_alloc | apply pw_below_drewN | apply below_drew1) | exact HB.out)) hb); clear HO757; clear HB; have HO757 := n0_; have HB := n1_; clear n0_ n1_; (try clear hb); (try clear hb2); (try clear hk); (try clear hi)))
  go_ret2
  exact ⟨_, by first | rfl | (simp [errW_none, errW_some] <;> rfl) | (simp [*, errW_none, errW_some] <;> rfl), by first | exact Kd.R_nil _ _ _ _ _ | exact Kd.N_nil _ _ _ _ _ | exact Kd.V_nil _ _ _ _ _ | exact Kd.Q_nil _ _ _ _ _ | exact Kd.S_nil _ _ _ _ _, by repeat (first | (with_reducible first | exact HB.out | apply below_alloc | apply pw_below_drewN | apply below_drew1) | exact HB.out)⟩

end Go.Proofs.Ytmihfmhfgjnfcab.Q

namespace Go.Proofs.Ytmihfmhfgjnfcab.Q
open Go.RowKit Go.Proofs.YtmihfmhfgjnfcabW.PrintWords Go.Proofs.YtmihfmhfgjnfcabW.PrintLast Go.Proofs.YtmihfmhfgjnfcabW.PrintMore
attribute [local go_sem] max2_int min2_int max_two min_two max_three min_three max_four min_four bn_leq bn_gtr bn_geq   -- for this text's walks alone
set_option linter.unusedVariables false
set_option linter.unusedSimpArgs false

/-! ### spec_l01Is: function 72 -/
def spec_l01Is.l0 : Nat → ByteArray → Int → Option (Bool)
 | 0, _, _ => none
 | k + 1, x0, x3 => if x3 < (x0.size : Int) then (if 0 ≤ x3 then (if (bt x0 x3) < 97 then (some false) else (if (bt x0 x3) > 101 then (some false) else (spec_l01Is.l0 k x0 (wrap64 (x3 + 1))))) else (none)) else (some (decide ((x0.size : Int) ≤ 60)))
def spec_l01Is.f (k : Nat) (a0 : ByteArray) : Option (Bool) := spec_l01Is.l0 k a0 0
set_option maxHeartbeats 8000000 in
set_option maxRecDepth 100000 in
theorem spec_l01Is.calls (k : Nat) (a0 : ByteArray) (r : Bool) (w : World) (h : spec_l01Is.f k a0 = some r) :
  Calls Try.prog 72 #[.string a0] w fun e w' => e = .returned (.bool r) ∧ Drawn0 w w' := by
 have H : (spec_l01Is.l0 k a0 0) = some r := h
 clear h
 have H' := Aside0.mk H
 clear H
 go_enter Try.func72, Try.ntmps72
 go_wp2
 go_loopg [3] k (fun kq v3 w' => ∃ (x3_1 : Int), v3 = .int .i64 x3_1 ∧ Aside0 (spec_l01Is.l0 kq a0 x3_1 = some r) ∧ Aside0 (kq ≤ k) ∧ Drawn0 w w')
 case atStart => exact ⟨(0), (by first | rfl | (simp; done) | (simp [*]; done)), H', ⟨Nat.le_refl _⟩, by repeat (first | exact Drawn0.refl _ | apply Drawn0.step)⟩
 case round =>
  clear H'
  obtain ⟨x3_1, rfl, HA, HK1, ⟨m1, rfl⟩⟩ := hrel
  cases gk with
  | zero => exact absurd HA.out (by simp [spec_l01Is.l0])
  | succ k1 =>
   have H := HA.out
   clear HA
   simp only [spec_l01Is.l0] at H
   by_cases c2 : x3_1 < (a0.size : Int)
   ·rw [if_pos c2] at H
    have c2b0 : decide (x3_1 < (a0.size : Int)) = true := decide_eq_true c2
    clear c2
    by_cases c3 : 0 ≤ x3_1
    ·rw [if_pos c3] at H
     have c3b0 : decide (0 ≤ x3_1) = true := decide_eq_true c3
     clear c3
     by_cases c5 : (bt a0 x3_1) < 97
     ·rw [if_pos c5] at H
      have c5b0 : decide ((bt a0 x3_1) < 97) = true := decide_eq_true c5
      clear c5
      obtain rfl := Option.some.inj H
      have p4 : 0 ≤ (x3_1 : Int) := of_decide_eq_true (by first | (with_reducible assumption) | assumption)
      have q4 : x3_1 < (a0.size : Int) := of_decide_eq_true (by first | (with_reducible assumption) | assumption)
      have hx4 := bt_at a0 x3_1
      replace p4 := eq_true p4
      replace q4 := eq_true q4
      go_wp2
      go_ret
      exact ⟨by first | rfl | (simp; done) | (simp [*]; done), by repeat (first | exact Drawn0.refl _ | apply Drawn0.step)⟩
     ·rw [if_neg c5] at H
      have c5b0 : decide ((bt a0 x3_1) < 97) = false := decide_eq_false c5
      clear c5
      by_cases c7 : (bt a0 x3_1) > 101
      ·rw [if_pos c7] at H
       have c7b0 : decide (101 < (bt a0 x3_1)) = true := decide_eq_true c7
       clear c7
       obtain rfl := Option.some.inj H
       have p4 : 0 ≤ (x3_1 : Int) := of_decide_eq_true (by first | (with_reducible assumption) | assumption)
       have q4 : x3_1 < (a0.size : Int) := of_decide_eq_true (by first | (with_reducible assumption) | assumption)
       have hx4 := bt_at a0 x3_1
       replace p4 := eq_true p4
       replace q4 := eq_true q4
       have p6 : 0 ≤ (x3_1 : Int) := of_decide_eq_true (by first | (with_reducible assumption) | assumption)
       have q6 : x3_1 < (a0.size : Int) := of_decide_eq_true (by first | (with_reducible assumption) | assumption)
       have hx6 := bt_at a0 x3_1
       replace p6 := eq_true p6
       replace q6 := eq_true q6
       go_wp2
       go_ret
       exact ⟨by first | rfl | (simp; done) | (simp [*]; done), by repeat (first | exact Drawn0.refl _ | apply Drawn0.step)⟩
      ·rw [if_neg c7] at H
       have c7b0 : decide (101 < (bt a0 x3_1)) = false := decide_eq_false c7
       clear c7
       have H' := Aside0.mk H
       clear H
       have p4 : 0 ≤ (x3_1 : Int) := of_decide_eq_true (by first | (with_reducible assumption) | assumption)
       have q4 : x3_1 < (a0.size : Int) := of_decide_eq_true (by first | (with_reducible assumption) | assumption)
       have hx4 := bt_at a0 x3_1
       replace p4 := eq_true p4
       replace q4 := eq_true q4
       have p6 : 0 ≤ (x3_1 : Int) := of_decide_eq_true (by first | (with_reducible assumption) | assumption)
       have q6 : x3_1 < (a0.size : Int) := of_decide_eq_true (by first | (with_reducible assumption) | assumption)
       have hx6 := bt_at a0 x3_1
       replace p6 := eq_true p6
       replace q6 := eq_true q6
       go_wp2
       go_roundg k1
       case measure => have := HK1.out; omega
       case rel => exact ⟨(wrap64 (x3_1 + 1)), (by first | rfl | (simp; done) | (simp [*]; done)), H', ⟨by have := HK1.out; omega⟩, by repeat (first | exact Drawn0.refl _ | apply Drawn0.step)⟩
    ·rw [if_neg c3] at H
     exact absurd H (by simp)
   ·rw [if_neg c2] at H
    have c2b0 : decide (x3_1 < (a0.size : Int)) = false := decide_eq_false c2
    clear c2
    obtain rfl := Option.some.inj H
    go_wp2
    go_ret
    exact ⟨by first | rfl | (simp; done) | (simp [*]; done), by repeat (first | exact Drawn0.refl _ | apply Drawn0.step)⟩

end Go.Proofs.Ytmihfmhfgjnfcab.Q

namespace Go.Proofs.Ytmihfmhfgjnfcab.Q
open Go.RowKit Go.Proofs.YtmihfmhfgjnfcabW.PrintWords Go.Proofs.YtmihfmhfgjnfcabW.PrintLast Go.Proofs.YtmihfmhfgjnfcabW.PrintMore
attribute [local go_sem] max2_int min2_int max_two min_two max_three min_three max_four min_four bn_leq bn_gtr bn_geq   -- for this text's walks alone
set_option linter.unusedVariables false
set_option linter.unusedSimpArgs false

/-! ### spec_l02Lyndon: function 113 -/
def spec_l02Lyndon.l0 : Nat → ByteArray → Int → Option (Bool)
 | 0, _, _ => none
 | k + 1, x0, x3 => if x3 < (x0.size : Int) then (if 0 ≤ x3 then (if x3 ≤ (x0.size : Int) then (if ((Op.bytesLess x0.toList ((x0.extract (x3 : Int).toNat x0.size).toList)) = true) then (spec_l02Lyndon.l0 k x0 (wrap64 (x3 + 1))) else (some false)) else (none)) else (none)) else (some (decide ((x0.size : Int) > 0)))
def spec_l02Lyndon.f (k : Nat) (a0 : ByteArray) : Option (Bool) := spec_l02Lyndon.l0 k a0 1
set_option maxHeartbeats 8000000 in
set_option maxRecDepth 100000 in
theorem spec_l02Lyndon.calls (k : Nat) (a0 : ByteArray) (r : Bool) (w : World) (h : spec_l02Lyndon.f k a0 = some r) :
  Calls Try.prog 113 #[.string a0] w fun e w' => e = .returned (.bool r) ∧ Drawn0 w w' := by
 have H : (spec_l02Lyndon.l0 k a0 1) = some r := h
 clear h
 have H' := Aside0.mk H
 clear H
 go_enter Try.func113, Try.ntmps113
 go_wp2
 go_loopg [3] k (fun kq v3 w' => ∃ (x3_1 : Int), v3 = .int .i64 x3_1 ∧ Aside0 (spec_l02Lyndon.l0 kq a0 x3_1 = some r) ∧ Aside0 (kq ≤ k) ∧ Drawn0 w w')
 case atStart => exact ⟨(1), (by first | rfl | (simp; done) | (simp [*]; done)), H', ⟨Nat.le_refl _⟩, by repeat (first | exact Drawn0.refl _ | apply Drawn0.step)⟩
 case round =>
  clear H'
  try clear c1
  obtain ⟨x3_1, rfl, HA, HK1, ⟨m1, rfl⟩⟩ := hrel
  cases gk with
  | zero => exact absurd HA.out (by simp [spec_l02Lyndon.l0])
  | succ k1 =>
   have H := HA.out
   clear HA
   simp only [spec_l02Lyndon.l0] at H
   by_cases c2 : x3_1 < (a0.size : Int)
   ·rw [if_pos c2] at H
    have c2b0 : decide (x3_1 < (a0.size : Int)) = true := decide_eq_true c2
    clear c2
    by_cases c3 : 0 ≤ x3_1
    ·rw [if_pos c3] at H
     have c3b0 := eq_true c3
     have c3b1 : decide (0 ≤ x3_1) = true := decide_eq_true c3
     clear c3
     by_cases c4 : x3_1 ≤ (a0.size : Int)
     ·rw [if_pos c4] at H
      have c4b0 := eq_true c4
      have c4b1 : decide (x3_1 ≤ (a0.size : Int)) = true := decide_eq_true c4
      clear c4
      by_cases c5 : ((Op.bytesLess a0.toList ((a0.extract (x3_1 : Int).toNat a0.size).toList)) = true)
      ·rw [if_pos c5] at H
       have c5b0 : (Op.bytesLess a0.toList ((a0.extract (x3_1 : Int).toNat a0.size).toList)) = true := c5
       clear c5
       have H' := Aside0.mk H
       clear H
       go_wp2
       go_roundg k1
       case measure => have := HK1.out; omega
       case rel => exact ⟨(wrap64 (x3_1 + 1)), (by first | rfl | (simp; done) | (simp [*]; done)), H', ⟨by have := HK1.out; omega⟩, by repeat (first | exact Drawn0.refl _ | apply Drawn0.step)⟩
      ·rw [if_neg c5] at H
       have c5b0 : (Op.bytesLess a0.toList ((a0.extract (x3_1 : Int).toNat a0.size).toList)) = false := by simpa using c5
       clear c5
       obtain rfl := Option.some.inj H
       go_wp2
       go_ret
       exact ⟨by first | rfl | (simp; done) | (simp [*]; done), by repeat (first | exact Drawn0.refl _ | apply Drawn0.step)⟩
     ·rw [if_neg c4] at H
      exact absurd H (by simp)
    ·rw [if_neg c3] at H
     exact absurd H (by simp)
   ·rw [if_neg c2] at H
    have c2b0 : decide (x3_1 < (a0.size : Int)) = false := decide_eq_false c2
    clear c2
    obtain rfl := Option.some.inj H
    go_wp2
    go_ret
    exact ⟨by first | rfl | (simp; done) | (simp [*]; done), by repeat (first | exact Drawn0.refl _ | apply Drawn0.step)⟩

end Go.Proofs.Ytmihfmhfgjnfcab.Q

namespace Go.Proofs.Ytmihfmhfgjnfcab.Q
open Go.RowKit Go.Proofs.YtmihfmhfgjnfcabW.PrintWords Go.Proofs.YtmihfmhfgjnfcabW.PrintLast Go.Proofs.YtmihfmhfgjnfcabW.PrintMore
attribute [local go_sem] max2_int min2_int max_two min_two max_three min_three max_four min_four bn_leq bn_gtr bn_geq   -- for this text's walks alone
set_option linter.unusedVariables false
set_option linter.unusedSimpArgs false

/-! ### spec_LyndonParts: function 52 -/
mutual
def spec_LyndonParts.l0 : Nat → ByteArray → List ByteArray → Option (List ByteArray × Int)
 | 0, _, _ => none
 | k + 1, x0, x4 => if (x0.size : Int) > 0 then (spec_LyndonParts.l1 k x0 x4 1 2) else (some (x4, 0))
def spec_LyndonParts.l1 : Nat → ByteArray → List ByteArray → Int → Int → Option (List ByteArray × Int)
 | 0, _, _, _, _ => none
 | k + 1, x0, x4, x5, x6 => if x6 ≤ (x0.size : Int) then (if 0 ≤ x6 then ((spec_l02Lyndon.f k (x0.extract 0 (x6 : Int).toNat)).bind fun t767 => (if t767 = true then (spec_LyndonParts.l1 k x0 x4 x6 (wrap64 (x6 + 1))) else (spec_LyndonParts.l1 k x0 x4 x5 (wrap64 (x6 + 1))))) else (none)) else (if 0 ≤ x5 then (if x5 ≤ (x0.size : Int) then (if x4.length < 8796093022208 then (spec_LyndonParts.l0 k (x0.extract (x5 : Int).toNat x0.size) (x4 ++ [x0.extract 0 (x5 : Int).toNat])) else (none)) else (none)) else (none))
end
def spec_LyndonParts.f (k : Nat) (a0 : ByteArray) : Option (List ByteArray × Int) := (spec_l01Is.f k a0).bind fun t763 => (if t763 = true then (spec_LyndonParts.l0 k a0 (([] : List ByteArray))) else (some (([] : List ByteArray), 1)))
set_option maxHeartbeats 8000000 in
set_option maxRecDepth 100000 in
theorem spec_LyndonParts.calls (k : Nat) (a0 : ByteArray) (r1 : List ByteArray) (r2 : Int) (w : World) (h : spec_LyndonParts.f k a0 = some (r1, r2)) :
  Calls Try.prog 52 #[.string a0] w fun e w' => ∃ v0_ : Value, e = .returned (.tuple #[v0_, .int .i64 r2]) ∧ Kd.R Kd.string 9 w' w.heap.size (fun _ => True) v0_ r1 ∧ Below w.heap.size w w' := by
 have HB := Aside0.mk (Below.refl w.heap.size w)
 have H : ((spec_l01Is.f k a0).bind fun t763 => (if t763 = true then (spec_LyndonParts.l0 k a0 (([] : List ByteArray))) else (some (([] : List ByteArray), 1)))) = some (r1, r2) := h
 clear h
 replace H := Option.bind_eq_some_iff.mp H
 obtain ⟨t763, A20, H⟩ := H
 replace H : (if t763 = true then (spec_LyndonParts.l0 k a0 (([] : List ByteArray))) else (some (([] : List ByteArray), 1))) = some (r1, r2) := H
 have A2 := Aside0.mk A20
 clear A20
 by_cases c3 : t763 = true
 ·subst c3
  have H1 : (spec_LyndonParts.l0 k a0 (([] : List ByteArray))) = some (r1, r2) := by rw [if_pos rfl] at H; exact H
  clear H
  have H := H1
  clear H1
  obtain ⟨y764, hy764⟩ : ∃ y_ : List ByteArray, y_ = (([] : List ByteArray)) := ⟨_, rfl⟩
  replace H : (spec_LyndonParts.l0 k a0 y764) = some (r1, r2) := by first | (rw [hy764]; with_reducible exact H) | (have H2_ := (Option.bind_some _ _).symm.trans H; rw [hy764]; with_reducible exact H2_) | (have H2_ := (Option.bind_some _ _).symm.trans H; with_reducible exact H2_) | with_reducible exact H | (rw [hy764]; exact H) | exact H
  have Ny764 := Aside0.mk hy764
  clear hy764
  have H' := Aside0.mk H
  clear H
  go_enter Try.func52, Try.ntmps52
  go_wp2_with (first | ((with_reducible refine gate_callee (f := 72) rfl ?_); refine goesL_ (some 8) rfl rfl Try.func72 (by kernel_rfl) rfl #[.string a0] rfl (by (try simp only [List.map_toArray, List.map_cons, List.map_nil]); first | done | rfl | (simp only [List.length_drop, List.length_take]; rfl)) ?_; (with_reducible refine (spec_l01Is.calls k a0 true _ A2.out).mono ?_); rintro e w' ⟨rfl, ⟨nd, rfl⟩⟩; refine ⟨_, rfl, ?_⟩) | ((with_reducible refine gate_dst (N := 10) rfl ?_); refine Kd.R_lit Kd.string _ 9 ?hg (N := 10) ?hd (xs := ([] : List ByteArray)) (inner := []) (ok := fun _ => True) (okp := fun _ => True) ?hr ?hp (fun _ hk => hk) trivial (Below.refl _ _) (Nat.le_refl _) (by simp) ?_; (case hd => rfl); (case hg => rfl); (case hr => first | (go_simp; done) | (go_simp; rfl)); (case hp => exact (Reps.none _ _)); intro v765 w4 ho5 hb hg_ hnew_; clear hg_ hnew_; (first | rw [← Ny764.out] at ho5 | (simp only [Int.reduceToNat] at ho5; rw [← Ny764.out] at ho5)); have n0_ := Aside0.mk (Kd.R_lower ho5 (below_size (by repeat (first | (with_reducible first | exact HB.out | apply below_alloc | apply pw_below_drewN | apply below_drew1) | exact HB.out)))); have n1_ := Aside0.mk (below_step (by repeat (first | (with_reducible first | exact HB.out | apply below_alloc | apply pw_below_drewN | apply below_drew1) | exact HB.out)) hb); clear HB; have HO766 := n0_; have HB := n1_; clear n0_ n1_; clear hb ho5))
  go_loopg [0, 4] k (fun kq v0 v4 w' => ∃ (x0_1 : ByteArray) (x4_1 : List ByteArray), v0 = .string x0_1 ∧ Aside0 (spec_LyndonParts.l0 kq x0_1 x4_1 = some (r1, r2)) ∧ Aside0 (kq ≤ k) ∧ Aside0 (Kd.R Kd.string 9 w' w.heap.size (fun _ => True) v4 x4_1) ∧ Aside0 (Below w.heap.size w w'))
  case atStart => exact ⟨(a0), (y764), (by first | rfl | (simp; done) | (simp [*]; done)), H', ⟨Nat.le_refl _⟩, ⟨by (with_reducible repeat (first | apply Kd.R_alloc | apply Kd.R_drewN | apply Kd.R_drew)); exact HO766.out⟩, ⟨by repeat (first | (with_reducible first | exact HB.out | apply below_alloc | apply pw_below_drewN | apply below_drew1) | exact HB.out)⟩⟩
  case round =>
   clear H'
   try clear p2
   try clear c3
   try clear c5
   obtain ⟨x0_1, x4_1, rfl, HA, HK1, HO_4, HB⟩ := hrel
   cases gk with
   | zero => exact absurd HA.out (by simp [spec_LyndonParts.l0])
   | succ k1 =>
    have H := HA.out
    clear HA
    simp only [spec_LyndonParts.l0] at H
    by_cases c6 : (x0_1.size : Int) > 0
    ·rw [if_pos c6] at H
     have c6b0 : decide (0 < (x0_1.size : Int)) = true := decide_eq_true c6
     have c6b1 : decide (0 < x0_1.size) = true := decide_eq_true (by omega)
     clear c6
     have H' := Aside0.mk H
     clear H
     go_wp2
     go_loopg [5, 6] k1 (fun kq v5 v6 w' => ∃ (x5_2 : Int) (x6_2 : Int), v5 = .int .i64 x5_2 ∧ v6 = .int .i64 x6_2 ∧ Aside0 (spec_LyndonParts.l1 kq x0_1 x4_1 x5_2 x6_2 = some (r1, r2)) ∧ Aside0 (kq ≤ k1) ∧ Aside0 (Kd.R Kd.string 9 w' w.heap.size (fun _ => True) u4 x4_1) ∧ Aside0 (Below w.heap.size w w'))
     case atStart => exact ⟨(1), (2), (by first | rfl | (simp; done) | (simp [*]; done)), (by first | rfl | (simp; done) | (simp [*]; done)), H', ⟨Nat.le_refl _⟩, ⟨by (with_reducible repeat (first | apply Kd.R_alloc | apply Kd.R_drewN | apply Kd.R_drew)); exact HO_4.out⟩, ⟨by repeat (first | (with_reducible first | exact HB.out | apply below_alloc | apply pw_below_drewN | apply below_drew1) | exact HB.out)⟩⟩
     case round =>
      clear H'
      try clear p2
      try clear c3
      try clear c5
      try clear c6
      try clear c6b0
      try clear c6b1
      try clear p2
      obtain ⟨x5_2, x6_2, rfl, rfl, HA, HK2, HO_4, HB⟩ := hrel
      cases gk with
      | zero => exact absurd HA.out (by simp [spec_LyndonParts.l1])
      | succ k2 =>
       have H := HA.out
       clear HA
       simp only [spec_LyndonParts.l1] at H
       by_cases c7 : x6_2 ≤ (x0_1.size : Int)
       ·rw [if_pos c7] at H
        have c7b0 : decide (x6_2 ≤ (x0_1.size : Int)) = true := decide_eq_true c7
        clear c7
        by_cases c8 : 0 ≤ x6_2
        ·rw [if_pos c8] at H
         have c8b0 := eq_true c8
         have c8b1 : decide (0 ≤ x6_2) = true := decide_eq_true c8
         clear c8
         have c9b0 := eq_true (of_decide_eq_true (by first | (with_reducible assumption) | assumption) : x6_2 ≤ (x0_1.size : Int))
         replace H := Option.bind_eq_some_iff.mp H
         obtain ⟨t767, A100, H⟩ := H
         replace H : (if t767 = true then (spec_LyndonParts.l1 k2 x0_1 x4_1 x6_2 (wrap64 (x6_2 + 1))) else (spec_LyndonParts.l1 k2 x0_1 x4_1 x5_2 (wrap64 (x6_2 + 1)))) = some (r1, r2) := H
         have A10 := Aside0.mk A100
         clear A100
         by_cases c11 : t767 = true
         ·subst c11
          have H1 : (spec_LyndonParts.l1 k2 x0_1 x4_1 x6_2 (wrap64 (x6_2 + 1))) = some (r1, r2) := by rw [if_pos rfl] at H; exact H
          clear H
          have H := H1
          clear H1
          have H' := Aside0.mk H
          clear H
          go_wp2_with (first | ((with_reducible refine gate_callee (f := 113) rfl ?_); refine goesL_ (some 23) rfl rfl Try.func113 (by kernel_rfl) rfl #[.string (x0_1.extract 0 (x6_2 : Int).toNat)] rfl (by (try simp only [List.map_toArray, List.map_cons, List.map_nil]); first | done | rfl | (simp only [List.length_drop, List.length_take]; rfl)) ?_; (with_reducible refine (spec_l02Lyndon.calls k2 (x0_1.extract 0 (x6_2 : Int).toNat) true _ A10.out).mono ?_); rintro e w' ⟨rfl, ⟨nd, rfl⟩⟩; refine ⟨_, rfl, ?_⟩))
          go_roundg k2
          case measure => have := HK1.out; have := HK2.out; omega
          case rel => exact ⟨(x6_2), (wrap64 (x6_2 + 1)), (by first | rfl | (simp; done) | (simp [*]; done)), (by first | rfl | (simp; done) | (simp [*]; done)), H', ⟨by have := HK1.out; have := HK2.out; omega⟩, ⟨by (with_reducible repeat (first | apply Kd.R_alloc | apply Kd.R_drewN | apply Kd.R_drew)); exact HO_4.out⟩, ⟨by repeat (first | (with_reducible first | exact HB.out | apply below_alloc | apply pw_below_drewN | apply below_drew1) | exact HB.out)⟩⟩
         ·replace c11 := Bool.eq_false_iff.mpr c11
          subst c11
          have H1 : (spec_LyndonParts.l1 k2 x0_1 x4_1 x5_2 (wrap64 (x6_2 + 1))) = some (r1, r2) := by rw [if_neg (show ¬ (false = true) by decide)] at H; exact H
          clear H
          have H := H1
          clear H1
          have H' := Aside0.mk H
          clear H
          go_wp2_with (first | ((with_reducible refine gate_callee (f := 113) rfl ?_); refine goesL_ (some 23) rfl rfl Try.func113 (by kernel_rfl) rfl #[.string (x0_1.extract 0 (x6_2 : Int).toNat)] rfl (by (try simp only [List.map_toArray, List.map_cons, List.map_nil]); first | done | rfl | (simp only [List.length_drop, List.length_take]; rfl)) ?_; (with_reducible refine (spec_l02Lyndon.calls k2 (x0_1.extract 0 (x6_2 : Int).toNat) false _ A10.out).mono ?_); rintro e w' ⟨rfl, ⟨nd, rfl⟩⟩; refine ⟨_, rfl, ?_⟩))
          go_roundg k2
          case measure => have := HK1.out; have := HK2.out; omega
          case rel => exact ⟨(x5_2), (wrap64 (x6_2 + 1)), (by first | rfl | (simp; done) | (simp [*]; done)), (by first | rfl | (simp; done) | (simp [*]; done)), H', ⟨by have := HK1.out; have := HK2.out; omega⟩, ⟨by (with_reducible repeat (first | apply Kd.R_alloc | apply Kd.R_drewN | apply Kd.R_drew)); exact HO_4.out⟩, ⟨by repeat (first | (with_reducible first | exact HB.out | apply below_alloc | apply pw_below_drewN | apply below_drew1) | exact HB.out)⟩⟩
        ·rw [if_neg c8] at H
         exact absurd H (by simp)
       ·rw [if_neg c7] at H
        have c7b0 : decide (x6_2 ≤ (x0_1.size : Int)) = false := decide_eq_false c7
        clear c7
        by_cases c12 : 0 ≤ x5_2
        ·rw [if_pos c12] at H
         have c12b0 := eq_true c12
         have c12b1 : decide (0 ≤ x5_2) = true := decide_eq_true c12
         clear c12
         by_cases c13 : x5_2 ≤ (x0_1.size : Int)
         ·rw [if_pos c13] at H
          have c13b0 := eq_true c13
          have c13b1 : decide (x5_2 ≤ (x0_1.size : Int)) = true := decide_eq_true c13
          clear c13
          by_cases c14 : x4_1.length < 8796093022208
          ·rw [if_pos c14] at H
           have LMc14 := Aside0.mk c14
           clear c14
           obtain ⟨y768, hy768⟩ : ∃ y_ : List ByteArray, y_ = (x4_1 ++ [x0_1.extract 0 (x5_2 : Int).toNat]) := ⟨_, rfl⟩
           replace H : (spec_LyndonParts.l0 k2 (x0_1.extract (x5_2 : Int).toNat x0_1.size) y768) = some (r1, r2) := by first | (rw [hy768]; with_reducible exact H) | (have H2_ := (Option.bind_some _ _).symm.trans H; rw [hy768]; with_reducible exact H2_) | (have H2_ := (Option.bind_some _ _).symm.trans H; with_reducible exact H2_) | with_reducible exact H | (rw [hy768]; exact H) | exact H
           have Ny768 := Aside0.mk hy768
           clear hy768
           have c15b0 := eq_true (of_decide_eq_true (by first | (with_reducible assumption) | assumption) : 0 ≤ x5_2)
           have c16b0 := eq_true (of_decide_eq_true (by first | (with_reducible assumption) | assumption) : x5_2 ≤ (x0_1.size : Int))
           have H' := Aside0.mk H
           clear H
           go_wp2_with (first | ((with_reducible refine gate_builtin (b := .append) (xs := #[.tmp 25, .tmp 29]) rfl ?_); at_builtin; refine Kd.R_append Kd.string (w0 := w) w.heap.size rfl (.tmp 25) (.tmp 29) 46 9 (.string ⟨#[]⟩) 16 rfl Try.underlying46 info9 rfl (by decide) (by omega) u4 x4_1 (x0_1.extract 0 (x5_2 : Int).toNat) [.string (x0_1.extract 0 (x5_2 : Int).toNat)] (fun _ => True) (fun _ => False) rfl rfl ?aP (fun _ hk => hk.elim) ?aF ?aO ?aB ?aS ?aL ?_; (case aP => exact rfl); (case aB => exact (by repeat (first | (with_reducible first | exact HB.out | apply below_alloc | apply pw_below_drewN | apply below_drew1) | exact HB.out))); (case aF => exact (fun _ _ => trivial)); (case aO => exact (by (with_reducible repeat (first | apply Kd.R_alloc | apply Kd.R_drewN | apply Kd.R_drew)); exact HO_4.out)); (case aS => exact (below_size (by repeat (first | (with_reducible first | exact HB.out | apply below_alloc | apply pw_below_drewN | apply below_drew1) | exact HB.out)))); (case aL => have := LMc14.out; omega); intro v769 w17 ho hb hg hat; rw [← Ny768.out] at ho; have n0_ := Aside0.mk (hb); have n1_ := Aside0.mk (ho); clear HB; clear HO_4; have HB := n0_; have HO770 := n1_; clear n0_ n1_; clear ho hb hg hat))
           go_roundg k2
           case measure => have := HK1.out; have := HK2.out; omega
           case rel => exact ⟨(x0_1.extract (x5_2 : Int).toNat x0_1.size), (y768), (by first | rfl | (simp; done) | (simp [*]; done)), H', ⟨by have := HK1.out; have := HK2.out; omega⟩, ⟨by (with_reducible repeat (first | apply Kd.R_alloc | apply Kd.R_drewN | apply Kd.R_drew)); exact HO770.out⟩, ⟨by repeat (first | (with_reducible first | exact HB.out | apply below_alloc | apply pw_below_drewN | apply below_drew1) | exact HB.out)⟩⟩
          ·rw [if_neg c14] at H
           exact absurd H (by simp)
         ·rw [if_neg c13] at H
          exact absurd H (by simp)
        ·rw [if_neg c12] at H
         exact absurd H (by simp)
    ·rw [if_neg c6] at H
     have c6b0 : decide (0 < (x0_1.size : Int)) = false := decide_eq_false c6
     have c6b1 : decide (0 < x0_1.size) = false := decide_eq_false (by omega)
     clear c6
     simp only [Option.some.injEq, Prod.mk.injEq] at H
     obtain ⟨rfl, rfl⟩ := H
     go_wp2
     go_ret2
     exact ⟨_, by first | rfl | (simp [errW_none, errW_some] <;> rfl) | (simp [*, errW_none, errW_some] <;> rfl), by (with_reducible repeat (first | apply Kd.R_alloc | apply Kd.R_drewN | apply Kd.R_drew)); exact HO_4.out, by repeat (first | (with_reducible first | exact HB.out | apply below_alloc | apply pw_below_drewN | apply below_drew1) | exact HB.out)⟩
 ·replace c3 := Bool.eq_false_iff.mpr c3
  subst c3
  have H1 : (some (([] : List ByteArray), 1)) = some (r1, r2) := by rw [if_neg (show ¬ (false = true) by decide)] at H; exact H
  clear H
  have H := H1
  clear H1
  simp only [Option.some.injEq, Prod.mk.injEq] at H
  obtain ⟨rfl, rfl⟩ := H
  go_enter Try.func52, Try.ntmps52
  go_wp2_with (first | ((with_reducible refine gate_callee (f := 72) rfl ?_); refine goesL_ (some 8) rfl rfl Try.func72 (by kernel_rfl) rfl #[.string a0] rfl (by (try simp only [List.map_toArray, List.map_cons, List.map_nil]); first | done | rfl | (simp only [List.length_drop, List.length_take]; rfl)) ?_; (with_reducible refine (spec_l01Is.calls k a0 false _ A2.out).mono ?_); rintro e w' ⟨rfl, ⟨nd, rfl⟩⟩; refine ⟨_, rfl, ?_⟩))
  go_ret2
  exact ⟨_, by first | rfl | (simp [errW_none, errW_some] <;> rfl) | (simp [*, errW_none, errW_some] <;> rfl), by first | exact Kd.R_nil _ _ _ _ _ | exact Kd.N_nil _ _ _ _ _ | exact Kd.V_nil _ _ _ _ _ | exact Kd.Q_nil _ _ _ _ _ | exact Kd.S_nil _ _ _ _ _, by repeat (first | (with_reducible first | exact HB.out | apply below_alloc | apply pw_below_drewN | apply below_drew1) | exact HB.out)⟩

end Go.Proofs.Ytmihfmhfgjnfcab.Q

namespace Go.Proofs.Ytmihfmhfgjnfcab.Q
open Go.RowKit Go.Proofs.YtmihfmhfgjnfcabW.PrintWords Go.Proofs.YtmihfmhfgjnfcabW.PrintLast Go.Proofs.YtmihfmhfgjnfcabW.PrintMore
attribute [local go_sem] max2_int min2_int max_two min_two max_three min_three max_four min_four bn_leq bn_gtr bn_geq   -- for this text's walks alone
set_option linter.unusedVariables false
set_option linter.unusedSimpArgs false

/-! ### laws_words9: function 53 -/
def laws_words9.l0 : Nat → List ByteArray → List ByteArray → Int → Option (Bool)
 | 0, _, _, _ => none
 | k + 1, x0, x1, x5 => if x5 < (x0.length : Int) then (if 0 ≤ x5 then (if x5 < (x1.length : Int) then (if (rdOf ByteArray.empty x0 x5).toList = (rdOf ByteArray.empty x1 x5).toList then (laws_words9.l0 k x0 x1 (wrap64 (x5 + 1))) else (some false)) else (none)) else (none)) else (some true)
def laws_words9.f (k : Nat) (l0 : List ByteArray) (l1 : List ByteArray) : Option (Bool) := if (l0.length : Int) = (l1.length : Int) then (laws_words9.l0 k l0 l1 0) else (some false)
set_option maxHeartbeats 8000000 in
set_option maxRecDepth 100000 in
theorem laws_words9.calls (k : Nat) (A0 : Option Addr) (c0 : Nat) (l0 : List ByteArray) (A1 : Option Addr) (c1 : Nat) (l1 : List ByteArray) (r : Bool) (w : World) (hr0 : Kd.C Kd.string w A0 l0.length l0) (hc0 : l0.length ≤ c0) (hr1 : Kd.C Kd.string w A1 l1.length l1) (hc1 : l1.length ≤ c1) (h : laws_words9.f k l0 l1 = some r) :
  Calls Try.prog 53 #[.slice A0 l0.length c0, .slice A1 l1.length c1] w fun e w' => e = .returned (.bool r) ∧ Drawn0 w w' := by
 have HR0 := Aside0.mk hr0
 have HC0 := Aside0.mk hc0
 clear hr0 hc0
 have HR1 := Aside0.mk hr1
 have HC1 := Aside0.mk hc1
 clear hr1 hc1
 have H : (if (l0.length : Int) = (l1.length : Int) then (laws_words9.l0 k l0 l1 0) else (some false)) = some r := h
 clear h
 by_cases c3 : (l0.length : Int) = (l1.length : Int)
 ·rw [if_pos c3] at H
  have c3b0 : ((l0.length : Int) == (l1.length : Int)) = true := beq_iff_eq.mpr c3
  have c3b1 : ((l0.length : Int) != (l1.length : Int)) = false := bne_eq_false_iff_eq.mpr c3
  have c3b2 : (l0.length == l1.length) = true := by first | simpa using c3 | (simp at c3 ⊢; omega)
  clear c3
  have H' := Aside0.mk H
  clear H
  go_enter Try.func53, Try.ntmps53
  go_wp2
  repeat (go_quiet (fail); try go_wp2)
  go_loopg [5] k (fun kq v5 w' => ∃ (x5_1 : Int), v5 = .int .i64 x5_1 ∧ Aside0 (laws_words9.l0 kq l0 l1 x5_1 = some r) ∧ Aside0 (kq ≤ k) ∧ Drawn0 w w')
  case atStart => exact ⟨(0), (by first | rfl | (simp; done) | (simp [*]; done)), H', ⟨Nat.le_refl _⟩, by repeat (first | exact Drawn0.refl _ | apply Drawn0.step)⟩
  case round =>
   clear H'
   try clear c1
   try clear p2
   try clear c3
   try clear c3b0
   try clear c3b1
   try clear c3b2
   obtain ⟨x5_1, rfl, HA, HK1, ⟨m1, rfl⟩⟩ := hrel
   cases gk with
   | zero => exact absurd HA.out (by simp [laws_words9.l0])
   | succ k1 =>
    have H := HA.out
    clear HA
    simp only [laws_words9.l0] at H
    by_cases c4 : x5_1 < (l0.length : Int)
    ·rw [if_pos c4] at H
     have c4b0 : decide (x5_1 < (l0.length : Int)) = true := decide_eq_true c4
     clear c4
     by_cases c5 : 0 ≤ x5_1
     ·rw [if_pos c5] at H
      have c5b0 : decide (0 ≤ x5_1) = true := decide_eq_true c5
      clear c5
      by_cases c6 : x5_1 < (l1.length : Int)
      ·rw [if_pos c6] at H
       have c6b0 : decide (x5_1 < (l1.length : Int)) = true := decide_eq_true c6
       clear c6
       by_cases c7 : (rdOf ByteArray.empty l0 x5_1).toList = (rdOf ByteArray.empty l1 x5_1).toList
       ·rw [if_pos c7] at H
        have c7b0 : ((rdOf ByteArray.empty l0 x5_1).toList == (rdOf ByteArray.empty l1 x5_1).toList) = true := beq_iff_eq.mpr c7
        have c7b1 : ((rdOf ByteArray.empty l0 x5_1).toList != (rdOf ByteArray.empty l1 x5_1).toList) = false := bne_eq_false_iff_eq.mpr c7
        clear c7
        have H' := Aside0.mk H
        clear H
        have p771 : 0 ≤ (x5_1 : Int) := of_decide_eq_true (by first | (with_reducible assumption) | assumption)
        have q771 : x5_1 < (l0.length : Int) := of_decide_eq_true (by first | (with_reducible assumption) | assumption)
        obtain ⟨ad771, e771, hx771_0⟩ := Kd.at_string HR0.out x5_1 p771 q771
        cases e771
        replace p771 := eq_true p771
        replace q771 := eq_true q771
        have p772 : 0 ≤ (x5_1 : Int) := of_decide_eq_true (by first | (with_reducible assumption) | assumption)
        have q772 : x5_1 < (l1.length : Int) := of_decide_eq_true (by first | (with_reducible assumption) | assumption)
        obtain ⟨ad772, e772, hx772_0⟩ := Kd.at_string HR1.out x5_1 p772 q772
        cases e772
        replace p772 := eq_true p772
        replace q772 := eq_true q772
        go_wp2
        repeat (go_quiet (fail); try go_wp2)
        go_roundg k1
        case measure => have := HK1.out; omega
        case rel => exact ⟨(wrap64 (x5_1 + 1)), (by first | rfl | (simp; done) | (simp [*]; done)), H', ⟨by have := HK1.out; omega⟩, by repeat (first | exact Drawn0.refl _ | apply Drawn0.step)⟩
       ·rw [if_neg c7] at H
        have c7b0 : ((rdOf ByteArray.empty l0 x5_1).toList == (rdOf ByteArray.empty l1 x5_1).toList) = false := beq_eq_false_iff_ne.mpr c7
        have c7b1 : ((rdOf ByteArray.empty l0 x5_1).toList != (rdOf ByteArray.empty l1 x5_1).toList) = true := bne_iff_ne.mpr c7
        obtain rfl := Option.some.inj H
        have p771 : 0 ≤ (x5_1 : Int) := of_decide_eq_true (by first | (with_reducible assumption) | assumption)
        have q771 : x5_1 < (l0.length : Int) := of_decide_eq_true (by first | (with_reducible assumption) | assumption)
        obtain ⟨ad771, e771, hx771_0⟩ := Kd.at_string HR0.out x5_1 p771 q771
        cases e771
        replace p771 := eq_true p771
        replace q771 := eq_true q771
        have p772 : 0 ≤ (x5_1 : Int) := of_decide_eq_true (by first | (with_reducible assumption) | assumption)
        have q772 : x5_1 < (l1.length : Int) := of_decide_eq_true (by first | (with_reducible assumption) | assumption)
        obtain ⟨ad772, e772, hx772_0⟩ := Kd.at_string HR1.out x5_1 p772 q772
        cases e772
        replace p772 := eq_true p772
        replace q772 := eq_true q772
        go_wp2
        repeat (go_quiet (fail); try go_wp2)
        go_ret
        exact ⟨by first | rfl | (simp; done) | (simp [*]; done), by repeat (first | exact Drawn0.refl _ | apply Drawn0.step)⟩
      ·rw [if_neg c6] at H
       exact absurd H (by simp)
     ·rw [if_neg c5] at H
      exact absurd H (by simp)
    ·rw [if_neg c4] at H
     have c4b0 : decide (x5_1 < (l0.length : Int)) = false := decide_eq_false c4
     clear c4
     obtain rfl := Option.some.inj H
     go_wp2
     repeat (go_quiet (fail); try go_wp2)
     go_ret
     exact ⟨by first | rfl | (simp; done) | (simp [*]; done), by repeat (first | exact Drawn0.refl _ | apply Drawn0.step)⟩
 ·rw [if_neg c3] at H
  have c3b0 : ((l0.length : Int) == (l1.length : Int)) = false := beq_eq_false_iff_ne.mpr c3
  have c3b1 : ((l0.length : Int) != (l1.length : Int)) = true := bne_iff_ne.mpr c3
  have c3b2 : (l0.length == l1.length) = false := by first | simpa using c3 | (simp at c3 ⊢; omega)
  obtain rfl := Option.some.inj H
  go_enter Try.func53, Try.ntmps53
  go_wp2
  repeat (go_quiet (fail); try go_wp2)
  go_ret
  exact ⟨by first | rfl | (simp; done) | (simp [*]; done), by repeat (first | exact Drawn0.refl _ | apply Drawn0.step)⟩

end Go.Proofs.Ytmihfmhfgjnfcab.Q

namespace Go.Proofs.Ytmihfmhfgjnfcab.Q
open Go.RowKit Go.Proofs.YtmihfmhfgjnfcabW.PrintWords Go.Proofs.YtmihfmhfgjnfcabW.PrintLast Go.Proofs.YtmihfmhfgjnfcabW.PrintMore
attribute [local go_sem] max2_int min2_int max_two min_two max_three min_three max_four min_four bn_leq bn_gtr bn_geq   -- for this text's walks alone
set_option linter.unusedVariables false
set_option linter.unusedSimpArgs false

/-! ### spec_l01Turned: function 120 -/
def spec_l01Turned.f (a0 : ByteArray) (a1 : Int) : Option (ByteArray) := if 0 ≤ a1 then (if a1 ≤ (a0.size : Int) then (if (a0.extract (a1 : Int).toNat a0.size).size + (a0.extract 0 (a1 : Int).toNat).size ≤ 9223372036854775807 then (some ((a0.extract (a1 : Int).toNat a0.size) ++ (a0.extract 0 (a1 : Int).toNat))) else (none)) else (none)) else (none)
set_option maxHeartbeats 8000000 in
set_option maxRecDepth 100000 in
theorem spec_l01Turned.calls (a0 : ByteArray) (a1 : Int) (r : ByteArray) (w : World) (h : spec_l01Turned.f a0 a1 = some r) :
  Calls Try.prog 120 #[.string a0, .int .i64 a1] w fun e w' => e = .returned (.string r) ∧ Drawn0 w w' := by
 have H : (if 0 ≤ a1 then (if a1 ≤ (a0.size : Int) then (if (a0.extract (a1 : Int).toNat a0.size).size + (a0.extract 0 (a1 : Int).toNat).size ≤ 9223372036854775807 then (some ((a0.extract (a1 : Int).toNat a0.size) ++ (a0.extract 0 (a1 : Int).toNat))) else (none)) else (none)) else (none)) = some r := h
 clear h
 by_cases c3 : 0 ≤ a1
 ·rw [if_pos c3] at H
  have c3b0 := eq_true c3
  have c3b1 : decide (0 ≤ a1) = true := decide_eq_true c3
  clear c3
  by_cases c4 : a1 ≤ (a0.size : Int)
  ·rw [if_pos c4] at H
   have c4b0 := eq_true c4
   have c4b1 : decide (a1 ≤ (a0.size : Int)) = true := decide_eq_true c4
   clear c4
   have c5b0 := eq_true (of_decide_eq_true (by first | (with_reducible assumption) | assumption) : 0 ≤ a1)
   have c6b0 := eq_true (of_decide_eq_true (by first | (with_reducible assumption) | assumption) : a1 ≤ (a0.size : Int))
   by_cases c7 : (a0.extract (a1 : Int).toNat a0.size).size + (a0.extract 0 (a1 : Int).toNat).size ≤ 9223372036854775807
   ·rw [if_pos c7] at H
    have c7b0 := eq_true c7
    have c7b1 : decide ((a0.extract (a1 : Int).toNat a0.size).size + (a0.extract 0 (a1 : Int).toNat).size ≤ 9223372036854775807) = true := decide_eq_true c7
    try have c7b2 : (9223372036854775807 < (a0.extract (a1 : Int).toNat a0.size).size + (a0.extract 0 (a1 : Int).toNat).size) = False := eq_false (Nat.not_lt.2 c7)
    obtain rfl := Option.some.inj H
    go_enter Try.func120, Try.ntmps120
    go_wp2
    repeat (go_quiet (fail); try go_wp2)
    go_ret
    exact ⟨by first | rfl | (simp; done) | (simp [*]; done), by repeat (first | exact Drawn0.refl _ | apply Drawn0.step)⟩
   ·rw [if_neg c7] at H
    exact absurd H (by simp)
  ·rw [if_neg c4] at H
   exact absurd H (by simp)
 ·rw [if_neg c3] at H
  exact absurd H (by simp)

end Go.Proofs.Ytmihfmhfgjnfcab.Q

namespace Go.Proofs.Ytmihfmhfgjnfcab.Q
open Go.RowKit Go.Proofs.YtmihfmhfgjnfcabW.PrintWords Go.Proofs.YtmihfmhfgjnfcabW.PrintLast Go.Proofs.YtmihfmhfgjnfcabW.PrintMore
attribute [local go_sem] max2_int min2_int max_two min_two max_three min_three max_four min_four bn_leq bn_gtr bn_geq   -- for this text's walks alone
set_option linter.unusedVariables false
set_option linter.unusedSimpArgs false

/-! ### spec_l02Least: function 79 -/
def spec_l02Least.l0 : Nat → ByteArray → ByteArray → Int → Int → Option (ByteArray × Int)
 | 0, _, _, _, _ => none
 | k + 1, x0, x4, x5, x6 => if x6 < (x0.size : Int) then ((spec_l01Turned.f x0 x6).bind fun t348 => (if (Op.bytesLess t348.toList x4.toList) = true then (spec_l02Least.l0 k x0 t348 x6 (wrap64 (x6 + 1))) else (spec_l02Least.l0 k x0 x4 x5 (wrap64 (x6 + 1))))) else (some (x4, x5))
def spec_l02Least.f (k : Nat) (a0 : ByteArray) : Option (ByteArray × Int) := spec_l02Least.l0 k a0 a0 0 1
set_option maxHeartbeats 8000000 in
set_option maxRecDepth 100000 in
theorem spec_l02Least.calls (k : Nat) (a0 : ByteArray) (r1 : ByteArray) (r2 : Int) (w : World) (h : spec_l02Least.f k a0 = some (r1, r2)) :
  Calls Try.prog 79 #[.string a0] w fun e w' => e = .returned (.tuple #[.string r1, .int .i64 r2]) ∧ Drawn0 w w' := by
 have H : (spec_l02Least.l0 k a0 a0 0 1) = some (r1, r2) := h
 clear h
 have H' := Aside0.mk H
 clear H
 go_enter Try.func79, Try.ntmps79
 go_wp2
 go_loopg [4, 5, 6] k (fun kq v4 v5 v6 w' => ∃ (x4_1 : ByteArray) (x5_1 : Int) (x6_1 : Int), v4 = .string x4_1 ∧ v5 = .int .i64 x5_1 ∧ v6 = .int .i64 x6_1 ∧ Aside0 (spec_l02Least.l0 kq a0 x4_1 x5_1 x6_1 = some (r1, r2)) ∧ Aside0 (kq ≤ k) ∧ Drawn0 w w')
 case atStart => exact ⟨(a0), (0), (1), (by first | rfl | (simp; done) | (simp [*]; done)), (by first | rfl | (simp; done) | (simp [*]; done)), (by first | rfl | (simp; done) | (simp [*]; done)), H', ⟨Nat.le_refl _⟩, by repeat (first | exact Drawn0.refl _ | apply Drawn0.step)⟩
 case round =>
  clear H'
  obtain ⟨x4_1, x5_1, x6_1, rfl, rfl, rfl, HA, HK1, ⟨m1, rfl⟩⟩ := hrel
  cases gk with
  | zero => exact absurd HA.out (by simp [spec_l02Least.l0])
  | succ k1 =>
   have H := HA.out
   clear HA
   simp only [spec_l02Least.l0] at H
   by_cases c2 : x6_1 < (a0.size : Int)
   ·rw [if_pos c2] at H
    have c2b0 : decide (x6_1 < (a0.size : Int)) = true := decide_eq_true c2
    clear c2
    replace H := Option.bind_eq_some_iff.mp H
    obtain ⟨t348, A30, H⟩ := H
    replace H : (if (Op.bytesLess t348.toList x4_1.toList) = true then (spec_l02Least.l0 k1 a0 t348 x6_1 (wrap64 (x6_1 + 1))) else (spec_l02Least.l0 k1 a0 x4_1 x5_1 (wrap64 (x6_1 + 1)))) = some (r1, r2) := H
    have A3 := Aside0.mk A30
    clear A30
    by_cases c4 : (Op.bytesLess t348.toList x4_1.toList) = true
    ·rw [if_pos c4] at H
     have c4b0 : (Op.bytesLess t348.toList x4_1.toList) = true := c4
     clear c4
     have H' := Aside0.mk H
     clear H
     go_wp2_with (first | ((with_reducible refine gate_callee (f := 120) rfl ?_); refine goesL_ (some 17) rfl rfl Try.func120 (by kernel_rfl) rfl #[.string a0, .int .i64 x6_1] rfl (by (try simp only [List.map_toArray, List.map_cons, List.map_nil]); first | done | rfl | (simp only [List.length_drop, List.length_take]; rfl)) ?_; (with_reducible refine (spec_l01Turned.calls a0 x6_1 t348 _ A3.out).mono ?_); rintro e w' ⟨rfl, ⟨nd, rfl⟩⟩; refine ⟨_, rfl, ?_⟩))
     go_roundg k1
     case measure => have := HK1.out; omega
     case rel => exact ⟨(t348), (x6_1), (wrap64 (x6_1 + 1)), (by first | rfl | (simp; done) | (simp [*]; done)), (by first | rfl | (simp; done) | (simp [*]; done)), (by first | rfl | (simp; done) | (simp [*]; done)), H', ⟨by have := HK1.out; omega⟩, by repeat (first | exact Drawn0.refl _ | apply Drawn0.step)⟩
    ·rw [if_neg c4] at H
     have c4b0 : (Op.bytesLess t348.toList x4_1.toList) = false := by simpa using c4
     clear c4
     have H' := Aside0.mk H
     clear H
     go_wp2_with (first | ((with_reducible refine gate_callee (f := 120) rfl ?_); refine goesL_ (some 17) rfl rfl Try.func120 (by kernel_rfl) rfl #[.string a0, .int .i64 x6_1] rfl (by (try simp only [List.map_toArray, List.map_cons, List.map_nil]); first | done | rfl | (simp only [List.length_drop, List.length_take]; rfl)) ?_; (with_reducible refine (spec_l01Turned.calls a0 x6_1 t348 _ A3.out).mono ?_); rintro e w' ⟨rfl, ⟨nd, rfl⟩⟩; refine ⟨_, rfl, ?_⟩))
     go_roundg k1
     case measure => have := HK1.out; omega
     case rel => exact ⟨(x4_1), (x5_1), (wrap64 (x6_1 + 1)), (by first | rfl | (simp; done) | (simp [*]; done)), (by first | rfl | (simp; done) | (simp [*]; done)), (by first | rfl | (simp; done) | (simp [*]; done)), H', ⟨by have := HK1.out; omega⟩, by repeat (first | exact Drawn0.refl _ | apply Drawn0.step)⟩
   ·rw [if_neg c2] at H
    have c2b0 : decide (x6_1 < (a0.size : Int)) = false := decide_eq_false c2
    clear c2
    simp only [Option.some.injEq, Prod.mk.injEq] at H
    obtain ⟨rfl, rfl⟩ := H
    go_wp2
    go_ret2
    exact ⟨by first | rfl | (simp; done) | (simp [*]; done), by repeat (first | exact Drawn0.refl _ | apply Drawn0.step)⟩

end Go.Proofs.Ytmihfmhfgjnfcab.Q

namespace Go.Proofs.Ytmihfmhfgjnfcab.Q
open Go.RowKit Go.Proofs.YtmihfmhfgjnfcabW.PrintWords Go.Proofs.YtmihfmhfgjnfcabW.PrintLast Go.Proofs.YtmihfmhfgjnfcabW.PrintMore
attribute [local go_sem] max2_int min2_int max_two min_two max_three min_three max_four min_four bn_leq bn_gtr bn_geq   -- for this text's walks alone
set_option linter.unusedVariables false
set_option linter.unusedSimpArgs false

/-! ### spec_DrawIsLyndon: function 54 -/
def spec_DrawIsLyndon.f (k : Nat) (l0 : List Int) : Option (ByteArray) := (spec_l01From.f k l0).bind fun bt773 => ((spec_l01Next.f bt773.1 bt773.2.1 bt773.2.2 2).bind fun bt777 => (if bt777.1 = 0 then ((spec_l01Next.f bt773.1 bt777.2.1 bt777.2.2 12).bind fun bt780 => ((spec_l01Pick.f bt773.1 bt780.2.1 bt780.2.2 (([2, 3] : List Int))).bind fun bt786 => ((spec_l01DrawOf.f k bt773.1 bt786.2.1 bt786.2.2 (wrap64 (1 + bt780.1)) bt786.1).bind fun bt789 => ((spec_l02Least.f k bt789.1).bind fun bt792 => ((spec_l01Bad.f k bt773.1 bt789.2.1 bt789.2.2 bt792.1).bind fun bt794 => (some bt794.1)))))) else ((spec_l01Spoil.f k bt773.1 bt777.2.1 bt777.2.2).bind fun bt797 => (some bt797.1))))
set_option maxHeartbeats 8000000 in
set_option maxRecDepth 100000 in
theorem spec_DrawIsLyndon.calls (k : Nat) (A0 : Option Addr) (c0 : Nat) (l0 : List Int) (r : ByteArray) (w : World) (hr0 : Kd.C (Kd.int .u8) w A0 l0.length l0) (hc0 : l0.length ≤ c0) (h : spec_DrawIsLyndon.f k l0 = some r) :
  Calls Try.prog 54 #[.slice A0 l0.length c0] w fun e w' => e = .returned (.string r) ∧ Below w.heap.size w w' := by
 have HR0 := Aside0.mk hr0
 have HC0 := Aside0.mk hc0
 clear hr0 hc0
 have HB := Aside0.mk (Below.refl w.heap.size w)
 have H : ((spec_l01From.f k l0).bind fun bt773 => ((spec_l01Next.f bt773.1 bt773.2.1 bt773.2.2 2).bind fun bt777 => (if bt777.1 = 0 then ((spec_l01Next.f bt773.1 bt777.2.1 bt777.2.2 12).bind fun bt780 => ((spec_l01Pick.f bt773.1 bt780.2.1 bt780.2.2 (([2, 3] : List Int))).bind fun bt786 => ((spec_l01DrawOf.f k bt773.1 bt786.2.1 bt786.2.2 (wrap64 (1 + bt780.1)) bt786.1).bind fun bt789 => ((spec_l02Least.f k bt789.1).bind fun bt792 => ((spec_l01Bad.f k bt773.1 bt789.2.1 bt789.2.2 bt792.1).bind fun bt794 => (some bt794.1)))))) else ((spec_l01Spoil.f k bt773.1 bt777.2.1 bt777.2.2).bind fun bt797 => (some bt797.1))))) = some r := h
 clear h
 replace H := Option.bind_eq_some_iff.mp H
 obtain ⟨⟨t773, t774, t775⟩, A20, H⟩ := H
 replace H : ((spec_l01Next.f t773 t774 t775 2).bind fun bt777 => (if bt777.1 = 0 then ((spec_l01Next.f t773 bt777.2.1 bt777.2.2 12).bind fun bt780 => ((spec_l01Pick.f t773 bt780.2.1 bt780.2.2 (([2, 3] : List Int))).bind fun bt786 => ((spec_l01DrawOf.f k t773 bt786.2.1 bt786.2.2 (wrap64 (1 + bt780.1)) bt786.1).bind fun bt789 => ((spec_l02Least.f k bt789.1).bind fun bt792 => ((spec_l01Bad.f k t773 bt789.2.1 bt789.2.2 bt792.1).bind fun bt794 => (some bt794.1)))))) else ((spec_l01Spoil.f k t773 bt777.2.1 bt777.2.2).bind fun bt797 => (some bt797.1)))) = some r := H
 have A2 := Aside0.mk A20
 clear A20
 replace H := Option.bind_eq_some_iff.mp H
 obtain ⟨⟨t777, t778, t779⟩, A30, H⟩ := H
 replace H : (if t777 = 0 then ((spec_l01Next.f t773 t778 t779 12).bind fun bt780 => ((spec_l01Pick.f t773 bt780.2.1 bt780.2.2 (([2, 3] : List Int))).bind fun bt786 => ((spec_l01DrawOf.f k t773 bt786.2.1 bt786.2.2 (wrap64 (1 + bt780.1)) bt786.1).bind fun bt789 => ((spec_l02Least.f k bt789.1).bind fun bt792 => ((spec_l01Bad.f k t773 bt789.2.1 bt789.2.2 bt792.1).bind fun bt794 => (some bt794.1)))))) else ((spec_l01Spoil.f k t773 t778 t779).bind fun bt797 => (some bt797.1))) = some r := H
 have A3 := Aside0.mk A30
 clear A30
 by_cases c4 : t777 = 0
 ·rw [if_pos c4] at H
  have c4b0 : (t777 == 0) = true := beq_iff_eq.mpr c4
  have c4b1 : (t777 != 0) = false := bne_eq_false_iff_eq.mpr c4
  clear c4
  replace H := Option.bind_eq_some_iff.mp H
  obtain ⟨⟨t780, t781, t782⟩, A50, H⟩ := H
  replace H : ((spec_l01Pick.f t773 t781 t782 (([2, 3] : List Int))).bind fun bt786 => ((spec_l01DrawOf.f k t773 bt786.2.1 bt786.2.2 (wrap64 (1 + t780)) bt786.1).bind fun bt789 => ((spec_l02Least.f k bt789.1).bind fun bt792 => ((spec_l01Bad.f k t773 bt789.2.1 bt789.2.2 bt792.1).bind fun bt794 => (some bt794.1))))) = some r := H
  have A5 := Aside0.mk A50
  clear A50
  obtain ⟨y783, hy783⟩ : ∃ y_ : List Int, y_ = (([2, 3] : List Int)) := ⟨_, rfl⟩
  replace H : ((spec_l01Pick.f t773 t781 t782 y783).bind fun bt786 => ((spec_l01DrawOf.f k t773 bt786.2.1 bt786.2.2 (wrap64 (1 + t780)) bt786.1).bind fun bt789 => ((spec_l02Least.f k bt789.1).bind fun bt792 => ((spec_l01Bad.f k t773 bt789.2.1 bt789.2.2 bt792.1).bind fun bt794 => (some bt794.1))))) = some r := by first | (rw [hy783]; with_reducible exact H) | (have H2_ := (Option.bind_some _ _).symm.trans H; rw [hy783]; with_reducible exact H2_) | (have H2_ := (Option.bind_some _ _).symm.trans H; with_reducible exact H2_) | with_reducible exact H | (rw [hy783]; exact H) | exact H
  have Ny783 := Aside0.mk hy783
  clear hy783
  replace H := Option.bind_eq_some_iff.mp H
  obtain ⟨⟨t786, t787, t788⟩, A60, H⟩ := H
  replace H : ((spec_l01DrawOf.f k t773 t787 t788 (wrap64 (1 + t780)) t786).bind fun bt789 => ((spec_l02Least.f k bt789.1).bind fun bt792 => ((spec_l01Bad.f k t773 bt789.2.1 bt789.2.2 bt792.1).bind fun bt794 => (some bt794.1)))) = some r := H
  have A6 := Aside0.mk A60
  clear A60
  replace H := Option.bind_eq_some_iff.mp H
  obtain ⟨⟨t789, t790, t791⟩, A70, H⟩ := H
  replace H : ((spec_l02Least.f k t789).bind fun bt792 => ((spec_l01Bad.f k t773 t790 t791 bt792.1).bind fun bt794 => (some bt794.1))) = some r := H
  have A7 := Aside0.mk A70
  clear A70
  replace H := Option.bind_eq_some_iff.mp H
  obtain ⟨⟨t792, t793⟩, A80, H⟩ := H
  replace H : ((spec_l01Bad.f k t773 t790 t791 t792).bind fun bt794 => (some bt794.1)) = some r := H
  have A8 := Aside0.mk A80
  clear A80
  replace H := Option.bind_eq_some_iff.mp H
  obtain ⟨⟨t794, t795, t796⟩, A90, H⟩ := H
  replace H : (some t794) = some r := H
  have A9 := Aside0.mk A90
  clear A90
  obtain rfl := Option.some.inj H
  go_enter Try.func54, Try.ntmps54
  go_wp2_with (first | ((with_reducible refine gate_callee (f := 58) rfl ?_); refine goesL_ (some 7) rfl rfl Try.func58 (by kernel_rfl) rfl #[.slice A0 l0.length c0] rfl (by (try simp only [List.map_toArray, List.map_cons, List.map_nil]); first | done | rfl | (simp only [List.length_drop, List.length_take]; rfl)) ?_; (with_reducible refine (spec_l01From.calls k _ _ l0 t773 t774 t775 w _ ?side1 ?side2 ?side3 A2.out).mono ?_); (case side1 => repeat (first | (with_reducible first | exact HB.out | apply below_alloc | apply pw_below_drewN | apply below_drew1) | exact HB.out)); (case side2 => exact HR0.out); (case side3 => exact HC0.out); rintro e w10 ⟨g776, rfl, hi, hb, hb2⟩; refine ⟨_, rfl, ?_⟩; have n0_ := Aside0.mk (hb); have n1_ := Aside0.mk (hi); clear HB; have HB := n0_; have HI776 := n1_; clear n0_ n1_; (try clear hb); (try clear hb2); (try clear hk); (try clear hi)) | ((with_reducible refine gate_callee (f := 59) rfl ?_); refine goesL_ (some 9) rfl rfl Try.func59 (by kernel_rfl) rfl #[.pointer (some ⟨g776, 0, none⟩), .int .i64 2] rfl (by (try simp only [List.map_toArray, List.map_cons, List.map_nil]); first | done | rfl | (simp only [List.length_drop, List.length_take]; rfl)) ?_; (with_reducible refine (spec_l01Next.calls g776 t773 t774 t775 2 t777 t778 t779 w _ ?side1 ?side2 A3.out).mono ?_); (case side1 => repeat (first | (with_reducible first | exact HI776.out | apply IsS92.alloc | apply IsS92.drewN | apply IsS92.drew | apply IsS92.set_1 | apply IsS92.set_2) | exact HI776.out)); (case side2 => repeat (first | (with_reducible first | exact HB.out | apply below_alloc | apply pw_below_drewN | apply below_drew1 | refine below_set ?_ (IsS92.ge HI776.out)) | exact HB.out)); rintro e w11 ⟨rfl, hi, hb, hk⟩; refine ⟨_, rfl, ?_⟩; have n0_ := Aside0.mk (hb); have n1_ := Aside0.mk (hi); clear HB; clear HI776; have HB := n0_; have HI776 := n1_; clear n0_ n1_; (try clear hb); (try clear hb2); (try clear hk); (try clear hi)) | ((with_reducible refine gate_callee (f := 59) rfl ?_); refine goesL_ (some 14) rfl rfl Try.func59 (by kernel_rfl) rfl #[.pointer (some ⟨g776, 0, none⟩), .int .i64 12] rfl (by (try simp only [List.map_toArray, List.map_cons, List.map_nil]); first | done | rfl | (simp only [List.length_drop, List.length_take]; rfl)) ?_; (with_reducible refine (spec_l01Next.calls g776 t773 t778 t779 12 t780 t781 t782 w _ ?side1 ?side2 A5.out).mono ?_); (case side1 => repeat (first | (with_reducible first | exact HI776.out | apply IsS92.alloc | apply IsS92.drewN | apply IsS92.drew | apply IsS92.set_1 | apply IsS92.set_2) | exact HI776.out)); (case side2 => repeat (first | (with_reducible first | exact HB.out | apply below_alloc | apply pw_below_drewN | apply below_drew1 | refine below_set ?_ (IsS92.ge HI776.out)) | exact HB.out)); rintro e w12 ⟨rfl, hi, hb, hk⟩; refine ⟨_, rfl, ?_⟩; have n0_ := Aside0.mk (hb); have n1_ := Aside0.mk (hi); clear HB; clear HI776; have HB := n0_; have HI776 := n1_; clear n0_ n1_; (try clear hb); (try clear hb2); (try clear hk); (try clear hi)) | ((with_reducible refine gate_dst (N := 17) rfl ?_); refine Kd.R_lit (Kd.int .i64) _ 2 ?hg (N := 17) ?hd (xs := ([2, 3] : List Int)) (inner := [.int .i64 2, .int .i64 3]) (ok := fun _ => True) (okp := fun _ => True) ?hr ?hp (fun _ hk => hk) trivial (Below.refl _ _) (Nat.le_refl _) (by simp) ?_; (case hd => rfl); (case hg => rfl); (case hr => first | (go_simp; done) | (go_simp; rfl)); (case hp => exact (Reps.one (show Kd.M (Kd.int .i64) _ _ _ 2 [.int .i64 2] from rfl) (Reps.one (show Kd.M (Kd.int .i64) _ _ _ 3 [.int .i64 3] from rfl) (Reps.none _ _)))); intro v784 w13 ho14 hb hg_ hnew_; clear hg_ hnew_; (first | rw [← Ny783.out] at ho14 | (simp only [Int.reduceToNat] at ho14; rw [← Ny783.out] at ho14)); have n0_ := Aside0.mk (Kd.R_lower ho14 (below_size (by repeat (first | (with_reducible first | exact HB.out | apply below_alloc | apply pw_below_drewN | apply below_drew1 | refine below_set ?_ (IsS92.ge HI776.out)) | exact HB.out)))); have n1_ := Aside0.mk (IsS92.below (by repeat (first | (with_reducible first | exact HI776.out | apply IsS92.alloc | apply IsS92.drewN | apply IsS92.drew | apply IsS92.set_1 | apply IsS92.set_2) | exact HI776.out)) hb); have n2_ := Aside0.mk (below_step (by repeat (first | (with_reducible first | exact HB.out | apply below_alloc | apply pw_below_drewN | apply below_drew1 | refine below_set ?_ (IsS92.ge HI776.out)) | exact HB.out)) hb); clear HI776; clear HB; have HO785 := n0_; have HI776 := n1_; have HB := n2_; clear n0_ n1_ n2_; clear hb ho14; obtain ⟨Ao15, co15, eo15⟩ := Kd.R_slice HO785.out; subst eo15) | ((with_reducible refine gate_callee (f := 61) rfl ?_); refine goesL_ (some 18) rfl rfl Try.func61 (by kernel_rfl) rfl #[.pointer (some ⟨g776, 0, none⟩), .slice Ao15 y783.length co15] rfl (by (try simp only [List.map_toArray, List.map_cons, List.map_nil]); first | done | rfl | (simp only [List.length_drop, List.length_take]; rfl)) ?_; (with_reducible refine (spec_l01Pick.calls g776 t773 t781 t782 _ _ y783 t786 t787 t788 w _ ?side1 ?side2 ?side3 ?side4 ?side5 A6.out).mono ?_); (case side1 => repeat (first | (with_reducible first | exact HI776.out | apply IsS92.alloc | apply IsS92.drewN | apply IsS92.drew | apply IsS92.set_1 | apply IsS92.set_2) | exact HI776.out)); (case side2 => repeat (first | (with_reducible first | exact HB.out | apply below_alloc | apply pw_below_drewN | apply below_drew1 | refine below_set ?_ (IsS92.ge HI776.out)) | exact HB.out)); (case side3 => repeat (first | exact (Kd.R_reads' HO785.out).2.2 | (with_reducible refine Kd.C_alloc ?_ _) | (with_reducible refine Kd.C_drewN ?_ _) | (with_reducible refine Kd.C_drew ?_))); (case side4 => exact (Kd.R_reads' HO785.out).2.1); (case side5 => exact far_slice (IsS92.own_ne HI776.out HO785.out (by decide))); rintro e w16 ⟨rfl, hi, hb, hk⟩; refine ⟨_, rfl, ?_⟩; have n0_ := Aside0.mk (Kd.R_mono (Kd.R_keep (IsS92.apart (show IsS92 w _ g776 t773 t781 t782 from by repeat (first | (with_reducible first | exact HI776.out | apply IsS92.alloc | apply IsS92.drewN | apply IsS92.drew | apply IsS92.set_1 | apply IsS92.set_2) | exact HI776.out)) (by (with_reducible repeat (first | apply Kd.R_alloc | apply Kd.R_drewN | apply Kd.R_drew)); exact HO785.out) (by decide)) hk (fun _ h => h.2)) (fun _ h => h.1)); have n1_ := Aside0.mk (hb); have n2_ := Aside0.mk (hi); clear HO785; clear HB; clear HI776; have HO785 := n0_; have HB := n1_; have HI776 := n2_; clear n0_ n1_ n2_; (try clear hb); (try clear hb2); (try clear hk); (try clear hi)) | ((with_reducible refine gate_callee (f := 60) rfl ?_); refine goesL_ (some 19) rfl rfl Try.func60 (by kernel_rfl) rfl #[.pointer (some ⟨g776, 0, none⟩), .int .i64 (wrap64 (1 + t780)), .int .i64 t786] rfl (by (try simp only [List.map_toArray, List.map_cons, List.map_nil]); first | done | rfl | (simp only [List.length_drop, List.length_take]; rfl)) ?_; (with_reducible refine (spec_l01DrawOf.calls k g776 t773 t787 t788 (wrap64 (1 + t780)) t786 t789 t790 t791 w _ ?side1 ?side2 A7.out).mono ?_); (case side1 => repeat (first | (with_reducible first | exact HI776.out | apply IsS92.alloc | apply IsS92.drewN | apply IsS92.drew | apply IsS92.set_1 | apply IsS92.set_2) | exact HI776.out)); (case side2 => repeat (first | (with_reducible first | exact HB.out | apply below_alloc | apply pw_below_drewN | apply below_drew1 | refine below_set ?_ (IsS92.ge HI776.out)) | exact HB.out)); rintro e w17 ⟨rfl, hi, hb, hk⟩; refine ⟨_, rfl, ?_⟩; have n0_ := Aside0.mk (Kd.R_mono (Kd.R_keep (IsS92.apart (show IsS92 w _ g776 t773 t787 t788 from by repeat (first | (with_reducible first | exact HI776.out | apply IsS92.alloc | apply IsS92.drewN | apply IsS92.drew | apply IsS92.set_1 | apply IsS92.set_2) | exact HI776.out)) (by (with_reducible repeat (first | apply Kd.R_alloc | apply Kd.R_drewN | apply Kd.R_drew)); exact HO785.out) (by decide)) hk (fun _ h => h.2)) (fun _ h => h.1)); have n1_ := Aside0.mk (hb); have n2_ := Aside0.mk (hi); clear HO785; clear HB; clear HI776; have HO785 := n0_; have HB := n1_; have HI776 := n2_; clear n0_ n1_ n2_; (try clear hb); (try clear hb2); (try clear hk); (try clear hi)) | ((with_reducible refine gate_callee (f := 79) rfl ?_); refine goesL_ (some 20) rfl rfl Try.func79 (by kernel_rfl) rfl #[.string t789] rfl (by (try simp only [List.map_toArray, List.map_cons, List.map_nil]); first | done | rfl | (simp only [List.length_drop, List.length_take]; rfl)) ?_; (with_reducible refine (spec_l02Least.calls k t789 t792 t793 _ A8.out).mono ?_); rintro e w' ⟨rfl, ⟨nd, rfl⟩⟩; refine ⟨_, rfl, ?_⟩) | ((with_reducible refine gate_callee (f := 62) rfl ?_); refine goesL_ (some 25) rfl rfl Try.func62 (by kernel_rfl) rfl #[.pointer (some ⟨g776, 0, none⟩), .string t792] rfl (by (try simp only [List.map_toArray, List.map_cons, List.map_nil]); first | done | rfl | (simp only [List.length_drop, List.length_take]; rfl)) ?_; (with_reducible refine (spec_l01Bad.calls k g776 t773 t790 t791 t792 t794 t795 t796 w _ ?side1 ?side2 A9.out).mono ?_); (case side1 => repeat (first | (with_reducible first | exact HI776.out | apply IsS92.alloc | apply IsS92.drewN | apply IsS92.drew | apply IsS92.set_1 | apply IsS92.set_2) | exact HI776.out)); (case side2 => repeat (first | (with_reducible first | exact HB.out | apply below_alloc | apply pw_below_drewN | apply below_drew1 | refine below_set ?_ (IsS92.ge HI776.out)) | exact HB.out)); rintro e w18 ⟨rfl, hi, hb, hk⟩; refine ⟨_, rfl, ?_⟩; have n0_ := Aside0.mk (Kd.R_mono (Kd.R_keep (IsS92.apart (show IsS92 w _ g776 t773 t790 t791 from by repeat (first | (with_reducible first | exact HI776.out | apply IsS92.alloc | apply IsS92.drewN | apply IsS92.drew | apply IsS92.set_1 | apply IsS92.set_2) | exact HI776.out)) (by (with_reducible repeat (first | apply Kd.R_alloc | apply Kd.R_drewN | apply Kd.R_drew)); exact HO785.out) (by decide)) hk (fun _ h => h.2)) (fun _ h => h.1)); have n1_ := Aside0.mk (hb); have n2_ := Aside0.mk (hi); clear HO785; clear HB; clear HI776; have HO785 := n0_; have HB := n1_; have HI776 := n2_; clear n0_ n1_ n2_; (try clear hb); (try clear hb2); (try clear hk); (try clear hi)))
  go_ret
  exact ⟨by first | rfl | (simp [errW_none, errW_some] <;> rfl) | (simp [*, errW_none, errW_some] <;> rfl), by repeat (first | (with_reducible first | exact HB.out | apply below_alloc | apply pw_below_drewN | apply below_drew1 | refine below_set ?_ (IsS92.ge HI776.out)) | exact HB.out)⟩
 ·rw [if_neg c4] at H
  have c4b0 : (t777 == 0) = false := beq_eq_false_iff_ne.mpr c4
  have c4b1 : (t777 != 0) = true := bne_iff_ne.mpr c4
  replace H := Option.bind_eq_some_iff.mp H
  obtain ⟨⟨t797, t798, t799⟩, A190, H⟩ := H
  replace H : (some t797) = some r := H
  have A19 := Aside0.mk A190
  clear A190
  obtain rfl := Option.some.inj H
  go_enter Try.func54, Try.ntmps54
  go_wp2_with (first | ((with_reducible refine gate_callee (f := 58) rfl ?_); refine goesL_ (some 7) rfl rfl Try.func58 (by kernel_rfl) rfl #[.slice A0 l0.length c0] rfl (by (try simp only [List.map_toArray, List.map_cons, List.map_nil]); first | done | rfl | (simp only [List.length_drop, List.length_take]; rfl)) ?_; (with_reducible refine (spec_l01From.calls k _ _ l0 t773 t774 t775 w _ ?side1 ?side2 ?side3 A2.out).mono ?_); (case side1 => repeat (first | (with_reducible first | exact HB.out | apply below_alloc | apply pw_below_drewN | apply below_drew1) | exact HB.out)); (case side2 => exact HR0.out); (case side3 => exact HC0.out); rintro e w20 ⟨g776, rfl, hi, hb, hb2⟩; refine ⟨_, rfl, ?_⟩; have n0_ := Aside0.mk (hb); have n1_ := Aside0.mk (hi); clear HB; have HB := n0_; have HI776 := n1_; clear n0_ n1_; (try clear hb); (try clear hb2); (try clear hk); (try clear hi)) | ((with_reducible refine gate_callee (f := 59) rfl ?_); refine goesL_ (some 9) rfl rfl Try.func59 (by kernel_rfl) rfl #[.pointer (some ⟨g776, 0, none⟩), .int .i64 2] rfl (by (try simp only [List.map_toArray, List.map_cons, List.map_nil]); first | done | rfl | (simp only [List.length_drop, List.length_take]; rfl)) ?_; (with_reducible refine (spec_l01Next.calls g776 t773 t774 t775 2 t777 t778 t779 w _ ?side1 ?side2 A3.out).mono ?_); (case side1 => repeat (first | (with_reducible first | exact HI776.out | apply IsS92.alloc | apply IsS92.drewN | apply IsS92.drew | apply IsS92.set_1 | apply IsS92.set_2) | exact HI776.out)); (case side2 => repeat (first | (with_reducible first | exact HB.out | apply below_alloc | apply pw_below_drewN | apply below_drew1 | refine below_set ?_ (IsS92.ge HI776.out)) | exact HB.out)); rintro e w21 ⟨rfl, hi, hb, hk⟩; refine ⟨_, rfl, ?_⟩; have n0_ := Aside0.mk (hb); have n1_ := Aside0.mk (hi); clear HB; clear HI776; have HB := n0_; have HI776 := n1_; clear n0_ n1_; (try clear hb); (try clear hb2); (try clear hk); (try clear hi)) | ((with_reducible refine gate_callee (f := 63) rfl ?_); refine goesL_ (some 27) rfl rfl Try.func63 (by kernel_rfl) rfl #[.pointer (some ⟨g776, 0, none⟩)] rfl (by (try simp only [List.map_toArray, List.map_cons, List.map_nil]); first | done | rfl | (simp only [List.length_drop, List.length_take]; rfl)) ?_; (with_reducible refine (spec_l01Spoil.calls k g776 t773 t778 t779 t797 t798 t799 w _ ?side1 ?side2 A19.out).mono ?_); (case side1 => repeat (first | (with_reducible first | exact HI776.out | apply IsS92.alloc | apply IsS92.drewN | apply IsS92.drew | apply IsS92.set_1 | apply IsS92.set_2) | exact HI776.out)); (case side2 => repeat (first | (with_reducible first | exact HB.out | apply below_alloc | apply pw_below_drewN | apply below_drew1 | refine below_set ?_ (IsS92.ge HI776.out)) | exact HB.out)); rintro e w22 ⟨rfl, hi, hb, hk⟩; refine ⟨_, rfl, ?_⟩; have n0_ := Aside0.mk (hb); have n1_ := Aside0.mk (hi); clear HB; clear HI776; have HB := n0_; have HI776 := n1_; clear n0_ n1_; (try clear hb); (try clear hb2); (try clear hk); (try clear hi)))
  go_ret
  exact ⟨by first | rfl | (simp [errW_none, errW_some] <;> rfl) | (simp [*, errW_none, errW_some] <;> rfl), by repeat (first | (with_reducible first | exact HB.out | apply below_alloc | apply pw_below_drewN | apply below_drew1 | refine below_set ?_ (IsS92.ge HI776.out)) | exact HB.out)⟩

end Go.Proofs.Ytmihfmhfgjnfcab.Q

namespace Go.Proofs.Ytmihfmhfgjnfcab.Q
open Go.RowKit Go.Proofs.YtmihfmhfgjnfcabW.PrintWords Go.Proofs.YtmihfmhfgjnfcabW.PrintLast Go.Proofs.YtmihfmhfgjnfcabW.PrintMore
attribute [local go_sem] max2_int min2_int max_two min_two max_three min_three max_four min_four bn_leq bn_gtr bn_geq   -- for this text's walks alone
set_option linter.unusedVariables false
set_option linter.unusedSimpArgs false

/-! ### impl_IsLyndon: function 55 -/
def impl_IsLyndon.f (k : Nat) (a0 : ByteArray) : Option (Bool × Int) := (impl_wordCode.f () (([a0] : List ByteArray))).bind fun t803 => (if t803 = 0 then ((impl_isLyndon.f k a0).bind fun t804 => (some (t804, 0))) else (some (false, t803)))
set_option maxHeartbeats 8000000 in
set_option maxRecDepth 100000 in
theorem impl_IsLyndon.calls (k : Nat) (a0 : ByteArray) (r1 : Bool) (r2 : Int) (w : World) (h : impl_IsLyndon.f k a0 = some (r1, r2)) :
  Calls Try.prog 55 #[.string a0] w fun e w' => e = .returned (.tuple #[.bool r1, .int .i64 r2]) ∧ Below w.heap.size w w' := by
 have HB := Aside0.mk (Below.refl w.heap.size w)
 have H : ((impl_wordCode.f () (([a0] : List ByteArray))).bind fun t803 => (if t803 = 0 then ((impl_isLyndon.f k a0).bind fun t804 => (some (t804, 0))) else (some (false, t803)))) = some (r1, r2) := h
 clear h
 obtain ⟨y800, hy800⟩ : ∃ y_ : List ByteArray, y_ = (([a0] : List ByteArray)) := ⟨_, rfl⟩
 replace H : ((impl_wordCode.f () y800).bind fun t803 => (if t803 = 0 then ((impl_isLyndon.f k a0).bind fun t804 => (some (t804, 0))) else (some (false, t803)))) = some (r1, r2) := by first | (rw [hy800]; with_reducible exact H) | (have H2_ := (Option.bind_some _ _).symm.trans H; rw [hy800]; with_reducible exact H2_) | (have H2_ := (Option.bind_some _ _).symm.trans H; with_reducible exact H2_) | with_reducible exact H | (rw [hy800]; exact H) | exact H
 have Ny800 := Aside0.mk hy800
 clear hy800
 replace H := Option.bind_eq_some_iff.mp H
 obtain ⟨t803, A20, H⟩ := H
 replace H : (if t803 = 0 then ((impl_isLyndon.f k a0).bind fun t804 => (some (t804, 0))) else (some (false, t803))) = some (r1, r2) := H
 have A2 := Aside0.mk A20
 clear A20
 by_cases c3 : t803 = 0
 ·rw [if_pos c3] at H
  have c3b0 : (t803 == 0) = true := beq_iff_eq.mpr c3
  have c3b1 : (t803 != 0) = false := bne_eq_false_iff_eq.mpr c3
  clear c3
  replace H := Option.bind_eq_some_iff.mp H
  obtain ⟨t804, A40, H⟩ := H
  replace H : (some (t804, 0)) = some (r1, r2) := H
  have A4 := Aside0.mk A40
  clear A40
  simp only [Option.some.injEq, Prod.mk.injEq] at H
  obtain ⟨rfl, rfl⟩ := H
  go_enter Try.func55, Try.ntmps55
  go_wp2_with (first | ((with_reducible refine gate_dst (N := 6) rfl ?_); refine Kd.R_lit Kd.string _ 9 ?hg (N := 6) ?hd (xs := ([a0] : List ByteArray)) (inner := [.string a0]) (ok := fun _ => True) (okp := fun _ => True) ?hr ?hp (fun _ hk => hk) trivial (Below.refl _ _) (Nat.le_refl _) (by simp) ?_; (case hd => rfl); (case hg => rfl); (case hr => first | (go_simp; done) | (go_simp; rfl)); (case hp => exact (Reps.one (show Kd.M Kd.string _ _ _ a0 [.string a0] from rfl) (Reps.none _ _))); intro v801 w5 ho6 hb hg_ hnew_; clear hg_ hnew_; (first | rw [← Ny800.out] at ho6 | (simp only [Int.reduceToNat] at ho6; rw [← Ny800.out] at ho6)); have n0_ := Aside0.mk (Kd.R_lower ho6 (below_size (by repeat (first | (with_reducible first | exact HB.out | apply below_alloc | apply pw_below_drewN | apply below_drew1) | exact HB.out)))); have n1_ := Aside0.mk (below_step (by repeat (first | (with_reducible first | exact HB.out | apply below_alloc | apply pw_below_drewN | apply below_drew1) | exact HB.out)) hb); clear HB; have HO802 := n0_; have HB := n1_; clear n0_ n1_; clear hb ho6; obtain ⟨Ao7, co7, eo7⟩ := Kd.R_slice HO802.out; subst eo7) | ((with_reducible refine gate_callee (f := 69) rfl ?_); refine goesL_ (some 7) rfl rfl Try.func69 (by kernel_rfl) rfl #[.func (.func 70) #[] #[], .slice Ao7 y800.length co7] rfl (by (try simp only [List.map_toArray, List.map_cons, List.map_nil]); first | done | rfl | (simp only [List.length_drop, List.length_take]; rfl)) ?_; (with_reducible refine (impl_wordCode.calls () _ _ y800 t803 _ ?side1 ?side2 A2.out).mono ?_); (case side1 => repeat (first | exact (Kd.R_reads' HO802.out).2.2 | (with_reducible refine Kd.C_alloc ?_ _) | (with_reducible refine Kd.C_drewN ?_ _) | (with_reducible refine Kd.C_drew ?_))); (case side2 => exact (Kd.R_reads' HO802.out).2.1); rintro e w8 ⟨rfl, hb⟩; refine ⟨_, rfl, ?_⟩; have n0_ := Aside0.mk (Kd.R_below (by (with_reducible repeat (first | apply Kd.R_alloc | apply Kd.R_drewN | apply Kd.R_drew)); exact HO802.out) hb); have n1_ := Aside0.mk (below_step (by repeat (first | (with_reducible first | exact HB.out | apply below_alloc | apply pw_below_drewN | apply below_drew1) | exact HB.out)) hb); clear HO802; clear HB; have HO802 := n0_; have HB := n1_; clear n0_ n1_; (try clear hb); (try clear hb2); (try clear hk); (try clear hi)) | ((with_reducible refine gate_callee (f := 112) rfl ?_); refine goesL_ (some 12) rfl rfl Try.func112 (by kernel_rfl) rfl #[.string a0] rfl (by (try simp only [List.map_toArray, List.map_cons, List.map_nil]); first | done | rfl | (simp only [List.length_drop, List.length_take]; rfl)) ?_; (with_reducible refine (impl_isLyndon.calls k a0 t804 _ A4.out).mono ?_); rintro e w' ⟨rfl, ⟨nd, rfl⟩⟩; refine ⟨_, rfl, ?_⟩))
  go_ret2
  exact ⟨by first | rfl | (simp [errW_none, errW_some] <;> rfl) | (simp [*, errW_none, errW_some] <;> rfl), by repeat (first | (with_reducible first | exact HB.out | apply below_alloc | apply pw_below_drewN | apply below_drew1) | exact HB.out)⟩
 ·rw [if_neg c3] at H
  have c3b0 : (t803 == 0) = false := beq_eq_false_iff_ne.mpr c3
  have c3b1 : (t803 != 0) = true := bne_iff_ne.mpr c3
  simp only [Option.some.injEq, Prod.mk.injEq] at H
  obtain ⟨rfl, rfl⟩ := H
  go_enter Try.func55, Try.ntmps55
  go_wp2_with (first | ((with_reducible refine gate_dst (N := 6) rfl ?_); refine Kd.R_lit Kd.string _ 9 ?hg (N := 6) ?hd (xs := ([a0] : List ByteArray)) (inner := [.string a0]) (ok := fun _ => True) (okp := fun _ => True) ?hr ?hp (fun _ hk => hk) trivial (Below.refl _ _) (Nat.le_refl _) (by simp) ?_; (case hd => rfl); (case hg => rfl); (case hr => first | (go_simp; done) | (go_simp; rfl)); (case hp => exact (Reps.one (show Kd.M Kd.string _ _ _ a0 [.string a0] from rfl) (Reps.none _ _))); intro v801 w9 ho10 hb hg_ hnew_; clear hg_ hnew_; (first | rw [← Ny800.out] at ho10 | (simp only [Int.reduceToNat] at ho10; rw [← Ny800.out] at ho10)); have n0_ := Aside0.mk (Kd.R_lower ho10 (below_size (by repeat (first | (with_reducible first | exact HB.out | apply below_alloc | apply pw_below_drewN | apply below_drew1) | exact HB.out)))); have n1_ := Aside0.mk (below_step (by repeat (first | (with_reducible first | exact HB.out | apply below_alloc | apply pw_below_drewN | apply below_drew1) | exact HB.out)) hb); clear HB; have HO802 := n0_; have HB := n1_; clear n0_ n1_; clear hb ho10; obtain ⟨Ao11, co11, eo11⟩ := Kd.R_slice HO802.out; subst eo11) | ((with_reducible refine gate_callee (f := 69) rfl ?_); refine goesL_ (some 7) rfl rfl Try.func69 (by kernel_rfl) rfl #[.func (.func 70) #[] #[], .slice Ao11 y800.length co11] rfl (by (try simp only [List.map_toArray, List.map_cons, List.map_nil]); first | done | rfl | (simp only [List.length_drop, List.length_take]; rfl)) ?_; (with_reducible refine (impl_wordCode.calls () _ _ y800 t803 _ ?side1 ?side2 A2.out).mono ?_); (case side1 => repeat (first | exact (Kd.R_reads' HO802.out).2.2 | (with_reducible refine Kd.C_alloc ?_ _) | (with_reducible refine Kd.C_drewN ?_ _) | (with_reducible refine Kd.C_drew ?_))); (case side2 => exact (Kd.R_reads' HO802.out).2.1); rintro e w12 ⟨rfl, hb⟩; refine ⟨_, rfl, ?_⟩; have n0_ := Aside0.mk (Kd.R_below (by (with_reducible repeat (first | apply Kd.R_alloc | apply Kd.R_drewN | apply Kd.R_drew)); exact HO802.out) hb); have n1_ := Aside0.mk (below_step (by repeat (first | (with_reducible first | exact HB.out | apply below_alloc | apply pw_below_drewN | apply below_drew1) | exact HB.out)) hb); clear HO802; clear HB; have HO802 := n0_; have HB := n1_; clear n0_ n1_; (try clear hb); (try clear hb2); (try clear hk); (try clear hi)))
  go_ret2
  exact ⟨by first | rfl | (simp [errW_none, errW_some] <;> rfl) | (simp [*, errW_none, errW_some] <;> rfl), by repeat (first | (with_reducible first | exact HB.out | apply below_alloc | apply pw_below_drewN | apply below_drew1) | exact HB.out)⟩

end Go.Proofs.Ytmihfmhfgjnfcab.Q

namespace Go.Proofs.Ytmihfmhfgjnfcab.Q
open Go.RowKit Go.Proofs.YtmihfmhfgjnfcabW.PrintWords Go.Proofs.YtmihfmhfgjnfcabW.PrintLast Go.Proofs.YtmihfmhfgjnfcabW.PrintMore
attribute [local go_sem] max2_int min2_int max_two min_two max_three min_three max_four min_four bn_leq bn_gtr bn_geq   -- for this text's walks alone
set_option linter.unusedVariables false
set_option linter.unusedSimpArgs false

/-! ### spec_IsLyndon: function 56 -/
def spec_IsLyndon.f (k : Nat) (a0 : ByteArray) : Option (Bool × Int) := (spec_l01Is.f k a0).bind fun t805 => (if t805 = true then ((spec_l02Lyndon.f k a0).bind fun t806 => (some (t806, 0))) else (some (false, 1)))
set_option maxHeartbeats 8000000 in
set_option maxRecDepth 100000 in
theorem spec_IsLyndon.calls (k : Nat) (a0 : ByteArray) (r1 : Bool) (r2 : Int) (w : World) (h : spec_IsLyndon.f k a0 = some (r1, r2)) :
  Calls Try.prog 56 #[.string a0] w fun e w' => e = .returned (.tuple #[.bool r1, .int .i64 r2]) ∧ Drawn0 w w' := by
 have H : ((spec_l01Is.f k a0).bind fun t805 => (if t805 = true then ((spec_l02Lyndon.f k a0).bind fun t806 => (some (t806, 0))) else (some (false, 1)))) = some (r1, r2) := h
 clear h
 replace H := Option.bind_eq_some_iff.mp H
 obtain ⟨t805, A20, H⟩ := H
 replace H : (if t805 = true then ((spec_l02Lyndon.f k a0).bind fun t806 => (some (t806, 0))) else (some (false, 1))) = some (r1, r2) := H
 have A2 := Aside0.mk A20
 clear A20
 by_cases c3 : t805 = true
 ·subst c3
  have H1 : ((spec_l02Lyndon.f k a0).bind fun t806 => (some (t806, 0))) = some (r1, r2) := by rw [if_pos rfl] at H; exact H
  clear H
  have H := H1
  clear H1
  replace H := Option.bind_eq_some_iff.mp H
  obtain ⟨t806, A40, H⟩ := H
  replace H : (some (t806, 0)) = some (r1, r2) := H
  have A4 := Aside0.mk A40
  clear A40
  simp only [Option.some.injEq, Prod.mk.injEq] at H
  obtain ⟨rfl, rfl⟩ := H
  go_enter Try.func56, Try.ntmps56
  go_wp2_with (first | ((with_reducible refine gate_callee (f := 72) rfl ?_); refine goesL_ (some 5) rfl rfl Try.func72 (by kernel_rfl) rfl #[.string a0] rfl (by (try simp only [List.map_toArray, List.map_cons, List.map_nil]); first | done | rfl | (simp only [List.length_drop, List.length_take]; rfl)) ?_; (with_reducible refine (spec_l01Is.calls k a0 true _ A2.out).mono ?_); rintro e w' ⟨rfl, ⟨nd, rfl⟩⟩; refine ⟨_, rfl, ?_⟩) | ((with_reducible refine gate_callee (f := 113) rfl ?_); refine goesL_ (some 8) rfl rfl Try.func113 (by kernel_rfl) rfl #[.string a0] rfl (by (try simp only [List.map_toArray, List.map_cons, List.map_nil]); first | done | rfl | (simp only [List.length_drop, List.length_take]; rfl)) ?_; (with_reducible refine (spec_l02Lyndon.calls k a0 t806 _ A4.out).mono ?_); rintro e w' ⟨rfl, ⟨nd, rfl⟩⟩; refine ⟨_, rfl, ?_⟩))
  go_ret2
  exact ⟨by first | rfl | (simp; done) | (simp [*]; done), by repeat (first | exact Drawn0.refl _ | apply Drawn0.step)⟩
 ·replace c3 := Bool.eq_false_iff.mpr c3
  subst c3
  have H1 : (some (false, 1)) = some (r1, r2) := by rw [if_neg (show ¬ (false = true) by decide)] at H; exact H
  clear H
  have H := H1
  clear H1
  simp only [Option.some.injEq, Prod.mk.injEq] at H
  obtain ⟨rfl, rfl⟩ := H
  go_enter Try.func56, Try.ntmps56
  go_wp2_with (first | ((with_reducible refine gate_callee (f := 72) rfl ?_); refine goesL_ (some 5) rfl rfl Try.func72 (by kernel_rfl) rfl #[.string a0] rfl (by (try simp only [List.map_toArray, List.map_cons, List.map_nil]); first | done | rfl | (simp only [List.length_drop, List.length_take]; rfl)) ?_; (with_reducible refine (spec_l01Is.calls k a0 false _ A2.out).mono ?_); rintro e w' ⟨rfl, ⟨nd, rfl⟩⟩; refine ⟨_, rfl, ?_⟩))
  go_ret2
  exact ⟨by first | rfl | (simp; done) | (simp [*]; done), by repeat (first | exact Drawn0.refl _ | apply Drawn0.step)⟩

end Go.Proofs.Ytmihfmhfgjnfcab.Q

namespace Go.Proofs.Ytmihfmhfgjnfcab.Q
open Go.RowKit Go.Proofs.YtmihfmhfgjnfcabW.PrintWords Go.Proofs.YtmihfmhfgjnfcabW.PrintLast Go.Proofs.YtmihfmhfgjnfcabW.PrintMore
attribute [local go_sem] max2_int min2_int max_two min_two max_three min_three max_four min_four bn_leq bn_gtr bn_geq   -- for this text's walks alone
set_option linter.unusedVariables false
set_option linter.unusedSimpArgs false

/-! ### laws_joined9: function 57 -/
def laws_joined9.l0 : Nat → List ByteArray → ByteArray → Int → Option (ByteArray)
 | 0, _, _, _ => none
 | k + 1, x0, x3, x4 => if x4 < (x0.length : Int) then (if 0 ≤ x4 then (if x3.size + (rdOf ByteArray.empty x0 x4).size ≤ 9223372036854775807 then (laws_joined9.l0 k x0 (x3 ++ (rdOf ByteArray.empty x0 x4)) (wrap64 (x4 + 1))) else (none)) else (none)) else (some x3)
def laws_joined9.f (k : Nat) (l0 : List ByteArray) : Option (ByteArray) := laws_joined9.l0 k l0 (⟨#[]⟩ : ByteArray) 0
set_option maxHeartbeats 8000000 in
set_option maxRecDepth 100000 in
theorem laws_joined9.calls (k : Nat) (A0 : Option Addr) (c0 : Nat) (l0 : List ByteArray) (r : ByteArray) (w : World) (hr0 : Kd.C Kd.string w A0 l0.length l0) (hc0 : l0.length ≤ c0) (h : laws_joined9.f k l0 = some r) :
  Calls Try.prog 57 #[.slice A0 l0.length c0] w fun e w' => e = .returned (.string r) ∧ Drawn0 w w' := by
 have HR0 := Aside0.mk hr0
 have HC0 := Aside0.mk hc0
 clear hr0 hc0
 have H : (laws_joined9.l0 k l0 (⟨#[]⟩ : ByteArray) 0) = some r := h
 clear h
 have H' := Aside0.mk H
 clear H
 go_enter Try.func57, Try.ntmps57
 go_wp2
 go_loopg [3, 4] k (fun kq v3 v4 w' => ∃ (x3_1 : ByteArray) (x4_1 : Int), v3 = .string x3_1 ∧ v4 = .int .i64 x4_1 ∧ Aside0 (laws_joined9.l0 kq l0 x3_1 x4_1 = some r) ∧ Aside0 (kq ≤ k) ∧ Drawn0 w w')
 case atStart => exact ⟨((⟨#[]⟩ : ByteArray)), (0), (by first | rfl | (simp; done) | (simp [*]; done)), (by first | rfl | (simp; done) | (simp [*]; done)), H', ⟨Nat.le_refl _⟩, by repeat (first | exact Drawn0.refl _ | apply Drawn0.step)⟩
 case round =>
  clear H'
  obtain ⟨x3_1, x4_1, rfl, rfl, HA, HK1, ⟨m1, rfl⟩⟩ := hrel
  cases gk with
  | zero => exact absurd HA.out (by simp [laws_joined9.l0])
  | succ k1 =>
   have H := HA.out
   clear HA
   simp only [laws_joined9.l0] at H
   by_cases c2 : x4_1 < (l0.length : Int)
   ·rw [if_pos c2] at H
    have c2b0 : decide (x4_1 < (l0.length : Int)) = true := decide_eq_true c2
    clear c2
    by_cases c3 : 0 ≤ x4_1
    ·rw [if_pos c3] at H
     have c3b0 : decide (0 ≤ x4_1) = true := decide_eq_true c3
     clear c3
     by_cases c4 : x3_1.size + (rdOf ByteArray.empty l0 x4_1).size ≤ 9223372036854775807
     ·rw [if_pos c4] at H
      have c4b0 := eq_true c4
      have c4b1 : decide (x3_1.size + (rdOf ByteArray.empty l0 x4_1).size ≤ 9223372036854775807) = true := decide_eq_true c4
      try have c4b2 : (9223372036854775807 < x3_1.size + (rdOf ByteArray.empty l0 x4_1).size) = False := eq_false (Nat.not_lt.2 c4)
      have H' := Aside0.mk H
      clear H
      have p807 : 0 ≤ (x4_1 : Int) := of_decide_eq_true (by first | (with_reducible assumption) | assumption)
      have q807 : x4_1 < (l0.length : Int) := of_decide_eq_true (by first | (with_reducible assumption) | assumption)
      obtain ⟨ad807, e807, hx807_0⟩ := Kd.at_string HR0.out x4_1 p807 q807
      cases e807
      replace p807 := eq_true p807
      replace q807 := eq_true q807
      go_wp2
      go_roundg k1
      case measure => have := HK1.out; omega
      case rel => exact ⟨(x3_1 ++ (rdOf ByteArray.empty l0 x4_1)), (wrap64 (x4_1 + 1)), (by first | rfl | (simp; done) | (simp [*]; done)), (by first | rfl | (simp; done) | (simp [*]; done)), H', ⟨by have := HK1.out; omega⟩, by repeat (first | exact Drawn0.refl _ | apply Drawn0.step)⟩
     ·rw [if_neg c4] at H
      exact absurd H (by simp)
    ·rw [if_neg c3] at H
     exact absurd H (by simp)
   ·rw [if_neg c2] at H
    have c2b0 : decide (x4_1 < (l0.length : Int)) = false := decide_eq_false c2
    clear c2
    obtain rfl := Option.some.inj H
    go_wp2
    go_ret
    exact ⟨by first | rfl | (simp; done) | (simp [*]; done), by repeat (first | exact Drawn0.refl _ | apply Drawn0.step)⟩

end Go.Proofs.Ytmihfmhfgjnfcab.Q

namespace Go.Proofs.Ytmihfmhfgjnfcab.Q
open Go.RowKit Go.Proofs.YtmihfmhfgjnfcabW.PrintWords Go.Proofs.YtmihfmhfgjnfcabW.PrintLast Go.Proofs.YtmihfmhfgjnfcabW.PrintMore
attribute [local go_sem] max2_int min2_int max_two min_two max_three min_three max_four min_four bn_leq bn_gtr bn_geq   -- for this text's walks alone
set_option linter.unusedVariables false
set_option linter.unusedSimpArgs false

/-! ### laws_FnDoubleWords: function 5 (this session's own) -/
set_option maxHeartbeats 64000000 in
set_option maxRecDepth 100000 in
theorem laws_FnDoubleWords.paths (k : Nat) (A0 : Option Addr) (cc : Nat) (l0 : List Int) (word a u : ByteArray) (p q ap bp len : Int) (Q : List ByteArray) (lyn : Bool) (c1 c2 c3 c4 : Int) (w : World) (hr0 : Kd.C (Kd.int .u8) w A0 l0.length l0) (hc0 : l0.length ≤ cc) (hbig : l0.length ≤ 4096) (hD1 : spec_DrawDoubleWord.f k l0 = some (p, q)) (hI1 : impl_DoubleWord.f k p q = some (word, c1)) (hS1 : spec_DoubleWord.f k p q = some (word, c1)) (hD2 : spec_DrawDoubleLength.f k l0 = some (ap, bp)) (hI2 : impl_DoubleLength.f k ap bp = some (len, c2)) (hS2 : spec_DoubleLength.f k ap bp = some (len, c2)) (hD3 : spec_DrawLyndonParts.f k l0 = some a) (hI3 : impl_LyndonParts.f k a = some (Q, c3)) (hS3 : spec_LyndonParts.f k a = some (Q, c3)) (hE : laws_words9.f k Q Q = some true) (hD4 : spec_DrawIsLyndon.f k l0 = some u) (hI4 : impl_IsLyndon.f k u = some (lyn, c4)) (hS4 : spec_IsLyndon.f k u = some (lyn, c4)) (f4 : c4 ≠ 0 ∨ (c4 = 0 ∧ lyn = false) ∨ (c4 = 0 ∧ lyn = true ∧ impl_LeastTurned.f k u = some (u, 0, 0) ∧ impl_CountTurned.f k u = some ((u.size : Int), 0))) (f3 : c3 ≠ 0 ∨ (c3 = 0 ∧ laws_joined9.f k Q = some a ∧ Q.length ≤ 1000 ∧ (∀ j : Nat, j < Q.length → impl_IsLyndon.f k (rdOf ByteArray.empty Q j) = some (true, 0)) ∧ (∀ j : Nat, j + 1 < Q.length → Op.bytesLess (rdOf ByteArray.empty Q j).toList (rdOf ByteArray.empty Q (j + 1 : Nat)).toList = false))) (f1 : (c1 ≠ 0 ∧ word = ⟨#[]⟩) ∨ (c1 = 0 ∧ impl_DoubleLength.f k p q = some ((word.size : Int), 0) ∧ word.size ≤ 1000 ∧ (1 ≤ p ∧ p ≤ 1000 ∧ 1 ≤ q ∧ q ≤ 1000) ∧ (∀ i : Nat, i < word.size → p ≤ (i : Int) → bt word ((i : Int) - p) = bt word i) ∧ (∀ i : Nat, i < word.size → q ≤ (i : Int) → bt word ((i : Int) - q) = bt word i))) :
    Calls Try.prog 5 #[.slice A0 l0.length cc] w fun e w' => e = .returned (.bool true) ∧ Below w.heap.size w w' := by
  rcases f4 with hc4 | ⟨rfl, rfl⟩ | ⟨rfl, rfl, hT, hC⟩ <;> rcases f3 with hc3 | ⟨rfl, hJ, hQs, hall, hdown⟩ <;> rcases f1 with ⟨hc1, rfl⟩ | ⟨rfl, hO, hws, hpq, hper1, hper2⟩
  all_goals as_aux_lemma =>
    have HR0 := Aside0.mk hr0
    have HB := Aside0.mk (Below.refl w.heap.size w)
    have cG := Aside0.mk (fun W h => laws_big.calls A0 cc l0 false W h hc0 (by unfold laws_big.f; rw [decide_eq_false (by omega)]))
    have cD1 := Aside0.mk (fun W h => spec_DrawDoubleWord.calls k A0 cc l0 _ _ W h hc0 hD1)
    have cD2 := Aside0.mk (fun W h => spec_DrawDoubleLength.calls k A0 cc l0 _ _ W h hc0 hD2)
    have cD3 := Aside0.mk (fun W h => spec_DrawLyndonParts.calls k A0 cc l0 _ W h hc0 hD3)
    have cD4 := Aside0.mk (fun W h => spec_DrawIsLyndon.calls k A0 cc l0 _ W h hc0 hD4)
    have cI1 := Aside0.mk (fun W => impl_DoubleWord.calls k p q _ _ W hI1)
    have cI2 := Aside0.mk (fun W => impl_DoubleLength.calls k ap bp len c2 W hI2)
    have cI3 := Aside0.mk (fun W => impl_LyndonParts.calls k a Q _ W hI3)
    have cI4 := Aside0.mk (fun W => impl_IsLyndon.calls k u _ _ W hI4)
    have cS1 := Aside0.mk (fun W => spec_DoubleWord.calls k p q _ _ W hS1)
    have cS2 := Aside0.mk (fun W => spec_DoubleLength.calls k ap bp len c2 W hS2)
    have cS3 := Aside0.mk (fun W => spec_LyndonParts.calls k a Q _ W hS3)
    have cS4 := Aside0.mk (fun W => spec_IsLyndon.calls k u _ _ W hS4)
    have cE := Aside0.mk (fun W (A0 : Option Addr) (c0 : Nat) (A1 : Option Addr) (c1 : Nat) h0 h1 h2 h3 => laws_words9.calls k A0 c0 Q A1 c1 Q true W h0 h1 h2 h3 hE)
    try have cT := Aside0.mk (fun W => impl_LeastTurned.calls k u u 0 0 W hT)
    try have cC := Aside0.mk (fun W => impl_CountTurned.calls k u (u.size : Int) 0 W hC)
    try have cJ := Aside0.mk (fun W (A0 : Option Addr) (c0 : Nat) h0 h1 => laws_joined9.calls k A0 c0 Q a W h0 h1 hJ)
    try have cO := Aside0.mk (fun W => impl_DoubleLength.calls k p q (word.size : Int) 0 W hO)
    have d1 : (a.toList != a.toList) = false := by simp
    have d2 : (u.toList != u.toList) = false := by simp
    try have dw : (word.toList != word.toList) = false := by simp
    have d3 : (len != len) = false := by simp
    have d4 : (c2 != c2) = false := by simp
    try have dl : (lyn != lyn) = false := by cases lyn <;> rfl
    have d5 : ((u.size : Int) != (u.size : Int)) = false := by simp
    have d6 : (u.size != u.size) = false := by simp
    try have dz : ((word.size : Int) != (word.size : Int)) = false := by simp
    try have dy : (word.size != word.size) = false := by simp
    try have ec1 : (c1 == 0) = false := beq_eq_false_iff_ne.mpr hc1
    try have nc1 : (c1 != 0) = true := bne_iff_ne.mpr hc1
    try have sc1 : (c1 != c1) = false := by simp
    try have ec3 : (c3 == 0) = false := beq_eq_false_iff_ne.mpr hc3
    try have nc3 : (c3 != 0) = true := bne_iff_ne.mpr hc3
    try have sc3 : (c3 != c3) = false := by simp
    try have ec4 : (c4 == 0) = false := beq_eq_false_iff_ne.mpr hc4
    try have nc4 : (c4 != 0) = true := bne_iff_ne.mpr hc4
    try have sc4 : (c4 != c4) = false := by simp
    have d7 : ((0 : Int) != 0) = false := rfl
    have d8 : ((0 : Int) == 0) = true := rfl
    try replace hQs := Aside0.mk hQs
    try replace hall := Aside0.mk hall
    try replace hdown := Aside0.mk hdown
    try replace hws := Aside0.mk hws
    try replace hpq := Aside0.mk hpq
    try replace hper1 := Aside0.mk hper1
    try replace hper2 := Aside0.mk hper2
    try clear hT hC
    try clear hc4
    try clear hc3
    try clear hc1
    try clear hJ
    try clear hO
    clear hr0 hc0 hbig hD1 hI1 hS1 hD2 hI2 hS2 hD3 hI3 hS3 hE hD4 hI4 hS4
    have t5_ := Aside0.mk (show True from trivial)
    go_enter Try.func5, Try.ntmps5
    go_wp2_with (first
      | (go_at_call 6; refine (cG.out _ (Kd.C_below HR0.out HB.out)).mono ?_; rintro e w1x ⟨rfl, hd⟩; have hb := hd.below; clear hd; replace HB := Aside0.mk (below_then HB.out HB.out.size hb); clear hb)
      | (go_at_call 44; refine (cD1.out _ (Kd.C_below HR0.out HB.out)).mono ?_; rintro e w2x ⟨rfl, hb⟩; replace HB := Aside0.mk (below_then HB.out HB.out.size hb); clear hb)
      | (go_at_call 45; refine (cI1.out _ ).mono ?_; rintro e w3x ⟨rfl, hb⟩; replace HB := Aside0.mk (below_then HB.out HB.out.size hb); clear hb)
      | (go_at_call 46; refine (cS1.out _ ).mono ?_; rintro e w4x ⟨rfl, hb⟩; replace HB := Aside0.mk (below_then HB.out HB.out.size hb); clear hb)
      | (go_at_call 47; refine (cD2.out _ (Kd.C_below HR0.out HB.out)).mono ?_; rintro e w5x ⟨rfl, hb⟩; replace HB := Aside0.mk (below_then HB.out HB.out.size hb); clear hb)
      | (go_at_call 48; have q_ := t5_.out; clear t5_ q_; refine (cI2.out _ ).mono ?_; rintro e w6x ⟨rfl, hd⟩; have hb := hd.below; clear hd; replace HB := Aside0.mk (below_then HB.out HB.out.size hb); clear hb)
      | (go_at_call 49; refine (cS2.out _ ).mono ?_; rintro e w7x ⟨rfl, hd⟩; have hb := hd.below; clear hd; replace HB := Aside0.mk (below_then HB.out HB.out.size hb); clear hb)
      | (go_at_call 50; refine (cD3.out _ (Kd.C_below HR0.out HB.out)).mono ?_; rintro e w8x ⟨rfl, hb⟩; replace HB := Aside0.mk (below_then HB.out HB.out.size hb); clear hb)
      | (go_at_call 51; refine (cI3.out _ ).mono ?_; rintro e w9x ⟨vw9x, rfl, ho, hb⟩; obtain ⟨AHP, eHP, rfl⟩ := Kd.R_slice ho; have HP := Aside0.mk ho; clear ho; replace HB := Aside0.mk (below_then HB.out HB.out.size hb); clear hb)
      | (go_at_call 52; refine (cS3.out _ ).mono ?_; rintro e w10x ⟨vw10x, rfl, ho, hb⟩; obtain ⟨AHS, eHS, rfl⟩ := Kd.R_slice ho; replace HP := Aside0.mk (Kd.R_below HP.out hb); have HS := Aside0.mk ho; clear ho; replace HB := Aside0.mk (below_then HB.out HB.out.size hb); clear hb)
      | (go_at_call 53; refine (cE.out _ _ _ _ _ (Kd.R_reads' HP.out).2.2 (Kd.R_reads' HP.out).2.1 (Kd.R_reads' HS.out).2.2 (Kd.R_reads' HS.out).2.1).mono ?_; rintro e w11x ⟨rfl, hd⟩; have hb := hd.below; clear hd; replace HP := Aside0.mk (Kd.R_below HP.out hb); replace HS := Aside0.mk (Kd.R_below HS.out hb); replace HB := Aside0.mk (below_then HB.out HB.out.size hb); clear hb)
      | (go_at_call 54; refine (cD4.out _ (Kd.C_below HR0.out HB.out)).mono ?_; rintro e w12x ⟨rfl, hb⟩; clear HS; replace HP := Aside0.mk (Kd.R_below HP.out hb); replace HB := Aside0.mk (below_then HB.out HB.out.size hb); clear hb)
      | (go_at_call 55; refine (cI4.out _ ).mono ?_; rintro e w13x ⟨rfl, hb⟩; replace HP := Aside0.mk (Kd.R_below HP.out hb); replace HB := Aside0.mk (below_then HB.out HB.out.size hb); clear hb)
      | (go_at_call 56; refine (cS4.out _ ).mono ?_; rintro e w14x ⟨rfl, hd⟩; have hb := hd.below; clear hd; replace HP := Aside0.mk (Kd.R_below HP.out hb); replace HB := Aside0.mk (below_then HB.out HB.out.size hb); clear hb)
      | (go_at_call 17; refine (cT.out _ ).mono ?_; rintro e w15x ⟨rfl, hb⟩; replace HP := Aside0.mk (Kd.R_below HP.out hb); replace HB := Aside0.mk (below_then HB.out HB.out.size hb); clear hb)
      | (go_at_call 19; refine (cC.out _ ).mono ?_; rintro e w16x ⟨rfl, hb⟩; replace HP := Aside0.mk (Kd.R_below HP.out hb); replace HB := Aside0.mk (below_then HB.out HB.out.size hb); clear hb)
      | (go_at_call 57; refine (cJ.out _ _ _ (Kd.R_reads' HP.out).2.2 (Kd.R_reads' HP.out).2.1).mono ?_; rintro e w17x ⟨rfl, hd⟩; have hb := hd.below; clear hd; replace HP := Aside0.mk (Kd.R_below HP.out hb); replace HB := Aside0.mk (below_then HB.out HB.out.size hb); clear hb)
      | (go_at_call 48; refine (cO.out _ ).mono ?_; rintro e w18x ⟨rfl, hd⟩; have hb := hd.below; clear hd; replace HP := Aside0.mk (Kd.R_below HP.out hb); replace HB := Aside0.mk (below_then HB.out HB.out.size hb); clear hb))
    first
      | (go_loopg [30] Q.length (fun gg v30 wr => ∃ kk : Nat, kk ≤ Q.length ∧ Q.length - kk ≤ gg ∧ v30 = .int .i64 kk ∧ Aside0 (Kd.R Kd.string 9 wr w8x.heap.size (fun _ => True) (.slice AHP Q.length eHP) Q) ∧ Aside0 (Below w.heap.size w wr))
         case atStart => exact ⟨0, Nat.zero_le _, by omega, rfl, ⟨by (with_reducible repeat (first | apply Kd.R_alloc | apply Kd.R_drewN | apply Kd.R_drew)); exact HP.out⟩, ⟨by repeat (first | (with_reducible first | exact HB.out | apply below_alloc | apply pw_below_drewN | apply below_drew1) | exact HB.out)⟩⟩
         case round =>
           clear HP HB
           obtain ⟨kk, hkk, hgg, rfl, HP, HB⟩ := hrel
           have hQs2 := hQs.out
           by_cases hlt : kk < Q.length
           · obtain ⟨z, hz⟩ : ∃ z : Int, z = (kk : Int) := ⟨_, rfl⟩
             have hl1 := hall.out kk hlt
             rw [← hz] at hl1 ⊢
             have hlt1 := Aside0.mk hlt
             have zl : z < (Q.length : Int) := by omega
             have z0 : (0 : Int) ≤ z := by omega
             have b1 : decide (z < (Q.length : Int)) = true := decide_eq_true zl
             have hw5 := Aside0.mk (show wrap64 (z + 1) = ((kk + 1 : Nat) : Int) by rw [w64 (by omega) (by omega)]; omega)
             obtain ⟨ad, ead, hcell⟩ := Kd.at_string (Kd.R_reads' HP.out).2.2 z z0 zl
             subst ead
             obtain ⟨x, hx⟩ : ∃ x, x = rdOf ByteArray.empty Q z := ⟨_, rfl⟩
             have cL := Aside0.mk (fun W => impl_IsLyndon.calls k (rdOf ByteArray.empty Q z) true 0 W hl1)
             rw [← hx] at hcell cL
             clear hl1
             by_cases h0 : kk = 0
             · have b5 : decide ((0 : Int) < z) = false := decide_eq_false (by omega)
               clear hx hQs2 h0 hz hlt
               replace z0 := eq_true z0
               replace zl := eq_true zl
               go_wp2_with (go_at_call 55; refine (cL.out _).mono ?_; rintro e w5 ⟨rfl, hb⟩; replace HP := Aside0.mk (Kd.R_below HP.out hb); replace HB := Aside0.mk (below_then HB.out HB.out.size hb); clear hb)
               repeat (go_quiet (fail); try go_wp2)
               go_roundg (Q.length - (kk + 1))
               case measure => have := hlt1.out; omega
               case rel => exact ⟨kk + 1, by have := hlt1.out; omega, by omega, by first | rfl | rw [hw5.out], ⟨by (with_reducible repeat (first | apply Kd.R_alloc | apply Kd.R_drewN | apply Kd.R_drew)); exact HP.out⟩, ⟨by repeat (first | (with_reducible first | exact HB.out | apply below_alloc | apply pw_below_drewN | apply below_drew1) | exact HB.out)⟩⟩
             · have b5 : decide ((0 : Int) < z) = true := decide_eq_true (by omega)
               obtain ⟨t, ht⟩ : ∃ t : Int, z - 1 = t := ⟨_, rfl⟩
               have b6 : wrap64 (z - 1) = t := by rw [w64 (by omega) (by omega)]; exact ht
               have b6w : IntKind.i64.wrap (z - 1) = t := (i64_w _).trans b6
               have tl : t < (Q.length : Int) := by omega
               have t0 : (0 : Int) ≤ t := by omega
               have hd := hdown.out (kk - 1) (by omega)
               rw [show ((kk - 1 : Nat) : Int) = t by omega, show ((kk - 1 + 1 : Nat) : Int) = z by omega, ← hx] at hd
               obtain ⟨y, hy⟩ : ∃ y, y = rdOf ByteArray.empty Q t := ⟨_, rfl⟩
               rw [← hy] at hd
               have zl' := Aside0.mk zl
               have z0' := Aside0.mk z0
               have tl' := Aside0.mk tl
               have t0' := Aside0.mk t0
               have hx' := Aside0.mk hx
               have hy' := Aside0.mk hy
               clear hx hy hQs2 h0 hz ht hlt
               replace z0 := eq_true z0
               replace zl := eq_true zl
               replace t0 := eq_true t0
               replace tl := eq_true tl
               go_wp2_with (go_at_call 55; refine (cL.out _).mono ?_; rintro e w5 ⟨rfl, hb⟩; replace HP := Aside0.mk (Kd.R_below HP.out hb); replace HB := Aside0.mk (below_then HB.out HB.out.size hb); clear hb; obtain ⟨ad2, ead2, hcell2⟩ := Kd.at_string (Kd.R_reads' HP.out).2.2 t t0'.out tl'.out; rw [← hy'.out] at hcell2; obtain ⟨ad3, ead3, hcell3⟩ := Kd.at_string (Kd.R_reads' HP.out).2.2 z z0'.out zl'.out; rw [← hx'.out] at hcell3; cases ead2; cases ead3)
               repeat (go_quiet (fail); try go_wp2)
               go_roundg (Q.length - (kk + 1))
               case measure => have := hlt1.out; omega
               case rel => exact ⟨kk + 1, by have := hlt1.out; omega, by omega, by first | rfl | rw [hw5.out], ⟨by (with_reducible repeat (first | apply Kd.R_alloc | apply Kd.R_drewN | apply Kd.R_drew)); exact HP.out⟩, ⟨by repeat (first | (with_reducible first | exact HB.out | apply below_alloc | apply pw_below_drewN | apply below_drew1) | exact HB.out)⟩⟩
           · have hltz : ¬ (kk : Int) < (Q.length : Int) := by omega
             have b1 := decide_eq_false hltz
             clear HP
             go_wp2_with (go_at_call 48; refine (cO.out _).mono ?_; rintro e w5 ⟨rfl, hd⟩; have hb := hd.below; clear hd; replace HB := Aside0.mk (below_then HB.out HB.out.size hb); clear hb)
             first
               | (go_loopg [35] word.size (fun gg v35 wr => ∃ kk : Nat, kk ≤ word.size ∧ word.size - kk ≤ gg ∧ v35 = .int .i64 kk ∧ Aside0 (Below w.heap.size w wr))
                  case atStart => exact ⟨0, Nat.zero_le _, by omega, rfl, ⟨by repeat (first | (with_reducible first | exact HB.out | apply below_alloc | apply pw_below_drewN | apply below_drew1) | exact HB.out)⟩⟩
                  case round =>
                    clear HB
                    obtain ⟨kk, hkk, hgg, rfl, HB⟩ := hrel
                    by_cases hlt : kk < word.size
                    · have ws2 := hws.out
                      have pq2 := hpq.out
                      have per1 := hper1.out kk hlt
                      have per2 := hper2.out kk hlt
                      obtain ⟨z, hz⟩ : ∃ z : Int, z = (kk : Int) := ⟨_, rfl⟩
                      rw [← hz] at per1 per2 ⊢
                      have b1 : decide (z < (word.size : Int)) = true := decide_eq_true (by omega)
                      have b2 := eq_true (show (0 : Int) ≤ z by omega)
                      have b2d : decide ((0 : Int) ≤ z) = true := decide_eq_true (by omega)
                      have b3 := eq_true (show z < (word.size : Int) by omega)
                      have b4 := Aside0.mk (show kk < word.size from hlt)
                      have bz := bt_at word z
                      have hw5 := Aside0.mk (show wrap64 (z + 1) = ((kk + 1 : Nat) : Int) by rw [w64 (by omega) (by omega)]; omega)
                      rcases Decidable.em (p ≤ z) with hp | hp <;> rcases Decidable.em (q ≤ z) with hq | hq
                      all_goals
                        first | (have p1 : decide (p ≤ z) = true := decide_eq_true hp; obtain ⟨jp, hjp⟩ : ∃ jp : Int, z - p = jp := ⟨_, rfl⟩; have p2 : wrap64 (z - p) = jp := (by rw [w64 (by omega) (by omega)]; exact hjp); have p2w : IntKind.i64.wrap (z - p) = jp := (i64_w _).trans p2; have p3 := eq_true (show (0 : Int) ≤ jp by omega); have p3d : decide ((0 : Int) ≤ jp) = true := decide_eq_true (by omega); have p4 := eq_true (show jp < (word.size : Int) by omega); have p4d : decide (jp < (word.size : Int)) = true := decide_eq_true (by omega); have pat := bt_at word jp; have p6 : (bt word z != bt word jp) = false := (by have := per1 hp; rw [hjp] at this; rw [this]; simp); clear hjp) | (have p1 : decide (p ≤ z) = false := decide_eq_false hp)
                        first | (have q1 : decide (q ≤ z) = true := decide_eq_true hq; obtain ⟨jq, hjq⟩ : ∃ jq : Int, z - q = jq := ⟨_, rfl⟩; have q2 : wrap64 (z - q) = jq := (by rw [w64 (by omega) (by omega)]; exact hjq); have q2w : IntKind.i64.wrap (z - q) = jq := (i64_w _).trans q2; have q3 := eq_true (show (0 : Int) ≤ jq by omega); have q3d : decide ((0 : Int) ≤ jq) = true := decide_eq_true (by omega); have q4 := eq_true (show jq < (word.size : Int) by omega); have q4d : decide (jq < (word.size : Int)) = true := decide_eq_true (by omega); have qat := bt_at word jq; have q6 : (bt word z != bt word jq) = false := (by have := per2 hq; rw [hjq] at this; rw [this]; simp); clear hjq) | (have q1 : decide (q ≤ z) = false := decide_eq_false hq)
                        clear hp hq hlt ws2 pq2 per1 per2 hz
                        go_wp2
                        repeat (go_quiet (fail); try go_wp2)
                        go_roundg (word.size - (kk + 1))
                        case measure => have := b4.out; omega
                        case rel => exact ⟨kk + 1, by have := b4.out; omega, by omega, by first | rfl | rw [hw5.out], ⟨by repeat (first | (with_reducible first | exact HB.out | apply below_alloc | apply pw_below_drewN | apply below_drew1) | exact HB.out)⟩⟩
                    · have hltz : ¬ (kk : Int) < (word.size : Int) := by omega
                      have b1 := decide_eq_false hltz
                      go_wp2
                      go_ret
                      exact ⟨rfl, HB.out⟩)
               | (repeat (go_quiet (fail); try go_wp2)
                  go_ret
                  exact ⟨by first | rfl | simp, HB.out⟩))
      | (go_loopg [35] word.size (fun gg v35 wr => ∃ kk : Nat, kk ≤ word.size ∧ word.size - kk ≤ gg ∧ v35 = .int .i64 kk ∧ Aside0 (Below w.heap.size w wr))
         case atStart => exact ⟨0, Nat.zero_le _, by omega, rfl, ⟨by repeat (first | (with_reducible first | exact HB.out | apply below_alloc | apply pw_below_drewN | apply below_drew1) | exact HB.out)⟩⟩
         case round =>
           clear HB
           obtain ⟨kk, hkk, hgg, rfl, HB⟩ := hrel
           by_cases hlt : kk < word.size
           · have ws2 := hws.out
             have pq2 := hpq.out
             have per1 := hper1.out kk hlt
             have per2 := hper2.out kk hlt
             obtain ⟨z, hz⟩ : ∃ z : Int, z = (kk : Int) := ⟨_, rfl⟩
             rw [← hz] at per1 per2 ⊢
             have b1 : decide (z < (word.size : Int)) = true := decide_eq_true (by omega)
             have b2 := eq_true (show (0 : Int) ≤ z by omega)
             have b2d : decide ((0 : Int) ≤ z) = true := decide_eq_true (by omega)
             have b3 := eq_true (show z < (word.size : Int) by omega)
             have b4 := Aside0.mk (show kk < word.size from hlt)
             have bz := bt_at word z
             have hw5 := Aside0.mk (show wrap64 (z + 1) = ((kk + 1 : Nat) : Int) by rw [w64 (by omega) (by omega)]; omega)
             rcases Decidable.em (p ≤ z) with hp | hp <;> rcases Decidable.em (q ≤ z) with hq | hq
             all_goals
               first | (have p1 : decide (p ≤ z) = true := decide_eq_true hp; obtain ⟨jp, hjp⟩ : ∃ jp : Int, z - p = jp := ⟨_, rfl⟩; have p2 : wrap64 (z - p) = jp := (by rw [w64 (by omega) (by omega)]; exact hjp); have p2w : IntKind.i64.wrap (z - p) = jp := (i64_w _).trans p2; have p3 := eq_true (show (0 : Int) ≤ jp by omega); have p3d : decide ((0 : Int) ≤ jp) = true := decide_eq_true (by omega); have p4 := eq_true (show jp < (word.size : Int) by omega); have p4d : decide (jp < (word.size : Int)) = true := decide_eq_true (by omega); have pat := bt_at word jp; have p6 : (bt word z != bt word jp) = false := (by have := per1 hp; rw [hjp] at this; rw [this]; simp); clear hjp) | (have p1 : decide (p ≤ z) = false := decide_eq_false hp)
               first | (have q1 : decide (q ≤ z) = true := decide_eq_true hq; obtain ⟨jq, hjq⟩ : ∃ jq : Int, z - q = jq := ⟨_, rfl⟩; have q2 : wrap64 (z - q) = jq := (by rw [w64 (by omega) (by omega)]; exact hjq); have q2w : IntKind.i64.wrap (z - q) = jq := (i64_w _).trans q2; have q3 := eq_true (show (0 : Int) ≤ jq by omega); have q3d : decide ((0 : Int) ≤ jq) = true := decide_eq_true (by omega); have q4 := eq_true (show jq < (word.size : Int) by omega); have q4d : decide (jq < (word.size : Int)) = true := decide_eq_true (by omega); have qat := bt_at word jq; have q6 : (bt word z != bt word jq) = false := (by have := per2 hq; rw [hjq] at this; rw [this]; simp); clear hjq) | (have q1 : decide (q ≤ z) = false := decide_eq_false hq)
               clear hp hq hlt ws2 pq2 per1 per2 hz
               go_wp2
               repeat (go_quiet (fail); try go_wp2)
               go_roundg (word.size - (kk + 1))
               case measure => have := b4.out; omega
               case rel => exact ⟨kk + 1, by have := b4.out; omega, by omega, by first | rfl | rw [hw5.out], ⟨by repeat (first | (with_reducible first | exact HB.out | apply below_alloc | apply pw_below_drewN | apply below_drew1) | exact HB.out)⟩⟩
           · have hltz : ¬ (kk : Int) < (word.size : Int) := by omega
             have b1 := decide_eq_false hltz
             go_wp2
             go_ret
             exact ⟨rfl, HB.out⟩)
      | (repeat (go_quiet (fail); try go_wp2)
         go_ret
         exact ⟨by first | rfl | simp, HB.out⟩)
set_option maxHeartbeats 2000000 in
set_option maxRecDepth 100000 in
theorem laws_FnDoubleWords.long (A0 : Option Addr) (cc : Nat) (l0 : List Int) (w : World) (hr0 : Kd.C (Kd.int .u8) w A0 l0.length l0) (hc0 : l0.length ≤ cc) (hbig : l0.length > 4096) :
    Calls Try.prog 5 #[.slice A0 l0.length cc] w fun e w' => e = .returned (.bool true) ∧ Below w.heap.size w w' := by
  have cG := Aside0.mk (fun W h => laws_big.calls A0 cc l0 true W h hc0 (by unfold laws_big.f; rw [decide_eq_true (by omega)]))
  have HR0 := Aside0.mk hr0
  clear hr0 hc0 hbig
  go_enter Try.func5, Try.ntmps5
  go_wp2_with (go_at_call 6; refine (cG.out _ HR0.out).mono ?_; rintro e wg ⟨rfl, hd⟩; have HB := Aside0.mk hd.below; clear hd)
  go_ret
  exact ⟨rfl, HB.out⟩
def laws_FnDoubleWords.Pure : Prop := ∀ (l0 : List Int), l0.length ≤ maxLen → l0.length * 1 ≤ 140737488351232 → (∀ x ∈ l0, (Lit.int .u8 x).wf = true) → l0.length > 4096 ∨ (l0.length ≤ 4096 ∧ ∃ (k : Nat) (word a u : ByteArray) (p q ap bp len : Int) (Q : List ByteArray) (lyn : Bool) (c1 c2 c3 c4 : Int),
  spec_DrawDoubleWord.f k l0 = some (p, q) ∧ impl_DoubleWord.f k p q = some (word, c1) ∧ spec_DoubleWord.f k p q = some (word, c1) ∧ spec_DrawDoubleLength.f k l0 = some (ap, bp) ∧ impl_DoubleLength.f k ap bp = some (len, c2) ∧ spec_DoubleLength.f k ap bp = some (len, c2) ∧
  spec_DrawLyndonParts.f k l0 = some a ∧ impl_LyndonParts.f k a = some (Q, c3) ∧ spec_LyndonParts.f k a = some (Q, c3) ∧ laws_words9.f k Q Q = some true ∧ spec_DrawIsLyndon.f k l0 = some u ∧ impl_IsLyndon.f k u = some (lyn, c4) ∧ spec_IsLyndon.f k u = some (lyn, c4) ∧
  (c4 ≠ 0 ∨ (c4 = 0 ∧ lyn = false) ∨ (c4 = 0 ∧ lyn = true ∧ impl_LeastTurned.f k u = some (u, 0, 0) ∧ impl_CountTurned.f k u = some ((u.size : Int), 0))) ∧
  (c3 ≠ 0 ∨ (c3 = 0 ∧ laws_joined9.f k Q = some a ∧ Q.length ≤ 1000 ∧ (∀ j : Nat, j < Q.length → impl_IsLyndon.f k (rdOf ByteArray.empty Q j) = some (true, 0)) ∧ (∀ j : Nat, j + 1 < Q.length → Op.bytesLess (rdOf ByteArray.empty Q j).toList (rdOf ByteArray.empty Q (j + 1 : Nat)).toList = false))) ∧
  ((c1 ≠ 0 ∧ word = ⟨#[]⟩) ∨ (c1 = 0 ∧ impl_DoubleLength.f k p q = some ((word.size : Int), 0) ∧ word.size ≤ 1000 ∧ (1 ≤ p ∧ p ≤ 1000 ∧ 1 ≤ q ∧ q ≤ 1000) ∧ (∀ i : Nat, i < word.size → p ≤ (i : Int) → bt word ((i : Int) - p) = bt word i) ∧ (∀ i : Nat, i < word.size → q ≤ (i : Int) → bt word ((i : Int) - q) = bt word i))))
theorem laws_FnDoubleWords.walk (P : laws_FnDoubleWords.Pure) (a0 : Option Addr) (len0 cap0 : Nat) (z0 : List Int) (w : World) (w0 : (a0 = none ∧ len0 = 0 ∧ cap0 = 0 ∧ z0 = []) ∨ ∃ x, a0 = some x ∧ len0 ≤ cap0 ∧ cap0 ≤ maxLen ∧ z0.length = cap0 ∧ (∀ i, i < z0.length → w.cell? (x.add i) = some (.int .u8 (z0.getD i 0))) ∧ ∀ n ∈ z0, (Lit.int .u8 n).wf = true) (y0 : len0 * 1 ≤ 140737488351232) :
    Calls Try.prog 5 #[.slice a0 len0 cap0] w fun e w' => e = .returned (.bool true) ∧ Below w.heap.size w w' := by
  obtain ⟨l0, rfl, hr0, hm0, hw0, hc0⟩ := ReadsInt.ofRowC w0
  have hr := Kd.C_of_reads (d := (0 : Int)) (h1 := fun _ => rfl) hr0
  rcases P l0 hm0 y0 hw0 with h | ⟨hb, k, word, a, u, p, q, ap, bp, len, Q, lyn, c1, c2, c3, c4, h0, h1, h2, h3, h4, h5, h6, h7, h8, h9, h10, h11, h12, f4, f3, f1⟩
  · exact laws_FnDoubleWords.long _ _ l0 w hr hc0 h
  · exact laws_FnDoubleWords.paths k _ _ l0 word a u p q ap bp len Q lyn c1 c2 c3 c4 w hr hc0 hb h0 h1 h2 h3 h4 h5 h6 h7 h8 h9 h10 h11 h12 f4 f3 f1


end Go.Proofs.Ytmihfmhfgjnfcab.Q
