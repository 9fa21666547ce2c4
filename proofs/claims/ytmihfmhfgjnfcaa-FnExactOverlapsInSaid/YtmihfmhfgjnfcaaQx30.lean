-- Made by this session's program hyb.py out of Lean's print of the program; Lean checks it.
import Derived.Test.YtmihfmhfgjnfcaaQx0
import Derived.Test.YtmihfmhfgjnfcaaQx84
namespace Go.Proofs.Ytmihfmhfgjnfcaa.Q
open Go.RowKit Go.Proofs.YtmihfmhfgjnfcaaW.PrintWords Go.Proofs.YtmihfmhfgjnfcaaW.PrintLast Go.Proofs.YtmihfmhfgjnfcaaW.PrintMore
attribute [local go_sem] max2_int min2_int max_two min_two max_three min_three max_four min_four bn_leq bn_gtr bn_geq   -- for this text's walks alone
set_option linter.unusedVariables false
set_option linter.unusedSimpArgs false

/-! ### laws_markInt64SS: function 30 (this session's own) -/
def markSS (k : Nat) : Nat → Nat → List (List Int) → Int → Option (Int × List (List Int))
  | 0, _, L, m => some (m, L)
  | d + 1, i, L, m => (laws_markInt64S.f k (L.getD i []) m).bind fun z => markSS k d (i + 1) (L.set i z.2) z.1
theorem markSS_mono (k : Nat) : ∀ d i L m, LeO (markSS k d i L m) (markSS (k + 1) d i L m)
  | 0, _, _, _ => LeO.refl _
  | d + 1, i, L, m => by
    unfold markSS
    exact LeO.bind (laws_markInt64S.mono _ _ _) fun _ => markSS_mono k d _ _ _
def laws_markInt64SS.f (k : Nat) (l0 : List (List Int)) (a1 : Int) : Option (Int × List (List Int)) := if l0.length ≤ 1000000 then markSS k l0.length 0 l0 a1 else none
theorem laws_markInt64SS.mono : ∀ a0 a1 k, LeO (laws_markInt64SS.f k a0 a1) (laws_markInt64SS.f (k + 1) a0 a1) := by
  intro a0 a1 k
  unfold laws_markInt64SS.f
  exact LeO.ite (markSS_mono _ _ _ _ _) (LeO.refl _)
set_option maxHeartbeats 4000000 in
theorem laws_markInt64SS.calls (k : Nat) (P0_ : Nat → Prop) (u9000_ : Value) (l0 : List (List Int)) (a1 : Int) (r1 : Int) (r2 : List (List Int)) (w0 w : World) (hB : Below w0.heap.size w0 w) (ho0 : Kd.S (Kd.slice 2 (Kd.int .i64)) 51 w w0.heap.size P0_ u9000_ l0) (h : laws_markInt64SS.f k l0 a1 = some (r1, r2)) :
    Calls Try.prog 30 #[u9000_, .int .i64 a1] w fun e w' => e = .returned (.int .i64 r1) ∧ Kd.S (Kd.slice 2 (Kd.int .i64)) 51 w' w0.heap.size (fun k_ => (P0_ k_ ∨ w.heap.size ≤ k_)) u9000_ r2 ∧ Below w0.heap.size w0 w' ∧ Kept w w' (fun k_ => P0_ k_) := by
  unfold laws_markInt64SS.f at h
  by_cases hbig : l0.length ≤ 1000000
  · rw [if_pos hbig] at h
    obtain ⟨A, c, rfl⟩ := Kd.S_slice ho0
    have hb' := Aside0.mk hbig
    have h' := Aside0.mk h
    have HO := Aside0.mk (Kd.S_mono (ok' := fun k_ => (P0_ k_ ∨ w.heap.size ≤ k_)) ho0 (fun _ hk => .inl hk))
    have HB := Aside0.mk hB
    clear h hbig ho0 hB
    go_enter Try.func30, Try.ntmps30
    go_wp2
    go_loopg [1, 5] l0.length (fun gg v1 v5 wr => ∃ (d i : Nat) (L : List (List Int)) (m : Int), i + d = l0.length ∧ d ≤ gg ∧ v5 = .int .i64 i ∧ v1 = .int .i64 m ∧ Aside0 (L.length = l0.length) ∧ Aside0 (markSS k d i L m = some (r1, r2)) ∧ Aside0 (Kd.S (Kd.slice 2 (Kd.int .i64)) 51 wr w0.heap.size (fun k_ => (P0_ k_ ∨ w.heap.size ≤ k_)) (.slice A l0.length c) L) ∧ Aside0 (Below w0.heap.size w0 wr) ∧ Aside0 (Kept w wr (fun k_ => P0_ k_)))
    case atStart => exact ⟨l0.length, 0, l0, a1, by omega, Nat.le_refl _, rfl, rfl, ⟨rfl⟩, h', HO, HB, ⟨Kept.refl _ _⟩⟩
    case round =>
      clear h' HO HB
      obtain ⟨d, i, L, m, hid, hdg, rfl, rfl, hLl, hm, HO, HB, HK⟩ := hrel
      cases d with
      | zero =>
        obtain rfl : i = l0.length := by omega
        have hm2 := hm.out
        simp only [markSS, Option.some.injEq, Prod.mk.injEq] at hm2
        obtain ⟨rfl, rfl⟩ := hm2
        have c1 : decide ((l0.length : Int) < (l0.length : Int)) = false := decide_eq_false (by omega)
        clear hm
        go_wp2
        go_ret
        exact ⟨rfl, HO.out, HB.out, HK.out⟩
      | succ d =>
        have hlt : i < l0.length := by omega
        have hltz : (i : Int) < (l0.length : Int) := by omega
        have c1 := decide_eq_true hltz
        have c2 := eq_true (show (0 : Int) ≤ (i : Int) by omega)
        have c3 := eq_true hltz
        have c4 := eq_true hlt
        have hm2 := hm.out
        simp only [markSS] at hm2
        obtain ⟨z, hz, hm3⟩ := Option.bind_eq_some_iff.mp hm2
        have hLl2 := hLl.out
        obtain ⟨g, cap, e1, _, _, _⟩ := Kd.S_form HO.out (by omega)
        injection e1 with e1 e2 e3
        subst e1
        clear e2 e3
        obtain ⟨oki, cc, hcl, hM, hcc, hoki, hH⟩ := Kd.S_lend HO.out [] (i : Int) (by omega) hltz
        rw [Int.toNat_natCast] at hM hcc
        obtain ⟨u, rfl, hR⟩ := hM
        have hcell := hcc 0 _ rfl
        rw [show (Kd.slice 2 (Kd.int .i64)).sz = 1 from rfl, Nat.mul_one, Nat.add_zero] at hcell
        have hcal := laws_markInt64S.calls k oki u (L.getD i []) m z.1 z.2 w0 wr HB.out hR hz
        have hH' := Aside0.mk hH
        have hm4 := Aside0.mk hm3
        have hb2 := hb'.out
        have hw5 := Aside0.mk (show wrap64 ((i : Int) + 1) = ((i + 1 : Nat) : Int) by rw [w64 (by omega) (by omega)]; rfl)
        have hoki' := Aside0.mk hoki
        obtain ⟨A2, c2', rfl⟩ := Kd.R_slice hR
        clear hm2 hm3 hm hH hcc hoki hcl hz hb2 hLl2 hR
        generalize L.getD i [] = row at *
        go_wp2_with (go_at_call 84; refine hcal.mono ?_; rintro e w2 ⟨rfl, h1, h2, h3⟩; have H1 := Aside0.mk h1; have H2 := Aside0.mk h2; have H3 := Aside0.mk h3; clear h1 h2 h3)
        go_roundg d
        case measure => omega
        case rel =>
          refine ⟨d, i + 1, L.set i z.2, z.1, by omega, by omega, by rw [hw5.out], rfl, ⟨by rw [List.length_set]; exact hLl.out⟩, hm4, ⟨?_⟩, H2, ⟨?_⟩⟩
          · have hw := Kd.H_step (Kd.H_widen hH'.out) (w1 := w2) (fun k_ _ hn hlt2 => H3.out.2 k_ hlt2 (fun ho => hn (.inl ho)))
            have hS := Kd.H_back hw (x' := z.2) (okp := fun k_ => (oki k_ ∨ wr.heap.size ≤ k_)) ⟨_, rfl, H1.out⟩ (fun k_ hk => by
              rcases hk with hk | hk
              · exact .inl hk
              · exact .inr ⟨.inr (Nat.le_trans HK.out.1 hk), hk⟩)
            rw [Int.toNat_natCast] at hS
            exact hS
          · refine ⟨Nat.le_trans HK.out.1 H3.out.1, fun k_ hk hne => ?_⟩
            refine (H3.out.2 k_ (Nat.lt_of_lt_of_le hk HK.out.1) (fun ho => ?_)).trans (HK.out.2 k_ hk hne)
            rcases (hoki'.out k_ ho).1 with h5 | h5
            · exact hne h5
            · omega
  · rw [if_neg hbig] at h; cases h


end Go.Proofs.Ytmihfmhfgjnfcaa.Q
