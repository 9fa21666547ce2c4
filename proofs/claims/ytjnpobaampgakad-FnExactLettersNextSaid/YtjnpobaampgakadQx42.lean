-- Made by this session's program hyb.py out of Lean's print of the program; Lean checks it.
import Derived.Test.YtjnpobaampgakadQx0
import Derived.Test.YtjnpobaampgakadQx16
import Derived.Test.YtjnpobaampgakadQx57
import Derived.Test.YtjnpobaampgakadQx82
import Derived.Test.YtjnpobaampgakadQx83
import Derived.Test.YtjnpobaampgakadQx84
import Derived.Test.YtjnpobaampgakadQx98
namespace Go.Proofs.Ytjnpobaampgakad.Q
open Go.RowKit Go.Proofs.YtjnpobaampgakadW.PrintWords Go.Proofs.YtjnpobaampgakadW.PrintLast Go.Proofs.YtjnpobaampgakadW.PrintMore
attribute [local go_sem] max2_int min2_int max_two min_two max_three min_three max_four min_four bn_leq bn_gtr bn_geq   -- for this text's walks alone
set_option linter.unusedVariables false
set_option linter.unusedSimpArgs false

/-! ### impl_LettersNext: function 42 (this session's own) -/
theorem xw_isLetters (x : Int) (W : World) : Calls Try.prog 81 #[.int .i64 x] W fun e w' => e = .returned (.bool (inR x 1 5)) ∧ Below W.heap.size W w' := by
  go_enter Try.func81, Try.ntmps81
  go_wp2_with (go_at_call 75; refine (xw_within _ _ _ _).mono ?_; rintro e w' ⟨rfl, rfl⟩)
  go_ret
  exact ⟨rfl, Below.refl _ _⟩
def nextN (k : Nat) (w : ByteArray) : Nat → Nat → List Int → Option (List Int)
  | 0, _, acc => some acc
  | d + 1, n, acc => if w.size < 60 then ((impl_letter.f (n : Int)).bind fun t => (impl_endsFree.f k (w ++ t)).bind fun b => nextN k w d (n + 1) (if b then acc ++ [(n : Int)] else acc)) else nextN k w d (n + 1) acc
theorem nextN_mono (w : ByteArray) (k : Nat) : ∀ d n acc, LeO (nextN k w d n acc) (nextN (k + 1) w d n acc)
  | 0, _, _ => LeO.refl _
  | d + 1, n, acc => by
    unfold nextN
    exact LeO.ite (LeO.bind (LeO.refl _) fun _ => LeO.bind (impl_endsFree.mono _ _) fun _ => nextN_mono w k d _ _) (nextN_mono w k d _ _)
set_option maxHeartbeats 2000000 in
theorem xw_LettersNext1 (a1 : Int) (b0 : Nat) (W : World) (h0 : W.cell? ⟨b0, 0, none⟩ = some (.int .i64 a1)) :
    Calls Try.prog 80 #[.pointer (some ⟨b0, 0, none⟩)] W fun e w' => e = .returned (.bool (inR a1 1 5)) ∧ Below W.heap.size W w' := by
  have hI := xw_isLetters a1 W
  go_enter Try.func80, Try.ntmps80
  go_wp2_with (go_at_call 81; refine hI.mono ?_; rintro e w' ⟨rfl, hb⟩)
  go_ret
  exact ⟨rfl, hb⟩
def impl_LettersNext.f (k : Nat) (a0 : ByteArray) (a1 : Int) : Option ((List Int) × Int) :=
  if (isW a0) = true then (if (inR a1 1 5) = true then ((impl_isSquareFree.f k a0).bind fun b => if b = true then ((nextN k a0 a1.toNat 0 []).bind fun t => some (t, 0)) else some ([], 4)) else some ([], 2)) else some ([], 1)
theorem impl_LettersNext.mono : ∀ a0 a1 k, LeO (impl_LettersNext.f k a0 a1) (impl_LettersNext.f (k + 1) a0 a1) := by
  intro a0 a1 k
  unfold impl_LettersNext.f
  exact LeO.ite (LeO.ite (LeO.bind (impl_isSquareFree.mono _ _) fun _ => LeO.ite (LeO.bind (nextN_mono _ _ _ _ _) fun _ => LeO.refl _) (LeO.refl _)) (LeO.refl _)) (LeO.refl _)
set_option maxHeartbeats 4000000 in
theorem impl_LettersNext.calls (k : Nat) (a0 : ByteArray) (a1 : Int) (r1 : List Int) (r2 : Int) (w : World) (h : impl_LettersNext.f k a0 a1 = some (r1, r2)) :
    Calls Try.prog 42 #[.string a0, .int .i64 a1] w fun e w' => ∃ v0_ : Value, e = .returned (.tuple #[v0_, .int .i64 r2]) ∧ Kd.R (Kd.int .i64) 2 w' w.heap.size (fun _ => True) v0_ r1 ∧ Below w.heap.size w w' := by
  unfold impl_LettersNext.f at h
  obtain ⟨c, hc⟩ : ∃ c : Int, c = (if isW a0 then (if inR a1 1 5 then 0 else 2) else 1) := ⟨_, rfl⟩
  have hC : Aside0 (∀ (W : World), Below w.heap.size w W → w.heap.size + 1 < W.heap.size → W.cell? ⟨w.heap.size, 0, none⟩ = some (.int .i64 a1) → W.cell? ⟨w.heap.size + 1, 0, none⟩ = some (.string a0) →
      Calls Try.prog 57 #[.func (.func 80) #[] #[.pointer (some ⟨w.heap.size, 0, none⟩)], .slice (some ⟨w.heap.size + 1, 0, none⟩) 1 1] W fun e w' => e = .returned (.int .i64 c) ∧ Below w.heap.size w w' ∧ w.heap.size + 1 < w'.heap.size ∧ w'.cell? ⟨w.heap.size, 0, none⟩ = some (.int .i64 a1)) := ⟨fun W hB hsz h0 h1 => by
    refine (xw_wordCode (inR a1 1 5) 80 _ (enters_of Try.func80 (by kernel_rfl) rfl) _ 1 [a0] W (xw_C_one W (w.heap.size + 1) a0 h1) (by simp) (fun W2 hb2 => ?_)).mono ?_
    · exact xw_LettersNext1 a1 _ W2 ((hb2.cell (p := ⟨w.heap.size, 0, none⟩) (by simp; omega)).trans h0)
    · rintro e w' ⟨rfl, hb⟩
      refine ⟨by rw [hc]; simp, below_then hB (by omega) hb, Nat.lt_of_lt_of_le hsz hb.size, (hb.cell (p := ⟨w.heap.size, 0, none⟩) (by simp; omega)).trans h0⟩⟩
  have hq := hC.out ((w.alloc (.cells #[.int .i64 a1] 2)).alloc (.cells #[.string a0] 9)) ((((Below.refl _ w).alloc (by simp <;> omega) _).alloc (by simp <;> omega) _)) (by simp) (by simp [go_sem]) (by simp [go_sem])
  clear hC
  have hmk := xw_mkf
  cases hw : (isW a0) with
  | false =>
    rw [hw] at h hc
    obtain ⟨rfl, rfl⟩ : ([] : List Int) = r1 ∧ (1 : Int) = r2 := by simpa using h
    obtain rfl : c = 1 := by simpa using hc
    clear h hc hw
    go_enter Try.func42, Try.ntmps42
    go_wp2_with (go_at_call 57; refine hq.mono ?_; rintro e w' ⟨rfl, hb, hz, hc0⟩; have hb' := Aside0.mk hb; clear hb)
    go_ret2
    exact ⟨_, rfl, Kd.R_nil _ _ _ _ _, hb'.out⟩
  | true =>
    cases hk : (inR a1 1 5) with
    | false =>
      rw [hw, hk] at h hc
      obtain ⟨rfl, rfl⟩ : ([] : List Int) = r1 ∧ (2 : Int) = r2 := by simpa using h
      obtain rfl : c = 2 := by simpa using hc
      clear h hc hw hk
      go_enter Try.func42, Try.ntmps42
      go_wp2_with (go_at_call 57; refine hq.mono ?_; rintro e w' ⟨rfl, hb, hz, hc0⟩; have hb' := Aside0.mk hb; clear hb)
      go_ret2
      exact ⟨_, rfl, Kd.R_nil _ _ _ _ _, hb'.out⟩
    | true =>
      rw [hw, hk] at h hc
      obtain rfl : c = 0 := by simpa using hc
      clear hc
      simp only [if_true] at h
      obtain ⟨b, hs, h⟩ := Option.bind_eq_some_iff.mp h
      have hz := Aside0.mk (isW_size hw)
      obtain ⟨m1, m2⟩ := inR_true hk
      have hsq : Aside0 (∀ W : World, Calls Try.prog 82 #[.string a0] W fun e w' => e = .returned (.bool b) ∧ Below W.heap.size W w') := ⟨fun W => impl_isSquareFree.calls k a0 b W hs⟩
      clear hs hw hk
      cases b
      case false =>
        obtain ⟨rfl, rfl⟩ : ([] : List Int) = r1 ∧ (4 : Int) = r2 := by simpa using h
        clear h
        go_enter Try.func42, Try.ntmps42
        go_wp2_with (first | (go_at_call 57; refine hq.mono ?_; rintro e w' ⟨rfl, hb, hz, hc0⟩; have hb' := Aside0.mk hb; clear hb) | (go_at_call 82; refine (hsq.out _).mono ?_; rintro e w2 ⟨rfl, hb2⟩; have hb2' := Aside0.mk hb2; clear hb2))
        go_ret2
        exact ⟨_, rfl, Kd.R_nil _ _ _ _ _, below_then hb'.out hb'.out.size hb2'.out⟩
      simp only [if_true] at h
      obtain ⟨t, ht, h⟩ := Option.bind_eq_some_iff.mp h
      obtain ⟨rfl, rfl⟩ : t = r1 ∧ (0 : Int) = r2 := by simpa using h
      have ht' := Aside0.mk ht
      obtain ⟨m, rfl⟩ := Int.eq_ofNat_of_zero_le (show 0 ≤ a1 by omega)
      have hm5 := Aside0.mk (show m ≤ 5 by omega)
      rw [Int.toNat_natCast] at ht'
      clear h ht m1 m2
      go_enter Try.func42, Try.ntmps42
      go_wp2_with (first | (go_at_call 57; refine hq.mono ?_; rintro e w' ⟨rfl, hb, hz, hc0⟩; have hb' := Aside0.mk hb; clear hb) | (go_at_call 82; refine (hsq.out _).mono ?_; rintro e w2 ⟨rfl, hb2⟩; have hc1 := (hb2.cell (p := ⟨w.heap.size, 0, none⟩) (by simp; omega)).trans hc0; have hb2' := Aside0.mk hb2; clear hb2 hc0))
      have HB := Aside0.mk (below_then hb'.out hb'.out.size hb2'.out)
      go_loopg [7, 8, 20] m (fun gg v7 v8 v20 wr => ∃ (d n : Nat) (acc : List Int), n + d = m ∧ d ≤ gg ∧ v20 = .int .i64 (n : Int) ∧ acc.length ≤ n ∧ Aside0 (nextN k a0 d n acc = some t) ∧ Aside0 (Kd.R (Kd.int .i64) 2 wr w.heap.size (fun _ => True) v7 acc) ∧ Aside0 (Below w.heap.size w wr))
      case atStart => exact ⟨m, 0, [], by omega, by omega, rfl, Nat.le_refl _, ht', ⟨Kd.R_nil _ _ _ _ _⟩, HB⟩
      case round =>
        clear HB hb' hb2'
        obtain ⟨d, n, acc, hnd, hdg, rfl, hal, hn, HO, HB⟩ := hrel
        cases d with
        | zero =>
          obtain rfl : n = m := by omega
          have hn' := hn.out
          obtain rfl : acc = t := by simpa [nextN] using hn'
          have c1 : decide ((n : Int) < (n : Int)) = false := decide_eq_false (by omega)
          clear hn hn'
          go_wp2
          go_ret2
          exact ⟨_, rfl, HO.out, HB.out⟩
        | succ d =>
          have hlt : (n : Int) < (m : Int) := by omega
          have c1 := decide_eq_true hlt
          have hn' := hn.out
          simp only [nextN] at hn'
          have hm5' := hm5.out
          have hnw := Aside0.mk (show wrap64 ((n : Int) + 1) = ((n + 1 : Nat) : Int) by rw [w64 (by omega) (by omega)]; rfl)
          by_cases h60 : a0.size < 60
          · rw [if_pos h60] at hn'
            have c2 : decide ((a0.size : Int) < 60) = true := decide_eq_true (by omega)
            obtain ⟨u, hu, hn'⟩ := Option.bind_eq_some_iff.mp hn'
            obtain ⟨b, he, hn'⟩ := Option.bind_eq_some_iff.mp hn'
            have hus : u.size = 1 := by
              unfold impl_letter.f at hu
              obtain rfl := Option.some.inj hu
              rfl
            have c7 : a0.size + u.size ≤ 9223372036854775807 := by omega
            have c7b := decide_eq_true c7
            have c7c : (9223372036854775807 < a0.size + u.size) = False := eq_false (Nat.not_lt.2 c7)
            have hL := Aside0.mk (fun W => impl_letter.calls (n : Int) u W hu)
            have hE := Aside0.mk (fun W => impl_endsFree.calls k (a0 ++ u) b W he)
            have hn2 := Aside0.mk hn'
            clear hn' hn hu he hus h60 c7 hm5'
            obtain ⟨A7, q7, rfl⟩ := Kd.R_slice HO.out
            have LM := Aside0.mk (show acc.length < 17592186044416 by have := hm5.out; omega)
            cases b with
            | false =>
              go_wp2_with (first | (go_at_call 84; refine (hL.out _).mono ?_; rintro e w3 ⟨rfl, hb3⟩; have HO3 := Aside0.mk (Kd.R_below HO.out hb3); have HB3 := Aside0.mk (below_then HB.out HB.out.size hb3); clear hb3 HO HB) | (go_at_call 83; refine (hE.out _).mono ?_; rintro e w4 ⟨rfl, ⟨nd, rfl⟩⟩))
              go_roundg d
              case measure => omega
              case rel => exact ⟨d, n + 1, acc, by omega, by omega, by rw [hnw.out], by omega, hn2, ⟨by (with_reducible repeat (first | apply Kd.R_drewN | apply Kd.R_drew)); exact HO3.out⟩, ⟨by repeat (first | exact HB3.out | apply pw_below_drewN | apply below_drew1)⟩⟩
            | true =>
              go_wp2_with (first | (go_at_call 84; refine (hL.out _).mono ?_; rintro e w3 ⟨rfl, hb3⟩; have HO3 := Aside0.mk (Kd.R_below HO.out hb3); have HB3 := Aside0.mk (below_then HB.out HB.out.size hb3); clear hb3 HO HB) | (go_at_call 83; refine (hE.out _).mono ?_; rintro e w4 ⟨rfl, ⟨nd, rfl⟩⟩) | ((with_reducible refine gate_builtin (b := .append) (xs := #[.tmp 33, .tmp 35]) rfl ?_); at_builtin; refine Kd.R_append (Kd.int .i64) (w0 := w) w.heap.size rfl (.tmp 33) (.tmp 35) 22 2 (.int .i64 0) 8 rfl Try.underlying22 info2 rfl (by decide) (by omega) _ acc (n : Int) [.int .i64 (n : Int)] (fun _ => True) (fun _ => False) rfl rfl ?aP (fun _ hk => hk.elim) ?aF ?aO ?aB ?aS ?aL ?_; (case aP => exact rfl); (case aB => exact (by repeat (first | (with_reducible first | exact HB3.out | apply below_alloc | apply pw_below_drewN | apply below_drew1) | exact HB3.out))); (case aF => exact (fun _ _ => trivial)); (case aO => exact (by (with_reducible repeat (first | apply Kd.R_alloc | apply Kd.R_drewN | apply Kd.R_drew)); exact HO3.out)); (case aS => exact (below_size (by repeat (first | (with_reducible first | exact HB3.out | apply below_alloc | apply pw_below_drewN | apply below_drew1) | exact HB3.out)))); (case aL => have := LM.out; omega); intro v108 w9 ho hb hg hat; have HB9 := Aside0.mk hb; have HO9 := Aside0.mk ho; clear ho hb hg hat HB3 HO3))
              go_roundg d
              case measure => omega
              case rel => exact ⟨d, n + 1, acc ++ [(n : Int)], by omega, by omega, by rw [hnw.out], by simp; omega, hn2, HO9, HB9⟩
          · rw [if_neg h60] at hn'
            have c2 : decide ((a0.size : Int) < 60) = false := decide_eq_false (by omega)
            have hn2 := Aside0.mk hn'
            clear hn' hn hm5' h60
            go_wp2
            go_roundg d
            case measure => omega
            case rel => exact ⟨d, n + 1, acc, by omega, by omega, by rw [hnw.out], by omega, hn2, HO, HB⟩



end Go.Proofs.Ytjnpobaampgakad.Q
