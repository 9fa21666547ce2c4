-- Made by this session's program hyb.py out of Lean's print of the program; Lean checks it.
import Derived.Test.YtmihfmhfgjnfcaaQx0
import Derived.Test.YtmihfmhfgjnfcaaQx18
import Derived.Test.YtmihfmhfgjnfcaaQx57
import Derived.Test.YtmihfmhfgjnfcaaQx76
import Derived.Test.YtmihfmhfgjnfcaaQx109
namespace Go.Proofs.Ytmihfmhfgjnfcaa.Q
open Go.RowKit Go.Proofs.YtmihfmhfgjnfcaaW.PrintWords Go.Proofs.YtmihfmhfgjnfcaaW.PrintLast Go.Proofs.YtmihfmhfgjnfcaaW.PrintMore
attribute [local go_sem] max2_int min2_int max_two min_two max_three min_three max_four min_four bn_leq bn_gtr bn_geq   -- for this text's walks alone
set_option linter.unusedVariables false
set_option linter.unusedSimpArgs false

/-! ### impl_PowersIn: function 28 (this session's own) -/
set_option maxHeartbeats 2000000 in
theorem xw_PowersIn1 (a1 : Int) (b0 : Nat) (W : World) (h0 : W.cell? ⟨b0, 0, none⟩ = some (.int .i64 a1)) :
    Calls Try.prog 82 #[.pointer (some ⟨b0, 0, none⟩)] W fun e w' => e = .returned (.bool (inR a1 2 60)) ∧ Below W.heap.size W w' := by
  have hI := xw_within a1 2 60 W
  go_enter Try.func82, Try.ntmps82
  go_wp2_with (go_at_call 62; refine hI.mono ?_; rintro e w' ⟨rfl, rfl⟩)
  go_ret
  exact ⟨rfl, by repeat (first | exact Below.refl _ _ | apply pw_below_drewN | apply below_drew)⟩
def impl_PowersIn.f (k : Nat) (a0 : ByteArray) (a1 : Int) : Option ((List (List Int)) × Int) :=
  if (isW a0) = true then (if (inR a1 2 60) = true then ((impl_powersIn.f k a0 a1).bind fun t => some (t, 0)) else some ([], 2)) else some ([], 1)
theorem impl_PowersIn.mono : ∀ a0 a1 k, LeO (impl_PowersIn.f k a0 a1) (impl_PowersIn.f (k + 1) a0 a1) := by
  intro a0 a1 k
  unfold impl_PowersIn.f
  exact LeO.ite (LeO.ite (LeO.bind (impl_powersIn.mono _ _ _) (fun _ => LeO.refl _)) (LeO.refl _)) (LeO.refl _)
set_option maxHeartbeats 4000000 in
theorem impl_PowersIn.calls (k : Nat) (a0 : ByteArray) (a1 : Int) (r1 : List (List Int)) (r2 : Int) (w : World) (h : impl_PowersIn.f k a0 a1 = some (r1, r2)) :
    Calls Try.prog 28 #[.string a0, .int .i64 a1] w fun e w' => ∃ v0_ : Value, e = .returned (.tuple #[v0_, .int .i64 r2]) ∧ Kd.S (Kd.slice 2 (Kd.int .i64)) 51 w' w.heap.size (fun _ => True) v0_ r1 ∧ Below w.heap.size w w' := by
  unfold impl_PowersIn.f at h
  obtain ⟨c, hc⟩ : ∃ c : Int, c = (if isW a0 then (if inR a1 2 60 then 0 else 2) else 1) := ⟨_, rfl⟩
  have hC : Aside0 (∀ (W : World), Below w.heap.size w W → w.heap.size + 1 < W.heap.size → W.cell? ⟨w.heap.size, 0, none⟩ = some (.int .i64 a1) → W.cell? ⟨w.heap.size + 1, 0, none⟩ = some (.string a0) →
      Calls Try.prog 57 #[.func (.func 82) #[] #[.pointer (some ⟨w.heap.size, 0, none⟩)], .slice (some ⟨w.heap.size + 1, 0, none⟩) 1 1] W fun e w' => e = .returned (.int .i64 c) ∧ Below w.heap.size w w' ∧ w.heap.size + 1 < w'.heap.size ∧ w'.cell? ⟨w.heap.size, 0, none⟩ = some (.int .i64 a1)) := ⟨fun W hB hsz h0 h1 => by
    refine (xw_wordCode (inR a1 2 60) 82 _ (enters_of Try.func82 (by kernel_rfl) rfl) _ 1 [a0] W (xw_C_one W (w.heap.size + 1) a0 h1) (by simp) (fun W2 hb2 => ?_)).mono ?_
    · exact xw_PowersIn1 a1 _ W2 ((hb2.cell (p := ⟨w.heap.size, 0, none⟩) (by simp; omega)).trans h0)
    · rintro e w' ⟨rfl, hb⟩
      refine ⟨by rw [hc]; simp, below_then hB (by omega) hb, Nat.lt_of_lt_of_le hsz hb.size, (hb.cell (p := ⟨w.heap.size, 0, none⟩) (by simp; omega)).trans h0⟩⟩
  have hq := hC.out ((w.alloc (.cells #[.int .i64 a1] 2)).alloc (.cells #[.string a0] 9)) ((((Below.refl _ w).alloc (by simp <;> omega) _).alloc (by simp <;> omega) _)) (by simp) (by simp [go_sem]) (by simp [go_sem])
  clear hC
  have hmk := xw_mkf
  cases hw : (isW a0) with
  | false =>
    rw [hw] at h hc
    obtain ⟨rfl, rfl⟩ : ([] : List (List Int)) = r1 ∧ (1 : Int) = r2 := by simpa using h
    obtain rfl : c = 1 := by simpa using hc
    clear h hc hw
    go_enter Try.func28, Try.ntmps28
    go_wp2_with (go_at_call 57; refine hq.mono ?_; rintro e w' ⟨rfl, hb, hz, hc0⟩; have hb' := Aside0.mk hb; clear hb)
    go_ret2
    exact ⟨_, rfl, Kd.S_nil _ _ _ _ _, hb'.out⟩
  | true =>
    cases hk : (inR a1 2 60) with
    | false =>
      rw [hw, hk] at h hc
      obtain ⟨rfl, rfl⟩ : ([] : List (List Int)) = r1 ∧ (2 : Int) = r2 := by simpa using h
      obtain rfl : c = 2 := by simpa using hc
      clear h hc hw hk
      go_enter Try.func28, Try.ntmps28
      go_wp2_with (go_at_call 57; refine hq.mono ?_; rintro e w' ⟨rfl, hb, hz, hc0⟩; have hb' := Aside0.mk hb; clear hb)
      go_ret2
      exact ⟨_, rfl, Kd.S_nil _ _ _ _ _, hb'.out⟩
    | true =>
      rw [hw, hk] at h hc
      obtain rfl : c = 0 := by simpa using hc
      clear hc
      simp only [if_true] at h
      obtain ⟨t, ht, h⟩ := Option.bind_eq_some_iff.mp h
      obtain ⟨rfl, rfl⟩ : t = r1 ∧ (0 : Int) = r2 := by simpa using h
      have hcal : ∀ W : World, Calls Try.prog 76 #[.string a0, .int .i64 a1] W fun e w' => ∃ v : Value, e = .returned v ∧ Kd.S (Kd.slice 2 (Kd.int .i64)) 51 w' W.heap.size (fun _ => True) v t ∧ Below W.heap.size W w' := fun W => impl_powersIn.calls k a0 a1 t W ht
      clear h ht hw hk
      go_enter Try.func28, Try.ntmps28
      go_wp2_with (first | (go_at_call 57; refine hq.mono ?_; rintro e w' ⟨rfl, hb, hz, hc0⟩; have hb' := Aside0.mk hb; clear hb) | (go_at_call 76; refine (hcal _).mono ?_; rintro e w2 ⟨v, rfl, ho, hb2⟩; have ho' := Aside0.mk ho; have hb2' := Aside0.mk hb2; clear ho hb2))
      go_ret2
      exact ⟨_, rfl, Kd.S_lower ho'.out hb'.out.size, below_then hb'.out hb'.out.size hb2'.out⟩



end Go.Proofs.Ytmihfmhfgjnfcaa.Q
