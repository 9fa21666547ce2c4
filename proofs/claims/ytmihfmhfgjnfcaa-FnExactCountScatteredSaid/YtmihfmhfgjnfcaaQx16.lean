-- Made by this session's program hyb.py out of Lean's print of the program; Lean checks it.
import Derived.Test.YtmihfmhfgjnfcaaQx0
import Derived.Test.YtmihfmhfgjnfcaaQx57
import Derived.Test.YtmihfmhfgjnfcaaQx59
import Derived.Test.YtmihfmhfgjnfcaaQx109
namespace Go.Proofs.Ytmihfmhfgjnfcaa.Q
open Go.RowKit Go.Proofs.YtmihfmhfgjnfcaaW.PrintWords Go.Proofs.YtmihfmhfgjnfcaaW.PrintLast Go.Proofs.YtmihfmhfgjnfcaaW.PrintMore
attribute [local go_sem] max2_int min2_int max_two min_two max_three min_three max_four min_four bn_leq bn_gtr bn_geq   -- for this text's walks alone
set_option linter.unusedVariables false
set_option linter.unusedSimpArgs false

/-! ### impl_CountScattered: function 16 (this session's own) -/
set_option maxHeartbeats 2000000 in
theorem xw_CountScattered1 (a0 : ByteArray) (b0 : Nat) (W : World) (h0 : W.cell? ⟨b0, 0, none⟩ = some (.string a0)) :
    Calls Try.prog 58 #[.pointer (some ⟨b0, 0, none⟩)] W fun e w' => e = .returned (.bool (decide ((a0.size : Int) ≤ 6))) ∧ Below W.heap.size W w' := by
  go_enter Try.func58, Try.ntmps58
  go_wp2
  go_ret
  exact ⟨by first | rfl | simp, by repeat (first | exact Below.refl _ _ | apply pw_below_drewN | apply below_drew)⟩
def impl_CountScattered.f (a0 : ByteArray) (a1 : ByteArray) : Option (Int × Int) :=
  if (isW a0 && isW a1) = true then (if (decide ((a0.size : Int) ≤ 6)) = true then ((impl_countScattered.f a0 a1).bind fun t => some (t, 0)) else some (0, 2)) else some (0, 1)
set_option maxHeartbeats 4000000 in
theorem impl_CountScattered.calls (a0 : ByteArray) (a1 : ByteArray) (r1 : Int) (r2 : Int) (w : World) (h : impl_CountScattered.f a0 a1 = some (r1, r2)) :
    Calls Try.prog 16 #[.string a0, .string a1] w fun e w' => e = .returned (.tuple #[.int .i64 r1, .int .i64 r2]) ∧ Below w.heap.size w w' := by
  unfold impl_CountScattered.f at h
  obtain ⟨c, hc⟩ : ∃ c : Int, c = (if isW a0 && isW a1 then (if decide ((a0.size : Int) ≤ 6) then 0 else 2) else 1) := ⟨_, rfl⟩
  have hC : Aside0 (∀ (W : World), Below w.heap.size w W → w.heap.size + 1 < W.heap.size → W.cell? ⟨w.heap.size, 0, none⟩ = some (.string a0) → W.cell? ⟨w.heap.size + 1, 0, none⟩ = some (.string a0) → W.cell? ⟨w.heap.size + 1, 1, none⟩ = some (.string a1) →
      Calls Try.prog 57 #[.func (.func 58) #[] #[.pointer (some ⟨w.heap.size, 0, none⟩)], .slice (some ⟨w.heap.size + 1, 0, none⟩) 2 2] W fun e w' => e = .returned (.int .i64 c) ∧ Below w.heap.size w w' ∧ w.heap.size + 1 < w'.heap.size ∧ w'.cell? ⟨w.heap.size, 0, none⟩ = some (.string a0)) := ⟨fun W hB hsz h0 h1 h2 => by
    refine (xw_wordCode (decide ((a0.size : Int) ≤ 6)) 58 _ (enters_of Try.func58 (by kernel_rfl) rfl) _ 2 [a0, a1] W (xw_C_two W (w.heap.size + 1) a0 a1 h1 h2) (by simp) (fun W2 hb2 => ?_)).mono ?_
    · exact xw_CountScattered1 a0 _ W2 ((hb2.cell (p := ⟨w.heap.size, 0, none⟩) (by simp; omega)).trans h0)
    · rintro e w' ⟨rfl, hb⟩
      refine ⟨by rw [hc]; simp, below_then hB (by omega) hb, Nat.lt_of_lt_of_le hsz hb.size, (hb.cell (p := ⟨w.heap.size, 0, none⟩) (by simp; omega)).trans h0⟩⟩
  have hq := hC.out ((w.alloc (.cells #[.string a0] 9)).alloc (.cells #[.string a0, .string a1] 9)) ((((Below.refl _ w).alloc (by simp <;> omega) _).alloc (by simp <;> omega) _)) (by simp) (by simp [go_sem]) (by simp [go_sem]) (by simp [go_sem])
  clear hC
  have hmk := xw_mkf
  cases hw : (isW a0 && isW a1) with
  | false =>
    rw [hw] at h hc
    obtain ⟨rfl, rfl⟩ : (0 : Int) = r1 ∧ (1 : Int) = r2 := by simpa using h
    obtain rfl : c = 1 := by simpa using hc
    clear h hc hw
    go_enter Try.func16, Try.ntmps16
    go_wp2_with (go_at_call 57; refine hq.mono ?_; rintro e w' ⟨rfl, hb, hz, hc0⟩; have hb' := Aside0.mk hb; clear hb)
    go_ret2
    exact ⟨rfl, hb'.out⟩
  | true =>
    cases hk : (decide ((a0.size : Int) ≤ 6)) with
    | false =>
      rw [hw, hk] at h hc
      obtain ⟨rfl, rfl⟩ : (0 : Int) = r1 ∧ (2 : Int) = r2 := by simpa using h
      obtain rfl : c = 2 := by simpa using hc
      clear h hc hw hk
      go_enter Try.func16, Try.ntmps16
      go_wp2_with (go_at_call 57; refine hq.mono ?_; rintro e w' ⟨rfl, hb, hz, hc0⟩; have hb' := Aside0.mk hb; clear hb)
      go_ret2
      exact ⟨rfl, hb'.out⟩
    | true =>
      rw [hw, hk] at h hc
      obtain rfl : c = 0 := by simpa using hc
      clear hc
      simp only [if_true] at h
      obtain ⟨t, ht, h⟩ := Option.bind_eq_some_iff.mp h
      obtain ⟨rfl, rfl⟩ : t = r1 ∧ (0 : Int) = r2 := by simpa using h
      have hcal : ∀ W : World, Calls Try.prog 59 #[.string a0, .string a1] W fun e w' => e = .returned (.int .i64 t) ∧ Below W.heap.size W w' := fun W => (impl_countScattered.calls a0 a1 t W ht).mono fun e w' z => ⟨z.1, by first | exact z.2 | exact z.2.below⟩
      clear h ht hw hk
      go_enter Try.func16, Try.ntmps16
      go_wp2_with (first | (go_at_call 57; refine hq.mono ?_; rintro e w' ⟨rfl, hb, hz, hc0⟩; have hb' := Aside0.mk hb; clear hb) | (go_at_call 59; refine (hcal _).mono ?_; rintro e w2 ⟨rfl, hb2⟩; have hb2' := Aside0.mk hb2; clear hb2))
      go_ret2
      exact ⟨rfl, below_then hb'.out hb'.out.size hb2'.out⟩



end Go.Proofs.Ytmihfmhfgjnfcaa.Q
