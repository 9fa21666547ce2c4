-- Made by this session's program hyb.py out of Lean's print of the program; Lean checks it.
import Derived.Test.YtmihfmhfgjnfcaaQx0
import Derived.Test.YtmihfmhfgjnfcaaQx18
import Derived.Test.YtmihfmhfgjnfcaaQx109
namespace Go.Proofs.Ytmihfmhfgjnfcaa.Q
open Go.RowKit Go.Proofs.YtmihfmhfgjnfcaaW.PrintWords Go.Proofs.YtmihfmhfgjnfcaaW.PrintLast Go.Proofs.YtmihfmhfgjnfcaaW.PrintMore
attribute [local go_sem] max2_int min2_int max_two min_two max_three min_three max_four min_four bn_leq bn_gtr bn_geq   -- for this text's walks alone
set_option linter.unusedVariables false
set_option linter.unusedSimpArgs false

/-! ### impl_FirstSquareFree: function 20 (this session's own) -/
def fstAct (x : ByteArray) (_ : ByteArray) : Bool × ByteArray := (true, x)
set_option maxHeartbeats 2000000 in
theorem xw_FirstSquareFree1 (x : ByteArray) (s : ByteArray) (b : Nat) (w W : World) (h : gInv b 9 w (.string s) W) :
    Calls Try.prog 67 #[.string x, .pointer (some ⟨b, 0, none⟩)] W fun e w' => e = .returned (.bool true) ∧ gInv b 9 w (.string x) w' := by
  have hc := gInv_cell h
  have hf := gInv_frozen h
  have hh := Aside0.mk h
  clear h
  go_enter Try.func67, Try.ntmps67
  go_wp2
  go_ret
  exact ⟨rfl, by repeat (first | exact gInv_set hh.out _ | apply gInv_drew)⟩
def impl_FirstSquareFree.f (k : Nat) (a0 a1 : Int) : Option (ByteArray × Int) := if (inR a0 0 30 && inR a1 1 5) = true then (grownF fstAct a0.toNat a1.toNat k ⟨#[]⟩ ⟨#[]⟩).bind fun z => if z.1 = true then some (z.2, 0) else some (⟨#[]⟩, 4) else some (⟨#[]⟩, 2)
theorem impl_FirstSquareFree.mono : ∀ a0 a1 k, LeO (impl_FirstSquareFree.f k a0 a1) (impl_FirstSquareFree.f (k + 1) a0 a1) := by
  intro a0 a1 k
  unfold impl_FirstSquareFree.f
  exact LeO.ite (LeO.bind (grownF_mono _ _ _ _ _ _) fun _ => LeO.refl _) (LeO.refl _)
theorem xw_isLetters2 (x : Int) (W : World) : Calls Try.prog 66 #[.int .i64 x] W fun e w' => e = .returned (.bool (inR x 1 5)) ∧ w' = W := by
  go_enter Try.func66, Try.ntmps66
  go_wp2_with (go_at_call 62; refine (xw_within _ _ _ _).mono ?_; rintro e w' ⟨rfl, rfl⟩)
  go_ret
  exact ⟨rfl, rfl⟩
set_option maxHeartbeats 4000000 in
theorem impl_FirstSquareFree.calls (k : Nat) (a0 a1 : Int) (r1 : ByteArray) (r2 : Int) (w : World) (h : impl_FirstSquareFree.f k a0 a1 = some (r1, r2)) :
    Calls Try.prog 20 #[.int .i64 a0, .int .i64 a1] w fun e w' => e = .returned (.tuple #[.string r1, .int .i64 r2]) ∧ Below w.heap.size w w' := by
  unfold impl_FirstSquareFree.f at h
  have hI0 := fun W => xw_within a0 0 30 W
  have hI1 := fun W => xw_isLetters2 a1 W
  cases h0 : inR a0 0 30 with
  | false =>
    rw [h0] at h hI0
    obtain ⟨rfl, rfl⟩ : (⟨#[]⟩ : ByteArray) = r1 ∧ (2 : Int) = r2 := by simpa using h
    clear h h0 hI1
    go_enter Try.func20, Try.ntmps20
    go_wp2_with (go_at_call 62; refine (hI0 _).mono ?_; rintro e w' ⟨rfl, rfl⟩)
    go_ret2
    exact ⟨rfl, Below.refl _ _⟩
  | true =>
    cases h1 : inR a1 1 5 with
    | false =>
      rw [h0, h1] at h
      rw [h0] at hI0
      rw [h1] at hI1
      obtain ⟨rfl, rfl⟩ : (⟨#[]⟩ : ByteArray) = r1 ∧ (2 : Int) = r2 := by simpa using h
      clear h h0 h1
      go_enter Try.func20, Try.ntmps20
      go_wp2_with (first | (go_at_call 62; refine (hI0 _).mono ?_; rintro e w' ⟨rfl, rfl⟩) | (go_at_call 66; refine (hI1 _).mono ?_; rintro e w' ⟨rfl, rfl⟩))
      go_ret2
      exact ⟨rfl, Below.refl _ _⟩
    | true =>
      rw [h0, h1] at h
      rw [h0] at hI0
      rw [h1] at hI1
      obtain ⟨m0, m1⟩ := inR_true h0
      obtain ⟨m2, m3⟩ := inR_true h1
      obtain ⟨m, rfl⟩ : ∃ m : Nat, a0 = m := ⟨a0.toNat, by omega⟩
      obtain ⟨n, rfl⟩ : ∃ m : Nat, a1 = m := ⟨a1.toNat, by omega⟩
      rw [Bool.and_self, if_pos rfl, Int.toNat_natCast, Int.toNat_natCast] at h
      obtain ⟨⟨b, s⟩, hg, h⟩ := Option.bind_eq_some_iff.mp h
      have hG := Aside0.mk (fun W hW => xw_grown fstAct (fun s W => gInv w.heap.size 9 w (.string s) W) m n (by omega) 67 #[.pointer (some ⟨w.heap.size, 0, none⟩)] (enters_of Try.func67 (by kernel_rfl) rfl)
        (fun s W W' hI hb => gInv_move hI hb) (fun s W x hI => xw_FirstSquareFree1 x s _ w W hI) k ⟨#[]⟩ ⟨#[]⟩ b s W hg hW)
      have hmk := xw_mkf
      clear hg h0 h1 m0 m1 m2 m3
      cases b with
      | true =>
        obtain ⟨rfl, rfl⟩ : s = r1 ∧ (0 : Int) = r2 := by simpa using h
        clear h
        go_enter Try.func20, Try.ntmps20
        go_wp2_with (first | (go_at_call 62; refine (hI0 _).mono ?_; rintro e w' ⟨rfl, rfl⟩) | (go_at_call 66; refine (hI1 _).mono ?_; rintro e w' ⟨rfl, rfl⟩) | (go_at_call 63; refine (hG.out _ (by repeat (first | exact gInv_new _ _ _ | refine gInv_set (c := .string ⟨#[]⟩) ?_ _ | apply gInv_drew))).mono ?_; rintro e w5 ⟨rfl, hI5⟩; have hc5 := gInv_cell hI5; have hI6 := Aside0.mk hI5; clear hI5))
        go_ret2
        exact ⟨rfl, hI6.out.2.2⟩
      | false =>
        obtain ⟨rfl, rfl⟩ : (⟨#[]⟩ : ByteArray) = r1 ∧ (4 : Int) = r2 := by simpa using h
        clear h
        go_enter Try.func20, Try.ntmps20
        go_wp2_with (first | (go_at_call 62; refine (hI0 _).mono ?_; rintro e w' ⟨rfl, rfl⟩) | (go_at_call 66; refine (hI1 _).mono ?_; rintro e w' ⟨rfl, rfl⟩) | (go_at_call 63; refine (hG.out _ (by repeat (first | exact gInv_new _ _ _ | refine gInv_set (c := .string ⟨#[]⟩) ?_ _ | apply gInv_drew))).mono ?_; rintro e w5 ⟨rfl, hI5⟩; have hc5 := gInv_cell hI5; have hI6 := Aside0.mk hI5; clear hI5))
        go_ret2
        exact ⟨rfl, hI6.out.2.2⟩


end Go.Proofs.Ytmihfmhfgjnfcaa.Q
