-- Made by this session's program hyb.py out of Lean's print of the program; Lean checks it.
import Derived.Test.YtjnpobaampgakadQx0
import Derived.Test.YtjnpobaampgakadQx98
namespace Go.Proofs.Ytjnpobaampgakad.Q
open Go.RowKit Go.Proofs.YtjnpobaampgakadW.PrintWords Go.Proofs.YtjnpobaampgakadW.PrintLast Go.Proofs.YtjnpobaampgakadW.PrintMore
attribute [local go_sem] max2_int min2_int max_two min_two max_three min_three max_four min_four bn_leq bn_gtr bn_geq   -- for this text's walks alone
set_option linter.unusedVariables false
set_option linter.unusedSimpArgs false

/-! ### impl_reversed: function 117 (this session's own) -/
theorem xw_Holds_bytes (w : World) (s : ByteArray) : Go.Sort.Holds (Value.int .u8) (Lib.bytesWorld w 5 s) w.heap.size 0 (bytesOf s).toArray := fun j hj => by
  have hj' : j < s.size := by simpa [bytesOf] using hj
  refine ⟨?_, ?_⟩
  · rw [Nat.zero_add, Lib.bytesWorld_cell w _ s j hj']
    simp [bytesOf, hj', getElem!_pos, List.getD_eq_getElem?_getD]
  · rw [Nat.zero_add]
    simp only [World.frozen?, Lib.bytesWorld_at_new]
    have : s.size ≤ (Lib.bytesCells w 5 s).size := by simp [Lib.bytesCells]
    simp; omega

def xw_rev_ren_byte : Go.Shelf.Ren := ⟨fun | 35 => 129 | n => n, fun | 0 => 0 | 3 => 3 | 4 => 4 | 22 => 82 | 23 => 5 | n => n, fun n => n⟩
theorem xw_rev_lays_byte : SlLaysE.n35 Try.prog xw_rev_ren_byte := {
  mixed := by kernel_rfl
  f35 := ⟨Try.f129.name, by decide, Try.func129.trans (congrArg some (by kernel_rfl))⟩
  t0 := Try.underlying0
  a0 := Try.isAgg0
  z0 := Try.sizeOf0
  v0 := Try.zeroValue0
  t3 := Try.underlying3
  a3 := Try.isAgg3
  z3 := Try.sizeOf3
  v3 := Try.zeroValue3
  t4 := Try.underlying4
  a4 := Try.isAgg4
  z4 := Try.sizeOf4
  v4 := Try.zeroValue4
  t22 := Try.underlying82
  a22 := Try.isAgg82
  z22 := Try.sizeOf82
  v22 := Try.zeroValue82
  a23 := Try.isAgg5
  z23 := Try.sizeOf5 }
theorem xw_Reverse_byte (blk cap : Nat) (zs : List Int) (w : World) (hH : Go.Sort.Holds (Value.int .u8) w blk 0 zs.toArray) (hsz : zs.length ≤ 9223372036854775807) :
    Calls Try.prog 129 #[.slice (some ⟨blk, 0, none⟩) zs.length cap] w fun e w' => e = .returned (.tuple #[]) ∧ ∃ n, w' = Go.Sort.putRow (Value.int .u8) (Go.Sort.ahead w n) blk 0 zs.reverse.toArray :=
  AnyE.slices_Reverse xw_rev_lays_byte (Value.int .u8) (fun _ => rfl) blk 0 cap zs w hH hsz

def impl_reversed.f (a0 : ByteArray) : Option ByteArray := if a0.size ≤ 9223372036854775807 then some (revW a0) else none
set_option maxHeartbeats 2000000 in
theorem impl_reversed.calls (a0 : ByteArray) (r : ByteArray) (w : World) (h : impl_reversed.f a0 = some r) :
    Calls Try.prog 117 #[.string a0] w fun e w' => e = .returned (.string r) ∧ Below w.heap.size w w' := by
  unfold impl_reversed.f at h
  by_cases hbig : a0.size ≤ 9223372036854775807
  · rw [if_pos hbig] at h
    have hr : Aside0 (r = revW a0) := ⟨(Option.some.inj h).symm⟩
    clear h
    have hl : (bytesOf a0).length = a0.size := by simp [bytesOf]
    have hH : Go.Sort.Holds (Value.int .u8) (Lib.bytesWorld w 5 a0) w.heap.size 0 (bytesOf a0).toArray := xw_Holds_bytes w a0
    have hC : Aside0 (Calls Try.prog 129 #[.slice (some ⟨w.heap.size, 0, none⟩) a0.size (grownCap w a0.size 0 5)] (Lib.bytesWorld w 5 a0) fun e w' => e = .returned (.tuple #[]) ∧ Below w.heap.size w w' ∧
        (convert 82 9 (.slice (some ⟨w.heap.size, 0, none⟩) a0.size (grownCap w a0.size 0 5))).run Try.prog w' = .ok (.string r) w') := by
      refine ⟨?_⟩
      have hc := xw_Reverse_byte w.heap.size (grownCap w a0.size 0 5) (bytesOf a0) _ hH (by rw [hl]; exact hbig)
      rw [hl] at hc
      refine hc.mono ?_
      rintro e w' ⟨rfl, n, rfl⟩
      refine ⟨rfl, Lib.below_putRow (xw_below_bytes w a0) (Nat.le_refl _), ?_⟩
      have hk : Kd.C (Kd.int .u8) (Go.Sort.putRow (Value.int .u8) (Go.Sort.ahead (Lib.bytesWorld w 5 a0) n) w.heap.size 0 (bytesOf a0).reverse.toArray) (some ⟨w.heap.size, 0, none⟩) a0.size (bytesOf a0).reverse := by
        have h2 := Go.Sort.holds_putRow (Value.int .u8) (Go.Sort.ahead (Lib.bytesWorld w 5 a0) n) w.heap.size 0 (bytesOf a0).toArray (bytesOf a0).reverse.toArray (Go.Sort.holds_ahead _ _ n _ _ _ hH) (by simp)
        refine Kd.C_of_reads (d := (0 : Int)) (h1 := fun _ => rfl) ⟨by simp [hl], hbig, fun _ => ⟨_, rfl, fun j hj => ?_⟩⟩
        obtain ⟨h3, _⟩ := h2 j (by simp [hl]; exact hj)
        rw [add_plain, ← Nat.zero_add j, h3]
        simp [List.getD_eq_getElem?_getD, hl, hj]
      rw [Kd.C_string Try.underlying82 Try.underlying5 Try.underlying9 hk, hr.out]; rfl
    have hcv := xw_conv a0 w
    generalize Lib.bytesWorld w 5 a0 = W1 at *
    clear hH hl
    go_enter Try.func117, Try.ntmps117
    go_wp2_with (go_at_call 129; refine hC.out.mono ?_; rintro e w' ⟨rfl, hb, hst⟩; have hb' := Aside0.mk hb; clear hb)
    go_ret
    exact ⟨rfl, hb'.out⟩
  · rw [if_neg hbig] at h; cases h


end Go.Proofs.Ytjnpobaampgakad.Q
