-- Made by this session's program hyb.py out of Lean's print of the program; Lean checks it.
import Derived.Test.YtjnpobaampgakadQx0
namespace Go.Proofs.Ytjnpobaampgakad.Q
open Go.RowKit Go.Proofs.YtjnpobaampgakadW.PrintWords Go.Proofs.YtjnpobaampgakadW.PrintLast Go.Proofs.YtjnpobaampgakadW.PrintMore
attribute [local go_sem] max2_int min2_int max_two min_two max_three min_three max_four min_four bn_leq bn_gtr bn_geq   -- for this text's walks alone
set_option linter.unusedVariables false
set_option linter.unusedSimpArgs false

/-! ### slices_Reverse_int64_int64: function 55 (this session's own) -/
def xw_rev_ren_i64 : Go.Shelf.Ren := ⟨fun | 35 => 55 | n => n, fun | 0 => 0 | 3 => 3 | 4 => 4 | 22 => 22 | 23 => 2 | n => n, fun n => n⟩
theorem xw_rev_lays_i64 : SlLaysE.n35 Try.prog xw_rev_ren_i64 := {
  mixed := by kernel_rfl
  f35 := ⟨Try.f55.name, by decide, Try.func55.trans (congrArg some (by kernel_rfl))⟩
  t0 := Try.underlying0
  a0 := Try.isAgg0
  z0 := Try.sizeOf0
  v0 := Try.zeroValue0
  t3 := Try.underlying3
  a3 := Try.isAgg3
  z3 := Try.sizeOf3
  v3 := Try.zeroValue3
  t4 := Try.underlying4
  a4 := Try.isAgg4
  z4 := Try.sizeOf4
  v4 := Try.zeroValue4
  t22 := Try.underlying22
  a22 := Try.isAgg22
  z22 := Try.sizeOf22
  v22 := Try.zeroValue22
  a23 := Try.isAgg2
  z23 := Try.sizeOf2 }
theorem xw_Reverse_i64 (blk cap : Nat) (zs : List Int) (w : World) (hH : Go.Sort.Holds (Value.int .i64) w blk 0 zs.toArray) (hsz : zs.length ≤ 9223372036854775807) :
    Calls Try.prog 55 #[.slice (some ⟨blk, 0, none⟩) zs.length cap] w fun e w' => e = .returned (.tuple #[]) ∧ ∃ n, w' = Go.Sort.putRow (Value.int .i64) (Go.Sort.ahead w n) blk 0 zs.reverse.toArray :=
  AnyE.slices_Reverse xw_rev_lays_i64 (Value.int .i64) (fun _ => rfl) blk 0 cap zs w hH hsz

def slices_Reverse_int64_int64.f (l0 : List Int) : Option (List Int) := if l0.length ≤ 9223372036854775807 then some l0.reverse else none
theorem slices_Reverse_int64_int64.calls (P0_ : Nat → Prop) (u9000_ : Value) (l0 : List Int) (r : List Int) (w0 w : World) (hB : Below w0.heap.size w0 w) (ho0 : Kd.R (Kd.int .i64) 2 w w0.heap.size P0_ u9000_ l0) (h : slices_Reverse_int64_int64.f l0 = some r) :
    Calls Try.prog 55 #[u9000_] w fun e w' => e = .returned (.tuple #[]) ∧ Kd.R (Kd.int .i64) 2 w' w0.heap.size (fun k_ => (P0_ k_ ∨ w.heap.size ≤ k_)) u9000_ r ∧ Below w0.heap.size w0 w' ∧ Kept w w' (fun k_ => P0_ k_) := by
  unfold slices_Reverse_int64_int64.f at h
  by_cases hbig : l0.length ≤ 9223372036854775807
  · rw [if_pos hbig] at h
    obtain rfl := Option.some.inj h
    by_cases hv : u9000_ = .slice none 0 0
    · subst hv
      have hl : l0 = [] := by
        have := (Kd.R_reads' ho0).1
        exact List.length_eq_zero_iff.mp this.symm
      subst hl
      have ho := Aside0.mk ho0
      have hB' := Aside0.mk hB
      clear ho0 hB h
      go_enter Try.func55, Try.ntmps55
      go_wp2
      go_loopg [2, 3] 0 (fun gg v2 v3 wr => v2 = .int .i64 0 ∧ v3 = .int .i64 (-1) ∧ wr = w)
      case atStart => exact ⟨rfl, by go_num, rfl⟩
      case round =>
        obtain ⟨rfl, rfl, rfl⟩ := hrel
        go_wp2
        first | go_end0 | ((try simp only [Exit.inBlock, Exit.then]); refine bodyPost_ret (results_none rfl _ _ _) rfl ?_)
        exact ⟨rfl, Kd.R_mono ho.out (fun _ hk => .inl hk), hB'.out, Kept.refl _ _⟩
    · have hown := Kd.own_of_R ho0
      obtain ⟨g, cap, rfl, hb, hlt, hn, hm, hl, hH⟩ := Lib.holds_of_ownsRow (enc := Value.int .i64) (zs := l0) hown hv
      have hP : P0_ g := ho0.1 g (by simp [Value.ownBlock])
      have hc := xw_Reverse_i64 g cap l0 w hH hbig
      refine hc.mono ?_
      rintro e w' ⟨rfl, n, rfl⟩
      have ho2 := Lib.ownsRow_putRow (q := n) (k := l0.length) (ys := l0.reverse) hown (by simp) (Nat.le_refl _)
      refine ⟨rfl, ?_, Lib.below_putRow hB hb, ?_, ?_⟩
      · refine Kd.R_of_own ?_ (fun k hk => .inl ?_)
        · rw [show (l0.reverse).take l0.length = l0.reverse from List.take_of_length_le (by simp)] at ho2
          rw [List.length_reverse]
          exact ho2
        · have : g = k := by simpa [Value.ownBlock] using hk
          subst this; exact hP
      · simp [Go.Sort.putRow, Go.Sort.mapBlock, Go.Sort.ahead]
      · intro i hi hne
        have : g ≠ i := fun e => hne (e ▸ hP)
        simp [Go.Sort.putRow, Go.Sort.mapBlock, Go.Sort.ahead, Array.getElem?_modify, this]
  · rw [if_neg hbig] at h; cases h


end Go.Proofs.Ytjnpobaampgakad.Q
