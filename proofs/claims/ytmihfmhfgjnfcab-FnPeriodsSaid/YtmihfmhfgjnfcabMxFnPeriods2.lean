-- Printed texts of this session, joined by merge.py.
import Derived.Test.YtmihfmhfgjnfcabQx0
import Derived.Test.YtmihfmhfgjnfcabMxFnPeriods1
import Derived.Test.YtmihfmhfgjnfcabMxFnPeriods0
namespace Go.Proofs.Ytmihfmhfgjnfcab.Q
open Go.RowKit Go.Proofs.YtmihfmhfgjnfcabW.PrintWords Go.Proofs.YtmihfmhfgjnfcabW.PrintLast Go.Proofs.YtmihfmhfgjnfcabW.PrintMore
attribute [local go_sem] max2_int min2_int max_two min_two max_three min_three max_four min_four bn_leq bn_gtr bn_geq   -- for this text's walks alone
set_option linter.unusedVariables false
set_option linter.unusedSimpArgs false

/-! ### laws_likeInts: function 12 -/
def laws_likeInts.l0 : Nat → List Int → List Int → Int → Option (Bool)
  | 0, _, _, _ => none
  | k + 1, x0, x1, x5 => if x5 < (x0.length : Int) then (if 0 ≤ x5 then (if x5 < (x1.length : Int) then (if (rd x0 x5) = (rd x1 x5) then (laws_likeInts.l0 k x0 x1 (wrap64 (x5 + 1))) else (some false)) else (none)) else (none)) else (some true)
def laws_likeInts.f (k : Nat) (l0 : List Int) (l1 : List Int) : Option (Bool) := if (l0.length : Int) = (l1.length : Int) then (laws_likeInts.l0 k l0 l1 0) else (some false)
theorem laws_likeInts.mono_l : ∀ k, (∀ y0 y1 y2, LeO (laws_likeInts.l0 k y0 y1 y2) (laws_likeInts.l0 (k + 1) y0 y1 y2))
  | 0 => fun _ _ _ r h => by simp [laws_likeInts.l0] at h
  | k + 1 => by
    have ih0 := laws_likeInts.mono_l k
    · intro y0 y1 y2
      unfold laws_likeInts.l0
      repeat' first
      | (with_reducible exact ih0 _ _ _)
      | (with_reducible exact LeO.refl _)
      | (with_reducible exact LeO.none _)
      | (with_reducible refine LeO.ite ?_ ?_)
      | (with_reducible refine LeO.bind ?_ (fun _ => ?_))
      | exact ih0 _ _ _
      | exact LeO.none _
      | refine LeO.ite ?_ ?_
      | refine LeO.bind ?_ (fun _ => ?_)
theorem laws_likeInts.mono : ∀ a0 a1 k, LeO (laws_likeInts.f k a0 a1) (laws_likeInts.f (k + 1) a0 a1) := by
  intro a0 a1 k
  have ih0 := laws_likeInts.mono_l k
  unfold laws_likeInts.f
  repeat' first
      | (with_reducible exact ih0 _ _ _)
      | (with_reducible exact LeO.refl _)
      | (with_reducible exact LeO.none _)
      | (with_reducible refine LeO.ite ?_ ?_)
      | (with_reducible refine LeO.bind ?_ (fun _ => ?_))
      | exact ih0 _ _ _
      | exact LeO.none _
      | refine LeO.ite ?_ ?_
      | refine LeO.bind ?_ (fun _ => ?_)
set_option maxHeartbeats 8000000 in
set_option maxRecDepth 100000 in
theorem laws_likeInts.calls (k : Nat) (A0 : Option Addr) (c0 : Nat) (l0 : List Int) (A1 : Option Addr) (c1 : Nat) (l1 : List Int) (r : Bool) (w : World) (hr0 : Kd.C (Kd.int .i64) w A0 l0.length l0) (hc0 : l0.length ≤ c0) (hr1 : Kd.C (Kd.int .i64) w A1 l1.length l1) (hc1 : l1.length ≤ c1) (h : laws_likeInts.f k l0 l1 = some r) :
    Calls Try.prog 12 #[.slice A0 l0.length c0, .slice A1 l1.length c1] w fun e w' => e = .returned (.bool r) ∧ Drawn0 w w' := by
  have HR0 := Aside0.mk hr0
  have HC0 := Aside0.mk hc0
  clear hr0 hc0
  have HR1 := Aside0.mk hr1
  have HC1 := Aside0.mk hc1
  clear hr1 hc1
  have H : (if (l0.length : Int) = (l1.length : Int) then (laws_likeInts.l0 k l0 l1 0) else (some false)) = some r := h
  clear h
  by_cases c3 : (l0.length : Int) = (l1.length : Int)
  · rw [if_pos c3] at H
    have c3b0 : ((l0.length : Int) == (l1.length : Int)) = true := beq_iff_eq.mpr c3
    have c3b1 : ((l0.length : Int) != (l1.length : Int)) = false := bne_eq_false_iff_eq.mpr c3
    have c3b2 : (l0.length == l1.length) = true := by first | simpa using c3 | (simp at c3 ⊢; omega)
    clear c3
    have H' := Aside0.mk H
    clear H
    go_enter Try.func12, Try.ntmps12
    go_wp2
    repeat (go_quiet (fail); try go_wp2)
    go_loopg [5] k (fun kq v5 w' => ∃ (x5_1 : Int), v5 = .int .i64 x5_1 ∧ Aside0 (laws_likeInts.l0 kq l0 l1 x5_1 = some r) ∧ Aside0 (kq ≤ k) ∧ Drawn0 w w')
    case atStart => exact ⟨(0), (by first | rfl | (simp; done) | (simp [*]; done)), H', ⟨Nat.le_refl _⟩, by repeat (first | exact Drawn0.refl _ | apply Drawn0.step)⟩
    case round =>
      clear H'
      try clear c1
      try clear p2
      try clear c3
      try clear c3b0
      try clear c3b1
      try clear c3b2
      obtain ⟨x5_1, rfl, HA, HK1, ⟨m1, rfl⟩⟩ := hrel
      cases gk with
      | zero => exact absurd HA.out (by simp [laws_likeInts.l0])
      | succ k1 =>
        have H := HA.out
        clear HA
        simp only [laws_likeInts.l0] at H
        by_cases c4 : x5_1 < (l0.length : Int)
        · rw [if_pos c4] at H
          have c4b0 : decide (x5_1 < (l0.length : Int)) = true := decide_eq_true c4
          clear c4
          by_cases c5 : 0 ≤ x5_1
          · rw [if_pos c5] at H
            have c5b0 : decide (0 ≤ x5_1) = true := decide_eq_true c5
            clear c5
            by_cases c6 : x5_1 < (l1.length : Int)
            · rw [if_pos c6] at H
              have c6b0 : decide (x5_1 < (l1.length : Int)) = true := decide_eq_true c6
              clear c6
              by_cases c7 : (rd l0 x5_1) = (rd l1 x5_1)
              · rw [if_pos c7] at H
                have c7b0 : ((rd l0 x5_1) == (rd l1 x5_1)) = true := beq_iff_eq.mpr c7
                have c7b1 : ((rd l0 x5_1) != (rd l1 x5_1)) = false := bne_eq_false_iff_eq.mpr c7
                clear c7
                have H' := Aside0.mk H
                clear H
                have p323 : 0 ≤ (x5_1 : Int) := of_decide_eq_true (by first | (with_reducible assumption) | assumption)
                have q323 : x5_1 < (l0.length : Int) := of_decide_eq_true (by first | (with_reducible assumption) | assumption)
                obtain ⟨ad323, e323, hx323_0⟩ := Kd.at_int HR0.out x5_1 p323 q323
                cases e323
                replace p323 := eq_true p323
                replace q323 := eq_true q323
                have p324 : 0 ≤ (x5_1 : Int) := of_decide_eq_true (by first | (with_reducible assumption) | assumption)
                have q324 : x5_1 < (l1.length : Int) := of_decide_eq_true (by first | (with_reducible assumption) | assumption)
                obtain ⟨ad324, e324, hx324_0⟩ := Kd.at_int HR1.out x5_1 p324 q324
                cases e324
                replace p324 := eq_true p324
                replace q324 := eq_true q324
                go_wp2
                repeat (go_quiet (fail); try go_wp2)
                go_roundg k1
                case measure => have := HK1.out; omega
                case rel => exact ⟨(wrap64 (x5_1 + 1)), (by first | rfl | (simp; done) | (simp [*]; done)), H', ⟨by have := HK1.out; omega⟩, by repeat (first | exact Drawn0.refl _ | apply Drawn0.step)⟩
              · rw [if_neg c7] at H
                have c7b0 : ((rd l0 x5_1) == (rd l1 x5_1)) = false := beq_eq_false_iff_ne.mpr c7
                have c7b1 : ((rd l0 x5_1) != (rd l1 x5_1)) = true := bne_iff_ne.mpr c7
                obtain rfl := Option.some.inj H
                have p323 : 0 ≤ (x5_1 : Int) := of_decide_eq_true (by first | (with_reducible assumption) | assumption)
                have q323 : x5_1 < (l0.length : Int) := of_decide_eq_true (by first | (with_reducible assumption) | assumption)
                obtain ⟨ad323, e323, hx323_0⟩ := Kd.at_int HR0.out x5_1 p323 q323
                cases e323
                replace p323 := eq_true p323
                replace q323 := eq_true q323
                have p324 : 0 ≤ (x5_1 : Int) := of_decide_eq_true (by first | (with_reducible assumption) | assumption)
                have q324 : x5_1 < (l1.length : Int) := of_decide_eq_true (by first | (with_reducible assumption) | assumption)
                obtain ⟨ad324, e324, hx324_0⟩ := Kd.at_int HR1.out x5_1 p324 q324
                cases e324
                replace p324 := eq_true p324
                replace q324 := eq_true q324
                go_wp2
                repeat (go_quiet (fail); try go_wp2)
                go_ret
                exact ⟨by first | rfl | (simp; done) | (simp [*]; done), by repeat (first | exact Drawn0.refl _ | apply Drawn0.step)⟩
            · rw [if_neg c6] at H
              exact absurd H (by simp)
          · rw [if_neg c5] at H
            exact absurd H (by simp)
        · rw [if_neg c4] at H
          have c4b0 : decide (x5_1 < (l0.length : Int)) = false := decide_eq_false c4
          clear c4
          obtain rfl := Option.some.inj H
          go_wp2
          repeat (go_quiet (fail); try go_wp2)
          go_ret
          exact ⟨by first | rfl | (simp; done) | (simp [*]; done), by repeat (first | exact Drawn0.refl _ | apply Drawn0.step)⟩
  · rw [if_neg c3] at H
    have c3b0 : ((l0.length : Int) == (l1.length : Int)) = false := beq_eq_false_iff_ne.mpr c3
    have c3b1 : ((l0.length : Int) != (l1.length : Int)) = true := bne_iff_ne.mpr c3
    have c3b2 : (l0.length == l1.length) = false := by first | simpa using c3 | (simp at c3 ⊢; omega)
    obtain rfl := Option.some.inj H
    go_enter Try.func12, Try.ntmps12
    go_wp2
    repeat (go_quiet (fail); try go_wp2)
    go_ret
    exact ⟨by first | rfl | (simp; done) | (simp [*]; done), by repeat (first | exact Drawn0.refl _ | apply Drawn0.step)⟩

end Go.Proofs.Ytmihfmhfgjnfcab.Q

namespace Go.Proofs.Ytmihfmhfgjnfcab.Q
open Go.RowKit Go.Proofs.YtmihfmhfgjnfcabW.PrintWords Go.Proofs.YtmihfmhfgjnfcabW.PrintLast Go.Proofs.YtmihfmhfgjnfcabW.PrintMore
attribute [local go_sem] max2_int min2_int max_two min_two max_three min_three max_four min_four bn_leq bn_gtr bn_geq   -- for this text's walks alone
set_option linter.unusedVariables false
set_option linter.unusedSimpArgs false

/-! ### slices_Reverse_int64_int64: function 74 (this session's own) -/
def xw_rev_ren_i64 : Go.Shelf.Ren := ⟨fun | 35 => 74 | n => n, fun | 0 => 0 | 3 => 3 | 4 => 4 | 22 => 27 | 23 => 2 | n => n, fun n => n⟩
theorem xw_rev_lays_i64 : SlLaysE.n35 Try.prog xw_rev_ren_i64 := {
  mixed := by kernel_rfl
  f35 := ⟨Try.f74.name, by decide, Try.func74.trans (congrArg some (by kernel_rfl))⟩
  t0 := Try.underlying0
  a0 := Try.isAgg0
  z0 := Try.sizeOf0
  v0 := Try.zeroValue0
  t3 := Try.underlying3
  a3 := Try.isAgg3
  z3 := Try.sizeOf3
  v3 := Try.zeroValue3
  t4 := Try.underlying4
  a4 := Try.isAgg4
  z4 := Try.sizeOf4
  v4 := Try.zeroValue4
  t22 := Try.underlying27
  a22 := Try.isAgg27
  z22 := Try.sizeOf27
  v22 := Try.zeroValue27
  a23 := Try.isAgg2
  z23 := Try.sizeOf2 }
theorem xw_Reverse_i64 (blk cap : Nat) (zs : List Int) (w : World) (hH : Go.Sort.Holds (Value.int .i64) w blk 0 zs.toArray) (hsz : zs.length ≤ 9223372036854775807) :
    Calls Try.prog 74 #[.slice (some ⟨blk, 0, none⟩) zs.length cap] w fun e w' => e = .returned (.tuple #[]) ∧ ∃ n, w' = Go.Sort.putRow (Value.int .i64) (Go.Sort.ahead w n) blk 0 zs.reverse.toArray :=
  AnyE.slices_Reverse xw_rev_lays_i64 (Value.int .i64) (fun _ => rfl) blk 0 cap zs w hH hsz

def slices_Reverse_int64_int64.f (l0 : List Int) : Option (List Int) := if l0.length ≤ 9223372036854775807 then some l0.reverse else none
theorem slices_Reverse_int64_int64.calls (P0_ : Nat → Prop) (u9000_ : Value) (l0 : List Int) (r : List Int) (w0 w : World) (hB : Below w0.heap.size w0 w) (ho0 : Kd.R (Kd.int .i64) 2 w w0.heap.size P0_ u9000_ l0) (h : slices_Reverse_int64_int64.f l0 = some r) :
    Calls Try.prog 74 #[u9000_] w fun e w' => e = .returned (.tuple #[]) ∧ Kd.R (Kd.int .i64) 2 w' w0.heap.size (fun k_ => (P0_ k_ ∨ w.heap.size ≤ k_)) u9000_ r ∧ Below w0.heap.size w0 w' ∧ Kept w w' (fun k_ => P0_ k_) := by
  unfold slices_Reverse_int64_int64.f at h
  by_cases hbig : l0.length ≤ 9223372036854775807
  · rw [if_pos hbig] at h
    obtain rfl := Option.some.inj h
    by_cases hv : u9000_ = .slice none 0 0
    · subst hv
      have hl : l0 = [] := by
        have := (Kd.R_reads' ho0).1
        exact List.length_eq_zero_iff.mp this.symm
      subst hl
      have ho := Aside0.mk ho0
      have hB' := Aside0.mk hB
      clear ho0 hB h
      go_enter Try.func74, Try.ntmps74
      go_wp2
      go_loopg [2, 3] 0 (fun gg v2 v3 wr => v2 = .int .i64 0 ∧ v3 = .int .i64 (-1) ∧ wr = w)
      case atStart => exact ⟨rfl, by go_num, rfl⟩
      case round =>
        obtain ⟨rfl, rfl, rfl⟩ := hrel
        go_wp2
        first | go_end0 | ((try simp only [Exit.inBlock, Exit.then]); refine bodyPost_ret (results_none rfl _ _ _) rfl ?_)
        exact ⟨rfl, Kd.R_mono ho.out (fun _ hk => .inl hk), hB'.out, Kept.refl _ _⟩
    · have hown := Kd.own_of_R ho0
      obtain ⟨g, cap, rfl, hb, hlt, hn, hm, hl, hH⟩ := Lib.holds_of_ownsRow (enc := Value.int .i64) (zs := l0) hown hv
      have hP : P0_ g := ho0.1 g (by simp [Value.ownBlock])
      have hc := xw_Reverse_i64 g cap l0 w hH hbig
      refine hc.mono ?_
      rintro e w' ⟨rfl, n, rfl⟩
      have ho2 := Lib.ownsRow_putRow (q := n) (k := l0.length) (ys := l0.reverse) hown (by simp) (Nat.le_refl _)
      refine ⟨rfl, ?_, Lib.below_putRow hB hb, ?_, ?_⟩
      · refine Kd.R_of_own ?_ (fun k hk => .inl ?_)
        · rw [show (l0.reverse).take l0.length = l0.reverse from List.take_of_length_le (by simp)] at ho2
          rw [List.length_reverse]
          exact ho2
        · have : g = k := by simpa [Value.ownBlock] using hk
          subst this; exact hP
      · simp [Go.Sort.putRow, Go.Sort.mapBlock, Go.Sort.ahead]
      · intro i hi hne
        have : g ≠ i := fun e => hne (e ▸ hP)
        simp [Go.Sort.putRow, Go.Sort.mapBlock, Go.Sort.ahead, Array.getElem?_modify, this]
  · rw [if_neg hbig] at h; cases h


end Go.Proofs.Ytmihfmhfgjnfcab.Q

namespace Go.Proofs.Ytmihfmhfgjnfcab.Q
open Go.RowKit Go.Proofs.YtmihfmhfgjnfcabW.PrintWords Go.Proofs.YtmihfmhfgjnfcabW.PrintLast Go.Proofs.YtmihfmhfgjnfcabW.PrintMore
attribute [local go_sem] max2_int min2_int max_two min_two max_three min_three max_four min_four bn_leq bn_gtr bn_geq   -- for this text's walks alone
set_option linter.unusedVariables false
set_option linter.unusedSimpArgs false

/-! ### impl_BordersOf: function 13 (this session's own) -/
theorem xw_size (s : ByteArray) (w : World) : Calls Try.prog 66 #[.string s] w fun e w' => e = .returned (.int .i64 s.size) ∧ w' = w := by
  go_enter Try.func66, Try.ntmps66
  go_wp2
  go_ret
  exact ⟨rfl, rfl⟩
theorem xw_within (n lo hi : Int) (w : World) : Calls Try.prog 81 #[.int .i64 n, .int .i64 lo, .int .i64 hi] w fun e w' => e = .returned (.bool (inR n lo hi)) ∧ w' = w := by
  have hR := inR_eq n lo hi
  by_cases h1 : lo ≤ n
  · by_cases h2 : n ≤ hi
    all_goals
      go_enter Try.func81, Try.ntmps81
      go_wp2
      go_ret
      exact ⟨by rw [hR.out]; simp [h1, h2], rfl⟩
  · go_enter Try.func81, Try.ntmps81
    go_wp2
    go_ret
    exact ⟨by rw [hR.out, decide_eq_false (show ¬ lo ≤ n by omega)]; rfl, rfl⟩

def bordCur (n : Int) (l : List Int) (kk : Nat) : List Int := (l.take kk).map (fun p => wrap64 (n - p)) ++ l.drop kk
theorem bordCur_len (n : Int) (l : List Int) (kk : Nat) : (bordCur n l kk).length = l.length := by
  unfold bordCur; simp; omega
theorem bordCur_rd (n : Int) (l : List Int) (kk : Nat) (h : kk < l.length) : rdOf (0 : Int) (bordCur n l kk) (kk : Int) = l.getD kk 0 := by
  unfold rdOf bordCur
  rw [Int.toNat_natCast, List.getD_eq_getElem?_getD, List.getElem?_append_right (by simp; omega)]
  simp [List.getD_eq_getElem?_getD, Nat.min_eq_left (Nat.le_of_lt h)]
theorem bordCur_set (n : Int) (l : List Int) (kk : Nat) (h : kk < l.length) : (bordCur n l kk).set kk (wrap64 (n - l.getD kk 0)) = bordCur n l (kk + 1) := by
  unfold bordCur
  rw [List.set_append_right _ _ (by simp; omega)]
  have e : l.drop kk = l.getD kk 0 :: l.drop (kk + 1) := by
    rw [List.drop_eq_getElem_cons h]
    simp [List.getD_eq_getElem?_getD, h]
  have e2 : (l.take (kk + 1)) = l.take kk ++ [l.getD kk 0] := by
    rw [List.take_succ_eq_append_getElem h]
    simp [List.getD_eq_getElem?_getD, h]
  rw [e, e2]
  simp [Nat.min_eq_left (Nat.le_of_lt h)]
def impl_BordersOf.f (k : Nat) (a0 : ByteArray) : Option (List Int × Int) := (impl_PeriodsOf.f k a0).bind fun bt => if bt.2 = 0 then (if bt.1.length ≤ 9223372036854775806 then some ((bordCur a0.size bt.1 bt.1.length).reverse, 0) else none) else some ([], bt.2)
theorem impl_BordersOf.mono : ∀ a0 k, LeO (impl_BordersOf.f k a0) (impl_BordersOf.f (k + 1) a0) := by
  intro a0 k
  unfold impl_BordersOf.f
  exact LeO.bind (impl_PeriodsOf.mono _ _) fun _ => LeO.refl _
set_option maxHeartbeats 8000000 in
theorem impl_BordersOf.calls (k : Nat) (a0 : ByteArray) (r1 : List Int) (r2 : Int) (w : World) (h : impl_BordersOf.f k a0 = some (r1, r2)) :
    Calls Try.prog 13 #[.string a0] w fun e w' => ∃ v0_ : Value, e = .returned (.tuple #[v0_, .int .i64 r2]) ∧ Kd.R (Kd.int .i64) 2 w' w.heap.size (fun _ => True) v0_ r1 ∧ Below w.heap.size w w' := by
  unfold impl_BordersOf.f at h
  obtain ⟨⟨l, c⟩, hP, h⟩ := Option.bind_eq_some_iff.mp h
  have hC := impl_PeriodsOf.calls k a0 l c w hP
  clear hP
  simp only at h
  by_cases hc : c = 0
  · subst hc
    rw [if_pos rfl] at h
    by_cases hbig : l.length ≤ 9223372036854775806
    · rw [if_pos hbig] at h
      simp only [Option.some.injEq, Prod.mk.injEq] at h
      obtain ⟨rfl, rfl⟩ := h
      obtain ⟨r, hr⟩ : ∃ r, r = bordCur a0.size l l.length := ⟨_, rfl⟩
      have hrl := Aside0.mk (show r.length ≤ 9223372036854775807 by rw [hr, bordCur_len]; omega)
      have hbig' := Aside0.mk hbig
      rw [← hr]
      have hr' := Aside0.mk hr
      clear hr hbig
      go_enter Try.func13, Try.ntmps13
      go_wp2_with (go_at_call 10; refine hC.mono ?_; rintro e w1 ⟨v, rfl, hR, hb⟩; obtain ⟨A, c, rfl, hlc, hCC⟩ := Kd.R_reads hR; have HO := Aside0.mk hR; have HB := Aside0.mk hb; clear hR hb hCC)
      go_loopg [6, 7, 18] l.length (fun gg v6 v7 v18 wr => ∃ (kk : Nat), kk ≤ l.length ∧ l.length - kk ≤ gg ∧ v18 = .int .i64 kk ∧ Aside0 (Kd.R (Kd.int .i64) 2 wr w.heap.size (fun _ => True) (.slice A l.length c) (bordCur a0.size l kk)) ∧ Aside0 (Below w.heap.size w wr))
      case atStart => exact ⟨0, Nat.zero_le _, by omega, rfl, ⟨by unfold bordCur; simpa using HO.out⟩, HB⟩
      case round =>
        clear HO HB
        obtain ⟨kk, hkk, hgg, rfl, HO, HB⟩ := hrel
        by_cases hlt : kk < l.length
        · have hltz : (kk : Int) < (l.length : Int) := by omega
          have c1 := decide_eq_true hltz
          obtain ⟨x, hx⟩ : ∃ x, x = l.getD kk 0 := ⟨_, rfl⟩
          have hx' := Aside0.mk hx
          have hset := Aside0.mk (bordCur_set a0.size l kk hlt)
          rw [← hx] at hset
          obtain ⟨g, cap, e1, hg, hgl, hcl⟩ := Kd.R_form HO.out (by rw [bordCur_len]; omega)
          injection e1 with e1 e2 e3
          subst e1 e3
          have HG := Aside0.mk hg
          obtain ⟨h1, h2⟩ := Kd.R_celln 0 HO.out (kk : Int) (by omega) hltz
          rw [bordCur_rd _ _ _ hlt, ← hx] at h1
          rw [Int.toNat_natCast] at h1 h2
          have HP := Kd.R_putg HO.out (kk : Int) (wrap64 ((a0.size : Int) - x))
          rw [Int.toNat_natCast, hset.out] at HP
          clear e2 hg hgl hcl hx hset
          have p0 := eq_true (show (0 : Int) ≤ (kk : Int) by omega)
          have n1 := eq_true hlt
          go_wp2_with (go_at_call 66; refine (xw_size _ _).mono ?_; rintro e w2 ⟨rfl, rfl⟩)
          go_roundg (l.length - (kk + 1))
          case measure => omega
          case rel =>
            have hb2 := hbig'.out
            exact ⟨kk + 1, by omega, by omega, by rw [w64 (by omega) (by omega)]; rfl, ⟨HP.1⟩, ⟨below_set HB.out HG.out⟩⟩
        · have hltz : ¬ (kk : Int) < (l.length : Int) := by omega
          have c1 := decide_eq_false hltz
          obtain rfl : kk = l.length := by omega
          rw [← hr'.out] at HO
          have hq := Aside0.mk (slices_Reverse_int64_int64.calls (fun _ => True) _ r r.reverse w wr HB.out HO.out (by unfold slices_Reverse_int64_int64.f; rw [if_pos hrl.out]))
          clear HO HB
          go_wp2_with (go_at_call 74; refine hq.out.mono ?_; rintro e w3 ⟨rfl, hR3, hB3, _⟩; have HO := Aside0.mk hR3; have HB := Aside0.mk hB3; clear hR3 hB3)
          go_ret2
          exact ⟨_, rfl, Kd.R_mono HO.out (fun _ _ => trivial), HB.out⟩
    · rw [if_neg hbig] at h; cases h
  · rw [if_neg hc] at h
    simp only [Option.some.injEq, Prod.mk.injEq] at h
    obtain ⟨rfl, rfl⟩ := h
    have c1 : (c == 0) = false := beq_eq_false_iff_ne.mpr hc
    have c2 : (c != 0) = true := by simp [bne, c1]
    clear hc
    go_enter Try.func13, Try.ntmps13
    go_wp2_with (go_at_call 10; refine hC.mono ?_; rintro e w1 ⟨v, rfl, hR, hb⟩; have HB := Aside0.mk hb; clear hR hb)
    go_ret2
    exact ⟨_, rfl, Kd.R_nil _ _ _ _ _, HB.out⟩


end Go.Proofs.Ytmihfmhfgjnfcab.Q

namespace Go.Proofs.Ytmihfmhfgjnfcab.Q
open Go.RowKit Go.Proofs.YtmihfmhfgjnfcabW.PrintWords Go.Proofs.YtmihfmhfgjnfcabW.PrintLast Go.Proofs.YtmihfmhfgjnfcabW.PrintMore
attribute [local go_sem] max2_int min2_int max_two min_two max_three min_three max_four min_four bn_leq bn_gtr bn_geq   -- for this text's walks alone
set_option linter.unusedVariables false
set_option linter.unusedSimpArgs false

/-! ### spec_BordersOf: function 14 -/
def spec_BordersOf.l0 : Nat → ByteArray → List Int → List Int → Int → Option (List Int × Int)
  | 0, _, _, _, _ => none
  | k + 1, x0, x4, x5, x6 => if x6 ≥ 0 then (if 0 ≤ x6 then (if x6 < (x4.length : Int) then (if x5.length < 17592186044416 then (spec_BordersOf.l0 k x0 x4 (x5 ++ [wrap64 ((x0.size : Int) - (rd x4 x6))]) (wrap64 (x6 - 1))) else (none)) else (none)) else (none)) else (some (x5, 0))
def spec_BordersOf.f (k : Nat) (a0 : ByteArray) : Option (List Int × Int) := (spec_l01Is.f k a0).bind fun t325 => (if t325 = true then ((spec_l02Periods.f k a0).bind fun t326 => (spec_BordersOf.l0 k a0 t326 (([] : List Int)) (wrap64 ((t326.length : Int) - 1)))) else (some (([] : List Int), 1)))
theorem spec_BordersOf.mono_l : ∀ k, (∀ y0 y1 y2 y3, LeO (spec_BordersOf.l0 k y0 y1 y2 y3) (spec_BordersOf.l0 (k + 1) y0 y1 y2 y3))
  | 0 => fun _ _ _ _ r h => by simp [spec_BordersOf.l0] at h
  | k + 1 => by
    have ih0 := spec_BordersOf.mono_l k
    · intro y0 y1 y2 y3
      unfold spec_BordersOf.l0
      repeat' first
      | (with_reducible exact ih0 _ _ _ _)
      | (with_reducible exact spec_l01Is.mono _ _)
      | (with_reducible exact spec_l02Periods.mono _ _)
      | (with_reducible exact LeO.refl _)
      | (with_reducible exact LeO.none _)
      | (with_reducible refine LeO.ite ?_ ?_)
      | (with_reducible refine LeO.bind ?_ (fun _ => ?_))
      | exact ih0 _ _ _ _
      | exact spec_l01Is.mono _ _
      | exact spec_l02Periods.mono _ _
      | exact LeO.none _
      | refine LeO.ite ?_ ?_
      | refine LeO.bind ?_ (fun _ => ?_)
theorem spec_BordersOf.mono : ∀ a0 k, LeO (spec_BordersOf.f k a0) (spec_BordersOf.f (k + 1) a0) := by
  intro a0 k
  have ih0 := spec_BordersOf.mono_l k
  unfold spec_BordersOf.f
  repeat' first
      | (with_reducible exact ih0 _ _ _ _)
      | (with_reducible exact spec_l01Is.mono _ _)
      | (with_reducible exact spec_l02Periods.mono _ _)
      | (with_reducible exact LeO.refl _)
      | (with_reducible exact LeO.none _)
      | (with_reducible refine LeO.ite ?_ ?_)
      | (with_reducible refine LeO.bind ?_ (fun _ => ?_))
      | exact ih0 _ _ _ _
      | exact spec_l01Is.mono _ _
      | exact spec_l02Periods.mono _ _
      | exact LeO.none _
      | refine LeO.ite ?_ ?_
      | refine LeO.bind ?_ (fun _ => ?_)
set_option maxHeartbeats 8000000 in
set_option maxRecDepth 100000 in
theorem spec_BordersOf.calls (k : Nat) (a0 : ByteArray) (r1 : List Int) (r2 : Int) (w : World) (h : spec_BordersOf.f k a0 = some (r1, r2)) :
    Calls Try.prog 14 #[.string a0] w fun e w' => ∃ v0_ : Value, e = .returned (.tuple #[v0_, .int .i64 r2]) ∧ Kd.R (Kd.int .i64) 2 w' w.heap.size (fun _ => True) v0_ r1 ∧ Below w.heap.size w w' := by
  have HB := Aside0.mk (Below.refl w.heap.size w)
  have H : ((spec_l01Is.f k a0).bind fun t325 => (if t325 = true then ((spec_l02Periods.f k a0).bind fun t326 => (spec_BordersOf.l0 k a0 t326 (([] : List Int)) (wrap64 ((t326.length : Int) - 1)))) else (some (([] : List Int), 1)))) = some (r1, r2) := h
  clear h
  replace H := Option.bind_eq_some_iff.mp H
  obtain ⟨t325, A20, H⟩ := H
  replace H : (if t325 = true then ((spec_l02Periods.f k a0).bind fun t326 => (spec_BordersOf.l0 k a0 t326 (([] : List Int)) (wrap64 ((t326.length : Int) - 1)))) else (some (([] : List Int), 1))) = some (r1, r2) := H
  have A2 := Aside0.mk A20
  clear A20
  by_cases c3 : t325 = true
  · subst c3
    have H1 : ((spec_l02Periods.f k a0).bind fun t326 => (spec_BordersOf.l0 k a0 t326 (([] : List Int)) (wrap64 ((t326.length : Int) - 1)))) = some (r1, r2) := by rw [if_pos rfl] at H; exact H
    clear H
    have H := H1
    clear H1
    replace H := Option.bind_eq_some_iff.mp H
    obtain ⟨t326, A40, H⟩ := H
    replace H : (spec_BordersOf.l0 k a0 t326 (([] : List Int)) (wrap64 ((t326.length : Int) - 1))) = some (r1, r2) := H
    have A4 := Aside0.mk A40
    clear A40
    obtain ⟨y329, hy329⟩ : ∃ y_ : List Int, y_ = (([] : List Int)) := ⟨_, rfl⟩
    replace H : (spec_BordersOf.l0 k a0 t326 y329 (wrap64 ((t326.length : Int) - 1))) = some (r1, r2) := by first | (rw [hy329]; with_reducible exact H) | (have H2_ := (Option.bind_some _ _).symm.trans H; rw [hy329]; with_reducible exact H2_) | (have H2_ := (Option.bind_some _ _).symm.trans H; with_reducible exact H2_) | with_reducible exact H | (rw [hy329]; exact H) | exact H
    have Ny329 := Aside0.mk hy329
    clear hy329
    have H' := Aside0.mk H
    clear H
    go_enter Try.func14, Try.ntmps14
    go_wp2_with (first | ((with_reducible refine gate_callee (f := 72) rfl ?_); refine goesL_ (some 8) rfl rfl Try.func72 (by kernel_rfl) rfl #[.string a0] rfl (by (try simp only [List.map_toArray, List.map_cons, List.map_nil]); first | done | rfl | (simp only [List.length_drop, List.length_take]; rfl)) ?_; (with_reducible refine (spec_l01Is.calls k a0 true _ A2.out).mono ?_); rintro e w' ⟨rfl, ⟨nd, rfl⟩⟩; refine ⟨_, rfl, ?_⟩) | ((with_reducible refine gate_callee (f := 73) rfl ?_); refine goesL_ (some 11) rfl rfl Try.func73 (by kernel_rfl) rfl #[.string a0] rfl (by (try simp only [List.map_toArray, List.map_cons, List.map_nil]); first | done | rfl | (simp only [List.length_drop, List.length_take]; rfl)) ?_; (with_reducible refine (spec_l02Periods.calls k a0 t326 _ A4.out).mono ?_); rintro e w5 ⟨v327, rfl, ho0, hb⟩; refine ⟨_, rfl, ?_⟩; have n0_ := Aside0.mk (Kd.R_lower ho0 (below_size (by repeat (first | (with_reducible first | exact HB.out | apply below_alloc | apply pw_below_drewN | apply below_drew1) | exact HB.out)))); have n1_ := Aside0.mk (below_step (by repeat (first | (with_reducible first | exact HB.out | apply below_alloc | apply pw_below_drewN | apply below_drew1) | exact HB.out)) hb); clear HB; have HO328 := n0_; have HB := n1_; clear n0_ n1_; (try clear hb); (try clear hb2); (try clear hk); (try clear hi); (try clear ho0)) | ((with_reducible refine gate_dst (N := 12) rfl ?_); refine Kd.R_lit (Kd.int .i64) _ 2 ?hg (N := 12) ?hd (xs := ([] : List Int)) (inner := []) (ok := fun _ => True) (okp := fun _ => True) ?hr ?hp (fun _ hk => hk) trivial (Below.refl _ _) (Nat.le_refl _) (by simp) ?_; (case hd => rfl); (case hg => rfl); (case hr => first | (go_simp; done) | (go_simp; rfl)); (case hp => exact (Reps.none _ _)); intro v330 w6 ho7 hb hg_ hnew_; clear hg_ hnew_; (first | rw [← Ny329.out] at ho7 | (simp only [Int.reduceToNat] at ho7; rw [← Ny329.out] at ho7)); have n0_ := Aside0.mk (Kd.R_elder' (by (with_reducible repeat (first | apply Kd.R_alloc | apply Kd.R_drewN | apply Kd.R_drew)); exact HO328.out) (Kd.R_base ho7) hb); have n1_ := Aside0.mk (Kd.R_lower (Kd.R_new' ho7 (Kd.R_lt (by (with_reducible repeat (first | apply Kd.R_alloc | apply Kd.R_drewN | apply Kd.R_drew)); exact HO328.out))) (below_size (by repeat (first | (with_reducible first | exact HB.out | apply below_alloc | apply pw_below_drewN | apply below_drew1) | exact HB.out)))); have n2_ := Aside0.mk (below_step (by repeat (first | (with_reducible first | exact HB.out | apply below_alloc | apply pw_below_drewN | apply below_drew1) | exact HB.out)) hb); clear HO328; clear HB; have HO328 := n0_; have HO331 := n1_; have HB := n2_; clear n0_ n1_ n2_; clear hb ho7; obtain ⟨Ao8, co8, eo8⟩ := Kd.R_slice HO328.out; subst eo8))
    go_loopg [5, 6] k (fun kq v5 v6 w' => ∃ (x5_1 : List Int) (x6_1 : Int), v6 = .int .i64 x6_1 ∧ Aside0 (spec_BordersOf.l0 kq a0 t326 x5_1 x6_1 = some (r1, r2)) ∧ Aside0 (kq ≤ k) ∧ Aside0 (Kd.R (Kd.int .i64) 2 w' w.heap.size (fun k_ => some k_ ≠ (v5 : Value).ownBlock) (.slice Ao8 t326.length co8) t326) ∧ Aside0 (Kd.R (Kd.int .i64) 2 w' w.heap.size (fun k_ => some k_ ≠ ((.slice Ao8 t326.length co8) : Value).ownBlock) v5 x5_1) ∧ Aside0 (Below w.heap.size w w'))
    case atStart => exact ⟨(y329), (wrap64 ((t326.length : Int) - 1)), (by first | rfl | (simp; done) | (simp [*]; done)), H', ⟨Nat.le_refl _⟩, ⟨by (with_reducible repeat (first | apply Kd.R_alloc | apply Kd.R_drewN | apply Kd.R_drew)); exact Kd.R_mono HO328.out (fun _ hk => hk.2)⟩, ⟨by (with_reducible repeat (first | apply Kd.R_alloc | apply Kd.R_drewN | apply Kd.R_drew)); exact Kd.R_mono HO331.out (fun _ hk => hk.2)⟩, ⟨by repeat (first | (with_reducible first | exact HB.out | apply below_alloc | apply pw_below_drewN | apply below_drew1) | exact HB.out)⟩⟩
    case round =>
      clear H'
      try clear c1
      try clear p2
      try clear c3
      try clear p6
      try clear c7
      obtain ⟨x5_1, x6_1, rfl, HA, HK1, HO_4, HO_5, HB⟩ := hrel
      cases gk with
      | zero => exact absurd HA.out (by simp [spec_BordersOf.l0])
      | succ k1 =>
        have H := HA.out
        clear HA
        simp only [spec_BordersOf.l0] at H
        by_cases c9 : x6_1 ≥ 0
        · rw [if_pos c9] at H
          have c9b0 : decide (0 ≤ x6_1) = true := decide_eq_true c9
          clear c9
          by_cases c10 : 0 ≤ x6_1
          · rw [if_pos c10] at H
            have c10b0 : decide (0 ≤ x6_1) = true := decide_eq_true c10
            clear c10
            by_cases c11 : x6_1 < (t326.length : Int)
            · rw [if_pos c11] at H
              have c11b0 : decide (x6_1 < (t326.length : Int)) = true := decide_eq_true c11
              clear c11
              by_cases c12 : x5_1.length < 17592186044416
              · rw [if_pos c12] at H
                have LMc12 := Aside0.mk c12
                clear c12
                obtain ⟨y333, hy333⟩ : ∃ y_ : List Int, y_ = (x5_1 ++ [wrap64 ((a0.size : Int) - (rd t326 x6_1))]) := ⟨_, rfl⟩
                replace H : (spec_BordersOf.l0 k1 a0 t326 y333 (wrap64 (x6_1 - 1))) = some (r1, r2) := by first | (rw [hy333]; with_reducible exact H) | (have H2_ := (Option.bind_some _ _).symm.trans H; rw [hy333]; with_reducible exact H2_) | (have H2_ := (Option.bind_some _ _).symm.trans H; with_reducible exact H2_) | with_reducible exact H | (rw [hy333]; exact H) | exact H
                have Ny333 := Aside0.mk hy333
                clear hy333
                have H' := Aside0.mk H
                clear H
                have p332 : 0 ≤ (x6_1 : Int) := of_decide_eq_true (by first | (with_reducible assumption) | assumption)
                have q332 : x6_1 < (t326.length : Int) := of_decide_eq_true (by first | (with_reducible assumption) | assumption)
                obtain ⟨ad332, e332, hx332_0⟩ := Kd.at_int (Kd.R_reads' HO_4.out).2.2 x6_1 p332 q332
                cases e332
                replace p332 := eq_true p332
                replace q332 := eq_true q332
                go_wp2_with (first | ((with_reducible refine gate_builtin (b := .append) (xs := #[.tmp 20, .tmp 28]) rfl ?_); at_builtin; refine Kd.R_append (Kd.int .i64) (w0 := w) w.heap.size rfl (.tmp 20) (.tmp 28) 27 2 (.int .i64 0) 8 rfl Try.underlying27 info2 rfl (by decide) (by omega) u5 x5_1 (wrap64 ((a0.size : Int) - (rd t326 x6_1))) [.int .i64 (wrap64 ((a0.size : Int) - (rd t326 x6_1)))] (fun k_ => some k_ ≠ (.slice (some ad332) t326.length co8 : Value).ownBlock) (fun _ => False) rfl rfl ?aP (fun _ hk => hk.elim) ?aF ?aO ?aB ?aS ?aL ?_; (case aP => exact rfl); (case aB => exact (by repeat (first | (with_reducible first | exact HB.out | apply below_alloc | apply pw_below_drewN | apply below_drew1) | exact HB.out))); (case aF => exact (fun k_ hk => Kd.fresh' (Kd.R_lt (by (with_reducible repeat (first | apply Kd.R_alloc | apply Kd.R_drewN | apply Kd.R_drew)); exact HO_4.out)) k_ hk)); (case aO => exact (by (with_reducible repeat (first | apply Kd.R_alloc | apply Kd.R_drewN | apply Kd.R_drew)); exact HO_5.out)); (case aS => exact (below_size (by repeat (first | (with_reducible first | exact HB.out | apply below_alloc | apply pw_below_drewN | apply below_drew1) | exact HB.out)))); (case aL => have := LMc12.out; omega); intro v334 w13 ho hb hg hat; rw [← Ny333.out] at ho; have n0_ := Aside0.mk (Kd.R_after (ok := (fun _ => True)) (by (with_reducible repeat (first | apply Kd.R_alloc | apply Kd.R_drewN | apply Kd.R_drew)); exact Kd.R_mono HO_4.out (fun _ hk => ⟨trivial, hk⟩)) hg hat); have n1_ := Aside0.mk (hb); have n2_ := Aside0.mk (ho); clear HO_4; clear HB; clear HO_5; have HO_4 := n0_; have HB := n1_; have HO335 := n2_; clear n0_ n1_ n2_; clear ho hb hg hat))
                go_roundg k1
                case measure => have := HK1.out; omega
                case rel => exact ⟨(y333), (wrap64 (x6_1 - 1)), (by first | rfl | (simp; done) | (simp [*]; done)), H', ⟨by have := HK1.out; omega⟩, ⟨by (with_reducible repeat (first | apply Kd.R_alloc | apply Kd.R_drewN | apply Kd.R_drew)); exact Kd.R_mono HO_4.out (fun _ hk => hk.2)⟩, ⟨by (with_reducible repeat (first | apply Kd.R_alloc | apply Kd.R_drewN | apply Kd.R_drew)); exact HO335.out⟩, ⟨by repeat (first | (with_reducible first | exact HB.out | apply below_alloc | apply pw_below_drewN | apply below_drew1) | exact HB.out)⟩⟩
              · rw [if_neg c12] at H
                exact absurd H (by simp)
            · rw [if_neg c11] at H
              exact absurd H (by simp)
          · rw [if_neg c10] at H
            exact absurd H (by simp)
        · rw [if_neg c9] at H
          have c9b0 : decide (0 ≤ x6_1) = false := decide_eq_false c9
          clear c9
          simp only [Option.some.injEq, Prod.mk.injEq] at H
          obtain ⟨rfl, rfl⟩ := H
          go_wp2
          go_ret2
          exact ⟨_, by first | rfl | (simp [errW_none, errW_some] <;> rfl) | (simp [*, errW_none, errW_some] <;> rfl), by (with_reducible repeat (first | apply Kd.R_alloc | apply Kd.R_drewN | apply Kd.R_drew)); exact Kd.R_mono HO_5.out (fun _ hk => trivial), by repeat (first | (with_reducible first | exact HB.out | apply below_alloc | apply pw_below_drewN | apply below_drew1) | exact HB.out)⟩
  · replace c3 := Bool.eq_false_iff.mpr c3
    subst c3
    have H1 : (some (([] : List Int), 1)) = some (r1, r2) := by rw [if_neg (show ¬ (false = true) by decide)] at H; exact H
    clear H
    have H := H1
    clear H1
    simp only [Option.some.injEq, Prod.mk.injEq] at H
    obtain ⟨rfl, rfl⟩ := H
    go_enter Try.func14, Try.ntmps14
    go_wp2_with (first | ((with_reducible refine gate_callee (f := 72) rfl ?_); refine goesL_ (some 8) rfl rfl Try.func72 (by kernel_rfl) rfl #[.string a0] rfl (by (try simp only [List.map_toArray, List.map_cons, List.map_nil]); first | done | rfl | (simp only [List.length_drop, List.length_take]; rfl)) ?_; (with_reducible refine (spec_l01Is.calls k a0 false _ A2.out).mono ?_); rintro e w' ⟨rfl, ⟨nd, rfl⟩⟩; refine ⟨_, rfl, ?_⟩))
    go_ret2
    exact ⟨_, by first | rfl | (simp [errW_none, errW_some] <;> rfl) | (simp [*, errW_none, errW_some] <;> rfl), by first | exact Kd.R_nil _ _ _ _ _ | exact Kd.N_nil _ _ _ _ _ | exact Kd.V_nil _ _ _ _ _ | exact Kd.Q_nil _ _ _ _ _ | exact Kd.S_nil _ _ _ _ _, by repeat (first | (with_reducible first | exact HB.out | apply below_alloc | apply pw_below_drewN | apply below_drew1) | exact HB.out)⟩

end Go.Proofs.Ytmihfmhfgjnfcab.Q

namespace Go.Proofs.Ytmihfmhfgjnfcab.Q
open Go.RowKit Go.Proofs.YtmihfmhfgjnfcabW.PrintWords Go.Proofs.YtmihfmhfgjnfcabW.PrintLast Go.Proofs.YtmihfmhfgjnfcabW.PrintMore
attribute [local go_sem] max2_int min2_int max_two min_two max_three min_three max_four min_four bn_leq bn_gtr bn_geq   -- for this text's walks alone
set_option linter.unusedVariables false
set_option linter.unusedSimpArgs false

/-! ### impl_divisor: function 119 -/
def impl_divisor.l0 : Nat → Int → Int → Option (Int)
  | 0, _, _ => none
  | k + 1, x0, x1 => if x1 = 0 then (some x0) else (impl_divisor.l0 k x1 (Int.tmod x0 x1))
def impl_divisor.f (k : Nat) (a0 : Int) (a1 : Int) : Option (Int) := impl_divisor.l0 k a0 a1
theorem impl_divisor.mono_l : ∀ k, (∀ y0 y1, LeO (impl_divisor.l0 k y0 y1) (impl_divisor.l0 (k + 1) y0 y1))
  | 0 => fun _ _ r h => by simp [impl_divisor.l0] at h
  | k + 1 => by
    have ih0 := impl_divisor.mono_l k
    · intro y0 y1
      unfold impl_divisor.l0
      repeat' first
      | (with_reducible exact ih0 _ _)
      | (with_reducible exact LeO.refl _)
      | (with_reducible exact LeO.none _)
      | (with_reducible refine LeO.ite ?_ ?_)
      | (with_reducible refine LeO.bind ?_ (fun _ => ?_))
      | exact ih0 _ _
      | exact LeO.none _
      | refine LeO.ite ?_ ?_
      | refine LeO.bind ?_ (fun _ => ?_)
theorem impl_divisor.mono : ∀ a0 a1 k, LeO (impl_divisor.f k a0 a1) (impl_divisor.f (k + 1) a0 a1) := by
  intro a0 a1 k
  have ih0 := impl_divisor.mono_l k
  unfold impl_divisor.f
  repeat' first
      | (with_reducible exact ih0 _ _)
      | (with_reducible exact LeO.refl _)
      | (with_reducible exact LeO.none _)
      | (with_reducible refine LeO.ite ?_ ?_)
      | (with_reducible refine LeO.bind ?_ (fun _ => ?_))
      | exact ih0 _ _
      | exact LeO.none _
      | refine LeO.ite ?_ ?_
      | refine LeO.bind ?_ (fun _ => ?_)
set_option maxHeartbeats 8000000 in
set_option maxRecDepth 100000 in
theorem impl_divisor.calls (k : Nat) (a0 : Int) (a1 : Int) (r : Int) (w : World) (h : impl_divisor.f k a0 a1 = some r) :
    Calls Try.prog 119 #[.int .i64 a0, .int .i64 a1] w fun e w' => e = .returned (.int .i64 r) ∧ Drawn0 w w' := by
  have H : (impl_divisor.l0 k a0 a1) = some r := h
  clear h
  have H' := Aside0.mk H
  clear H
  go_enter Try.func119, Try.ntmps119
  go_wp2
  repeat (go_quiet (fail); try go_wp2)
  go_loopg [0, 1] k (fun kq v0 v1 w' => ∃ (x0_1 : Int) (x1_1 : Int), v0 = .int .i64 x0_1 ∧ v1 = .int .i64 x1_1 ∧ Aside0 (impl_divisor.l0 kq x0_1 x1_1 = some r) ∧ Aside0 (kq ≤ k) ∧ Drawn0 w w')
  case atStart => exact ⟨(a0), (a1), (by first | rfl | (simp; done) | (simp [*]; done)), (by first | rfl | (simp; done) | (simp [*]; done)), H', ⟨Nat.le_refl _⟩, by repeat (first | exact Drawn0.refl _ | apply Drawn0.step)⟩
  case round =>
    clear H'
    try clear c1
    try clear p2
    obtain ⟨x0_1, x1_1, rfl, rfl, HA, HK1, ⟨m1, rfl⟩⟩ := hrel
    cases gk with
    | zero => exact absurd HA.out (by simp [impl_divisor.l0])
    | succ k1 =>
      have H := HA.out
      clear HA
      simp only [impl_divisor.l0] at H
      by_cases c3 : x1_1 = 0
      · rw [if_pos c3] at H
        have c3b0 : (x1_1 == 0) = true := beq_iff_eq.mpr c3
        have c3b1 : (x1_1 != 0) = false := bne_eq_false_iff_eq.mpr c3
        clear c3
        obtain rfl := Option.some.inj H
        go_wp2
        repeat (go_quiet (fail); try go_wp2)
        go_ret
        exact ⟨by first | rfl | (simp; done) | (simp [*]; done), by repeat (first | exact Drawn0.refl _ | apply Drawn0.step)⟩
      · rw [if_neg c3] at H
        have c3b0 : (x1_1 == 0) = false := beq_eq_false_iff_ne.mpr c3
        have c3b1 : (x1_1 != 0) = true := bne_iff_ne.mpr c3
        have H' := Aside0.mk H
        clear H
        go_wp2
        repeat (go_quiet (fail); try go_wp2)
        go_roundg k1
        case measure => have := HK1.out; omega
        case rel => exact ⟨(x1_1), (Int.tmod x0_1 x1_1), (by first | rfl | (simp; done) | (simp [*]; done)), (by first | rfl | (simp; done) | (simp [*]; done)), H', ⟨by have := HK1.out; omega⟩, by repeat (first | exact Drawn0.refl _ | apply Drawn0.step)⟩

end Go.Proofs.Ytmihfmhfgjnfcab.Q

namespace Go.Proofs.Ytmihfmhfgjnfcab.Q
open Go.RowKit Go.Proofs.YtmihfmhfgjnfcabW.PrintWords Go.Proofs.YtmihfmhfgjnfcabW.PrintLast Go.Proofs.YtmihfmhfgjnfcabW.PrintMore
attribute [local go_sem] max2_int min2_int max_two min_two max_three min_three max_four min_four bn_leq bn_gtr bn_geq   -- for this text's walks alone
set_option linter.unusedVariables false
set_option linter.unusedSimpArgs false

/-! ### impl_lowest: function 75 -/
def impl_lowest.f (k : Nat) (a0 : Int) (a1 : Int) : Option (Int × Int) := (impl_divisor.f k a0 a1).bind fun t336 => (if t336 = 0 then (none) else (some (wrap64 (Int.tdiv a0 t336), wrap64 (Int.tdiv a1 t336))))
theorem impl_lowest.mono : ∀ a0 a1 k, LeO (impl_lowest.f k a0 a1) (impl_lowest.f (k + 1) a0 a1) := by
  intro a0 a1 k
  unfold impl_lowest.f
  repeat' first
      | (with_reducible exact impl_divisor.mono _ _ _)
      | (with_reducible exact LeO.refl _)
      | (with_reducible exact LeO.none _)
      | (with_reducible refine LeO.ite ?_ ?_)
      | (with_reducible refine LeO.bind ?_ (fun _ => ?_))
      | exact impl_divisor.mono _ _ _
      | exact LeO.none _
      | refine LeO.ite ?_ ?_
      | refine LeO.bind ?_ (fun _ => ?_)
set_option maxHeartbeats 8000000 in
set_option maxRecDepth 100000 in
theorem impl_lowest.calls (k : Nat) (a0 : Int) (a1 : Int) (r1 : Int) (r2 : Int) (w : World) (h : impl_lowest.f k a0 a1 = some (r1, r2)) :
    Calls Try.prog 75 #[.int .i64 a0, .int .i64 a1] w fun e w' => e = .returned (.tuple #[.int .i64 r1, .int .i64 r2]) ∧ Drawn0 w w' := by
  have H : ((impl_divisor.f k a0 a1).bind fun t336 => (if t336 = 0 then (none) else (some (wrap64 (Int.tdiv a0 t336), wrap64 (Int.tdiv a1 t336))))) = some (r1, r2) := h
  clear h
  replace H := Option.bind_eq_some_iff.mp H
  obtain ⟨t336, A30, H⟩ := H
  replace H : (if t336 = 0 then (none) else (some (wrap64 (Int.tdiv a0 t336), wrap64 (Int.tdiv a1 t336)))) = some (r1, r2) := H
  have A3 := Aside0.mk A30
  clear A30
  by_cases c4 : t336 = 0
  · rw [if_pos c4] at H
    exact absurd H (by simp)
  · rw [if_neg c4] at H
    have c4b0 : (t336 == 0) = false := beq_eq_false_iff_ne.mpr c4
    have c4b1 : (t336 != 0) = true := bne_iff_ne.mpr c4
    simp only [Option.some.injEq, Prod.mk.injEq] at H
    obtain ⟨rfl, rfl⟩ := H
    go_enter Try.func75, Try.ntmps75
    go_wp2_with (first | (go_at_call 119; (with_reducible refine (impl_divisor.calls k a0 a1 t336 _ A3.out).mono ?_); rintro e w' ⟨rfl, ⟨nd, rfl⟩⟩; (try first | exact ⟨rfl, _, World.drewN_drewN _ _ _⟩ | exact ⟨rfl, _, Eq.trans (World.drewN_drewN _ _ _) (congrArg (World.drewN _) (Nat.add_assoc _ _ _))⟩)))
    repeat (go_quiet (first | (go_at_call 119; (with_reducible refine (impl_divisor.calls k a0 a1 t336 _ A3.out).mono ?_); rintro e w' ⟨rfl, ⟨nd, rfl⟩⟩; (try first | exact ⟨rfl, _, World.drewN_drewN _ _ _⟩ | exact ⟨rfl, _, Eq.trans (World.drewN_drewN _ _ _) (congrArg (World.drewN _) (Nat.add_assoc _ _ _))⟩))); try go_wp2_with (first | (go_at_call 119; (with_reducible refine (impl_divisor.calls k a0 a1 t336 _ A3.out).mono ?_); rintro e w' ⟨rfl, ⟨nd, rfl⟩⟩; (try first | exact ⟨rfl, _, World.drewN_drewN _ _ _⟩ | exact ⟨rfl, _, Eq.trans (World.drewN_drewN _ _ _) (congrArg (World.drewN _) (Nat.add_assoc _ _ _))⟩))))
    go_ret2
    exact ⟨by first | rfl | (simp; done) | (simp [*]; done), by repeat (first | exact Drawn0.refl _ | apply Drawn0.step)⟩

end Go.Proofs.Ytmihfmhfgjnfcab.Q

namespace Go.Proofs.Ytmihfmhfgjnfcab.Q
open Go.RowKit Go.Proofs.YtmihfmhfgjnfcabW.PrintWords Go.Proofs.YtmihfmhfgjnfcabW.PrintLast Go.Proofs.YtmihfmhfgjnfcabW.PrintMore
attribute [local go_sem] max2_int min2_int max_two min_two max_three min_three max_four min_four bn_leq bn_gtr bn_geq   -- for this text's walks alone
set_option linter.unusedVariables false
set_option linter.unusedSimpArgs false

/-! ### impl_ExponentOf: function 15 -/
def impl_ExponentOf.f (k : Nat) (a0 : ByteArray) : Option (Int × Int × Int) := (impl_filledCode.f a0).bind fun t337 => (if t337 = 0 then ((impl_size.f a0).bind fun t338 => ((impl_period.f k a0).bind fun t339 => ((impl_lowest.f k t338 t339).bind fun bt340 => (some (bt340.1, bt340.2, 0))))) else (some (0, 0, t337)))
theorem impl_ExponentOf.mono : ∀ a0 k, LeO (impl_ExponentOf.f k a0) (impl_ExponentOf.f (k + 1) a0) := by
  intro a0 k
  unfold impl_ExponentOf.f
  repeat' first
      | (with_reducible exact impl_lowest.mono _ _ _)
      | (with_reducible exact impl_period.mono _ _)
      | (with_reducible exact LeO.refl _)
      | (with_reducible exact LeO.none _)
      | (with_reducible refine LeO.ite ?_ ?_)
      | (with_reducible refine LeO.bind ?_ (fun _ => ?_))
      | exact impl_lowest.mono _ _ _
      | exact impl_period.mono _ _
      | exact LeO.none _
      | refine LeO.ite ?_ ?_
      | refine LeO.bind ?_ (fun _ => ?_)
set_option maxHeartbeats 8000000 in
set_option maxRecDepth 100000 in
theorem impl_ExponentOf.calls (k : Nat) (a0 : ByteArray) (r1 : Int) (r2 : Int) (r3 : Int) (w : World) (h : impl_ExponentOf.f k a0 = some (r1, r2, r3)) :
    Calls Try.prog 15 #[.string a0] w fun e w' => e = .returned (.tuple #[.int .i64 r1, .int .i64 r2, .int .i64 r3]) ∧ Below w.heap.size w w' := by
  have HB := Aside0.mk (Below.refl w.heap.size w)
  have H : ((impl_filledCode.f a0).bind fun t337 => (if t337 = 0 then ((impl_size.f a0).bind fun t338 => ((impl_period.f k a0).bind fun t339 => ((impl_lowest.f k t338 t339).bind fun bt340 => (some (bt340.1, bt340.2, 0))))) else (some (0, 0, t337)))) = some (r1, r2, r3) := h
  clear h
  replace H := Option.bind_eq_some_iff.mp H
  obtain ⟨t337, A20, H⟩ := H
  replace H : (if t337 = 0 then ((impl_size.f a0).bind fun t338 => ((impl_period.f k a0).bind fun t339 => ((impl_lowest.f k t338 t339).bind fun bt340 => (some (bt340.1, bt340.2, 0))))) else (some (0, 0, t337))) = some (r1, r2, r3) := H
  have A2 := Aside0.mk A20
  clear A20
  by_cases c3 : t337 = 0
  · rw [if_pos c3] at H
    have c3b0 : (t337 == 0) = true := beq_iff_eq.mpr c3
    have c3b1 : (t337 != 0) = false := bne_eq_false_iff_eq.mpr c3
    clear c3
    replace H := Option.bind_eq_some_iff.mp H
    obtain ⟨t338, A40, H⟩ := H
    replace H : ((impl_period.f k a0).bind fun t339 => ((impl_lowest.f k t338 t339).bind fun bt340 => (some (bt340.1, bt340.2, 0)))) = some (r1, r2, r3) := H
    have A4 := Aside0.mk A40
    clear A40
    replace H := Option.bind_eq_some_iff.mp H
    obtain ⟨t339, A50, H⟩ := H
    replace H : ((impl_lowest.f k t338 t339).bind fun bt340 => (some (bt340.1, bt340.2, 0))) = some (r1, r2, r3) := H
    have A5 := Aside0.mk A50
    clear A50
    replace H := Option.bind_eq_some_iff.mp H
    obtain ⟨⟨t340, t341⟩, A60, H⟩ := H
    replace H : (some (t340, t341, 0)) = some (r1, r2, r3) := H
    have A6 := Aside0.mk A60
    clear A60
    simp only [Option.some.injEq, Prod.mk.injEq] at H
    obtain ⟨rfl, rfl, rfl⟩ := H
    go_enter Try.func15, Try.ntmps15
    go_wp2_with (first | ((with_reducible refine gate_callee (f := 64) rfl ?_); refine goesL_ (some 9) rfl rfl Try.func64 (by kernel_rfl) rfl #[.string a0] rfl (by (try simp only [List.map_toArray, List.map_cons, List.map_nil]); first | done | rfl | (simp only [List.length_drop, List.length_take]; rfl)) ?_; (with_reducible refine (impl_filledCode.calls a0 t337 _ A2.out).mono ?_); rintro e w7 ⟨rfl, hb⟩; refine ⟨_, rfl, ?_⟩; have n0_ := Aside0.mk (below_step (by repeat (first | (with_reducible first | exact HB.out | apply below_alloc | apply pw_below_drewN | apply below_drew1) | exact HB.out)) hb); clear HB; have HB := n0_; clear n0_; (try clear hb); (try clear hb2); (try clear hk); (try clear hi)) | ((with_reducible refine gate_callee (f := 66) rfl ?_); refine goesL_ (some 15) rfl rfl Try.func66 (by kernel_rfl) rfl #[.string a0] rfl (by (try simp only [List.map_toArray, List.map_cons, List.map_nil]); first | done | rfl | (simp only [List.length_drop, List.length_take]; rfl)) ?_; (with_reducible refine (impl_size.calls a0 t338 _ A4.out).mono ?_); rintro e w' ⟨rfl, ⟨nd, rfl⟩⟩; refine ⟨_, rfl, ?_⟩) | ((with_reducible refine gate_callee (f := 76) rfl ?_); refine goesL_ (some 17) rfl rfl Try.func76 (by kernel_rfl) rfl #[.string a0] rfl (by (try simp only [List.map_toArray, List.map_cons, List.map_nil]); first | done | rfl | (simp only [List.length_drop, List.length_take]; rfl)) ?_; (with_reducible refine (impl_period.calls k a0 t339 _ A5.out).mono ?_); rintro e w' ⟨rfl, ⟨nd, rfl⟩⟩; refine ⟨_, rfl, ?_⟩) | ((with_reducible refine gate_callee (f := 75) rfl ?_); refine goesL_ (some 18) rfl rfl Try.func75 (by kernel_rfl) rfl #[.int .i64 t338, .int .i64 t339] rfl (by (try simp only [List.map_toArray, List.map_cons, List.map_nil]); first | done | rfl | (simp only [List.length_drop, List.length_take]; rfl)) ?_; (with_reducible refine (impl_lowest.calls k t338 t339 t340 t341 _ A6.out).mono ?_); rintro e w' ⟨rfl, ⟨nd, rfl⟩⟩; refine ⟨_, rfl, ?_⟩))
    go_ret3
    exact ⟨by first | rfl | (simp [errW_none, errW_some] <;> rfl) | (simp [*, errW_none, errW_some] <;> rfl), by repeat (first | (with_reducible first | exact HB.out | apply below_alloc | apply pw_below_drewN | apply below_drew1) | exact HB.out)⟩
  · rw [if_neg c3] at H
    have c3b0 : (t337 == 0) = false := beq_eq_false_iff_ne.mpr c3
    have c3b1 : (t337 != 0) = true := bne_iff_ne.mpr c3
    simp only [Option.some.injEq, Prod.mk.injEq] at H
    obtain ⟨rfl, rfl, rfl⟩ := H
    go_enter Try.func15, Try.ntmps15
    go_wp2_with (first | ((with_reducible refine gate_callee (f := 64) rfl ?_); refine goesL_ (some 9) rfl rfl Try.func64 (by kernel_rfl) rfl #[.string a0] rfl (by (try simp only [List.map_toArray, List.map_cons, List.map_nil]); first | done | rfl | (simp only [List.length_drop, List.length_take]; rfl)) ?_; (with_reducible refine (impl_filledCode.calls a0 t337 _ A2.out).mono ?_); rintro e w8 ⟨rfl, hb⟩; refine ⟨_, rfl, ?_⟩; have n0_ := Aside0.mk (below_step (by repeat (first | (with_reducible first | exact HB.out | apply below_alloc | apply pw_below_drewN | apply below_drew1) | exact HB.out)) hb); clear HB; have HB := n0_; clear n0_; (try clear hb); (try clear hb2); (try clear hk); (try clear hi)))
    go_ret3
    exact ⟨by first | rfl | (simp [errW_none, errW_some] <;> rfl) | (simp [*, errW_none, errW_some] <;> rfl), by repeat (first | (with_reducible first | exact HB.out | apply below_alloc | apply pw_below_drewN | apply below_drew1) | exact HB.out)⟩

end Go.Proofs.Ytmihfmhfgjnfcab.Q

namespace Go.Proofs.Ytmihfmhfgjnfcab.Q
open Go.RowKit Go.Proofs.YtmihfmhfgjnfcabW.PrintWords Go.Proofs.YtmihfmhfgjnfcabW.PrintLast Go.Proofs.YtmihfmhfgjnfcabW.PrintMore
attribute [local go_sem] max2_int min2_int max_two min_two max_three min_three max_four min_four bn_leq bn_gtr bn_geq   -- for this text's walks alone
set_option linter.unusedVariables false
set_option linter.unusedSimpArgs false

/-! ### spec_l02Gcd: function 77 -/
def spec_l02Gcd.l0 : Nat → Int → Int → Option (Int)
  | 0, _, _ => none
  | k + 1, x0, x1 => if x1 > 0 then (if x1 = 0 then (none) else (spec_l02Gcd.l0 k x1 (Int.tmod x0 x1))) else (some x0)
def spec_l02Gcd.f (k : Nat) (a0 : Int) (a1 : Int) : Option (Int) := spec_l02Gcd.l0 k a0 a1
theorem spec_l02Gcd.mono_l : ∀ k, (∀ y0 y1, LeO (spec_l02Gcd.l0 k y0 y1) (spec_l02Gcd.l0 (k + 1) y0 y1))
  | 0 => fun _ _ r h => by simp [spec_l02Gcd.l0] at h
  | k + 1 => by
    have ih0 := spec_l02Gcd.mono_l k
    · intro y0 y1
      unfold spec_l02Gcd.l0
      repeat' first
      | (with_reducible exact ih0 _ _)
      | (with_reducible exact LeO.refl _)
      | (with_reducible exact LeO.none _)
      | (with_reducible refine LeO.ite ?_ ?_)
      | (with_reducible refine LeO.bind ?_ (fun _ => ?_))
      | exact ih0 _ _
      | exact LeO.none _
      | refine LeO.ite ?_ ?_
      | refine LeO.bind ?_ (fun _ => ?_)
theorem spec_l02Gcd.mono : ∀ a0 a1 k, LeO (spec_l02Gcd.f k a0 a1) (spec_l02Gcd.f (k + 1) a0 a1) := by
  intro a0 a1 k
  have ih0 := spec_l02Gcd.mono_l k
  unfold spec_l02Gcd.f
  repeat' first
      | (with_reducible exact ih0 _ _)
      | (with_reducible exact LeO.refl _)
      | (with_reducible exact LeO.none _)
      | (with_reducible refine LeO.ite ?_ ?_)
      | (with_reducible refine LeO.bind ?_ (fun _ => ?_))
      | exact ih0 _ _
      | exact LeO.none _
      | refine LeO.ite ?_ ?_
      | refine LeO.bind ?_ (fun _ => ?_)
set_option maxHeartbeats 8000000 in
set_option maxRecDepth 100000 in
theorem spec_l02Gcd.calls (k : Nat) (a0 : Int) (a1 : Int) (r : Int) (w : World) (h : spec_l02Gcd.f k a0 a1 = some r) :
    Calls Try.prog 77 #[.int .i64 a0, .int .i64 a1] w fun e w' => e = .returned (.int .i64 r) ∧ Drawn0 w w' := by
  have H : (spec_l02Gcd.l0 k a0 a1) = some r := h
  clear h
  have H' := Aside0.mk H
  clear H
  go_enter Try.func77, Try.ntmps77
  go_wp2
  go_loopg [0, 1] k (fun kq v0 v1 w' => ∃ (x0_1 : Int) (x1_1 : Int), v0 = .int .i64 x0_1 ∧ v1 = .int .i64 x1_1 ∧ Aside0 (spec_l02Gcd.l0 kq x0_1 x1_1 = some r) ∧ Aside0 (kq ≤ k) ∧ Drawn0 w w')
  case atStart => exact ⟨(a0), (a1), (by first | rfl | (simp; done) | (simp [*]; done)), (by first | rfl | (simp; done) | (simp [*]; done)), H', ⟨Nat.le_refl _⟩, by repeat (first | exact Drawn0.refl _ | apply Drawn0.step)⟩
  case round =>
    clear H'
    try clear p2
    obtain ⟨x0_1, x1_1, rfl, rfl, HA, HK1, ⟨m1, rfl⟩⟩ := hrel
    cases gk with
    | zero => exact absurd HA.out (by simp [spec_l02Gcd.l0])
    | succ k1 =>
      have H := HA.out
      clear HA
      simp only [spec_l02Gcd.l0] at H
      by_cases c3 : x1_1 > 0
      · rw [if_pos c3] at H
        have c3b0 : decide (0 < x1_1) = true := decide_eq_true c3
        clear c3
        by_cases c4 : x1_1 = 0
        · rw [if_pos c4] at H
          exact absurd H (by simp)
        · rw [if_neg c4] at H
          have c4b0 : (x1_1 == 0) = false := beq_eq_false_iff_ne.mpr c4
          have c4b1 : (x1_1 != 0) = true := bne_iff_ne.mpr c4
          have H' := Aside0.mk H
          clear H
          go_wp2
          go_roundg k1
          case measure => have := HK1.out; omega
          case rel => exact ⟨(x1_1), (Int.tmod x0_1 x1_1), (by first | rfl | (simp; done) | (simp [*]; done)), (by first | rfl | (simp; done) | (simp [*]; done)), H', ⟨by have := HK1.out; omega⟩, by repeat (first | exact Drawn0.refl _ | apply Drawn0.step)⟩
      · rw [if_neg c3] at H
        have c3b0 : decide (0 < x1_1) = false := decide_eq_false c3
        clear c3
        obtain rfl := Option.some.inj H
        go_wp2
        go_ret
        exact ⟨by first | rfl | (simp; done) | (simp [*]; done), by repeat (first | exact Drawn0.refl _ | apply Drawn0.step)⟩

end Go.Proofs.Ytmihfmhfgjnfcab.Q

namespace Go.Proofs.Ytmihfmhfgjnfcab.Q
open Go.RowKit Go.Proofs.YtmihfmhfgjnfcabW.PrintWords Go.Proofs.YtmihfmhfgjnfcabW.PrintLast Go.Proofs.YtmihfmhfgjnfcabW.PrintMore
attribute [local go_sem] max2_int min2_int max_two min_two max_three min_three max_four min_four bn_leq bn_gtr bn_geq   -- for this text's walks alone
set_option linter.unusedVariables false
set_option linter.unusedSimpArgs false

/-! ### spec_ExponentOf: function 16 (this session's own) -/
def spec_ExponentOf.f (k : Nat) (a0 : ByteArray) : Option (Int × Int × Int) := (spec_l02Given.f k a0).bind fun t108 => (if t108 = 0 then ((spec_l02Periods.f k a0).bind fun t109 => (if 0 < (t109.length : Int) then ((spec_l02Gcd.f k (a0.size : Int) (rd t109 0)).bind fun t113 => (if t113 = 0 then (none) else (some (wrap64 (Int.tdiv (a0.size : Int) t113), wrap64 (Int.tdiv (rd t109 0) t113), 0)))) else (none))) else (some (0, 0, t108)))
theorem spec_ExponentOf.mono : ∀ a0 k, LeO (spec_ExponentOf.f k a0) (spec_ExponentOf.f (k + 1) a0) := by
  intro a0 k
  unfold spec_ExponentOf.f
  exact LeO.bind (spec_l02Given.mono _ _) fun _ => LeO.ite (LeO.bind (spec_l02Periods.mono _ _) fun _ => LeO.ite (LeO.bind (spec_l02Gcd.mono _ _ _) fun _ => LeO.refl _) (LeO.refl _)) (LeO.refl _)
set_option maxHeartbeats 4000000 in
theorem spec_ExponentOf.calls (k : Nat) (a0 : ByteArray) (r1 r2 r3 : Int) (w : World) (h : spec_ExponentOf.f k a0 = some (r1, r2, r3)) :
    Calls Try.prog 16 #[.string a0] w fun e w' => e = .returned (.tuple #[.int .i64 r1, .int .i64 r2, .int .i64 r3]) ∧ Below w.heap.size w w' := by
  unfold spec_ExponentOf.f at h
  obtain ⟨g, hg, h⟩ := Option.bind_eq_some_iff.mp h
  have hg' := Aside0.mk hg
  clear hg
  by_cases h0 : g = 0
  · rw [if_pos h0] at h
    subst h0
    obtain ⟨l, hl, h⟩ := Option.bind_eq_some_iff.mp h
    have hl' := Aside0.mk hl
    clear hl
    by_cases h1 : 0 < (l.length : Int)
    · rw [if_pos h1] at h
      obtain ⟨d, hd, h⟩ := Option.bind_eq_some_iff.mp h
      have hd' := Aside0.mk hd
      clear hd
      by_cases h2 : d = 0
      · rw [if_pos h2] at h; cases h
      · rw [if_neg h2] at h
        obtain ⟨rfl, rfl, rfl⟩ : wrap64 (Int.tdiv (a0.size : Int) d) = r1 ∧ wrap64 (Int.tdiv (rd l 0) d) = r2 ∧ (0 : Int) = r3 := by simpa using h
        clear h
        have h2a := beq_eq_false_iff_ne.mpr h2
        have h1a := decide_eq_true h1
        have h1b : decide (0 < l.length) = true := decide_eq_true (by omega)
        have hper : ∀ W : World, Calls Try.prog 73 #[.string a0] W fun e w' => ∃ A c ad, e = .returned (.slice A l.length c) ∧ A = some ad ∧ w'.cell? ad = some (.int .i64 (rd l 0)) ∧ Below W.heap.size W w' := fun W => (spec_l02Periods.calls k a0 l W hl'.out).mono fun e w' ⟨v, he, ho, hb⟩ => by
          obtain ⟨A, c, rfl, hcc, hC⟩ := Kd.R_reads ho
          obtain ⟨ad, hA, hcell⟩ := Kd.at_int hC 0 (by omega) h1
          exact ⟨A, c, ad, he, hA, by rw [show ad = ad.add (0 : Int).toNat from (by unfold Addr.add; simp)]; exact hcell, hb⟩
        have hgcd : ∀ W : World, Calls Try.prog 77 #[.int .i64 a0.size, .int .i64 (rd l 0)] W fun e w' => e = .returned (.int .i64 d) ∧ Drawn0 W w' := fun W => spec_l02Gcd.calls k _ _ d W hd'.out
        go_enter Try.func16, Try.ntmps16
        go_wp2_with (go_at_call 67; refine (spec_l02Given.calls k a0 0 _ hg'.out).mono ?_; rintro e w1 ⟨rfl, hb1⟩; have hb1' := Aside0.mk hb1.below; clear hb1)
        go_region_with (go_at_call 73; refine (hper _).mono ?_; rintro e w2 ⟨A, c, ad, rfl, rfl, hcell, hb2⟩; have hb2' := Aside0.mk hb2; clear hb2)
        go_wp2_with (go_at_call 77; refine (hgcd _).mono ?_; rintro e w3 ⟨rfl, hd3⟩; have hd3' := Aside0.mk hd3.below; clear hd3)
        go_quiet (fail)
        go_wp2
        go_ret3
        exact ⟨by first | rfl | simp, pw_below_drewN (below_step (below_step (below_drew hb1'.out) hb2'.out) hd3'.out) _⟩
    · rw [if_neg h1] at h; cases h
  · rw [if_neg h0] at h
    obtain ⟨rfl, rfl, rfl⟩ : (0 : Int) = r1 ∧ (0 : Int) = r2 ∧ g = r3 := by simpa using h
    clear h
    have h0a := beq_eq_false_iff_ne.mpr h0
    have h0b := bne_iff_ne.mpr h0
    go_enter Try.func16, Try.ntmps16
    go_wp2_with (go_at_call 67; refine (spec_l02Given.calls k a0 g _ hg'.out).mono ?_; rintro e w1 ⟨rfl, hb1⟩; have hb1' := Aside0.mk hb1.below; clear hb1)
    go_ret3
    exact ⟨rfl, hb1'.out⟩


end Go.Proofs.Ytmihfmhfgjnfcab.Q

namespace Go.Proofs.Ytmihfmhfgjnfcab.Q
open Go.RowKit Go.Proofs.YtmihfmhfgjnfcabW.PrintWords Go.Proofs.YtmihfmhfgjnfcabW.PrintLast Go.Proofs.YtmihfmhfgjnfcabW.PrintMore
attribute [local go_sem] max2_int min2_int max_two min_two max_three min_three max_four min_four bn_leq bn_gtr bn_geq   -- for this text's walks alone
set_option linter.unusedVariables false
set_option linter.unusedSimpArgs false

/-! ### impl_leastTurned: function 78 -/
def impl_leastTurned.l0 : Nat → ByteArray → ByteArray → Int → Int → Int → Option (ByteArray × Int)
  | 0, _, _, _, _, _ => none
  | k + 1, x0, x4, x5, x10, x11 => if x11 < x10 then (if 0 ≤ x11 then (if x11 ≤ (x0.size : Int) then (if (x0.extract (x11 : Int).toNat x0.size).size + (x0.extract 0 (x11 : Int).toNat).size ≤ 9223372036854775807 then (if (Op.bytesLess (((x0.extract (x11 : Int).toNat x0.size) ++ (x0.extract 0 (x11 : Int).toNat)).toList) x4.toList) = true then (impl_leastTurned.l0 k x0 ((x0.extract (x11 : Int).toNat x0.size) ++ (x0.extract 0 (x11 : Int).toNat)) x11 x10 (wrap64 (x11 + 1))) else (impl_leastTurned.l0 k x0 x4 x5 x10 (wrap64 (x11 + 1)))) else (none)) else (none)) else (none)) else (some (x4, x5))
def impl_leastTurned.f (k : Nat) (a0 : ByteArray) : Option (ByteArray × Int) := impl_leastTurned.l0 k a0 a0 0 (a0.size : Int) 0
theorem impl_leastTurned.mono_l : ∀ k, (∀ y0 y1 y2 y3 y4, LeO (impl_leastTurned.l0 k y0 y1 y2 y3 y4) (impl_leastTurned.l0 (k + 1) y0 y1 y2 y3 y4))
  | 0 => fun _ _ _ _ _ r h => by simp [impl_leastTurned.l0] at h
  | k + 1 => by
    have ih0 := impl_leastTurned.mono_l k
    · intro y0 y1 y2 y3 y4
      unfold impl_leastTurned.l0
      repeat' first
      | (with_reducible exact ih0 _ _ _ _ _)
      | (with_reducible exact LeO.refl _)
      | (with_reducible exact LeO.none _)
      | (with_reducible refine LeO.ite ?_ ?_)
      | (with_reducible refine LeO.bind ?_ (fun _ => ?_))
      | exact ih0 _ _ _ _ _
      | exact LeO.none _
      | refine LeO.ite ?_ ?_
      | refine LeO.bind ?_ (fun _ => ?_)
theorem impl_leastTurned.mono : ∀ a0 k, LeO (impl_leastTurned.f k a0) (impl_leastTurned.f (k + 1) a0) := by
  intro a0 k
  have ih0 := impl_leastTurned.mono_l k
  unfold impl_leastTurned.f
  repeat' first
      | (with_reducible exact ih0 _ _ _ _ _)
      | (with_reducible exact LeO.refl _)
      | (with_reducible exact LeO.none _)
      | (with_reducible refine LeO.ite ?_ ?_)
      | (with_reducible refine LeO.bind ?_ (fun _ => ?_))
      | exact ih0 _ _ _ _ _
      | exact LeO.none _
      | refine LeO.ite ?_ ?_
      | refine LeO.bind ?_ (fun _ => ?_)
set_option maxHeartbeats 8000000 in
set_option maxRecDepth 100000 in
theorem impl_leastTurned.calls (k : Nat) (a0 : ByteArray) (r1 : ByteArray) (r2 : Int) (w : World) (h : impl_leastTurned.f k a0 = some (r1, r2)) :
    Calls Try.prog 78 #[.string a0] w fun e w' => e = .returned (.tuple #[.string r1, .int .i64 r2]) ∧ Drawn0 w w' := by
  have H : (impl_leastTurned.l0 k a0 a0 0 (a0.size : Int) 0) = some (r1, r2) := h
  clear h
  have H' := Aside0.mk H
  clear H
  go_enter Try.func78, Try.ntmps78
  go_wp2
  repeat (go_quiet (fail); try go_wp2)
  go_loopg [4, 5, 11] k (fun kq v4 v5 v11 w' => ∃ (x4_1 : ByteArray) (x5_1 : Int) (x11_1 : Int), v4 = .string x4_1 ∧ v5 = .int .i64 x5_1 ∧ v11 = .int .i64 x11_1 ∧ Aside0 (impl_leastTurned.l0 kq a0 x4_1 x5_1 (a0.size : Int) x11_1 = some (r1, r2)) ∧ Aside0 (kq ≤ k) ∧ Drawn0 w w')
  case atStart => exact ⟨(a0), (0), (0), (by first | rfl | (simp; done) | (simp [*]; done)), (by first | rfl | (simp; done) | (simp [*]; done)), (by first | rfl | (simp; done) | (simp [*]; done)), H', ⟨Nat.le_refl _⟩, by repeat (first | exact Drawn0.refl _ | apply Drawn0.step)⟩
  case round =>
    clear H'
    obtain ⟨x4_1, x5_1, x11_1, rfl, rfl, rfl, HA, HK1, ⟨m1, rfl⟩⟩ := hrel
    cases gk with
    | zero => exact absurd HA.out (by simp [impl_leastTurned.l0])
    | succ k1 =>
      have H := HA.out
      clear HA
      simp only [impl_leastTurned.l0] at H
      by_cases c2 : x11_1 < (a0.size : Int)
      · rw [if_pos c2] at H
        have c2b0 : decide (x11_1 < (a0.size : Int)) = true := decide_eq_true c2
        clear c2
        by_cases c3 : 0 ≤ x11_1
        · rw [if_pos c3] at H
          have c3b0 := eq_true c3
          have c3b1 : decide (0 ≤ x11_1) = true := decide_eq_true c3
          clear c3
          by_cases c4 : x11_1 ≤ (a0.size : Int)
          · rw [if_pos c4] at H
            have c4b0 := eq_true c4
            have c4b1 : decide (x11_1 ≤ (a0.size : Int)) = true := decide_eq_true c4
            clear c4
            have c5b0 := eq_true (of_decide_eq_true (by first | (with_reducible assumption) | assumption) : 0 ≤ x11_1)
            have c6b0 := eq_true (of_decide_eq_true (by first | (with_reducible assumption) | assumption) : x11_1 ≤ (a0.size : Int))
            by_cases c7 : (a0.extract (x11_1 : Int).toNat a0.size).size + (a0.extract 0 (x11_1 : Int).toNat).size ≤ 9223372036854775807
            · rw [if_pos c7] at H
              have c7b0 := eq_true c7
              have c7b1 : decide ((a0.extract (x11_1 : Int).toNat a0.size).size + (a0.extract 0 (x11_1 : Int).toNat).size ≤ 9223372036854775807) = true := decide_eq_true c7
              try have c7b2 : (9223372036854775807 < (a0.extract (x11_1 : Int).toNat a0.size).size + (a0.extract 0 (x11_1 : Int).toNat).size) = False := eq_false (Nat.not_lt.2 c7)
              by_cases c8 : (Op.bytesLess (((a0.extract (x11_1 : Int).toNat a0.size) ++ (a0.extract 0 (x11_1 : Int).toNat)).toList) x4_1.toList) = true
              · rw [if_pos c8] at H
                have c8b0 : (Op.bytesLess (((a0.extract (x11_1 : Int).toNat a0.size) ++ (a0.extract 0 (x11_1 : Int).toNat)).toList) x4_1.toList) = true := c8
                clear c8
                have H' := Aside0.mk H
                clear H
                go_wp2
                repeat (go_quiet (fail); try go_wp2)
                go_roundg k1
                case measure => have := HK1.out; omega
                case rel => exact ⟨((a0.extract (x11_1 : Int).toNat a0.size) ++ (a0.extract 0 (x11_1 : Int).toNat)), (x11_1), (wrap64 (x11_1 + 1)), (by first | rfl | (simp; done) | (simp [*]; done)), (by first | rfl | (simp; done) | (simp [*]; done)), (by first | rfl | (simp; done) | (simp [*]; done)), H', ⟨by have := HK1.out; omega⟩, by repeat (first | exact Drawn0.refl _ | apply Drawn0.step)⟩
              · rw [if_neg c8] at H
                have c8b0 : (Op.bytesLess (((a0.extract (x11_1 : Int).toNat a0.size) ++ (a0.extract 0 (x11_1 : Int).toNat)).toList) x4_1.toList) = false := by simpa using c8
                clear c8
                have H' := Aside0.mk H
                clear H
                go_wp2
                repeat (go_quiet (fail); try go_wp2)
                go_roundg k1
                case measure => have := HK1.out; omega
                case rel => exact ⟨(x4_1), (x5_1), (wrap64 (x11_1 + 1)), (by first | rfl | (simp; done) | (simp [*]; done)), (by first | rfl | (simp; done) | (simp [*]; done)), (by first | rfl | (simp; done) | (simp [*]; done)), H', ⟨by have := HK1.out; omega⟩, by repeat (first | exact Drawn0.refl _ | apply Drawn0.step)⟩
            · rw [if_neg c7] at H
              exact absurd H (by simp)
          · rw [if_neg c4] at H
            exact absurd H (by simp)
        · rw [if_neg c3] at H
          exact absurd H (by simp)
      · rw [if_neg c2] at H
        have c2b0 : decide (x11_1 < (a0.size : Int)) = false := decide_eq_false c2
        clear c2
        simp only [Option.some.injEq, Prod.mk.injEq] at H
        obtain ⟨rfl, rfl⟩ := H
        go_wp2
        repeat (go_quiet (fail); try go_wp2)
        go_ret2
        exact ⟨by first | rfl | (simp; done) | (simp [*]; done), by repeat (first | exact Drawn0.refl _ | apply Drawn0.step)⟩

end Go.Proofs.Ytmihfmhfgjnfcab.Q

namespace Go.Proofs.Ytmihfmhfgjnfcab.Q
open Go.RowKit Go.Proofs.YtmihfmhfgjnfcabW.PrintWords Go.Proofs.YtmihfmhfgjnfcabW.PrintLast Go.Proofs.YtmihfmhfgjnfcabW.PrintMore
attribute [local go_sem] max2_int min2_int max_two min_two max_three min_three max_four min_four bn_leq bn_gtr bn_geq   -- for this text's walks alone
set_option linter.unusedVariables false
set_option linter.unusedSimpArgs false

/-! ### impl_LeastTurned: function 17 -/
def impl_LeastTurned.f (k : Nat) (a0 : ByteArray) : Option (ByteArray × Int × Int) := (impl_wordCode.f () (([a0] : List ByteArray))).bind fun t345 => (if t345 = 0 then ((impl_leastTurned.f k a0).bind fun bt346 => (some (bt346.1, bt346.2, 0))) else (some ((⟨#[]⟩ : ByteArray), 0, t345)))
theorem impl_LeastTurned.mono : ∀ a0 k, LeO (impl_LeastTurned.f k a0) (impl_LeastTurned.f (k + 1) a0) := by
  intro a0 k
  unfold impl_LeastTurned.f
  repeat' first
      | (with_reducible exact impl_leastTurned.mono _ _)
      | (with_reducible exact LeO.refl _)
      | (with_reducible exact LeO.none _)
      | (with_reducible refine LeO.ite ?_ ?_)
      | (with_reducible refine LeO.bind ?_ (fun _ => ?_))
      | exact impl_leastTurned.mono _ _
      | exact LeO.none _
      | refine LeO.ite ?_ ?_
      | refine LeO.bind ?_ (fun _ => ?_)
set_option maxHeartbeats 8000000 in
set_option maxRecDepth 100000 in
theorem impl_LeastTurned.calls (k : Nat) (a0 : ByteArray) (r1 : ByteArray) (r2 : Int) (r3 : Int) (w : World) (h : impl_LeastTurned.f k a0 = some (r1, r2, r3)) :
    Calls Try.prog 17 #[.string a0] w fun e w' => e = .returned (.tuple #[.string r1, .int .i64 r2, .int .i64 r3]) ∧ Below w.heap.size w w' := by
  have HB := Aside0.mk (Below.refl w.heap.size w)
  have H : ((impl_wordCode.f () (([a0] : List ByteArray))).bind fun t345 => (if t345 = 0 then ((impl_leastTurned.f k a0).bind fun bt346 => (some (bt346.1, bt346.2, 0))) else (some ((⟨#[]⟩ : ByteArray), 0, t345)))) = some (r1, r2, r3) := h
  clear h
  obtain ⟨y342, hy342⟩ : ∃ y_ : List ByteArray, y_ = (([a0] : List ByteArray)) := ⟨_, rfl⟩
  replace H : ((impl_wordCode.f () y342).bind fun t345 => (if t345 = 0 then ((impl_leastTurned.f k a0).bind fun bt346 => (some (bt346.1, bt346.2, 0))) else (some ((⟨#[]⟩ : ByteArray), 0, t345)))) = some (r1, r2, r3) := by first | (rw [hy342]; with_reducible exact H) | (have H2_ := (Option.bind_some _ _).symm.trans H; rw [hy342]; with_reducible exact H2_) | (have H2_ := (Option.bind_some _ _).symm.trans H; with_reducible exact H2_) | with_reducible exact H | (rw [hy342]; exact H) | exact H
  have Ny342 := Aside0.mk hy342
  clear hy342
  replace H := Option.bind_eq_some_iff.mp H
  obtain ⟨t345, A20, H⟩ := H
  replace H : (if t345 = 0 then ((impl_leastTurned.f k a0).bind fun bt346 => (some (bt346.1, bt346.2, 0))) else (some ((⟨#[]⟩ : ByteArray), 0, t345))) = some (r1, r2, r3) := H
  have A2 := Aside0.mk A20
  clear A20
  by_cases c3 : t345 = 0
  · rw [if_pos c3] at H
    have c3b0 : (t345 == 0) = true := beq_iff_eq.mpr c3
    have c3b1 : (t345 != 0) = false := bne_eq_false_iff_eq.mpr c3
    clear c3
    replace H := Option.bind_eq_some_iff.mp H
    obtain ⟨⟨t346, t347⟩, A40, H⟩ := H
    replace H : (some (t346, t347, 0)) = some (r1, r2, r3) := H
    have A4 := Aside0.mk A40
    clear A40
    simp only [Option.some.injEq, Prod.mk.injEq] at H
    obtain ⟨rfl, rfl, rfl⟩ := H
    go_enter Try.func17, Try.ntmps17
    go_wp2_with (first | ((with_reducible refine gate_dst (N := 9) rfl ?_); refine Kd.R_lit Kd.string _ 9 ?hg (N := 9) ?hd (xs := ([a0] : List ByteArray)) (inner := [.string a0]) (ok := fun _ => True) (okp := fun _ => True) ?hr ?hp (fun _ hk => hk) trivial (Below.refl _ _) (Nat.le_refl _) (by simp) ?_; (case hd => rfl); (case hg => rfl); (case hr => first | (go_simp; done) | (go_simp; rfl)); (case hp => exact (Reps.one (show Kd.M Kd.string _ _ _ a0 [.string a0] from rfl) (Reps.none _ _))); intro v343 w5 ho6 hb hg_ hnew_; clear hg_ hnew_; (first | rw [← Ny342.out] at ho6 | (simp only [Int.reduceToNat] at ho6; rw [← Ny342.out] at ho6)); have n0_ := Aside0.mk (Kd.R_lower ho6 (below_size (by repeat (first | (with_reducible first | exact HB.out | apply below_alloc | apply pw_below_drewN | apply below_drew1) | exact HB.out)))); have n1_ := Aside0.mk (below_step (by repeat (first | (with_reducible first | exact HB.out | apply below_alloc | apply pw_below_drewN | apply below_drew1) | exact HB.out)) hb); clear HB; have HO344 := n0_; have HB := n1_; clear n0_ n1_; clear hb ho6; obtain ⟨Ao7, co7, eo7⟩ := Kd.R_slice HO344.out; subst eo7) | ((with_reducible refine gate_callee (f := 69) rfl ?_); refine goesL_ (some 10) rfl rfl Try.func69 (by kernel_rfl) rfl #[.func (.func 70) #[] #[], .slice Ao7 y342.length co7] rfl (by (try simp only [List.map_toArray, List.map_cons, List.map_nil]); first | done | rfl | (simp only [List.length_drop, List.length_take]; rfl)) ?_; (with_reducible refine (impl_wordCode.calls () _ _ y342 t345 _ ?side1 ?side2 A2.out).mono ?_); (case side1 => repeat (first | exact (Kd.R_reads' HO344.out).2.2 | (with_reducible refine Kd.C_alloc ?_ _) | (with_reducible refine Kd.C_drewN ?_ _) | (with_reducible refine Kd.C_drew ?_))); (case side2 => exact (Kd.R_reads' HO344.out).2.1); rintro e w8 ⟨rfl, hb⟩; refine ⟨_, rfl, ?_⟩; have n0_ := Aside0.mk (Kd.R_below (by (with_reducible repeat (first | apply Kd.R_alloc | apply Kd.R_drewN | apply Kd.R_drew)); exact HO344.out) hb); have n1_ := Aside0.mk (below_step (by repeat (first | (with_reducible first | exact HB.out | apply below_alloc | apply pw_below_drewN | apply below_drew1) | exact HB.out)) hb); clear HO344; clear HB; have HO344 := n0_; have HB := n1_; clear n0_ n1_; (try clear hb); (try clear hb2); (try clear hk); (try clear hi)) | ((with_reducible refine gate_callee (f := 78) rfl ?_); refine goesL_ (some 16) rfl rfl Try.func78 (by kernel_rfl) rfl #[.string a0] rfl (by (try simp only [List.map_toArray, List.map_cons, List.map_nil]); first | done | rfl | (simp only [List.length_drop, List.length_take]; rfl)) ?_; (with_reducible refine (impl_leastTurned.calls k a0 t346 t347 _ A4.out).mono ?_); rintro e w' ⟨rfl, ⟨nd, rfl⟩⟩; refine ⟨_, rfl, ?_⟩))
    go_ret3
    exact ⟨by first | rfl | (simp [errW_none, errW_some] <;> rfl) | (simp [*, errW_none, errW_some] <;> rfl), by repeat (first | (with_reducible first | exact HB.out | apply below_alloc | apply pw_below_drewN | apply below_drew1) | exact HB.out)⟩
  · rw [if_neg c3] at H
    have c3b0 : (t345 == 0) = false := beq_eq_false_iff_ne.mpr c3
    have c3b1 : (t345 != 0) = true := bne_iff_ne.mpr c3
    simp only [Option.some.injEq, Prod.mk.injEq] at H
    obtain ⟨rfl, rfl, rfl⟩ := H
    go_enter Try.func17, Try.ntmps17
    go_wp2_with (first | ((with_reducible refine gate_dst (N := 9) rfl ?_); refine Kd.R_lit Kd.string _ 9 ?hg (N := 9) ?hd (xs := ([a0] : List ByteArray)) (inner := [.string a0]) (ok := fun _ => True) (okp := fun _ => True) ?hr ?hp (fun _ hk => hk) trivial (Below.refl _ _) (Nat.le_refl _) (by simp) ?_; (case hd => rfl); (case hg => rfl); (case hr => first | (go_simp; done) | (go_simp; rfl)); (case hp => exact (Reps.one (show Kd.M Kd.string _ _ _ a0 [.string a0] from rfl) (Reps.none _ _))); intro v343 w9 ho10 hb hg_ hnew_; clear hg_ hnew_; (first | rw [← Ny342.out] at ho10 | (simp only [Int.reduceToNat] at ho10; rw [← Ny342.out] at ho10)); have n0_ := Aside0.mk (Kd.R_lower ho10 (below_size (by repeat (first | (with_reducible first | exact HB.out | apply below_alloc | apply pw_below_drewN | apply below_drew1) | exact HB.out)))); have n1_ := Aside0.mk (below_step (by repeat (first | (with_reducible first | exact HB.out | apply below_alloc | apply pw_below_drewN | apply below_drew1) | exact HB.out)) hb); clear HB; have HO344 := n0_; have HB := n1_; clear n0_ n1_; clear hb ho10; obtain ⟨Ao11, co11, eo11⟩ := Kd.R_slice HO344.out; subst eo11) | ((with_reducible refine gate_callee (f := 69) rfl ?_); refine goesL_ (some 10) rfl rfl Try.func69 (by kernel_rfl) rfl #[.func (.func 70) #[] #[], .slice Ao11 y342.length co11] rfl (by (try simp only [List.map_toArray, List.map_cons, List.map_nil]); first | done | rfl | (simp only [List.length_drop, List.length_take]; rfl)) ?_; (with_reducible refine (impl_wordCode.calls () _ _ y342 t345 _ ?side1 ?side2 A2.out).mono ?_); (case side1 => repeat (first | exact (Kd.R_reads' HO344.out).2.2 | (with_reducible refine Kd.C_alloc ?_ _) | (with_reducible refine Kd.C_drewN ?_ _) | (with_reducible refine Kd.C_drew ?_))); (case side2 => exact (Kd.R_reads' HO344.out).2.1); rintro e w12 ⟨rfl, hb⟩; refine ⟨_, rfl, ?_⟩; have n0_ := Aside0.mk (Kd.R_below (by (with_reducible repeat (first | apply Kd.R_alloc | apply Kd.R_drewN | apply Kd.R_drew)); exact HO344.out) hb); have n1_ := Aside0.mk (below_step (by repeat (first | (with_reducible first | exact HB.out | apply below_alloc | apply pw_below_drewN | apply below_drew1) | exact HB.out)) hb); clear HO344; clear HB; have HO344 := n0_; have HB := n1_; clear n0_ n1_; (try clear hb); (try clear hb2); (try clear hk); (try clear hi)))
    go_ret3
    exact ⟨by first | rfl | (simp [errW_none, errW_some] <;> rfl) | (simp [*, errW_none, errW_some] <;> rfl), by repeat (first | (with_reducible first | exact HB.out | apply below_alloc | apply pw_below_drewN | apply below_drew1) | exact HB.out)⟩

end Go.Proofs.Ytmihfmhfgjnfcab.Q

namespace Go.Proofs.Ytmihfmhfgjnfcab.Q
open Go.RowKit Go.Proofs.YtmihfmhfgjnfcabW.PrintWords Go.Proofs.YtmihfmhfgjnfcabW.PrintLast Go.Proofs.YtmihfmhfgjnfcabW.PrintMore
attribute [local go_sem] max2_int min2_int max_two min_two max_three min_three max_four min_four bn_leq bn_gtr bn_geq   -- for this text's walks alone
set_option linter.unusedVariables false
set_option linter.unusedSimpArgs false

/-! ### spec_l01Turned: function 120 -/
def spec_l01Turned.f (a0 : ByteArray) (a1 : Int) : Option (ByteArray) := if 0 ≤ a1 then (if a1 ≤ (a0.size : Int) then (if (a0.extract (a1 : Int).toNat a0.size).size + (a0.extract 0 (a1 : Int).toNat).size ≤ 9223372036854775807 then (some ((a0.extract (a1 : Int).toNat a0.size) ++ (a0.extract 0 (a1 : Int).toNat))) else (none)) else (none)) else (none)
set_option maxHeartbeats 8000000 in
set_option maxRecDepth 100000 in
theorem spec_l01Turned.calls (a0 : ByteArray) (a1 : Int) (r : ByteArray) (w : World) (h : spec_l01Turned.f a0 a1 = some r) :
    Calls Try.prog 120 #[.string a0, .int .i64 a1] w fun e w' => e = .returned (.string r) ∧ Drawn0 w w' := by
  have H : (if 0 ≤ a1 then (if a1 ≤ (a0.size : Int) then (if (a0.extract (a1 : Int).toNat a0.size).size + (a0.extract 0 (a1 : Int).toNat).size ≤ 9223372036854775807 then (some ((a0.extract (a1 : Int).toNat a0.size) ++ (a0.extract 0 (a1 : Int).toNat))) else (none)) else (none)) else (none)) = some r := h
  clear h
  by_cases c3 : 0 ≤ a1
  · rw [if_pos c3] at H
    have c3b0 := eq_true c3
    have c3b1 : decide (0 ≤ a1) = true := decide_eq_true c3
    clear c3
    by_cases c4 : a1 ≤ (a0.size : Int)
    · rw [if_pos c4] at H
      have c4b0 := eq_true c4
      have c4b1 : decide (a1 ≤ (a0.size : Int)) = true := decide_eq_true c4
      clear c4
      have c5b0 := eq_true (of_decide_eq_true (by first | (with_reducible assumption) | assumption) : 0 ≤ a1)
      have c6b0 := eq_true (of_decide_eq_true (by first | (with_reducible assumption) | assumption) : a1 ≤ (a0.size : Int))
      by_cases c7 : (a0.extract (a1 : Int).toNat a0.size).size + (a0.extract 0 (a1 : Int).toNat).size ≤ 9223372036854775807
      · rw [if_pos c7] at H
        have c7b0 := eq_true c7
        have c7b1 : decide ((a0.extract (a1 : Int).toNat a0.size).size + (a0.extract 0 (a1 : Int).toNat).size ≤ 9223372036854775807) = true := decide_eq_true c7
        try have c7b2 : (9223372036854775807 < (a0.extract (a1 : Int).toNat a0.size).size + (a0.extract 0 (a1 : Int).toNat).size) = False := eq_false (Nat.not_lt.2 c7)
        obtain rfl := Option.some.inj H
        go_enter Try.func120, Try.ntmps120
        go_wp2
        repeat (go_quiet (fail); try go_wp2)
        go_ret
        exact ⟨by first | rfl | (simp; done) | (simp [*]; done), by repeat (first | exact Drawn0.refl _ | apply Drawn0.step)⟩
      · rw [if_neg c7] at H
        exact absurd H (by simp)
    · rw [if_neg c4] at H
      exact absurd H (by simp)
  · rw [if_neg c3] at H
    exact absurd H (by simp)

end Go.Proofs.Ytmihfmhfgjnfcab.Q

namespace Go.Proofs.Ytmihfmhfgjnfcab.Q
open Go.RowKit Go.Proofs.YtmihfmhfgjnfcabW.PrintWords Go.Proofs.YtmihfmhfgjnfcabW.PrintLast Go.Proofs.YtmihfmhfgjnfcabW.PrintMore
attribute [local go_sem] max2_int min2_int max_two min_two max_three min_three max_four min_four bn_leq bn_gtr bn_geq   -- for this text's walks alone
set_option linter.unusedVariables false
set_option linter.unusedSimpArgs false

/-! ### spec_l02Least: function 79 -/
def spec_l02Least.l0 : Nat → ByteArray → ByteArray → Int → Int → Option (ByteArray × Int)
  | 0, _, _, _, _ => none
  | k + 1, x0, x4, x5, x6 => if x6 < (x0.size : Int) then ((spec_l01Turned.f x0 x6).bind fun t348 => (if (Op.bytesLess t348.toList x4.toList) = true then (spec_l02Least.l0 k x0 t348 x6 (wrap64 (x6 + 1))) else (spec_l02Least.l0 k x0 x4 x5 (wrap64 (x6 + 1))))) else (some (x4, x5))
def spec_l02Least.f (k : Nat) (a0 : ByteArray) : Option (ByteArray × Int) := spec_l02Least.l0 k a0 a0 0 1
theorem spec_l02Least.mono_l : ∀ k, (∀ y0 y1 y2 y3, LeO (spec_l02Least.l0 k y0 y1 y2 y3) (spec_l02Least.l0 (k + 1) y0 y1 y2 y3))
  | 0 => fun _ _ _ _ r h => by simp [spec_l02Least.l0] at h
  | k + 1 => by
    have ih0 := spec_l02Least.mono_l k
    · intro y0 y1 y2 y3
      unfold spec_l02Least.l0
      repeat' first
      | (with_reducible exact ih0 _ _ _ _)
      | (with_reducible exact LeO.refl _)
      | (with_reducible exact LeO.none _)
      | (with_reducible refine LeO.ite ?_ ?_)
      | (with_reducible refine LeO.bind ?_ (fun _ => ?_))
      | exact ih0 _ _ _ _
      | exact LeO.none _
      | refine LeO.ite ?_ ?_
      | refine LeO.bind ?_ (fun _ => ?_)
theorem spec_l02Least.mono : ∀ a0 k, LeO (spec_l02Least.f k a0) (spec_l02Least.f (k + 1) a0) := by
  intro a0 k
  have ih0 := spec_l02Least.mono_l k
  unfold spec_l02Least.f
  repeat' first
      | (with_reducible exact ih0 _ _ _ _)
      | (with_reducible exact LeO.refl _)
      | (with_reducible exact LeO.none _)
      | (with_reducible refine LeO.ite ?_ ?_)
      | (with_reducible refine LeO.bind ?_ (fun _ => ?_))
      | exact ih0 _ _ _ _
      | exact LeO.none _
      | refine LeO.ite ?_ ?_
      | refine LeO.bind ?_ (fun _ => ?_)
set_option maxHeartbeats 8000000 in
set_option maxRecDepth 100000 in
theorem spec_l02Least.calls (k : Nat) (a0 : ByteArray) (r1 : ByteArray) (r2 : Int) (w : World) (h : spec_l02Least.f k a0 = some (r1, r2)) :
    Calls Try.prog 79 #[.string a0] w fun e w' => e = .returned (.tuple #[.string r1, .int .i64 r2]) ∧ Drawn0 w w' := by
  have H : (spec_l02Least.l0 k a0 a0 0 1) = some (r1, r2) := h
  clear h
  have H' := Aside0.mk H
  clear H
  go_enter Try.func79, Try.ntmps79
  go_wp2
  go_loopg [4, 5, 6] k (fun kq v4 v5 v6 w' => ∃ (x4_1 : ByteArray) (x5_1 : Int) (x6_1 : Int), v4 = .string x4_1 ∧ v5 = .int .i64 x5_1 ∧ v6 = .int .i64 x6_1 ∧ Aside0 (spec_l02Least.l0 kq a0 x4_1 x5_1 x6_1 = some (r1, r2)) ∧ Aside0 (kq ≤ k) ∧ Drawn0 w w')
  case atStart => exact ⟨(a0), (0), (1), (by first | rfl | (simp; done) | (simp [*]; done)), (by first | rfl | (simp; done) | (simp [*]; done)), (by first | rfl | (simp; done) | (simp [*]; done)), H', ⟨Nat.le_refl _⟩, by repeat (first | exact Drawn0.refl _ | apply Drawn0.step)⟩
  case round =>
    clear H'
    obtain ⟨x4_1, x5_1, x6_1, rfl, rfl, rfl, HA, HK1, ⟨m1, rfl⟩⟩ := hrel
    cases gk with
    | zero => exact absurd HA.out (by simp [spec_l02Least.l0])
    | succ k1 =>
      have H := HA.out
      clear HA
      simp only [spec_l02Least.l0] at H
      by_cases c2 : x6_1 < (a0.size : Int)
      · rw [if_pos c2] at H
        have c2b0 : decide (x6_1 < (a0.size : Int)) = true := decide_eq_true c2
        clear c2
        replace H := Option.bind_eq_some_iff.mp H
        obtain ⟨t348, A30, H⟩ := H
        replace H : (if (Op.bytesLess t348.toList x4_1.toList) = true then (spec_l02Least.l0 k1 a0 t348 x6_1 (wrap64 (x6_1 + 1))) else (spec_l02Least.l0 k1 a0 x4_1 x5_1 (wrap64 (x6_1 + 1)))) = some (r1, r2) := H
        have A3 := Aside0.mk A30
        clear A30
        by_cases c4 : (Op.bytesLess t348.toList x4_1.toList) = true
        · rw [if_pos c4] at H
          have c4b0 : (Op.bytesLess t348.toList x4_1.toList) = true := c4
          clear c4
          have H' := Aside0.mk H
          clear H
          go_wp2_with (first | ((with_reducible refine gate_callee (f := 120) rfl ?_); refine goesL_ (some 17) rfl rfl Try.func120 (by kernel_rfl) rfl #[.string a0, .int .i64 x6_1] rfl (by (try simp only [List.map_toArray, List.map_cons, List.map_nil]); first | done | rfl | (simp only [List.length_drop, List.length_take]; rfl)) ?_; (with_reducible refine (spec_l01Turned.calls a0 x6_1 t348 _ A3.out).mono ?_); rintro e w' ⟨rfl, ⟨nd, rfl⟩⟩; refine ⟨_, rfl, ?_⟩))
          go_roundg k1
          case measure => have := HK1.out; omega
          case rel => exact ⟨(t348), (x6_1), (wrap64 (x6_1 + 1)), (by first | rfl | (simp; done) | (simp [*]; done)), (by first | rfl | (simp; done) | (simp [*]; done)), (by first | rfl | (simp; done) | (simp [*]; done)), H', ⟨by have := HK1.out; omega⟩, by repeat (first | exact Drawn0.refl _ | apply Drawn0.step)⟩
        · rw [if_neg c4] at H
          have c4b0 : (Op.bytesLess t348.toList x4_1.toList) = false := by simpa using c4
          clear c4
          have H' := Aside0.mk H
          clear H
          go_wp2_with (first | ((with_reducible refine gate_callee (f := 120) rfl ?_); refine goesL_ (some 17) rfl rfl Try.func120 (by kernel_rfl) rfl #[.string a0, .int .i64 x6_1] rfl (by (try simp only [List.map_toArray, List.map_cons, List.map_nil]); first | done | rfl | (simp only [List.length_drop, List.length_take]; rfl)) ?_; (with_reducible refine (spec_l01Turned.calls a0 x6_1 t348 _ A3.out).mono ?_); rintro e w' ⟨rfl, ⟨nd, rfl⟩⟩; refine ⟨_, rfl, ?_⟩))
          go_roundg k1
          case measure => have := HK1.out; omega
          case rel => exact ⟨(x4_1), (x5_1), (wrap64 (x6_1 + 1)), (by first | rfl | (simp; done) | (simp [*]; done)), (by first | rfl | (simp; done) | (simp [*]; done)), (by first | rfl | (simp; done) | (simp [*]; done)), H', ⟨by have := HK1.out; omega⟩, by repeat (first | exact Drawn0.refl _ | apply Drawn0.step)⟩
      · rw [if_neg c2] at H
        have c2b0 : decide (x6_1 < (a0.size : Int)) = false := decide_eq_false c2
        clear c2
        simp only [Option.some.injEq, Prod.mk.injEq] at H
        obtain ⟨rfl, rfl⟩ := H
        go_wp2
        go_ret2
        exact ⟨by first | rfl | (simp; done) | (simp [*]; done), by repeat (first | exact Drawn0.refl _ | apply Drawn0.step)⟩

end Go.Proofs.Ytmihfmhfgjnfcab.Q

namespace Go.Proofs.Ytmihfmhfgjnfcab.Q
open Go.RowKit Go.Proofs.YtmihfmhfgjnfcabW.PrintWords Go.Proofs.YtmihfmhfgjnfcabW.PrintLast Go.Proofs.YtmihfmhfgjnfcabW.PrintMore
attribute [local go_sem] max2_int min2_int max_two min_two max_three min_three max_four min_four bn_leq bn_gtr bn_geq   -- for this text's walks alone
set_option linter.unusedVariables false
set_option linter.unusedSimpArgs false

/-! ### spec_LeastTurned: function 18 -/
def spec_LeastTurned.f (k : Nat) (a0 : ByteArray) : Option (ByteArray × Int × Int) := (spec_l01Is.f k a0).bind fun t349 => (if t349 = true then ((spec_l02Least.f k a0).bind fun bt350 => (some (bt350.1, bt350.2, 0))) else (some ((⟨#[]⟩ : ByteArray), 0, 1)))
theorem spec_LeastTurned.mono : ∀ a0 k, LeO (spec_LeastTurned.f k a0) (spec_LeastTurned.f (k + 1) a0) := by
  intro a0 k
  unfold spec_LeastTurned.f
  repeat' first
      | (with_reducible exact spec_l01Is.mono _ _)
      | (with_reducible exact spec_l02Least.mono _ _)
      | (with_reducible exact LeO.refl _)
      | (with_reducible exact LeO.none _)
      | (with_reducible refine LeO.ite ?_ ?_)
      | (with_reducible refine LeO.bind ?_ (fun _ => ?_))
      | exact spec_l01Is.mono _ _
      | exact spec_l02Least.mono _ _
      | exact LeO.none _
      | refine LeO.ite ?_ ?_
      | refine LeO.bind ?_ (fun _ => ?_)
set_option maxHeartbeats 8000000 in
set_option maxRecDepth 100000 in
theorem spec_LeastTurned.calls (k : Nat) (a0 : ByteArray) (r1 : ByteArray) (r2 : Int) (r3 : Int) (w : World) (h : spec_LeastTurned.f k a0 = some (r1, r2, r3)) :
    Calls Try.prog 18 #[.string a0] w fun e w' => e = .returned (.tuple #[.string r1, .int .i64 r2, .int .i64 r3]) ∧ Drawn0 w w' := by
  have H : ((spec_l01Is.f k a0).bind fun t349 => (if t349 = true then ((spec_l02Least.f k a0).bind fun bt350 => (some (bt350.1, bt350.2, 0))) else (some ((⟨#[]⟩ : ByteArray), 0, 1)))) = some (r1, r2, r3) := h
  clear h
  replace H := Option.bind_eq_some_iff.mp H
  obtain ⟨t349, A20, H⟩ := H
  replace H : (if t349 = true then ((spec_l02Least.f k a0).bind fun bt350 => (some (bt350.1, bt350.2, 0))) else (some ((⟨#[]⟩ : ByteArray), 0, 1))) = some (r1, r2, r3) := H
  have A2 := Aside0.mk A20
  clear A20
  by_cases c3 : t349 = true
  · subst c3
    have H1 : ((spec_l02Least.f k a0).bind fun bt350 => (some (bt350.1, bt350.2, 0))) = some (r1, r2, r3) := by rw [if_pos rfl] at H; exact H
    clear H
    have H := H1
    clear H1
    replace H := Option.bind_eq_some_iff.mp H
    obtain ⟨⟨t350, t351⟩, A40, H⟩ := H
    replace H : (some (t350, t351, 0)) = some (r1, r2, r3) := H
    have A4 := Aside0.mk A40
    clear A40
    simp only [Option.some.injEq, Prod.mk.injEq] at H
    obtain ⟨rfl, rfl, rfl⟩ := H
    go_enter Try.func18, Try.ntmps18
    go_wp2_with (first | ((with_reducible refine gate_callee (f := 72) rfl ?_); refine goesL_ (some 8) rfl rfl Try.func72 (by kernel_rfl) rfl #[.string a0] rfl (by (try simp only [List.map_toArray, List.map_cons, List.map_nil]); first | done | rfl | (simp only [List.length_drop, List.length_take]; rfl)) ?_; (with_reducible refine (spec_l01Is.calls k a0 true _ A2.out).mono ?_); rintro e w' ⟨rfl, ⟨nd, rfl⟩⟩; refine ⟨_, rfl, ?_⟩) | ((with_reducible refine gate_callee (f := 79) rfl ?_); refine goesL_ (some 12) rfl rfl Try.func79 (by kernel_rfl) rfl #[.string a0] rfl (by (try simp only [List.map_toArray, List.map_cons, List.map_nil]); first | done | rfl | (simp only [List.length_drop, List.length_take]; rfl)) ?_; (with_reducible refine (spec_l02Least.calls k a0 t350 t351 _ A4.out).mono ?_); rintro e w' ⟨rfl, ⟨nd, rfl⟩⟩; refine ⟨_, rfl, ?_⟩))
    go_ret3
    exact ⟨by first | rfl | (simp; done) | (simp [*]; done), by repeat (first | exact Drawn0.refl _ | apply Drawn0.step)⟩
  · replace c3 := Bool.eq_false_iff.mpr c3
    subst c3
    have H1 : (some ((⟨#[]⟩ : ByteArray), 0, 1)) = some (r1, r2, r3) := by rw [if_neg (show ¬ (false = true) by decide)] at H; exact H
    clear H
    have H := H1
    clear H1
    simp only [Option.some.injEq, Prod.mk.injEq] at H
    obtain ⟨rfl, rfl, rfl⟩ := H
    go_enter Try.func18, Try.ntmps18
    go_wp2_with (first | ((with_reducible refine gate_callee (f := 72) rfl ?_); refine goesL_ (some 8) rfl rfl Try.func72 (by kernel_rfl) rfl #[.string a0] rfl (by (try simp only [List.map_toArray, List.map_cons, List.map_nil]); first | done | rfl | (simp only [List.length_drop, List.length_take]; rfl)) ?_; (with_reducible refine (spec_l01Is.calls k a0 false _ A2.out).mono ?_); rintro e w' ⟨rfl, ⟨nd, rfl⟩⟩; refine ⟨_, rfl, ?_⟩))
    go_ret3
    exact ⟨by first | rfl | (simp; done) | (simp [*]; done), by repeat (first | exact Drawn0.refl _ | apply Drawn0.step)⟩

end Go.Proofs.Ytmihfmhfgjnfcab.Q

namespace Go.Proofs.Ytmihfmhfgjnfcab.Q
open Go.RowKit Go.Proofs.YtmihfmhfgjnfcabW.PrintWords Go.Proofs.YtmihfmhfgjnfcabW.PrintLast Go.Proofs.YtmihfmhfgjnfcabW.PrintMore
attribute [local go_sem] max2_int min2_int max_two min_two max_three min_three max_four min_four bn_leq bn_gtr bn_geq   -- for this text's walks alone
set_option linter.unusedVariables false
set_option linter.unusedSimpArgs false

/-! ### impl_CountTurned: function 19 -/
def impl_CountTurned.f (k : Nat) (a0 : ByteArray) : Option (Int × Int) := (impl_wordCode.f () (([a0] : List ByteArray))).bind fun t355 => (if t355 = 0 then (if a0.toList = ([] : List UInt8) then (some (1, 0)) else ((impl_root.f k a0).bind fun t356 => ((impl_size.f t356).bind fun t357 => (some (t357, 0))))) else (some (0, t355)))
theorem impl_CountTurned.mono : ∀ a0 k, LeO (impl_CountTurned.f k a0) (impl_CountTurned.f (k + 1) a0) := by
  intro a0 k
  unfold impl_CountTurned.f
  repeat' first
      | (with_reducible exact impl_root.mono _ _)
      | (with_reducible exact LeO.refl _)
      | (with_reducible exact LeO.none _)
      | (with_reducible refine LeO.ite ?_ ?_)
      | (with_reducible refine LeO.bind ?_ (fun _ => ?_))
      | exact impl_root.mono _ _
      | exact LeO.none _
      | refine LeO.ite ?_ ?_
      | refine LeO.bind ?_ (fun _ => ?_)
set_option maxHeartbeats 8000000 in
set_option maxRecDepth 100000 in
theorem impl_CountTurned.calls (k : Nat) (a0 : ByteArray) (r1 : Int) (r2 : Int) (w : World) (h : impl_CountTurned.f k a0 = some (r1, r2)) :
    Calls Try.prog 19 #[.string a0] w fun e w' => e = .returned (.tuple #[.int .i64 r1, .int .i64 r2]) ∧ Below w.heap.size w w' := by
  have HB := Aside0.mk (Below.refl w.heap.size w)
  have H : ((impl_wordCode.f () (([a0] : List ByteArray))).bind fun t355 => (if t355 = 0 then (if a0.toList = ([] : List UInt8) then (some (1, 0)) else ((impl_root.f k a0).bind fun t356 => ((impl_size.f t356).bind fun t357 => (some (t357, 0))))) else (some (0, t355)))) = some (r1, r2) := h
  clear h
  obtain ⟨y352, hy352⟩ : ∃ y_ : List ByteArray, y_ = (([a0] : List ByteArray)) := ⟨_, rfl⟩
  replace H : ((impl_wordCode.f () y352).bind fun t355 => (if t355 = 0 then (if a0.toList = ([] : List UInt8) then (some (1, 0)) else ((impl_root.f k a0).bind fun t356 => ((impl_size.f t356).bind fun t357 => (some (t357, 0))))) else (some (0, t355)))) = some (r1, r2) := by first | (rw [hy352]; with_reducible exact H) | (have H2_ := (Option.bind_some _ _).symm.trans H; rw [hy352]; with_reducible exact H2_) | (have H2_ := (Option.bind_some _ _).symm.trans H; with_reducible exact H2_) | with_reducible exact H | (rw [hy352]; exact H) | exact H
  have Ny352 := Aside0.mk hy352
  clear hy352
  replace H := Option.bind_eq_some_iff.mp H
  obtain ⟨t355, A20, H⟩ := H
  replace H : (if t355 = 0 then (if a0.toList = ([] : List UInt8) then (some (1, 0)) else ((impl_root.f k a0).bind fun t356 => ((impl_size.f t356).bind fun t357 => (some (t357, 0))))) else (some (0, t355))) = some (r1, r2) := H
  have A2 := Aside0.mk A20
  clear A20
  by_cases c3 : t355 = 0
  · rw [if_pos c3] at H
    have c3b0 : (t355 == 0) = true := beq_iff_eq.mpr c3
    have c3b1 : (t355 != 0) = false := bne_eq_false_iff_eq.mpr c3
    clear c3
    by_cases c4 : a0.toList = ([] : List UInt8)
    · rw [if_pos c4] at H
      have c4b0 : (a0.toList == ([] : List UInt8)) = true := beq_iff_eq.mpr c4
      have c4b1 : (a0.toList != ([] : List UInt8)) = false := bne_eq_false_iff_eq.mpr c4
      clear c4
      simp only [Option.some.injEq, Prod.mk.injEq] at H
      obtain ⟨rfl, rfl⟩ := H
      go_enter Try.func19, Try.ntmps19
      go_wp2_with (first | ((with_reducible refine gate_dst (N := 6) rfl ?_); refine Kd.R_lit Kd.string _ 9 ?hg (N := 6) ?hd (xs := ([a0] : List ByteArray)) (inner := [.string a0]) (ok := fun _ => True) (okp := fun _ => True) ?hr ?hp (fun _ hk => hk) trivial (Below.refl _ _) (Nat.le_refl _) (by simp) ?_; (case hd => rfl); (case hg => rfl); (case hr => first | (go_simp; done) | (go_simp; rfl)); (case hp => exact (Reps.one (show Kd.M Kd.string _ _ _ a0 [.string a0] from rfl) (Reps.none _ _))); intro v353 w5 ho6 hb hg_ hnew_; clear hg_ hnew_; (first | rw [← Ny352.out] at ho6 | (simp only [Int.reduceToNat] at ho6; rw [← Ny352.out] at ho6)); have n0_ := Aside0.mk (Kd.R_lower ho6 (below_size (by repeat (first | (with_reducible first | exact HB.out | apply below_alloc | apply pw_below_drewN | apply below_drew1) | exact HB.out)))); have n1_ := Aside0.mk (below_step (by repeat (first | (with_reducible first | exact HB.out | apply below_alloc | apply pw_below_drewN | apply below_drew1) | exact HB.out)) hb); clear HB; have HO354 := n0_; have HB := n1_; clear n0_ n1_; clear hb ho6; obtain ⟨Ao7, co7, eo7⟩ := Kd.R_slice HO354.out; subst eo7) | ((with_reducible refine gate_callee (f := 69) rfl ?_); refine goesL_ (some 7) rfl rfl Try.func69 (by kernel_rfl) rfl #[.func (.func 70) #[] #[], .slice Ao7 y352.length co7] rfl (by (try simp only [List.map_toArray, List.map_cons, List.map_nil]); first | done | rfl | (simp only [List.length_drop, List.length_take]; rfl)) ?_; (with_reducible refine (impl_wordCode.calls () _ _ y352 t355 _ ?side1 ?side2 A2.out).mono ?_); (case side1 => repeat (first | exact (Kd.R_reads' HO354.out).2.2 | (with_reducible refine Kd.C_alloc ?_ _) | (with_reducible refine Kd.C_drewN ?_ _) | (with_reducible refine Kd.C_drew ?_))); (case side2 => exact (Kd.R_reads' HO354.out).2.1); rintro e w8 ⟨rfl, hb⟩; refine ⟨_, rfl, ?_⟩; have n0_ := Aside0.mk (Kd.R_below (by (with_reducible repeat (first | apply Kd.R_alloc | apply Kd.R_drewN | apply Kd.R_drew)); exact HO354.out) hb); have n1_ := Aside0.mk (below_step (by repeat (first | (with_reducible first | exact HB.out | apply below_alloc | apply pw_below_drewN | apply below_drew1) | exact HB.out)) hb); clear HO354; clear HB; have HO354 := n0_; have HB := n1_; clear n0_ n1_; (try clear hb); (try clear hb2); (try clear hk); (try clear hi)))
      go_ret2
      exact ⟨by first | rfl | (simp [errW_none, errW_some] <;> rfl) | (simp [*, errW_none, errW_some] <;> rfl), by repeat (first | (with_reducible first | exact HB.out | apply below_alloc | apply pw_below_drewN | apply below_drew1) | exact HB.out)⟩
    · rw [if_neg c4] at H
      have c4b0 : (a0.toList == ([] : List UInt8)) = false := beq_eq_false_iff_ne.mpr c4
      have c4b1 : (a0.toList != ([] : List UInt8)) = true := bne_iff_ne.mpr c4
      replace H := Option.bind_eq_some_iff.mp H
      obtain ⟨t356, A90, H⟩ := H
      replace H : ((impl_size.f t356).bind fun t357 => (some (t357, 0))) = some (r1, r2) := H
      have A9 := Aside0.mk A90
      clear A90
      replace H := Option.bind_eq_some_iff.mp H
      obtain ⟨t357, A100, H⟩ := H
      replace H : (some (t357, 0)) = some (r1, r2) := H
      have A10 := Aside0.mk A100
      clear A100
      simp only [Option.some.injEq, Prod.mk.injEq] at H
      obtain ⟨rfl, rfl⟩ := H
      go_enter Try.func19, Try.ntmps19
      go_wp2_with (first | ((with_reducible refine gate_dst (N := 6) rfl ?_); refine Kd.R_lit Kd.string _ 9 ?hg (N := 6) ?hd (xs := ([a0] : List ByteArray)) (inner := [.string a0]) (ok := fun _ => True) (okp := fun _ => True) ?hr ?hp (fun _ hk => hk) trivial (Below.refl _ _) (Nat.le_refl _) (by simp) ?_; (case hd => rfl); (case hg => rfl); (case hr => first | (go_simp; done) | (go_simp; rfl)); (case hp => exact (Reps.one (show Kd.M Kd.string _ _ _ a0 [.string a0] from rfl) (Reps.none _ _))); intro v353 w11 ho12 hb hg_ hnew_; clear hg_ hnew_; (first | rw [← Ny352.out] at ho12 | (simp only [Int.reduceToNat] at ho12; rw [← Ny352.out] at ho12)); have n0_ := Aside0.mk (Kd.R_lower ho12 (below_size (by repeat (first | (with_reducible first | exact HB.out | apply below_alloc | apply pw_below_drewN | apply below_drew1) | exact HB.out)))); have n1_ := Aside0.mk (below_step (by repeat (first | (with_reducible first | exact HB.out | apply below_alloc | apply pw_below_drewN | apply below_drew1) | exact HB.out)) hb); clear HB; have HO354 := n0_; have HB := n1_; clear n0_ n1_; clear hb ho12; obtain ⟨Ao13, co13, eo13⟩ := Kd.R_slice HO354.out; subst eo13) | ((with_reducible refine gate_callee (f := 69) rfl ?_); refine goesL_ (some 7) rfl rfl Try.func69 (by kernel_rfl) rfl #[.func (.func 70) #[] #[], .slice Ao13 y352.length co13] rfl (by (try simp only [List.map_toArray, List.map_cons, List.map_nil]); first | done | rfl | (simp only [List.length_drop, List.length_take]; rfl)) ?_; (with_reducible refine (impl_wordCode.calls () _ _ y352 t355 _ ?side1 ?side2 A2.out).mono ?_); (case side1 => repeat (first | exact (Kd.R_reads' HO354.out).2.2 | (with_reducible refine Kd.C_alloc ?_ _) | (with_reducible refine Kd.C_drewN ?_ _) | (with_reducible refine Kd.C_drew ?_))); (case side2 => exact (Kd.R_reads' HO354.out).2.1); rintro e w14 ⟨rfl, hb⟩; refine ⟨_, rfl, ?_⟩; have n0_ := Aside0.mk (Kd.R_below (by (with_reducible repeat (first | apply Kd.R_alloc | apply Kd.R_drewN | apply Kd.R_drew)); exact HO354.out) hb); have n1_ := Aside0.mk (below_step (by repeat (first | (with_reducible first | exact HB.out | apply below_alloc | apply pw_below_drewN | apply below_drew1) | exact HB.out)) hb); clear HO354; clear HB; have HO354 := n0_; have HB := n1_; clear n0_ n1_; (try clear hb); (try clear hb2); (try clear hk); (try clear hi)) | ((with_reducible refine gate_callee (f := 65) rfl ?_); refine goesL_ (some 14) rfl rfl Try.func65 (by kernel_rfl) rfl #[.string a0] rfl (by (try simp only [List.map_toArray, List.map_cons, List.map_nil]); first | done | rfl | (simp only [List.length_drop, List.length_take]; rfl)) ?_; (with_reducible refine (impl_root.calls k a0 t356 _ A9.out).mono ?_); rintro e w' ⟨rfl, ⟨nd, rfl⟩⟩; refine ⟨_, rfl, ?_⟩) | ((with_reducible refine gate_callee (f := 66) rfl ?_); refine goesL_ (some 15) rfl rfl Try.func66 (by kernel_rfl) rfl #[.string t356] rfl (by (try simp only [List.map_toArray, List.map_cons, List.map_nil]); first | done | rfl | (simp only [List.length_drop, List.length_take]; rfl)) ?_; (with_reducible refine (impl_size.calls t356 t357 _ A10.out).mono ?_); rintro e w' ⟨rfl, ⟨nd, rfl⟩⟩; refine ⟨_, rfl, ?_⟩))
      go_ret2
      exact ⟨by first | rfl | (simp [errW_none, errW_some] <;> rfl) | (simp [*, errW_none, errW_some] <;> rfl), by repeat (first | (with_reducible first | exact HB.out | apply below_alloc | apply pw_below_drewN | apply below_drew1) | exact HB.out)⟩
  · rw [if_neg c3] at H
    have c3b0 : (t355 == 0) = false := beq_eq_false_iff_ne.mpr c3
    have c3b1 : (t355 != 0) = true := bne_iff_ne.mpr c3
    simp only [Option.some.injEq, Prod.mk.injEq] at H
    obtain ⟨rfl, rfl⟩ := H
    go_enter Try.func19, Try.ntmps19
    go_wp2_with (first | ((with_reducible refine gate_dst (N := 6) rfl ?_); refine Kd.R_lit Kd.string _ 9 ?hg (N := 6) ?hd (xs := ([a0] : List ByteArray)) (inner := [.string a0]) (ok := fun _ => True) (okp := fun _ => True) ?hr ?hp (fun _ hk => hk) trivial (Below.refl _ _) (Nat.le_refl _) (by simp) ?_; (case hd => rfl); (case hg => rfl); (case hr => first | (go_simp; done) | (go_simp; rfl)); (case hp => exact (Reps.one (show Kd.M Kd.string _ _ _ a0 [.string a0] from rfl) (Reps.none _ _))); intro v353 w15 ho16 hb hg_ hnew_; clear hg_ hnew_; (first | rw [← Ny352.out] at ho16 | (simp only [Int.reduceToNat] at ho16; rw [← Ny352.out] at ho16)); have n0_ := Aside0.mk (Kd.R_lower ho16 (below_size (by repeat (first | (with_reducible first | exact HB.out | apply below_alloc | apply pw_below_drewN | apply below_drew1) | exact HB.out)))); have n1_ := Aside0.mk (below_step (by repeat (first | (with_reducible first | exact HB.out | apply below_alloc | apply pw_below_drewN | apply below_drew1) | exact HB.out)) hb); clear HB; have HO354 := n0_; have HB := n1_; clear n0_ n1_; clear hb ho16; obtain ⟨Ao17, co17, eo17⟩ := Kd.R_slice HO354.out; subst eo17) | ((with_reducible refine gate_callee (f := 69) rfl ?_); refine goesL_ (some 7) rfl rfl Try.func69 (by kernel_rfl) rfl #[.func (.func 70) #[] #[], .slice Ao17 y352.length co17] rfl (by (try simp only [List.map_toArray, List.map_cons, List.map_nil]); first | done | rfl | (simp only [List.length_drop, List.length_take]; rfl)) ?_; (with_reducible refine (impl_wordCode.calls () _ _ y352 t355 _ ?side1 ?side2 A2.out).mono ?_); (case side1 => repeat (first | exact (Kd.R_reads' HO354.out).2.2 | (with_reducible refine Kd.C_alloc ?_ _) | (with_reducible refine Kd.C_drewN ?_ _) | (with_reducible refine Kd.C_drew ?_))); (case side2 => exact (Kd.R_reads' HO354.out).2.1); rintro e w18 ⟨rfl, hb⟩; refine ⟨_, rfl, ?_⟩; have n0_ := Aside0.mk (Kd.R_below (by (with_reducible repeat (first | apply Kd.R_alloc | apply Kd.R_drewN | apply Kd.R_drew)); exact HO354.out) hb); have n1_ := Aside0.mk (below_step (by repeat (first | (with_reducible first | exact HB.out | apply below_alloc | apply pw_below_drewN | apply below_drew1) | exact HB.out)) hb); clear HO354; clear HB; have HO354 := n0_; have HB := n1_; clear n0_ n1_; (try clear hb); (try clear hb2); (try clear hk); (try clear hi)))
    go_ret2
    exact ⟨by first | rfl | (simp [errW_none, errW_some] <;> rfl) | (simp [*, errW_none, errW_some] <;> rfl), by repeat (first | (with_reducible first | exact HB.out | apply below_alloc | apply pw_below_drewN | apply below_drew1) | exact HB.out)⟩

end Go.Proofs.Ytmihfmhfgjnfcab.Q

namespace Go.Proofs.Ytmihfmhfgjnfcab.Q
open Go.RowKit Go.Proofs.YtmihfmhfgjnfcabW.PrintWords Go.Proofs.YtmihfmhfgjnfcabW.PrintLast Go.Proofs.YtmihfmhfgjnfcabW.PrintMore
attribute [local go_sem] max2_int min2_int max_two min_two max_three min_three max_four min_four bn_leq bn_gtr bn_geq   -- for this text's walks alone
set_option linter.unusedVariables false
set_option linter.unusedSimpArgs false

/-! ### spec_CountTurned: function 20 -/
def spec_CountTurned.f (k : Nat) (a0 : ByteArray) : Option (Int × Int) := (spec_l01Is.f k a0).bind fun t358 => (if t358 = true then (if a0.toList = ([] : List UInt8) then (some (1, 0)) else ((spec_l02Root.f k a0).bind fun t359 => (some ((t359.size : Int), 0)))) else (some (0, 1)))
theorem spec_CountTurned.mono : ∀ a0 k, LeO (spec_CountTurned.f k a0) (spec_CountTurned.f (k + 1) a0) := by
  intro a0 k
  unfold spec_CountTurned.f
  repeat' first
      | (with_reducible exact spec_l01Is.mono _ _)
      | (with_reducible exact spec_l02Root.mono _ _)
      | (with_reducible exact LeO.refl _)
      | (with_reducible exact LeO.none _)
      | (with_reducible refine LeO.ite ?_ ?_)
      | (with_reducible refine LeO.bind ?_ (fun _ => ?_))
      | exact spec_l01Is.mono _ _
      | exact spec_l02Root.mono _ _
      | exact LeO.none _
      | refine LeO.ite ?_ ?_
      | refine LeO.bind ?_ (fun _ => ?_)
set_option maxHeartbeats 8000000 in
set_option maxRecDepth 100000 in
theorem spec_CountTurned.calls (k : Nat) (a0 : ByteArray) (r1 : Int) (r2 : Int) (w : World) (h : spec_CountTurned.f k a0 = some (r1, r2)) :
    Calls Try.prog 20 #[.string a0] w fun e w' => e = .returned (.tuple #[.int .i64 r1, .int .i64 r2]) ∧ Below w.heap.size w w' := by
  have HB := Aside0.mk (Below.refl w.heap.size w)
  have H : ((spec_l01Is.f k a0).bind fun t358 => (if t358 = true then (if a0.toList = ([] : List UInt8) then (some (1, 0)) else ((spec_l02Root.f k a0).bind fun t359 => (some ((t359.size : Int), 0)))) else (some (0, 1)))) = some (r1, r2) := h
  clear h
  replace H := Option.bind_eq_some_iff.mp H
  obtain ⟨t358, A20, H⟩ := H
  replace H : (if t358 = true then (if a0.toList = ([] : List UInt8) then (some (1, 0)) else ((spec_l02Root.f k a0).bind fun t359 => (some ((t359.size : Int), 0)))) else (some (0, 1))) = some (r1, r2) := H
  have A2 := Aside0.mk A20
  clear A20
  by_cases c3 : t358 = true
  · subst c3
    have H1 : (if a0.toList = ([] : List UInt8) then (some (1, 0)) else ((spec_l02Root.f k a0).bind fun t359 => (some ((t359.size : Int), 0)))) = some (r1, r2) := by rw [if_pos rfl] at H; exact H
    clear H
    have H := H1
    clear H1
    by_cases c4 : a0.toList = ([] : List UInt8)
    · rw [if_pos c4] at H
      have c4b0 : (a0.toList == ([] : List UInt8)) = true := beq_iff_eq.mpr c4
      have c4b1 : (a0.toList != ([] : List UInt8)) = false := bne_eq_false_iff_eq.mpr c4
      clear c4
      simp only [Option.some.injEq, Prod.mk.injEq] at H
      obtain ⟨rfl, rfl⟩ := H
      go_enter Try.func20, Try.ntmps20
      go_wp2_with (first | ((with_reducible refine gate_callee (f := 72) rfl ?_); refine goesL_ (some 5) rfl rfl Try.func72 (by kernel_rfl) rfl #[.string a0] rfl (by (try simp only [List.map_toArray, List.map_cons, List.map_nil]); first | done | rfl | (simp only [List.length_drop, List.length_take]; rfl)) ?_; (with_reducible refine (spec_l01Is.calls k a0 true _ A2.out).mono ?_); rintro e w' ⟨rfl, ⟨nd, rfl⟩⟩; refine ⟨_, rfl, ?_⟩))
      go_ret2
      exact ⟨by first | rfl | (simp [errW_none, errW_some] <;> rfl) | (simp [*, errW_none, errW_some] <;> rfl), by repeat (first | (with_reducible first | exact HB.out | apply below_alloc | apply pw_below_drewN | apply below_drew1) | exact HB.out)⟩
    · rw [if_neg c4] at H
      have c4b0 : (a0.toList == ([] : List UInt8)) = false := beq_eq_false_iff_ne.mpr c4
      have c4b1 : (a0.toList != ([] : List UInt8)) = true := bne_iff_ne.mpr c4
      replace H := Option.bind_eq_some_iff.mp H
      obtain ⟨t359, A50, H⟩ := H
      replace H : (some ((t359.size : Int), 0)) = some (r1, r2) := H
      have A5 := Aside0.mk A50
      clear A50
      simp only [Option.some.injEq, Prod.mk.injEq] at H
      obtain ⟨rfl, rfl⟩ := H
      go_enter Try.func20, Try.ntmps20
      go_wp2_with (first | ((with_reducible refine gate_callee (f := 72) rfl ?_); refine goesL_ (some 5) rfl rfl Try.func72 (by kernel_rfl) rfl #[.string a0] rfl (by (try simp only [List.map_toArray, List.map_cons, List.map_nil]); first | done | rfl | (simp only [List.length_drop, List.length_take]; rfl)) ?_; (with_reducible refine (spec_l01Is.calls k a0 true _ A2.out).mono ?_); rintro e w' ⟨rfl, ⟨nd, rfl⟩⟩; refine ⟨_, rfl, ?_⟩) | ((with_reducible refine gate_callee (f := 68) rfl ?_); refine goesL_ (some 10) rfl rfl Try.func68 (by kernel_rfl) rfl #[.string a0] rfl (by (try simp only [List.map_toArray, List.map_cons, List.map_nil]); first | done | rfl | (simp only [List.length_drop, List.length_take]; rfl)) ?_; (with_reducible refine (spec_l02Root.calls k a0 t359 _ A5.out).mono ?_); rintro e w6 ⟨rfl, hb⟩; refine ⟨_, rfl, ?_⟩; have n0_ := Aside0.mk (below_step (by repeat (first | (with_reducible first | exact HB.out | apply below_alloc | apply pw_below_drewN | apply below_drew1) | exact HB.out)) hb); clear HB; have HB := n0_; clear n0_; (try clear hb); (try clear hb2); (try clear hk); (try clear hi)))
      go_ret2
      exact ⟨by first | rfl | (simp [errW_none, errW_some] <;> rfl) | (simp [*, errW_none, errW_some] <;> rfl), by repeat (first | (with_reducible first | exact HB.out | apply below_alloc | apply pw_below_drewN | apply below_drew1) | exact HB.out)⟩
  · replace c3 := Bool.eq_false_iff.mpr c3
    subst c3
    have H1 : (some (0, 1)) = some (r1, r2) := by rw [if_neg (show ¬ (false = true) by decide)] at H; exact H
    clear H
    have H := H1
    clear H1
    simp only [Option.some.injEq, Prod.mk.injEq] at H
    obtain ⟨rfl, rfl⟩ := H
    go_enter Try.func20, Try.ntmps20
    go_wp2_with (first | ((with_reducible refine gate_callee (f := 72) rfl ?_); refine goesL_ (some 5) rfl rfl Try.func72 (by kernel_rfl) rfl #[.string a0] rfl (by (try simp only [List.map_toArray, List.map_cons, List.map_nil]); first | done | rfl | (simp only [List.length_drop, List.length_take]; rfl)) ?_; (with_reducible refine (spec_l01Is.calls k a0 false _ A2.out).mono ?_); rintro e w' ⟨rfl, ⟨nd, rfl⟩⟩; refine ⟨_, rfl, ?_⟩))
    go_ret2
    exact ⟨by first | rfl | (simp [errW_none, errW_some] <;> rfl) | (simp [*, errW_none, errW_some] <;> rfl), by repeat (first | (with_reducible first | exact HB.out | apply below_alloc | apply pw_below_drewN | apply below_drew1) | exact HB.out)⟩

end Go.Proofs.Ytmihfmhfgjnfcab.Q

namespace Go.Proofs.Ytmihfmhfgjnfcab.Q
open Go.RowKit Go.Proofs.YtmihfmhfgjnfcabW.PrintWords Go.Proofs.YtmihfmhfgjnfcabW.PrintLast Go.Proofs.YtmihfmhfgjnfcabW.PrintMore
attribute [local go_sem] max2_int min2_int max_two min_two max_three min_three max_four min_four bn_leq bn_gtr bn_geq   -- for this text's walks alone
set_option linter.unusedVariables false
set_option linter.unusedSimpArgs false

/-! ### impl_PowerOf: function 21 (this session's own) -/
def xw_repeat_ren : Go.Shelf.Ren := ⟨fun | 99 => 122 | 105 => 82 | 165 => 123 | 166 => 124 | 169 => 126 | 170 => 125 | 206 => 145 | 212 => 121 | 240 => 146 | 241 => 147 | 263 => 143 | 264 => 144 | 276 => 155 | 277 => 156 | n => n, fun | 0 => 0 | 3 => 3 | 4 => 4 | 5 => 5 | 9 => 9 | 20 => 20 | 37 => 22 | 46 => 93 | 51 => 119 | 53 => 90 | 70 => 100 | 72 => 102 | 75 => 105 | 80 => 109 | 76 => 106 | 109 => 97 | 127 => 124 | 146 => 120 | 148 => 122 | 164 => 130 | n => n, fun n => n⟩
theorem xw_repeat_lays : Lays.n105 Try.prog xw_repeat_ren := {
  mixed := by kernel_rfl
  f99 := Try.func122.trans (congrArg some (by kernel_rfl))
  f105 := Try.func82.trans (congrArg some (by kernel_rfl))
  f165 := Try.func123.trans (congrArg some (by kernel_rfl))
  f166 := Try.func124.trans (congrArg some (by kernel_rfl))
  f169 := Try.func126.trans (congrArg some (by kernel_rfl))
  f170 := Try.func125.trans (congrArg some (by kernel_rfl))
  f206 := Try.func145.trans (congrArg some (by kernel_rfl))
  f212 := Try.func121.trans (congrArg some (by kernel_rfl))
  f240 := Try.func146.trans (congrArg some (by kernel_rfl))
  f241 := Try.func147.trans (congrArg some (by kernel_rfl))
  f263 := Try.func143.trans (congrArg some (by kernel_rfl))
  f264 := Try.func144.trans (congrArg some (by kernel_rfl))
  f276 := Try.func155.trans (congrArg some (by kernel_rfl))
  f277 := Try.func156.trans (congrArg some (by kernel_rfl))
  t0 := Try.underlying0
  a0 := Try.isAgg0
  z0 := Try.sizeOf0
  v0 := Try.zeroValue0
  t3 := Try.underlying3
  a3 := Try.isAgg3
  z3 := Try.sizeOf3
  v3 := Try.zeroValue3
  t4 := Try.underlying4
  a4 := Try.isAgg4
  z4 := Try.sizeOf4
  v4 := Try.zeroValue4
  t5 := Try.underlying5
  a5 := Try.isAgg5
  z5 := Try.sizeOf5
  v5 := Try.zeroValue5
  t9 := Try.underlying9
  a9 := Try.isAgg9
  z9 := Try.sizeOf9
  v9 := Try.zeroValue9
  t20 := Try.underlying20
  a20 := Try.isAgg20
  z20 := Try.sizeOf20
  v20 := Try.zeroValue20
  t37 := Try.underlying22
  a37 := Try.isAgg22
  z37 := Try.sizeOf22
  v37 := Try.zeroValue22
  t46 := Try.underlying93
  a46 := Try.isAgg93
  z46 := Try.sizeOf93
  v46 := Try.zeroValue93
  t51 := Try.underlying119
  a51 := Try.isAgg119
  z51 := Try.sizeOf119
  v51 := Try.zeroValue119
  t53 := Try.underlying90
  a53 := Try.isAgg90
  z53 := Try.sizeOf90
  v53 := Try.zeroValue90
  t70 := Try.underlying100
  a70 := Try.isAgg100
  z70 := Try.sizeOf100
  v70 := Try.zeroValue100
  t72 := Try.underlying102
  a72 := Try.isAgg102
  z72 := Try.sizeOf102
  v72 := Try.zeroValue102
  t75 := Try.underlying105
  a75 := Try.isAgg105
  z75 := Try.sizeOf105
  v75 := Try.zeroValue105
  t76 := Try.underlying106
  a76 := Try.isAgg106
  z76 := Try.sizeOf106
  v76 := Try.zeroValue106
  t109 := Try.underlying97
  a109 := Try.isAgg97
  z109 := Try.sizeOf97
  v109 := Try.zeroValue97
  t127 := Try.underlying124
  a127 := Try.isAgg124
  z127 := Try.sizeOf124
  v127 := Try.zeroValue124
  t146 := Try.underlying120
  a146 := Try.isAgg120
  z146 := Try.sizeOf120
  v146 := Try.zeroValue120
  t148 := Try.underlying122
  a148 := Try.isAgg122
  z148 := Try.sizeOf122
  v148 := Try.zeroValue122
  t164 := Try.underlying130
  a164 := Try.isAgg130
  z164 := Try.sizeOf130
  v164 := Try.zeroValue130 }
theorem xw_repeat_extra : Builder.Extra Try.prog xw_repeat_ren := {
  sizeBuilder := by kernel_rfl
  liesBuilder := by kernel_rfl
  t5 := Try.underlying5
  a5 := Try.isAgg5
  z5 := Try.sizeOf5
  v5 := Try.zeroValue5
  infoByte := by kernel_rfl
  cellsByte := by kernel_rfl
  sizeByte := by kernel_rfl
  neB5 := by decide }

set_option maxHeartbeats 2000000 in
theorem xw_PowerOf1 (a1 : Int) (b0 : Nat) (W : World) (h0 : W.cell? ⟨b0, 0, none⟩ = some (.int .i64 a1)) :
    Calls Try.prog 80 #[.pointer (some ⟨b0, 0, none⟩)] W fun e w' => e = .returned (.bool (inR a1 0 1000)) ∧ Below W.heap.size W w' := by
  have hI := xw_within a1 0 1000 W
  go_enter Try.func80, Try.ntmps80
  go_wp2_with (go_at_call 81; refine hI.mono ?_; rintro e w' ⟨rfl, rfl⟩)
  go_ret
  exact ⟨rfl, by repeat (first | exact Below.refl _ _ | apply pw_below_drewN | apply below_drew)⟩
def impl_PowerOf.f (a0 : ByteArray) (a1 : Int) : Option (ByteArray × Int) :=
  some (if isW a0 then (if inR a1 0 1000 then (if a0.size * a1.toNat > 60 then (⟨#[]⟩, 3) else (⟨(Lib.repeatL a0.data.toList a1.toNat).toArray⟩, 0)) else (⟨#[]⟩, 2)) else (⟨#[]⟩, 1))
set_option maxHeartbeats 4000000 in
theorem impl_PowerOf.calls (a0 : ByteArray) (a1 : Int) (r1 : ByteArray) (r2 : Int) (w : World) (h : impl_PowerOf.f a0 a1 = some (r1, r2)) :
    Calls Try.prog 21 #[.string a0, .int .i64 a1] w fun e w' => e = .returned (.tuple #[.string r1, .int .i64 r2]) ∧ Below w.heap.size w w' := by
  unfold impl_PowerOf.f at h
  obtain ⟨c, hc⟩ : ∃ c : Int, c = (if isW a0 then (if inR a1 0 1000 then 0 else 2) else 1) := ⟨_, rfl⟩
  have hC : Aside0 (∀ (W : World), Below w.heap.size w W → w.heap.size + 1 < W.heap.size → W.cell? ⟨w.heap.size, 0, none⟩ = some (.int .i64 a1) → W.cell? ⟨w.heap.size + 1, 0, none⟩ = some (.string a0) →
      Calls Try.prog 69 #[.func (.func 80) #[] #[.pointer (some ⟨w.heap.size, 0, none⟩)], .slice (some ⟨w.heap.size + 1, 0, none⟩) 1 1] W fun e w' => e = .returned (.int .i64 c) ∧ Below w.heap.size w w' ∧ w.heap.size + 1 < w'.heap.size ∧ w'.cell? ⟨w.heap.size, 0, none⟩ = some (.int .i64 a1)) := ⟨fun W hB hsz h0 h1 => by
    refine (xw_wordCode (inR a1 0 1000) 80 _ (enters_of Try.func80 (by kernel_rfl) rfl) _ 1 [a0] W (xw_C_one W (w.heap.size + 1) a0 h1) (by simp) (fun W2 hb2 => ?_)).mono ?_
    · exact xw_PowerOf1 a1 _ W2 ((hb2.cell (p := ⟨w.heap.size, 0, none⟩) (by simp; omega)).trans h0)
    · rintro e w' ⟨rfl, hb⟩
      refine ⟨by rw [hc]; simp, below_then hB (by omega) hb, Nat.lt_of_lt_of_le hsz hb.size, (hb.cell (p := ⟨w.heap.size, 0, none⟩) (by simp; omega)).trans h0⟩⟩
  have hq := hC.out ((w.alloc (.cells #[.int .i64 a1] 2)).alloc (.cells #[.string a0] 9)) ((((Below.refl _ w).alloc (by simp <;> omega) _).alloc (by simp <;> omega) _)) (by simp) (by simp [go_sem]) (by simp [go_sem])
  clear hC
  have hmk := xw_mkf
  cases hw : (isW a0) with
  | false =>
    rw [hw] at h hc
    obtain ⟨rfl, rfl⟩ : (⟨#[]⟩ : ByteArray) = r1 ∧ (1 : Int) = r2 := by simpa using h
    obtain rfl : c = 1 := by simpa using hc
    clear h hc hw
    go_enter Try.func21, Try.ntmps21
    go_wp2_with (go_at_call 69; refine hq.mono ?_; rintro e w' ⟨rfl, hb, hz, hc0⟩; have hb' := Aside0.mk hb; clear hb)
    go_ret2
    exact ⟨rfl, hb'.out⟩
  | true =>
    cases hk : (inR a1 0 1000) with
    | false =>
      rw [hw, hk] at h hc
      obtain ⟨rfl, rfl⟩ : (⟨#[]⟩ : ByteArray) = r1 ∧ (2 : Int) = r2 := by simpa using h
      obtain rfl : c = 2 := by simpa using hc
      clear h hc hw hk
      go_enter Try.func21, Try.ntmps21
      go_wp2_with (go_at_call 69; refine hq.mono ?_; rintro e w' ⟨rfl, hb, hz, hc0⟩; have hb' := Aside0.mk hb; clear hb)
      go_ret2
      exact ⟨rfl, hb'.out⟩
    | true =>
      rw [hw, hk] at h hc
      obtain rfl : c = 0 := by simpa using hc
      clear hc
      have hs := isW_size hw
      obtain ⟨k1, k2⟩ := inR_true hk
      obtain ⟨n, rfl⟩ : ∃ n : Nat, a1 = n := ⟨a1.toNat, by omega⟩
      have hmul : a0.size * n ≤ 60 * 1000 := Nat.mul_le_mul hs (by omega)
      have hmz : (a0.size : Int) * (n : Int) = ((a0.size * n : Nat) : Int) := by simp
      have hwm : wrap64 ((a0.size : Int) * (n : Int)) = ((a0.size * n : Nat) : Int) := by rw [hmz]; exact w64 (by omega) (by omega)
      have hwi : IntKind.i64.wrap ((a0.size : Int) * (n : Int)) = ((a0.size * n : Nat) : Int) := (i64_w _).trans hwm
      have hwm2 := Aside0.mk hwm
      simp only [if_true, Int.toNat_natCast] at h
      clear hw hk hmz
      by_cases hbig : a0.size * n > 60
      case pos =>
        rw [if_pos hbig] at h
        obtain ⟨rfl, rfl⟩ : (⟨#[]⟩ : ByteArray) = r1 ∧ (3 : Int) = r2 := by simpa using h
        have c1 : decide ((60 : Int) < wrap64 ((a0.size : Int) * (n : Int))) = true := decide_eq_true (by rw [hwm]; omega)
        have c2 := of_decide_eq_true c1
        clear h hmul hwm hwi
        go_enter Try.func21, Try.ntmps21
        go_wp2_with (go_at_call 69; refine hq.mono ?_; rintro e w' ⟨rfl, hb, hz, hc0⟩; have hb' := Aside0.mk hb; clear hb)
        go_quiet ((go_at_call 66; exact Calls.quiet_of_same (xw_size _ _)))
        go_wp2
        go_ret2
        exact ⟨rfl, by repeat (first | exact hb'.out | apply pw_below_drewN | apply below_drew)⟩
      rw [if_neg hbig] at h
      obtain ⟨rfl, rfl⟩ : (⟨(Lib.repeatL a0.data.toList n).toArray⟩ : ByteArray) = r1 ∧ (0 : Int) = r2 := by simpa using h
      have c1 : decide ((60 : Int) < wrap64 ((a0.size : Int) * (n : Int))) = false := decide_eq_false (by rw [hwm]; omega)
      have c2 := of_decide_eq_false c1
      have hcal : Aside0 (∀ W : World, Calls Try.prog 82 #[.string a0, .int .i64 (n : Int)] W fun e w' => e = .returned (.string ⟨(Lib.repeatL a0.data.toList n).toArray⟩) ∧ Below W.heap.size W w') := ⟨fun W => Any.strings_Repeat xw_repeat_lays xw_repeat_extra a0 n W (by omega) (by omega)⟩
      clear h hmul hwm hwi
      go_enter Try.func21, Try.ntmps21
      go_wp2_with (go_at_call 69; refine hq.mono ?_; rintro e w' ⟨rfl, hb, hz, hc0⟩; have hb' := Aside0.mk hb; clear hb)
      go_quiet ((go_at_call 66; exact Calls.quiet_of_same (xw_size _ _)))
      go_wp2_with (go_at_call 82; refine (hcal.out _).mono ?_; rintro e w2 ⟨rfl, hb2⟩; have hb2' := Aside0.mk hb2; clear hb2)
      go_ret2
      exact ⟨rfl, below_then (by repeat (first | exact hb'.out | apply pw_below_drewN | apply below_drew)) (by exact hb'.out.size) hb2'.out⟩



end Go.Proofs.Ytmihfmhfgjnfcab.Q

namespace Go.Proofs.Ytmihfmhfgjnfcab.Q
open Go.RowKit Go.Proofs.YtmihfmhfgjnfcabW.PrintWords Go.Proofs.YtmihfmhfgjnfcabW.PrintLast Go.Proofs.YtmihfmhfgjnfcabW.PrintMore
attribute [local go_sem] max2_int min2_int max_two min_two max_three min_three max_four min_four bn_leq bn_gtr bn_geq   -- for this text's walks alone
set_option linter.unusedVariables false
set_option linter.unusedSimpArgs false

/-! ### impl_TurnWord: function 22 (this session's own) -/
theorem xw_TurnWord1 (a0 : ByteArray) (a1 : Int) (b1 b2 : Nat) (W : World) (hk : W.cell? ⟨b1, 0, none⟩ = some (.int .i64 a1)) (hw : W.cell? ⟨b2, 0, none⟩ = some (.string a0)) :
    Calls Try.prog 83 #[.pointer (some ⟨b1, 0, none⟩), .pointer (some ⟨b2, 0, none⟩)] W fun e w' => e = .returned (.bool (inR a1 0 a0.size)) ∧ Below W.heap.size W w' := by
  have hS := xw_size a0
  have hI := xw_within a1 0 a0.size
  go_enter Try.func83, Try.ntmps83
  go_wp2
  go_quiet ((first | (go_at_call 66; exact Calls.quiet_of_same (hS _)) | (go_at_call 81; exact Calls.quiet_of_same (hI _))))
  go_wp2
  go_ret
  exact ⟨rfl, by repeat (first | exact Below.refl _ _ | apply pw_below_drewN | apply below_drew)⟩
def impl_TurnWord.f (a0 : ByteArray) (a1 : Int) : Option (ByteArray × Int) :=
  some (if isW a0 then (if inR a1 0 a0.size then (a0.extract a1.toNat a0.size ++ a0.extract 0 a1.toNat, 0) else (⟨#[]⟩, 2)) else (⟨#[]⟩, 1))
set_option maxHeartbeats 4000000 in
theorem impl_TurnWord.calls (a0 : ByteArray) (a1 : Int) (r1 : ByteArray) (r2 : Int) (w : World) (h : impl_TurnWord.f a0 a1 = some (r1, r2)) :
    Calls Try.prog 22 #[.string a0, .int .i64 a1] w fun e w' => e = .returned (.tuple #[.string r1, .int .i64 r2]) ∧ Below w.heap.size w w' := by
  have h' := Option.some.inj h
  clear h
  obtain ⟨c, hc⟩ : ∃ c : Int, c = (if isW a0 then (if inR a1 0 a0.size then 0 else 2) else 1) := ⟨_, rfl⟩
  have hC : Aside0 (∀ (W : World), Below w.heap.size w W → w.heap.size + 2 < W.heap.size → W.cell? ⟨w.heap.size, 0, none⟩ = some (.string a0) → W.cell? ⟨w.heap.size + 1, 0, none⟩ = some (.int .i64 a1) → W.cell? ⟨w.heap.size + 1 + 1, 0, none⟩ = some (.string a0) →
      Calls Try.prog 69 #[.func (.func 83) #[] #[.pointer (some ⟨w.heap.size + 1, 0, none⟩), .pointer (some ⟨w.heap.size, 0, none⟩)], .slice (some ⟨w.heap.size + 1 + 1, 0, none⟩) 1 1] W fun e w' => e = .returned (.int .i64 c) ∧ Below w.heap.size w w' ∧ w'.cell? ⟨w.heap.size, 0, none⟩ = some (.string a0) ∧ w'.cell? ⟨w.heap.size + 1, 0, none⟩ = some (.int .i64 a1)) := ⟨fun W hB hsz h0 h1 h2 => by
    refine (xw_wordCode (inR a1 0 a0.size) 83 _ (enters_of Try.func83 (by kernel_rfl) rfl) _ 1 [a0] W (xw_C_one W (w.heap.size + 1 + 1) a0 h2) (by simp) (fun W2 hb2 => ?_)).mono ?_
    · exact xw_TurnWord1 a0 a1 _ _ W2 ((hb2.cell (p := ⟨w.heap.size + 1, 0, none⟩) (by simp; omega)).trans h1) ((hb2.cell (p := ⟨w.heap.size, 0, none⟩) (by simp; omega)).trans h0)
    · rintro e w' ⟨rfl, hb⟩
      refine ⟨by rw [hc]; simp, below_then hB (by omega) hb, (hb.cell (p := ⟨w.heap.size, 0, none⟩) (by simp; omega)).trans h0, (hb.cell (p := ⟨w.heap.size + 1, 0, none⟩) (by simp; omega)).trans h1⟩⟩
  have hq := hC.out (((w.alloc (.cells #[.string a0] 9)).alloc (.cells #[.int .i64 a1] 2)).alloc (.cells #[.string a0] 9)) (((Below.refl _ w).alloc (Nat.le_refl _) _).alloc (by simp) _ |>.alloc (by simp; omega) _) (by simp) (by simp [go_sem]) (by simp [go_sem]) (by simp [go_sem])
  clear hC
  have hmk := xw_mkf
  cases hw : isW a0 with
  | false =>
    rw [hw] at h' hc
    obtain ⟨rfl, rfl⟩ : (⟨#[]⟩ : ByteArray) = r1 ∧ (1 : Int) = r2 := by simpa using h'
    obtain rfl : c = 1 := by simpa using hc
    clear h' hc hw
    go_enter Try.func22, Try.ntmps22
    go_wp2_with (go_at_call 69; refine hq.mono ?_; rintro e w' ⟨rfl, hb, hc0, hc1⟩)
    go_ret2
    exact ⟨rfl, hb⟩
  | true =>
    cases hk : inR a1 0 a0.size with
    | false =>
      rw [hw, hk] at h' hc
      obtain ⟨rfl, rfl⟩ : (⟨#[]⟩ : ByteArray) = r1 ∧ (2 : Int) = r2 := by simpa using h'
      obtain rfl : c = 2 := by simpa using hc
      clear h' hc hw hk
      go_enter Try.func22, Try.ntmps22
      go_wp2_with (go_at_call 69; refine hq.mono ?_; rintro e w' ⟨rfl, hb, hc0, hc1⟩)
      go_ret2
      exact ⟨rfl, hb⟩
    | true =>
      rw [hw, hk] at h' hc
      obtain ⟨rfl, rfl⟩ : a0.extract a1.toNat a0.size ++ a0.extract 0 a1.toNat = r1 ∧ (0 : Int) = r2 := by simpa using h'
      obtain rfl : c = 0 := by simpa using hc
      have hs := isW_size hw
      obtain ⟨hk1, hk2⟩ := inR_true hk
      clear h' hc hw hk
      have s1 : (a0.extract a1.toNat a0.size).size + (a0.extract 0 a1.toNat).size ≤ 9223372036854775807 := by simp only [ByteArray.size_extract]; omega
      have k1 := eq_true hk1
      have k1b := decide_eq_true hk1
      have k2 := eq_true hk2
      have k2b := decide_eq_true hk2
      have s1a := eq_true s1
      have s1b := decide_eq_true s1
      have s1c := eq_false (Nat.not_lt.2 s1)
      clear s1
      go_enter Try.func22, Try.ntmps22
      go_wp2_with (go_at_call 69; refine hq.mono ?_; rintro e w' ⟨rfl, hb, hc0, hc1⟩; have hb' := Aside0.mk hb; clear hb)
      go_quiet (fail)
      go_wp2
      go_ret2
      exact ⟨by simp, by repeat (first | exact hb'.out | apply pw_below_drewN | apply below_drew)⟩


end Go.Proofs.Ytmihfmhfgjnfcab.Q

namespace Go.Proofs.Ytmihfmhfgjnfcab.Q
open Go.RowKit Go.Proofs.YtmihfmhfgjnfcabW.PrintWords Go.Proofs.YtmihfmhfgjnfcabW.PrintLast Go.Proofs.YtmihfmhfgjnfcabW.PrintMore
attribute [local go_sem] max2_int min2_int max_two min_two max_three min_three max_four min_four bn_leq bn_gtr bn_geq   -- for this text's walks alone
set_option linter.unusedVariables false
set_option linter.unusedSimpArgs false

/-! ### laws_FnPeriods: function 3 (this session's own) -/
set_option maxHeartbeats 16000000 in
set_option maxRecDepth 100000 in
theorem laws_FnPeriods.pathA (k : Nat) (A0 : Option Addr) (cc : Nat) (l0 : List Int) (a root lst : ByteArray) (kk n p turn cnt p0 c1 c5 c6 c7 c8 : Int) (P B : List Int) (w : World) (hr0 : Kd.C (Kd.int .u8) w A0 l0.length l0) (hc0 : l0.length ≤ cc) (hbig : l0.length ≤ 4096) (hD : spec_DrawRootOf.f k l0 = some a) (h_impl_RootOf : impl_RootOf.f k a = some (root, kk, c1)) (h_spec_RootOf : spec_RootOf.f k a = some (root, kk, c1)) (h_impl_PeriodsOf : impl_PeriodsOf.f k a = some (P, c5)) (h_spec_PeriodsOf : spec_PeriodsOf.f k a = some (P, c5)) (h_impl_BordersOf : impl_BordersOf.f k a = some (B, c6)) (h_spec_BordersOf : spec_BordersOf.f k a = some (B, c6)) (h_impl_ExponentOf : impl_ExponentOf.f k a = some (n, p, c1)) (h_spec_ExponentOf : spec_ExponentOf.f k a = some (n, p, c1)) (h_impl_LeastTurned : impl_LeastTurned.f k a = some (lst, turn, c7)) (h_spec_LeastTurned : spec_LeastTurned.f k a = some (lst, turn, c7)) (h_impl_CountTurned : impl_CountTurned.f k a = some (cnt, c8)) (h_spec_CountTurned : spec_CountTurned.f k a = some (cnt, c8)) (hEP : laws_likeInts.f k P P = some true) (hEB : laws_likeInts.f k B B = some true) (hc1 : c1 ≠ 0) (hroot : root = ⟨#[]⟩) :
    Calls Try.prog 3 #[.slice A0 l0.length cc] w fun e w' => e = .returned (.bool true) ∧ Below w.heap.size w w' := by
  have HR0 := Aside0.mk hr0
  have HB := Aside0.mk (Below.refl w.heap.size w)
  have cG := Aside0.mk (fun W h => laws_big.calls A0 cc l0 false W h hc0 (by unfold laws_big.f; rw [decide_eq_false (by omega)]))
  have cD := Aside0.mk (fun W h => spec_DrawRootOf.calls k A0 cc l0 a W h hc0 hD)
  have c_impl_RootOf := Aside0.mk (fun W => impl_RootOf.calls k a root kk c1 W h_impl_RootOf)
  have c_spec_RootOf := Aside0.mk (fun W => spec_RootOf.calls k a root kk c1 W h_spec_RootOf)
  have c_impl_PeriodsOf := Aside0.mk (fun W => impl_PeriodsOf.calls k a P c5 W h_impl_PeriodsOf)
  have c_spec_PeriodsOf := Aside0.mk (fun W => spec_PeriodsOf.calls k a P c5 W h_spec_PeriodsOf)
  have c_impl_BordersOf := Aside0.mk (fun W => impl_BordersOf.calls k a B c6 W h_impl_BordersOf)
  have c_spec_BordersOf := Aside0.mk (fun W => spec_BordersOf.calls k a B c6 W h_spec_BordersOf)
  have c_impl_ExponentOf := Aside0.mk (fun W => impl_ExponentOf.calls k a n p c1 W h_impl_ExponentOf)
  have c_spec_ExponentOf := Aside0.mk (fun W => spec_ExponentOf.calls k a n p c1 W h_spec_ExponentOf)
  have c_impl_LeastTurned := Aside0.mk (fun W => impl_LeastTurned.calls k a lst turn c7 W h_impl_LeastTurned)
  have c_spec_LeastTurned := Aside0.mk (fun W => spec_LeastTurned.calls k a lst turn c7 W h_spec_LeastTurned)
  have c_impl_CountTurned := Aside0.mk (fun W => impl_CountTurned.calls k a cnt c8 W h_impl_CountTurned)
  have c_spec_CountTurned := Aside0.mk (fun W => spec_CountTurned.calls k a cnt c8 W h_spec_CountTurned)
  have cEP := Aside0.mk (fun W (A0 : Option Addr) (c0 : Nat) (A1 : Option Addr) (c1 : Nat) h0 h1 h2 h3 => laws_likeInts.calls k A0 c0 P A1 c1 P true W h0 h1 h2 h3 hEP)
  have cEB := Aside0.mk (fun W (A0 : Option Addr) (c0 : Nat) (A1 : Option Addr) (c1 : Nat) h0 h1 h2 h3 => laws_likeInts.calls k A0 c0 B A1 c1 B true W h0 h1 h2 h3 hEB)
  have d1 : (root.toList != root.toList) = false := by simp
  have d2 : (lst.toList != lst.toList) = false := by simp
  have d3 : (a.toList == a.toList) = true := by simp
  have d4 : (lst.toList == lst.toList) = true := by simp
  have d5 : (kk != kk) = false := by simp
  have d6 : (n != n) = false := by simp
  have d7 : (p != p) = false := by simp
  have d8 : (turn != turn) = false := by simp
  have d9 : (cnt != cnt) = false := by simp
  have d10 : (c1 != c1) = false := by simp
  have d11 : (c5 != c5) = false := by simp
  have d12 : (c6 != c6) = false := by simp
  have d13 : (c7 != c7) = false := by simp
  have d14 : (c8 != c8) = false := by simp
  have d15 : (c1 != 0) = true := bne_iff_ne.mpr hc1
  have d16 : (c1 == c1) = true := by simp
  subst hroot
  have d17 : ((0 : Int) != 0) = false := rfl
  have d18 : ((0 : Int) == 0) = true := rfl
  clear hr0 hc0 hbig hD h_impl_RootOf h_spec_RootOf h_impl_PeriodsOf h_spec_PeriodsOf h_impl_BordersOf h_spec_BordersOf h_impl_ExponentOf h_spec_ExponentOf h_impl_LeastTurned h_spec_LeastTurned h_impl_CountTurned h_spec_CountTurned hEP hEB hc1
  have t6_ := Aside0.mk (show True from trivial)
  go_enter Try.func3, Try.ntmps3
  go_wp2_with (first
    | (go_at_call 6; refine (cG.out _ (Kd.C_below HR0.out HB.out)).mono ?_; rintro e w1x ⟨rfl, hd⟩; have hb := hd.below; clear hd; have nb_ := Aside0.mk (below_then HB.out HB.out.size hb); clear HB; have HB := nb_; clear nb_ hb)
    | (go_at_call 7; refine (cD.out _ (Kd.C_below HR0.out HB.out)).mono ?_; rintro e w2x ⟨rfl, hb⟩; have nb_ := Aside0.mk (below_then HB.out HB.out.size hb); clear HB; have HB := nb_; clear nb_ hb)
    | (go_at_call 8; refine (c_impl_RootOf.out _ ).mono ?_; rintro e w3x ⟨rfl, hb⟩; have nb_ := Aside0.mk (below_then HB.out HB.out.size hb); clear HB; have HB := nb_; clear nb_ hb)
    | (go_at_call 9; refine (c_spec_RootOf.out _ ).mono ?_; rintro e w4x ⟨rfl, hb⟩; have nb_ := Aside0.mk (below_then HB.out HB.out.size hb); clear HB; have HB := nb_; clear nb_ hb)
    | (go_at_call 10; refine (c_impl_PeriodsOf.out _ ).mono ?_; rintro e w5x ⟨vw5x, rfl, ho, hb⟩; obtain ⟨AHP, eHP, rfl⟩ := Kd.R_slice ho; have HP := Aside0.mk ho; clear ho; have nb_ := Aside0.mk (below_then HB.out HB.out.size hb); clear HB; have HB := nb_; clear nb_ hb)
    | (go_at_call 11; refine (c_spec_PeriodsOf.out _ ).mono ?_; rintro e w6x ⟨vw6x, rfl, ho, hb⟩; obtain ⟨AHS, eHS, rfl⟩ := Kd.R_slice ho; have n_HP := Aside0.mk (Kd.R_below HP.out hb); clear HP; have HP := n_HP; clear n_HP; have HS := Aside0.mk ho; clear ho; have nb_ := Aside0.mk (below_then HB.out HB.out.size hb); clear HB; have HB := nb_; clear nb_ hb)
    | (go_at_call 12; have q_ := t6_.out; clear t6_ q_; refine (cEP.out _ _ _ _ _ (Kd.R_reads' HP.out).2.2 (Kd.R_reads' HP.out).2.1 (Kd.R_reads' HS.out).2.2 (Kd.R_reads' HS.out).2.1).mono ?_; rintro e w7x ⟨rfl, hd⟩; have hb := hd.below; clear hd; have n_HP := Aside0.mk (Kd.R_below HP.out hb); clear HP; have HP := n_HP; clear n_HP; have n_HS := Aside0.mk (Kd.R_below HS.out hb); clear HS; have HS := n_HS; clear n_HS; have nb_ := Aside0.mk (below_then HB.out HB.out.size hb); clear HB; have HB := nb_; clear nb_ hb)
    | (go_at_call 13; refine (c_impl_BordersOf.out _ ).mono ?_; rintro e w8x ⟨vw8x, rfl, ho, hb⟩; obtain ⟨AHQ, eHQ, rfl⟩ := Kd.R_slice ho; clear HS; have n_HP := Aside0.mk (Kd.R_below HP.out hb); clear HP; have HP := n_HP; clear n_HP; have HQ := Aside0.mk ho; clear ho; have nb_ := Aside0.mk (below_then HB.out HB.out.size hb); clear HB; have HB := nb_; clear nb_ hb)
    | (go_at_call 14; refine (c_spec_BordersOf.out _ ).mono ?_; rintro e w9x ⟨vw9x, rfl, ho, hb⟩; obtain ⟨AHT, eHT, rfl⟩ := Kd.R_slice ho; have n_HP := Aside0.mk (Kd.R_below HP.out hb); clear HP; have HP := n_HP; clear n_HP; have n_HQ := Aside0.mk (Kd.R_below HQ.out hb); clear HQ; have HQ := n_HQ; clear n_HQ; have HT := Aside0.mk ho; clear ho; have nb_ := Aside0.mk (below_then HB.out HB.out.size hb); clear HB; have HB := nb_; clear nb_ hb)
    | (go_at_call 12; refine (cEB.out _ _ _ _ _ (Kd.R_reads' HQ.out).2.2 (Kd.R_reads' HQ.out).2.1 (Kd.R_reads' HT.out).2.2 (Kd.R_reads' HT.out).2.1).mono ?_; rintro e w10x ⟨rfl, hd⟩; have hb := hd.below; clear hd; have n_HP := Aside0.mk (Kd.R_below HP.out hb); clear HP; have HP := n_HP; clear n_HP; have n_HQ := Aside0.mk (Kd.R_below HQ.out hb); clear HQ; have HQ := n_HQ; clear n_HQ; have n_HT := Aside0.mk (Kd.R_below HT.out hb); clear HT; have HT := n_HT; clear n_HT; have nb_ := Aside0.mk (below_then HB.out HB.out.size hb); clear HB; have HB := nb_; clear nb_ hb)
    | (go_at_call 15; refine (c_impl_ExponentOf.out _ ).mono ?_; rintro e w11x ⟨rfl, hb⟩; clear HT; have n_HP := Aside0.mk (Kd.R_below HP.out hb); clear HP; have HP := n_HP; clear n_HP; have n_HQ := Aside0.mk (Kd.R_below HQ.out hb); clear HQ; have HQ := n_HQ; clear n_HQ; have nb_ := Aside0.mk (below_then HB.out HB.out.size hb); clear HB; have HB := nb_; clear nb_ hb)
    | (go_at_call 16; refine (c_spec_ExponentOf.out _ ).mono ?_; rintro e w12x ⟨rfl, hb⟩; have n_HP := Aside0.mk (Kd.R_below HP.out hb); clear HP; have HP := n_HP; clear n_HP; have n_HQ := Aside0.mk (Kd.R_below HQ.out hb); clear HQ; have HQ := n_HQ; clear n_HQ; have nb_ := Aside0.mk (below_then HB.out HB.out.size hb); clear HB; have HB := nb_; clear nb_ hb)
    | (go_at_call 17; refine (c_impl_LeastTurned.out _ ).mono ?_; rintro e w13x ⟨rfl, hb⟩; have n_HP := Aside0.mk (Kd.R_below HP.out hb); clear HP; have HP := n_HP; clear n_HP; have n_HQ := Aside0.mk (Kd.R_below HQ.out hb); clear HQ; have HQ := n_HQ; clear n_HQ; have nb_ := Aside0.mk (below_then HB.out HB.out.size hb); clear HB; have HB := nb_; clear nb_ hb)
    | (go_at_call 18; refine (c_spec_LeastTurned.out _ ).mono ?_; rintro e w14x ⟨rfl, hd⟩; have hb := hd.below; clear hd; have n_HP := Aside0.mk (Kd.R_below HP.out hb); clear HP; have HP := n_HP; clear n_HP; have n_HQ := Aside0.mk (Kd.R_below HQ.out hb); clear HQ; have HQ := n_HQ; clear n_HQ; have nb_ := Aside0.mk (below_then HB.out HB.out.size hb); clear HB; have HB := nb_; clear nb_ hb)
    | (go_at_call 19; refine (c_impl_CountTurned.out _ ).mono ?_; rintro e w15x ⟨rfl, hb⟩; have n_HP := Aside0.mk (Kd.R_below HP.out hb); clear HP; have HP := n_HP; clear n_HP; have n_HQ := Aside0.mk (Kd.R_below HQ.out hb); clear HQ; have HQ := n_HQ; clear n_HQ; have nb_ := Aside0.mk (below_then HB.out HB.out.size hb); clear HB; have HB := nb_; clear nb_ hb)
    | (go_at_call 20; refine (c_spec_CountTurned.out _ ).mono ?_; rintro e w16x ⟨rfl, hb⟩; have n_HP := Aside0.mk (Kd.R_below HP.out hb); clear HP; have HP := n_HP; clear n_HP; have n_HQ := Aside0.mk (Kd.R_below HQ.out hb); clear HQ; have HQ := n_HQ; clear n_HQ; have nb_ := Aside0.mk (below_then HB.out HB.out.size hb); clear HB; have HB := nb_; clear nb_ hb))
  repeat (go_quiet (fail); try go_wp2)
  go_ret
  exact ⟨rfl, HB.out⟩
set_option maxHeartbeats 16000000 in
set_option maxRecDepth 100000 in
theorem laws_FnPeriods.pathB (k : Nat) (A0 : Option Addr) (cc : Nat) (l0 : List Int) (a root lst : ByteArray) (kk n p turn cnt p0 c1 c5 c6 c7 c8 : Int) (P B : List Int) (w : World) (hr0 : Kd.C (Kd.int .u8) w A0 l0.length l0) (hc0 : l0.length ≤ cc) (hbig : l0.length ≤ 4096) (hD : spec_DrawRootOf.f k l0 = some a) (h_impl_RootOf : impl_RootOf.f k a = some (root, kk, 0)) (h_spec_RootOf : spec_RootOf.f k a = some (root, kk, 0)) (h_impl_PeriodsOf : impl_PeriodsOf.f k a = some (P, 0)) (h_spec_PeriodsOf : spec_PeriodsOf.f k a = some (P, 0)) (h_impl_BordersOf : impl_BordersOf.f k a = some (B, 0)) (h_spec_BordersOf : spec_BordersOf.f k a = some (B, 0)) (h_impl_ExponentOf : impl_ExponentOf.f k a = some (n, p, 0)) (h_spec_ExponentOf : spec_ExponentOf.f k a = some (n, p, 0)) (h_impl_LeastTurned : impl_LeastTurned.f k a = some (lst, turn, 0)) (h_spec_LeastTurned : spec_LeastTurned.f k a = some (lst, turn, 0)) (h_impl_CountTurned : impl_CountTurned.f k a = some (cnt, 0)) (h_spec_CountTurned : spec_CountTurned.f k a = some (cnt, 0)) (hEP : laws_likeInts.f k P P = some true) (hEB : laws_likeInts.f k B B = some true) (hP0 : 0 < P.length) (hPB : P.length = B.length) (hPs : P.length ≤ 1000) (hp0 : rd P 0 = p0) (hnp : wrap64 (n * p0) = wrap64 (p * (a.size : Int))) (hsum : ∀ j : Nat, j < P.length → wrap64 (rd P j + rd B (B.length - 1 - j : Nat)) = (a.size : Int)) (hpow : impl_PowerOf.f root kk = some (a, 0)) (htu : impl_TurnWord.f a turn = some (lst, 0)) (hcnt : cnt = (root.size : Int)) :
    Calls Try.prog 3 #[.slice A0 l0.length cc] w fun e w' => e = .returned (.bool true) ∧ Below w.heap.size w w' := by
  have HR0 := Aside0.mk hr0
  have HB := Aside0.mk (Below.refl w.heap.size w)
  have cG := Aside0.mk (fun W h => laws_big.calls A0 cc l0 false W h hc0 (by unfold laws_big.f; rw [decide_eq_false (by omega)]))
  have cD := Aside0.mk (fun W h => spec_DrawRootOf.calls k A0 cc l0 a W h hc0 hD)
  have c_impl_RootOf := Aside0.mk (fun W => impl_RootOf.calls k a root kk 0 W h_impl_RootOf)
  have c_spec_RootOf := Aside0.mk (fun W => spec_RootOf.calls k a root kk 0 W h_spec_RootOf)
  have c_impl_PeriodsOf := Aside0.mk (fun W => impl_PeriodsOf.calls k a P 0 W h_impl_PeriodsOf)
  have c_spec_PeriodsOf := Aside0.mk (fun W => spec_PeriodsOf.calls k a P 0 W h_spec_PeriodsOf)
  have c_impl_BordersOf := Aside0.mk (fun W => impl_BordersOf.calls k a B 0 W h_impl_BordersOf)
  have c_spec_BordersOf := Aside0.mk (fun W => spec_BordersOf.calls k a B 0 W h_spec_BordersOf)
  have c_impl_ExponentOf := Aside0.mk (fun W => impl_ExponentOf.calls k a n p 0 W h_impl_ExponentOf)
  have c_spec_ExponentOf := Aside0.mk (fun W => spec_ExponentOf.calls k a n p 0 W h_spec_ExponentOf)
  have c_impl_LeastTurned := Aside0.mk (fun W => impl_LeastTurned.calls k a lst turn 0 W h_impl_LeastTurned)
  have c_spec_LeastTurned := Aside0.mk (fun W => spec_LeastTurned.calls k a lst turn 0 W h_spec_LeastTurned)
  have c_impl_CountTurned := Aside0.mk (fun W => impl_CountTurned.calls k a cnt 0 W h_impl_CountTurned)
  have c_spec_CountTurned := Aside0.mk (fun W => spec_CountTurned.calls k a cnt 0 W h_spec_CountTurned)
  have cEP := Aside0.mk (fun W (A0 : Option Addr) (c0 : Nat) (A1 : Option Addr) (c1 : Nat) h0 h1 h2 h3 => laws_likeInts.calls k A0 c0 P A1 c1 P true W h0 h1 h2 h3 hEP)
  have cEB := Aside0.mk (fun W (A0 : Option Addr) (c0 : Nat) (A1 : Option Addr) (c1 : Nat) h0 h1 h2 h3 => laws_likeInts.calls k A0 c0 B A1 c1 B true W h0 h1 h2 h3 hEB)
  have d1 : (root.toList != root.toList) = false := by simp
  have d2 : (lst.toList != lst.toList) = false := by simp
  have d3 : (a.toList == a.toList) = true := by simp
  have d4 : (lst.toList == lst.toList) = true := by simp
  have d5 : (kk != kk) = false := by simp
  have d6 : (n != n) = false := by simp
  have d7 : (p != p) = false := by simp
  have d8 : (turn != turn) = false := by simp
  have d9 : (cnt != cnt) = false := by simp
  have d10 : decide ((P.length : Int) < 1) = false := decide_eq_false (by omega)
  have d11 : decide (P.length < 1) = false := decide_eq_false (by omega)
  have d12 : decide (P.length = 0) = false := decide_eq_false (by omega)
  have d13 : ((P.length : Int) != (B.length : Int)) = false := by rw [hPB]; simp
  have d14 : (P.length != B.length) = false := by rw [hPB]; simp
  have d15 : (0 < P.length) = True := eq_true hP0
  have d16 : ((0 : Int) < (P.length : Int)) = True := eq_true (by omega)
  obtain ⟨m1, hm1⟩ : ∃ m1 : Int, m1 = wrap64 (n * p0) := ⟨_, rfl⟩
  rw [← hm1] at hnp
  have dm1 : wrap64 (n * p0) = m1 := hm1.symm
  have dm2 : wrap64 (p * (a.size : Int)) = m1 := hnp.symm
  have d17 : (m1 != m1) = false := by simp
  clear hm1
  have c_pow := Aside0.mk (fun W => impl_PowerOf.calls root kk a 0 W hpow)
  have c_tu := Aside0.mk (fun W => impl_TurnWord.calls a turn lst 0 W htu)
  subst hcnt
  have d18 : ((root.size : Int) == (root.size : Int)) = true := by simp
  have d19 : (root.size == root.size) = true := by simp
  have d20 : ((0 : Int) != 0) = false := rfl
  have d21 : ((0 : Int) == 0) = true := rfl
  replace hP0 := Aside0.mk hP0
  replace hPs := Aside0.mk hPs
  replace hp0 := Aside0.mk hp0
  replace hsum := Aside0.mk hsum
  replace hPB := Aside0.mk hPB
  clear hr0 hc0 hbig hD h_impl_RootOf h_spec_RootOf h_impl_PeriodsOf h_spec_PeriodsOf h_impl_BordersOf h_spec_BordersOf h_impl_ExponentOf h_spec_ExponentOf h_impl_LeastTurned h_spec_LeastTurned h_impl_CountTurned h_spec_CountTurned hEP hEB hnp hpow htu
  have t6_ := Aside0.mk (show True from trivial)
  go_enter Try.func3, Try.ntmps3
  go_wp2_with (first
    | (go_at_call 6; refine (cG.out _ (Kd.C_below HR0.out HB.out)).mono ?_; rintro e w1x ⟨rfl, hd⟩; have hb := hd.below; clear hd; have nb_ := Aside0.mk (below_then HB.out HB.out.size hb); clear HB; have HB := nb_; clear nb_ hb)
    | (go_at_call 7; refine (cD.out _ (Kd.C_below HR0.out HB.out)).mono ?_; rintro e w2x ⟨rfl, hb⟩; have nb_ := Aside0.mk (below_then HB.out HB.out.size hb); clear HB; have HB := nb_; clear nb_ hb)
    | (go_at_call 8; refine (c_impl_RootOf.out _ ).mono ?_; rintro e w3x ⟨rfl, hb⟩; have nb_ := Aside0.mk (below_then HB.out HB.out.size hb); clear HB; have HB := nb_; clear nb_ hb)
    | (go_at_call 9; refine (c_spec_RootOf.out _ ).mono ?_; rintro e w4x ⟨rfl, hb⟩; have nb_ := Aside0.mk (below_then HB.out HB.out.size hb); clear HB; have HB := nb_; clear nb_ hb)
    | (go_at_call 10; refine (c_impl_PeriodsOf.out _ ).mono ?_; rintro e w5x ⟨vw5x, rfl, ho, hb⟩; obtain ⟨AHP, eHP, rfl⟩ := Kd.R_slice ho; have HP := Aside0.mk ho; clear ho; have nb_ := Aside0.mk (below_then HB.out HB.out.size hb); clear HB; have HB := nb_; clear nb_ hb)
    | (go_at_call 11; refine (c_spec_PeriodsOf.out _ ).mono ?_; rintro e w6x ⟨vw6x, rfl, ho, hb⟩; obtain ⟨AHS, eHS, rfl⟩ := Kd.R_slice ho; have n_HP := Aside0.mk (Kd.R_below HP.out hb); clear HP; have HP := n_HP; clear n_HP; have HS := Aside0.mk ho; clear ho; have nb_ := Aside0.mk (below_then HB.out HB.out.size hb); clear HB; have HB := nb_; clear nb_ hb)
    | (go_at_call 12; have q_ := t6_.out; clear t6_ q_; refine (cEP.out _ _ _ _ _ (Kd.R_reads' HP.out).2.2 (Kd.R_reads' HP.out).2.1 (Kd.R_reads' HS.out).2.2 (Kd.R_reads' HS.out).2.1).mono ?_; rintro e w7x ⟨rfl, hd⟩; have hb := hd.below; clear hd; have n_HP := Aside0.mk (Kd.R_below HP.out hb); clear HP; have HP := n_HP; clear n_HP; have n_HS := Aside0.mk (Kd.R_below HS.out hb); clear HS; have HS := n_HS; clear n_HS; have nb_ := Aside0.mk (below_then HB.out HB.out.size hb); clear HB; have HB := nb_; clear nb_ hb)
    | (go_at_call 13; refine (c_impl_BordersOf.out _ ).mono ?_; rintro e w8x ⟨vw8x, rfl, ho, hb⟩; obtain ⟨AHQ, eHQ, rfl⟩ := Kd.R_slice ho; clear HS; have n_HP := Aside0.mk (Kd.R_below HP.out hb); clear HP; have HP := n_HP; clear n_HP; have HQ := Aside0.mk ho; clear ho; have nb_ := Aside0.mk (below_then HB.out HB.out.size hb); clear HB; have HB := nb_; clear nb_ hb)
    | (go_at_call 14; refine (c_spec_BordersOf.out _ ).mono ?_; rintro e w9x ⟨vw9x, rfl, ho, hb⟩; obtain ⟨AHT, eHT, rfl⟩ := Kd.R_slice ho; have n_HP := Aside0.mk (Kd.R_below HP.out hb); clear HP; have HP := n_HP; clear n_HP; have n_HQ := Aside0.mk (Kd.R_below HQ.out hb); clear HQ; have HQ := n_HQ; clear n_HQ; have HT := Aside0.mk ho; clear ho; have nb_ := Aside0.mk (below_then HB.out HB.out.size hb); clear HB; have HB := nb_; clear nb_ hb)
    | (go_at_call 12; refine (cEB.out _ _ _ _ _ (Kd.R_reads' HQ.out).2.2 (Kd.R_reads' HQ.out).2.1 (Kd.R_reads' HT.out).2.2 (Kd.R_reads' HT.out).2.1).mono ?_; rintro e w10x ⟨rfl, hd⟩; have hb := hd.below; clear hd; have n_HP := Aside0.mk (Kd.R_below HP.out hb); clear HP; have HP := n_HP; clear n_HP; have n_HQ := Aside0.mk (Kd.R_below HQ.out hb); clear HQ; have HQ := n_HQ; clear n_HQ; have n_HT := Aside0.mk (Kd.R_below HT.out hb); clear HT; have HT := n_HT; clear n_HT; have nb_ := Aside0.mk (below_then HB.out HB.out.size hb); clear HB; have HB := nb_; clear nb_ hb)
    | (go_at_call 15; refine (c_impl_ExponentOf.out _ ).mono ?_; rintro e w11x ⟨rfl, hb⟩; clear HT; have n_HP := Aside0.mk (Kd.R_below HP.out hb); clear HP; have HP := n_HP; clear n_HP; have n_HQ := Aside0.mk (Kd.R_below HQ.out hb); clear HQ; have HQ := n_HQ; clear n_HQ; have nb_ := Aside0.mk (below_then HB.out HB.out.size hb); clear HB; have HB := nb_; clear nb_ hb)
    | (go_at_call 16; refine (c_spec_ExponentOf.out _ ).mono ?_; rintro e w12x ⟨rfl, hb⟩; have n_HP := Aside0.mk (Kd.R_below HP.out hb); clear HP; have HP := n_HP; clear n_HP; have n_HQ := Aside0.mk (Kd.R_below HQ.out hb); clear HQ; have HQ := n_HQ; clear n_HQ; have nb_ := Aside0.mk (below_then HB.out HB.out.size hb); clear HB; have HB := nb_; clear nb_ hb)
    | (go_at_call 17; refine (c_impl_LeastTurned.out _ ).mono ?_; rintro e w13x ⟨rfl, hb⟩; have n_HP := Aside0.mk (Kd.R_below HP.out hb); clear HP; have HP := n_HP; clear n_HP; have n_HQ := Aside0.mk (Kd.R_below HQ.out hb); clear HQ; have HQ := n_HQ; clear n_HQ; have nb_ := Aside0.mk (below_then HB.out HB.out.size hb); clear HB; have HB := nb_; clear nb_ hb)
    | (go_at_call 18; refine (c_spec_LeastTurned.out _ ).mono ?_; rintro e w14x ⟨rfl, hd⟩; have hb := hd.below; clear hd; have n_HP := Aside0.mk (Kd.R_below HP.out hb); clear HP; have HP := n_HP; clear n_HP; have n_HQ := Aside0.mk (Kd.R_below HQ.out hb); clear HQ; have HQ := n_HQ; clear n_HQ; have nb_ := Aside0.mk (below_then HB.out HB.out.size hb); clear HB; have HB := nb_; clear nb_ hb)
    | (go_at_call 19; refine (c_impl_CountTurned.out _ ).mono ?_; rintro e w15x ⟨rfl, hb⟩; have n_HP := Aside0.mk (Kd.R_below HP.out hb); clear HP; have HP := n_HP; clear n_HP; have n_HQ := Aside0.mk (Kd.R_below HQ.out hb); clear HQ; have HQ := n_HQ; clear n_HQ; have nb_ := Aside0.mk (below_then HB.out HB.out.size hb); clear HB; have HB := nb_; clear nb_ hb)
    | (go_at_call 20; refine (c_spec_CountTurned.out _ ).mono ?_; rintro e w16x ⟨rfl, hb⟩; have n_HP := Aside0.mk (Kd.R_below HP.out hb); clear HP; have HP := n_HP; clear n_HP; have n_HQ := Aside0.mk (Kd.R_below HQ.out hb); clear HQ; have HQ := n_HQ; clear n_HQ; obtain ⟨adP, eaP, hcP⟩ := Kd.at_int (Kd.R_reads' HP.out).2.2 0 (by omega) (by have := hP0.out; omega); (first | subst eaP | cases eaP); rw [show ((0 : Int)).toNat = 0 from rfl, Addr.add_zero', hp0.out] at hcP; obtain ⟨adB, eaB, hcB⟩ := Kd.at_int (Kd.R_reads' HQ.out).2.2 0 (by omega) (by have := hP0.out; have := hPB.out; omega); subst eaB; clear hcB; have nb_ := Aside0.mk (below_then HB.out HB.out.size hb); clear HB; have HB := nb_; clear nb_ hb))
  repeat (go_quiet (fail); try go_wp2)
  go_loopg [34] P.length (fun gg v34 wr => ∃ kk : Nat, kk ≤ P.length ∧ P.length - kk ≤ gg ∧ v34 = .int .i64 kk ∧ Aside0 (Kd.R (Kd.int .i64) 2 wr w4x.heap.size (fun _ => True) (.slice (some adP) P.length eHP) P) ∧ Aside0 (Kd.R (Kd.int .i64) 2 wr w7x.heap.size (fun _ => True) (.slice (some adB) B.length eHQ) B) ∧ Aside0 (Below w.heap.size w wr))
  case atStart => exact ⟨0, Nat.zero_le _, by omega, rfl, ⟨by (with_reducible repeat (first | apply Kd.R_alloc | apply Kd.R_drewN | apply Kd.R_drew)); exact HP.out⟩, ⟨by (with_reducible repeat (first | apply Kd.R_alloc | apply Kd.R_drewN | apply Kd.R_drew)); exact HQ.out⟩, ⟨by repeat (first | (with_reducible first | exact HB.out | apply below_alloc | apply pw_below_drewN | apply below_drew1) | exact HB.out)⟩⟩
  case round =>
    clear HP HQ HB hcP dm1 dm2
    obtain ⟨kk, hkk, hgg, rfl, HP, HQ, HB⟩ := hrel
    have hPs2 := hPs.out
    have hPB2 := hPB.out
    by_cases hlt : kk < P.length
    · have hltz : (kk : Int) < (P.length : Int) := by omega
      have b1 := decide_eq_true hltz
      have b2 := eq_true (show (0 : Int) ≤ (kk : Int) by omega)
      have b3 := eq_true hltz
      have b4 := eq_true hlt
      obtain ⟨ad, ead, hcell⟩ := Kd.at_int (Kd.R_reads' HP.out).2.2 (kk : Int) (by omega) hltz
      cases ead
      obtain ⟨ad2, ead2, hcell2⟩ := Kd.at_int (Kd.R_reads' HQ.out).2.2 ((B.length - 1 - kk : Nat) : Int) (by omega) (by omega)
      cases ead2
      rw [Int.toNat_natCast] at hcell hcell2
      have hs := hsum.out kk hlt
      obtain ⟨x, hx⟩ : ∃ x, x = rd P (kk : Int) := ⟨_, rfl⟩
      obtain ⟨y, hy⟩ : ∃ y, y = rd B (B.length - 1 - kk : Nat) := ⟨_, rfl⟩
      rw [← hx] at hcell hs
      rw [← hy] at hcell2 hs
      have b5 : wrap64 ((B.length : Int) - 1) = (B.length : Int) - 1 := w64 (by omega) (by omega)
      have b6 : wrap64 ((B.length : Int) - 1 - (kk : Int)) = ((B.length - 1 - kk : Nat) : Int) := by rw [w64 (by omega) (by omega)]; omega
      have b7 := eq_true (show (0 : Int) ≤ ((B.length - 1 - kk : Nat) : Int) by omega)
      have b8 := eq_true (show ((B.length - 1 - kk : Nat) : Int) < (B.length : Int) by omega)
      have b9 := eq_true (show B.length - 1 - kk < B.length by omega)
      have hw5 := Aside0.mk (show wrap64 ((kk : Int) + 1) = ((kk + 1 : Nat) : Int) by rw [w64 (by omega) (by omega)]; rfl)
      clear hx hy hPB2 hPs2
      have b10 : ((a.size : Int) != (a.size : Int)) = false := by simp
      have b11 : (a.size != a.size) = false := by simp
      go_wp2
      repeat (go_quiet (fail); try go_wp2)
      go_roundg (P.length - (kk + 1))
      case measure => omega
      case rel => exact ⟨kk + 1, by omega, by omega, by first | rfl | rw [hw5.out], ⟨by (with_reducible repeat (first | apply Kd.R_alloc | apply Kd.R_drewN | apply Kd.R_drew)); exact HP.out⟩, ⟨by (with_reducible repeat (first | apply Kd.R_alloc | apply Kd.R_drewN | apply Kd.R_drew)); exact HQ.out⟩, ⟨by repeat (first | (with_reducible first | exact HB.out | apply below_alloc | apply pw_below_drewN | apply below_drew1) | exact HB.out)⟩⟩
    · have hltz : ¬ (kk : Int) < (P.length : Int) := by omega
      have b1 := decide_eq_false hltz
      clear HP HQ
      go_wp2_with (first
        | (go_at_call 21; refine (c_pow.out _).mono ?_; rintro e wz1 ⟨rfl, hb⟩; have nb_ := Aside0.mk (below_then HB.out HB.out.size hb); clear HB; have HB := nb_; clear nb_ hb)
        | (go_at_call 22; refine (c_tu.out _).mono ?_; rintro e wz2 ⟨rfl, hb⟩; have nb_ := Aside0.mk (below_then HB.out HB.out.size hb); clear HB; have HB := nb_; clear nb_ hb))
      repeat (go_quiet (fail); try go_wp2)
      go_ret
      exact ⟨rfl, HB.out⟩
set_option maxHeartbeats 2000000 in
set_option maxRecDepth 100000 in
theorem laws_FnPeriods.long (A0 : Option Addr) (cc : Nat) (l0 : List Int) (w : World) (hr0 : Kd.C (Kd.int .u8) w A0 l0.length l0) (hc0 : l0.length ≤ cc) (hbig : l0.length > 4096) :
    Calls Try.prog 3 #[.slice A0 l0.length cc] w fun e w' => e = .returned (.bool true) ∧ Below w.heap.size w w' := by
  have cG := Aside0.mk (fun W h => laws_big.calls A0 cc l0 true W h hc0 (by unfold laws_big.f; rw [decide_eq_true (by omega)]))
  have HR0 := Aside0.mk hr0
  clear hr0 hc0 hbig
  go_enter Try.func3, Try.ntmps3
  go_wp2_with (go_at_call 6; refine (cG.out _ HR0.out).mono ?_; rintro e wg ⟨rfl, hd⟩; have HB := Aside0.mk hd.below; clear hd)
  go_ret
  exact ⟨rfl, HB.out⟩
def laws_FnPeriods.Pure : Prop := ∀ (l0 : List Int), l0.length ≤ maxLen → l0.length * 1 ≤ 140737488351232 → (∀ x ∈ l0, (Lit.int .u8 x).wf = true) → l0.length > 4096 ∨ (l0.length ≤ 4096 ∧ ∃ (k : Nat) (a root lst : ByteArray) (kk n p turn cnt p0 c1 c5 c6 c7 c8 : Int) (P B : List Int), spec_DrawRootOf.f k l0 = some a ∧ impl_RootOf.f k a = some (root, kk, c1) ∧ spec_RootOf.f k a = some (root, kk, c1) ∧ impl_PeriodsOf.f k a = some (P, c5) ∧ spec_PeriodsOf.f k a = some (P, c5) ∧ impl_BordersOf.f k a = some (B, c6) ∧ spec_BordersOf.f k a = some (B, c6) ∧ impl_ExponentOf.f k a = some (n, p, c1) ∧ spec_ExponentOf.f k a = some (n, p, c1) ∧ impl_LeastTurned.f k a = some (lst, turn, c7) ∧ spec_LeastTurned.f k a = some (lst, turn, c7) ∧ impl_CountTurned.f k a = some (cnt, c8) ∧ spec_CountTurned.f k a = some (cnt, c8) ∧ laws_likeInts.f k P P = some true ∧ laws_likeInts.f k B B = some true ∧
  ((c1 ≠ 0 ∧ root = ⟨#[]⟩) ∨ (c1 = 0 ∧ c5 = 0 ∧ c6 = 0 ∧ c7 = 0 ∧ c8 = 0 ∧ 0 < P.length ∧ P.length = B.length ∧ P.length ≤ 1000 ∧ rd P 0 = p0 ∧ wrap64 (n * p0) = wrap64 (p * (a.size : Int)) ∧ (∀ j : Nat, j < P.length → wrap64 (rd P j + rd B (B.length - 1 - j : Nat)) = (a.size : Int)) ∧ impl_PowerOf.f root kk = some (a, 0) ∧ impl_TurnWord.f a turn = some (lst, 0) ∧ cnt = (root.size : Int))))
theorem laws_FnPeriods.walk (P : laws_FnPeriods.Pure) (a0 : Option Addr) (len0 cap0 : Nat) (z0 : List Int) (w : World) (w0 : (a0 = none ∧ len0 = 0 ∧ cap0 = 0 ∧ z0 = []) ∨ ∃ x, a0 = some x ∧ len0 ≤ cap0 ∧ cap0 ≤ maxLen ∧ z0.length = cap0 ∧ (∀ i, i < z0.length → w.cell? (x.add i) = some (.int .u8 (z0.getD i 0))) ∧ ∀ n ∈ z0, (Lit.int .u8 n).wf = true) (y0 : len0 * 1 ≤ 140737488351232) :
    Calls Try.prog 3 #[.slice a0 len0 cap0] w fun e w' => e = .returned (.bool true) ∧ Below w.heap.size w w' := by
  obtain ⟨l0, rfl, hr0, hm0, hw0, hc0⟩ := ReadsInt.ofRowC w0
  have hr := Kd.C_of_reads (d := (0 : Int)) (h1 := fun _ => rfl) hr0
  rcases P l0 hm0 y0 hw0 with h | ⟨hb, k, a, root, lst, kk, n, p, turn, cnt, p0, c1, c5, c6, c7, c8, P, B, h0, h1, h2, h3, h4, h5, h6, h7, h8, h9, h10, h11, h12, h13, h14, h⟩
  · exact laws_FnPeriods.long _ _ l0 w hr hc0 h
  · rcases h with ⟨g1, g2⟩ | ⟨rfl, rfl, rfl, rfl, rfl, g1, g2, g3, g4, g5, g6, g7, g8, g9⟩
    · exact laws_FnPeriods.pathA k _ _ l0 a root lst kk n p turn cnt p0 c1 c5 c6 c7 c8 P B w hr hc0 hb h0 h1 h2 h3 h4 h5 h6 h7 h8 h9 h10 h11 h12 h13 h14 g1 g2
    · exact laws_FnPeriods.pathB k _ _ l0 a root lst kk n p turn cnt p0 0 0 0 0 0 P B w hr hc0 hb h0 h1 h2 h3 h4 h5 h6 h7 h8 h9 h10 h11 h12 h13 h14 g1 g2 g3 g4 g5 g6 g7 g8 g9


end Go.Proofs.Ytmihfmhfgjnfcab.Q
