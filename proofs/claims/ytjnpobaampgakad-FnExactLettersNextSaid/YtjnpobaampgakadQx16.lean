-- Made by this session's program hyb.py out of Lean's print of the program; Lean checks it.
import Derived.Test.YtjnpobaampgakadQx0
import Derived.Test.YtjnpobaampgakadQx53
import Derived.Test.YtjnpobaampgakadQx55
namespace Go.Proofs.Ytjnpobaampgakad.Q
open Go.RowKit Go.Proofs.YtjnpobaampgakadW.PrintWords Go.Proofs.YtjnpobaampgakadW.PrintLast Go.Proofs.YtjnpobaampgakadW.PrintMore
attribute [local go_sem] max2_int min2_int max_two min_two max_three min_three max_four min_four bn_leq bn_gtr bn_geq   -- for this text's walks alone
set_option linter.unusedVariables false
set_option linter.unusedSimpArgs false

/-! ### impl_BordersOf: function 16 (this session's own) -/
theorem xw_size (s : ByteArray) (w : World) : Calls Try.prog 54 #[.string s] w fun e w' => e = .returned (.int .i64 s.size) ∧ w' = w := by
  go_enter Try.func54, Try.ntmps54
  go_wp2
  go_ret
  exact ⟨rfl, rfl⟩
theorem xw_within (n lo hi : Int) (w : World) : Calls Try.prog 75 #[.int .i64 n, .int .i64 lo, .int .i64 hi] w fun e w' => e = .returned (.bool (inR n lo hi)) ∧ w' = w := by
  have hR := inR_eq n lo hi
  by_cases h1 : lo ≤ n
  · by_cases h2 : n ≤ hi
    all_goals
      go_enter Try.func75, Try.ntmps75
      go_wp2
      go_ret
      exact ⟨by rw [hR.out]; simp [h1, h2], rfl⟩
  · go_enter Try.func75, Try.ntmps75
    go_wp2
    go_ret
    exact ⟨by rw [hR.out, decide_eq_false (show ¬ lo ≤ n by omega)]; rfl, rfl⟩

def bordCur (n : Int) (l : List Int) (kk : Nat) : List Int := (l.take kk).map (fun p => wrap64 (n - p)) ++ l.drop kk
theorem bordCur_len (n : Int) (l : List Int) (kk : Nat) : (bordCur n l kk).length = l.length := by
  unfold bordCur; simp; omega
theorem bordCur_rd (n : Int) (l : List Int) (kk : Nat) (h : kk < l.length) : rdOf (0 : Int) (bordCur n l kk) (kk : Int) = l.getD kk 0 := by
  unfold rdOf bordCur
  rw [Int.toNat_natCast, List.getD_eq_getElem?_getD, List.getElem?_append_right (by simp; omega)]
  simp [List.getD_eq_getElem?_getD, Nat.min_eq_left (Nat.le_of_lt h)]
theorem bordCur_set (n : Int) (l : List Int) (kk : Nat) (h : kk < l.length) : (bordCur n l kk).set kk (wrap64 (n - l.getD kk 0)) = bordCur n l (kk + 1) := by
  unfold bordCur
  rw [List.set_append_right _ _ (by simp; omega)]
  have e : l.drop kk = l.getD kk 0 :: l.drop (kk + 1) := by
    rw [List.drop_eq_getElem_cons h]
    simp [List.getD_eq_getElem?_getD, h]
  have e2 : (l.take (kk + 1)) = l.take kk ++ [l.getD kk 0] := by
    rw [List.take_succ_eq_append_getElem h]
    simp [List.getD_eq_getElem?_getD, h]
  rw [e, e2]
  simp [Nat.min_eq_left (Nat.le_of_lt h)]
def impl_BordersOf.f (k : Nat) (a0 : ByteArray) : Option (List Int × Int) := (impl_PeriodsOf.f k a0).bind fun bt => if bt.2 = 0 then (if bt.1.length ≤ 9223372036854775806 then some ((bordCur a0.size bt.1 bt.1.length).reverse, 0) else none) else some ([], bt.2)
theorem impl_BordersOf.mono : ∀ a0 k, LeO (impl_BordersOf.f k a0) (impl_BordersOf.f (k + 1) a0) := by
  intro a0 k
  unfold impl_BordersOf.f
  exact LeO.bind (impl_PeriodsOf.mono _ _) fun _ => LeO.refl _
set_option maxHeartbeats 8000000 in
theorem impl_BordersOf.calls (k : Nat) (a0 : ByteArray) (r1 : List Int) (r2 : Int) (w : World) (h : impl_BordersOf.f k a0 = some (r1, r2)) :
    Calls Try.prog 16 #[.string a0] w fun e w' => ∃ v0_ : Value, e = .returned (.tuple #[v0_, .int .i64 r2]) ∧ Kd.R (Kd.int .i64) 2 w' w.heap.size (fun _ => True) v0_ r1 ∧ Below w.heap.size w w' := by
  unfold impl_BordersOf.f at h
  obtain ⟨⟨l, c⟩, hP, h⟩ := Option.bind_eq_some_iff.mp h
  have hC := impl_PeriodsOf.calls k a0 l c w hP
  clear hP
  simp only at h
  by_cases hc : c = 0
  · subst hc
    rw [if_pos rfl] at h
    by_cases hbig : l.length ≤ 9223372036854775806
    · rw [if_pos hbig] at h
      simp only [Option.some.injEq, Prod.mk.injEq] at h
      obtain ⟨rfl, rfl⟩ := h
      obtain ⟨r, hr⟩ : ∃ r, r = bordCur a0.size l l.length := ⟨_, rfl⟩
      have hrl := Aside0.mk (show r.length ≤ 9223372036854775807 by rw [hr, bordCur_len]; omega)
      have hbig' := Aside0.mk hbig
      rw [← hr]
      have hr' := Aside0.mk hr
      clear hr hbig
      go_enter Try.func16, Try.ntmps16
      go_wp2_with (go_at_call 53; refine hC.mono ?_; rintro e w1 ⟨v, rfl, hR, hb⟩; obtain ⟨A, c, rfl, hlc, hCC⟩ := Kd.R_reads hR; have HO := Aside0.mk hR; have HB := Aside0.mk hb; clear hR hb hCC)
      go_loopg [6, 7, 18] l.length (fun gg v6 v7 v18 wr => ∃ (kk : Nat), kk ≤ l.length ∧ l.length - kk ≤ gg ∧ v18 = .int .i64 kk ∧ Aside0 (Kd.R (Kd.int .i64) 2 wr w.heap.size (fun _ => True) (.slice A l.length c) (bordCur a0.size l kk)) ∧ Aside0 (Below w.heap.size w wr))
      case atStart => exact ⟨0, Nat.zero_le _, by omega, rfl, ⟨by unfold bordCur; simpa using HO.out⟩, HB⟩
      case round =>
        clear HO HB
        obtain ⟨kk, hkk, hgg, rfl, HO, HB⟩ := hrel
        by_cases hlt : kk < l.length
        · have hltz : (kk : Int) < (l.length : Int) := by omega
          have c1 := decide_eq_true hltz
          obtain ⟨x, hx⟩ : ∃ x, x = l.getD kk 0 := ⟨_, rfl⟩
          have hx' := Aside0.mk hx
          have hset := Aside0.mk (bordCur_set a0.size l kk hlt)
          rw [← hx] at hset
          obtain ⟨g, cap, e1, hg, hgl, hcl⟩ := Kd.R_form HO.out (by rw [bordCur_len]; omega)
          injection e1 with e1 e2 e3
          subst e1 e3
          have HG := Aside0.mk hg
          obtain ⟨h1, h2⟩ := Kd.R_celln 0 HO.out (kk : Int) (by omega) hltz
          rw [bordCur_rd _ _ _ hlt, ← hx] at h1
          rw [Int.toNat_natCast] at h1 h2
          have HP := Kd.R_putg HO.out (kk : Int) (wrap64 ((a0.size : Int) - x))
          rw [Int.toNat_natCast, hset.out] at HP
          clear e2 hg hgl hcl hx hset
          have p0 := eq_true (show (0 : Int) ≤ (kk : Int) by omega)
          have n1 := eq_true hlt
          go_wp2_with (go_at_call 54; refine (xw_size _ _).mono ?_; rintro e w2 ⟨rfl, rfl⟩)
          go_roundg (l.length - (kk + 1))
          case measure => omega
          case rel =>
            have hb2 := hbig'.out
            exact ⟨kk + 1, by omega, by omega, by rw [w64 (by omega) (by omega)]; rfl, ⟨HP.1⟩, ⟨below_set HB.out HG.out⟩⟩
        · have hltz : ¬ (kk : Int) < (l.length : Int) := by omega
          have c1 := decide_eq_false hltz
          obtain rfl : kk = l.length := by omega
          rw [← hr'.out] at HO
          have hq := Aside0.mk (slices_Reverse_int64_int64.calls (fun _ => True) _ r r.reverse w wr HB.out HO.out (by unfold slices_Reverse_int64_int64.f; rw [if_pos hrl.out]))
          clear HO HB
          go_wp2_with (go_at_call 55; refine hq.out.mono ?_; rintro e w3 ⟨rfl, hR3, hB3, _⟩; have HO := Aside0.mk hR3; have HB := Aside0.mk hB3; clear hR3 hB3)
          go_ret2
          exact ⟨_, rfl, Kd.R_mono HO.out (fun _ _ => trivial), HB.out⟩
    · rw [if_neg hbig] at h; cases h
  · rw [if_neg hc] at h
    simp only [Option.some.injEq, Prod.mk.injEq] at h
    obtain ⟨rfl, rfl⟩ := h
    have c1 : (c == 0) = false := beq_eq_false_iff_ne.mpr hc
    have c2 : (c != 0) = true := by simp [bne, c1]
    clear hc
    go_enter Try.func16, Try.ntmps16
    go_wp2_with (go_at_call 53; refine hC.mono ?_; rintro e w1 ⟨v, rfl, hR, hb⟩; have HB := Aside0.mk hb; clear hR hb)
    go_ret2
    exact ⟨_, rfl, Kd.R_nil _ _ _ _ _, HB.out⟩


end Go.Proofs.Ytjnpobaampgakad.Q
