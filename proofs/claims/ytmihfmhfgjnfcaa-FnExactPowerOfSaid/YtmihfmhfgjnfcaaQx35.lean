-- Made by this session's program hyb.py out of Lean's print of the program; Lean checks it.
import Derived.Test.YtmihfmhfgjnfcaaQx0
import Derived.Test.YtmihfmhfgjnfcaaQx18
import Derived.Test.YtmihfmhfgjnfcaaQx57
import Derived.Test.YtmihfmhfgjnfcaaQx109
namespace Go.Proofs.Ytmihfmhfgjnfcaa.Q
open Go.RowKit Go.Proofs.YtmihfmhfgjnfcaaW.PrintWords Go.Proofs.YtmihfmhfgjnfcaaW.PrintLast Go.Proofs.YtmihfmhfgjnfcaaW.PrintMore
attribute [local go_sem] max2_int min2_int max_two min_two max_three min_three max_four min_four bn_leq bn_gtr bn_geq   -- for this text's walks alone
set_option linter.unusedVariables false
set_option linter.unusedSimpArgs false

/-! ### impl_PowerOf: function 35 (this session's own) -/
def xw_repeat_ren : Go.Shelf.Ren := ⟨fun | 99 => 119 | 105 => 88 | 165 => 120 | 166 => 121 | 169 => 123 | 170 => 122 | 206 => 137 | 212 => 118 | 240 => 138 | 241 => 139 | 263 => 135 | 264 => 136 | 276 => 151 | 277 => 152 | n => n, fun | 0 => 0 | 3 => 3 | 4 => 4 | 5 => 5 | 9 => 9 | 20 => 20 | 37 => 48 | 46 => 103 | 51 => 125 | 53 => 118 | 70 => 106 | 72 => 108 | 75 => 111 | 80 => 115 | 76 => 112 | 109 => 104 | 127 => 130 | 146 => 126 | 148 => 128 | 164 => 138 | n => n, fun n => n⟩
theorem xw_repeat_lays : Lays.n105 Try.prog xw_repeat_ren := {
  mixed := by kernel_rfl
  f99 := Try.func119.trans (congrArg some (by kernel_rfl))
  f105 := Try.func88.trans (congrArg some (by kernel_rfl))
  f165 := Try.func120.trans (congrArg some (by kernel_rfl))
  f166 := Try.func121.trans (congrArg some (by kernel_rfl))
  f169 := Try.func123.trans (congrArg some (by kernel_rfl))
  f170 := Try.func122.trans (congrArg some (by kernel_rfl))
  f206 := Try.func137.trans (congrArg some (by kernel_rfl))
  f212 := Try.func118.trans (congrArg some (by kernel_rfl))
  f240 := Try.func138.trans (congrArg some (by kernel_rfl))
  f241 := Try.func139.trans (congrArg some (by kernel_rfl))
  f263 := Try.func135.trans (congrArg some (by kernel_rfl))
  f264 := Try.func136.trans (congrArg some (by kernel_rfl))
  f276 := Try.func151.trans (congrArg some (by kernel_rfl))
  f277 := Try.func152.trans (congrArg some (by kernel_rfl))
  t0 := Try.underlying0
  a0 := Try.isAgg0
  z0 := Try.sizeOf0
  v0 := Try.zeroValue0
  t3 := Try.underlying3
  a3 := Try.isAgg3
  z3 := Try.sizeOf3
  v3 := Try.zeroValue3
  t4 := Try.underlying4
  a4 := Try.isAgg4
  z4 := Try.sizeOf4
  v4 := Try.zeroValue4
  t5 := Try.underlying5
  a5 := Try.isAgg5
  z5 := Try.sizeOf5
  v5 := Try.zeroValue5
  t9 := Try.underlying9
  a9 := Try.isAgg9
  z9 := Try.sizeOf9
  v9 := Try.zeroValue9
  t20 := Try.underlying20
  a20 := Try.isAgg20
  z20 := Try.sizeOf20
  v20 := Try.zeroValue20
  t37 := Try.underlying48
  a37 := Try.isAgg48
  z37 := Try.sizeOf48
  v37 := Try.zeroValue48
  t46 := Try.underlying103
  a46 := Try.isAgg103
  z46 := Try.sizeOf103
  v46 := Try.zeroValue103
  t51 := Try.underlying125
  a51 := Try.isAgg125
  z51 := Try.sizeOf125
  v51 := Try.zeroValue125
  t53 := Try.underlying118
  a53 := Try.isAgg118
  z53 := Try.sizeOf118
  v53 := Try.zeroValue118
  t70 := Try.underlying106
  a70 := Try.isAgg106
  z70 := Try.sizeOf106
  v70 := Try.zeroValue106
  t72 := Try.underlying108
  a72 := Try.isAgg108
  z72 := Try.sizeOf108
  v72 := Try.zeroValue108
  t75 := Try.underlying111
  a75 := Try.isAgg111
  z75 := Try.sizeOf111
  v75 := Try.zeroValue111
  t76 := Try.underlying112
  a76 := Try.isAgg112
  z76 := Try.sizeOf112
  v76 := Try.zeroValue112
  t109 := Try.underlying104
  a109 := Try.isAgg104
  z109 := Try.sizeOf104
  v109 := Try.zeroValue104
  t127 := Try.underlying130
  a127 := Try.isAgg130
  z127 := Try.sizeOf130
  v127 := Try.zeroValue130
  t146 := Try.underlying126
  a146 := Try.isAgg126
  z146 := Try.sizeOf126
  v146 := Try.zeroValue126
  t148 := Try.underlying128
  a148 := Try.isAgg128
  z148 := Try.sizeOf128
  v148 := Try.zeroValue128
  t164 := Try.underlying138
  a164 := Try.isAgg138
  z164 := Try.sizeOf138
  v164 := Try.zeroValue138 }
theorem xw_repeat_extra : Builder.Extra Try.prog xw_repeat_ren := {
  sizeBuilder := by kernel_rfl
  liesBuilder := by kernel_rfl
  t5 := Try.underlying5
  a5 := Try.isAgg5
  z5 := Try.sizeOf5
  v5 := Try.zeroValue5
  infoByte := by kernel_rfl
  cellsByte := by kernel_rfl
  sizeByte := by kernel_rfl
  neB5 := by decide }

set_option maxHeartbeats 2000000 in
theorem xw_PowerOf1 (a1 : Int) (b0 : Nat) (W : World) (h0 : W.cell? ⟨b0, 0, none⟩ = some (.int .i64 a1)) :
    Calls Try.prog 86 #[.pointer (some ⟨b0, 0, none⟩)] W fun e w' => e = .returned (.bool (inR a1 0 1000)) ∧ Below W.heap.size W w' := by
  have hI := xw_within a1 0 1000 W
  go_enter Try.func86, Try.ntmps86
  go_wp2_with (go_at_call 62; refine hI.mono ?_; rintro e w' ⟨rfl, rfl⟩)
  go_ret
  exact ⟨rfl, by repeat (first | exact Below.refl _ _ | apply pw_below_drewN | apply below_drew)⟩
def impl_PowerOf.f (a0 : ByteArray) (a1 : Int) : Option (ByteArray × Int) :=
  some (if isW a0 then (if inR a1 0 1000 then (if a0.size * a1.toNat > 60 then (⟨#[]⟩, 3) else (⟨(Lib.repeatL a0.data.toList a1.toNat).toArray⟩, 0)) else (⟨#[]⟩, 2)) else (⟨#[]⟩, 1))
set_option maxHeartbeats 4000000 in
theorem impl_PowerOf.calls (a0 : ByteArray) (a1 : Int) (r1 : ByteArray) (r2 : Int) (w : World) (h : impl_PowerOf.f a0 a1 = some (r1, r2)) :
    Calls Try.prog 35 #[.string a0, .int .i64 a1] w fun e w' => e = .returned (.tuple #[.string r1, .int .i64 r2]) ∧ Below w.heap.size w w' := by
  unfold impl_PowerOf.f at h
  obtain ⟨c, hc⟩ : ∃ c : Int, c = (if isW a0 then (if inR a1 0 1000 then 0 else 2) else 1) := ⟨_, rfl⟩
  have hC : Aside0 (∀ (W : World), Below w.heap.size w W → w.heap.size + 1 < W.heap.size → W.cell? ⟨w.heap.size, 0, none⟩ = some (.int .i64 a1) → W.cell? ⟨w.heap.size + 1, 0, none⟩ = some (.string a0) →
      Calls Try.prog 57 #[.func (.func 86) #[] #[.pointer (some ⟨w.heap.size, 0, none⟩)], .slice (some ⟨w.heap.size + 1, 0, none⟩) 1 1] W fun e w' => e = .returned (.int .i64 c) ∧ Below w.heap.size w w' ∧ w.heap.size + 1 < w'.heap.size ∧ w'.cell? ⟨w.heap.size, 0, none⟩ = some (.int .i64 a1)) := ⟨fun W hB hsz h0 h1 => by
    refine (xw_wordCode (inR a1 0 1000) 86 _ (enters_of Try.func86 (by kernel_rfl) rfl) _ 1 [a0] W (xw_C_one W (w.heap.size + 1) a0 h1) (by simp) (fun W2 hb2 => ?_)).mono ?_
    · exact xw_PowerOf1 a1 _ W2 ((hb2.cell (p := ⟨w.heap.size, 0, none⟩) (by simp; omega)).trans h0)
    · rintro e w' ⟨rfl, hb⟩
      refine ⟨by rw [hc]; simp, below_then hB (by omega) hb, Nat.lt_of_lt_of_le hsz hb.size, (hb.cell (p := ⟨w.heap.size, 0, none⟩) (by simp; omega)).trans h0⟩⟩
  have hq := hC.out ((w.alloc (.cells #[.int .i64 a1] 2)).alloc (.cells #[.string a0] 9)) ((((Below.refl _ w).alloc (by simp <;> omega) _).alloc (by simp <;> omega) _)) (by simp) (by simp [go_sem]) (by simp [go_sem])
  clear hC
  have hmk := xw_mkf
  cases hw : (isW a0) with
  | false =>
    rw [hw] at h hc
    obtain ⟨rfl, rfl⟩ : (⟨#[]⟩ : ByteArray) = r1 ∧ (1 : Int) = r2 := by simpa using h
    obtain rfl : c = 1 := by simpa using hc
    clear h hc hw
    go_enter Try.func35, Try.ntmps35
    go_wp2_with (go_at_call 57; refine hq.mono ?_; rintro e w' ⟨rfl, hb, hz, hc0⟩; have hb' := Aside0.mk hb; clear hb)
    go_ret2
    exact ⟨rfl, hb'.out⟩
  | true =>
    cases hk : (inR a1 0 1000) with
    | false =>
      rw [hw, hk] at h hc
      obtain ⟨rfl, rfl⟩ : (⟨#[]⟩ : ByteArray) = r1 ∧ (2 : Int) = r2 := by simpa using h
      obtain rfl : c = 2 := by simpa using hc
      clear h hc hw hk
      go_enter Try.func35, Try.ntmps35
      go_wp2_with (go_at_call 57; refine hq.mono ?_; rintro e w' ⟨rfl, hb, hz, hc0⟩; have hb' := Aside0.mk hb; clear hb)
      go_ret2
      exact ⟨rfl, hb'.out⟩
    | true =>
      rw [hw, hk] at h hc
      obtain rfl : c = 0 := by simpa using hc
      clear hc
      have hs := isW_size hw
      obtain ⟨k1, k2⟩ := inR_true hk
      obtain ⟨n, rfl⟩ : ∃ n : Nat, a1 = n := ⟨a1.toNat, by omega⟩
      have hmul : a0.size * n ≤ 60 * 1000 := Nat.mul_le_mul hs (by omega)
      have hmz : (a0.size : Int) * (n : Int) = ((a0.size * n : Nat) : Int) := by simp
      have hwm : wrap64 ((a0.size : Int) * (n : Int)) = ((a0.size * n : Nat) : Int) := by rw [hmz]; exact w64 (by omega) (by omega)
      have hwi : IntKind.i64.wrap ((a0.size : Int) * (n : Int)) = ((a0.size * n : Nat) : Int) := (i64_w _).trans hwm
      have hwm2 := Aside0.mk hwm
      simp only [if_true, Int.toNat_natCast] at h
      clear hw hk hmz
      by_cases hbig : a0.size * n > 60
      case pos =>
        rw [if_pos hbig] at h
        obtain ⟨rfl, rfl⟩ : (⟨#[]⟩ : ByteArray) = r1 ∧ (3 : Int) = r2 := by simpa using h
        have c1 : decide ((60 : Int) < wrap64 ((a0.size : Int) * (n : Int))) = true := decide_eq_true (by rw [hwm]; omega)
        have c2 := of_decide_eq_true c1
        clear h hmul hwm hwi
        go_enter Try.func35, Try.ntmps35
        go_wp2_with (go_at_call 57; refine hq.mono ?_; rintro e w' ⟨rfl, hb, hz, hc0⟩; have hb' := Aside0.mk hb; clear hb)
        go_quiet ((go_at_call 87; exact Calls.quiet_of_same (xw_size _ _)))
        go_wp2
        go_ret2
        exact ⟨rfl, by repeat (first | exact hb'.out | apply pw_below_drewN | apply below_drew)⟩
      rw [if_neg hbig] at h
      obtain ⟨rfl, rfl⟩ : (⟨(Lib.repeatL a0.data.toList n).toArray⟩ : ByteArray) = r1 ∧ (0 : Int) = r2 := by simpa using h
      have c1 : decide ((60 : Int) < wrap64 ((a0.size : Int) * (n : Int))) = false := decide_eq_false (by rw [hwm]; omega)
      have c2 := of_decide_eq_false c1
      have hcal : Aside0 (∀ W : World, Calls Try.prog 88 #[.string a0, .int .i64 (n : Int)] W fun e w' => e = .returned (.string ⟨(Lib.repeatL a0.data.toList n).toArray⟩) ∧ Below W.heap.size W w') := ⟨fun W => Any.strings_Repeat xw_repeat_lays xw_repeat_extra a0 n W (by omega) (by omega)⟩
      clear h hmul hwm hwi
      go_enter Try.func35, Try.ntmps35
      go_wp2_with (go_at_call 57; refine hq.mono ?_; rintro e w' ⟨rfl, hb, hz, hc0⟩; have hb' := Aside0.mk hb; clear hb)
      go_quiet ((go_at_call 87; exact Calls.quiet_of_same (xw_size _ _)))
      go_wp2_with (go_at_call 88; refine (hcal.out _).mono ?_; rintro e w2 ⟨rfl, hb2⟩; have hb2' := Aside0.mk hb2; clear hb2)
      go_ret2
      exact ⟨rfl, below_then (by repeat (first | exact hb'.out | apply pw_below_drewN | apply below_drew)) (by exact hb'.out.size) hb2'.out⟩



end Go.Proofs.Ytmihfmhfgjnfcaa.Q
