-- Made by this session's program hyb.py out of Lean's print of the program; Lean checks it.
import Derived.Test.YtmihfmhfgjnfcaaQx0
namespace Go.Proofs.Ytmihfmhfgjnfcaa.Q
open Go.RowKit Go.Proofs.YtmihfmhfgjnfcaaW.PrintWords Go.Proofs.YtmihfmhfgjnfcaaW.PrintLast Go.Proofs.YtmihfmhfgjnfcaaW.PrintMore
attribute [local go_sem] max2_int min2_int max_two min_two max_three min_three max_four min_four bn_leq bn_gtr bn_geq   -- for this text's walks alone
set_option linter.unusedVariables false
set_option linter.unusedSimpArgs false

/-! ### impl_factors: function 92 (this session's own) -/
def xw_sort_ren : Go.Shelf.Ren := ⟨fun | 125 => 141 | 128 => 162 | 129 => 163 | 190 => 124 | 258 => 140 | 302 => 153 | 303 => 154 | 304 => 155 | 305 => 156 | 306 => 157 | 307 => 158 | 308 => 159 | 309 => 160 | 310 => 161 | 329 => 167 | 330 => 168 | 333 => 166 | 334 => 169 | 335 => 170 | 336 => 171 | 344 => 172 | n => n, fun | 0 => 0 | 3 => 3 | 4 => 4 | 5 => 5 | 9 => 9 | 31 => 42 | 46 => 103 | 51 => 125 | 53 => 118 | 131 => 147 | 182 => 142 | 183 => 143 | 218 => 153 | 222 => 157 | 228 => 159 | 229 => 160 | n => n, fun n => n⟩
theorem xw_sort_lays : Lays.n190 Try.prog xw_sort_ren := {
  mixed := by kernel_rfl
  f125 := Try.func141.trans (congrArg some (by kernel_rfl))
  f128 := Try.func162.trans (congrArg some (by kernel_rfl))
  f129 := Try.func163.trans (congrArg some (by kernel_rfl))
  f190 := Try.func124.trans (congrArg some (by kernel_rfl))
  f258 := Try.func140.trans (congrArg some (by kernel_rfl))
  f302 := Try.func153.trans (congrArg some (by kernel_rfl))
  f303 := Try.func154.trans (congrArg some (by kernel_rfl))
  f304 := Try.func155.trans (congrArg some (by kernel_rfl))
  f305 := Try.func156.trans (congrArg some (by kernel_rfl))
  f306 := Try.func157.trans (congrArg some (by kernel_rfl))
  f307 := Try.func158.trans (congrArg some (by kernel_rfl))
  f308 := Try.func159.trans (congrArg some (by kernel_rfl))
  f309 := Try.func160.trans (congrArg some (by kernel_rfl))
  f310 := Try.func161.trans (congrArg some (by kernel_rfl))
  f329 := Try.func167.trans (congrArg some (by kernel_rfl))
  f330 := Try.func168.trans (congrArg some (by kernel_rfl))
  f333 := Try.func166.trans (congrArg some (by kernel_rfl))
  f334 := Try.func169.trans (congrArg some (by kernel_rfl))
  f335 := Try.func170.trans (congrArg some (by kernel_rfl))
  f336 := Try.func171.trans (congrArg some (by kernel_rfl))
  f344 := Try.func172.trans (congrArg some (by kernel_rfl))
  t0 := Try.underlying0
  a0 := Try.isAgg0
  z0 := Try.sizeOf0
  v0 := Try.zeroValue0
  t3 := Try.underlying3
  a3 := Try.isAgg3
  z3 := Try.sizeOf3
  v3 := Try.zeroValue3
  t4 := Try.underlying4
  a4 := Try.isAgg4
  z4 := Try.sizeOf4
  v4 := Try.zeroValue4
  t5 := Try.underlying5
  a5 := Try.isAgg5
  z5 := Try.sizeOf5
  v5 := Try.zeroValue5
  t9 := Try.underlying9
  a9 := Try.isAgg9
  z9 := Try.sizeOf9
  v9 := Try.zeroValue9
  t31 := Try.underlying42
  a31 := Try.isAgg42
  z31 := Try.sizeOf42
  v31 := Try.zeroValue42
  t46 := Try.underlying103
  a46 := Try.isAgg103
  z46 := Try.sizeOf103
  v46 := Try.zeroValue103
  t51 := Try.underlying125
  a51 := Try.isAgg125
  z51 := Try.sizeOf125
  v51 := Try.zeroValue125
  t53 := Try.underlying118
  a53 := Try.isAgg118
  z53 := Try.sizeOf118
  v53 := Try.zeroValue118
  t131 := Try.underlying147
  a131 := Try.isAgg147
  z131 := Try.sizeOf147
  v131 := Try.zeroValue147
  t182 := Try.underlying142
  a182 := Try.isAgg142
  z182 := Try.sizeOf142
  v182 := Try.zeroValue142
  t183 := Try.underlying143
  a183 := Try.isAgg143
  z183 := Try.sizeOf143
  v183 := Try.zeroValue143
  t218 := Try.underlying153
  a218 := Try.isAgg153
  z218 := Try.sizeOf153
  v218 := Try.zeroValue153
  t222 := Try.underlying157
  a222 := Try.isAgg157
  z222 := Try.sizeOf157
  v222 := Try.zeroValue157
  t228 := Try.underlying159
  a228 := Try.isAgg159
  z228 := Try.sizeOf159
  v228 := Try.zeroValue159
  t229 := Try.underlying160
  a229 := Try.isAgg160
  z229 := Try.sizeOf160
  v229 := Try.zeroValue160 }
def xw_compact_ren : Go.Shelf.Ren := ⟨fun | 194 => 125 | n => n, fun | 0 => 0 | 3 => 3 | 4 => 4 | 9 => 9 | 31 => 42 | n => n, fun n => n⟩
theorem xw_compact_lays : Lays.n194 Try.prog xw_compact_ren := {
  mixed := by kernel_rfl
  f194 := Try.func125.trans (congrArg some (by kernel_rfl))
  t0 := Try.underlying0
  a0 := Try.isAgg0
  z0 := Try.sizeOf0
  v0 := Try.zeroValue0
  t3 := Try.underlying3
  a3 := Try.isAgg3
  z3 := Try.sizeOf3
  v3 := Try.zeroValue3
  t4 := Try.underlying4
  a4 := Try.isAgg4
  z4 := Try.sizeOf4
  v4 := Try.zeroValue4
  t9 := Try.underlying9
  a9 := Try.isAgg9
  z9 := Try.sizeOf9
  v9 := Try.zeroValue9
  t31 := Try.underlying42
  a31 := Try.isAgg42
  z31 := Try.sizeOf42
  v31 := Try.zeroValue42 }
def toW (x : List UInt8) : ByteArray := ⟨x.toArray⟩
def sortL (l : List ByteArray) : List ByteArray := ((l.map (·.data.toList)).mergeSort fun x y => decide (x ≤ y)).map toW
def compactL (l : List ByteArray) : List ByteArray := (Lib.compact (l.map (·.data.toList))).map toW
def sortW (l : List ByteArray) : List ByteArray := compactL (sortL l)
theorem encs_strs (l : List ByteArray) : (l.map (·.data.toList)).map Go.Proofs.encStr = encs Value.string l := Lib.map_encStr l
theorem encs_toW (l : List (List UInt8)) : l.map Go.Proofs.encStr = encs Value.string (l.map toW) := by
  unfold encs
  rw [List.map_map]; rfl
theorem below_grow (W : World) (os : Array Obj) : Below W.heap.size W (Go.Sort.grow W os) :=
  ⟨rfl, rfl, rfl, by show W.heap.size ≤ (W.heap ++ os).size; rw [Array.size_append]; omega, fun k hk => Go.Sort.heap_grow_old W os hk⟩
theorem compact_len {α : Type} [Inhabited α] [DecidableEq α] (l : List α) : (Lib.compact l).length ≤ l.length := by
  unfold Lib.compact Lib.compactUpTo
  rw [List.length_map]
  exact Nat.le_trans (List.length_filter_le _ _) (by simp)
theorem xw_Sort (v : Value) (l : List ByteArray) (w0 w : World) (hl : l.length ≤ 1000000) (ho : Kd.R Kd.string 9 w w0.heap.size (fun _ => True) v l) (hB : Below w0.heap.size w0 w) :
    Calls Try.prog 124 #[v] w fun e w' => e = .returned (.tuple #[]) ∧ Kd.R Kd.string 9 w' w0.heap.size (fun _ => True) v (sortL l) ∧ Below w0.heap.size w0 w' := by
  by_cases hv : v = .slice none 0 0
  · subst hv
    have hl : l = [] := List.length_eq_zero_iff.mp (Kd.R_reads' ho).1.symm
    subst hl
    refine (Any.slices_Sort_string_none xw_sort_lays none 0 w).mono ?_
    rintro e w' ⟨rfl, rfl⟩
    refine ⟨rfl, ?_, hB⟩
    rw [show sortL [] = [] by simp [sortL]]
    exact ho
  · have hown := Kd.own_of_R ho
    obtain ⟨g, cap, rfl, hb, hlt, hn, hm, hl2, hH⟩ := Lib.holds_of_ownsRow (enc := Go.Proofs.encStr) (zs := l.map (·.data.toList)) (by rw [encs_strs]; exact hown) hv
    have hc := Any.slices_Sort_string xw_sort_lays g 0 cap (l.map (·.data.toList)) w hH hlt (by rw [hl2]; omega)
    rw [hl2] at hc
    refine hc.mono ?_
    rintro e w' ⟨rfl, n, os, rfl⟩
    have hown2 : w.ownsRow w0.heap.size 9 1 (.slice (some ⟨g, 0, none⟩) l.length cap) l.length ((l.map (·.data.toList)).map Go.Proofs.encStr) := by rw [encs_strs]; exact hown
    have ho2 := Lib.ownsRow_putRow (q := n) (k := l.length) (ys := (l.map (·.data.toList)).mergeSort fun x y => decide (x ≤ y)) hown2 (by simp) (Nat.le_refl _)
    rw [List.take_of_length_le (by simp), encs_toW] at ho2
    have hR : Kd.R Kd.string 9 (Go.Sort.putRow Go.Proofs.encStr (Go.Sort.ahead w n) g 0 ((l.map (·.data.toList)).mergeSort fun x y => decide (x ≤ y)).toArray) w0.heap.size (fun _ => True) (.slice (some ⟨g, 0, none⟩) l.length cap) (sortL l) := by
      refine Kd.R_of_own ?_ (fun _ _ => trivial)
      rw [show (sortL l).length = l.length by simp [sortL]]
      exact ho2
    have hB1 : Below w0.heap.size w0 (Go.Sort.putRow Go.Proofs.encStr (Go.Sort.ahead w n) g 0 ((l.map (·.data.toList)).mergeSort fun x y => decide (x ≤ y)).toArray) := Lib.below_putRow hB hb
    exact ⟨rfl, Kd.R_below hR (below_grow _ os), below_then hB1 hB1.size (below_grow _ os)⟩
theorem xw_Compact (v : Value) (l : List ByteArray) (w0 w : World) (hl : l.length ≤ 1000000) (ho : Kd.R Kd.string 9 w w0.heap.size (fun _ => True) v l) (hB : Below w0.heap.size w0 w) :
    Calls Try.prog 125 #[v] w fun e w' => ∃ v' : Value, e = .returned v' ∧ Kd.R Kd.string 9 w' w0.heap.size (fun _ => True) v' (compactL l) ∧ Below w0.heap.size w0 w' := by
  by_cases hv : v = .slice none 0 0
  · subst hv
    have hl : l = [] := List.length_eq_zero_iff.mp (Kd.R_reads' ho).1.symm
    subst hl
    refine (Any.slices_Compact_string_empty xw_compact_lays none 0 w).mono ?_
    rintro e w' ⟨rfl, rfl⟩
    refine ⟨_, rfl, ?_, hB⟩
    rw [show compactL [] = [] from rfl]
    exact ho
  · have hown := Kd.own_of_R ho
    obtain ⟨g, cap, rfl, hb, hlt, hn, hm, hl2, hH⟩ := Lib.holds_of_ownsRow (enc := Go.Proofs.encStr) (zs := l.map (·.data.toList)) (by rw [encs_strs]; exact hown) hv
    have hc := Any.slices_Compact_string xw_compact_lays g 0 cap (l.map (·.data.toList)) w hH (by rw [hl2]; omega) (by rw [hl2]; omega)
    rw [hl2] at hc
    refine hc.mono ?_
    rintro e w' ⟨rfl, n, rfl⟩
    have hown2 : w.ownsRow w0.heap.size 9 1 (.slice (some ⟨g, 0, none⟩) l.length cap) l.length ((l.map (·.data.toList)).map Go.Proofs.encStr) := by rw [encs_strs]; exact hown
    have hcl := compact_len (l.map (·.data.toList))
    rw [hl2] at hcl
    have ho2 := Lib.ownsRow_putRow (q := n) (k := (Lib.compact (l.map (·.data.toList))).length) (ys := Lib.compact (l.map (·.data.toList)) ++ List.replicate (l.length - (Lib.compact (l.map (·.data.toList))).length) []) hown2 (by simp; omega) hcl
    rw [List.take_left, encs_toW] at ho2
    refine ⟨_, rfl, ?_, Lib.below_putRow hB hb⟩
    refine Kd.R_of_own ?_ (fun _ _ => trivial)
    rw [show (compactL l).length = (Lib.compact (l.map (·.data.toList))).length by simp [compactL]]
    exact ho2
theorem sortL_len (l : List ByteArray) : (sortL l).length = l.length := by simp [sortL]
theorem sortW_len (l : List ByteArray) : (sortW l).length ≤ l.length := by
  unfold sortW compactL
  rw [List.length_map]
  refine Nat.le_trans (compact_len _) ?_
  rw [List.length_map, sortL_len]; exact Nat.le_refl _
set_option maxHeartbeats 2000000 in
theorem xw_sorted (v : Value) (l : List ByteArray) (w0 w : World) (hl : l.length ≤ 1000000) (ho : Kd.R Kd.string 9 w w0.heap.size (fun _ => True) v l) (hB : Below w0.heap.size w0 w) :
    Calls Try.prog 95 #[v] w fun e w' => ∃ v' : Value, e = .returned v' ∧ Kd.R Kd.string 9 w' w0.heap.size (fun _ => True) v' (sortW l) ∧ Below w0.heap.size w0 w' := by
  have hS := xw_Sort v l w0 w hl ho hB
  have hC := Aside0.mk (fun W h1 h2 => xw_Compact v (sortL l) w0 W (by rw [sortL_len]; exact hl) h1 h2)
  clear hl ho hB
  go_enter Try.func95, Try.ntmps95
  go_wp2_with (first | (go_at_call 124; refine hS.mono ?_; rintro e w1 ⟨rfl, h1, h2⟩; have H1 := Aside0.mk h1; have H2 := Aside0.mk h2; clear h1 h2) | (go_at_call 125; refine (hC.out _ H1.out H2.out).mono ?_; rintro e w2 ⟨v', rfl, h1, h2⟩; have H3 := Aside0.mk h1; have H4 := Aside0.mk h2; clear h1 h2))
  go_ret
  exact ⟨_, rfl, H3.out, H4.out⟩

def factL (w : ByteArray) (m : Nat) (n : Nat) : List ByteArray := (List.range n).map fun i => w.extract i (i + m)
theorem factL_succ (w : ByteArray) (m n : Nat) : factL w m (n + 1) = factL w m n ++ [w.extract n (n + m)] := by unfold factL; rw [List.range_succ, List.map_append]; rfl
theorem factL_len (w : ByteArray) (m n : Nat) : (factL w m n).length = n := by unfold factL; simp
def impl_factors.f (a0 : ByteArray) (a1 : Int) : Option (List ByteArray) := if a0.size ≤ 1000 ∧ 0 ≤ a1 ∧ a1 ≤ 1000 then some (sortW (factL a0 a1.toNat (a0.size + 1 - a1.toNat))) else none
set_option maxHeartbeats 4000000 in
theorem impl_factors.calls (a0 : ByteArray) (a1 : Int) (r : List ByteArray) (w : World) (h : impl_factors.f a0 a1 = some r) :
    Calls Try.prog 92 #[.string a0, .int .i64 a1] w fun e w' => ∃ v : Value, e = .returned v ∧ Kd.R Kd.string 9 w' w.heap.size (fun _ => True) v r ∧ Below w.heap.size w w' := by
  unfold impl_factors.f at h
  by_cases hbig : a0.size ≤ 1000 ∧ 0 ≤ a1 ∧ a1 ≤ 1000
  · rw [if_pos hbig] at h
    have hr := Aside0.mk (Option.some.inj h)
    obtain ⟨b0, b1, b2⟩ := hbig
    have hb0 := Aside0.mk b0
    have hb1 := Aside0.mk b1
    have hb2 := Aside0.mk b2
    clear h b0 b1 b2
    go_enter Try.func92, Try.ntmps92
    go_wp2
    go_loopg [5, 6] (a0.size + 1) (fun gg v5 v6 wr => ∃ (n : Nat) (i : Int), i = n ∧ n ≤ a0.size + 1 - a1.toNat ∧ a0.size + 1 - n ≤ gg ∧ v6 = .int .i64 i ∧ Aside0 (Kd.R Kd.string 9 wr w.heap.size (fun _ => True) v5 (factL a0 a1.toNat n)) ∧ Aside0 (Below w.heap.size w wr))
    case atStart => exact ⟨0, 0, rfl, Nat.zero_le _, by omega, rfl, ⟨Kd.R_nil _ _ _ _ _⟩, ⟨Below.refl _ _⟩⟩
    case round =>
      obtain ⟨n, i, hin, hn, hg, rfl, HO, HB⟩ := hrel
      have b0 := hb0.out
      have b1 := hb1.out
      have b2 := hb2.out
      by_cases hlt : n + a1.toNat ≤ a0.size
      · have e1 : wrap64 (i + a1) = i + a1 := w64 (by omega) (by omega)
        have e2 : IntKind.i64.wrap (i + a1) = i + a1 := (i64_w _).trans e1
        have c1 : decide (i + a1 ≤ (a0.size : Int)) = true := decide_eq_true (by omega)
        have c2 := of_decide_eq_true c1
        have c3 := eq_true c2
        have c4 : (0 : Int) ≤ i := by omega
        have c5 := eq_true c4
        have c6 := decide_eq_true c4
        have c7 : i ≤ i + a1 := by omega
        have c8 := eq_true c7
        have c9 := decide_eq_true c7
        have hx : Aside0 (a0.extract i.toNat (i + a1).toNat = a0.extract n (n + a1.toNat)) := ⟨by rw [show i.toNat = n by omega, show (i + a1).toNat = n + a1.toNat by omega]⟩
        have hin' := Aside0.mk hin
        have hlt' := Aside0.mk hlt
        have LM := Aside0.mk (show (factL a0 a1.toNat n).length < 100000 by rw [factL_len]; omega)
        obtain ⟨A7, q7, rfl⟩ := Kd.R_slice HO.out
        clear b0 b1 b2 hin hlt
        go_wp2_with ((with_reducible refine gate_builtin (b := .append) (xs := #[.tmp 15, .tmp 22]) rfl ?_); at_builtin; refine Kd.R_append Kd.string (w0 := w) w.heap.size rfl (.tmp 15) (.tmp 22) 42 9 (.string ⟨#[]⟩) 16 rfl Try.underlying42 info9 rfl (by decide) (by omega) _ (factL a0 a1.toNat n) (a0.extract i.toNat (i + a1).toNat) [.string (a0.extract i.toNat (i + a1).toNat)] (fun _ => True) (fun _ => False) rfl rfl ?aP (fun _ hk => hk.elim) ?aF ?aO ?aB ?aS ?aL ?_; (case aP => exact rfl); (case aB => exact (by repeat (first | (with_reducible first | exact HB.out | apply below_alloc | apply pw_below_drewN | apply below_drew1) | exact HB.out))); (case aF => exact (fun _ _ => trivial)); (case aO => exact (by (with_reducible repeat (first | apply Kd.R_alloc | apply Kd.R_drewN | apply Kd.R_drew)); exact HO.out)); (case aS => exact (below_size (by repeat (first | (with_reducible first | exact HB.out | apply below_alloc | apply pw_below_drewN | apply below_drew1) | exact HB.out)))); (case aL => have := LM.out; omega); intro v108 w9 ho hb hg hat; have HB9 := Aside0.mk hb; have HO9 := Aside0.mk ho; clear ho hb hg hat HB HO)
        go_roundg (a0.size + 1 - (n + 1))
        case measure => have := hlt'.out; omega
        case rel => exact ⟨n + 1, i + 1, by have := hin'.out; omega, by have := hlt'.out; omega, by omega, by rw [w64 (by have := hin'.out; have := hlt'.out; have := hb0.out; omega) (by have := hin'.out; have := hlt'.out; have := hb0.out; omega)], ⟨by rw [factL_succ, ← hx.out]; exact HO9.out⟩, HB9⟩
      · have e1 : wrap64 (i + a1) = i + a1 := w64 (by omega) (by omega)
        have e2 : IntKind.i64.wrap (i + a1) = i + a1 := (i64_w _).trans e1
        have c1 : decide (i + a1 ≤ (a0.size : Int)) = false := decide_eq_false (by omega)
        have c2 := of_decide_eq_false c1
        have hn2 : n = a0.size + 1 - a1.toNat := by omega
        have hR := Aside0.mk (fun v' h1 => xw_sorted v' (factL a0 a1.toNat n) w wr (by rw [factL_len]; omega) h1 HB.out)
        have hr2 : Aside0 (sortW (factL a0 a1.toNat n) = r) := ⟨by rw [hn2]; exact hr.out⟩
        clear b0 b1 b2 hin hlt hn2 hn hg
        go_wp2_with (go_at_call 95; refine (hR.out _ HO.out).mono ?_; rintro e w2 ⟨v', rfl, h1, h2⟩; have H3 := Aside0.mk h1; have H4 := Aside0.mk h2; clear h1 h2)
        go_ret
        exact ⟨_, rfl, by rw [← hr2.out]; exact H3.out, H4.out⟩
  · rw [if_neg hbig] at h; cases h


end Go.Proofs.Ytmihfmhfgjnfcaa.Q
