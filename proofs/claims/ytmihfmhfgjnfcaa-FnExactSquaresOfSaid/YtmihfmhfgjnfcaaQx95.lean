-- Made by this session's program hyb.py out of Lean's print of the program; Lean checks it.
import Derived.Test.YtmihfmhfgjnfcaaQx0
namespace Go.Proofs.Ytmihfmhfgjnfcaa.Q
open Go.RowKit Go.Proofs.YtmihfmhfgjnfcaaW.PrintWords Go.Proofs.YtmihfmhfgjnfcaaW.PrintLast Go.Proofs.YtmihfmhfgjnfcaaW.PrintMore
attribute [local go_sem] max2_int min2_int max_two min_two max_three min_three max_four min_four bn_leq bn_gtr bn_geq   -- for this text's walks alone
set_option linter.unusedVariables false
set_option linter.unusedSimpArgs false

/-! ### impl_sorted: function 95 (this session's own) -/
def xw_sort_ren : Go.Shelf.Ren := ⟨fun | 125 => 141 | 128 => 162 | 129 => 163 | 190 => 124 | 258 => 140 | 302 => 153 | 303 => 154 | 304 => 155 | 305 => 156 | 306 => 157 | 307 => 158 | 308 => 159 | 309 => 160 | 310 => 161 | 329 => 167 | 330 => 168 | 333 => 166 | 334 => 169 | 335 => 170 | 336 => 171 | 344 => 172 | n => n, fun | 0 => 0 | 3 => 3 | 4 => 4 | 5 => 5 | 9 => 9 | 31 => 42 | 46 => 103 | 51 => 125 | 53 => 118 | 131 => 147 | 182 => 142 | 183 => 143 | 218 => 153 | 222 => 157 | 228 => 159 | 229 => 160 | n => n, fun n => n⟩
theorem xw_sort_lays : Lays.n190 Try.prog xw_sort_ren := {
  mixed := by kernel_rfl
  f125 := Try.func141.trans (congrArg some (by kernel_rfl))
  f128 := Try.func162.trans (congrArg some (by kernel_rfl))
  f129 := Try.func163.trans (congrArg some (by kernel_rfl))
  f190 := Try.func124.trans (congrArg some (by kernel_rfl))
  f258 := Try.func140.trans (congrArg some (by kernel_rfl))
  f302 := Try.func153.trans (congrArg some (by kernel_rfl))
  f303 := Try.func154.trans (congrArg some (by kernel_rfl))
  f304 := Try.func155.trans (congrArg some (by kernel_rfl))
  f305 := Try.func156.trans (congrArg some (by kernel_rfl))
  f306 := Try.func157.trans (congrArg some (by kernel_rfl))
  f307 := Try.func158.trans (congrArg some (by kernel_rfl))
  f308 := Try.func159.trans (congrArg some (by kernel_rfl))
  f309 := Try.func160.trans (congrArg some (by kernel_rfl))
  f310 := Try.func161.trans (congrArg some (by kernel_rfl))
  f329 := Try.func167.trans (congrArg some (by kernel_rfl))
  f330 := Try.func168.trans (congrArg some (by kernel_rfl))
  f333 := Try.func166.trans (congrArg some (by kernel_rfl))
  f334 := Try.func169.trans (congrArg some (by kernel_rfl))
  f335 := Try.func170.trans (congrArg some (by kernel_rfl))
  f336 := Try.func171.trans (congrArg some (by kernel_rfl))
  f344 := Try.func172.trans (congrArg some (by kernel_rfl))
  t0 := Try.underlying0
  a0 := Try.isAgg0
  z0 := Try.sizeOf0
  v0 := Try.zeroValue0
  t3 := Try.underlying3
  a3 := Try.isAgg3
  z3 := Try.sizeOf3
  v3 := Try.zeroValue3
  t4 := Try.underlying4
  a4 := Try.isAgg4
  z4 := Try.sizeOf4
  v4 := Try.zeroValue4
  t5 := Try.underlying5
  a5 := Try.isAgg5
  z5 := Try.sizeOf5
  v5 := Try.zeroValue5
  t9 := Try.underlying9
  a9 := Try.isAgg9
  z9 := Try.sizeOf9
  v9 := Try.zeroValue9
  t31 := Try.underlying42
  a31 := Try.isAgg42
  z31 := Try.sizeOf42
  v31 := Try.zeroValue42
  t46 := Try.underlying103
  a46 := Try.isAgg103
  z46 := Try.sizeOf103
  v46 := Try.zeroValue103
  t51 := Try.underlying125
  a51 := Try.isAgg125
  z51 := Try.sizeOf125
  v51 := Try.zeroValue125
  t53 := Try.underlying118
  a53 := Try.isAgg118
  z53 := Try.sizeOf118
  v53 := Try.zeroValue118
  t131 := Try.underlying147
  a131 := Try.isAgg147
  z131 := Try.sizeOf147
  v131 := Try.zeroValue147
  t182 := Try.underlying142
  a182 := Try.isAgg142
  z182 := Try.sizeOf142
  v182 := Try.zeroValue142
  t183 := Try.underlying143
  a183 := Try.isAgg143
  z183 := Try.sizeOf143
  v183 := Try.zeroValue143
  t218 := Try.underlying153
  a218 := Try.isAgg153
  z218 := Try.sizeOf153
  v218 := Try.zeroValue153
  t222 := Try.underlying157
  a222 := Try.isAgg157
  z222 := Try.sizeOf157
  v222 := Try.zeroValue157
  t228 := Try.underlying159
  a228 := Try.isAgg159
  z228 := Try.sizeOf159
  v228 := Try.zeroValue159
  t229 := Try.underlying160
  a229 := Try.isAgg160
  z229 := Try.sizeOf160
  v229 := Try.zeroValue160 }
def xw_compact_ren : Go.Shelf.Ren := ⟨fun | 194 => 125 | n => n, fun | 0 => 0 | 3 => 3 | 4 => 4 | 9 => 9 | 31 => 42 | n => n, fun n => n⟩
theorem xw_compact_lays : Lays.n194 Try.prog xw_compact_ren := {
  mixed := by kernel_rfl
  f194 := Try.func125.trans (congrArg some (by kernel_rfl))
  t0 := Try.underlying0
  a0 := Try.isAgg0
  z0 := Try.sizeOf0
  v0 := Try.zeroValue0
  t3 := Try.underlying3
  a3 := Try.isAgg3
  z3 := Try.sizeOf3
  v3 := Try.zeroValue3
  t4 := Try.underlying4
  a4 := Try.isAgg4
  z4 := Try.sizeOf4
  v4 := Try.zeroValue4
  t9 := Try.underlying9
  a9 := Try.isAgg9
  z9 := Try.sizeOf9
  v9 := Try.zeroValue9
  t31 := Try.underlying42
  a31 := Try.isAgg42
  z31 := Try.sizeOf42
  v31 := Try.zeroValue42 }
def toW (x : List UInt8) : ByteArray := ⟨x.toArray⟩
def sortL (l : List ByteArray) : List ByteArray := ((l.map (·.data.toList)).mergeSort fun x y => decide (x ≤ y)).map toW
def compactL (l : List ByteArray) : List ByteArray := (Lib.compact (l.map (·.data.toList))).map toW
def sortW (l : List ByteArray) : List ByteArray := compactL (sortL l)
theorem encs_strs (l : List ByteArray) : (l.map (·.data.toList)).map Go.Proofs.encStr = encs Value.string l := Lib.map_encStr l
theorem encs_toW (l : List (List UInt8)) : l.map Go.Proofs.encStr = encs Value.string (l.map toW) := by
  unfold encs
  rw [List.map_map]; rfl
theorem below_grow (W : World) (os : Array Obj) : Below W.heap.size W (Go.Sort.grow W os) :=
  ⟨rfl, rfl, rfl, by show W.heap.size ≤ (W.heap ++ os).size; rw [Array.size_append]; omega, fun k hk => Go.Sort.heap_grow_old W os hk⟩
theorem compact_len {α : Type} [Inhabited α] [DecidableEq α] (l : List α) : (Lib.compact l).length ≤ l.length := by
  unfold Lib.compact Lib.compactUpTo
  rw [List.length_map]
  exact Nat.le_trans (List.length_filter_le _ _) (by simp)
theorem kept_put {enc : List UInt8 → Value} {w : World} {g q : Nat} {d : Array (List UInt8)} {P : Nat → Prop} (hP : P g) : Kept w (Go.Sort.putRow enc (Go.Sort.ahead w q) g 0 d) P := by
  refine ⟨by simp [Go.Sort.putRow, Go.Sort.mapBlock, Go.Sort.ahead], fun i hi hne => ?_⟩
  have : g ≠ i := fun e => hne (e ▸ hP)
  simp [Go.Sort.putRow, Go.Sort.mapBlock, Go.Sort.ahead, Array.getElem?_modify, this]
theorem kept_then {w W W2 : World} {P : Nat → Prop} (h : Kept w W P) (hb : Below W.heap.size W W2) : Kept w W2 P :=
  ⟨Nat.le_trans h.1 hb.size, fun i hi hne => (hb.block i (Nat.lt_of_lt_of_le hi h.1)).trans (h.2 i hi hne)⟩
theorem kept_trans {w W W2 : World} {P : Nat → Prop} (h : Kept w W P) (h2 : Kept W W2 P) : Kept w W2 P :=
  ⟨Nat.le_trans h.1 h2.1, fun i hi hne => (h2.2 i (Nat.lt_of_lt_of_le hi h.1) hne).trans (h.2 i hi hne)⟩
theorem xw_Sort (P0 : Nat → Prop) (v : Value) (l : List ByteArray) (w0 w : World) (hl : l.length ≤ 1000000) (ho : Kd.R Kd.string 9 w w0.heap.size P0 v l) (hB : Below w0.heap.size w0 w) :
    Calls Try.prog 124 #[v] w fun e w' => e = .returned (.tuple #[]) ∧ Kd.R Kd.string 9 w' w0.heap.size P0 v (sortL l) ∧ Below w0.heap.size w0 w' ∧ Kept w w' P0 := by
  by_cases hv : v = .slice none 0 0
  · subst hv
    have hl : l = [] := List.length_eq_zero_iff.mp (Kd.R_reads' ho).1.symm
    subst hl
    refine (Any.slices_Sort_string_none xw_sort_lays none 0 w).mono ?_
    rintro e w' ⟨rfl, rfl⟩
    refine ⟨rfl, ?_, hB, Kept.refl _ _⟩
    rw [show sortL [] = [] by simp [sortL]]
    exact ho
  · have hown := Kd.own_of_R ho
    obtain ⟨g, cap, rfl, hb, hlt, hn, hm, hl2, hH⟩ := Lib.holds_of_ownsRow (enc := Go.Proofs.encStr) (zs := l.map (·.data.toList)) (by rw [encs_strs]; exact hown) hv
    have hP : P0 g := ho.1 g (by simp [Value.ownBlock])
    have hc := Any.slices_Sort_string xw_sort_lays g 0 cap (l.map (·.data.toList)) w hH hlt (by rw [hl2]; omega)
    rw [hl2] at hc
    refine hc.mono ?_
    rintro e w' ⟨rfl, n, os, rfl⟩
    have hown2 : w.ownsRow w0.heap.size 9 1 (.slice (some ⟨g, 0, none⟩) l.length cap) l.length ((l.map (·.data.toList)).map Go.Proofs.encStr) := by rw [encs_strs]; exact hown
    have ho2 := Lib.ownsRow_putRow (q := n) (k := l.length) (ys := (l.map (·.data.toList)).mergeSort fun x y => decide (x ≤ y)) hown2 (by simp) (Nat.le_refl _)
    rw [List.take_of_length_le (by simp), encs_toW] at ho2
    have hR : Kd.R Kd.string 9 (Go.Sort.putRow Go.Proofs.encStr (Go.Sort.ahead w n) g 0 ((l.map (·.data.toList)).mergeSort fun x y => decide (x ≤ y)).toArray) w0.heap.size P0 (.slice (some ⟨g, 0, none⟩) l.length cap) (sortL l) := by
      refine Kd.R_of_own ?_ (fun k hk => ?_)
      · rw [show (sortL l).length = l.length by simp [sortL]]
        exact ho2
      · have : g = k := by simpa [Value.ownBlock] using hk
        subst this; exact hP
    have hB1 : Below w0.heap.size w0 (Go.Sort.putRow Go.Proofs.encStr (Go.Sort.ahead w n) g 0 ((l.map (·.data.toList)).mergeSort fun x y => decide (x ≤ y)).toArray) := Lib.below_putRow hB hb
    exact ⟨rfl, Kd.R_below hR (below_grow _ os), below_then hB1 hB1.size (below_grow _ os), kept_then (kept_put hP) (below_grow _ os)⟩
theorem xw_Compact (P0 : Nat → Prop) (v : Value) (l : List ByteArray) (w0 w : World) (hl : l.length ≤ 1000000) (ho : Kd.R Kd.string 9 w w0.heap.size P0 v l) (hB : Below w0.heap.size w0 w) :
    Calls Try.prog 125 #[v] w fun e w' => ∃ v' : Value, e = .returned v' ∧ Kd.R Kd.string 9 w' w0.heap.size P0 v' (compactL l) ∧ Below w0.heap.size w0 w' ∧ Kept w w' P0 := by
  by_cases hv : v = .slice none 0 0
  · subst hv
    have hl : l = [] := List.length_eq_zero_iff.mp (Kd.R_reads' ho).1.symm
    subst hl
    refine (Any.slices_Compact_string_empty xw_compact_lays none 0 w).mono ?_
    rintro e w' ⟨rfl, rfl⟩
    refine ⟨_, rfl, ?_, hB, Kept.refl _ _⟩
    rw [show compactL [] = [] from rfl]
    exact ho
  · have hown := Kd.own_of_R ho
    obtain ⟨g, cap, rfl, hb, hlt, hn, hm, hl2, hH⟩ := Lib.holds_of_ownsRow (enc := Go.Proofs.encStr) (zs := l.map (·.data.toList)) (by rw [encs_strs]; exact hown) hv
    have hP : P0 g := ho.1 g (by simp [Value.ownBlock])
    have hc := Any.slices_Compact_string xw_compact_lays g 0 cap (l.map (·.data.toList)) w hH (by rw [hl2]; omega) (by rw [hl2]; omega)
    rw [hl2] at hc
    refine hc.mono ?_
    rintro e w' ⟨rfl, n, rfl⟩
    have hown2 : w.ownsRow w0.heap.size 9 1 (.slice (some ⟨g, 0, none⟩) l.length cap) l.length ((l.map (·.data.toList)).map Go.Proofs.encStr) := by rw [encs_strs]; exact hown
    have hcl := compact_len (l.map (·.data.toList))
    rw [hl2] at hcl
    have ho2 := Lib.ownsRow_putRow (q := n) (k := (Lib.compact (l.map (·.data.toList))).length) (ys := Lib.compact (l.map (·.data.toList)) ++ List.replicate (l.length - (Lib.compact (l.map (·.data.toList))).length) []) hown2 (by simp; omega) hcl
    rw [List.take_left, encs_toW] at ho2
    refine ⟨_, rfl, ?_, Lib.below_putRow hB hb, kept_put hP⟩
    refine Kd.R_of_own ?_ (fun k hk => ?_)
    · rw [show (compactL l).length = (Lib.compact (l.map (·.data.toList))).length by simp [compactL]]
      exact ho2
    · have : g = k := by simpa [Value.ownBlock] using hk
      subst this; exact hP
theorem sortL_len (l : List ByteArray) : (sortL l).length = l.length := by simp [sortL]
theorem sortW_len (l : List ByteArray) : (sortW l).length ≤ l.length := by
  unfold sortW compactL
  rw [List.length_map]
  refine Nat.le_trans (compact_len _) ?_
  rw [List.length_map, sortL_len]; exact Nat.le_refl _
def impl_sorted.f (l0 : List ByteArray) : Option (List ByteArray) := if l0.length ≤ 1000000 then some (sortW l0) else none
set_option maxHeartbeats 2000000 in
theorem impl_sorted.calls (P0_ : Nat → Prop) (u9000_ : Value) (l0 : List ByteArray) (r : List ByteArray) (w0 w : World) (hB : Below w0.heap.size w0 w) (ho0 : Kd.R Kd.string 9 w w0.heap.size P0_ u9000_ l0) (h : impl_sorted.f l0 = some r) :
    Calls Try.prog 95 #[u9000_] w fun e w' => ∃ v0_ : Value, e = .returned v0_ ∧ Kd.R Kd.string 9 w' w0.heap.size (fun k_ => (P0_ k_ ∨ w.heap.size ≤ k_)) v0_ r ∧ Below w0.heap.size w0 w' ∧ Kept w w' (fun k_ => P0_ k_) := by
  unfold impl_sorted.f at h
  by_cases hl : l0.length ≤ 1000000
  · rw [if_pos hl] at h
    obtain rfl := Option.some.inj h
    have hS := xw_Sort P0_ u9000_ l0 w0 w hl ho0 hB
    have hC := Aside0.mk (fun W h1 h2 => xw_Compact P0_ u9000_ (sortL l0) w0 W (by rw [sortL_len]; exact hl) h1 h2)
    clear hl ho0 hB h
    go_enter Try.func95, Try.ntmps95
    go_wp2_with (first | (go_at_call 124; refine hS.mono ?_; rintro e w1 ⟨rfl, h1, h2, h3⟩; have H1 := Aside0.mk h1; have H2 := Aside0.mk h2; have K1 := Aside0.mk h3; clear h1 h2 h3) | (go_at_call 125; refine (hC.out _ H1.out H2.out).mono ?_; rintro e w2 ⟨v', rfl, h1, h2, h3⟩; have H3 := Aside0.mk h1; have H4 := Aside0.mk h2; have K2 := Aside0.mk h3; clear h1 h2 h3))
    go_ret
    exact ⟨_, rfl, Kd.R_mono H3.out (fun _ hk => .inl hk), H4.out, kept_trans K1.out K2.out⟩
  · rw [if_neg hl] at h; cases h


end Go.Proofs.Ytmihfmhfgjnfcaa.Q
