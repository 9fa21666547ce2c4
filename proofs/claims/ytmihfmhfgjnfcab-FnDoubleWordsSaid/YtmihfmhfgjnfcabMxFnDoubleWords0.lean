-- Printed texts of this session, joined by merge.py.
import Derived.Test.YtmihfmhfgjnfcabQx0
import Derived.Maps.OwnSet
import Derived.Maps.OwnOps
namespace Go.Proofs.Ytmihfmhfgjnfcab.Q
open Go.RowKit Go.Proofs.YtmihfmhfgjnfcabW.PrintWords Go.Proofs.YtmihfmhfgjnfcabW.PrintLast Go.Proofs.YtmihfmhfgjnfcabW.PrintMore
attribute [local go_sem] max2_int min2_int max_two min_two max_three min_three max_four min_four bn_leq bn_gtr bn_geq   -- for this text's walks alone
set_option linter.unusedVariables false
set_option linter.unusedSimpArgs false

/-! ### laws_big: function 6 -/
def laws_big.f (l0 : List Int) : Option (Bool) := some (decide ((l0.length : Int) > 4096))
set_option maxHeartbeats 8000000 in
set_option maxRecDepth 100000 in
theorem laws_big.calls (A0 : Option Addr) (c0 : Nat) (l0 : List Int) (r : Bool) (w : World) (hr0 : Kd.C (Kd.int .u8) w A0 l0.length l0) (hc0 : l0.length ≤ c0) (h : laws_big.f l0 = some r) :
  Calls Try.prog 6 #[.slice A0 l0.length c0] w fun e w' => e = .returned (.bool r) ∧ Drawn0 w w' := by
 have HR0 := Aside0.mk hr0
 have HC0 := Aside0.mk hc0
 clear hr0 hc0
 have H : (some (decide ((l0.length : Int) > 4096))) = some r := h
 clear h
 obtain rfl := Option.some.inj H
 go_enter Try.func6, Try.ntmps6
 go_wp2
 go_ret
 exact ⟨by first | rfl | (simp; done) | (simp [*]; done), by repeat (first | exact Drawn0.refl _ | apply Drawn0.step)⟩

end Go.Proofs.Ytmihfmhfgjnfcab.Q

namespace Go.Proofs.Ytmihfmhfgjnfcab.Q
open Go.RowKit Go.Proofs.YtmihfmhfgjnfcabW.PrintWords Go.Proofs.YtmihfmhfgjnfcabW.PrintLast Go.Proofs.YtmihfmhfgjnfcabW.PrintMore
attribute [local go_sem] max2_int min2_int max_two min_two max_three min_three max_four min_four bn_leq bn_gtr bn_geq   -- for this text's walks alone
set_option linter.unusedVariables false
set_option linter.unusedSimpArgs false

/-! ### impl_IsWord: function 117 (this session's own) -/
/-! ### small facts of this session on the program -/
theorem xw_mkf (fn : Fn) (first cap : Array Value) (w : World) : (Instr.makeFunc fn first cap).run Try.prog w = .ok (.func fn first cap) w := rfl
theorem xw_C_bytes (w : World) (s : ByteArray) (hs : s.size ≤ 9223372036854775807) : Kd.C (Kd.int .u8) (Lib.bytesWorld w 5 s) (some ⟨w.heap.size, 0, none⟩) s.size (bytesOf s) := by
 refine Kd.C_of_reads (d := (0 : Int)) (h1 := fun _ => rfl) ⟨by simp [bytesOf], hs, fun _ => ⟨_, rfl, fun j hj => ?_⟩⟩
 rw [add_plain, Lib.bytesWorld_cell w _ s j hj]
 simp [bytesOf, List.getD_eq_getElem?_getD, hj]
theorem xw_below_bytes (w : World) (s : ByteArray) : Below w.heap.size w (Lib.bytesWorld w 5 s) :=
 ⟨rfl, rfl, rfl, by rw [Lib.bytesWorld_size]; omega, fun k hk => Lib.bytesWorld_at_old w _ s k hk⟩
theorem xw_conv (s : ByteArray) (w : World) : (convert 9 22 (.string s)).run Try.prog w = .ok (.slice (some ⟨w.heap.size, 0, none⟩) s.size (grownCap w s.size 0 5)) (Lib.bytesWorld w 5 s) :=
 Lib.run_convert_string_bytes w 9 22 5 s Try.underlying9 Try.underlying22 Try.underlying5
theorem xw_cap_le (w : World) (n : Nat) : n ≤ grownCap w n 0 5 := grownCap_ge w n 0 5
theorem xw_C_one (W : World) (b : Nat) (s : ByteArray) (h : W.cell? ⟨b, 0, none⟩ = some (.string s)) : Kd.C Kd.string W (some ⟨b, 0, none⟩) [s].length [s] := by
 refine Kd.C_of_reads (d := ByteArray.empty) (h1 := fun _ => rfl) ⟨rfl, by simp, fun _ => ⟨_, rfl, fun j hj => ?_⟩⟩
 obtain rfl : j = 0 := by simpa using hj
 rw [add_plain, h]
 rfl
theorem xw_C_two (W : World) (b : Nat) (s u : ByteArray) (h : W.cell? ⟨b, 0, none⟩ = some (.string s)) (h' : W.cell? ⟨b, 1, none⟩ = some (.string u)) : Kd.C Kd.string W (some ⟨b, 0, none⟩) [s, u].length [s, u] := by
 refine Kd.C_of_reads (d := ByteArray.empty) (h1 := fun _ => rfl) ⟨rfl, by simp, fun _ => ⟨_, rfl, fun j hj => ?_⟩⟩
 have hj2 : j = 0 ∨ j = 1 := by simp at hj; omega
 rcases hj2 with rfl | rfl
 ·rw [add_plain, h]; rfl
 ·rw [add_plain, h']; rfl
theorem xw_cell_bytes (w : World) (s : ByteArray) (k : Nat) (hk : k < s.size) : (Lib.bytesWorld w 5 s).cell? ⟨w.heap.size, k, none⟩ = some (.int .u8 (bt s k)) := by
 rw [Lib.bytesWorld_cell w _ s k hk]
 unfold bt
 rw [dif_pos (by simpa using hk)]
 simp [List.getD_eq_getElem?_getD, hk]
 rfl

set_option maxHeartbeats 2000000 in
/-- slices.IndexFunc over bytes, for whatever predicate (it may make memory of its own). -/
theorem xw_IndexFunc_byte (p : Int → Bool) (g : Nat) (lb : Array Value) (eg : ∀ args w, (callFunc g args).run Try.prog w = .ok (.enter g args) w) (A : Option Addr) (c : Nat) (l : List Int) (w : World)
  (hr : Kd.C (Kd.int .u8) w A l.length l) (hc : l.length ≤ c)
  (hp : ∀ (W : World) (x : Int), x ∈ l → Below w.heap.size w W → Calls Try.prog g (#[.int .u8 x] ++ lb) W fun e w' => e = .returned (.bool (p x)) ∧ Below W.heap.size W w') :
  Calls Try.prog 157 #[.slice A l.length c, .func (.func g) #[] lb] w fun e w' => e = .returned (.int .i64 (idxL p l)) ∧ Below w.heap.size w w' := by
 have hbig : l.length ≤ 9223372036854775807 := hr.2.1
 have hreads : Aside0 (∀ W, Below w.heap.size w W → ∀ j, j < l.length → ∃ ad, A = some ad ∧ W.cell? (ad.add j) = some (.int .u8 (rd l j))) := ⟨fun W hW j hj => by
  obtain ⟨ad, e, hcl⟩ := Kd.at_int (Kd.C_below hr hW) (j : Int) (by omega) (by omega)
  exact ⟨ad, e, by simpa using hcl⟩⟩
 have hp' := Aside0.mk hp
 clear hp hr
 go_enter Try.func157, Try.ntmps157
 go_wp2
 go_loopg [5, 8] l.length (fun gg _ s8 wr => ∃ kk : Nat, kk ≤ l.length ∧ l.length - kk ≤ gg ∧ s8 = .int .i64 kk ∧ Aside0 (Below w.heap.size w wr) ∧ Aside0 (∀ j, j < kk → p (rd l j) = false))
 case atStart => exact ⟨0, Nat.zero_le _, by omega, rfl, ⟨Below.refl _ w⟩, ⟨fun j hj => absurd hj (Nat.not_lt_zero _)⟩⟩
 case round =>
  obtain ⟨kk, hkk, hg, rfl, BW, A0⟩ := hrel
  by_cases hlt : kk < l.length
  ·have hltz : (kk : Int) < (l.length : Int) := by omega
   obtain ⟨ad, rfl, hcell⟩ := hreads.out wr BW.out kk hlt
   have hmem : rd l kk ∈ l := by simp [rd, List.getD_eq_getElem?_getD, hlt]
   have hcall := hp'.out wr (rd l kk) hmem BW.out
   have hb' := Aside0.mk (show True from trivial)
   cases hq : p (rd l kk) with
   | true =>
    rw [hq] at hcall
    have hq' := Aside0.mk hq
    clear hq
    go_wp2_with (go_at_fn g; refine hcall.mono ?_; rintro e w' ⟨rfl, hb'⟩)
    go_ret
    refine ⟨?_, below_then BW.out BW.out.size hb'⟩
    rw [idxL_hit p l 0 kk hlt hq'.out A0.out]; rfl
   | false =>
    rw [hq] at hcall
    have hq' := Aside0.mk hq
    clear hq
    go_wp2_with (go_at_fn g; refine hcall.mono ?_; rintro e w' ⟨rfl, hb'⟩)
    go_roundg (l.length - (kk + 1))
    case measure => omega
    case rel =>
     refine ⟨kk + 1, by omega, by omega, by go_num, ⟨below_then BW.out BW.out.size hb'⟩, ⟨fun j hj => ?_⟩⟩
     by_cases e : j = kk
     ·subst e; exact hq'.out
     ·exact A0.out j (by omega)
  ·have hltz : ¬ (kk : Int) < (l.length : Int) := by omega
   have : kk = l.length := by omega
   subst this
   go_wp2
   go_ret
   refine ⟨?_, BW.out⟩
   rw [idxL_miss p l 0 A0.out]; rfl

set_option maxHeartbeats 2000000 in
theorem xw_ContainsFunc_byte (p : Int → Bool) (g : Nat) (lb : Array Value) (eg : ∀ args w, (callFunc g args).run Try.prog w = .ok (.enter g args) w) (A : Option Addr) (c : Nat) (l : List Int) (w : World)
  (hr : Kd.C (Kd.int .u8) w A l.length l) (hc : l.length ≤ c)
  (hp : ∀ (W : World) (x : Int), x ∈ l → Below w.heap.size w W → Calls Try.prog g (#[.int .u8 x] ++ lb) W fun e w' => e = .returned (.bool (p x)) ∧ Below W.heap.size W w') :
  Calls Try.prog 153 #[.slice A l.length c, .func (.func g) #[] lb] w fun e w' => e = .returned (.bool (l.any p)) ∧ Below w.heap.size w w' := by
 rw [← idxL_any]
 have hC := xw_IndexFunc_byte p g lb eg A c l w hr hc hp
 clear hp hr
 go_enter Try.func153, Try.ntmps153
 go_wp2_with (go_at_call 157; refine hC.mono ?_; rintro e w' ⟨rfl, hb⟩)
 go_ret
 exact ⟨rfl, hb⟩


set_option maxHeartbeats 2000000 in
/-- areAll over bytes, for whatever predicate that captures nothing. -/
theorem xw_areAll_byte (p : Int → Bool) (G : Nat) (eG : ∀ args w, (callFunc G args).run Try.prog w = .ok (.enter G args) w) (A : Option Addr) (c : Nat) (l : List Int) (w : World)
  (hr : Kd.C (Kd.int .u8) w A l.length l) (hc : l.length ≤ c)
  (hp : ∀ (W : World) (x : Int), x ∈ l → Below w.heap.size w W → Calls Try.prog G #[.int .u8 x] W fun e w' => e = .returned (.bool (p x)) ∧ Below W.heap.size W w') :
  Calls Try.prog 141 #[.slice A l.length c, .func (.func G) #[] #[]] w fun e w' => e = .returned (.bool (l.all p)) ∧ Below w.heap.size w w' := by
 have hC : Aside0 (∀ (W : World), Below w.heap.size w W → w.heap.size < W.heap.size → W.cell? ⟨w.heap.size, 0, none⟩ = some (.func (.func G) #[] #[]) →
   Calls Try.prog 153 #[.slice A l.length c, .func (.func 154) #[] #[.pointer (some ⟨w.heap.size, 0, none⟩)]] W fun e w' => e = .returned (.bool (l.any fun x => !p x)) ∧ Below W.heap.size W w') := ⟨fun W hW hlt hcell => by
  refine xw_ContainsFunc_byte (fun x => !p x) 154 _ (enters_of Try.func154 (by kernel_rfl) rfl) A c l W (Kd.C_below hr hW) hc (fun W2 x hx h2 => ?_)
  have h02 : Below w.heap.size w W2 := hW.trans (h2.mono (Nat.le_of_lt hlt))
  have hcell2 : W2.cell? ⟨w.heap.size, 0, none⟩ = some (.func (.func G) #[] #[]) := (h2.cell (p := ⟨w.heap.size, 0, none⟩) hlt).trans hcell
  have hcall := hp W2 x hx h02
  have h2' := Aside0.mk h2
  clear hr hp hcell h2 h02 hW
  go_enter Try.func154, Try.ntmps154
  go_wp2_with (go_at_fn G; refine hcall.mono ?_; rintro e w' ⟨rfl, hb⟩)
  go_ret
  exact ⟨rfl, hb⟩⟩
 clear hp hr
 rw [← not_any_not]
 go_enter Try.func141, Try.ntmps141
 have hmk := xw_mkf
 go_wp2_with (go_at_call 153; refine (hC.out _ ((Below.refl _ _).alloc (Nat.le_refl _) _) (by simp) (by simp)).mono ?_; rintro e w' ⟨rfl, hb⟩)
 go_ret
 exact ⟨rfl, ((Below.refl _ w).alloc (Nat.le_refl _) _).trans (hb.mono (by simp))⟩

theorem xw_IsWord1 (x : Int) (w : World) : Calls Try.prog 142 #[.int .u8 x] w fun e w' => e = .returned (.bool (okB x)) ∧ Below w.heap.size w w' := by
 have hb : Aside0 (okB x = (decide (97 ≤ x) && decide (x < 102))) := ⟨rfl⟩
 by_cases h1 : 97 ≤ x
 ·by_cases h2 : x < 102
  all_goals
   go_enter Try.func142, Try.ntmps142
   go_wp2
   go_ret
   exact ⟨by rw [hb.out]; simp [h1, h2], Below.refl _ _⟩
 ·go_enter Try.func142, Try.ntmps142
  go_wp2
  go_ret
  exact ⟨by rw [hb.out, decide_eq_false (show ¬ 97 ≤ x by omega)]; rfl, Below.refl _ _⟩
def impl_IsWord.f (a0 : ByteArray) : Option Bool := some (isW a0)
set_option maxHeartbeats 2000000 in
theorem impl_IsWord.calls (a0 : ByteArray) (r : Bool) (w : World) (h : impl_IsWord.f a0 = some r) :
  Calls Try.prog 117 #[.string a0] w fun e w' => e = .returned (.bool r) ∧ Below w.heap.size w w' := by
 have hr : Aside0 (r = isW a0) := ⟨(Option.some.inj h).symm⟩
 clear h
 by_cases hs : a0.size ≤ 60
 ·have hC : Aside0 (Calls Try.prog 141 #[.slice (some ⟨w.heap.size, 0, none⟩) a0.size (grownCap w a0.size 0 5), .func (.func 142) #[] #[]] (Lib.bytesWorld w 5 a0) fun e w' => e = .returned (.bool ((bytesOf a0).all okB)) ∧ Below (Lib.bytesWorld w 5 a0).heap.size (Lib.bytesWorld w 5 a0) w') := by
   have e : a0.size = (bytesOf a0).length := by simp [bytesOf]
   have hc : (bytesOf a0).length ≤ grownCap w a0.size 0 5 := by rw [← e]; exact xw_cap_le w a0.size
   have hk := xw_C_bytes w a0 (by omega)
   rw [e] at hk
   refine ⟨?_⟩
   rw [show (Value.slice (some ⟨w.heap.size, 0, none⟩) a0.size (grownCap w a0.size 0 5)) = Value.slice (some ⟨w.heap.size, 0, none⟩) (bytesOf a0).length (grownCap w a0.size 0 5) by rw [e]]
   exact xw_areAll_byte okB 142 (enters_of Try.func142 (by kernel_rfl) rfl) _ _ _ _ hk hc (fun W x _ _ => xw_IsWord1 x W)
  have hcv := xw_conv a0 w
  have hB := Aside0.mk (xw_below_bytes w a0)
  generalize Lib.bytesWorld w 5 a0 = W1 at *
  have hs1 : decide ((a0.size : Int) ≤ 60) = true := by simp; omega
  go_enter Try.func117, Try.ntmps117
  go_wp2_with (go_at_call 141; refine hC.out.mono ?_; rintro e w' ⟨rfl, hb⟩)
  go_ret
  exact ⟨by rw [hr.out]; unfold isW; simp [hs], below_then hB.out hB.out.size hb⟩
 ·have hs1 : decide ((a0.size : Int) ≤ 60) = false := by simp; omega
  go_enter Try.func117, Try.ntmps117
  go_wp2
  go_ret
  exact ⟨by rw [hr.out]; unfold isW; simp [hs], Below.refl _ _⟩


end Go.Proofs.Ytmihfmhfgjnfcab.Q

namespace Go.Proofs.Ytmihfmhfgjnfcab.Q
open Go.RowKit Go.Proofs.YtmihfmhfgjnfcabW.PrintWords Go.Proofs.YtmihfmhfgjnfcabW.PrintLast Go.Proofs.YtmihfmhfgjnfcabW.PrintMore
attribute [local go_sem] max2_int min2_int max_two min_two max_three min_three max_four min_four bn_leq bn_gtr bn_geq   -- for this text's walks alone
set_option linter.unusedVariables false
set_option linter.unusedSimpArgs false

/-! ### impl_wordCode: function 69 (this session's own) -/
set_option maxHeartbeats 2000000 in
/-- slices.IndexFunc over strings, for whatever predicate (it may make memory of its own). -/
theorem xw_IndexFunc_str (p : ByteArray → Bool) (g : Nat) (lb : Array Value) (eg : ∀ args w, (callFunc g args).run Try.prog w = .ok (.enter g args) w) (A : Option Addr) (c : Nat) (l : List ByteArray) (w : World)
  (hr : Kd.C Kd.string w A l.length l) (hc : l.length ≤ c)
  (hp : ∀ (W : World) (x : ByteArray), x ∈ l → Below w.heap.size w W → Calls Try.prog g (#[.string x] ++ lb) W fun e w' => e = .returned (.bool (p x)) ∧ Below W.heap.size W w') :
  Calls Try.prog 152 #[.slice A l.length c, .func (.func g) #[] lb] w fun e w' => e = .returned (.int .i64 (idxL p l)) ∧ Below w.heap.size w w' := by
 have hbig : l.length ≤ 9223372036854775807 := hr.2.1
 have hreads : Aside0 (∀ W, Below w.heap.size w W → ∀ j, j < l.length → ∃ ad, A = some ad ∧ W.cell? (ad.add j) = some (.string (rdOf ByteArray.empty l j))) := ⟨fun W hW j hj => by
  obtain ⟨ad, e, hcl⟩ := Kd.at_string (Kd.C_below hr hW) (j : Int) (by omega) (by omega)
  exact ⟨ad, e, by simpa using hcl⟩⟩
 have hp' := Aside0.mk hp
 clear hp hr
 go_enter Try.func152, Try.ntmps152
 go_wp2
 go_loopg [5, 8] l.length (fun gg _ s8 wr => ∃ kk : Nat, kk ≤ l.length ∧ l.length - kk ≤ gg ∧ s8 = .int .i64 kk ∧ Aside0 (Below w.heap.size w wr) ∧ Aside0 (∀ j, j < kk → p (rdOf ByteArray.empty l j) = false))
 case atStart => exact ⟨0, Nat.zero_le _, by omega, rfl, ⟨Below.refl _ w⟩, ⟨fun j hj => absurd hj (Nat.not_lt_zero _)⟩⟩
 case round =>
  obtain ⟨kk, hkk, hg, rfl, BW, A0⟩ := hrel
  by_cases hlt : kk < l.length
  ·have hltz : (kk : Int) < (l.length : Int) := by omega
   obtain ⟨ad, rfl, hcell⟩ := hreads.out wr BW.out kk hlt
   have hmem : rdOf ByteArray.empty l kk ∈ l := by simp [rdOf, List.getD_eq_getElem?_getD, hlt]
   have hcall := hp'.out wr (rdOf ByteArray.empty l kk) hmem BW.out
   have hb' := Aside0.mk (show True from trivial)
   cases hq : p (rdOf ByteArray.empty l kk) with
   | true =>
    rw [hq] at hcall
    have hq' := Aside0.mk hq
    clear hq
    go_wp2_with (go_at_fn g; refine hcall.mono ?_; rintro e w' ⟨rfl, hb'⟩)
    go_ret
    refine ⟨?_, below_then BW.out BW.out.size hb'⟩
    rw [idxL_hit p l ByteArray.empty kk hlt hq'.out A0.out]; rfl
   | false =>
    rw [hq] at hcall
    have hq' := Aside0.mk hq
    clear hq
    go_wp2_with (go_at_fn g; refine hcall.mono ?_; rintro e w' ⟨rfl, hb'⟩)
    go_roundg (l.length - (kk + 1))
    case measure => omega
    case rel =>
     refine ⟨kk + 1, by omega, by omega, by go_num, ⟨below_then BW.out BW.out.size hb'⟩, ⟨fun j hj => ?_⟩⟩
     by_cases e : j = kk
     ·subst e; exact hq'.out
     ·exact A0.out j (by omega)
  ·have hltz : ¬ (kk : Int) < (l.length : Int) := by omega
   have : kk = l.length := by omega
   subst this
   go_wp2
   go_ret
   refine ⟨?_, BW.out⟩
   rw [idxL_miss p l ByteArray.empty A0.out]; rfl

set_option maxHeartbeats 2000000 in
theorem xw_ContainsFunc_str (p : ByteArray → Bool) (g : Nat) (lb : Array Value) (eg : ∀ args w, (callFunc g args).run Try.prog w = .ok (.enter g args) w) (A : Option Addr) (c : Nat) (l : List ByteArray) (w : World)
  (hr : Kd.C Kd.string w A l.length l) (hc : l.length ≤ c)
  (hp : ∀ (W : World) (x : ByteArray), x ∈ l → Below w.heap.size w W → Calls Try.prog g (#[.string x] ++ lb) W fun e w' => e = .returned (.bool (p x)) ∧ Below W.heap.size W w') :
  Calls Try.prog 139 #[.slice A l.length c, .func (.func g) #[] lb] w fun e w' => e = .returned (.bool (l.any p)) ∧ Below w.heap.size w w' := by
 rw [← idxL_any]
 have hC := xw_IndexFunc_str p g lb eg A c l w hr hc hp
 clear hp hr
 go_enter Try.func139, Try.ntmps139
 go_wp2_with (go_at_call 152; refine hC.mono ?_; rintro e w' ⟨rfl, hb⟩)
 go_ret
 exact ⟨rfl, hb⟩


set_option maxHeartbeats 2000000 in
/-- areAll over strings, for whatever predicate that captures nothing. -/
theorem xw_areAll_str (p : ByteArray → Bool) (G : Nat) (eG : ∀ args w, (callFunc G args).run Try.prog w = .ok (.enter G args) w) (A : Option Addr) (c : Nat) (l : List ByteArray) (w : World)
  (hr : Kd.C Kd.string w A l.length l) (hc : l.length ≤ c)
  (hp : ∀ (W : World) (x : ByteArray), x ∈ l → Below w.heap.size w W → Calls Try.prog G #[.string x] W fun e w' => e = .returned (.bool (p x)) ∧ Below W.heap.size W w') :
  Calls Try.prog 116 #[.slice A l.length c, .func (.func G) #[] #[]] w fun e w' => e = .returned (.bool (l.all p)) ∧ Below w.heap.size w w' := by
 have hC : Aside0 (∀ (W : World), Below w.heap.size w W → w.heap.size < W.heap.size → W.cell? ⟨w.heap.size, 0, none⟩ = some (.func (.func G) #[] #[]) →
   Calls Try.prog 139 #[.slice A l.length c, .func (.func 140) #[] #[.pointer (some ⟨w.heap.size, 0, none⟩)]] W fun e w' => e = .returned (.bool (l.any fun x => !p x)) ∧ Below W.heap.size W w') := ⟨fun W hW hlt hcell => by
  refine xw_ContainsFunc_str (fun x => !p x) 140 _ (enters_of Try.func140 (by kernel_rfl) rfl) A c l W (Kd.C_below hr hW) hc (fun W2 x hx h2 => ?_)
  have h02 : Below w.heap.size w W2 := hW.trans (h2.mono (Nat.le_of_lt hlt))
  have hcell2 : W2.cell? ⟨w.heap.size, 0, none⟩ = some (.func (.func G) #[] #[]) := (h2.cell (p := ⟨w.heap.size, 0, none⟩) hlt).trans hcell
  have hcall := hp W2 x hx h02
  have h2' := Aside0.mk h2
  clear hr hp hcell h2 h02 hW
  go_enter Try.func140, Try.ntmps140
  go_wp2_with (go_at_fn G; refine hcall.mono ?_; rintro e w' ⟨rfl, hb⟩)
  go_ret
  exact ⟨rfl, hb⟩⟩
 clear hp hr
 rw [← not_any_not]
 go_enter Try.func116, Try.ntmps116
 have hmk := xw_mkf
 go_wp2_with (go_at_call 139; refine (hC.out _ ((Below.refl _ _).alloc (Nat.le_refl _) _) (by simp) (by simp)).mono ?_; rintro e w' ⟨rfl, hb⟩)
 go_ret
 exact ⟨rfl, ((Below.refl _ w).alloc (Nat.le_refl _) _).trans (hb.mono (by simp))⟩

set_option maxHeartbeats 2000000 in
/-- wordCode, whatever the range is (it may have captured variables). -/
theorem xw_wordCode (b : Bool) (g : Nat) (lb : Array Value) (eg : ∀ args w, (callFunc g args).run Try.prog w = .ok (.enter g args) w) (A : Option Addr) (c : Nat) (l : List ByteArray) (w : World)
  (hr : Kd.C Kd.string w A l.length l) (hc : l.length ≤ c)
  (hp : ∀ (W : World), Below w.heap.size w W → Calls Try.prog g lb W fun e w' => e = .returned (.bool b) ∧ Below W.heap.size W w') :
  Calls Try.prog 69 #[.func (.func g) #[] lb, .slice A l.length c] w fun e w' => e = .returned (.int .i64 (if l.all isW then (if b then 0 else 2) else 1)) ∧ Below w.heap.size w w' := by
 have hC := xw_areAll_str isW 117 (enters_of Try.func117 (by kernel_rfl) rfl) A c l w hr hc (fun W x _ _ => impl_IsWord.calls x (isW x) W rfl)
 have hp' := Aside0.mk hp
 clear hp hr
 cases ha : l.all isW with
 | false =>
  rw [ha] at hC
  clear ha
  go_enter Try.func69, Try.ntmps69
  go_wp2_with (go_at_call 116; refine hC.mono ?_; rintro e w' ⟨rfl, hb⟩)
  go_ret
  exact ⟨rfl, hb⟩
 | true =>
  rw [ha] at hC
  clear ha
  cases b with
  | true =>
   go_enter Try.func69, Try.ntmps69
   go_wp2_with (first | (go_at_call 116; refine hC.mono ?_; rintro e w1 ⟨rfl, hb⟩; have hb1 := Aside0.mk hb; have hq := hp'.out _ hb; clear hb) | (go_at_fn g; refine hq.mono ?_; rintro e w2 ⟨rfl, hb2⟩))
   go_ret
   exact ⟨rfl, below_then hb1.out hb1.out.size hb2⟩
  | false =>
   go_enter Try.func69, Try.ntmps69
   go_wp2_with (first | (go_at_call 116; refine hC.mono ?_; rintro e w1 ⟨rfl, hb⟩; have hb1 := Aside0.mk hb; have hq := hp'.out _ hb; clear hb) | (go_at_fn g; refine hq.mono ?_; rintro e w2 ⟨rfl, hb2⟩))
   go_ret
   exact ⟨rfl, below_then hb1.out hb1.out.size hb2⟩
/-- wordCode where the range is 'always'. -/
def impl_wordCode.f (_ : Unit) (l1 : List ByteArray) : Option Int := some (if l1.all isW then 0 else 1)
theorem impl_wordCode.calls (u : Unit) (A1 : Option Addr) (c1 : Nat) (l1 : List ByteArray) (r : Int) (w : World) (hr1 : Kd.C Kd.string w A1 l1.length l1) (hc1 : l1.length ≤ c1) (h : impl_wordCode.f u l1 = some r) :
  Calls Try.prog 69 #[.func (.func 70) #[] #[], .slice A1 l1.length c1] w fun e w' => e = .returned (.int .i64 r) ∧ Below w.heap.size w w' := by
 obtain rfl := Option.some.inj h
 exact xw_wordCode true 70 #[] (enters_of Try.func70 (by kernel_rfl) rfl) A1 c1 l1 w hr1 hc1 fun W _ => by
  go_enter Try.func70, Try.ntmps70
  go_wp2
  go_ret
  exact ⟨rfl, Below.refl _ _⟩


end Go.Proofs.Ytmihfmhfgjnfcab.Q

namespace Go.Proofs.Ytmihfmhfgjnfcab.Q
open Go.RowKit Go.Proofs.YtmihfmhfgjnfcabW.PrintWords Go.Proofs.YtmihfmhfgjnfcabW.PrintLast Go.Proofs.YtmihfmhfgjnfcabW.PrintMore
attribute [local go_sem] max2_int min2_int max_two min_two max_three min_three max_four min_four bn_leq bn_gtr bn_geq   -- for this text's walks alone
set_option linter.unusedVariables false
set_option linter.unusedSimpArgs false

/-! ### impl_leastTurned: function 78 -/
def impl_leastTurned.l0 : Nat → ByteArray → ByteArray → Int → Int → Int → Option (ByteArray × Int)
 | 0, _, _, _, _, _ => none
 | k + 1, x0, x4, x5, x10, x11 => if x11 < x10 then (if 0 ≤ x11 then (if x11 ≤ (x0.size : Int) then (if (x0.extract (x11 : Int).toNat x0.size).size + (x0.extract 0 (x11 : Int).toNat).size ≤ 9223372036854775807 then (if (Op.bytesLess (((x0.extract (x11 : Int).toNat x0.size) ++ (x0.extract 0 (x11 : Int).toNat)).toList) x4.toList) = true then (impl_leastTurned.l0 k x0 ((x0.extract (x11 : Int).toNat x0.size) ++ (x0.extract 0 (x11 : Int).toNat)) x11 x10 (wrap64 (x11 + 1))) else (impl_leastTurned.l0 k x0 x4 x5 x10 (wrap64 (x11 + 1)))) else (none)) else (none)) else (none)) else (some (x4, x5))
def impl_leastTurned.f (k : Nat) (a0 : ByteArray) : Option (ByteArray × Int) := impl_leastTurned.l0 k a0 a0 0 (a0.size : Int) 0
set_option maxHeartbeats 8000000 in
set_option maxRecDepth 100000 in
theorem impl_leastTurned.calls (k : Nat) (a0 : ByteArray) (r1 : ByteArray) (r2 : Int) (w : World) (h : impl_leastTurned.f k a0 = some (r1, r2)) :
  Calls Try.prog 78 #[.string a0] w fun e w' => e = .returned (.tuple #[.string r1, .int .i64 r2]) ∧ Drawn0 w w' := by
 have H : (impl_leastTurned.l0 k a0 a0 0 (a0.size : Int) 0) = some (r1, r2) := h
 clear h
 have H' := Aside0.mk H
 clear H
 go_enter Try.func78, Try.ntmps78
 go_wp2
 repeat (go_quiet (fail); try go_wp2)
 go_loopg [4, 5, 11] k (fun kq v4 v5 v11 w' => ∃ (x4_1 : ByteArray) (x5_1 : Int) (x11_1 : Int), v4 = .string x4_1 ∧ v5 = .int .i64 x5_1 ∧ v11 = .int .i64 x11_1 ∧ Aside0 (impl_leastTurned.l0 kq a0 x4_1 x5_1 (a0.size : Int) x11_1 = some (r1, r2)) ∧ Aside0 (kq ≤ k) ∧ Drawn0 w w')
 case atStart => exact ⟨(a0), (0), (0), (by first | rfl | (simp; done) | (simp [*]; done)), (by first | rfl | (simp; done) | (simp [*]; done)), (by first | rfl | (simp; done) | (simp [*]; done)), H', ⟨Nat.le_refl _⟩, by repeat (first | exact Drawn0.refl _ | apply Drawn0.step)⟩
 case round =>
  clear H'
  obtain ⟨x4_1, x5_1, x11_1, rfl, rfl, rfl, HA, HK1, ⟨m1, rfl⟩⟩ := hrel
  cases gk with
  | zero => exact absurd HA.out (by simp [impl_leastTurned.l0])
  | succ k1 =>
   have H := HA.out
   clear HA
   simp only [impl_leastTurned.l0] at H
   by_cases c2 : x11_1 < (a0.size : Int)
   ·rw [if_pos c2] at H
    have c2b0 : decide (x11_1 < (a0.size : Int)) = true := decide_eq_true c2
    clear c2
    by_cases c3 : 0 ≤ x11_1
    ·rw [if_pos c3] at H
     have c3b0 := eq_true c3
     have c3b1 : decide (0 ≤ x11_1) = true := decide_eq_true c3
     clear c3
     by_cases c4 : x11_1 ≤ (a0.size : Int)
     ·rw [if_pos c4] at H
      have c4b0 := eq_true c4
      have c4b1 : decide (x11_1 ≤ (a0.size : Int)) = true := decide_eq_true c4
      clear c4
      have c5b0 := eq_true (of_decide_eq_true (by first | (with_reducible assumption) | assumption) : 0 ≤ x11_1)
      have c6b0 := eq_true (of_decide_eq_true (by first | (with_reducible assumption) | assumption) : x11_1 ≤ (a0.size : Int))
      by_cases c7 : (a0.extract (x11_1 : Int).toNat a0.size).size + (a0.extract 0 (x11_1 : Int).toNat).size ≤ 9223372036854775807
      ·rw [if_pos c7] at H
       have c7b0 := eq_true c7
       have c7b1 : decide ((a0.extract (x11_1 : Int).toNat a0.size).size + (a0.extract 0 (x11_1 : Int).toNat).size ≤ 9223372036854775807) = true := decide_eq_true c7
       try have c7b2 : (9223372036854775807 < (a0.extract (x11_1 : Int).toNat a0.size).size + (a0.extract 0 (x11_1 : Int).toNat).size) = False := eq_false (Nat.not_lt.2 c7)
       by_cases c8 : (Op.bytesLess (((a0.extract (x11_1 : Int).toNat a0.size) ++ (a0.extract 0 (x11_1 : Int).toNat)).toList) x4_1.toList) = true
       ·rw [if_pos c8] at H
        have c8b0 : (Op.bytesLess (((a0.extract (x11_1 : Int).toNat a0.size) ++ (a0.extract 0 (x11_1 : Int).toNat)).toList) x4_1.toList) = true := c8
        clear c8
        have H' := Aside0.mk H
        clear H
        go_wp2
        repeat (go_quiet (fail); try go_wp2)
        go_roundg k1
        case measure => have := HK1.out; omega
        case rel => exact ⟨((a0.extract (x11_1 : Int).toNat a0.size) ++ (a0.extract 0 (x11_1 : Int).toNat)), (x11_1), (wrap64 (x11_1 + 1)), (by first | rfl | (simp; done) | (simp [*]; done)), (by first | rfl | (simp; done) | (simp [*]; done)), (by first | rfl | (simp; done) | (simp [*]; done)), H', ⟨by have := HK1.out; omega⟩, by repeat (first | exact Drawn0.refl _ | apply Drawn0.step)⟩
       ·rw [if_neg c8] at H
        have c8b0 : (Op.bytesLess (((a0.extract (x11_1 : Int).toNat a0.size) ++ (a0.extract 0 (x11_1 : Int).toNat)).toList) x4_1.toList) = false := by simpa using c8
        clear c8
        have H' := Aside0.mk H
        clear H
        go_wp2
        repeat (go_quiet (fail); try go_wp2)
        go_roundg k1
        case measure => have := HK1.out; omega
        case rel => exact ⟨(x4_1), (x5_1), (wrap64 (x11_1 + 1)), (by first | rfl | (simp; done) | (simp [*]; done)), (by first | rfl | (simp; done) | (simp [*]; done)), (by first | rfl | (simp; done) | (simp [*]; done)), H', ⟨by have := HK1.out; omega⟩, by repeat (first | exact Drawn0.refl _ | apply Drawn0.step)⟩
      ·rw [if_neg c7] at H
       exact absurd H (by simp)
     ·rw [if_neg c4] at H
      exact absurd H (by simp)
    ·rw [if_neg c3] at H
     exact absurd H (by simp)
   ·rw [if_neg c2] at H
    have c2b0 : decide (x11_1 < (a0.size : Int)) = false := decide_eq_false c2
    clear c2
    simp only [Option.some.injEq, Prod.mk.injEq] at H
    obtain ⟨rfl, rfl⟩ := H
    go_wp2
    repeat (go_quiet (fail); try go_wp2)
    go_ret2
    exact ⟨by first | rfl | (simp; done) | (simp [*]; done), by repeat (first | exact Drawn0.refl _ | apply Drawn0.step)⟩

end Go.Proofs.Ytmihfmhfgjnfcab.Q

namespace Go.Proofs.Ytmihfmhfgjnfcab.Q
open Go.RowKit Go.Proofs.YtmihfmhfgjnfcabW.PrintWords Go.Proofs.YtmihfmhfgjnfcabW.PrintLast Go.Proofs.YtmihfmhfgjnfcabW.PrintMore
attribute [local go_sem] max2_int min2_int max_two min_two max_three min_three max_four min_four bn_leq bn_gtr bn_geq   -- for this text's walks alone
set_option linter.unusedVariables false
set_option linter.unusedSimpArgs false

/-! ### impl_LeastTurned: function 17 -/
def impl_LeastTurned.f (k : Nat) (a0 : ByteArray) : Option (ByteArray × Int × Int) := (impl_wordCode.f () (([a0] : List ByteArray))).bind fun t345 => (if t345 = 0 then ((impl_leastTurned.f k a0).bind fun bt346 => (some (bt346.1, bt346.2, 0))) else (some ((⟨#[]⟩ : ByteArray), 0, t345)))
set_option maxHeartbeats 8000000 in
set_option maxRecDepth 100000 in
theorem impl_LeastTurned.calls (k : Nat) (a0 : ByteArray) (r1 : ByteArray) (r2 : Int) (r3 : Int) (w : World) (h : impl_LeastTurned.f k a0 = some (r1, r2, r3)) :
  Calls Try.prog 17 #[.string a0] w fun e w' => e = .returned (.tuple #[.string r1, .int .i64 r2, .int .i64 r3]) ∧ Below w.heap.size w w' := by
 have HB := Aside0.mk (Below.refl w.heap.size w)
 have H : ((impl_wordCode.f () (([a0] : List ByteArray))).bind fun t345 => (if t345 = 0 then ((impl_leastTurned.f k a0).bind fun bt346 => (some (bt346.1, bt346.2, 0))) else (some ((⟨#[]⟩ : ByteArray), 0, t345)))) = some (r1, r2, r3) := h
 clear h
 obtain ⟨y342, hy342⟩ : ∃ y_ : List ByteArray, y_ = (([a0] : List ByteArray)) := ⟨_, rfl⟩
 replace H : ((impl_wordCode.f () y342).bind fun t345 => (if t345 = 0 then ((impl_leastTurned.f k a0).bind fun bt346 => (some (bt346.1, bt346.2, 0))) else (some ((⟨#[]⟩ : ByteArray), 0, t345)))) = some (r1, r2, r3) := by first | (rw [hy342]; with_reducible exact H) | (have H2_ := (Option.bind_some _ _).symm.trans H; rw [hy342]; with_reducible exact H2_) | (have H2_ := (Option.bind_some _ _).symm.trans H; with_reducible exact H2_) | with_reducible exact H | (rw [hy342]; exact H) | exact H
 have Ny342 := Aside0.mk hy342
 clear hy342
 replace H := Option.bind_eq_some_iff.mp H
 obtain ⟨t345, A20, H⟩ := H
 replace H : (if t345 = 0 then ((impl_leastTurned.f k a0).bind fun bt346 => (some (bt346.1, bt346.2, 0))) else (some ((⟨#[]⟩ : ByteArray), 0, t345))) = some (r1, r2, r3) := H
 have A2 := Aside0.mk A20
 clear A20
 by_cases c3 : t345 = 0
 ·rw [if_pos c3] at H
  have c3b0 : (t345 == 0) = true := beq_iff_eq.mpr c3
  have c3b1 : (t345 != 0) = false := bne_eq_false_iff_eq.mpr c3
  clear c3
  replace H := Option.bind_eq_some_iff.mp H
  obtain ⟨⟨t346, t347⟩, A40, H⟩ := H
  replace H : (some (t346, t347, 0)) = some (r1, r2, r3) := H
  have A4 := Aside0.mk A40
  clear A40
  simp only [Option.some.injEq, Prod.mk.injEq] at H
  obtain ⟨rfl, rfl, rfl⟩ := H
  go_enter Try.func17, Try.ntmps17
  go_wp2_with (first | ((with_reducible refine gate_dst (N := 9) rfl ?_); refine Kd.R_lit Kd.string _ 9 ?hg (N := 9) ?hd (xs := ([a0] : List ByteArray)) (inner := [.string a0]) (ok := fun _ => True) (okp := fun _ => True) ?hr ?hp (fun _ hk => hk) trivial (Below.refl _ _) (Nat.le_refl _) (by simp) ?_; (case hd => rfl); (case hg => rfl); (case hr => first | (go_simp; done) | (go_simp; rfl)); (case hp => exact (Reps.one (show Kd.M Kd.string _ _ _ a0 [.string a0] from rfl) (Reps.none _ _))); intro v343 w5 ho6 hb hg_ hnew_; clear hg_ hnew_; (first | rw [← Ny342.out] at ho6 | (simp only [Int.reduceToNat] at ho6; rw [← Ny342.out] at ho6)); have n0_ := Aside0.mk (Kd.R_lower ho6 (below_size (by repeat (first | (with_reducible first | exact HB.out | apply below_alloc | apply pw_below_drewN | apply below_drew1) | exact HB.out)))); have n1_ := Aside0.mk (below_step (by repeat (first | (with_reducible first | exact HB.out | apply below_alloc | apply pw_below_drewN | apply below_drew1) | exact HB.out)) hb); clear HB; have HO344 := n0_; have HB := n1_; clear n0_ n1_; clear hb ho6; obtain ⟨Ao7, co7, eo7⟩ := Kd.R_slice HO344.out; subst eo7) | ((with_reducible refine gate_callee (f := 69) rfl ?_); refine goesL_ (some 10) rfl rfl Try.func69 (by kernel_rfl) rfl #[.func (.func 70) #[] #[], .slice Ao7 y342.length co7] rfl (by (try simp only [List.map_toArray, List.map_cons, List.map_nil]); first | done | rfl | (simp only [List.length_drop, List.length_take]; rfl)) ?_; (with_reducible refine (impl_wordCode.calls () _ _ y342 t345 _ ?side1 ?side2 A2.out).mono ?_); (case side1 => repeat (first | exact (Kd.R_reads' HO344.out).2.2 | (with_reducible refine Kd.C_alloc ?_ _) | (with_reducible refine Kd.C_drewN ?_ _) | (with_reducible refine Kd.C_drew ?_))); (case side2 => exact (Kd.R_reads' HO344.out).2.1); rintro e w8 ⟨rfl, hb⟩; refine ⟨_, rfl, ?_⟩; have n0_ := Aside0.mk (Kd.R_below (by (with_reducible repeat (first | apply Kd.R_alloc | apply Kd.R_drewN | apply Kd.R_drew)); exact HO344.out) hb); have n1_ := Aside0.mk (below_step (by repeat (first | (with_reducible first | exact HB.out | apply below_alloc | apply pw_below_drewN | apply below_drew1) | exact HB.out)) hb); clear HO344; clear HB; have HO344 := n0_; have HB := n1_; clear n0_ n1_; (try clear hb); (try clear hb2); (try clear hk); (try clear hi)) | ((with_reducible refine gate_callee (f := 78) rfl ?_); refine goesL_ (some 16) rfl rfl Try.func78 (by kernel_rfl) rfl #[.string a0] rfl (by (try simp only [List.map_toArray, List.map_cons, List.map_nil]); first | done | rfl | (simp only [List.length_drop, List.length_take]; rfl)) ?_; (with_reducible refine (impl_leastTurned.calls k a0 t346 t347 _ A4.out).mono ?_); rintro e w' ⟨rfl, ⟨nd, rfl⟩⟩; refine ⟨_, rfl, ?_⟩))
  go_ret3
  exact ⟨by first | rfl | (simp [errW_none, errW_some] <;> rfl) | (simp [*, errW_none, errW_some] <;> rfl), by repeat (first | (with_reducible first | exact HB.out | apply below_alloc | apply pw_below_drewN | apply below_drew1) | exact HB.out)⟩
 ·rw [if_neg c3] at H
  have c3b0 : (t345 == 0) = false := beq_eq_false_iff_ne.mpr c3
  have c3b1 : (t345 != 0) = true := bne_iff_ne.mpr c3
  simp only [Option.some.injEq, Prod.mk.injEq] at H
  obtain ⟨rfl, rfl, rfl⟩ := H
  go_enter Try.func17, Try.ntmps17
  go_wp2_with (first | ((with_reducible refine gate_dst (N := 9) rfl ?_); refine Kd.R_lit Kd.string _ 9 ?hg (N := 9) ?hd (xs := ([a0] : List ByteArray)) (inner := [.string a0]) (ok := fun _ => True) (okp := fun _ => True) ?hr ?hp (fun _ hk => hk) trivial (Below.refl _ _) (Nat.le_refl _) (by simp) ?_; (case hd => rfl); (case hg => rfl); (case hr => first | (go_simp; done) | (go_simp; rfl)); (case hp => exact (Reps.one (show Kd.M Kd.string _ _ _ a0 [.string a0] from rfl) (Reps.none _ _))); intro v343 w9 ho10 hb hg_ hnew_; clear hg_ hnew_; (first | rw [← Ny342.out] at ho10 | (simp only [Int.reduceToNat] at ho10; rw [← Ny342.out] at ho10)); have n0_ := Aside0.mk (Kd.R_lower ho10 (below_size (by repeat (first | (with_reducible first | exact HB.out | apply below_alloc | apply pw_below_drewN | apply below_drew1) | exact HB.out)))); have n1_ := Aside0.mk (below_step (by repeat (first | (with_reducible first | exact HB.out | apply below_alloc | apply pw_below_drewN | apply below_drew1) | exact HB.out)) hb); clear HB; have HO344 := n0_; have HB := n1_; clear n0_ n1_; clear hb ho10; obtain ⟨Ao11, co11, eo11⟩ := Kd.R_slice HO344.out; subst eo11) | ((with_reducible refine gate_callee (f := 69) rfl ?_); refine goesL_ (some 10) rfl rfl Try.func69 (by kernel_rfl) rfl #[.func (.func 70) #[] #[], .slice Ao11 y342.length co11] rfl (by (try simp only [List.map_toArray, List.map_cons, List.map_nil]); first | done | rfl | (simp only [List.length_drop, List.length_take]; rfl)) ?_; (with_reducible refine (impl_wordCode.calls () _ _ y342 t345 _ ?side1 ?side2 A2.out).mono ?_); (case side1 => repeat (first | exact (Kd.R_reads' HO344.out).2.2 | (with_reducible refine Kd.C_alloc ?_ _) | (with_reducible refine Kd.C_drewN ?_ _) | (with_reducible refine Kd.C_drew ?_))); (case side2 => exact (Kd.R_reads' HO344.out).2.1); rintro e w12 ⟨rfl, hb⟩; refine ⟨_, rfl, ?_⟩; have n0_ := Aside0.mk (Kd.R_below (by (with_reducible repeat (first | apply Kd.R_alloc | apply Kd.R_drewN | apply Kd.R_drew)); exact HO344.out) hb); have n1_ := Aside0.mk (below_step (by repeat (first | (with_reducible first | exact HB.out | apply below_alloc | apply pw_below_drewN | apply below_drew1) | exact HB.out)) hb); clear HO344; clear HB; have HO344 := n0_; have HB := n1_; clear n0_ n1_; (try clear hb); (try clear hb2); (try clear hk); (try clear hi)))
  go_ret3
  exact ⟨by first | rfl | (simp [errW_none, errW_some] <;> rfl) | (simp [*, errW_none, errW_some] <;> rfl), by repeat (first | (with_reducible first | exact HB.out | apply below_alloc | apply pw_below_drewN | apply below_drew1) | exact HB.out)⟩

end Go.Proofs.Ytmihfmhfgjnfcab.Q

namespace Go.Proofs.Ytmihfmhfgjnfcab.Q
open Go.RowKit Go.Proofs.YtmihfmhfgjnfcabW.PrintWords Go.Proofs.YtmihfmhfgjnfcabW.PrintLast Go.Proofs.YtmihfmhfgjnfcabW.PrintMore
attribute [local go_sem] max2_int min2_int max_two min_two max_three min_three max_four min_four bn_leq bn_gtr bn_geq   -- for this text's walks alone
set_option linter.unusedVariables false
set_option linter.unusedSimpArgs false

/-! ### impl_hasPeriod: function 118 -/
def impl_hasPeriod.f (a0 : ByteArray) (a1 : Int) : Option (Bool) := if 0 ≤ a1 then (if a1 ≤ (a0.size : Int) then (if 0 ≤ (wrap64 ((a0.size : Int) - a1)) then (if (wrap64 ((a0.size : Int) - a1)) ≤ (a0.size : Int) then (some ((a0.extract (a1 : Int).toNat a0.size).toList == (a0.extract 0 ((wrap64 ((a0.size : Int) - a1)) : Int).toNat).toList)) else (none)) else (none)) else (none)) else (none)
set_option maxHeartbeats 8000000 in
set_option maxRecDepth 100000 in
theorem impl_hasPeriod.calls (a0 : ByteArray) (a1 : Int) (r : Bool) (w : World) (h : impl_hasPeriod.f a0 a1 = some r) :
  Calls Try.prog 118 #[.string a0, .int .i64 a1] w fun e w' => e = .returned (.bool r) ∧ Drawn0 w w' := by
 have H : (if 0 ≤ a1 then (if a1 ≤ (a0.size : Int) then (if 0 ≤ (wrap64 ((a0.size : Int) - a1)) then (if (wrap64 ((a0.size : Int) - a1)) ≤ (a0.size : Int) then (some ((a0.extract (a1 : Int).toNat a0.size).toList == (a0.extract 0 ((wrap64 ((a0.size : Int) - a1)) : Int).toNat).toList)) else (none)) else (none)) else (none)) else (none)) = some r := h
 clear h
 by_cases c3 : 0 ≤ a1
 ·rw [if_pos c3] at H
  have c3b0 := eq_true c3
  have c3b1 : decide (0 ≤ a1) = true := decide_eq_true c3
  clear c3
  by_cases c4 : a1 ≤ (a0.size : Int)
  ·rw [if_pos c4] at H
   have c4b0 := eq_true c4
   have c4b1 : decide (a1 ≤ (a0.size : Int)) = true := decide_eq_true c4
   clear c4
   obtain ⟨ji5, hji5⟩ : ∃ j_ : Int, (wrap64 ((a0.size : Int) - a1)) = j_ := ⟨_, rfl⟩
   replace H : (if 0 ≤ (ji5) then (if (ji5) ≤ (a0.size : Int) then (some ((a0.extract (a1 : Int).toNat a0.size).toList == (a0.extract 0 ((ji5) : Int).toNat).toList)) else (none)) else (none)) = some r := by first | (rw [hji5] at H; exact H) | (simp only [hji5] at H ⊢; exact H)
   have hji5w : (IntKind.i64.wrap ((a0.size : Int) - a1)) = ji5 := (i64_w _).trans hji5
   by_cases c6 : 0 ≤ (ji5)
   ·rw [if_pos c6] at H
    have c6b0 := eq_true c6
    have c6b1 : decide (0 ≤ (ji5)) = true := decide_eq_true c6
    clear c6
    by_cases c7 : (ji5) ≤ (a0.size : Int)
    ·rw [if_pos c7] at H
     have c7b0 := eq_true c7
     have c7b1 : decide ((ji5) ≤ (a0.size : Int)) = true := decide_eq_true c7
     clear c7
     obtain rfl := Option.some.inj H
     go_enter Try.func118, Try.ntmps118
     go_wp2
     repeat (go_quiet (fail); try go_wp2)
     go_ret
     exact ⟨by first | rfl | (simp; done) | (simp only [← hji5] <;> (first | rfl | simp)) | (simp [*]; done), by repeat (first | exact Drawn0.refl _ | apply Drawn0.step)⟩
    ·rw [if_neg c7] at H
     exact absurd H (by simp)
   ·rw [if_neg c6] at H
    exact absurd H (by simp)
  ·rw [if_neg c4] at H
   exact absurd H (by simp)
 ·rw [if_neg c3] at H
  exact absurd H (by simp)

end Go.Proofs.Ytmihfmhfgjnfcab.Q

namespace Go.Proofs.Ytmihfmhfgjnfcab.Q
open Go.RowKit Go.Proofs.YtmihfmhfgjnfcabW.PrintWords Go.Proofs.YtmihfmhfgjnfcabW.PrintLast Go.Proofs.YtmihfmhfgjnfcabW.PrintMore
attribute [local go_sem] max2_int min2_int max_two min_two max_three min_three max_four min_four bn_leq bn_gtr bn_geq   -- for this text's walks alone
set_option linter.unusedVariables false
set_option linter.unusedSimpArgs false

/-! ### impl_period: function 76 -/
def impl_period.l0 : Nat → ByteArray → Int → Option (Int)
 | 0, _, _ => none
 | k + 1, x0, x3 => (impl_hasPeriod.f x0 x3).bind fun t289 => (if t289 = true then (some x3) else (impl_period.l0 k x0 (wrap64 (x3 + 1))))
def impl_period.f (k : Nat) (a0 : ByteArray) : Option (Int) := impl_period.l0 k a0 1
set_option maxHeartbeats 8000000 in
set_option maxRecDepth 100000 in
theorem impl_period.calls (k : Nat) (a0 : ByteArray) (r : Int) (w : World) (h : impl_period.f k a0 = some r) :
  Calls Try.prog 76 #[.string a0] w fun e w' => e = .returned (.int .i64 r) ∧ Drawn0 w w' := by
 have H : (impl_period.l0 k a0 1) = some r := h
 clear h
 have H' := Aside0.mk H
 clear H
 go_enter Try.func76, Try.ntmps76
 go_wp2
 go_loopg [3] k (fun kq v3 w' => ∃ (x3_1 : Int), v3 = .int .i64 x3_1 ∧ Aside0 (impl_period.l0 kq a0 x3_1 = some r) ∧ Aside0 (kq ≤ k) ∧ Drawn0 w w')
 case atStart => exact ⟨(1), (by first | rfl | (simp; done) | (simp [*]; done)), H', ⟨Nat.le_refl _⟩, by repeat (first | exact Drawn0.refl _ | apply Drawn0.step)⟩
 case round =>
  clear H'
  obtain ⟨x3_1, rfl, HA, HK1, ⟨m1, rfl⟩⟩ := hrel
  cases gk with
  | zero => exact absurd HA.out (by simp [impl_period.l0])
  | succ k1 =>
   have H := HA.out
   clear HA
   simp only [impl_period.l0] at H
   replace H := Option.bind_eq_some_iff.mp H
   obtain ⟨t289, A20, H⟩ := H
   replace H : (if t289 = true then (some x3_1) else (impl_period.l0 k1 a0 (wrap64 (x3_1 + 1)))) = some r := H
   have A2 := Aside0.mk A20
   clear A20
   by_cases c3 : t289 = true
   ·subst c3
    have H1 : (some x3_1) = some r := by rw [if_pos rfl] at H; exact H
    clear H
    have H := H1
    clear H1
    obtain rfl := Option.some.inj H
    go_wp2_with (first | ((with_reducible refine gate_callee (f := 118) rfl ?_); refine goesL_ (some 6) rfl rfl Try.func118 (by kernel_rfl) rfl #[.string a0, .int .i64 x3_1] rfl (by (try simp only [List.map_toArray, List.map_cons, List.map_nil]); first | done | rfl | (simp only [List.length_drop, List.length_take]; rfl)) ?_; (with_reducible refine (impl_hasPeriod.calls a0 x3_1 true _ A2.out).mono ?_); rintro e w' ⟨rfl, ⟨nd, rfl⟩⟩; refine ⟨_, rfl, ?_⟩))
    go_ret
    exact ⟨by first | rfl | (simp; done) | (simp [*]; done), by repeat (first | exact Drawn0.refl _ | apply Drawn0.step)⟩
   ·replace c3 := Bool.eq_false_iff.mpr c3
    subst c3
    have H1 : (impl_period.l0 k1 a0 (wrap64 (x3_1 + 1))) = some r := by rw [if_neg (show ¬ (false = true) by decide)] at H; exact H
    clear H
    have H := H1
    clear H1
    have H' := Aside0.mk H
    clear H
    go_wp2_with (first | ((with_reducible refine gate_callee (f := 118) rfl ?_); refine goesL_ (some 6) rfl rfl Try.func118 (by kernel_rfl) rfl #[.string a0, .int .i64 x3_1] rfl (by (try simp only [List.map_toArray, List.map_cons, List.map_nil]); first | done | rfl | (simp only [List.length_drop, List.length_take]; rfl)) ?_; (with_reducible refine (impl_hasPeriod.calls a0 x3_1 false _ A2.out).mono ?_); rintro e w' ⟨rfl, ⟨nd, rfl⟩⟩; refine ⟨_, rfl, ?_⟩))
    go_roundg k1
    case measure => have := HK1.out; omega
    case rel => exact ⟨(wrap64 (x3_1 + 1)), (by first | rfl | (simp; done) | (simp [*]; done)), H', ⟨by have := HK1.out; omega⟩, by repeat (first | exact Drawn0.refl _ | apply Drawn0.step)⟩

end Go.Proofs.Ytmihfmhfgjnfcab.Q

namespace Go.Proofs.Ytmihfmhfgjnfcab.Q
open Go.RowKit Go.Proofs.YtmihfmhfgjnfcabW.PrintWords Go.Proofs.YtmihfmhfgjnfcabW.PrintLast Go.Proofs.YtmihfmhfgjnfcabW.PrintMore
attribute [local go_sem] max2_int min2_int max_two min_two max_three min_three max_four min_four bn_leq bn_gtr bn_geq   -- for this text's walks alone
set_option linter.unusedVariables false
set_option linter.unusedSimpArgs false

/-! ### impl_root: function 65 -/
def impl_root.f (k : Nat) (a0 : ByteArray) : Option (ByteArray) := (impl_period.f k a0).bind fun t290 => (if t290 = 0 then (none) else (if ((a0.size : Int) % t290) = 0 then (if 0 ≤ t290 then (if t290 ≤ (a0.size : Int) then (some (a0.extract 0 (t290 : Int).toNat)) else (none)) else (none)) else (some a0)))
set_option maxHeartbeats 8000000 in
set_option maxRecDepth 100000 in
theorem impl_root.calls (k : Nat) (a0 : ByteArray) (r : ByteArray) (w : World) (h : impl_root.f k a0 = some r) :
  Calls Try.prog 65 #[.string a0] w fun e w' => e = .returned (.string r) ∧ Drawn0 w w' := by
 have H : ((impl_period.f k a0).bind fun t290 => (if t290 = 0 then (none) else (if ((a0.size : Int) % t290) = 0 then (if 0 ≤ t290 then (if t290 ≤ (a0.size : Int) then (some (a0.extract 0 (t290 : Int).toNat)) else (none)) else (none)) else (some a0)))) = some r := h
 clear h
 replace H := Option.bind_eq_some_iff.mp H
 obtain ⟨t290, A20, H⟩ := H
 replace H : (if t290 = 0 then (none) else (if ((a0.size : Int) % t290) = 0 then (if 0 ≤ t290 then (if t290 ≤ (a0.size : Int) then (some (a0.extract 0 (t290 : Int).toNat)) else (none)) else (none)) else (some a0))) = some r := H
 have A2 := Aside0.mk A20
 clear A20
 by_cases c3 : t290 = 0
 ·rw [if_pos c3] at H
  exact absurd H (by simp)
 ·rw [if_neg c3] at H
  have c3b0 : (t290 == 0) = false := beq_eq_false_iff_ne.mpr c3
  have c3b1 : (t290 != 0) = true := bne_iff_ne.mpr c3
  by_cases c4 : ((a0.size : Int) % t290) = 0
  ·rw [if_pos c4] at H
   have c4b0 : (((a0.size : Int) % t290) == 0) = true := beq_iff_eq.mpr c4
   have c4b1 : (((a0.size : Int) % t290) != 0) = false := bne_eq_false_iff_eq.mpr c4
   clear c4
   by_cases c5 : 0 ≤ t290
   ·rw [if_pos c5] at H
    have c5b0 := eq_true c5
    have c5b1 : decide (0 ≤ t290) = true := decide_eq_true c5
    clear c5
    by_cases c6 : t290 ≤ (a0.size : Int)
    ·rw [if_pos c6] at H
     have c6b0 := eq_true c6
     have c6b1 : decide (t290 ≤ (a0.size : Int)) = true := decide_eq_true c6
     clear c6
     obtain rfl := Option.some.inj H
     go_enter Try.func65, Try.ntmps65
     go_wp2_with (first | ((with_reducible refine gate_callee (f := 76) rfl ?_); refine goesL_ (some 5) rfl rfl Try.func76 (by kernel_rfl) rfl #[.string a0] rfl (by (try simp only [List.map_toArray, List.map_cons, List.map_nil]); first | done | rfl | (simp only [List.length_drop, List.length_take]; rfl)) ?_; (with_reducible refine (impl_period.calls k a0 t290 _ A2.out).mono ?_); rintro e w' ⟨rfl, ⟨nd, rfl⟩⟩; refine ⟨_, rfl, ?_⟩))
     go_ret
     exact ⟨by first | rfl | (simp; done) | (simp [*]; done), by repeat (first | exact Drawn0.refl _ | apply Drawn0.step)⟩
    ·rw [if_neg c6] at H
     exact absurd H (by simp)
   ·rw [if_neg c5] at H
    exact absurd H (by simp)
  ·rw [if_neg c4] at H
   have c4b0 : (((a0.size : Int) % t290) == 0) = false := beq_eq_false_iff_ne.mpr c4
   have c4b1 : (((a0.size : Int) % t290) != 0) = true := bne_iff_ne.mpr c4
   obtain rfl := Option.some.inj H
   go_enter Try.func65, Try.ntmps65
   go_wp2_with (first | ((with_reducible refine gate_callee (f := 76) rfl ?_); refine goesL_ (some 5) rfl rfl Try.func76 (by kernel_rfl) rfl #[.string a0] rfl (by (try simp only [List.map_toArray, List.map_cons, List.map_nil]); first | done | rfl | (simp only [List.length_drop, List.length_take]; rfl)) ?_; (with_reducible refine (impl_period.calls k a0 t290 _ A2.out).mono ?_); rintro e w' ⟨rfl, ⟨nd, rfl⟩⟩; refine ⟨_, rfl, ?_⟩))
   go_ret
   exact ⟨by first | rfl | (simp; done) | (simp [*]; done), by repeat (first | exact Drawn0.refl _ | apply Drawn0.step)⟩

end Go.Proofs.Ytmihfmhfgjnfcab.Q

namespace Go.Proofs.Ytmihfmhfgjnfcab.Q
open Go.RowKit Go.Proofs.YtmihfmhfgjnfcabW.PrintWords Go.Proofs.YtmihfmhfgjnfcabW.PrintLast Go.Proofs.YtmihfmhfgjnfcabW.PrintMore
attribute [local go_sem] max2_int min2_int max_two min_two max_three min_three max_four min_four bn_leq bn_gtr bn_geq   -- for this text's walks alone
set_option linter.unusedVariables false
set_option linter.unusedSimpArgs false

/-! ### impl_size: function 66 -/
def impl_size.f (a0 : ByteArray) : Option (Int) := some (a0.size : Int)
set_option maxHeartbeats 8000000 in
set_option maxRecDepth 100000 in
theorem impl_size.calls (a0 : ByteArray) (r : Int) (w : World) (h : impl_size.f a0 = some r) :
  Calls Try.prog 66 #[.string a0] w fun e w' => e = .returned (.int .i64 r) ∧ Drawn0 w w' := by
 have H : (some (a0.size : Int)) = some r := h
 clear h
 obtain rfl := Option.some.inj H
 go_enter Try.func66, Try.ntmps66
 go_wp2
 go_ret
 exact ⟨by first | rfl | (simp; done) | (simp [*]; done), by repeat (first | exact Drawn0.refl _ | apply Drawn0.step)⟩

end Go.Proofs.Ytmihfmhfgjnfcab.Q

namespace Go.Proofs.Ytmihfmhfgjnfcab.Q
open Go.RowKit Go.Proofs.YtmihfmhfgjnfcabW.PrintWords Go.Proofs.YtmihfmhfgjnfcabW.PrintLast Go.Proofs.YtmihfmhfgjnfcabW.PrintMore
attribute [local go_sem] max2_int min2_int max_two min_two max_three min_three max_four min_four bn_leq bn_gtr bn_geq   -- for this text's walks alone
set_option linter.unusedVariables false
set_option linter.unusedSimpArgs false

/-! ### impl_CountTurned: function 19 -/
def impl_CountTurned.f (k : Nat) (a0 : ByteArray) : Option (Int × Int) := (impl_wordCode.f () (([a0] : List ByteArray))).bind fun t355 => (if t355 = 0 then (if a0.toList = ([] : List UInt8) then (some (1, 0)) else ((impl_root.f k a0).bind fun t356 => ((impl_size.f t356).bind fun t357 => (some (t357, 0))))) else (some (0, t355)))
set_option maxHeartbeats 8000000 in
set_option maxRecDepth 100000 in
theorem impl_CountTurned.calls (k : Nat) (a0 : ByteArray) (r1 : Int) (r2 : Int) (w : World) (h : impl_CountTurned.f k a0 = some (r1, r2)) :
  Calls Try.prog 19 #[.string a0] w fun e w' => e = .returned (.tuple #[.int .i64 r1, .int .i64 r2]) ∧ Below w.heap.size w w' := by
 have HB := Aside0.mk (Below.refl w.heap.size w)
 have H : ((impl_wordCode.f () (([a0] : List ByteArray))).bind fun t355 => (if t355 = 0 then (if a0.toList = ([] : List UInt8) then (some (1, 0)) else ((impl_root.f k a0).bind fun t356 => ((impl_size.f t356).bind fun t357 => (some (t357, 0))))) else (some (0, t355)))) = some (r1, r2) := h
 clear h
 obtain ⟨y352, hy352⟩ : ∃ y_ : List ByteArray, y_ = (([a0] : List ByteArray)) := ⟨_, rfl⟩
 replace H : ((impl_wordCode.f () y352).bind fun t355 => (if t355 = 0 then (if a0.toList = ([] : List UInt8) then (some (1, 0)) else ((impl_root.f k a0).bind fun t356 => ((impl_size.f t356).bind fun t357 => (some (t357, 0))))) else (some (0, t355)))) = some (r1, r2) := by first | (rw [hy352]; with_reducible exact H) | (have H2_ := (Option.bind_some _ _).symm.trans H; rw [hy352]; with_reducible exact H2_) | (have H2_ := (Option.bind_some _ _).symm.trans H; with_reducible exact H2_) | with_reducible exact H | (rw [hy352]; exact H) | exact H
 have Ny352 := Aside0.mk hy352
 clear hy352
 replace H := Option.bind_eq_some_iff.mp H
 obtain ⟨t355, A20, H⟩ := H
 replace H : (if t355 = 0 then (if a0.toList = ([] : List UInt8) then (some (1, 0)) else ((impl_root.f k a0).bind fun t356 => ((impl_size.f t356).bind fun t357 => (some (t357, 0))))) else (some (0, t355))) = some (r1, r2) := H
 have A2 := Aside0.mk A20
 clear A20
 by_cases c3 : t355 = 0
 ·rw [if_pos c3] at H
  have c3b0 : (t355 == 0) = true := beq_iff_eq.mpr c3
  have c3b1 : (t355 != 0) = false := bne_eq_false_iff_eq.mpr c3
  clear c3
  by_cases c4 : a0.toList = ([] : List UInt8)
  ·rw [if_pos c4] at H
   have c4b0 : (a0.toList == ([] : List UInt8)) = true := beq_iff_eq.mpr c4
   have c4b1 : (a0.toList != ([] : List UInt8)) = false := bne_eq_false_iff_eq.mpr c4
   clear c4
   simp only [Option.some.injEq, Prod.mk.injEq] at H
   obtain ⟨rfl, rfl⟩ := H
   go_enter Try.func19, Try.ntmps19
   go_wp2_with (first | ((with_reducible refine gate_dst (N := 6) rfl ?_); refine Kd.R_lit Kd.string _ 9 ?hg (N := 6) ?hd (xs := ([a0] : List ByteArray)) (inner := [.string a0]) (ok := fun _ => True) (okp := fun _ => True) ?hr ?hp (fun _ hk => hk) trivial (Below.refl _ _) (Nat.le_refl _) (by simp) ?_; (case hd => rfl); (case hg => rfl); (case hr => first | (go_simp; done) | (go_simp; rfl)); (case hp => exact (Reps.one (show Kd.M Kd.string _ _ _ a0 [.string a0] from rfl) (Reps.none _ _))); intro v353 w5 ho6 hb hg_ hnew_; clear hg_ hnew_; (first | rw [← Ny352.out] at ho6 | (simp only [Int.reduceToNat] at ho6; rw [← Ny352.out] at ho6)); have n0_ := Aside0.mk (Kd.R_lower ho6 (below_size (by repeat (first | (with_reducible first | exact HB.out | apply below_alloc | apply pw_below_drewN | apply below_drew1) | exact HB.out)))); have n1_ := Aside0.mk (below_step (by repeat (first | (with_reducible first | exact HB.out | apply below_alloc | apply pw_below_drewN | apply below_drew1) | exact HB.out)) hb); clear HB; have HO354 := n0_; have HB := n1_; clear n0_ n1_; clear hb ho6; obtain ⟨Ao7, co7, eo7⟩ := Kd.R_slice HO354.out; subst eo7) | ((with_reducible refine gate_callee (f := 69) rfl ?_); refine goesL_ (some 7) rfl rfl Try.func69 (by kernel_rfl) rfl #[.func (.func 70) #[] #[], .slice Ao7 y352.length co7] rfl (by (try simp only [List.map_toArray, List.map_cons, List.map_nil]); first | done | rfl | (simp only [List.length_drop, List.length_take]; rfl)) ?_; (with_reducible refine (impl_wordCode.calls () _ _ y352 t355 _ ?side1 ?side2 A2.out).mono ?_); (case side1 => repeat (first | exact (Kd.R_reads' HO354.out).2.2 | (with_reducible refine Kd.C_alloc ?_ _) | (with_reducible refine Kd.C_drewN ?_ _) | (with_reducible refine Kd.C_drew ?_))); (case side2 => exact (Kd.R_reads' HO354.out).2.1); rintro e w8 ⟨rfl, hb⟩; refine ⟨_, rfl, ?_⟩; have n0_ := Aside0.mk (Kd.R_below (by (with_reducible repeat (first | apply Kd.R_alloc | apply Kd.R_drewN | apply Kd.R_drew)); exact HO354.out) hb); have n1_ := Aside0.mk (below_step (by repeat (first | (with_reducible first | exact HB.out | apply below_alloc | apply pw_below_drewN | apply below_drew1) | exact HB.out)) hb); clear HO354; clear HB; have HO354 := n0_; have HB := n1_; clear n0_ n1_; (try clear hb); (try clear hb2); (try clear hk); (try clear hi)))
   go_ret2
   exact ⟨by first | rfl | (simp [errW_none, errW_some] <;> rfl) | (simp [*, errW_none, errW_some] <;> rfl), by repeat (first | (with_reducible first | exact HB.out | apply below_alloc | apply pw_below_drewN | apply below_drew1) | exact HB.out)⟩
  ·rw [if_neg c4] at H
   have c4b0 : (a0.toList == ([] : List UInt8)) = false := beq_eq_false_iff_ne.mpr c4
   have c4b1 : (a0.toList != ([] : List UInt8)) = true := bne_iff_ne.mpr c4
   replace H := Option.bind_eq_some_iff.mp H
   obtain ⟨t356, A90, H⟩ := H
   replace H : ((impl_size.f t356).bind fun t357 => (some (t357, 0))) = some (r1, r2) := H
   have A9 := Aside0.mk A90
   clear A90
   replace H := Option.bind_eq_some_iff.mp H
   obtain ⟨t357, A100, H⟩ := H
   replace H : (some (t357, 0)) = some (r1, r2) := H
   have A10 := Aside0.mk A100
   clear A100
   simp only [Option.some.injEq, Prod.mk.injEq] at H
   obtain ⟨rfl, rfl⟩ := H
   go_enter Try.func19, Try.ntmps19
   go_wp2_with (first | ((with_reducible refine gate_dst (N := 6) rfl ?_); refine Kd.R_lit Kd.string _ 9 ?hg (N := 6) ?hd (xs := ([a0] : List ByteArray)) (inner := [.string a0]) (ok := fun _ => True) (okp := fun _ => True) ?hr ?hp (fun _ hk => hk) trivial (Below.refl _ _) (Nat.le_refl _) (by simp) ?_; (case hd => rfl); (case hg => rfl); (case hr => first | (go_simp; done) | (go_simp; rfl)); (case hp => exact (Reps.one (show Kd.M Kd.string _ _ _ a0 [.string a0] from rfl) (Reps.none _ _))); intro v353 w11 ho12 hb hg_ hnew_; clear hg_ hnew_; (first | rw [← Ny352.out] at ho12 | (simp only [Int.reduceToNat] at ho12; rw [← Ny352.out] at ho12)); have n0_ := Aside0.mk (Kd.R_lower ho12 (below_size (by repeat (first | (with_reducible first | exact HB.out | apply below_alloc | apply pw_below_drewN | apply below_drew1) | exact HB.out)))); have n1_ := Aside0.mk (below_step (by repeat (first | (with_reducible first | exact HB.out | apply below_alloc | apply pw_below_drewN | apply below_drew1) | exact HB.out)) hb); clear HB; have HO354 := n0_; have HB := n1_; clear n0_ n1_; clear hb ho12; obtain ⟨Ao13, co13, eo13⟩ := Kd.R_slice HO354.out; subst eo13) | ((with_reducible refine gate_callee (f := 69) rfl ?_); refine goesL_ (some 7) rfl rfl Try.func69 (by kernel_rfl) rfl #[.func (.func 70) #[] #[], .slice Ao13 y352.length co13] rfl (by (try simp only [List.map_toArray, List.map_cons, List.map_nil]); first | done | rfl | (simp only [List.length_drop, List.length_take]; rfl)) ?_; (with_reducible refine (impl_wordCode.calls () _ _ y352 t355 _ ?side1 ?side2 A2.out).mono ?_); (case side1 => repeat (first | exact (Kd.R_reads' HO354.out).2.2 | (with_reducible refine Kd.C_alloc ?_ _) | (with_reducible refine Kd.C_drewN ?_ _) | (with_reducible refine Kd.C_drew ?_))); (case side2 => exact (Kd.R_reads' HO354.out).2.1); rintro e w14 ⟨rfl, hb⟩; refine ⟨_, rfl, ?_⟩; have n0_ := Aside0.mk (Kd.R_below (by (with_reducible repeat (first | apply Kd.R_alloc | apply Kd.R_drewN | apply Kd.R_drew)); exact HO354.out) hb); have n1_ := Aside0.mk (below_step (by repeat (first | (with_reducible first | exact HB.out | apply below_alloc | apply pw_below_drewN | apply below_drew1) | exact HB.out)) hb); clear HO354; clear HB; have HO354 := n0_; have HB := n1_; clear n0_ n1_; (try clear hb); (try clear hb2); (try clear hk); (try clear hi)) | ((with_reducible refine gate_callee (f := 65) rfl ?_); refine goesL_ (some 14) rfl rfl Try.func65 (by kernel_rfl) rfl #[.string a0] rfl (by (try simp only [List.map_toArray, List.map_cons, List.map_nil]); first | done | rfl | (simp only [List.length_drop, List.length_take]; rfl)) ?_; (with_reducible refine (impl_root.calls k a0 t356 _ A9.out).mono ?_); rintro e w' ⟨rfl, ⟨nd, rfl⟩⟩; refine ⟨_, rfl, ?_⟩) | ((with_reducible refine gate_callee (f := 66) rfl ?_); refine goesL_ (some 15) rfl rfl Try.func66 (by kernel_rfl) rfl #[.string t356] rfl (by (try simp only [List.map_toArray, List.map_cons, List.map_nil]); first | done | rfl | (simp only [List.length_drop, List.length_take]; rfl)) ?_; (with_reducible refine (impl_size.calls t356 t357 _ A10.out).mono ?_); rintro e w' ⟨rfl, ⟨nd, rfl⟩⟩; refine ⟨_, rfl, ?_⟩))
   go_ret2
   exact ⟨by first | rfl | (simp [errW_none, errW_some] <;> rfl) | (simp [*, errW_none, errW_some] <;> rfl), by repeat (first | (with_reducible first | exact HB.out | apply below_alloc | apply pw_below_drewN | apply below_drew1) | exact HB.out)⟩
 ·rw [if_neg c3] at H
  have c3b0 : (t355 == 0) = false := beq_eq_false_iff_ne.mpr c3
  have c3b1 : (t355 != 0) = true := bne_iff_ne.mpr c3
  simp only [Option.some.injEq, Prod.mk.injEq] at H
  obtain ⟨rfl, rfl⟩ := H
  go_enter Try.func19, Try.ntmps19
  go_wp2_with (first | ((with_reducible refine gate_dst (N := 6) rfl ?_); refine Kd.R_lit Kd.string _ 9 ?hg (N := 6) ?hd (xs := ([a0] : List ByteArray)) (inner := [.string a0]) (ok := fun _ => True) (okp := fun _ => True) ?hr ?hp (fun _ hk => hk) trivial (Below.refl _ _) (Nat.le_refl _) (by simp) ?_; (case hd => rfl); (case hg => rfl); (case hr => first | (go_simp; done) | (go_simp; rfl)); (case hp => exact (Reps.one (show Kd.M Kd.string _ _ _ a0 [.string a0] from rfl) (Reps.none _ _))); intro v353 w15 ho16 hb hg_ hnew_; clear hg_ hnew_; (first | rw [← Ny352.out] at ho16 | (simp only [Int.reduceToNat] at ho16; rw [← Ny352.out] at ho16)); have n0_ := Aside0.mk (Kd.R_lower ho16 (below_size (by repeat (first | (with_reducible first | exact HB.out | apply below_alloc | apply pw_below_drewN | apply below_drew1) | exact HB.out)))); have n1_ := Aside0.mk (below_step (by repeat (first | (with_reducible first | exact HB.out | apply below_alloc | apply pw_below_drewN | apply below_drew1) | exact HB.out)) hb); clear HB; have HO354 := n0_; have HB := n1_; clear n0_ n1_; clear hb ho16; obtain ⟨Ao17, co17, eo17⟩ := Kd.R_slice HO354.out; subst eo17) | ((with_reducible refine gate_callee (f := 69) rfl ?_); refine goesL_ (some 7) rfl rfl Try.func69 (by kernel_rfl) rfl #[.func (.func 70) #[] #[], .slice Ao17 y352.length co17] rfl (by (try simp only [List.map_toArray, List.map_cons, List.map_nil]); first | done | rfl | (simp only [List.length_drop, List.length_take]; rfl)) ?_; (with_reducible refine (impl_wordCode.calls () _ _ y352 t355 _ ?side1 ?side2 A2.out).mono ?_); (case side1 => repeat (first | exact (Kd.R_reads' HO354.out).2.2 | (with_reducible refine Kd.C_alloc ?_ _) | (with_reducible refine Kd.C_drewN ?_ _) | (with_reducible refine Kd.C_drew ?_))); (case side2 => exact (Kd.R_reads' HO354.out).2.1); rintro e w18 ⟨rfl, hb⟩; refine ⟨_, rfl, ?_⟩; have n0_ := Aside0.mk (Kd.R_below (by (with_reducible repeat (first | apply Kd.R_alloc | apply Kd.R_drewN | apply Kd.R_drew)); exact HO354.out) hb); have n1_ := Aside0.mk (below_step (by repeat (first | (with_reducible first | exact HB.out | apply below_alloc | apply pw_below_drewN | apply below_drew1) | exact HB.out)) hb); clear HO354; clear HB; have HO354 := n0_; have HB := n1_; clear n0_ n1_; (try clear hb); (try clear hb2); (try clear hk); (try clear hi)))
  go_ret2
  exact ⟨by first | rfl | (simp [errW_none, errW_some] <;> rfl) | (simp [*, errW_none, errW_some] <;> rfl), by repeat (first | (with_reducible first | exact HB.out | apply below_alloc | apply pw_below_drewN | apply below_drew1) | exact HB.out)⟩

end Go.Proofs.Ytmihfmhfgjnfcab.Q

namespace Go.Proofs.Ytmihfmhfgjnfcab.Q
open Go.RowKit Go.Proofs.YtmihfmhfgjnfcabW.PrintWords Go.Proofs.YtmihfmhfgjnfcabW.PrintLast Go.Proofs.YtmihfmhfgjnfcabW.PrintMore
attribute [local go_sem] max2_int min2_int max_two min_two max_three min_three max_four min_four bn_leq bn_gtr bn_geq   -- for this text's walks alone
set_option linter.unusedVariables false
set_option linter.unusedSimpArgs false

/-- A state of type 92 at block g of W; what its slices lead to came in by w0. -/
def IsS92 (w0 W : World) (g : Nat) (f0 : List Int) (f1 : Int) (f2 : Int) : Prop := ∃ A0 c0, W.heap[g]? = some (.cells #[.slice A0 f0.length c0, .int .i64 f1, .int .u64 f2] 92 (0, 0)) ∧ w0.heap.size ≤ g ∧ Kd.C (Kd.int .u8) w0 A0 f0.length f0
theorem IsS92.grown {w0 W : World} {g : Nat} {f0 : List Int} {f1 : Int} {f2 : Int} {W1 : World} {row : Option Nat} (h : IsS92 w0 W g f0 f1 f2) (hw : W.grownBy W1 row) (hne : some g ≠ row) : IsS92 w0 W1 g f0 f1 f2 := by
 obtain ⟨A0, c0, hb, hg, hr0⟩ := h
 exact ⟨A0, c0, blk_grown hb hw hne, hg, hr0⟩
theorem IsS92.own_neN {w0 W : World} {g : Nat} {f0 : List Int} {f1 : Int} {f2 : Int} {α : Type} {d : Kd α} {e : Nat} {base : Nat} {ok : Nat → Prop} {v : Value} {xs : List α} (h : IsS92 w0 W g f0 f1 f2) (ho : Kd.N d e W base ok v xs) (ht : e ≠ 92) : some g ≠ v.ownBlock := by
 obtain ⟨A0, c0, hb, hg, hr0⟩ := h
 exact Kd.N_ne ho hb ht
theorem IsS92.fresh {w0 W : World} {g : Nat} {f0 : List Int} {f1 : Int} {f2 : Int} (h : IsS92 w0 W g f0 f1 f2) : ∀ k, W.heap.size ≤ k → k ≠ g := by
 obtain ⟨A0, c0, hb, hg, hr0⟩ := h
 exact Kd.freshB hb
theorem IsS92.kept {w0 W : World} {g : Nat} {f0 : List Int} {f1 : Int} {f2 : Int} {W1 : World} {S : Nat → Prop} (h : IsS92 w0 W g f0 f1 f2) (hk : Kept W W1 S) (hne : ¬ S g) : IsS92 w0 W1 g f0 f1 f2 := by
 obtain ⟨A0, c0, hb, hg, hr0⟩ := h
 exact ⟨A0, c0, blk_kept hb hk hne, hg, hr0⟩
theorem IsS92.below {w0 W : World} {g : Nat} {f0 : List Int} {f1 : Int} {f2 : Int} {W1 : World} (h : IsS92 w0 W g f0 f1 f2) (hw : Below W.heap.size W W1) : IsS92 w0 W1 g f0 f1 f2 := h.grown (grown_of_below hw none) (by simp)
theorem IsS92.alloc {w0 W : World} {g : Nat} {f0 : List Int} {f1 : Int} {f2 : Int} (h : IsS92 w0 W g f0 f1 f2) (o : Obj) : IsS92 w0 (W.alloc o) g f0 f1 f2 := h.below (below_alloc (Below.refl _ _) o)
theorem IsS92.drewN {w0 W : World} {g : Nat} {f0 : List Int} {f1 : Int} {f2 : Int} (h : IsS92 w0 W g f0 f1 f2) (m : Nat) : IsS92 w0 (W.drewN m) g f0 f1 f2 := h
theorem IsS92.drew {w0 W : World} {g : Nat} {f0 : List Int} {f1 : Int} {f2 : Int} (h : IsS92 w0 W g f0 f1 f2) : IsS92 w0 W.drew g f0 f1 f2 := h
theorem IsS92.at_ {w0 W : World} {g : Nat} {f0 : List Int} {f1 : Int} {f2 : Int} {w' : World} {m : Nat} (hq : W.drewN m = w') (h : IsS92 w0 W g f0 f1 f2) : IsS92 w0 w' g f0 f1 f2 := by subst hq; exact IsS92.drewN h m
theorem IsS92.apart {w0 W : World} {g : Nat} {f0 : List Int} {f1 : Int} {f2 : Int} {α : Type} {d : Kd α} {e : Nat} {base : Nat} {ok : Nat → Prop} {v : Value} {xs : List α} (h : IsS92 w0 W g f0 f1 f2) (ho : d.R e W base ok v xs) (ht : ∀ q, q ∈ e :: d.E → q ≠ 92) : d.R e W base (fun k => ok k ∧ k ≠ g) v xs := by
 obtain ⟨A0, c0, hb, hg, hr0⟩ := h
 exact Kd.R_types ho hb ht
theorem IsS92.own_ne {w0 W : World} {g : Nat} {f0 : List Int} {f1 : Int} {f2 : Int} {α : Type} {d : Kd α} {e : Nat} {base : Nat} {ok : Nat → Prop} {v : Value} {xs : List α} (h : IsS92 w0 W g f0 f1 f2) (ho : d.R e W base ok v xs) (ht : e ≠ 92) : some g ≠ v.ownBlock := by
 obtain ⟨A0, c0, hb, hg, hr0⟩ := h
 exact Kd.R_ne ho hb ht
theorem IsS92.apartQ {w0 W : World} {g : Nat} {f0 : List Int} {f1 : Int} {f2 : Int} {α : Type} {d : Kd α} {e : Nat} {base : Nat} {ok : Nat → Prop} {v : Value} {xs : List α} (h : IsS92 w0 W g f0 f1 f2) (ho : d.Q e W base ok v xs) (ht : ∀ q, q ∈ e :: d.E → q ≠ 92) : d.Q e W base (fun k => ok k ∧ k ≠ g) v xs := by
 obtain ⟨A0, c0, hb, hg, hr0⟩ := h
 exact Kd.Q_types ho hb ht
theorem IsS92.own_neQ {w0 W : World} {g : Nat} {f0 : List Int} {f1 : Int} {f2 : Int} {α : Type} {d : Kd α} {e : Nat} {base : Nat} {ok : Nat → Prop} {v : Value} {xs : List α} (h : IsS92 w0 W g f0 f1 f2) (ho : d.Q e W base ok v xs) (ht : e ≠ 92) : some g ≠ v.ownBlock := by
 obtain ⟨A0, c0, hb, hg, hr0⟩ := h
 exact Kd.Q_ne ho hb ht
theorem IsS92.apartS {w0 W : World} {g : Nat} {f0 : List Int} {f1 : Int} {f2 : Int} {α : Type} {d : Kd α} {e : Nat} {base : Nat} {ok : Nat → Prop} {v : Value} {xs : List α} (h : IsS92 w0 W g f0 f1 f2) (ho : d.S e W base ok v xs) (ht : ∀ q, q ∈ e :: d.E → q ≠ 92) : d.S e W base (fun k => ok k ∧ k ≠ g) v xs := by
 obtain ⟨A0, c0, hb, hg, hr0⟩ := h
 exact Kd.S_types ho hb ht
theorem IsS92.own_neS {w0 W : World} {g : Nat} {f0 : List Int} {f1 : Int} {f2 : Int} {α : Type} {d : Kd α} {e : Nat} {base : Nat} {ok : Nat → Prop} {v : Value} {xs : List α} (h : IsS92 w0 W g f0 f1 f2) (ho : d.S e W base ok v xs) (ht : e ≠ 92) : some g ≠ v.ownBlock := by
 obtain ⟨A0, c0, hb, hg, hr0⟩ := h
 exact Kd.S_ne ho hb ht
theorem IsS92.lt {w0 W : World} {g : Nat} {f0 : List Int} {f1 : Int} {f2 : Int} (h : IsS92 w0 W g f0 f1 f2) : g < W.heap.size := by
 obtain ⟨A0, c0, hb, hg, hr0⟩ := h
 exact blk_lt hb
theorem IsS92.ge {w0 W : World} {g : Nat} {f0 : List Int} {f1 : Int} {f2 : Int} (h : IsS92 w0 W g f0 f1 f2) : w0.heap.size ≤ g := by
 obtain ⟨A0, c0, hb, hg, hr0⟩ := h
 exact hg
theorem IsS92.ne_blk {w0 W : World} {g : Nat} {f0 : List Int} {f1 : Int} {f2 : Int} {a : Nat} {cs : Array Value} {t : TypeId} {fr : Nat × Nat} (h : IsS92 w0 W g f0 f1 f2) (hb2 : W.heap[a]? = some (.cells cs t fr)) (ht : t ≠ 92) : g ≠ a := by
 obtain ⟨A0, c0, hb, hg, hr0⟩ := h
 rintro rfl
 rw [hb] at hb2
 injection hb2 with hb2
 injection hb2 with _ ht2
 exact ht ht2.symm
theorem IsS92.far {w0 W : World} {g : Nat} {f0 : List Int} {f1 : Int} {f2 : Int} {p : Addr} (h : IsS92 w0 W g f0 f1 f2) (hne : g ≠ p.block) (u : Value) : IsS92 w0 (W.setCell p u) g f0 f1 f2 := by
 obtain ⟨A0, c0, hb, hg, hr0⟩ := h
 exact ⟨A0, c0, blk_far hb hne u, hg, hr0⟩
theorem cellS92_0 {W : World} {g : Nat} {A0 : Option Addr} {c0 : Nat} {f0 : List Int} {f1 : Int} {f2 : Int} (h : W.heap[g]? = some (.cells #[.slice A0 f0.length c0, .int .i64 f1, .int .u64 f2] 92 (0, 0))) : W.cell? ⟨g, 0, none⟩ = some (.slice A0 f0.length c0) := (blk_cell h 0).trans rfl
theorem cellS92_1 {W : World} {g : Nat} {A0 : Option Addr} {c0 : Nat} {f0 : List Int} {f1 : Int} {f2 : Int} (h : W.heap[g]? = some (.cells #[.slice A0 f0.length c0, .int .i64 f1, .int .u64 f2] 92 (0, 0))) : W.cell? ⟨g, 1, none⟩ = some (.int .i64 f1) := (blk_cell h 1).trans rfl
theorem IsS92.set_1 {w0 W : World} {g : Nat} {f0 : List Int} {f1 : Int} {f2 : Int} (h : IsS92 w0 W g f0 f1 f2) (x : Int) : IsS92 w0 (W.setCell ⟨g, 1, none⟩ (.int .i64 x)) g f0 x f2 := by
 obtain ⟨A0, c0, hb, hg, hr0⟩ := h
 exact ⟨A0, c0, by simpa using blk_set hb 1 (.int .i64 x), hg, hr0⟩
theorem cellS92_2 {W : World} {g : Nat} {A0 : Option Addr} {c0 : Nat} {f0 : List Int} {f1 : Int} {f2 : Int} (h : W.heap[g]? = some (.cells #[.slice A0 f0.length c0, .int .i64 f1, .int .u64 f2] 92 (0, 0))) : W.cell? ⟨g, 2, none⟩ = some (.int .u64 f2) := (blk_cell h 2).trans rfl
theorem IsS92.set_2 {w0 W : World} {g : Nat} {f0 : List Int} {f1 : Int} {f2 : Int} (h : IsS92 w0 W g f0 f1 f2) (x : Int) : IsS92 w0 (W.setCell ⟨g, 2, none⟩ (.int .u64 x)) g f0 f1 x := by
 obtain ⟨A0, c0, hb, hg, hr0⟩ := h
 exact ⟨A0, c0, by simpa using blk_set hb 2 (.int .u64 x), hg, hr0⟩
theorem IsS92.new (w0 W : World) (A0 : Option Addr) (c0 : Nat) (f0 : List Int) (f1 : Int) (f2 : Int) (hB : Below w0.heap.size w0 W) (hr0 : Kd.C (Kd.int .u8) w0 A0 f0.length f0) : IsS92 w0 (W.alloc (.cells #[.slice A0 f0.length c0, .int .i64 f1, .int .u64 f2] 92)) W.heap.size f0 f1 f2 := ⟨A0, c0, by simpa using heap_alloc_new W _, hB.size, hr0⟩

/-! ### spec_l01From: function 58 -/
def spec_l01From.l0 : Nat → List Int → Int → List Int → Int → Int → Option (List Int × Int × Int)
 | 0, _, _, _, _, _ => none
 | k + 1, x0, x4, x102000, x102001, x102002 => if x4 < (x0.length : Int) then (if x4 < 4096 then (if 0 ≤ x4 then (spec_l01From.l0 k x0 (wrap64 (x4 + 1)) x102000 x102001 (IntKind.u64.wrap ((IntKind.u64.wrap ((IntKind.u64.wrap (x102002 * 1099511628211)) + (IntKind.u64.wrap (rd x0 x4)))) + 211))) else (none)) else (some (x102000, x102001, x102002))) else (some (x102000, x102001, x102002))
def spec_l01From.f (k : Nat) (l0 : List Int) : Option (List Int × Int × Int) := spec_l01From.l0 k l0 0 l0 0 (IntKind.u64.wrap (13711 + (IntKind.u64.wrap ((l0.length : Int)))))
def spec_l01From.T5 : Bool × List (List Nat × List Nat) := (true, [([], []), ([], []), ([1], [1]), ([2], [2]), ([3], [3]), ([4], [4]), ([], []), ([], []), ([6, 7], [6, 7]), ([8], [8]), ([9], [9]), ([5, 10], [5, 10]), ([11], [11]), ([0, 0, 1, 2, 3, 4, 5, 6, 7, 8, 9, 10, 11, 12], [0]), ([13, 0, 1, 2, 3, 4, 5, 6, 7, 8, 9, 10, 11, 12], [13]), ([14, 12, 0, 1, 2, 3, 4, 5, 6, 7, 8, 9, 10, 11, 12], [12, 14])])
def spec_l01From.B5 : List Nat := [0, 0, 2, 6, 14, 30, 0, 0, 192, 448, 960, 2046, 4094, 8191, 16383, 32767]
theorem spec_l01From.tab5 : rtab .any (opsOf Try.f58 5) = spec_l01From.T5 := by kernel_rfl
theorem spec_l01From.bits5 : waitsOk spec_l01From.T5.2 spec_l01From.B5 = true := by kernel_rfl
set_option maxHeartbeats 8000000 in
set_option maxRecDepth 100000 in
theorem spec_l01From.calls (k : Nat) (A0 : Option Addr) (c0 : Nat) (l0 : List Int) (r1 : List Int) (r2 : Int) (r3 : Int) (w0 w : World) (hB : Below w0.heap.size w0 w) (hr0 : Kd.C (Kd.int .u8) w0 A0 l0.length l0) (hc0 : l0.length ≤ c0) (h : spec_l01From.f k l0 = some (r1, r2, r3)) :
  Calls Try.prog 58 #[.slice A0 l0.length c0] w fun e w' => ∃ g_ : Nat, e = .returned (.pointer (some ⟨g_, 0, none⟩)) ∧ IsS92 w0 w' g_ r1 r2 r3 ∧ Below w0.heap.size w0 w' ∧ Below w.heap.size w w' := by
 have hu92 := Try.underlying92
 have HR0 := Aside0.mk hr0
 have HC0 := Aside0.mk hc0
 clear hr0 hc0
 have HBW := Aside0.mk (Below.refl w.heap.size w)
 have HW0 := Aside0.mk hB.size
 have HB0 := Aside0.mk hB
 have HB := Aside0.mk (Below.refl w.heap.size w)
 clear hB
 have H : (spec_l01From.l0 k l0 0 l0 0 (IntKind.u64.wrap (13711 + (IntKind.u64.wrap ((l0.length : Int)))))) = some (r1, r2, r3) := h
 clear h
 have H' := Aside0.mk H
 clear H
 go_enter Try.func58, Try.ntmps58
 go_wp2_with (first | ((with_reducible refine gate_dst (N := 11) rfl ?_); refine box_event ?hg (N := 11) ?hd (cs := #[.slice A0 l0.length c0, .int .i64 0, .int .u64 (IntKind.u64.wrap (13711 + (IntKind.u64.wrap ((l0.length : Int)))))]) (t := 92) ?hr ?_; (case hd => rfl); (case hg => rfl); (case hr => first | (go_simp; done) | (go_simp; rfl)); intro gb101 hg w2 hbox hb; have n0_ := Aside0.mk (below_step HBW.out hb); have n1_ := Aside0.mk (below_step (by repeat (first | (with_reducible first | exact HB.out | apply below_alloc | apply pw_below_drewN | apply below_drew1) | exact HB.out)) hb); have n2_ := Aside0.mk (hbox); have n3_ := Aside0.mk ((by rw [hg]; exact (below_size (by repeat (first | (with_reducible first | exact HBW.out | apply below_alloc | apply pw_below_drewN | apply below_drew1) | exact HBW.out))) : w.heap.size ≤ gb101)); have n4_ := Aside0.mk ((Nat.le_trans HW0.out (by rw [hg]; exact (below_size (by repeat (first | (with_reducible first | exact HBW.out | apply below_alloc | apply pw_below_drewN | apply below_drew1) | exact HBW.out))) : w.heap.size ≤ gb101) : w0.heap.size ≤ gb101)); clear HBW; clear HB; have HBW := n0_; have HB := n1_; have BK101 := n2_; have GW101 := n3_; have GE101 := n4_; clear n0_ n1_ n2_ n3_ n4_; clear hb hbox hg))
 go_loopg [4] k (fun kq v4 w' => ∃ (x4_1 : Int) (x102002_1 : Int), v4 = .int .i64 x4_1 ∧ Aside0 (spec_l01From.l0 kq l0 x4_1 l0 0 x102002_1 = some (r1, r2, r3)) ∧ Aside0 (kq ≤ k) ∧ Aside0 (w'.heap[gb101]? = some (.cells #[(.slice A0 l0.length c0), .int .i64 0, .int .u64 x102002_1] 92 (0, 0))) ∧ Aside0 (Below w.heap.size w w'))
 case atStart => exact ⟨(0), (IntKind.u64.wrap (13711 + (IntKind.u64.wrap ((l0.length : Int))))), (by first | rfl | (simp; done) | (simp [*]; done)), H', ⟨Nat.le_refl _⟩, ⟨by (with_reducible repeat (first | refine blk_drewN ?_ _ | refine blk_drew ?_ | refine blk_alloc ?_ _)); exact BK101.out⟩, ⟨by repeat (first | (with_reducible first | exact HB.out | apply below_alloc | apply pw_below_drewN | apply below_drew1 | refine below_set ?_ GW101.out) | exact HB.out)⟩⟩
 case round =>
  clear H'
  try clear p2
  obtain ⟨x4_1, x102002_1, rfl, HA, HK1, BK101, HB⟩ := hrel
  cases gk with
  | zero => exact absurd HA.out (by simp [spec_l01From.l0])
  | succ k1 =>
   have H := HA.out
   clear HA
   simp only [spec_l01From.l0] at H
   by_cases c3 : x4_1 < (l0.length : Int)
   ·rw [if_pos c3] at H
    have c3b0 : decide (x4_1 < (l0.length : Int)) = true := decide_eq_true c3
    clear c3
    by_cases c4 : x4_1 < 4096
    ·rw [if_pos c4] at H
     have c4b0 : decide (x4_1 < 4096) = true := decide_eq_true c4
     clear c4
     by_cases c5 : 0 ≤ x4_1
     ·rw [if_pos c5] at H
      have c5b0 : decide (0 ≤ x4_1) = true := decide_eq_true c5
      clear c5
      have H' := Aside0.mk H
      clear H
      try go_wp2
      have n0_ := Aside0.mk (blk_drew BK101.out)
      have n1_ := Aside0.mk (below_drew1 HB.out)
      clear BK101
      clear HB
      have BK101 := n0_
      have HB := n1_
      clear n0_ n1_
      have p102 : 0 ≤ (x4_1 : Int) := of_decide_eq_true (by first | (with_reducible assumption) | assumption)
      have q102 : x4_1 < (l0.length : Int) := of_decide_eq_true (by first | (with_reducible assumption) | assumption)
      obtain ⟨ad102, e102, hx102_0⟩ := Kd.at_int HR0.out x4_1 p102 q102
      have hw102_0 := hx102_0
      cases e102
      replace hx102_0 := pw_cell_below (below_then HB0.out HW0.out HB.out) hx102_0
      replace p102 := eq_true p102
      replace q102 := eq_true q102
      refine start_ (n := 16) (S := fun w' => w'.cell? ⟨gb101, 0, none⟩ = some (.slice (some ad102) l0.length c0) ∧ w'.cell? ⟨gb101, 1, none⟩ = some (.int .i64 0) ∧ w'.cell? ⟨gb101, 2, none⟩ = some (.int .u64 x102002_1) ∧ w'.cell? (ad102.add (x4_1).toNat) = some (.int .u8 (rd l0 x4_1))) (ds := [15]) #[false, false, false, false, false, false, false, false, false, false, false, false, false, false, false, false] (by kernel_rfl) rfl rfl ⟨(blk_cell BK101.out 0).trans rfl, (blk_cell BK101.out 1).trans rfl, (blk_cell BK101.out 2).trans rfl, hx102_0⟩ (fun hHeld => ?_); refine with_tabW spec_l01From.tab5 spec_l01From.bits5 (fun HT_ HW_ => ?_)
      generalize wr.drew = w6 at BK101 HB hx102_0 hHeld ⊢
      refine pure_ (i := 0) (N := some 22) (v := ?_) (a' := ?_) #[true, false, false, false, false, false, false, false, false, false, false, false, false, false, false, false] rfl rfl (any_of HT_.out (by kernel_rfl)) (fun _ _ _ h => h) (Or.inl ⟨by rfl, ?_⟩) ?_ ?_
      rotate_left
      ·intro w'
       go_simp
       with_reducible rfl
      rotate_left
      ·simp only [Act.put, List.setIfInBounds_toArray, List.set_cons_zero, List.set_cons_succ, i64_w, i32_w]
       rfl
      refine pure_ (i := 1) (N := some 23) (v := ?_) (a' := ?_) #[true, true, false, false, false, false, false, false, false, false, false, false, false, false, false, false] rfl rfl (any_of HT_.out (by kernel_rfl)) (fun _ _ _ h => h) (Or.inl ⟨by rfl, ?_⟩) ?_ ?_
      rotate_left
      ·intro w'
       go_simp
       with_reducible rfl
      rotate_left
      ·simp only [Act.put, List.setIfInBounds_toArray, List.set_cons_zero, List.set_cons_succ, i64_w, i32_w]
       rfl
      refine pure_ (i := 2) (N := some 24) (v := ?_) (a' := ?_) #[true, true, true, false, false, false, false, false, false, false, false, false, false, false, false, false] rfl rfl (any_of HT_.out (by kernel_rfl)) (fun _ _ _ h => h) (Or.inl ⟨by rfl, ?_⟩) ?_ ?_
      rotate_left
      ·intro w'
       go_simp
       with_reducible rfl
      rotate_left
      ·simp only [Act.put, List.setIfInBounds_toArray, List.set_cons_zero, List.set_cons_succ, i64_w, i32_w]
       rfl
      refine pure_ (i := 3) (N := some 25) (v := ?_) (a' := ?_) #[true, true, true, true, false, false, false, false, false, false, false, false, false, false, false, false] rfl rfl (any_of HT_.out (by kernel_rfl)) (fun _ _ _ h => h) (Or.inl ⟨by rfl, ?_⟩) ?_ ?_
      rotate_left
      ·intro w'
       go_simp
       with_reducible rfl
      rotate_left
      ·simp only [Act.put, List.setIfInBounds_toArray, List.set_cons_zero, List.set_cons_succ, i64_w, i32_w]
       rfl
      refine pure_ (i := 6) (N := some 28) (v := ?_) (a' := ?_) #[true, true, true, true, false, false, true, false, false, false, false, false, false, false, false, false] rfl rfl (any_of HT_.out (by kernel_rfl)) (fun _ _ _ h => h) (Or.inl ⟨by rfl, ?_⟩) ?_ ?_
      rotate_left
      ·intro w'
       go_simp
       with_reducible rfl
      rotate_left
      ·simp only [Act.put, List.setIfInBounds_toArray, List.set_cons_zero, List.set_cons_succ, i64_w, i32_w]
       rfl
      refine pure_ (i := 7) (N := some 29) (v := ?_) (a' := ?_) #[true, true, true, true, false, false, true, true, false, false, false, false, false, false, false, false] rfl rfl (any_of HT_.out (by kernel_rfl)) (fun _ _ _ h => h) (Or.inl ⟨by rfl, ?_⟩) ?_ ?_
      rotate_left
      ·intro w'
       go_simp
       with_reducible rfl
      rotate_left
      ·simp only [Act.put, List.setIfInBounds_toArray, List.set_cons_zero, List.set_cons_succ, i64_w, i32_w]
       rfl
      refine pure_ (i := 8) (N := some 30) (v := ?_) (a' := ?_) #[true, true, true, true, false, false, true, true, true, false, false, false, false, false, false, false] rfl rfl (any_of HT_.out (by kernel_rfl)) (fun _ _ _ h => h) (Or.inl ⟨by rfl, ?_⟩) ?_ ?_
      rotate_left
      ·intro w'
       go_simp
       with_reducible rfl
      rotate_left
      ·simp only [Act.put, List.setIfInBounds_toArray, List.set_cons_zero, List.set_cons_succ, i64_w, i32_w]
       rfl
      refine take_ (i := 4) (N := some 26) (v := ?_) (a' := ?_) #[true, true, true, true, true, false, true, true, true, false, false, false, false, false, false, false] rfl rfl (take_ofW HT_.out HW_.out (by kernel_rfl)) (fun _ _ _ h => h) (Or.inl ⟨by rfl, ?_⟩) hHeld ?_ ?_
      rotate_left
      ·rintro w' ⟨s0, s1, s2, s3⟩
       go_simp
       with_reducible rfl
      rotate_left
      ·simp only [Act.put, List.setIfInBounds_toArray, List.set_cons_zero, List.set_cons_succ, i64_w, i32_w]
       rfl
      refine pure_ (i := 5) (N := some 27) (v := ?_) (a' := ?_) #[true, true, true, true, true, true, true, true, true, false, false, false, false, false, false, false] rfl rfl (any_of HT_.out (by kernel_rfl)) (fun _ _ _ h => h) (Or.inl ⟨by rfl, ?_⟩) ?_ ?_
      rotate_left
      ·intro w'
       go_simp
       with_reducible rfl
      rotate_left
      ·simp only [Act.put, List.setIfInBounds_toArray, List.set_cons_zero, List.set_cons_succ, i64_w, i32_w]
       rfl
      refine take_ (i := 9) (N := some 31) (v := ?_) (a' := ?_) #[true, true, true, true, true, true, true, true, true, true, false, false, false, false, false, false] rfl rfl (take_ofW HT_.out HW_.out (by kernel_rfl)) (fun _ _ _ h => h) (Or.inl ⟨by rfl, ?_⟩) hHeld ?_ ?_
      rotate_left
      ·rintro w' ⟨s0, s1, s2, s3⟩
       go_simp
       with_reducible rfl
      rotate_left
      ·simp only [Act.put, List.setIfInBounds_toArray, List.set_cons_zero, List.set_cons_succ, i64_w, i32_w]
       rfl
      refine pure_ (i := 10) (N := some 32) (v := ?_) (a' := ?_) #[true, true, true, true, true, true, true, true, true, true, true, false, false, false, false, false] rfl rfl (any_of HT_.out (by kernel_rfl)) (fun _ _ _ h => h) (Or.inl ⟨by rfl, ?_⟩) ?_ ?_
      rotate_left
      ·intro w'
       go_simp
       with_reducible rfl
      rotate_left
      ·simp only [Act.put, List.setIfInBounds_toArray, List.set_cons_zero, List.set_cons_succ, i64_w, i32_w]
       rfl
      refine pure_ (i := 11) (N := some 33) (v := ?_) (a' := ?_) #[true, true, true, true, true, true, true, true, true, true, true, true, false, false, false, false] rfl rfl (any_of HT_.out (by kernel_rfl)) (fun _ _ _ h => h) (Or.inl ⟨by rfl, ?_⟩) ?_ ?_
      rotate_left
      ·intro w'
       go_simp
       with_reducible rfl
      rotate_left
      ·simp only [Act.put, List.setIfInBounds_toArray, List.set_cons_zero, List.set_cons_succ, i64_w, i32_w]
       rfl
      refine pure_ (i := 12) (N := some 34) (v := ?_) (a' := ?_) #[true, true, true, true, true, true, true, true, true, true, true, true, true, false, false, false] rfl rfl (any_of HT_.out (by kernel_rfl)) (fun _ _ _ h => h) (Or.inl ⟨by rfl, ?_⟩) ?_ ?_
      rotate_left
      ·intro w'
       go_simp
       with_reducible rfl
      rotate_left
      ·simp only [Act.put, List.setIfInBounds_toArray, List.set_cons_zero, List.set_cons_succ, i64_w, i32_w]
       rfl
      refine pure_ (i := 13) (N := some 35) (v := ?_) (a' := ?_) #[true, true, true, true, true, true, true, true, true, true, true, true, true, true, false, false] rfl rfl (any_of HT_.out (by kernel_rfl)) (fun _ _ _ h => h) (Or.inl ⟨by rfl, ?_⟩) ?_ ?_
      rotate_left
      ·intro w'
       go_simp
       with_reducible rfl
      rotate_left
      ·simp only [Act.put, List.setIfInBounds_toArray, List.set_cons_zero, List.set_cons_succ, i64_w, i32_w]
       rfl
      refine pure_ (i := 14) (N := some 36) (v := ?_) (a' := ?_) #[true, true, true, true, true, true, true, true, true, true, true, true, true, true, true, false] rfl rfl (any_of HT_.out (by kernel_rfl)) (fun _ _ _ h => h) (Or.inl ⟨by rfl, ?_⟩) ?_ ?_
      rotate_left
      ·intro w'
       go_simp
       with_reducible rfl
      rotate_left
      ·simp only [Act.put, List.setIfInBounds_toArray, List.set_cons_zero, List.set_cons_succ, i64_w, i32_w]
       rfl
      refine last_ (i := 15) (N := none) #[true, true, true, true, true, true, true, true, true, true, true, true, true, true, true, true] rfl rfl (one_of HT_.out (by kernel_rfl)) (by decide) (fun K hK => ?_)
      have hs7 : w6.cell? ⟨gb101, 2, none⟩ = some (.int .u64 x102002_1) := (blk_cell BK101.out 2).trans rfl
      have hfs7 := blk_frozen BK101.out 2
      refine skip_ (w1 := ?_) (by rfl) rfl ?_ ?_
      rotate_left
      ·go_simp
       rfl
      refine hK.out _ _ ?_
      clear hK K
      refine done_ (done_of HT_.out (by kernel_rfl)) ?_
      try go_wp2
      go_roundg k1
      case measure => have := HK1.out; omega
      case rel => exact ⟨(wrap64 (x4_1 + 1)), (IntKind.u64.wrap ((IntKind.u64.wrap ((IntKind.u64.wrap (x102002_1 * 1099511628211)) + (IntKind.u64.wrap (rd l0 x4_1)))) + 211)), (by first | rfl | (simp; done) | (simp [*]; done)), H', ⟨by have := HK1.out; omega⟩, ⟨by (with_reducible repeat (first | refine blk_drewN ?_ _ | refine blk_drew ?_ | refine blk_alloc ?_ _)); refine blk_put (cs := #[.slice (some ad102) l0.length c0, .int .i64 0, .int .u64 x102002_1]) ?_ 2 _ rfl; (with_reducible repeat (first | refine blk_drewN ?_ _ | refine blk_drew ?_ | refine blk_alloc ?_ _)); exact BK101.out⟩, ⟨by repeat (first | (with_reducible first | exact HB.out | apply below_alloc | apply pw_below_drewN | apply below_drew1 | refine below_set ?_ GW101.out) | exact HB.out)⟩⟩
     ·rw [if_neg c5] at H
      exact absurd H (by simp)
    ·rw [if_neg c4] at H
     have c4b0 : decide (x4_1 < 4096) = false := decide_eq_false c4
     clear c4
     simp only [Option.some.injEq, Prod.mk.injEq] at H
     obtain ⟨rfl, rfl, rfl⟩ := H
     go_wp2
     go_ret
     exact ⟨_, rfl, (show IsS92 w0 _ gb101 l0 0 x102002_1 from ⟨_, _, by (with_reducible repeat (first | refine blk_drewN ?_ _ | refine blk_drew ?_ | refine blk_alloc ?_ _)); exact BK101.out, GE101.out, HR0.out⟩), below_then HB0.out HW0.out (by repeat (first | (with_reducible first | exact HB.out | apply below_alloc | apply pw_below_drewN | apply below_drew1 | refine below_set ?_ GW101.out) | exact HB.out)), by repeat (first | (with_reducible first | exact HB.out | apply below_alloc | apply pw_below_drewN | apply below_drew1 | refine below_set ?_ GW101.out) | exact HB.out)⟩
   ·rw [if_neg c3] at H
    have c3b0 : decide (x4_1 < (l0.length : Int)) = false := decide_eq_false c3
    clear c3
    simp only [Option.some.injEq, Prod.mk.injEq] at H
    obtain ⟨rfl, rfl, rfl⟩ := H
    go_wp2
    go_ret
    exact ⟨_, rfl, (show IsS92 w0 _ gb101 l0 0 x102002_1 from ⟨_, _, by (with_reducible repeat (first | refine blk_drewN ?_ _ | refine blk_drew ?_ | refine blk_alloc ?_ _)); exact BK101.out, GE101.out, HR0.out⟩), below_then HB0.out HW0.out (by repeat (first | (with_reducible first | exact HB.out | apply below_alloc | apply pw_below_drewN | apply below_drew1 | refine below_set ?_ GW101.out) | exact HB.out)), by repeat (first | (with_reducible first | exact HB.out | apply below_alloc | apply pw_below_drewN | apply below_drew1 | refine below_set ?_ GW101.out) | exact HB.out)⟩

end Go.Proofs.Ytmihfmhfgjnfcab.Q

namespace Go.Proofs.Ytmihfmhfgjnfcab.Q
open Go.RowKit Go.Proofs.YtmihfmhfgjnfcabW.PrintWords Go.Proofs.YtmihfmhfgjnfcabW.PrintLast Go.Proofs.YtmihfmhfgjnfcabW.PrintMore
attribute [local go_sem] max2_int min2_int max_two min_two max_three min_three max_four min_four bn_leq bn_gtr bn_geq   -- for this text's walks alone
set_option linter.unusedVariables false
set_option linter.unusedSimpArgs false

/-! ### spec_l01Next: function 59 -/
def spec_l01Next.f (s0_0 : List Int) (s0_1 : Int) (s0_2 : Int) (a1 : Int) : Option (Int × Int × Int) := if a1 < 1 then (some (0, s0_1, s0_2)) else (if s0_1 < (s0_0.length : Int) then (if 0 ≤ s0_1 then (if a1 = 0 then (none) else (some (Int.tmod (wrap64 ((wrap64 (Go.bits .and .u64 ((IntKind.u64.wrap ((IntKind.u64.wrap (s0_2 * 6364136223846793005)) + 1442695040888963407)) / 8589934592) 16777215)) + (wrap64 (rd s0_0 s0_1)))) a1, wrap64 (s0_1 + 1), IntKind.u64.wrap ((IntKind.u64.wrap (s0_2 * 6364136223846793005)) + 1442695040888963407)))) else (none)) else (if a1 = 0 then (none) else (some (Int.tmod (wrap64 (Go.bits .and .u64 ((IntKind.u64.wrap ((IntKind.u64.wrap (s0_2 * 6364136223846793005)) + 1442695040888963407)) / 8589934592) 16777215)) a1, s0_1, IntKind.u64.wrap ((IntKind.u64.wrap (s0_2 * 6364136223846793005)) + 1442695040888963407)))))
set_option maxHeartbeats 8000000 in
set_option maxRecDepth 100000 in
theorem spec_l01Next.calls (g : Nat) (s0_0 : List Int) (s0_1 : Int) (s0_2 : Int) (a1 : Int) (r1 : Int) (r2 : Int) (r3 : Int) (w0 w : World) (hI : IsS92 w0 w g s0_0 s0_1 s0_2) (hB : Below w0.heap.size w0 w) (h : spec_l01Next.f s0_0 s0_1 s0_2 a1 = some (r1, r2, r3)) :
  Calls Try.prog 59 #[.pointer (some ⟨g, 0, none⟩), .int .i64 a1] w fun e w' => e = .returned (.int .i64 r1) ∧ IsS92 w0 w' g s0_0 r2 r3 ∧ Below w0.heap.size w0 w' ∧ KeepBut w w' g none := by
 have HI0 := Aside0.mk hI
 have HK := Aside0.mk (KeepBut.refl w g none)
 have HL := Aside0.mk hB.size
 clear hI
 have HW0 := Aside0.mk hB.size
 have HB := Aside0.mk hB
 clear hB
 have H : (if a1 < 1 then (some (0, s0_1, s0_2)) else (if s0_1 < (s0_0.length : Int) then (if 0 ≤ s0_1 then (if a1 = 0 then (none) else (some (Int.tmod (wrap64 ((wrap64 (Go.bits .and .u64 ((IntKind.u64.wrap ((IntKind.u64.wrap (s0_2 * 6364136223846793005)) + 1442695040888963407)) / 8589934592) 16777215)) + (wrap64 (rd s0_0 s0_1)))) a1, wrap64 (s0_1 + 1), IntKind.u64.wrap ((IntKind.u64.wrap (s0_2 * 6364136223846793005)) + 1442695040888963407)))) else (none)) else (if a1 = 0 then (none) else (some (Int.tmod (wrap64 (Go.bits .and .u64 ((IntKind.u64.wrap ((IntKind.u64.wrap (s0_2 * 6364136223846793005)) + 1442695040888963407)) / 8589934592) 16777215)) a1, s0_1, IntKind.u64.wrap ((IntKind.u64.wrap (s0_2 * 6364136223846793005)) + 1442695040888963407)))))) = some (r1, r2, r3) := h
 clear h
 by_cases c3 : a1 < 1
 ·rw [if_pos c3] at H
  have c3b0 : decide (a1 < 1) = true := decide_eq_true c3
  clear c3
  simp only [Option.some.injEq, Prod.mk.injEq] at H
  obtain ⟨rfl, rfl, rfl⟩ := H
  go_enter Try.func59, Try.ntmps59
  go_wp2
  repeat (go_quiet (fail); try go_wp2)
  go_ret
  exact ⟨by first | rfl | (simp [errW_none, errW_some] <;> rfl) | (simp [*, errW_none, errW_some] <;> rfl), by repeat (first | (with_reducible first | exact HI0.out | apply IsS92.alloc | apply IsS92.drewN | apply IsS92.drew | apply IsS92.set_1 | apply IsS92.set_2) | exact HI0.out), by repeat (first | (with_reducible first | exact HB.out | apply below_alloc | apply pw_below_drewN | apply below_drew1 | refine below_set ?_ (IsS92.ge HI0.out)) | exact HB.out), by repeat (first | (with_reducible first | exact HK.out | apply KeepBut.set_ | apply keep_drewN | apply keep_drew | apply keep_alloc) | exact HK.out)⟩
 ·rw [if_neg c3] at H
  have c3b0 : decide (a1 < 1) = false := decide_eq_false c3
  clear c3
  by_cases c4 : s0_1 < (s0_0.length : Int)
  ·rw [if_pos c4] at H
   have c4b0 : decide (s0_1 < (s0_0.length : Int)) = true := decide_eq_true c4
   clear c4
   by_cases c5 : 0 ≤ s0_1
   ·rw [if_pos c5] at H
    have c5b0 : decide (0 ≤ s0_1) = true := decide_eq_true c5
    clear c5
    by_cases c6 : a1 = 0
    ·rw [if_pos c6] at H
     exact absurd H (by simp)
    ·rw [if_neg c6] at H
     have c6b0 : (a1 == 0) = false := beq_eq_false_iff_ne.mpr c6
     have c6b1 : (a1 != 0) = true := bne_iff_ne.mpr c6
     simp only [Option.some.injEq, Prod.mk.injEq] at H
     obtain ⟨rfl, rfl, rfl⟩ := H
     obtain ⟨ASz7_0, cSz7_0, HGz7, hgz7, HSz7_0⟩ := HI0.out
     have hcz7_0 := cellS92_0 HGz7
     have hcz7_1 := cellS92_1 HGz7
     have hcz7_2 := cellS92_2 HGz7
     have hfz7_1 := blk_frozen HGz7 1
     have hfz7_2 := blk_frozen HGz7 2
     clear HGz7 hgz7
     have p103 : 0 ≤ (s0_1 : Int) := of_decide_eq_true (by first | (with_reducible assumption) | assumption)
     have q103 : s0_1 < (s0_0.length : Int) := of_decide_eq_true (by first | (with_reducible assumption) | assumption)
     obtain ⟨ad103, e103, hx103_0⟩ := Kd.at_int HSz7_0 s0_1 p103 q103
     cases e103
     have hn103_0 : ad103.block ≠ g := Nat.ne_of_lt (Nat.lt_of_lt_of_le (by have := World.block_lt_of_cell? _ _ hx103_0; first | rwa [add_block] at this | exact this) (IsS92.ge HI0.out))
     replace hx103_0 := pw_cell_below HB.out hx103_0
     replace hx103_0 := (cell_far (p := ⟨g, 2, none⟩) (by first | (rw [add_block]; exact hn103_0) | (show (Addr.add _ _).block ≠ _; rw [add_block]; exact hn103_0) | exact hn103_0) (.int .u64 (IntKind.u64.wrap ((IntKind.u64.wrap (s0_2 * 6364136223846793005)) + 1442695040888963407)))).trans hx103_0
     (try have hy103_0 := fun (n_ : Nat) => (show (((w.drewN n_).setCell ⟨g, 2, none⟩ (.int .u64 (IntKind.u64.wrap ((IntKind.u64.wrap (s0_2 * 6364136223846793005)) + 1442695040888963407))))).cell? _ = some _ from hx103_0))
     clear hn103_0
     replace p103 := eq_true p103
     replace q103 := eq_true q103
     go_enter Try.func59, Try.ntmps59
     go_wp2
     repeat (go_quiet (fail); try go_wp2)
     go_ret
     exact ⟨by first | rfl | (simp [errW_none, errW_some] <;> rfl) | (simp [*, errW_none, errW_some] <;> rfl), by repeat (first | (with_reducible first | exact HI0.out | apply IsS92.alloc | apply IsS92.drewN | apply IsS92.drew | apply IsS92.set_1 | apply IsS92.set_2) | exact HI0.out), by repeat (first | (with_reducible first | exact HB.out | apply below_alloc | apply pw_below_drewN | apply below_drew1 | refine below_set ?_ (IsS92.ge HI0.out)) | exact HB.out), by repeat (first | (with_reducible first | exact HK.out | apply KeepBut.set_ | apply keep_drewN | apply keep_drew | apply keep_alloc) | exact HK.out)⟩
   ·rw [if_neg c5] at H
    exact absurd H (by simp)
  ·rw [if_neg c4] at H
   have c4b0 : decide (s0_1 < (s0_0.length : Int)) = false := decide_eq_false c4
   clear c4
   by_cases c8 : a1 = 0
   ·rw [if_pos c8] at H
    exact absurd H (by simp)
   ·rw [if_neg c8] at H
    have c8b0 : (a1 == 0) = false := beq_eq_false_iff_ne.mpr c8
    have c8b1 : (a1 != 0) = true := bne_iff_ne.mpr c8
    simp only [Option.some.injEq, Prod.mk.injEq] at H
    obtain ⟨rfl, rfl, rfl⟩ := H
    obtain ⟨ASz9_0, cSz9_0, HGz9, hgz9, HSz9_0⟩ := HI0.out
    have hcz9_0 := cellS92_0 HGz9
    have hcz9_1 := cellS92_1 HGz9
    have hcz9_2 := cellS92_2 HGz9
    have hfz9_1 := blk_frozen HGz9 1
    have hfz9_2 := blk_frozen HGz9 2
    clear HGz9 hgz9
    go_enter Try.func59, Try.ntmps59
    go_wp2
    repeat (go_quiet (fail); try go_wp2)
    go_ret
    exact ⟨by first | rfl | (simp [errW_none, errW_some] <;> rfl) | (simp [*, errW_none, errW_some] <;> rfl), by repeat (first | (with_reducible first | exact HI0.out | apply IsS92.alloc | apply IsS92.drewN | apply IsS92.drew | apply IsS92.set_1 | apply IsS92.set_2) | exact HI0.out), by repeat (first | (with_reducible first | exact HB.out | apply below_alloc | apply pw_below_drewN | apply below_drew1 | refine below_set ?_ (IsS92.ge HI0.out)) | exact HB.out), by repeat (first | (with_reducible first | exact HK.out | apply KeepBut.set_ | apply keep_drewN | apply keep_drew | apply keep_alloc) | exact HK.out)⟩

end Go.Proofs.Ytmihfmhfgjnfcab.Q

namespace Go.Proofs.Ytmihfmhfgjnfcab.Q
open Go.RowKit Go.Proofs.YtmihfmhfgjnfcabW.PrintWords Go.Proofs.YtmihfmhfgjnfcabW.PrintLast Go.Proofs.YtmihfmhfgjnfcabW.PrintMore
attribute [local go_sem] max2_int min2_int max_two min_two max_three min_three max_four min_four bn_leq bn_gtr bn_geq   -- for this text's walks alone
set_option linter.unusedVariables false
set_option linter.unusedSimpArgs false

/-! ### spec_l01Pick: function 61 -/
def spec_l01Pick.f (s0_0 : List Int) (s0_1 : Int) (s0_2 : Int) (l1 : List Int) : Option (Int × Int × Int) := (spec_l01Next.f s0_0 s0_1 s0_2 (l1.length : Int)).bind fun bt111 => (if 0 ≤ bt111.1 then (if bt111.1 < (l1.length : Int) then (some (rd l1 bt111.1, bt111.2.1, bt111.2.2)) else (none)) else (none))
set_option maxHeartbeats 8000000 in
set_option maxRecDepth 100000 in
theorem spec_l01Pick.calls (g : Nat) (s0_0 : List Int) (s0_1 : Int) (s0_2 : Int) (A1 : Option Addr) (c1 : Nat) (l1 : List Int) (r1 : Int) (r2 : Int) (r3 : Int) (w0 w : World) (hI : IsS92 w0 w g s0_0 s0_1 s0_2) (hB : Below w0.heap.size w0 w) (hr1 : Kd.C (Kd.int .i64) w A1 l1.length l1) (hc1 : l1.length ≤ c1) (hf1 : ∀ ad, A1 = some ad → 0 < l1.length → ad.block ≠ g) (h : spec_l01Pick.f s0_0 s0_1 s0_2 l1 = some (r1, r2, r3)) :
  Calls Try.prog 61 #[.pointer (some ⟨g, 0, none⟩), .slice A1 l1.length c1] w fun e w' => e = .returned (.int .i64 r1) ∧ IsS92 w0 w' g s0_0 r2 r3 ∧ Below w0.heap.size w0 w' ∧ KeepBut w w' g none := by
 have HR1 := Aside0.mk hr1
 have HC1 := Aside0.mk hc1
 clear hr1 hc1
 have HI0 := Aside0.mk hI
 have HK := Aside0.mk (KeepBut.refl w g none)
 have HL := Aside0.mk hB.size
 clear hI
 have HW0 := Aside0.mk hB.size
 have HB := Aside0.mk hB
 clear hB
 have H : ((spec_l01Next.f s0_0 s0_1 s0_2 (l1.length : Int)).bind fun bt111 => (if 0 ≤ bt111.1 then (if bt111.1 < (l1.length : Int) then (some (rd l1 bt111.1, bt111.2.1, bt111.2.2)) else (none)) else (none))) = some (r1, r2, r3) := h
 clear h
 replace H := Option.bind_eq_some_iff.mp H
 obtain ⟨⟨t111, t112, t113⟩, A30, H⟩ := H
 replace H : (if 0 ≤ t111 then (if t111 < (l1.length : Int) then (some (rd l1 t111, t112, t113)) else (none)) else (none)) = some (r1, r2, r3) := H
 have A3 := Aside0.mk A30
 clear A30
 by_cases c4 : 0 ≤ t111
 ·rw [if_pos c4] at H
  have c4b0 : decide (0 ≤ t111) = true := decide_eq_true c4
  clear c4
  by_cases c5 : t111 < (l1.length : Int)
  ·rw [if_pos c5] at H
   have c5b0 : decide (t111 < (l1.length : Int)) = true := decide_eq_true c5
   clear c5
   simp only [Option.some.injEq, Prod.mk.injEq] at H
   obtain ⟨rfl, rfl, rfl⟩ := H
   go_enter Try.func61, Try.ntmps61
   go_wp2_with (first | ((with_reducible refine gate_callee (f := 59) rfl ?_); refine goesL_ (some 9) rfl rfl Try.func59 (by kernel_rfl) rfl #[.pointer (some ⟨g, 0, none⟩), .int .i64 (l1.length : Int)] rfl (by (try simp only [List.map_toArray, List.map_cons, List.map_nil]); first | done | rfl | (simp only [List.length_drop, List.length_take]; rfl)) ?_; (with_reducible refine (spec_l01Next.calls g s0_0 s0_1 s0_2 (l1.length : Int) t111 t112 t113 w0 _ ?side1 ?side2 A3.out).mono ?_); (case side1 => repeat (first | (with_reducible first | exact HI0.out | apply IsS92.alloc | apply IsS92.drewN | apply IsS92.drew | apply IsS92.set_1 | apply IsS92.set_2) | exact HI0.out)); (case side2 => repeat (first | (with_reducible first | exact HB.out | apply below_alloc | apply pw_below_drewN | apply below_drew1 | refine below_set ?_ (IsS92.ge HI0.out)) | exact HB.out)); rintro e w6 ⟨rfl, hi, hb, hk⟩; refine ⟨_, rfl, ?_⟩; have n0_ := Aside0.mk (KeepBut.trans (by repeat (first | (with_reducible first | exact HK.out | apply KeepBut.set_ | apply keep_drewN | apply keep_drew | apply keep_alloc) | exact HK.out)) hk (.inl rfl)); have n1_ := Aside0.mk (hb); have n2_ := Aside0.mk (hi); clear HK; clear HB; clear HI0; have HK := n0_; have HB := n1_; have HI0 := n2_; clear n0_ n1_ n2_; (try clear hb); (try clear hb2); (try clear hk); (try clear hi); have p114 : 0 ≤ (t111 : Int) := of_decide_eq_true (by first | (with_reducible assumption) | assumption); have q114 : t111 < (l1.length : Int) := of_decide_eq_true (by first | (with_reducible assumption) | assumption); obtain ⟨ad114, e114, hx114_0⟩ := Kd.at_int HR1.out t111 p114 q114; cases e114; replace hx114_0 := keep_cell HK.out hx114_0 (by first | (rw [add_block]; exact hf1 _ rfl (by omega)) | exact hf1 _ rfl (by omega) | exact hf1 ad114 rfl (by omega)); replace p114 := eq_true p114; replace q114 := eq_true q114))
   go_ret
   exact ⟨by first | rfl | (simp [errW_none, errW_some] <;> rfl) | (simp [*, errW_none, errW_some] <;> rfl), by repeat (first | (with_reducible first | exact HI0.out | apply IsS92.alloc | apply IsS92.drewN | apply IsS92.drew | apply IsS92.set_1 | apply IsS92.set_2) | exact HI0.out), by repeat (first | (with_reducible first | exact HB.out | apply below_alloc | apply pw_below_drewN | apply below_drew1 | refine below_set ?_ (IsS92.ge HI0.out)) | exact HB.out), by repeat (first | (with_reducible first | exact HK.out | apply KeepBut.set_ | apply keep_drewN | apply keep_drew | apply keep_alloc) | exact HK.out)⟩
  ·rw [if_neg c5] at H
   exact absurd H (by simp)
 ·rw [if_neg c4] at H
  exact absurd H (by simp)

end Go.Proofs.Ytmihfmhfgjnfcab.Q

namespace Go.Proofs.Ytmihfmhfgjnfcab.Q
open Go.RowKit Go.Proofs.YtmihfmhfgjnfcabW.PrintWords Go.Proofs.YtmihfmhfgjnfcabW.PrintLast Go.Proofs.YtmihfmhfgjnfcabW.PrintMore
attribute [local go_sem] max2_int min2_int max_two min_two max_three min_three max_four min_four bn_leq bn_gtr bn_geq   -- for this text's walks alone
set_option linter.unusedVariables false
set_option linter.unusedSimpArgs false

/-! ### spec_l01Near: function 98 -/
def spec_l01Near.f (s0_0 : List Int) (s0_1 : Int) (s0_2 : Int) (a1 : Int) : Option (Int × Int × Int) := (spec_l01Next.f s0_0 s0_1 s0_2 14).bind fun bt492 => (if bt492.1 = 0 then ((spec_l01Pick.f s0_0 bt492.2.1 bt492.2.2 (([(-1), wrap64 (a1 + 1), 1099511627776, (-4611686018427387904)] : List Int))).bind fun bt498 => (some (bt498.1, bt498.2.1, bt498.2.2))) else ((spec_l01Next.f s0_0 bt492.2.1 bt492.2.2 (wrap64 (a1 + 1))).bind fun bt501 => (some (bt501.1, bt501.2.1, bt501.2.2))))
set_option maxHeartbeats 8000000 in
set_option maxRecDepth 100000 in
theorem spec_l01Near.calls (g : Nat) (s0_0 : List Int) (s0_1 : Int) (s0_2 : Int) (a1 : Int) (r1 : Int) (r2 : Int) (r3 : Int) (w0 w : World) (hI : IsS92 w0 w g s0_0 s0_1 s0_2) (hB : Below w0.heap.size w0 w) (h : spec_l01Near.f s0_0 s0_1 s0_2 a1 = some (r1, r2, r3)) :
  Calls Try.prog 98 #[.pointer (some ⟨g, 0, none⟩), .int .i64 a1] w fun e w' => e = .returned (.int .i64 r1) ∧ IsS92 w0 w' g s0_0 r2 r3 ∧ Below w0.heap.size w0 w' ∧ KeepBut w w' g none := by
 have HI0 := Aside0.mk hI
 have HK := Aside0.mk (KeepBut.refl w g none)
 have HL := Aside0.mk hB.size
 clear hI
 have HW0 := Aside0.mk hB.size
 have HB := Aside0.mk hB
 clear hB
 have H : ((spec_l01Next.f s0_0 s0_1 s0_2 14).bind fun bt492 => (if bt492.1 = 0 then ((spec_l01Pick.f s0_0 bt492.2.1 bt492.2.2 (([(-1), wrap64 (a1 + 1), 1099511627776, (-4611686018427387904)] : List Int))).bind fun bt498 => (some (bt498.1, bt498.2.1, bt498.2.2))) else ((spec_l01Next.f s0_0 bt492.2.1 bt492.2.2 (wrap64 (a1 + 1))).bind fun bt501 => (some (bt501.1, bt501.2.1, bt501.2.2))))) = some (r1, r2, r3) := h
 clear h
 replace H := Option.bind_eq_some_iff.mp H
 obtain ⟨⟨t492, t493, t494⟩, A30, H⟩ := H
 replace H : (if t492 = 0 then ((spec_l01Pick.f s0_0 t493 t494 (([(-1), wrap64 (a1 + 1), 1099511627776, (-4611686018427387904)] : List Int))).bind fun bt498 => (some (bt498.1, bt498.2.1, bt498.2.2))) else ((spec_l01Next.f s0_0 t493 t494 (wrap64 (a1 + 1))).bind fun bt501 => (some (bt501.1, bt501.2.1, bt501.2.2)))) = some (r1, r2, r3) := H
 have A3 := Aside0.mk A30
 clear A30
 by_cases c4 : t492 = 0
 ·rw [if_pos c4] at H
  have c4b0 : (t492 == 0) = true := beq_iff_eq.mpr c4
  have c4b1 : (t492 != 0) = false := bne_eq_false_iff_eq.mpr c4
  clear c4
  obtain ⟨y495, hy495⟩ : ∃ y_ : List Int, y_ = (([(-1), wrap64 (a1 + 1), 1099511627776, (-4611686018427387904)] : List Int)) := ⟨_, rfl⟩
  replace H : ((spec_l01Pick.f s0_0 t493 t494 y495).bind fun bt498 => (some (bt498.1, bt498.2.1, bt498.2.2))) = some (r1, r2, r3) := by first | (rw [hy495]; with_reducible exact H) | (have H2_ := (Option.bind_some _ _).symm.trans H; rw [hy495]; with_reducible exact H2_) | (have H2_ := (Option.bind_some _ _).symm.trans H; with_reducible exact H2_) | with_reducible exact H | (rw [hy495]; exact H) | exact H
  have Ny495 := Aside0.mk hy495
  clear hy495
  replace H := Option.bind_eq_some_iff.mp H
  obtain ⟨⟨t498, t499, t500⟩, A50, H⟩ := H
  replace H : (some (t498, t499, t500)) = some (r1, r2, r3) := H
  have A5 := Aside0.mk A50
  clear A50
  simp only [Option.some.injEq, Prod.mk.injEq] at H
  obtain ⟨rfl, rfl, rfl⟩ := H
  go_enter Try.func98, Try.ntmps98
  go_wp2_with (first | ((with_reducible refine gate_callee (f := 59) rfl ?_); refine goesL_ (some 6) rfl rfl Try.func59 (by kernel_rfl) rfl #[.pointer (some ⟨g, 0, none⟩), .int .i64 14] rfl (by (try simp only [List.map_toArray, List.map_cons, List.map_nil]); first | done | rfl | (simp only [List.length_drop, List.length_take]; rfl)) ?_; (with_reducible refine (spec_l01Next.calls g s0_0 s0_1 s0_2 14 t492 t493 t494 w0 _ ?side1 ?side2 A3.out).mono ?_); (case side1 => repeat (first | (with_reducible first | exact HI0.out | apply IsS92.alloc | apply IsS92.drewN | apply IsS92.drew | apply IsS92.set_1 | apply IsS92.set_2) | exact HI0.out)); (case side2 => repeat (first | (with_reducible first | exact HB.out | apply below_alloc | apply pw_below_drewN | apply below_drew1 | refine below_set ?_ (IsS92.ge HI0.out)) | exact HB.out)); rintro e w6 ⟨rfl, hi, hb, hk⟩; refine ⟨_, rfl, ?_⟩; have n0_ := Aside0.mk (KeepBut.trans (by repeat (first | (with_reducible first | exact HK.out | apply KeepBut.set_ | apply keep_drewN | apply keep_drew | apply keep_alloc) | exact HK.out)) hk (.inl rfl)); have n1_ := Aside0.mk (hb); have n2_ := Aside0.mk (hi); clear HK; clear HB; clear HI0; have HK := n0_; have HB := n1_; have HI0 := n2_; clear n0_ n1_ n2_; (try clear hb); (try clear hb2); (try clear hk); (try clear hi)) | ((with_reducible refine gate_dst (N := 11) rfl ?_); refine Kd.R_lit (Kd.int .i64) _ 2 ?hg (N := 11) ?hd (xs := ([(-1), wrap64 (a1 + 1), 1099511627776, (-4611686018427387904)] : List Int)) (inner := [.int .i64 (-1), .int .i64 (wrap64 (a1 + 1)), .int .i64 1099511627776, .int .i64 (-4611686018427387904)]) (ok := fun _ => True) (okp := fun _ => True) ?hr ?hp (fun _ hk => hk) trivial (Below.refl _ _) (Nat.le_refl _) (by simp) ?_; (case hd => rfl); (case hg => rfl); (case hr => first | (go_simp; done) | (go_simp; rfl)); (case hp => exact (Reps.one (show Kd.M (Kd.int .i64) _ _ _ (-1) [.int .i64 (-1)] from rfl) (Reps.one (show Kd.M (Kd.int .i64) _ _ _ (wrap64 (a1 + 1)) [.int .i64 (wrap64 (a1 + 1))] from rfl) (Reps.one (show Kd.M (Kd.int .i64) _ _ _ 1099511627776 [.int .i64 1099511627776] from rfl) (Reps.one (show Kd.M (Kd.int .i64) _ _ _ (-4611686018427387904) [.int .i64 (-4611686018427387904)] from rfl) (Reps.none _ _)))))); intro v496 w7 ho8 hb hg_ hnew_; clear hg_ hnew_; (first | rw [← Ny495.out] at ho8 | (simp only [Int.reduceToNat] at ho8; rw [← Ny495.out] at ho8)); have n0_ := Aside0.mk (Kd.R_lower ho8 (keep_size (w := w) (g := g) (row := none) (by repeat (first | (with_reducible first | exact HK.out | apply KeepBut.set_ | apply keep_drewN | apply keep_drew | apply keep_alloc) | exact HK.out)))); have n1_ := Aside0.mk (IsS92.below (by repeat (first | (with_reducible first | exact HI0.out | apply IsS92.alloc | apply IsS92.drewN | apply IsS92.drew | apply IsS92.set_1 | apply IsS92.set_2) | exact HI0.out)) hb); have n2_ := Aside0.mk (KeepBut.trans (by repeat (first | (with_reducible first | exact HK.out | apply KeepBut.set_ | apply keep_drewN | apply keep_drew | apply keep_alloc) | exact HK.out)) (KeepBut.of_below hb g none) (.inl rfl)); have n3_ := Aside0.mk (below_step (by repeat (first | (with_reducible first | exact HB.out | apply below_alloc | apply pw_below_drewN | apply below_drew1 | refine below_set ?_ (IsS92.ge HI0.out)) | exact HB.out)) hb); clear HI0; clear HK; clear HB; have HO497 := n0_; have HI0 := n1_; have HK := n2_; have HB := n3_; clear n0_ n1_ n2_ n3_; clear hb ho8; obtain ⟨Ao9, co9, eo9⟩ := Kd.R_slice HO497.out; subst eo9) | ((with_reducible refine gate_callee (f := 61) rfl ?_); refine goesL_ (some 12) rfl rfl Try.func61 (by kernel_rfl) rfl #[.pointer (some ⟨g, 0, none⟩), .slice Ao9 y495.length co9] rfl (by (try simp only [List.map_toArray, List.map_cons, List.map_nil]); first | done | rfl | (simp only [List.length_drop, List.length_take]; rfl)) ?_; (with_reducible refine (spec_l01Pick.calls g s0_0 t493 t494 _ _ y495 t498 t499 t500 w0 _ ?side1 ?side2 ?side3 ?side4 ?side5 A5.out).mono ?_); (case side1 => repeat (first | (with_reducible first | exact HI0.out | apply IsS92.alloc | apply IsS92.drewN | apply IsS92.drew | apply IsS92.set_1 | apply IsS92.set_2) | exact HI0.out)); (case side2 => repeat (first | (with_reducible first | exact HB.out | apply below_alloc | apply pw_below_drewN | apply below_drew1 | refine below_set ?_ (IsS92.ge HI0.out)) | exact HB.out)); (case side3 => repeat (first | exact (Kd.R_reads' HO497.out).2.2 | (with_reducible refine Kd.C_alloc ?_ _) | (with_reducible refine Kd.C_drewN ?_ _) | (with_reducible refine Kd.C_drew ?_))); (case side4 => exact (Kd.R_reads' HO497.out).2.1); (case side5 => exact far_slice (IsS92.own_ne HI0.out HO497.out (by decide))); rintro e w10 ⟨rfl, hi, hb, hk⟩; refine ⟨_, rfl, ?_⟩; have n0_ := Aside0.mk (Kd.R_mono (Kd.R_keep (IsS92.apart (show IsS92 w0 _ g s0_0 t493 t494 from by repeat (first | (with_reducible first | exact HI0.out | apply IsS92.alloc | apply IsS92.drewN | apply IsS92.drew | apply IsS92.set_1 | apply IsS92.set_2) | exact HI0.out)) (by (with_reducible repeat (first | apply Kd.R_alloc | apply Kd.R_drewN | apply Kd.R_drew)); exact HO497.out) (by decide)) hk (fun _ h => h.2)) (fun _ h => h.1)); have n1_ := Aside0.mk (KeepBut.trans (by repeat (first | (with_reducible first | exact HK.out | apply KeepBut.set_ | apply keep_drewN | apply keep_drew | apply keep_alloc) | exact HK.out)) hk (.inl rfl)); have n2_ := Aside0.mk (hb); have n3_ := Aside0.mk (hi); clear HO497; clear HK; clear HB; clear HI0; have HO497 := n0_; have HK := n1_; have HB := n2_; have HI0 := n3_; clear n0_ n1_ n2_ n3_; (try clear hb); (try clear hb2); (try clear hk); (try clear hi)))
  go_ret
  exact ⟨by first | rfl | (simp [errW_none, errW_some] <;> rfl) | (simp [*, errW_none, errW_some] <;> rfl), by repeat (first | (with_reducible first | exact HI0.out | apply IsS92.alloc | apply IsS92.drewN | apply IsS92.drew | apply IsS92.set_1 | apply IsS92.set_2) | exact HI0.out), by repeat (first | (with_reducible first | exact HB.out | apply below_alloc | apply pw_below_drewN | apply below_drew1 | refine below_set ?_ (IsS92.ge HI0.out)) | exact HB.out), by repeat (first | (with_reducible first | exact HK.out | apply KeepBut.set_ | apply keep_drewN | apply keep_drew | apply keep_alloc) | exact HK.out)⟩
 ·rw [if_neg c4] at H
  have c4b0 : (t492 == 0) = false := beq_eq_false_iff_ne.mpr c4
  have c4b1 : (t492 != 0) = true := bne_iff_ne.mpr c4
  replace H := Option.bind_eq_some_iff.mp H
  obtain ⟨⟨t501, t502, t503⟩, A110, H⟩ := H
  replace H : (some (t501, t502, t503)) = some (r1, r2, r3) := H
  have A11 := Aside0.mk A110
  clear A110
  simp only [Option.some.injEq, Prod.mk.injEq] at H
  obtain ⟨rfl, rfl, rfl⟩ := H
  go_enter Try.func98, Try.ntmps98
  go_wp2_with (first | ((with_reducible refine gate_callee (f := 59) rfl ?_); refine goesL_ (some 6) rfl rfl Try.func59 (by kernel_rfl) rfl #[.pointer (some ⟨g, 0, none⟩), .int .i64 14] rfl (by (try simp only [List.map_toArray, List.map_cons, List.map_nil]); first | done | rfl | (simp only [List.length_drop, List.length_take]; rfl)) ?_; (with_reducible refine (spec_l01Next.calls g s0_0 s0_1 s0_2 14 t492 t493 t494 w0 _ ?side1 ?side2 A3.out).mono ?_); (case side1 => repeat (first | (with_reducible first | exact HI0.out | apply IsS92.alloc | apply IsS92.drewN | apply IsS92.drew | apply IsS92.set_1 | apply IsS92.set_2) | exact HI0.out)); (case side2 => repeat (first | (with_reducible first | exact HB.out | apply below_alloc | apply pw_below_drewN | apply below_drew1 | refine below_set ?_ (IsS92.ge HI0.out)) | exact HB.out)); rintro e w12 ⟨rfl, hi, hb, hk⟩; refine ⟨_, rfl, ?_⟩; have n0_ := Aside0.mk (KeepBut.trans (by repeat (first | (with_reducible first | exact HK.out | apply KeepBut.set_ | apply keep_drewN | apply keep_drew | apply keep_alloc) | exact HK.out)) hk (.inl rfl)); have n1_ := Aside0.mk (hb); have n2_ := Aside0.mk (hi); clear HK; clear HB; clear HI0; have HK := n0_; have HB := n1_; have HI0 := n2_; clear n0_ n1_ n2_; (try clear hb); (try clear hb2); (try clear hk); (try clear hi)) | ((with_reducible refine gate_callee (f := 59) rfl ?_); refine goesL_ (some 16) rfl rfl Try.func59 (by kernel_rfl) rfl #[.pointer (some ⟨g, 0, none⟩), .int .i64 (wrap64 (a1 + 1))] rfl (by (try simp only [List.map_toArray, List.map_cons, List.map_nil]); first | done | rfl | (simp only [List.length_drop, List.length_take]; rfl)) ?_; (with_reducible refine (spec_l01Next.calls g s0_0 t493 t494 (wrap64 (a1 + 1)) t501 t502 t503 w0 _ ?side1 ?side2 A11.out).mono ?_); (case side1 => repeat (first | (with_reducible first | exact HI0.out | apply IsS92.alloc | apply IsS92.drewN | apply IsS92.drew | apply IsS92.set_1 | apply IsS92.set_2) | exact HI0.out)); (case side2 => repeat (first | (with_reducible first | exact HB.out | apply below_alloc | apply pw_below_drewN | apply below_drew1 | refine below_set ?_ (IsS92.ge HI0.out)) | exact HB.out)); rintro e w13 ⟨rfl, hi, hb, hk⟩; refine ⟨_, rfl, ?_⟩; have n0_ := Aside0.mk (KeepBut.trans (by repeat (first | (with_reducible first | exact HK.out | apply KeepBut.set_ | apply keep_drewN | apply keep_drew | apply keep_alloc) | exact HK.out)) hk (.inl rfl)); have n1_ := Aside0.mk (hb); have n2_ := Aside0.mk (hi); clear HK; clear HB; clear HI0; have HK := n0_; have HB := n1_; have HI0 := n2_; clear n0_ n1_ n2_; (try clear hb); (try clear hb2); (try clear hk); (try clear hi)))
  go_ret
  exact ⟨by first | rfl | (simp [errW_none, errW_some] <;> rfl) | (simp [*, errW_none, errW_some] <;> rfl), by repeat (first | (with_reducible first | exact HI0.out | apply IsS92.alloc | apply IsS92.drewN | apply IsS92.drew | apply IsS92.set_1 | apply IsS92.set_2) | exact HI0.out), by repeat (first | (with_reducible first | exact HB.out | apply below_alloc | apply pw_below_drewN | apply below_drew1 | refine below_set ?_ (IsS92.ge HI0.out)) | exact HB.out), by repeat (first | (with_reducible first | exact HK.out | apply KeepBut.set_ | apply keep_drewN | apply keep_drew | apply keep_alloc) | exact HK.out)⟩

end Go.Proofs.Ytmihfmhfgjnfcab.Q

namespace Go.Proofs.Ytmihfmhfgjnfcab.Q
open Go.RowKit Go.Proofs.YtmihfmhfgjnfcabW.PrintWords Go.Proofs.YtmihfmhfgjnfcabW.PrintLast Go.Proofs.YtmihfmhfgjnfcabW.PrintMore
attribute [local go_sem] max2_int min2_int max_two min_two max_three min_three max_four min_four bn_leq bn_gtr bn_geq   -- for this text's walks alone
set_option linter.unusedVariables false
set_option linter.unusedSimpArgs false

/-! ### spec_DrawDoubleWord: function 44 -/
def spec_DrawDoubleWord.f (k : Nat) (l0 : List Int) : Option (Int × Int) := (spec_l01From.f k l0).bind fun bt652 => ((spec_l01Pick.f bt652.1 bt652.2.1 bt652.2.2 (([9, 12, 30, 60] : List Int))).bind fun bt659 => ((spec_l01Near.f bt652.1 bt659.2.1 bt659.2.2 bt659.1).bind fun bt662 => ((spec_l01Pick.f bt652.1 bt662.2.1 bt662.2.2 (([9, 12, 30] : List Int))).bind fun bt668 => ((spec_l01Near.f bt652.1 bt668.2.1 bt668.2.2 bt668.1).bind fun bt671 => (some (bt662.1, bt671.1))))))
set_option maxHeartbeats 8000000 in
set_option maxRecDepth 100000 in
theorem spec_DrawDoubleWord.calls (k : Nat) (A0 : Option Addr) (c0 : Nat) (l0 : List Int) (r1 : Int) (r2 : Int) (w : World) (hr0 : Kd.C (Kd.int .u8) w A0 l0.length l0) (hc0 : l0.length ≤ c0) (h : spec_DrawDoubleWord.f k l0 = some (r1, r2)) :
  Calls Try.prog 44 #[.slice A0 l0.length c0] w fun e w' => e = .returned (.tuple #[.int .i64 r1, .int .i64 r2]) ∧ Below w.heap.size w w' := by
 have HR0 := Aside0.mk hr0
 have HC0 := Aside0.mk hc0
 clear hr0 hc0
 have HB := Aside0.mk (Below.refl w.heap.size w)
 have H : ((spec_l01From.f k l0).bind fun bt652 => ((spec_l01Pick.f bt652.1 bt652.2.1 bt652.2.2 (([9, 12, 30, 60] : List Int))).bind fun bt659 => ((spec_l01Near.f bt652.1 bt659.2.1 bt659.2.2 bt659.1).bind fun bt662 => ((spec_l01Pick.f bt652.1 bt662.2.1 bt662.2.2 (([9, 12, 30] : List Int))).bind fun bt668 => ((spec_l01Near.f bt652.1 bt668.2.1 bt668.2.2 bt668.1).bind fun bt671 => (some (bt662.1, bt671.1))))))) = some (r1, r2) := h
 clear h
 replace H := Option.bind_eq_some_iff.mp H
 obtain ⟨⟨t652, t653, t654⟩, A20, H⟩ := H
 replace H : ((spec_l01Pick.f t652 t653 t654 (([9, 12, 30, 60] : List Int))).bind fun bt659 => ((spec_l01Near.f t652 bt659.2.1 bt659.2.2 bt659.1).bind fun bt662 => ((spec_l01Pick.f t652 bt662.2.1 bt662.2.2 (([9, 12, 30] : List Int))).bind fun bt668 => ((spec_l01Near.f t652 bt668.2.1 bt668.2.2 bt668.1).bind fun bt671 => (some (bt662.1, bt671.1)))))) = some (r1, r2) := H
 have A2 := Aside0.mk A20
 clear A20
 obtain ⟨y656, hy656⟩ : ∃ y_ : List Int, y_ = (([9, 12, 30, 60] : List Int)) := ⟨_, rfl⟩
 replace H : ((spec_l01Pick.f t652 t653 t654 y656).bind fun bt659 => ((spec_l01Near.f t652 bt659.2.1 bt659.2.2 bt659.1).bind fun bt662 => ((spec_l01Pick.f t652 bt662.2.1 bt662.2.2 (([9, 12, 30] : List Int))).bind fun bt668 => ((spec_l01Near.f t652 bt668.2.1 bt668.2.2 bt668.1).bind fun bt671 => (some (bt662.1, bt671.1)))))) = some (r1, r2) := by first | (rw [hy656]; with_reducible exact H) | (have H2_ := (Option.bind_some _ _).symm.trans H; rw [hy656]; with_reducible exact H2_) | (have H2_ := (Option.bind_some _ _).symm.trans H; with_reducible exact H2_) | with_reducible exact H | (rw [hy656]; exact H) | exact H
 have Ny656 := Aside0.mk hy656
 clear hy656
 replace H := Option.bind_eq_some_iff.mp H
 obtain ⟨⟨t659, t660, t661⟩, A30, H⟩ := H
 replace H : ((spec_l01Near.f t652 t660 t661 t659).bind fun bt662 => ((spec_l01Pick.f t652 bt662.2.1 bt662.2.2 (([9, 12, 30] : List Int))).bind fun bt668 => ((spec_l01Near.f t652 bt668.2.1 bt668.2.2 bt668.1).bind fun bt671 => (some (bt662.1, bt671.1))))) = some (r1, r2) := H
 have A3 := Aside0.mk A30
 clear A30
 replace H := Option.bind_eq_some_iff.mp H
 obtain ⟨⟨t662, t663, t664⟩, A40, H⟩ := H
 replace H : ((spec_l01Pick.f t652 t663 t664 (([9, 12, 30] : List Int))).bind fun bt668 => ((spec_l01Near.f t652 bt668.2.1 bt668.2.2 bt668.1).bind fun bt671 => (some (t662, bt671.1)))) = some (r1, r2) := H
 have A4 := Aside0.mk A40
 clear A40
 obtain ⟨y665, hy665⟩ : ∃ y_ : List Int, y_ = (([9, 12, 30] : List Int)) := ⟨_, rfl⟩
 replace H : ((spec_l01Pick.f t652 t663 t664 y665).bind fun bt668 => ((spec_l01Near.f t652 bt668.2.1 bt668.2.2 bt668.1).bind fun bt671 => (some (t662, bt671.1)))) = some (r1, r2) := by first | (rw [hy665]; with_reducible exact H) | (have H2_ := (Option.bind_some _ _).symm.trans H; rw [hy665]; with_reducible exact H2_) | (have H2_ := (Option.bind_some _ _).symm.trans H; with_reducible exact H2_) | with_reducible exact H | (rw [hy665]; exact H) | exact H
 have Ny665 := Aside0.mk hy665
 clear hy665
 replace H := Option.bind_eq_some_iff.mp H
 obtain ⟨⟨t668, t669, t670⟩, A50, H⟩ := H
 replace H : ((spec_l01Near.f t652 t669 t670 t668).bind fun bt671 => (some (t662, bt671.1))) = some (r1, r2) := H
 have A5 := Aside0.mk A50
 clear A50
 replace H := Option.bind_eq_some_iff.mp H
 obtain ⟨⟨t671, t672, t673⟩, A60, H⟩ := H
 replace H : (some (t662, t671)) = some (r1, r2) := H
 have A6 := Aside0.mk A60
 clear A60
 simp only [Option.some.injEq, Prod.mk.injEq] at H
 obtain ⟨rfl, rfl⟩ := H
 go_enter Try.func44, Try.ntmps44
 go_wp2_with (first | ((with_reducible refine gate_callee (f := 58) rfl ?_); refine goesL_ (some 6) rfl rfl Try.func58 (by kernel_rfl) rfl #[.slice A0 l0.length c0] rfl (by (try simp only [List.map_toArray, List.map_cons, List.map_nil]); first | done | rfl | (simp only [List.length_drop, List.length_take]; rfl)) ?_; (with_reducible refine (spec_l01From.calls k _ _ l0 t652 t653 t654 w _ ?side1 ?side2 ?side3 A2.out).mono ?_); (case side1 => repeat (first | (with_reducible first | exact HB.out | apply below_alloc | apply pw_below_drewN | apply below_drew1) | exact HB.out)); (case side2 => exact HR0.out); (case side3 => exact HC0.out); rintro e w7 ⟨g655, rfl, hi, hb, hb2⟩; refine ⟨_, rfl, ?_⟩; have n0_ := Aside0.mk (hb); have n1_ := Aside0.mk (hi); clear HB; have HB := n0_; have HI655 := n1_; clear n0_ n1_; (try clear hb); (try clear hb2); (try clear hk); (try clear hi)) | ((with_reducible refine gate_dst (N := 9) rfl ?_); refine Kd.R_lit (Kd.int .i64) _ 2 ?hg (N := 9) ?hd (xs := ([9, 12, 30, 60] : List Int)) (inner := [.int .i64 9, .int .i64 12, .int .i64 30, .int .i64 60]) (ok := fun _ => True) (okp := fun _ => True) ?hr ?hp (fun _ hk => hk) trivial (Below.refl _ _) (Nat.le_refl _) (by simp) ?_; (case hd => rfl); (case hg => rfl); (case hr => first | (go_simp; done) | (go_simp; rfl)); (case hp => exact (Reps.one (show Kd.M (Kd.int .i64) _ _ _ 9 [.int .i64 9] from rfl) (Reps.one (show Kd.M (Kd.int .i64) _ _ _ 12 [.int .i64 12] from rfl) (Reps.one (show Kd.M (Kd.int .i64) _ _ _ 30 [.int .i64 30] from rfl) (Reps.one (show Kd.M (Kd.int .i64) _ _ _ 60 [.int .i64 60] from rfl) (Reps.none _ _)))))); intro v657 w8 ho9 hb hg_ hnew_; clear hg_ hnew_; (first | rw [← Ny656.out] at ho9 | (simp only [Int.reduceToNat] at ho9; rw [← Ny656.out] at ho9)); have n0_ := Aside0.mk (Kd.R_lower ho9 (below_size (by repeat (first | (with_reducible first | exact HB.out | apply below_alloc | apply pw_below_drewN | apply below_drew1 | refine below_set ?_ (IsS92.ge HI655.out)) | exact HB.out)))); have n1_ := Aside0.mk (IsS92.below (by repeat (first | (with_reducible first | exact HI655.out | apply IsS92.alloc | apply IsS92.drewN | apply IsS92.drew | apply IsS92.set_1 | apply IsS92.set_2) | exact HI655.out)) hb); have n2_ := Aside0.mk (below_step (by repeat (first | (with_reducible first | exact HB.out | apply below_alloc | apply pw_below_drewN | apply below_drew1 | refine below_set ?_ (IsS92.ge HI655.out)) | exact HB.out)) hb); clear HI655; clear HB; have HO658 := n0_; have HI655 := n1_; have HB := n2_; clear n0_ n1_ n2_; clear hb ho9; obtain ⟨Ao10, co10, eo10⟩ := Kd.R_slice HO658.out; subst eo10) | ((with_reducible refine gate_callee (f := 61) rfl ?_); refine goesL_ (some 10) rfl rfl Try.func61 (by kernel_rfl) rfl #[.pointer (some ⟨g655, 0, none⟩), .slice Ao10 y656.length co10] rfl (by (try simp only [List.map_toArray, List.map_cons, List.map_nil]); first | done | rfl | (simp only [List.length_drop, List.length_take]; rfl)) ?_; (with_reducible refine (spec_l01Pick.calls g655 t652 t653 t654 _ _ y656 t659 t660 t661 w _ ?side1 ?side2 ?side3 ?side4 ?side5 A3.out).mono ?_); (case side1 => repeat (first | (with_reducible first | exact HI655.out | apply IsS92.alloc | apply IsS92.drewN | apply IsS92.drew | apply IsS92.set_1 | apply IsS92.set_2) | exact HI655.out)); (case side2 => repeat (first | (with_reducible first | exact HB.out | apply below_alloc | apply pw_below_drewN | apply below_drew1 | refine below_set ?_ (IsS92.ge HI655.out)) | exact HB.out)); (case side3 => repeat (first | exact (Kd.R_reads' HO658.out).2.2 | (with_reducible refine Kd.C_alloc ?_ _) | (with_reducible refine Kd.C_drewN ?_ _) | (with_reducible refine Kd.C_drew ?_))); (case side4 => exact (Kd.R_reads' HO658.out).2.1); (case side5 => exact far_slice (IsS92.own_ne HI655.out HO658.out (by decide))); rintro e w11 ⟨rfl, hi, hb, hk⟩; refine ⟨_, rfl, ?_⟩; have n0_ := Aside0.mk (Kd.R_mono (Kd.R_keep (IsS92.apart (show IsS92 w _ g655 t652 t653 t654 from by repeat (first | (with_reducible first | exact HI655.out | apply IsS92.alloc | apply IsS92.drewN | apply IsS92.drew | apply IsS92.set_1 | apply IsS92.set_2) | exact HI655.out)) (by (with_reducible repeat (first | apply Kd.R_alloc | apply Kd.R_drewN | apply Kd.R_drew)); exact HO658.out) (by decide)) hk (fun _ h => h.2)) (fun _ h => h.1)); have n1_ := Aside0.mk (hb); have n2_ := Aside0.mk (hi); clear HO658; clear HB; clear HI655; have HO658 := n0_; have HB := n1_; have HI655 := n2_; clear n0_ n1_ n2_; (try clear hb); (try clear hb2); (try clear hk); (try clear hi)) | ((with_reducible refine gate_callee (f := 98) rfl ?_); refine goesL_ (some 11) rfl rfl Try.func98 (by kernel_rfl) rfl #[.pointer (some ⟨g655, 0, none⟩), .int .i64 t659] rfl (by (try simp only [List.map_toArray, List.map_cons, List.map_nil]); first | done | rfl | (simp only [List.length_drop, List.length_take]; rfl)) ?_; (with_reducible refine (spec_l01Near.calls g655 t652 t660 t661 t659 t662 t663 t664 w _ ?side1 ?side2 A4.out).mono ?_); (case side1 => repeat (first | (with_reducible first | exact HI655.out | apply IsS92.alloc | apply IsS92.drewN | apply IsS92.drew | apply IsS92.set_1 | apply IsS92.set_2) | exact HI655.out)); (case side2 => repeat (first | (with_reducible first | exact HB.out | apply below_alloc | apply pw_below_drewN | apply below_drew1 | refine below_set ?_ (IsS92.ge HI655.out)) | exact HB.out)); rintro e w12 ⟨rfl, hi, hb, hk⟩; refine ⟨_, rfl, ?_⟩; have n0_ := Aside0.mk (Kd.R_mono (Kd.R_keep (IsS92.apart (show IsS92 w _ g655 t652 t660 t661 from by repeat (first | (with_reducible first | exact HI655.out | apply IsS92.alloc | apply IsS92.drewN | apply IsS92.drew | apply IsS92.set_1 | apply IsS92.set_2) | exact HI655.out)) (by (with_reducible repeat (first | apply Kd.R_alloc | apply Kd.R_drewN | apply Kd.R_drew)); exact HO658.out) (by decide)) hk (fun _ h => h.2)) (fun _ h => h.1)); have n1_ := Aside0.mk (hb); have n2_ := Aside0.mk (hi); clear HO658; clear HB; clear HI655; have HO658 := n0_; have HB := n1_; have HI655 := n2_; clear n0_ n1_ n2_; (try clear hb); (try clear hb2); (try clear hk); (try clear hi)) | ((with_reducible refine gate_dst (N := 14) rfl ?_); refine Kd.R_lit (Kd.int .i64) _ 2 ?hg (N := 14) ?hd (xs := ([9, 12, 30] : List Int)) (inner := [.int .i64 9, .int .i64 12, .int .i64 30]) (ok := fun _ => True) (okp := fun _ => True) ?hr ?hp (fun _ hk => hk) trivial (Below.refl _ _) (Nat.le_refl _) (by simp) ?_; (case hd => rfl); (case hg => rfl); (case hr => first | (go_simp; done) | (go_simp; rfl)); (case hp => exact (Reps.one (show Kd.M (Kd.int .i64) _ _ _ 9 [.int .i64 9] from rfl) (Reps.one (show Kd.M (Kd.int .i64) _ _ _ 12 [.int .i64 12] from rfl) (Reps.one (show Kd.M (Kd.int .i64) _ _ _ 30 [.int .i64 30] from rfl) (Reps.none _ _))))); intro v666 w13 ho14 hb hg_ hnew_; clear hg_ hnew_; (first | rw [← Ny665.out] at ho14 | (simp only [Int.reduceToNat] at ho14; rw [← Ny665.out] at ho14)); have n0_ := Aside0.mk (Kd.R_elder' (by (with_reducible repeat (first | apply Kd.R_alloc | apply Kd.R_drewN | apply Kd.R_drew)); exact HO658.out) (Kd.R_base ho14) hb); have n1_ := Aside0.mk (Kd.R_lower (Kd.R_new' ho14 (Kd.R_lt (by (with_reducible repeat (first | apply Kd.R_alloc | apply Kd.R_drewN | apply Kd.R_drew)); exact HO658.out))) (below_size (by repeat (first | (with_reducible first | exact HB.out | apply below_alloc | apply pw_below_drewN | apply below_drew1 | refine below_set ?_ (IsS92.ge HI655.out)) | exact HB.out)))); have n2_ := Aside0.mk (IsS92.below (by repeat (first | (with_reducible first | exact HI655.out | apply IsS92.alloc | apply IsS92.drewN | apply IsS92.drew | apply IsS92.set_1 | apply IsS92.set_2) | exact HI655.out)) hb); have n3_ := Aside0.mk (below_step (by repeat (first | (with_reducible first | exact HB.out | apply below_alloc | apply pw_below_drewN | apply below_drew1 | refine below_set ?_ (IsS92.ge HI655.out)) | exact HB.out)) hb); clear HO658; clear HI655; clear HB; have HO658 := n0_; have HO667 := n1_; have HI655 := n2_; have HB := n3_; clear n0_ n1_ n2_ n3_; clear hb ho14; obtain ⟨Ao15, co15, eo15⟩ := Kd.R_slice HO667.out; subst eo15) | ((with_reducible refine gate_callee (f := 61) rfl ?_); refine goesL_ (some 15) rfl rfl Try.func61 (by kernel_rfl) rfl #[.pointer (some ⟨g655, 0, none⟩), .slice Ao15 y665.length co15] rfl (by (try simp only [List.map_toArray, List.map_cons, List.map_nil]); first | done | rfl | (simp only [List.length_drop, List.length_take]; rfl)) ?_; (with_reducible refine (spec_l01Pick.calls g655 t652 t663 t664 _ _ y665 t668 t669 t670 w _ ?side1 ?side2 ?side3 ?side4 ?side5 A5.out).mono ?_); (case side1 => repeat (first | (with_reducible first | exact HI655.out | apply IsS92.alloc | apply IsS92.drewN | apply IsS92.drew | apply IsS92.set_1 | apply IsS92.set_2) | exact HI655.out)); (case side2 => repeat (first | (with_reducible first | exact HB.out | apply below_alloc | apply pw_below_drewN | apply below_drew1 | refine below_set ?_ (IsS92.ge HI655.out)) | exact HB.out)); (case side3 => repeat (first | exact (Kd.R_reads' HO667.out).2.2 | (with_reducible refine Kd.C_alloc ?_ _) | (with_reducible refine Kd.C_drewN ?_ _) | (with_reducible refine Kd.C_drew ?_))); (case side4 => exact (Kd.R_reads' HO667.out).2.1); (case side5 => exact far_slice (IsS92.own_ne HI655.out HO667.out (by decide))); rintro e w16 ⟨rfl, hi, hb, hk⟩; refine ⟨_, rfl, ?_⟩; have n0_ := Aside0.mk (Kd.R_mono (Kd.R_keep (IsS92.apart (show IsS92 w _ g655 t652 t663 t664 from by repeat (first | (with_reducible first | exact HI655.out | apply IsS92.alloc | apply IsS92.drewN | apply IsS92.drew | apply IsS92.set_1 | apply IsS92.set_2) | exact HI655.out)) (by (with_reducible repeat (first | apply Kd.R_alloc | apply Kd.R_drewN | apply Kd.R_drew)); exact HO658.out) (by decide)) hk (fun _ h => h.2)) (fun _ h => h.1)); have n1_ := Aside0.mk (Kd.R_mono (Kd.R_keep (IsS92.apart (show IsS92 w _ g655 t652 t663 t664 from by repeat (first | (with_reducible first | exact HI655.out | apply IsS92.alloc | apply IsS92.drewN | apply IsS92.drew | apply IsS92.set_1 | apply IsS92.set_2) | exact HI655.out)) (by (with_reducible repeat (first | apply Kd.R_alloc | apply Kd.R_drewN | apply Kd.R_drew)); exact HO667.out) (by decide)) hk (fun _ h => h.2)) (fun _ h => h.1)); have n2_ := Aside0.mk (hb); have n3_ := Aside0.mk (hi); clear HO658; clear HO667; clear HB; clear HI655; have HO658 := n0_; have HO667 := n1_; have HB := n2_; have HI655 := n3_; clear n0_ n1_ n2_ n3_; (try clear hb); (try clear hb2); (try clear hk); (try clear hi)) | ((with_reducible refine gate_callee (f := 98) rfl ?_); refine goesL_ (some 16) rfl rfl Try.func98 (by kernel_rfl) rfl #[.pointer (some ⟨g655, 0, none⟩), .int .i64 t668] rfl (by (try simp only [List.map_toArray, List.map_cons, List.map_nil]); first | done | rfl | (simp only [List.length_drop, List.length_take]; rfl)) ?_; (with_reducible refine (spec_l01Near.calls g655 t652 t669 t670 t668 t671 t672 t673 w _ ?side1 ?side2 A6.out).mono ?_); (case side1 => repeat (first | (with_reducible first | exact HI655.out | apply IsS92.alloc | apply IsS92.drewN | apply IsS92.drew | apply IsS92.set_1 | apply IsS92.set_2) | exact HI655.out)); (case side2 => repeat (first | (with_reducible first | exact HB.out | apply below_alloc | apply pw_below_drewN | apply below_drew1 | refine below_set ?_ (IsS92.ge HI655.out)) | exact HB.out)); rintro e w17 ⟨rfl, hi, hb, hk⟩; refine ⟨_, rfl, ?_⟩; have n0_ := Aside0.mk (Kd.R_mono (Kd.R_keep (IsS92.apart (show IsS92 w _ g655 t652 t669 t670 from by repeat (first | (with_reducible first | exact HI655.out | apply IsS92.alloc | apply IsS92.drewN | apply IsS92.drew | apply IsS92.set_1 | apply IsS92.set_2) | exact HI655.out)) (by (with_reducible repeat (first | apply Kd.R_alloc | apply Kd.R_drewN | apply Kd.R_drew)); exact HO658.out) (by decide)) hk (fun _ h => h.2)) (fun _ h => h.1)); have n1_ := Aside0.mk (Kd.R_mono (Kd.R_keep (IsS92.apart (show IsS92 w _ g655 t652 t669 t670 from by repeat (first | (with_reducible first | exact HI655.out | apply IsS92.alloc | apply IsS92.drewN | apply IsS92.drew | apply IsS92.set_1 | apply IsS92.set_2) | exact HI655.out)) (by (with_reducible repeat (first | apply Kd.R_alloc | apply Kd.R_drewN | apply Kd.R_drew)); exact HO667.out) (by decide)) hk (fun _ h => h.2)) (fun _ h => h.1)); have n2_ := Aside0.mk (hb); have n3_ := Aside0.mk (hi); clear HO658; clear HO667; clear HB; clear HI655; have HO658 := n0_; have HO667 := n1_; have HB := n2_; have HI655 := n3_; clear n0_ n1_ n2_ n3_; (try clear hb); (try clear hb2); (try clear hk); (try clear hi)))
 go_ret2
 exact ⟨by first | rfl | (simp [errW_none, errW_some] <;> rfl) | (simp [*, errW_none, errW_some] <;> rfl), by repeat (first | (with_reducible first | exact HB.out | apply below_alloc | apply pw_below_drewN | apply below_drew1 | refine below_set ?_ (IsS92.ge HI655.out)) | exact HB.out)⟩

end Go.Proofs.Ytmihfmhfgjnfcab.Q

namespace Go.Proofs.Ytmihfmhfgjnfcab.Q
open Go.RowKit Go.Proofs.YtmihfmhfgjnfcabW.PrintWords Go.Proofs.YtmihfmhfgjnfcabW.PrintLast Go.Proofs.YtmihfmhfgjnfcabW.PrintMore
attribute [local go_sem] max2_int min2_int max_two min_two max_three min_three max_four min_four bn_leq bn_gtr bn_geq   -- for this text's walks alone
set_option linter.unusedVariables false
set_option linter.unusedSimpArgs false

/-! ### impl_periods: function 71 -/
def impl_periods.l0 : Nat → ByteArray → List Int → Int → Option (List Int)
 | 0, _, _, _ => none
 | k + 1, x0, x3, x4 => if x4 ≤ (x0.size : Int) then ((impl_hasPeriod.f x0 x4).bind fun t308 => (if t308 = true then (if x3.length < 17592186044416 then (impl_periods.l0 k x0 (x3 ++ [x4]) (wrap64 (x4 + 1))) else (none)) else (impl_periods.l0 k x0 x3 (wrap64 (x4 + 1))))) else (some x3)
def impl_periods.f (k : Nat) (a0 : ByteArray) : Option (List Int) := impl_periods.l0 k a0 ([] : List Int) 1
set_option maxHeartbeats 8000000 in
set_option maxRecDepth 100000 in
theorem impl_periods.calls (k : Nat) (a0 : ByteArray) (r : List Int) (w : World) (h : impl_periods.f k a0 = some r) :
  Calls Try.prog 71 #[.string a0] w fun e w' => ∃ v0_ : Value, e = .returned (v0_) ∧ Kd.R (Kd.int .i64) 2 w' w.heap.size (fun _ => True) v0_ r ∧ Below w.heap.size w w' := by
 have HB := Aside0.mk (Below.refl w.heap.size w)
 have H : (impl_periods.l0 k a0 ([] : List Int) 1) = some r := h
 clear h
 have H' := Aside0.mk H
 clear H
 go_enter Try.func71, Try.ntmps71
 go_wp2
 go_loopg [3, 4] k (fun kq v3 v4 w' => ∃ (x3_1 : List Int) (x4_1 : Int), v4 = .int .i64 x4_1 ∧ Aside0 (impl_periods.l0 kq a0 x3_1 x4_1 = some r) ∧ Aside0 (kq ≤ k) ∧ Aside0 (Kd.R (Kd.int .i64) 2 w' w.heap.size (fun _ => True) v3 x3_1) ∧ Aside0 (Below w.heap.size w w'))
 case atStart => exact ⟨(([] : List Int)), (1), (by first | rfl | (simp; done) | (simp [*]; done)), H', ⟨Nat.le_refl _⟩, ⟨by first | exact Kd.R_nil _ _ _ _ _ | exact Kd.N_nil _ _ _ _ _ | exact Kd.V_nil _ _ _ _ _ | exact Kd.Q_nil _ _ _ _ _ | exact Kd.S_nil _ _ _ _ _⟩, ⟨by repeat (first | (with_reducible first | exact HB.out | apply below_alloc | apply pw_below_drewN | apply below_drew1) | exact HB.out)⟩⟩
 case round =>
  clear H'
  obtain ⟨x3_1, x4_1, rfl, HA, HK1, HO_3, HB⟩ := hrel
  cases gk with
  | zero => exact absurd HA.out (by simp [impl_periods.l0])
  | succ k1 =>
   have H := HA.out
   clear HA
   simp only [impl_periods.l0] at H
   by_cases c2 : x4_1 ≤ (a0.size : Int)
   ·rw [if_pos c2] at H
    have c2b0 : decide (x4_1 ≤ (a0.size : Int)) = true := decide_eq_true c2
    clear c2
    replace H := Option.bind_eq_some_iff.mp H
    obtain ⟨t308, A30, H⟩ := H
    replace H : (if t308 = true then (if x3_1.length < 17592186044416 then (impl_periods.l0 k1 a0 (x3_1 ++ [x4_1]) (wrap64 (x4_1 + 1))) else (none)) else (impl_periods.l0 k1 a0 x3_1 (wrap64 (x4_1 + 1)))) = some r := H
    have A3 := Aside0.mk A30
    clear A30
    by_cases c4 : t308 = true
    ·subst c4
     have H1 : (if x3_1.length < 17592186044416 then (impl_periods.l0 k1 a0 (x3_1 ++ [x4_1]) (wrap64 (x4_1 + 1))) else (none)) = some r := by rw [if_pos rfl] at H; exact H
     clear H
     have H := H1
     clear H1
     by_cases c5 : x3_1.length < 17592186044416
     ·rw [if_pos c5] at H
      have LMc5 := Aside0.mk c5
      clear c5
      obtain ⟨y309, hy309⟩ : ∃ y_ : List Int, y_ = (x3_1 ++ [x4_1]) := ⟨_, rfl⟩
      replace H : (impl_periods.l0 k1 a0 y309 (wrap64 (x4_1 + 1))) = some r := by first | (rw [hy309]; with_reducible exact H) | (have H2_ := (Option.bind_some _ _).symm.trans H; rw [hy309]; with_reducible exact H2_) | (have H2_ := (Option.bind_some _ _).symm.trans H; with_reducible exact H2_) | with_reducible exact H | (rw [hy309]; exact H) | exact H
      have Ny309 := Aside0.mk hy309
      clear hy309
      have H' := Aside0.mk H
      clear H
      go_wp2_with (first | ((with_reducible refine gate_callee (f := 118) rfl ?_); refine goesL_ (some 13) rfl rfl Try.func118 (by kernel_rfl) rfl #[.string a0, .int .i64 x4_1] rfl (by (try simp only [List.map_toArray, List.map_cons, List.map_nil]); first | done | rfl | (simp only [List.length_drop, List.length_take]; rfl)) ?_; (with_reducible refine (impl_hasPeriod.calls a0 x4_1 true _ A3.out).mono ?_); rintro e w' ⟨rfl, ⟨nd, rfl⟩⟩; refine ⟨_, rfl, ?_⟩) | ((with_reducible refine gate_builtin (b := .append) (xs := #[.tmp 14, .tmp 16]) rfl ?_); at_builtin; refine Kd.R_append (Kd.int .i64) (w0 := w) w.heap.size rfl (.tmp 14) (.tmp 16) 27 2 (.int .i64 0) 8 rfl Try.underlying27 info2 rfl (by decide) (by omega) u3 x3_1 x4_1 [.int .i64 x4_1] (fun _ => True) (fun _ => False) rfl rfl ?aP (fun _ hk => hk.elim) ?aF ?aO ?aB ?aS ?aL ?_; (case aP => exact rfl); (case aB => exact (by repeat (first | (with_reducible first | exact HB.out | apply below_alloc | apply pw_below_drewN | apply below_drew1) | exact HB.out))); (case aF => exact (fun _ _ => trivial)); (case aO => exact (by (with_reducible repeat (first | apply Kd.R_alloc | apply Kd.R_drewN | apply Kd.R_drew)); exact HO_3.out)); (case aS => exact (below_size (by repeat (first | (with_reducible first | exact HB.out | apply below_alloc | apply pw_below_drewN | apply below_drew1) | exact HB.out)))); (case aL => have := LMc5.out; omega); intro v310 w6 ho hb hg hat; rw [← Ny309.out] at ho; have n0_ := Aside0.mk (hb); have n1_ := Aside0.mk (ho); clear HB; clear HO_3; have HB := n0_; have HO311 := n1_; clear n0_ n1_; clear ho hb hg hat))
      go_roundg k1
      case measure => have := HK1.out; omega
      case rel => exact ⟨(y309), (wrap64 (x4_1 + 1)), (by first | rfl | (simp; done) | (simp [*]; done)), H', ⟨by have := HK1.out; omega⟩, ⟨by (with_reducible repeat (first | apply Kd.R_alloc | apply Kd.R_drewN | apply Kd.R_drew)); exact HO311.out⟩, ⟨by repeat (first | (with_reducible first | exact HB.out | apply below_alloc | apply pw_below_drewN | apply below_drew1) | exact HB.out)⟩⟩
     ·rw [if_neg c5] at H
      exact absurd H (by simp)
    ·replace c4 := Bool.eq_false_iff.mpr c4
     subst c4
     have H1 : (impl_periods.l0 k1 a0 x3_1 (wrap64 (x4_1 + 1))) = some r := by rw [if_neg (show ¬ (false = true) by decide)] at H; exact H
     clear H
     have H := H1
     clear H1
     have H' := Aside0.mk H
     clear H
     go_wp2_with (first | ((with_reducible refine gate_callee (f := 118) rfl ?_); refine goesL_ (some 13) rfl rfl Try.func118 (by kernel_rfl) rfl #[.string a0, .int .i64 x4_1] rfl (by (try simp only [List.map_toArray, List.map_cons, List.map_nil]); first | done | rfl | (simp only [List.length_drop, List.length_take]; rfl)) ?_; (with_reducible refine (impl_hasPeriod.calls a0 x4_1 false _ A3.out).mono ?_); rintro e w' ⟨rfl, ⟨nd, rfl⟩⟩; refine ⟨_, rfl, ?_⟩))
     go_roundg k1
     case measure => have := HK1.out; omega
     case rel => exact ⟨(x3_1), (wrap64 (x4_1 + 1)), (by first | rfl | (simp; done) | (simp [*]; done)), H', ⟨by have := HK1.out; omega⟩, ⟨by (with_reducible repeat (first | apply Kd.R_alloc | apply Kd.R_drewN | apply Kd.R_drew)); exact HO_3.out⟩, ⟨by repeat (first | (with_reducible first | exact HB.out | apply below_alloc | apply pw_below_drewN | apply below_drew1) | exact HB.out)⟩⟩
   ·rw [if_neg c2] at H
    have c2b0 : decide (x4_1 ≤ (a0.size : Int)) = false := decide_eq_false c2
    clear c2
    obtain rfl := Option.some.inj H
    go_wp2
    go_ret
    exact ⟨_, by first | rfl | (simp [errW_none, errW_some] <;> rfl) | (simp [*, errW_none, errW_some] <;> rfl), by (with_reducible repeat (first | apply Kd.R_alloc | apply Kd.R_drewN | apply Kd.R_drew)); exact HO_3.out, by repeat (first | (with_reducible first | exact HB.out | apply below_alloc | apply pw_below_drewN | apply below_drew1) | exact HB.out)⟩

end Go.Proofs.Ytmihfmhfgjnfcab.Q

namespace Go.Proofs.Ytmihfmhfgjnfcab.Q
open Go.RowKit Go.Proofs.YtmihfmhfgjnfcabW.PrintWords Go.Proofs.YtmihfmhfgjnfcabW.PrintLast Go.Proofs.YtmihfmhfgjnfcabW.PrintMore
attribute [local go_sem] max2_int min2_int max_two min_two max_three min_three max_four min_four bn_leq bn_gtr bn_geq   -- for this text's walks alone
set_option linter.unusedVariables false
set_option linter.unusedSimpArgs false

/-! ### impl_PeriodsOf: function 10 -/
def impl_PeriodsOf.f (k : Nat) (a0 : ByteArray) : Option (List Int × Int) := (impl_wordCode.f () (([a0] : List ByteArray))).bind fun t315 => (if t315 = 0 then ((impl_periods.f k a0).bind fun t316 => (some (t316, 0))) else (some (([] : List Int), t315)))
set_option maxHeartbeats 8000000 in
set_option maxRecDepth 100000 in
theorem impl_PeriodsOf.calls (k : Nat) (a0 : ByteArray) (r1 : List Int) (r2 : Int) (w : World) (h : impl_PeriodsOf.f k a0 = some (r1, r2)) :
  Calls Try.prog 10 #[.string a0] w fun e w' => ∃ v0_ : Value, e = .returned (.tuple #[v0_, .int .i64 r2]) ∧ Kd.R (Kd.int .i64) 2 w' w.heap.size (fun _ => True) v0_ r1 ∧ Below w.heap.size w w' := by
 have HB := Aside0.mk (Below.refl w.heap.size w)
 have H : ((impl_wordCode.f () (([a0] : List ByteArray))).bind fun t315 => (if t315 = 0 then ((impl_periods.f k a0).bind fun t316 => (some (t316, 0))) else (some (([] : List Int), t315)))) = some (r1, r2) := h
 clear h
 obtain ⟨y312, hy312⟩ : ∃ y_ : List ByteArray, y_ = (([a0] : List ByteArray)) := ⟨_, rfl⟩
 replace H : ((impl_wordCode.f () y312).bind fun t315 => (if t315 = 0 then ((impl_periods.f k a0).bind fun t316 => (some (t316, 0))) else (some (([] : List Int), t315)))) = some (r1, r2) := by first | (rw [hy312]; with_reducible exact H) | (have H2_ := (Option.bind_some _ _).symm.trans H; rw [hy312]; with_reducible exact H2_) | (have H2_ := (Option.bind_some _ _).symm.trans H; with_reducible exact H2_) | with_reducible exact H | (rw [hy312]; exact H) | exact H
 have Ny312 := Aside0.mk hy312
 clear hy312
 replace H := Option.bind_eq_some_iff.mp H
 obtain ⟨t315, A20, H⟩ := H
 replace H : (if t315 = 0 then ((impl_periods.f k a0).bind fun t316 => (some (t316, 0))) else (some (([] : List Int), t315))) = some (r1, r2) := H
 have A2 := Aside0.mk A20
 clear A20
 by_cases c3 : t315 = 0
 ·rw [if_pos c3] at H
  have c3b0 : (t315 == 0) = true := beq_iff_eq.mpr c3
  have c3b1 : (t315 != 0) = false := bne_eq_false_iff_eq.mpr c3
  clear c3
  replace H := Option.bind_eq_some_iff.mp H
  obtain ⟨t316, A40, H⟩ := H
  replace H : (some (t316, 0)) = some (r1, r2) := H
  have A4 := Aside0.mk A40
  clear A40
  simp only [Option.some.injEq, Prod.mk.injEq] at H
  obtain ⟨rfl, rfl⟩ := H
  go_enter Try.func10, Try.ntmps10
  go_wp2_with (first | ((with_reducible refine gate_dst (N := 6) rfl ?_); refine Kd.R_lit Kd.string _ 9 ?hg (N := 6) ?hd (xs := ([a0] : List ByteArray)) (inner := [.string a0]) (ok := fun _ => True) (okp := fun _ => True) ?hr ?hp (fun _ hk => hk) trivial (Below.refl _ _) (Nat.le_refl _) (by simp) ?_; (case hd => rfl); (case hg => rfl); (case hr => first | (go_simp; done) | (go_simp; rfl)); (case hp => exact (Reps.one (show Kd.M Kd.string _ _ _ a0 [.string a0] from rfl) (Reps.none _ _))); intro v313 w5 ho6 hb hg_ hnew_; clear hg_ hnew_; (first | rw [← Ny312.out] at ho6 | (simp only [Int.reduceToNat] at ho6; rw [← Ny312.out] at ho6)); have n0_ := Aside0.mk (Kd.R_lower ho6 (below_size (by repeat (first | (with_reducible first | exact HB.out | apply below_alloc | apply pw_below_drewN | apply below_drew1) | exact HB.out)))); have n1_ := Aside0.mk (below_step (by repeat (first | (with_reducible first | exact HB.out | apply below_alloc | apply pw_below_drewN | apply below_drew1) | exact HB.out)) hb); clear HB; have HO314 := n0_; have HB := n1_; clear n0_ n1_; clear hb ho6; obtain ⟨Ao7, co7, eo7⟩ := Kd.R_slice HO314.out; subst eo7) | ((with_reducible refine gate_callee (f := 69) rfl ?_); refine goesL_ (some 7) rfl rfl Try.func69 (by kernel_rfl) rfl #[.func (.func 70) #[] #[], .slice Ao7 y312.length co7] rfl (by (try simp only [List.map_toArray, List.map_cons, List.map_nil]); first | done | rfl | (simp only [List.length_drop, List.length_take]; rfl)) ?_; (with_reducible refine (impl_wordCode.calls () _ _ y312 t315 _ ?side1 ?side2 A2.out).mono ?_); (case side1 => repeat (first | exact (Kd.R_reads' HO314.out).2.2 | (with_reducible refine Kd.C_alloc ?_ _) | (with_reducible refine Kd.C_drewN ?_ _) | (with_reducible refine Kd.C_drew ?_))); (case side2 => exact (Kd.R_reads' HO314.out).2.1); rintro e w8 ⟨rfl, hb⟩; refine ⟨_, rfl, ?_⟩; have n0_ := Aside0.mk (Kd.R_below (by (with_reducible repeat (first | apply Kd.R_alloc | apply Kd.R_drewN | apply Kd.R_drew)); exact HO314.out) hb); have n1_ := Aside0.mk (below_step (by repeat (first | (with_reducible first | exact HB.out | apply below_alloc | apply pw_below_drewN | apply below_drew1) | exact HB.out)) hb); clear HO314; clear HB; have HO314 := n0_; have HB := n1_; clear n0_ n1_; (try clear hb); (try clear hb2); (try clear hk); (try clear hi)) | ((with_reducible refine gate_callee (f := 71) rfl ?_); refine goesL_ (some 12) rfl rfl Try.func71 (by kernel_rfl) rfl #[.string a0] rfl (by (try simp only [List.map_toArray, List.map_cons, List.map_nil]); first | done | rfl | (simp only [List.length_drop, List.length_take]; rfl)) ?_; (with_reducible refine (impl_periods.calls k a0 t316 _ A4.out).mono ?_); rintro e w9 ⟨v317, rfl, ho0, hb⟩; refine ⟨_, rfl, ?_⟩; have n0_ := Aside0.mk (Kd.R_below (by (with_reducible repeat (first | apply Kd.R_alloc | apply Kd.R_drewN | apply Kd.R_drew)); exact HO314.out) hb); have n1_ := Aside0.mk (Kd.R_lower ho0 (below_size (by repeat (first | (with_reducible first | exact HB.out | apply below_alloc | apply pw_below_drewN | apply below_drew1) | exact HB.out)))); have n2_ := Aside0.mk (below_step (by repeat (first | (with_reducible first | exact HB.out | apply below_alloc | apply pw_below_drewN | apply below_drew1) | exact HB.out)) hb); clear HO314; clear HB; have HO314 := n0_; have HO318 := n1_; have HB := n2_; clear n0_ n1_ n2_; (try clear hb); (try clear hb2); (try clear hk); (try clear hi); (try clear ho0)))
  go_ret2
  exact ⟨_, by first | rfl | (simp [errW_none, errW_some] <;> rfl) | (simp [*, errW_none, errW_some] <;> rfl), by (with_reducible repeat (first | apply Kd.R_alloc | apply Kd.R_drewN | apply Kd.R_drew)); exact HO318.out, by repeat (first | (with_reducible first | exact HB.out | apply below_alloc | apply pw_below_drewN | apply below_drew1) | exact HB.out)⟩
 ·rw [if_neg c3] at H
  have c3b0 : (t315 == 0) = false := beq_eq_false_iff_ne.mpr c3
  have c3b1 : (t315 != 0) = true := bne_iff_ne.mpr c3
  simp only [Option.some.injEq, Prod.mk.injEq] at H
  obtain ⟨rfl, rfl⟩ := H
  go_enter Try.func10, Try.ntmps10
  go_wp2_with (first | ((with_reducible refine gate_dst (N := 6) rfl ?_); refine Kd.R_lit Kd.string _ 9 ?hg (N := 6) ?hd (xs := ([a0] : List ByteArray)) (inner := [.string a0]) (ok := fun _ => True) (okp := fun _ => True) ?hr ?hp (fun _ hk => hk) trivial (Below.refl _ _) (Nat.le_refl _) (by simp) ?_; (case hd => rfl); (case hg => rfl); (case hr => first | (go_simp; done) | (go_simp; rfl)); (case hp => exact (Reps.one (show Kd.M Kd.string _ _ _ a0 [.string a0] from rfl) (Reps.none _ _))); intro v313 w10 ho11 hb hg_ hnew_; clear hg_ hnew_; (first | rw [← Ny312.out] at ho11 | (simp only [Int.reduceToNat] at ho11; rw [← Ny312.out] at ho11)); have n0_ := Aside0.mk (Kd.R_lower ho11 (below_size (by repeat (first | (with_reducible first | exact HB.out | apply below_alloc | apply pw_below_drewN | apply below_drew1) | exact HB.out)))); have n1_ := Aside0.mk (below_step (by repeat (first | (with_reducible first | exact HB.out | apply below_alloc | apply pw_below_drewN | apply below_drew1) | exact HB.out)) hb); clear HB; have HO314 := n0_; have HB := n1_; clear n0_ n1_; clear hb ho11; obtain ⟨Ao12, co12, eo12⟩ := Kd.R_slice HO314.out; subst eo12) | ((with_reducible refine gate_callee (f := 69) rfl ?_); refine goesL_ (some 7) rfl rfl Try.func69 (by kernel_rfl) rfl #[.func (.func 70) #[] #[], .slice Ao12 y312.length co12] rfl (by (try simp only [List.map_toArray, List.map_cons, List.map_nil]); first | done | rfl | (simp only [List.length_drop, List.length_take]; rfl)) ?_; (with_reducible refine (impl_wordCode.calls () _ _ y312 t315 _ ?side1 ?side2 A2.out).mono ?_); (case side1 => repeat (first | exact (Kd.R_reads' HO314.out).2.2 | (with_reducible refine Kd.C_alloc ?_ _) | (with_reducible refine Kd.C_drewN ?_ _) | (with_reducible refine Kd.C_drew ?_))); (case side2 => exact (Kd.R_reads' HO314.out).2.1); rintro e w13 ⟨rfl, hb⟩; refine ⟨_, rfl, ?_⟩; have n0_ := Aside0.mk (Kd.R_below (by (with_reducible repeat (first | apply Kd.R_alloc | apply Kd.R_drewN | apply Kd.R_drew)); exact HO314.out) hb); have n1_ := Aside0.mk (below_step (by repeat (first | (with_reducible first | exact HB.out | apply below_alloc | apply pw_below_drewN | apply below_drew1) | exact HB.out)) hb); clear HO314; clear HB; have HO314 := n0_; have HB := n1_; clear n0_ n1_; (try clear hb); (try clear hb2); (try clear hk); (try clear hi)))
  go_ret2
  exact ⟨_, by first | rfl | (simp [errW_none, errW_some] <;> rfl) | (simp [*, errW_none, errW_some] <;> rfl), by first | exact Kd.R_nil _ _ _ _ _ | exact Kd.N_nil _ _ _ _ _ | exact Kd.V_nil _ _ _ _ _ | exact Kd.Q_nil _ _ _ _ _ | exact Kd.S_nil _ _ _ _ _, by repeat (first | (with_reducible first | exact HB.out | apply below_alloc | apply pw_below_drewN | apply below_drew1) | exact HB.out)⟩

end Go.Proofs.Ytmihfmhfgjnfcab.Q

namespace Go.Proofs.Ytmihfmhfgjnfcab.Q
open Go.RowKit Go.Proofs.YtmihfmhfgjnfcabW.PrintWords Go.Proofs.YtmihfmhfgjnfcabW.PrintLast Go.Proofs.YtmihfmhfgjnfcabW.PrintMore
attribute [local go_sem] max2_int min2_int max_two min_two max_three min_three max_four min_four bn_leq bn_gtr bn_geq   -- for this text's walks alone
set_option linter.unusedVariables false
set_option linter.unusedSimpArgs false

/-! ### slices_Reverse_int64_int64: function 74 (this session's own) -/
def xw_rev_ren_i64 : Go.Shelf.Ren := ⟨fun | 35 => 74 | n => n, fun | 0 => 0 | 3 => 3 | 4 => 4 | 22 => 27 | 23 => 2 | n => n, fun n => n⟩
theorem xw_rev_lays_i64 : SlLaysE.n35 Try.prog xw_rev_ren_i64 := {
 mixed := by kernel_rfl
 f35 := ⟨Try.f74.name, by decide, Try.func74.trans (congrArg some (by kernel_rfl))⟩
 t0 := Try.underlying0
 a0 := Try.isAgg0
 z0 := Try.sizeOf0
 v0 := Try.zeroValue0
 t3 := Try.underlying3
 a3 := Try.isAgg3
 z3 := Try.sizeOf3
 v3 := Try.zeroValue3
 t4 := Try.underlying4
 a4 := Try.isAgg4
 z4 := Try.sizeOf4
 v4 := Try.zeroValue4
 t22 := Try.underlying27
 a22 := Try.isAgg27
 z22 := Try.sizeOf27
 v22 := Try.zeroValue27
 a23 := Try.isAgg2
 z23 := Try.sizeOf2 }
theorem xw_Reverse_i64 (blk cap : Nat) (zs : List Int) (w : World) (hH : Go.Sort.Holds (Value.int .i64) w blk 0 zs.toArray) (hsz : zs.length ≤ 9223372036854775807) :
  Calls Try.prog 74 #[.slice (some ⟨blk, 0, none⟩) zs.length cap] w fun e w' => e = .returned (.tuple #[]) ∧ ∃ n, w' = Go.Sort.putRow (Value.int .i64) (Go.Sort.ahead w n) blk 0 zs.reverse.toArray :=
 AnyE.slices_Reverse xw_rev_lays_i64 (Value.int .i64) (fun _ => rfl) blk 0 cap zs w hH hsz

def slices_Reverse_int64_int64.f (l0 : List Int) : Option (List Int) := if l0.length ≤ 9223372036854775807 then some l0.reverse else none
theorem slices_Reverse_int64_int64.calls (P0_ : Nat → Prop) (u9000_ : Value) (l0 : List Int) (r : List Int) (w0 w : World) (hB : Below w0.heap.size w0 w) (ho0 : Kd.R (Kd.int .i64) 2 w w0.heap.size P0_ u9000_ l0) (h : slices_Reverse_int64_int64.f l0 = some r) :
  Calls Try.prog 74 #[u9000_] w fun e w' => e = .returned (.tuple #[]) ∧ Kd.R (Kd.int .i64) 2 w' w0.heap.size (fun k_ => (P0_ k_ ∨ w.heap.size ≤ k_)) u9000_ r ∧ Below w0.heap.size w0 w' ∧ Kept w w' (fun k_ => P0_ k_) := by
 unfold slices_Reverse_int64_int64.f at h
 by_cases hbig : l0.length ≤ 9223372036854775807
 ·rw [if_pos hbig] at h
  obtain rfl := Option.some.inj h
  by_cases hv : u9000_ = .slice none 0 0
  ·subst hv
   have hl : l0 = [] := by
    have := (Kd.R_reads' ho0).1
    exact List.length_eq_zero_iff.mp this.symm
   subst hl
   have ho := Aside0.mk ho0
   have hB' := Aside0.mk hB
   clear ho0 hB h
   go_enter Try.func74, Try.ntmps74
   go_wp2
   go_loopg [2, 3] 0 (fun gg v2 v3 wr => v2 = .int .i64 0 ∧ v3 = .int .i64 (-1) ∧ wr = w)
   case atStart => exact ⟨rfl, by go_num, rfl⟩
   case round =>
    obtain ⟨rfl, rfl, rfl⟩ := hrel
    go_wp2
    first | go_end0 | ((try simp only [Exit.inBlock, Exit.then]); refine bodyPost_ret (results_none rfl _ _ _) rfl ?_)
    exact ⟨rfl, Kd.R_mono ho.out (fun _ hk => .inl hk), hB'.out, Kept.refl _ _⟩
  ·have hown := Kd.own_of_R ho0
   obtain ⟨g, cap, rfl, hb, hlt, hn, hm, hl, hH⟩ := Lib.holds_of_ownsRow (enc := Value.int .i64) (zs := l0) hown hv
   have hP : P0_ g := ho0.1 g (by simp [Value.ownBlock])
   have hc := xw_Reverse_i64 g cap l0 w hH hbig
   refine hc.mono ?_
   rintro e w' ⟨rfl, n, rfl⟩
   have ho2 := Lib.ownsRow_putRow (q := n) (k := l0.length) (ys := l0.reverse) hown (by simp) (Nat.le_refl _)
   refine ⟨rfl, ?_, Lib.below_putRow hB hb, ?_, ?_⟩
   ·refine Kd.R_of_own ?_ (fun k hk => .inl ?_)
    ·rw [show (l0.reverse).take l0.length = l0.reverse from List.take_of_length_le (by simp)] at ho2
     rw [List.length_reverse]
     exact ho2
    ·have : g = k := by simpa [Value.ownBlock] using hk
     subst this; exact hP
   ·simp [Go.Sort.putRow, Go.Sort.mapBlock, Go.Sort.ahead]
   ·intro i hi hne
    have : g ≠ i := fun e => hne (e ▸ hP)
    simp [Go.Sort.putRow, Go.Sort.mapBlock, Go.Sort.ahead, Array.getElem?_modify, this]
 ·rw [if_neg hbig] at h; cases h


end Go.Proofs.Ytmihfmhfgjnfcab.Q

namespace Go.Proofs.Ytmihfmhfgjnfcab.Q
open Go.RowKit Go.Proofs.YtmihfmhfgjnfcabW.PrintWords Go.Proofs.YtmihfmhfgjnfcabW.PrintLast Go.Proofs.YtmihfmhfgjnfcabW.PrintMore
attribute [local go_sem] max2_int min2_int max_two min_two max_three min_three max_four min_four bn_leq bn_gtr bn_geq   -- for this text's walks alone
set_option linter.unusedVariables false
set_option linter.unusedSimpArgs false

/-! ### impl_BordersOf: function 13 (this session's own) -/
theorem xw_size (s : ByteArray) (w : World) : Calls Try.prog 66 #[.string s] w fun e w' => e = .returned (.int .i64 s.size) ∧ w' = w := by
 go_enter Try.func66, Try.ntmps66
 go_wp2
 go_ret
 exact ⟨rfl, rfl⟩
theorem xw_within (n lo hi : Int) (w : World) : Calls Try.prog 81 #[.int .i64 n, .int .i64 lo, .int .i64 hi] w fun e w' => e = .returned (.bool (inR n lo hi)) ∧ w' = w := by
 have hR := inR_eq n lo hi
 by_cases h1 : lo ≤ n
 ·by_cases h2 : n ≤ hi
  all_goals
   go_enter Try.func81, Try.ntmps81
   go_wp2
   go_ret
   exact ⟨by rw [hR.out]; simp [h1, h2], rfl⟩
 ·go_enter Try.func81, Try.ntmps81
  go_wp2
  go_ret
  exact ⟨by rw [hR.out, decide_eq_false (show ¬ lo ≤ n by omega)]; rfl, rfl⟩

def bordCur (n : Int) (l : List Int) (kk : Nat) : List Int := (l.take kk).map (fun p => wrap64 (n - p)) ++ l.drop kk
theorem bordCur_len (n : Int) (l : List Int) (kk : Nat) : (bordCur n l kk).length = l.length := by
 unfold bordCur; simp; omega
theorem bordCur_rd (n : Int) (l : List Int) (kk : Nat) (h : kk < l.length) : rdOf (0 : Int) (bordCur n l kk) (kk : Int) = l.getD kk 0 := by
 unfold rdOf bordCur
 rw [Int.toNat_natCast, List.getD_eq_getElem?_getD, List.getElem?_append_right (by simp; omega)]
 simp [List.getD_eq_getElem?_getD, Nat.min_eq_left (Nat.le_of_lt h)]
theorem bordCur_set (n : Int) (l : List Int) (kk : Nat) (h : kk < l.length) : (bordCur n l kk).set kk (wrap64 (n - l.getD kk 0)) = bordCur n l (kk + 1) := by
 unfold bordCur
 rw [List.set_append_right _ _ (by simp; omega)]
 have e : l.drop kk = l.getD kk 0 :: l.drop (kk + 1) := by
  rw [List.drop_eq_getElem_cons h]
  simp [List.getD_eq_getElem?_getD, h]
 have e2 : (l.take (kk + 1)) = l.take kk ++ [l.getD kk 0] := by
  rw [List.take_succ_eq_append_getElem h]
  simp [List.getD_eq_getElem?_getD, h]
 rw [e, e2]
 simp [Nat.min_eq_left (Nat.le_of_lt h)]
def impl_BordersOf.f (k : Nat) (a0 : ByteArray) : Option (List Int × Int) := (impl_PeriodsOf.f k a0).bind fun bt => if bt.2 = 0 then (if bt.1.length ≤ 9223372036854775806 then some ((bordCur a0.size bt.1 bt.1.length).reverse, 0) else none) else some ([], bt.2)
set_option maxHeartbeats 8000000 in
theorem impl_BordersOf.calls (k : Nat) (a0 : ByteArray) (r1 : List Int) (r2 : Int) (w : World) (h : impl_BordersOf.f k a0 = some (r1, r2)) :
  Calls Try.prog 13 #[.string a0] w fun e w' => ∃ v0_ : Value, e = .returned (.tuple #[v0_, .int .i64 r2]) ∧ Kd.R (Kd.int .i64) 2 w' w.heap.size (fun _ => True) v0_ r1 ∧ Below w.heap.size w w' := by
 unfold impl_BordersOf.f at h
 obtain ⟨⟨l, c⟩, hP, h⟩ := Option.bind_eq_some_iff.mp h
 have hC := impl_PeriodsOf.calls k a0 l c w hP
 clear hP
 simp only at h
 by_cases hc : c = 0
 ·subst hc
  rw [if_pos rfl] at h
  by_cases hbig : l.length ≤ 9223372036854775806
  ·rw [if_pos hbig] at h
   simp only [Option.some.injEq, Prod.mk.injEq] at h
   obtain ⟨rfl, rfl⟩ := h
   obtain ⟨r, hr⟩ : ∃ r, r = bordCur a0.size l l.length := ⟨_, rfl⟩
   have hrl := Aside0.mk (show r.length ≤ 9223372036854775807 by rw [hr, bordCur_len]; omega)
   have hbig' := Aside0.mk hbig
   rw [← hr]
   have hr' := Aside0.mk hr
   clear hr hbig
   go_enter Try.func13, Try.ntmps13
   go_wp2_with (go_at_call 10; refine hC.mono ?_; rintro e w1 ⟨v, rfl, hR, hb⟩; obtain ⟨A, c, rfl, hlc, hCC⟩ := Kd.R_reads hR; have HO := Aside0.mk hR; have HB := Aside0.mk hb; clear hR hb hCC)
   go_loopg [6, 7, 18] l.length (fun gg v6 v7 v18 wr => ∃ (kk : Nat), kk ≤ l.length ∧ l.length - kk ≤ gg ∧ v18 = .int .i64 kk ∧ Aside0 (Kd.R (Kd.int .i64) 2 wr w.heap.size (fun _ => True) (.slice A l.length c) (bordCur a0.size l kk)) ∧ Aside0 (Below w.heap.size w wr))
   case atStart => exact ⟨0, Nat.zero_le _, by omega, rfl, ⟨by unfold bordCur; simpa using HO.out⟩, HB⟩
   case round =>
    clear HO HB
    obtain ⟨kk, hkk, hgg, rfl, HO, HB⟩ := hrel
    by_cases hlt : kk < l.length
    ·have hltz : (kk : Int) < (l.length : Int) := by omega
     have c1 := decide_eq_true hltz
     obtain ⟨x, hx⟩ : ∃ x, x = l.getD kk 0 := ⟨_, rfl⟩
     have hx' := Aside0.mk hx
     have hset := Aside0.mk (bordCur_set a0.size l kk hlt)
     rw [← hx] at hset
     obtain ⟨g, cap, e1, hg, hgl, hcl⟩ := Kd.R_form HO.out (by rw [bordCur_len]; omega)
     injection e1 with e1 e2 e3
     subst e1 e3
     have HG := Aside0.mk hg
     obtain ⟨h1, h2⟩ := Kd.R_celln 0 HO.out (kk : Int) (by omega) hltz
     rw [bordCur_rd _ _ _ hlt, ← hx] at h1
     rw [Int.toNat_natCast] at h1 h2
     have HP := Kd.R_putg HO.out (kk : Int) (wrap64 ((a0.size : Int) - x))
     rw [Int.toNat_natCast, hset.out] at HP
     clear e2 hg hgl hcl hx hset
     have p0 := eq_true (show (0 : Int) ≤ (kk : Int) by omega)
     have n1 := eq_true hlt
     go_wp2_with (go_at_call 66; refine (xw_size _ _).mono ?_; rintro e w2 ⟨rfl, rfl⟩)
     go_roundg (l.length - (kk + 1))
     case measure => omega
     case rel =>
      have hb2 := hbig'.out
      exact ⟨kk + 1, by omega, by omega, by rw [w64 (by omega) (by omega)]; rfl, ⟨HP.1⟩, ⟨below_set HB.out HG.out⟩⟩
    ·have hltz : ¬ (kk : Int) < (l.length : Int) := by omega
     have c1 := decide_eq_false hltz
     obtain rfl : kk = l.length := by omega
     rw [← hr'.out] at HO
     have hq := Aside0.mk (slices_Reverse_int64_int64.calls (fun _ => True) _ r r.reverse w wr HB.out HO.out (by unfold slices_Reverse_int64_int64.f; rw [if_pos hrl.out]))
     clear HO HB
     go_wp2_with (go_at_call 74; refine hq.out.mono ?_; rintro e w3 ⟨rfl, hR3, hB3, _⟩; have HO := Aside0.mk hR3; have HB := Aside0.mk hB3; clear hR3 hB3)
     go_ret2
     exact ⟨_, rfl, Kd.R_mono HO.out (fun _ _ => trivial), HB.out⟩
  ·rw [if_neg hbig] at h; cases h
 ·rw [if_neg hc] at h
  simp only [Option.some.injEq, Prod.mk.injEq] at h
  obtain ⟨rfl, rfl⟩ := h
  have c1 : (c == 0) = false := beq_eq_false_iff_ne.mpr hc
  have c2 : (c != 0) = true := by simp [bne, c1]
  clear hc
  go_enter Try.func13, Try.ntmps13
  go_wp2_with (go_at_call 10; refine hC.mono ?_; rintro e w1 ⟨v, rfl, hR, hb⟩; have HB := Aside0.mk hb; clear hR hb)
  go_ret2
  exact ⟨_, rfl, Kd.R_nil _ _ _ _ _, HB.out⟩


end Go.Proofs.Ytmihfmhfgjnfcab.Q

namespace Go.Proofs.Ytmihfmhfgjnfcab.Q
open Go.RowKit Go.Proofs.YtmihfmhfgjnfcabW.PrintWords Go.Proofs.YtmihfmhfgjnfcabW.PrintLast Go.Proofs.YtmihfmhfgjnfcabW.PrintMore
attribute [local go_sem] max2_int min2_int max_two min_two max_three min_three max_four min_four bn_leq bn_gtr bn_geq   -- for this text's walks alone
set_option linter.unusedVariables false
set_option linter.unusedSimpArgs false

/-! ### impl_letter: function 89 -/
def impl_letter.f (a0 : Int) : Option (ByteArray) := some (strOfNums (([(wrap64 (97 + a0)) % 256] : List Int)))
set_option maxHeartbeats 8000000 in
set_option maxRecDepth 100000 in
theorem impl_letter.calls (a0 : Int) (r : ByteArray) (w : World) (h : impl_letter.f a0 = some r) :
  Calls Try.prog 89 #[.int .i64 a0] w fun e w' => e = .returned (.string r) ∧ Below w.heap.size w w' := by
 have HB := Aside0.mk (Below.refl w.heap.size w)
 have H : (some (strOfNums (([(wrap64 (97 + a0)) % 256] : List Int)))) = some r := h
 clear h
 obtain ⟨y447, hy447⟩ : ∃ y_ : List Int, y_ = (([(wrap64 (97 + a0)) % 256] : List Int)) := ⟨_, rfl⟩
 replace H : (some (strOfNums y447)) = some r := by first | (rw [hy447]; with_reducible exact H) | (have H2_ := (Option.bind_some _ _).symm.trans H; rw [hy447]; with_reducible exact H2_) | (have H2_ := (Option.bind_some _ _).symm.trans H; with_reducible exact H2_) | with_reducible exact H | (rw [hy447]; exact H) | exact H
 have Ny447 := Aside0.mk hy447
 clear hy447
 obtain rfl := Option.some.inj H
 go_enter Try.func89, Try.ntmps89
 go_wp2_with (first | ((with_reducible refine gate_dst (N := 6) rfl ?_); refine Kd.R_lit (Kd.int .u8) _ 5 ?hg (N := 6) ?hd (xs := ([(wrap64 (97 + a0)) % 256] : List Int)) (inner := [.int .u8 ((wrap64 (97 + a0)) % 256)]) (ok := fun _ => True) (okp := fun _ => True) ?hr ?hp (fun _ hk => hk) trivial (Below.refl _ _) (Nat.le_refl _) (by simp) ?_; (case hd => rfl); (case hg => rfl); (case hr => first | (go_simp; done) | (go_simp; rfl)); (case hp => exact (Reps.one (show Kd.M (Kd.int .u8) _ _ _ ((wrap64 (97 + a0)) % 256) [.int .u8 ((wrap64 (97 + a0)) % 256)] from rfl) (Reps.none _ _))); intro v448 w2 ho3 hb hg_ hnew_; clear hg_ hnew_; (first | rw [← Ny447.out] at ho3 | (simp only [Int.reduceToNat] at ho3; rw [← Ny447.out] at ho3)); have n0_ := Aside0.mk (Kd.R_lower ho3 (below_size (by repeat (first | (with_reducible first | exact HB.out | apply below_alloc | apply pw_below_drewN | apply below_drew1) | exact HB.out)))); have n1_ := Aside0.mk (below_step (by repeat (first | (with_reducible first | exact HB.out | apply below_alloc | apply pw_below_drewN | apply below_drew1) | exact HB.out)) hb); clear HB; have HO449 := n0_; have HB := n1_; clear n0_ n1_; clear hb ho3; have hcv4 := own_string (P := Try.prog) Try.underlying22 Try.underlying5 Try.underlying9 (Kd.own_of_R HO449.out)))
 go_ret
 exact ⟨by first | rfl | (simp [errW_none, errW_some] <;> rfl) | (simp [*, errW_none, errW_some] <;> rfl), by repeat (first | (with_reducible first | exact HB.out | apply below_alloc | apply pw_below_drewN | apply below_drew1) | exact HB.out)⟩

end Go.Proofs.Ytmihfmhfgjnfcab.Q

namespace Go.Proofs.Ytmihfmhfgjnfcab.Q
open Go.RowKit Go.Proofs.YtmihfmhfgjnfcabW.PrintWords Go.Proofs.YtmihfmhfgjnfcabW.PrintLast Go.Proofs.YtmihfmhfgjnfcabW.PrintMore
attribute [local go_sem] max2_int min2_int max_two min_two max_three min_three max_four min_four bn_leq bn_gtr bn_geq   -- for this text's walks alone
set_option linter.unusedVariables false
set_option linter.unusedSimpArgs false

/-! ### impl_divisor: function 119 -/
def impl_divisor.l0 : Nat → Int → Int → Option (Int)
 | 0, _, _ => none
 | k + 1, x0, x1 => if x1 = 0 then (some x0) else (impl_divisor.l0 k x1 (Int.tmod x0 x1))
def impl_divisor.f (k : Nat) (a0 : Int) (a1 : Int) : Option (Int) := impl_divisor.l0 k a0 a1
set_option maxHeartbeats 8000000 in
set_option maxRecDepth 100000 in
theorem impl_divisor.calls (k : Nat) (a0 : Int) (a1 : Int) (r : Int) (w : World) (h : impl_divisor.f k a0 a1 = some r) :
  Calls Try.prog 119 #[.int .i64 a0, .int .i64 a1] w fun e w' => e = .returned (.int .i64 r) ∧ Drawn0 w w' := by
 have H : (impl_divisor.l0 k a0 a1) = some r := h
 clear h
 have H' := Aside0.mk H
 clear H
 go_enter Try.func119, Try.ntmps119
 go_wp2
 repeat (go_quiet (fail); try go_wp2)
 go_loopg [0, 1] k (fun kq v0 v1 w' => ∃ (x0_1 : Int) (x1_1 : Int), v0 = .int .i64 x0_1 ∧ v1 = .int .i64 x1_1 ∧ Aside0 (impl_divisor.l0 kq x0_1 x1_1 = some r) ∧ Aside0 (kq ≤ k) ∧ Drawn0 w w')
 case atStart => exact ⟨(a0), (a1), (by first | rfl | (simp; done) | (simp [*]; done)), (by first | rfl | (simp; done) | (simp [*]; done)), H', ⟨Nat.le_refl _⟩, by repeat (first | exact Drawn0.refl _ | apply Drawn0.step)⟩
 case round =>
  clear H'
  try clear c1
  try clear p2
  obtain ⟨x0_1, x1_1, rfl, rfl, HA, HK1, ⟨m1, rfl⟩⟩ := hrel
  cases gk with
  | zero => exact absurd HA.out (by simp [impl_divisor.l0])
  | succ k1 =>
   have H := HA.out
   clear HA
   simp only [impl_divisor.l0] at H
   by_cases c3 : x1_1 = 0
   ·rw [if_pos c3] at H
    have c3b0 : (x1_1 == 0) = true := beq_iff_eq.mpr c3
    have c3b1 : (x1_1 != 0) = false := bne_eq_false_iff_eq.mpr c3
    clear c3
    obtain rfl := Option.some.inj H
    go_wp2
    repeat (go_quiet (fail); try go_wp2)
    go_ret
    exact ⟨by first | rfl | (simp; done) | (simp [*]; done), by repeat (first | exact Drawn0.refl _ | apply Drawn0.step)⟩
   ·rw [if_neg c3] at H
    have c3b0 : (x1_1 == 0) = false := beq_eq_false_iff_ne.mpr c3
    have c3b1 : (x1_1 != 0) = true := bne_iff_ne.mpr c3
    have H' := Aside0.mk H
    clear H
    go_wp2
    repeat (go_quiet (fail); try go_wp2)
    go_roundg k1
    case measure => have := HK1.out; omega
    case rel => exact ⟨(x1_1), (Int.tmod x0_1 x1_1), (by first | rfl | (simp; done) | (simp [*]; done)), (by first | rfl | (simp; done) | (simp [*]; done)), H', ⟨by have := HK1.out; omega⟩, by repeat (first | exact Drawn0.refl _ | apply Drawn0.step)⟩

end Go.Proofs.Ytmihfmhfgjnfcab.Q

namespace Go.Proofs.Ytmihfmhfgjnfcab.Q
open Go.RowKit Go.Proofs.YtmihfmhfgjnfcabW.PrintWords Go.Proofs.YtmihfmhfgjnfcabW.PrintLast Go.Proofs.YtmihfmhfgjnfcabW.PrintMore
attribute [local go_sem] max2_int min2_int max_two min_two max_three min_three max_four min_four bn_leq bn_gtr bn_geq   -- for this text's walks alone
set_option linter.unusedVariables false
set_option linter.unusedSimpArgs false

/-! ### impl_doubleLength: function 110 -/
def impl_doubleLength.f (k : Nat) (a0 : Int) (a1 : Int) : Option (Int) := (impl_divisor.f k a0 a1).bind fun t674 => (some (wrap64 ((wrap64 ((wrap64 (a0 + a1)) - t674)) - 1)))
set_option maxHeartbeats 8000000 in
set_option maxRecDepth 100000 in
theorem impl_doubleLength.calls (k : Nat) (a0 : Int) (a1 : Int) (r : Int) (w : World) (h : impl_doubleLength.f k a0 a1 = some r) :
  Calls Try.prog 110 #[.int .i64 a0, .int .i64 a1] w fun e w' => e = .returned (.int .i64 r) ∧ Drawn0 w w' := by
 have H : ((impl_divisor.f k a0 a1).bind fun t674 => (some (wrap64 ((wrap64 ((wrap64 (a0 + a1)) - t674)) - 1)))) = some r := h
 clear h
 replace H := Option.bind_eq_some_iff.mp H
 obtain ⟨t674, A30, H⟩ := H
 replace H : (some (wrap64 ((wrap64 ((wrap64 (a0 + a1)) - t674)) - 1))) = some r := H
 have A3 := Aside0.mk A30
 clear A30
 obtain rfl := Option.some.inj H
 go_enter Try.func110, Try.ntmps110
 go_wp2_with (first | ((with_reducible refine gate_callee (f := 119) rfl ?_); refine goesL_ (some 10) rfl rfl Try.func119 (by kernel_rfl) rfl #[.int .i64 a0, .int .i64 a1] rfl (by (try simp only [List.map_toArray, List.map_cons, List.map_nil]); first | done | rfl | (simp only [List.length_drop, List.length_take]; rfl)) ?_; (with_reducible refine (impl_divisor.calls k a0 a1 t674 _ A3.out).mono ?_); rintro e w' ⟨rfl, ⟨nd, rfl⟩⟩; refine ⟨_, rfl, ?_⟩))
 go_ret
 exact ⟨by first | rfl | (simp; done) | (simp [*]; done), by repeat (first | exact Drawn0.refl _ | apply Drawn0.step)⟩

end Go.Proofs.Ytmihfmhfgjnfcab.Q

namespace Go.Proofs.Ytmihfmhfgjnfcab.Q
open Go.RowKit Go.Proofs.YtmihfmhfgjnfcabW.PrintWords Go.Proofs.YtmihfmhfgjnfcabW.PrintLast Go.Proofs.YtmihfmhfgjnfcabW.PrintMore
attribute [local go_sem] max2_int min2_int max_two min_two max_three min_three max_four min_four bn_leq bn_gtr bn_geq   -- for this text's walks alone
set_option linter.unusedVariables false
set_option linter.unusedSimpArgs false

/-! ### impl_classes: function 111 -/
mutual
def impl_classes.l0 : Nat → Int → Int → Int → List Int → Int → Int → Option (List Int)
 | 0, _, _, _, _, _, _ => none
 | k + 1, x0, x1, x2, x7, x18, x19 => if x19 < x18 then (if 0 ≤ x19 then (if x19 < (x7.length : Int) then (impl_classes.l0 k x0 x1 x2 (x7.set (x19 : Int).toNat x19) x18 (wrap64 (x19 + 1))) else (none)) else (none)) else ((some (([x1, x2] : List Int) : List Int)).bind fun y679 => (impl_classes.l1 k x0 x7 y679 (y679.length : Int) 0))
def impl_classes.l1 : Nat → Int → List Int → List Int → Int → Int → Option (List Int)
 | 0, _, _, _, _, _ => none
 | k + 1, x0, x7, x29, x30, x31 => if x31 < x30 then (if 0 ≤ x31 then (if x31 < (x29.length : Int) then (impl_classes.l2 k x0 x7 (rd x29 x31) (rd x29 x31) x29 x30 x31) else (none)) else (none)) else (some x7)
def impl_classes.l2 : Nat → Int → List Int → Int → Int → List Int → Int → Int → Option (List Int)
 | 0, _, _, _, _, _, _, _ => none
 | k + 1, x0, x7, x10, x11, x29, x30, x31 => if x11 < x0 then (if 0 ≤ x11 then (if x11 < (x7.length : Int) then (if 0 ≤ (wrap64 (x11 - x10)) then (if (wrap64 (x11 - x10)) < (x7.length : Int) then (impl_classes.l3 k x0 x7 x10 x11 (mn (rd x7 x11) (rd x7 (wrap64 (x11 - x10)))) (mx (rd x7 x11) (rd x7 (wrap64 (x11 - x10)))) x29 x30 x31 (x7.length : Int) 0) else (none)) else (none)) else (none)) else (none)) else (impl_classes.l1 k x0 x7 x29 x30 (wrap64 (x31 + 1)))
def impl_classes.l3 : Nat → Int → List Int → Int → Int → Int → Int → List Int → Int → Int → Int → Int → Option (List Int)
 | 0, _, _, _, _, _, _, _, _, _, _, _ => none
 | k + 1, x0, x7, x10, x11, x12, x13, x29, x30, x31, x64, x65 => if x65 < x64 then (if 0 ≤ x65 then (if x65 < (x7.length : Int) then (if (rd x7 x65) = x13 then (impl_classes.l3 k x0 (x7.set (x65 : Int).toNat x12) x10 x11 x12 x13 x29 x30 x31 x64 (wrap64 (x65 + 1))) else (impl_classes.l3 k x0 x7 x10 x11 x12 x13 x29 x30 x31 x64 (wrap64 (x65 + 1)))) else (none)) else (none)) else (impl_classes.l2 k x0 x7 x10 (wrap64 (x11 + 1)) x29 x30 x31)
end
def impl_classes.f (k : Nat) (a0 : Int) (a1 : Int) (a2 : Int) : Option (List Int) := if 0 ≤ a0 then (if (a0 : Int).toNat ≤ 35184372088832 then ((some (List.replicate (a0 : Int).toNat 0 : List Int)).bind fun y675 => (impl_classes.l0 k a0 a1 a2 y675 (y675.length : Int) 0)) else (none)) else (none)
set_option maxHeartbeats 8000000 in
set_option maxRecDepth 100000 in
theorem impl_classes.calls (k : Nat) (a0 : Int) (a1 : Int) (a2 : Int) (r : List Int) (w : World) (h : impl_classes.f k a0 a1 a2 = some r) :
  Calls Try.prog 111 #[.int .i64 a0, .int .i64 a1, .int .i64 a2] w fun e w' => ∃ v0_ : Value, e = .returned (v0_) ∧ Kd.R (Kd.int .i64) 2 w' w.heap.size (fun _ => True) v0_ r ∧ Below w.heap.size w w' := by
 have HB := Aside0.mk (Below.refl w.heap.size w)
 have H : (if 0 ≤ a0 then (if (a0 : Int).toNat ≤ 35184372088832 then ((some (List.replicate (a0 : Int).toNat 0 : List Int)).bind fun y675 => (impl_classes.l0 k a0 a1 a2 y675 (y675.length : Int) 0)) else (none)) else (none)) = some r := h
 clear h
 by_cases c4 : 0 ≤ a0
 ·rw [if_pos c4] at H
  have c4b0 := eq_true c4
  have c4b1 : decide (0 ≤ a0) = true := decide_eq_true c4
  clear c4
  by_cases c5 : (a0 : Int).toNat ≤ 35184372088832
  ·rw [if_pos c5] at H
   have c5b0 := eq_true c5
   have c5b1 : decide ((a0 : Int).toNat ≤ 35184372088832) = true := decide_eq_true c5
   clear c5
   obtain ⟨y675, hy675⟩ : ∃ y_ : List Int, y_ = (List.replicate (a0 : Int).toNat 0) := ⟨_, rfl⟩
   replace H : (impl_classes.l0 k a0 a1 a2 y675 (y675.length : Int) 0) = some r := by first | (rw [hy675]; with_reducible exact H) | (have H2_ := (Option.bind_some _ _).symm.trans H; rw [hy675]; with_reducible exact H2_) | (have H2_ := (Option.bind_some _ _).symm.trans H; with_reducible exact H2_) | with_reducible exact H | (rw [hy675]; exact H) | exact H
   have Ny675 := Aside0.mk hy675
   clear hy675
   have H' := Aside0.mk H
   clear H
   go_enter Try.func111, Try.ntmps111
   go_wp2_with (first | ((with_reducible refine gate_dst (N := 16) rfl ?_); refine Kd.R_make (Kd.int .i64) _ 2 rfl (N := 16) rfl 27 _ _ rfl a0 rfl rfl Try.underlying27 (.int .i64 0) 8 info2 rfl (by decide) (by omega) 0 (ok := fun _ => True) (okp := fun _ => True) rfl (fun _ hk => hk) trivial (of_decide_eq_true (by first | (with_reducible assumption) | assumption)) (Nat.le_trans (Nat.mul_le_mul_right _ (of_decide_eq_true (by first | (with_reducible assumption) | assumption) : a0.toNat ≤ 35184372088832)) (by omega)) (Below.refl _ _) (Nat.le_refl _) ?_; intro v676 w6 ho7 hb hg_ hnew_; clear hg_ hnew_; (first | rw [← Ny675.out] at ho7 | (simp only [Int.reduceToNat] at ho7; rw [← Ny675.out] at ho7)); have n0_ := Aside0.mk (Kd.R_lower ho7 (below_size (by repeat (first | (with_reducible first | exact HB.out | apply below_alloc | apply pw_below_drewN | apply below_drew1) | exact HB.out)))); have n1_ := Aside0.mk (below_step (by repeat (first | (with_reducible first | exact HB.out | apply below_alloc | apply pw_below_drewN | apply below_drew1) | exact HB.out)) hb); clear HB; have HO677 := n0_; have HB := n1_; clear n0_ n1_; clear hb ho7; obtain ⟨Ao8, co8, eo8⟩ := Kd.R_slice HO677.out; subst eo8))
   repeat (go_quiet (fail); try go_wp2)
   go_loopg [19] k (fun kq v19 w' => ∃ (x7_1 : List Int) (x19_1 : Int), v19 = .int .i64 x19_1 ∧ Aside0 (impl_classes.l0 kq a0 a1 a2 x7_1 (y675.length : Int) x19_1 = some r) ∧ Aside0 (kq ≤ k) ∧ Aside0 (Kd.R (Kd.int .i64) 2 w' w.heap.size (fun _ => True) (.slice Ao8 y675.length co8) x7_1) ∧ Aside0 (Below w.heap.size w w'))
   case atStart => exact ⟨(y675), (0), (by first | rfl | (simp; done) | (simp [*]; done)), H', ⟨Nat.le_refl _⟩, ⟨by (with_reducible repeat (first | apply Kd.R_alloc | apply Kd.R_drewN | apply Kd.R_drew)); exact HO677.out⟩, ⟨by repeat (first | (with_reducible first | exact HB.out | apply below_alloc | apply pw_below_drewN | apply below_drew1) | exact HB.out)⟩⟩
   case round =>
    clear H'
    try clear c1
    try clear p2
    try clear c4
    try clear c4b0
    try clear c4b1
    try clear c5
    try clear c5b0
    try clear c5b1
    obtain ⟨x7_1, x19_1, rfl, HA, HK1, HO_7, HB⟩ := hrel
    have hl7_1 := (Kd.R_reads' HO_7.out).1
    rw [hl7_1] at HO_7
    (try simp only [hl7_1])
    cases gk with
    | zero => exact absurd HA.out (by simp [impl_classes.l0])
    | succ k1 =>
     have H := HA.out
     clear HA
     simp only [impl_classes.l0] at H
     by_cases c9 : x19_1 < (y675.length : Int)
     ·rw [if_pos c9] at H
      have c9b0 : decide (x19_1 < (y675.length : Int)) = true := decide_eq_true c9
      (try (have c9b0_hl7_1a := c9b0; rw [hl7_1] at c9b0_hl7_1a))
      (try (have c9b0_hl7_1a_hl7_2 := c9b0; rw [hl7_1, hl7_2] at c9b0_hl7_1a_hl7_2))
      (try (have c9b0_hl7_1a_hl7_3 := c9b0; rw [hl7_1, hl7_3] at c9b0_hl7_1a_hl7_3))
      (try (have c9b0_hl7_1a_hl7_4 := c9b0; rw [hl7_1, hl7_4] at c9b0_hl7_1a_hl7_4))
      (try (have c9b0_hl7_1b := c9b0; rw [← hl7_1] at c9b0_hl7_1b))
      (try (have c9b0_hl7_1b_hl7_2 := c9b0; rw [← hl7_1, ← hl7_2] at c9b0_hl7_1b_hl7_2))
      (try (have c9b0_hl7_1b_hl7_3 := c9b0; rw [← hl7_1, ← hl7_3] at c9b0_hl7_1b_hl7_3))
      (try (have c9b0_hl7_1b_hl7_4 := c9b0; rw [← hl7_1, ← hl7_4] at c9b0_hl7_1b_hl7_4))
      (try (have c9b0_hl7_2a := c9b0; rw [hl7_2] at c9b0_hl7_2a))
      (try (have c9b0_hl7_2a_hl7_1 := c9b0; rw [hl7_2, hl7_1] at c9b0_hl7_2a_hl7_1))
      (try (have c9b0_hl7_2a_hl7_3 := c9b0; rw [hl7_2, hl7_3] at c9b0_hl7_2a_hl7_3))
      (try (have c9b0_hl7_2a_hl7_4 := c9b0; rw [hl7_2, hl7_4] at c9b0_hl7_2a_hl7_4))
      (try (have c9b0_hl7_2b := c9b0; rw [← hl7_2] at c9b0_hl7_2b))
      (try (have c9b0_hl7_2b_hl7_1 := c9b0; rw [← hl7_2, ← hl7_1] at c9b0_hl7_2b_hl7_1))
      (try (have c9b0_hl7_2b_hl7_3 := c9b0; rw [← hl7_2, ← hl7_3] at c9b0_hl7_2b_hl7_3))
      (try (have c9b0_hl7_2b_hl7_4 := c9b0; rw [← hl7_2, ← hl7_4] at c9b0_hl7_2b_hl7_4))
      (try (have c9b0_hl7_3a := c9b0; rw [hl7_3] at c9b0_hl7_3a))
      (try (have c9b0_hl7_3a_hl7_1 := c9b0; rw [hl7_3, hl7_1] at c9b0_hl7_3a_hl7_1))
      (try (have c9b0_hl7_3a_hl7_2 := c9b0; rw [hl7_3, hl7_2] at c9b0_hl7_3a_hl7_2))
      (try (have c9b0_hl7_3a_hl7_4 := c9b0; rw [hl7_3, hl7_4] at c9b0_hl7_3a_hl7_4))
      (try (have c9b0_hl7_3b := c9b0; rw [← hl7_3] at c9b0_hl7_3b))
      (try (have c9b0_hl7_3b_hl7_1 := c9b0; rw [← hl7_3, ← hl7_1] at c9b0_hl7_3b_hl7_1))
      (try (have c9b0_hl7_3b_hl7_2 := c9b0; rw [← hl7_3, ← hl7_2] at c9b0_hl7_3b_hl7_2))
      (try (have c9b0_hl7_3b_hl7_4 := c9b0; rw [← hl7_3, ← hl7_4] at c9b0_hl7_3b_hl7_4))
      (try (have c9b0_hl7_4a := c9b0; rw [hl7_4] at c9b0_hl7_4a))
      (try (have c9b0_hl7_4a_hl7_1 := c9b0; rw [hl7_4, hl7_1] at c9b0_hl7_4a_hl7_1))
      (try (have c9b0_hl7_4a_hl7_2 := c9b0; rw [hl7_4, hl7_2] at c9b0_hl7_4a_hl7_2))
      (try (have c9b0_hl7_4a_hl7_3 := c9b0; rw [hl7_4, hl7_3] at c9b0_hl7_4a_hl7_3))
      (try (have c9b0_hl7_4b := c9b0; rw [← hl7_4] at c9b0_hl7_4b))
      (try (have c9b0_hl7_4b_hl7_1 := c9b0; rw [← hl7_4, ← hl7_1] at c9b0_hl7_4b_hl7_1))
      (try (have c9b0_hl7_4b_hl7_2 := c9b0; rw [← hl7_4, ← hl7_2] at c9b0_hl7_4b_hl7_2))
      (try (have c9b0_hl7_4b_hl7_3 := c9b0; rw [← hl7_4, ← hl7_3] at c9b0_hl7_4b_hl7_3))
      clear c9
      by_cases c10 : 0 ≤ x19_1
      ·rw [if_pos c10] at H
       have c10b0 : decide (0 ≤ x19_1) = true := decide_eq_true c10
       clear c10
       by_cases c11 : x19_1 < (x7_1.length : Int)
       ·rw [if_pos c11] at H
        have c11b0 : decide (x19_1 < (x7_1.length : Int)) = true := decide_eq_true c11
        (try (have c11b0_hl7_1a := c11b0; rw [hl7_1] at c11b0_hl7_1a))
        (try (have c11b0_hl7_1a_hl7_2 := c11b0; rw [hl7_1, hl7_2] at c11b0_hl7_1a_hl7_2))
        (try (have c11b0_hl7_1a_hl7_3 := c11b0; rw [hl7_1, hl7_3] at c11b0_hl7_1a_hl7_3))
        (try (have c11b0_hl7_1a_hl7_4 := c11b0; rw [hl7_1, hl7_4] at c11b0_hl7_1a_hl7_4))
        (try (have c11b0_hl7_1b := c11b0; rw [← hl7_1] at c11b0_hl7_1b))
        (try (have c11b0_hl7_1b_hl7_2 := c11b0; rw [← hl7_1, ← hl7_2] at c11b0_hl7_1b_hl7_2))
        (try (have c11b0_hl7_1b_hl7_3 := c11b0; rw [← hl7_1, ← hl7_3] at c11b0_hl7_1b_hl7_3))
        (try (have c11b0_hl7_1b_hl7_4 := c11b0; rw [← hl7_1, ← hl7_4] at c11b0_hl7_1b_hl7_4))
        (try (have c11b0_hl7_2a := c11b0; rw [hl7_2] at c11b0_hl7_2a))
        (try (have c11b0_hl7_2a_hl7_1 := c11b0; rw [hl7_2, hl7_1] at c11b0_hl7_2a_hl7_1))
        (try (have c11b0_hl7_2a_hl7_3 := c11b0; rw [hl7_2, hl7_3] at c11b0_hl7_2a_hl7_3))
        (try (have c11b0_hl7_2a_hl7_4 := c11b0; rw [hl7_2, hl7_4] at c11b0_hl7_2a_hl7_4))
        (try (have c11b0_hl7_2b := c11b0; rw [← hl7_2] at c11b0_hl7_2b))
        (try (have c11b0_hl7_2b_hl7_1 := c11b0; rw [← hl7_2, ← hl7_1] at c11b0_hl7_2b_hl7_1))
        (try (have c11b0_hl7_2b_hl7_3 := c11b0; rw [← hl7_2, ← hl7_3] at c11b0_hl7_2b_hl7_3))
        (try (have c11b0_hl7_2b_hl7_4 := c11b0; rw [← hl7_2, ← hl7_4] at c11b0_hl7_2b_hl7_4))
        (try (have c11b0_hl7_3a := c11b0; rw [hl7_3] at c11b0_hl7_3a))
        (try (have c11b0_hl7_3a_hl7_1 := c11b0; rw [hl7_3, hl7_1] at c11b0_hl7_3a_hl7_1))
        (try (have c11b0_hl7_3a_hl7_2 := c11b0; rw [hl7_3, hl7_2] at c11b0_hl7_3a_hl7_2))
        (try (have c11b0_hl7_3a_hl7_4 := c11b0; rw [hl7_3, hl7_4] at c11b0_hl7_3a_hl7_4))
        (try (have c11b0_hl7_3b := c11b0; rw [← hl7_3] at c11b0_hl7_3b))
        (try (have c11b0_hl7_3b_hl7_1 := c11b0; rw [← hl7_3, ← hl7_1] at c11b0_hl7_3b_hl7_1))
        (try (have c11b0_hl7_3b_hl7_2 := c11b0; rw [← hl7_3, ← hl7_2] at c11b0_hl7_3b_hl7_2))
        (try (have c11b0_hl7_3b_hl7_4 := c11b0; rw [← hl7_3, ← hl7_4] at c11b0_hl7_3b_hl7_4))
        (try (have c11b0_hl7_4a := c11b0; rw [hl7_4] at c11b0_hl7_4a))
        (try (have c11b0_hl7_4a_hl7_1 := c11b0; rw [hl7_4, hl7_1] at c11b0_hl7_4a_hl7_1))
        (try (have c11b0_hl7_4a_hl7_2 := c11b0; rw [hl7_4, hl7_2] at c11b0_hl7_4a_hl7_2))
        (try (have c11b0_hl7_4a_hl7_3 := c11b0; rw [hl7_4, hl7_3] at c11b0_hl7_4a_hl7_3))
        (try (have c11b0_hl7_4b := c11b0; rw [← hl7_4] at c11b0_hl7_4b))
        (try (have c11b0_hl7_4b_hl7_1 := c11b0; rw [← hl7_4, ← hl7_1] at c11b0_hl7_4b_hl7_1))
        (try (have c11b0_hl7_4b_hl7_2 := c11b0; rw [← hl7_4, ← hl7_2] at c11b0_hl7_4b_hl7_2))
        (try (have c11b0_hl7_4b_hl7_3 := c11b0; rw [← hl7_4, ← hl7_3] at c11b0_hl7_4b_hl7_3))
        clear c11
        obtain ⟨y678, hy678⟩ : ∃ y_ : List Int, y_ = (x7_1.set (x19_1 : Int).toNat x19_1) := ⟨_, rfl⟩
        replace H : (impl_classes.l0 k1 a0 a1 a2 y678 (y675.length : Int) (wrap64 (x19_1 + 1))) = some r := by first | (rw [hy678]; with_reducible exact H) | (have H2_ := (Option.bind_some _ _).symm.trans H; rw [hy678]; with_reducible exact H2_) | (have H2_ := (Option.bind_some _ _).symm.trans H; with_reducible exact H2_) | with_reducible exact H | (rw [hy678]; exact H) | exact H
        have Ny678 := Aside0.mk hy678
        clear hy678
        have H' := Aside0.mk H
        clear H
        have p12 : 0 ≤ (x19_1 : Int) := of_decide_eq_true (by first | (with_reducible assumption) | assumption)
        have q12 : (x19_1 : Int) < ((x7_1.length : Int) : Int) := of_decide_eq_true (by first | (with_reducible assumption) | assumption)
        obtain ⟨go12, co12, eo12, gb12, gl12, cl12, HG12⟩ := Kd.R_form HO_7.out (by omega)
        (first | cases eo12 | (injection eo12 with ea_ en_ ec_; (first | subst ea_ | (injection ea_ with ea_; subst ea_)); subst ec_; clear en_))
        have GB12 := Aside0.mk gb12
        have GG12 := Aside0.mk HG12
        clear gb12 gl12 HG12
        obtain ⟨hx12_0, hf12_0⟩ := Kd.R_celln 0 HO_7.out (x19_1 : Int) p12 q12
        replace p12 := eq_true p12
        replace q12 := eq_true q12
        have HP13 := Kd.R_putg HO_7.out (x19_1 : Int) x19_1
        go_wp2_with (first | ((with_reducible refine gate_store (t := 2) (p := 25) rfl ?_); (try (rw [drewN_self wr]; generalize hq_ : World.drewN wr _ = wr; have n0_ := Aside0.mk (Kd.R_at hq_ HO_7.out); have n1_ := Aside0.mk (below_at hq_ HB.out); clear hq_ HO_7 HB; have HO_7 := n0_; have HB := n1_; clear n0_ n1_; (try (have HP13 := Kd.R_putg HO_7.out (x19_1 : Int) x19_1)))); refine store_event (t := 2) (p := 25) (v := ?vo_w14) (w1 := (wr.setCell ⟨go12, (x19_1 : Int).toNat, none⟩ (.int .i64 x19_1))) ?hg ?ho ?hn ?hr ?_; (case ho => rfl); (case hg => rfl); (case hn => rfl); (case hr => first | (go_simp; done) | (go_simp; rfl)); intro w14 hw; have hg : wr.grownBy w14 (some go12) := (by rw [hw]; exact HP13.2); have hp_ : Kd.R (Kd.int .i64) 2 w14 w.heap.size (fun _ => True) (.slice (some ⟨go12, 0, none⟩) x7_1.length co8) y678 := (by rw [hw, Ny678.out]; exact HP13.1); clear HP13; have n0_ := Aside0.mk (hp_); have n1_ := Aside0.mk ((by rw [hw]; exact below_set (HB.out) GB12.out : Below w.heap.size w w14)); clear HO_7; clear HB; have HO_7 := n0_; have HB := n1_; clear n0_ n1_; clear hg hw hp_))
        repeat (go_quiet (fail); try go_wp2)
        (try simp only [← hl7_1])
        go_roundg k1
        case measure => have := HK1.out; omega
        case rel => exact ⟨(y678), (wrap64 (x19_1 + 1)), (by first | rfl | (simp; done) | (simp [*]; done)), H', ⟨by have := HK1.out; omega⟩, ⟨by (try simp only [hl7_1]); (with_reducible repeat (first | apply Kd.R_alloc | apply Kd.R_drewN | apply Kd.R_drew)); exact HO_7.out⟩, ⟨by repeat (first | (with_reducible first | exact HB.out | apply below_alloc | apply pw_below_drewN | apply below_drew1) | exact HB.out)⟩⟩
       ·rw [if_neg c11] at H
        exact absurd H (by simp)
      ·rw [if_neg c10] at H
       exact absurd H (by simp)
     ·rw [if_neg c9] at H
      have c9b0 : decide (x19_1 < (y675.length : Int)) = false := decide_eq_false c9
      (try (have c9b0_hl7_1a := c9b0; rw [hl7_1] at c9b0_hl7_1a))
      (try (have c9b0_hl7_1a_hl7_2 := c9b0; rw [hl7_1, hl7_2] at c9b0_hl7_1a_hl7_2))
      (try (have c9b0_hl7_1a_hl7_3 := c9b0; rw [hl7_1, hl7_3] at c9b0_hl7_1a_hl7_3))
      (try (have c9b0_hl7_1a_hl7_4 := c9b0; rw [hl7_1, hl7_4] at c9b0_hl7_1a_hl7_4))
      (try (have c9b0_hl7_1b := c9b0; rw [← hl7_1] at c9b0_hl7_1b))
      (try (have c9b0_hl7_1b_hl7_2 := c9b0; rw [← hl7_1, ← hl7_2] at c9b0_hl7_1b_hl7_2))
      (try (have c9b0_hl7_1b_hl7_3 := c9b0; rw [← hl7_1, ← hl7_3] at c9b0_hl7_1b_hl7_3))
      (try (have c9b0_hl7_1b_hl7_4 := c9b0; rw [← hl7_1, ← hl7_4] at c9b0_hl7_1b_hl7_4))
      (try (have c9b0_hl7_2a := c9b0; rw [hl7_2] at c9b0_hl7_2a))
      (try (have c9b0_hl7_2a_hl7_1 := c9b0; rw [hl7_2, hl7_1] at c9b0_hl7_2a_hl7_1))
      (try (have c9b0_hl7_2a_hl7_3 := c9b0; rw [hl7_2, hl7_3] at c9b0_hl7_2a_hl7_3))
      (try (have c9b0_hl7_2a_hl7_4 := c9b0; rw [hl7_2, hl7_4] at c9b0_hl7_2a_hl7_4))
      (try (have c9b0_hl7_2b := c9b0; rw [← hl7_2] at c9b0_hl7_2b))
      (try (have c9b0_hl7_2b_hl7_1 := c9b0; rw [← hl7_2, ← hl7_1] at c9b0_hl7_2b_hl7_1))
      (try (have c9b0_hl7_2b_hl7_3 := c9b0; rw [← hl7_2, ← hl7_3] at c9b0_hl7_2b_hl7_3))
      (try (have c9b0_hl7_2b_hl7_4 := c9b0; rw [← hl7_2, ← hl7_4] at c9b0_hl7_2b_hl7_4))
      (try (have c9b0_hl7_3a := c9b0; rw [hl7_3] at c9b0_hl7_3a))
      (try (have c9b0_hl7_3a_hl7_1 := c9b0; rw [hl7_3, hl7_1] at c9b0_hl7_3a_hl7_1))
      (try (have c9b0_hl7_3a_hl7_2 := c9b0; rw [hl7_3, hl7_2] at c9b0_hl7_3a_hl7_2))
      (try (have c9b0_hl7_3a_hl7_4 := c9b0; rw [hl7_3, hl7_4] at c9b0_hl7_3a_hl7_4))
      (try (have c9b0_hl7_3b := c9b0; rw [← hl7_3] at c9b0_hl7_3b))
      (try (have c9b0_hl7_3b_hl7_1 := c9b0; rw [← hl7_3, ← hl7_1] at c9b0_hl7_3b_hl7_1))
      (try (have c9b0_hl7_3b_hl7_2 := c9b0; rw [← hl7_3, ← hl7_2] at c9b0_hl7_3b_hl7_2))
      (try (have c9b0_hl7_3b_hl7_4 := c9b0; rw [← hl7_3, ← hl7_4] at c9b0_hl7_3b_hl7_4))
      (try (have c9b0_hl7_4a := c9b0; rw [hl7_4] at c9b0_hl7_4a))
      (try (have c9b0_hl7_4a_hl7_1 := c9b0; rw [hl7_4, hl7_1] at c9b0_hl7_4a_hl7_1))
      (try (have c9b0_hl7_4a_hl7_2 := c9b0; rw [hl7_4, hl7_2] at c9b0_hl7_4a_hl7_2))
      (try (have c9b0_hl7_4a_hl7_3 := c9b0; rw [hl7_4, hl7_3] at c9b0_hl7_4a_hl7_3))
      (try (have c9b0_hl7_4b := c9b0; rw [← hl7_4] at c9b0_hl7_4b))
      (try (have c9b0_hl7_4b_hl7_1 := c9b0; rw [← hl7_4, ← hl7_1] at c9b0_hl7_4b_hl7_1))
      (try (have c9b0_hl7_4b_hl7_2 := c9b0; rw [← hl7_4, ← hl7_2] at c9b0_hl7_4b_hl7_2))
      (try (have c9b0_hl7_4b_hl7_3 := c9b0; rw [← hl7_4, ← hl7_3] at c9b0_hl7_4b_hl7_3))
      clear c9
      obtain ⟨y679, hy679⟩ : ∃ y_ : List Int, y_ = (([a1, a2] : List Int)) := ⟨_, rfl⟩
      replace H : (impl_classes.l1 k1 a0 x7_1 y679 (y679.length : Int) 0) = some r := by first | (rw [hy679]; with_reducible exact H) | (have H2_ := (Option.bind_some _ _).symm.trans H; rw [hy679]; with_reducible exact H2_) | (have H2_ := (Option.bind_some _ _).symm.trans H; with_reducible exact H2_) | with_reducible exact H | (rw [hy679]; exact H) | exact H
      have Ny679 := Aside0.mk hy679
      clear hy679
      have H' := Aside0.mk H
      clear H
      go_wp2_with (first | ((with_reducible refine gate_dst (N := 29) rfl ?_); refine Kd.R_lit (Kd.int .i64) _ 2 ?hg (N := 29) ?hd (xs := ([a1, a2] : List Int)) (inner := [.int .i64 a1, .int .i64 a2]) (ok := fun _ => True) (okp := fun _ => True) ?hr ?hp (fun _ hk => hk) trivial (Below.refl _ _) (Nat.le_refl _) (by simp) ?_; (case hd => rfl); (case hg => rfl); (case hr => first | (go_simp; done) | (go_simp; rfl)); (case hp => exact (Reps.one (show Kd.M (Kd.int .i64) _ _ _ a1 [.int .i64 a1] from rfl) (Reps.one (show Kd.M (Kd.int .i64) _ _ _ a2 [.int .i64 a2] from rfl) (Reps.none _ _)))); intro v680 w15 ho16 hb hg_ hnew_; clear hg_ hnew_; (first | rw [← Ny679.out] at ho16 | (simp only [Int.reduceToNat] at ho16; rw [← Ny679.out] at ho16)); have n0_ := Aside0.mk (Kd.R_elder' (by (with_reducible repeat (first | apply Kd.R_alloc | apply Kd.R_drewN | apply Kd.R_drew)); exact HO_7.out) (Kd.R_base ho16) hb); have n1_ := Aside0.mk (Kd.R_lower (Kd.R_new' ho16 (Kd.R_lt (by (with_reducible repeat (first | apply Kd.R_alloc | apply Kd.R_drewN | apply Kd.R_drew)); exact HO_7.out))) (below_size (by repeat (first | (with_reducible first | exact HB.out | apply below_alloc | apply pw_below_drewN | apply below_drew1) | exact HB.out)))); have n2_ := Aside0.mk (below_step (by repeat (first | (with_reducible first | exact HB.out | apply below_alloc | apply pw_below_drewN | apply below_drew1) | exact HB.out)) hb); clear HO_7; clear HB; have HO_7 := n0_; have HO681 := n1_; have HB := n2_; clear n0_ n1_ n2_; clear hb ho16; obtain ⟨Ao17, co17, eo17⟩ := Kd.R_slice HO681.out; subst eo17))
      repeat (go_quiet (fail); try go_wp2)
      go_loopg [31] k1 (fun kq v31 w' => ∃ (x7_2 : List Int) (x31_2 : Int), v31 = .int .i64 x31_2 ∧ Aside0 (impl_classes.l1 kq a0 x7_2 y679 (y679.length : Int) x31_2 = some r) ∧ Aside0 (kq ≤ k1) ∧ Aside0 (Kd.R (Kd.int .i64) 2 w' w.heap.size (fun k_ => some k_ ≠ ((.slice Ao17 y679.length co17) : Value).ownBlock) (.slice Ao8 x7_1.length co8) x7_2) ∧ Aside0 (Kd.R (Kd.int .i64) 2 w' w.heap.size (fun k_ => some k_ ≠ ((.slice Ao8 x7_1.length co8) : Value).ownBlock) (.slice Ao17 y679.length co17) y679) ∧ Aside0 (Below w.heap.size w w'))
      case atStart => exact ⟨(x7_1), (0), (by first | rfl | (simp; done) | (simp [*]; done)), H', ⟨Nat.le_refl _⟩, ⟨by (try simp only [hl7_1]); (with_reducible repeat (first | apply Kd.R_alloc | apply Kd.R_drewN | apply Kd.R_drew)); exact Kd.R_mono HO_7.out (fun _ hk => hk.2)⟩, ⟨by (try simp only [hl7_1]); (with_reducible repeat (first | apply Kd.R_alloc | apply Kd.R_drewN | apply Kd.R_drew)); exact Kd.R_mono HO681.out (fun _ hk => hk.2)⟩, ⟨by repeat (first | (with_reducible first | exact HB.out | apply below_alloc | apply pw_below_drewN | apply below_drew1) | exact HB.out)⟩⟩
      case round =>
       clear H'
       try clear c1
       try clear p1
       try clear q1
       try clear hx1
       try clear p2
       try clear c4
       try clear c4b0
       try clear c4b1
       try clear c5
       try clear c5b0
       try clear c5b1
       try clear p6
       try clear c9
       try clear c9b0
       try clear c10
       try clear c10b0
       try clear c11
       try clear c11b0
       try clear p12
       try clear q12
       try clear hx12
       try clear hf12
       try clear hx12_0
       try clear p12
       try clear p2
       try clear q12
       obtain ⟨x7_2, x31_2, rfl, HA, HK2, HO_7, HO_29, HB⟩ := hrel
       have hl7_2 := (Kd.R_reads' HO_7.out).1
       rw [hl7_2] at HO_7
       (try simp only [hl7_2])
       (try simp only [hl7_2] at HO_29)
       cases gk with
       | zero => exact absurd HA.out (by simp [impl_classes.l1])
       | succ k2 =>
        have H := HA.out
        clear HA
        simp only [impl_classes.l1] at H
        by_cases c18 : x31_2 < (y679.length : Int)
        ·rw [if_pos c18] at H
         have c18b0 : decide (x31_2 < (y679.length : Int)) = true := decide_eq_true c18
         (try (have c18b0_hl7_1a := c18b0; rw [hl7_1] at c18b0_hl7_1a))
         (try (have c18b0_hl7_1a_hl7_2 := c18b0; rw [hl7_1, hl7_2] at c18b0_hl7_1a_hl7_2))
         (try (have c18b0_hl7_1a_hl7_3 := c18b0; rw [hl7_1, hl7_3] at c18b0_hl7_1a_hl7_3))
         (try (have c18b0_hl7_1a_hl7_4 := c18b0; rw [hl7_1, hl7_4] at c18b0_hl7_1a_hl7_4))
         (try (have c18b0_hl7_1b := c18b0; rw [← hl7_1] at c18b0_hl7_1b))
         (try (have c18b0_hl7_1b_hl7_2 := c18b0; rw [← hl7_1, ← hl7_2] at c18b0_hl7_1b_hl7_2))
         (try (have c18b0_hl7_1b_hl7_3 := c18b0; rw [← hl7_1, ← hl7_3] at c18b0_hl7_1b_hl7_3))
         (try (have c18b0_hl7_1b_hl7_4 := c18b0; rw [← hl7_1, ← hl7_4] at c18b0_hl7_1b_hl7_4))
         (try (have c18b0_hl7_2a := c18b0; rw [hl7_2] at c18b0_hl7_2a))
         (try (have c18b0_hl7_2a_hl7_1 := c18b0; rw [hl7_2, hl7_1] at c18b0_hl7_2a_hl7_1))
         (try (have c18b0_hl7_2a_hl7_3 := c18b0; rw [hl7_2, hl7_3] at c18b0_hl7_2a_hl7_3))
         (try (have c18b0_hl7_2a_hl7_4 := c18b0; rw [hl7_2, hl7_4] at c18b0_hl7_2a_hl7_4))
         (try (have c18b0_hl7_2b := c18b0; rw [← hl7_2] at c18b0_hl7_2b))
         (try (have c18b0_hl7_2b_hl7_1 := c18b0; rw [← hl7_2, ← hl7_1] at c18b0_hl7_2b_hl7_1))
         (try (have c18b0_hl7_2b_hl7_3 := c18b0; rw [← hl7_2, ← hl7_3] at c18b0_hl7_2b_hl7_3))
         (try (have c18b0_hl7_2b_hl7_4 := c18b0; rw [← hl7_2, ← hl7_4] at c18b0_hl7_2b_hl7_4))
         (try (have c18b0_hl7_3a := c18b0; rw [hl7_3] at c18b0_hl7_3a))
         (try (have c18b0_hl7_3a_hl7_1 := c18b0; rw [hl7_3, hl7_1] at c18b0_hl7_3a_hl7_1))
         (try (have c18b0_hl7_3a_hl7_2 := c18b0; rw [hl7_3, hl7_2] at c18b0_hl7_3a_hl7_2))
         (try (have c18b0_hl7_3a_hl7_4 := c18b0; rw [hl7_3, hl7_4] at c18b0_hl7_3a_hl7_4))
         (try (have c18b0_hl7_3b := c18b0; rw [← hl7_3] at c18b0_hl7_3b))
         (try (have c18b0_hl7_3b_hl7_1 := c18b0; rw [← hl7_3, ← hl7_1] at c18b0_hl7_3b_hl7_1))
         (try (have c18b0_hl7_3b_hl7_2 := c18b0; rw [← hl7_3, ← hl7_2] at c18b0_hl7_3b_hl7_2))
         (try (have c18b0_hl7_3b_hl7_4 := c18b0; rw [← hl7_3, ← hl7_4] at c18b0_hl7_3b_hl7_4))
         (try (have c18b0_hl7_4a := c18b0; rw [hl7_4] at c18b0_hl7_4a))
         (try (have c18b0_hl7_4a_hl7_1 := c18b0; rw [hl7_4, hl7_1] at c18b0_hl7_4a_hl7_1))
         (try (have c18b0_hl7_4a_hl7_2 := c18b0; rw [hl7_4, hl7_2] at c18b0_hl7_4a_hl7_2))
         (try (have c18b0_hl7_4a_hl7_3 := c18b0; rw [hl7_4, hl7_3] at c18b0_hl7_4a_hl7_3))
         (try (have c18b0_hl7_4b := c18b0; rw [← hl7_4] at c18b0_hl7_4b))
         (try (have c18b0_hl7_4b_hl7_1 := c18b0; rw [← hl7_4, ← hl7_1] at c18b0_hl7_4b_hl7_1))
         (try (have c18b0_hl7_4b_hl7_2 := c18b0; rw [← hl7_4, ← hl7_2] at c18b0_hl7_4b_hl7_2))
         (try (have c18b0_hl7_4b_hl7_3 := c18b0; rw [← hl7_4, ← hl7_3] at c18b0_hl7_4b_hl7_3))
         clear c18
         by_cases c19 : 0 ≤ x31_2
         ·rw [if_pos c19] at H
          have c19b0 : decide (0 ≤ x31_2) = true := decide_eq_true c19
          clear c19
          by_cases c20 : x31_2 < (y679.length : Int)
          ·rw [if_pos c20] at H
           have c20b0 : decide (x31_2 < (y679.length : Int)) = true := decide_eq_true c20
           (try (have c20b0_hl7_1a := c20b0; rw [hl7_1] at c20b0_hl7_1a))
           (try (have c20b0_hl7_1a_hl7_2 := c20b0; rw [hl7_1, hl7_2] at c20b0_hl7_1a_hl7_2))
           (try (have c20b0_hl7_1a_hl7_3 := c20b0; rw [hl7_1, hl7_3] at c20b0_hl7_1a_hl7_3))
           (try (have c20b0_hl7_1a_hl7_4 := c20b0; rw [hl7_1, hl7_4] at c20b0_hl7_1a_hl7_4))
           (try (have c20b0_hl7_1b := c20b0; rw [← hl7_1] at c20b0_hl7_1b))
           (try (have c20b0_hl7_1b_hl7_2 := c20b0; rw [← hl7_1, ← hl7_2] at c20b0_hl7_1b_hl7_2))
           (try (have c20b0_hl7_1b_hl7_3 := c20b0; rw [← hl7_1, ← hl7_3] at c20b0_hl7_1b_hl7_3))
           (try (have c20b0_hl7_1b_hl7_4 := c20b0; rw [← hl7_1, ← hl7_4] at c20b0_hl7_1b_hl7_4))
           (try (have c20b0_hl7_2a := c20b0; rw [hl7_2] at c20b0_hl7_2a))
           (try (have c20b0_hl7_2a_hl7_1 := c20b0; rw [hl7_2, hl7_1] at c20b0_hl7_2a_hl7_1))
           (try (have c20b0_hl7_2a_hl7_3 := c20b0; rw [hl7_2, hl7_3] at c20b0_hl7_2a_hl7_3))
           (try (have c20b0_hl7_2a_hl7_4 := c20b0; rw [hl7_2, hl7_4] at c20b0_hl7_2a_hl7_4))
           (try (have c20b0_hl7_2b := c20b0; rw [← hl7_2] at c20b0_hl7_2b))
           (try (have c20b0_hl7_2b_hl7_1 := c20b0; rw [← hl7_2, ← hl7_1] at c20b0_hl7_2b_hl7_1))
           (try (have c20b0_hl7_2b_hl7_3 := c20b0; rw [← hl7_2, ← hl7_3] at c20b0_hl7_2b_hl7_3))
           (try (have c20b0_hl7_2b_hl7_4 := c20b0; rw [← hl7_2, ← hl7_4] at c20b0_hl7_2b_hl7_4))
           (try (have c20b0_hl7_3a := c20b0; rw [hl7_3] at c20b0_hl7_3a))
           (try (have c20b0_hl7_3a_hl7_1 := c20b0; rw [hl7_3, hl7_1] at c20b0_hl7_3a_hl7_1))
           (try (have c20b0_hl7_3a_hl7_2 := c20b0; rw [hl7_3, hl7_2] at c20b0_hl7_3a_hl7_2))
           (try (have c20b0_hl7_3a_hl7_4 := c20b0; rw [hl7_3, hl7_4] at c20b0_hl7_3a_hl7_4))
           (try (have c20b0_hl7_3b := c20b0; rw [← hl7_3] at c20b0_hl7_3b))
           (try (have c20b0_hl7_3b_hl7_1 := c20b0; rw [← hl7_3, ← hl7_1] at c20b0_hl7_3b_hl7_1))
           (try (have c20b0_hl7_3b_hl7_2 := c20b0; rw [← hl7_3, ← hl7_2] at c20b0_hl7_3b_hl7_2))
           (try (have c20b0_hl7_3b_hl7_4 := c20b0; rw [← hl7_3, ← hl7_4] at c20b0_hl7_3b_hl7_4))
           (try (have c20b0_hl7_4a := c20b0; rw [hl7_4] at c20b0_hl7_4a))
           (try (have c20b0_hl7_4a_hl7_1 := c20b0; rw [hl7_4, hl7_1] at c20b0_hl7_4a_hl7_1))
           (try (have c20b0_hl7_4a_hl7_2 := c20b0; rw [hl7_4, hl7_2] at c20b0_hl7_4a_hl7_2))
           (try (have c20b0_hl7_4a_hl7_3 := c20b0; rw [hl7_4, hl7_3] at c20b0_hl7_4a_hl7_3))
           (try (have c20b0_hl7_4b := c20b0; rw [← hl7_4] at c20b0_hl7_4b))
           (try (have c20b0_hl7_4b_hl7_1 := c20b0; rw [← hl7_4, ← hl7_1] at c20b0_hl7_4b_hl7_1))
           (try (have c20b0_hl7_4b_hl7_2 := c20b0; rw [← hl7_4, ← hl7_2] at c20b0_hl7_4b_hl7_2))
           (try (have c20b0_hl7_4b_hl7_3 := c20b0; rw [← hl7_4, ← hl7_3] at c20b0_hl7_4b_hl7_3))
           clear c20
           have H' := Aside0.mk H
           clear H
           have p682 : 0 ≤ (x31_2 : Int) := of_decide_eq_true (by first | (with_reducible assumption) | assumption)
           have q682 : x31_2 < (y679.length : Int) := of_decide_eq_true (by first | (with_reducible assumption) | assumption)
           obtain ⟨ad682, e682, hx682_0⟩ := Kd.at_int (Kd.R_reads' HO_29.out).2.2 x31_2 p682 q682
           cases e682
           replace p682 := eq_true p682
           replace q682 := eq_true q682
           go_wp2
           repeat (go_quiet (fail); try go_wp2)
           go_loopg [11] k2 (fun kq v11 w' => ∃ (x7_3 : List Int) (x11_3 : Int), v11 = .int .i64 x11_3 ∧ Aside0 (impl_classes.l2 kq a0 x7_3 (rd y679 x31_2) x11_3 y679 (y679.length : Int) x31_2 = some r) ∧ Aside0 (kq ≤ k2) ∧ Aside0 (Kd.R (Kd.int .i64) 2 w' w.heap.size (fun k_ => some k_ ≠ ((.slice (some ad682) y679.length co17) : Value).ownBlock) (.slice Ao8 x7_2.length co8) x7_3) ∧ Aside0 (Kd.R (Kd.int .i64) 2 w' w.heap.size (fun k_ => some k_ ≠ ((.slice Ao8 x7_2.length co8) : Value).ownBlock) (.slice (some ad682) y679.length co17) y679) ∧ Aside0 (Below w.heap.size w w'))
           case atStart => exact ⟨(x7_2), (rd y679 x31_2), (by first | rfl | (simp; done) | (simp [*]; done)), H', ⟨Nat.le_refl _⟩, ⟨by (try simp only [hl7_1]); (try simp only [hl7_2]); (with_reducible repeat (first | apply Kd.R_alloc | apply Kd.R_drewN | apply Kd.R_drew)); exact HO_7.out⟩, ⟨by (try simp only [hl7_1]); (try simp only [hl7_2]); (with_reducible repeat (first | apply Kd.R_alloc | apply Kd.R_drewN | apply Kd.R_drew)); exact HO_29.out⟩, ⟨by repeat (first | (with_reducible first | exact HB.out | apply below_alloc | apply pw_below_drewN | apply below_drew1) | exact HB.out)⟩⟩
           case round =>
            clear H'
            try clear c1
            try clear p1
            try clear q1
            try clear hx1
            try clear c2
            try clear p2
            try clear c4
            try clear c4b0
            try clear c4b1
            try clear c5
            try clear c5b0
            try clear c5b1
            try clear p6
            try clear q6
            try clear hx6
            try clear c9
            try clear c9b0
            try clear c10
            try clear c10b0
            try clear c11
            try clear c11b0
            try clear p12
            try clear q12
            try clear hx12
            try clear hf12
            try clear c18
            try clear c18b0
            try clear c19
            try clear c19b0
            try clear c20
            try clear c20b0
            try clear hx12_0
            try clear hx682_0
            try clear p1
            try clear p12
            try clear p2
            try clear p6
            try clear p682
            try clear q1
            try clear q12
            try clear q682
            obtain ⟨x7_3, x11_3, rfl, HA, HK3, HO_7, HO_29, HB⟩ := hrel
            have hl7_3 := (Kd.R_reads' HO_7.out).1
            rw [hl7_3] at HO_7
            (try simp only [hl7_3])
            (try simp only [hl7_3] at HO_29)
            cases gk with
            | zero => exact absurd HA.out (by simp [impl_classes.l2])
            | succ k3 =>
             have H := HA.out
             clear HA
             simp only [impl_classes.l2] at H
             by_cases c21 : x11_3 < a0
             ·rw [if_pos c21] at H
              have c21b0 : decide (x11_3 < a0) = true := decide_eq_true c21
              clear c21
              by_cases c22 : 0 ≤ x11_3
              ·rw [if_pos c22] at H
               have c22b0 : decide (0 ≤ x11_3) = true := decide_eq_true c22
               clear c22
               by_cases c23 : x11_3 < (x7_3.length : Int)
               ·rw [if_pos c23] at H
                have c23b0 : decide (x11_3 < (x7_3.length : Int)) = true := decide_eq_true c23
                (try (have c23b0_hl7_1a := c23b0; rw [hl7_1] at c23b0_hl7_1a))
                (try (have c23b0_hl7_1a_hl7_2 := c23b0; rw [hl7_1, hl7_2] at c23b0_hl7_1a_hl7_2))
                (try (have c23b0_hl7_1a_hl7_3 := c23b0; rw [hl7_1, hl7_3] at c23b0_hl7_1a_hl7_3))
                (try (have c23b0_hl7_1a_hl7_4 := c23b0; rw [hl7_1, hl7_4] at c23b0_hl7_1a_hl7_4))
                (try (have c23b0_hl7_1b := c23b0; rw [← hl7_1] at c23b0_hl7_1b))
                (try (have c23b0_hl7_1b_hl7_2 := c23b0; rw [← hl7_1, ← hl7_2] at c23b0_hl7_1b_hl7_2))
                (try (have c23b0_hl7_1b_hl7_3 := c23b0; rw [← hl7_1, ← hl7_3] at c23b0_hl7_1b_hl7_3))
                (try (have c23b0_hl7_1b_hl7_4 := c23b0; rw [← hl7_1, ← hl7_4] at c23b0_hl7_1b_hl7_4))
                (try (have c23b0_hl7_2a := c23b0; rw [hl7_2] at c23b0_hl7_2a))
                (try (have c23b0_hl7_2a_hl7_1 := c23b0; rw [hl7_2, hl7_1] at c23b0_hl7_2a_hl7_1))
                (try (have c23b0_hl7_2a_hl7_3 := c23b0; rw [hl7_2, hl7_3] at c23b0_hl7_2a_hl7_3))
                (try (have c23b0_hl7_2a_hl7_4 := c23b0; rw [hl7_2, hl7_4] at c23b0_hl7_2a_hl7_4))
                (try (have c23b0_hl7_2b := c23b0; rw [← hl7_2] at c23b0_hl7_2b))
                (try (have c23b0_hl7_2b_hl7_1 := c23b0; rw [← hl7_2, ← hl7_1] at c23b0_hl7_2b_hl7_1))
                (try (have c23b0_hl7_2b_hl7_3 := c23b0; rw [← hl7_2, ← hl7_3] at c23b0_hl7_2b_hl7_3))
                (try (have c23b0_hl7_2b_hl7_4 := c23b0; rw [← hl7_2, ← hl7_4] at c23b0_hl7_2b_hl7_4))
                (try (have c23b0_hl7_3a := c23b0; rw [hl7_3] at c23b0_hl7_3a))
                (try (have c23b0_hl7_3a_hl7_1 := c23b0; rw [hl7_3, hl7_1] at c23b0_hl7_3a_hl7_1))
                (try (have c23b0_hl7_3a_hl7_2 := c23b0; rw [hl7_3, hl7_2] at c23b0_hl7_3a_hl7_2))
                (try (have c23b0_hl7_3a_hl7_4 := c23b0; rw [hl7_3, hl7_4] at c23b0_hl7_3a_hl7_4))
                (try (have c23b0_hl7_3b := c23b0; rw [← hl7_3] at c23b0_hl7_3b))
                (try (have c23b0_hl7_3b_hl7_1 := c23b0; rw [← hl7_3, ← hl7_1] at c23b0_hl7_3b_hl7_1))
                (try (have c23b0_hl7_3b_hl7_2 := c23b0; rw [← hl7_3, ← hl7_2] at c23b0_hl7_3b_hl7_2))
                (try (have c23b0_hl7_3b_hl7_4 := c23b0; rw [← hl7_3, ← hl7_4] at c23b0_hl7_3b_hl7_4))
                (try (have c23b0_hl7_4a := c23b0; rw [hl7_4] at c23b0_hl7_4a))
                (try (have c23b0_hl7_4a_hl7_1 := c23b0; rw [hl7_4, hl7_1] at c23b0_hl7_4a_hl7_1))
                (try (have c23b0_hl7_4a_hl7_2 := c23b0; rw [hl7_4, hl7_2] at c23b0_hl7_4a_hl7_2))
                (try (have c23b0_hl7_4a_hl7_3 := c23b0; rw [hl7_4, hl7_3] at c23b0_hl7_4a_hl7_3))
                (try (have c23b0_hl7_4b := c23b0; rw [← hl7_4] at c23b0_hl7_4b))
                (try (have c23b0_hl7_4b_hl7_1 := c23b0; rw [← hl7_4, ← hl7_1] at c23b0_hl7_4b_hl7_1))
                (try (have c23b0_hl7_4b_hl7_2 := c23b0; rw [← hl7_4, ← hl7_2] at c23b0_hl7_4b_hl7_2))
                (try (have c23b0_hl7_4b_hl7_3 := c23b0; rw [← hl7_4, ← hl7_3] at c23b0_hl7_4b_hl7_3))
                clear c23
                obtain ⟨ji24, hji24⟩ : ∃ j_ : Int, (wrap64 (x11_3 - (rd y679 x31_2))) = j_ := ⟨_, rfl⟩
                replace H : (if 0 ≤ (ji24) then (if (ji24) < (x7_3.length : Int) then (impl_classes.l3 k3 a0 x7_3 (rd y679 x31_2) x11_3 (mn (rd x7_3 x11_3) (rd x7_3 (ji24))) (mx (rd x7_3 x11_3) (rd x7_3 (ji24))) y679 (y679.length : Int) x31_2 (x7_3.length : Int) 0) else (none)) else (none)) = some r := by first | (rw [hji24] at H; exact H) | (simp only [hji24] at H ⊢; exact H)
                have hji24w : (IntKind.i64.wrap (x11_3 - (rd y679 x31_2))) = ji24 := (i64_w _).trans hji24
                by_cases c25 : 0 ≤ (ji24)
                ·rw [if_pos c25] at H
                 have c25b0 : decide (0 ≤ (ji24)) = true := decide_eq_true c25
                 clear c25
                 by_cases c26 : (ji24) < (x7_3.length : Int)
                 ·rw [if_pos c26] at H
                  have c26b0 : decide ((ji24) < (x7_3.length : Int)) = true := decide_eq_true c26
                  (try (have c26b0_hl7_1a := c26b0; rw [hl7_1] at c26b0_hl7_1a))
                  (try (have c26b0_hl7_1a_hl7_2 := c26b0; rw [hl7_1, hl7_2] at c26b0_hl7_1a_hl7_2))
                  (try (have c26b0_hl7_1a_hl7_3 := c26b0; rw [hl7_1, hl7_3] at c26b0_hl7_1a_hl7_3))
                  (try (have c26b0_hl7_1a_hl7_4 := c26b0; rw [hl7_1, hl7_4] at c26b0_hl7_1a_hl7_4))
                  (try (have c26b0_hl7_1b := c26b0; rw [← hl7_1] at c26b0_hl7_1b))
                  (try (have c26b0_hl7_1b_hl7_2 := c26b0; rw [← hl7_1, ← hl7_2] at c26b0_hl7_1b_hl7_2))
                  (try (have c26b0_hl7_1b_hl7_3 := c26b0; rw [← hl7_1, ← hl7_3] at c26b0_hl7_1b_hl7_3))
                  (try (have c26b0_hl7_1b_hl7_4 := c26b0; rw [← hl7_1, ← hl7_4] at c26b0_hl7_1b_hl7_4))
                  (try (have c26b0_hl7_2a := c26b0; rw [hl7_2] at c26b0_hl7_2a))
                  (try (have c26b0_hl7_2a_hl7_1 := c26b0; rw [hl7_2, hl7_1] at c26b0_hl7_2a_hl7_1))
                  (try (have c26b0_hl7_2a_hl7_3 := c26b0; rw [hl7_2, hl7_3] at c26b0_hl7_2a_hl7_3))
                  (try (have c26b0_hl7_2a_hl7_4 := c26b0; rw [hl7_2, hl7_4] at c26b0_hl7_2a_hl7_4))
                  (try (have c26b0_hl7_2b := c26b0; rw [← hl7_2] at c26b0_hl7_2b))
                  (try (have c26b0_hl7_2b_hl7_1 := c26b0; rw [← hl7_2, ← hl7_1] at c26b0_hl7_2b_hl7_1))
                  (try (have c26b0_hl7_2b_hl7_3 := c26b0; rw [← hl7_2, ← hl7_3] at c26b0_hl7_2b_hl7_3))
                  (try (have c26b0_hl7_2b_hl7_4 := c26b0; rw [← hl7_2, ← hl7_4] at c26b0_hl7_2b_hl7_4))
                  (try (have c26b0_hl7_3a := c26b0; rw [hl7_3] at c26b0_hl7_3a))
                  (try (have c26b0_hl7_3a_hl7_1 := c26b0; rw [hl7_3, hl7_1] at c26b0_hl7_3a_hl7_1))
                  (try (have c26b0_hl7_3a_hl7_2 := c26b0; rw [hl7_3, hl7_2] at c26b0_hl7_3a_hl7_2))
                  (try (have c26b0_hl7_3a_hl7_4 := c26b0; rw [hl7_3, hl7_4] at c26b0_hl7_3a_hl7_4))
                  (try (have c26b0_hl7_3b := c26b0; rw [← hl7_3] at c26b0_hl7_3b))
                  (try (have c26b0_hl7_3b_hl7_1 := c26b0; rw [← hl7_3, ← hl7_1] at c26b0_hl7_3b_hl7_1))
                  (try (have c26b0_hl7_3b_hl7_2 := c26b0; rw [← hl7_3, ← hl7_2] at c26b0_hl7_3b_hl7_2))
                  (try (have c26b0_hl7_3b_hl7_4 := c26b0; rw [← hl7_3, ← hl7_4] at c26b0_hl7_3b_hl7_4))
                  (try (have c26b0_hl7_4a := c26b0; rw [hl7_4] at c26b0_hl7_4a))
                  (try (have c26b0_hl7_4a_hl7_1 := c26b0; rw [hl7_4, hl7_1] at c26b0_hl7_4a_hl7_1))
                  (try (have c26b0_hl7_4a_hl7_2 := c26b0; rw [hl7_4, hl7_2] at c26b0_hl7_4a_hl7_2))
                  (try (have c26b0_hl7_4a_hl7_3 := c26b0; rw [hl7_4, hl7_3] at c26b0_hl7_4a_hl7_3))
                  (try (have c26b0_hl7_4b := c26b0; rw [← hl7_4] at c26b0_hl7_4b))
                  (try (have c26b0_hl7_4b_hl7_1 := c26b0; rw [← hl7_4, ← hl7_1] at c26b0_hl7_4b_hl7_1))
                  (try (have c26b0_hl7_4b_hl7_2 := c26b0; rw [← hl7_4, ← hl7_2] at c26b0_hl7_4b_hl7_2))
                  (try (have c26b0_hl7_4b_hl7_3 := c26b0; rw [← hl7_4, ← hl7_3] at c26b0_hl7_4b_hl7_3))
                  clear c26
                  obtain ⟨ji27, hji27⟩ : ∃ j_ : Int, (mn (rd x7_3 x11_3) (rd x7_3 (ji24))) = j_ := ⟨_, rfl⟩
                  replace H : (impl_classes.l3 k3 a0 x7_3 (rd y679 x31_2) x11_3 ji27 (mx (rd x7_3 x11_3) (rd x7_3 (ji24))) y679 (y679.length : Int) x31_2 (x7_3.length : Int) 0) = some r := by first | (rw [hji27] at H; exact H) | (simp only [hji27] at H ⊢; exact H)
                  have hji27_ : (if (rd x7_3 (ji24)) < (rd x7_3 x11_3) then (rd x7_3 (ji24)) else (rd x7_3 x11_3)) = ji27 := hji27
                  obtain ⟨ji28, hji28⟩ : ∃ j_ : Int, (mx (rd x7_3 x11_3) (rd x7_3 (ji24))) = j_ := ⟨_, rfl⟩
                  replace H : (impl_classes.l3 k3 a0 x7_3 (rd y679 x31_2) x11_3 ji27 ji28 y679 (y679.length : Int) x31_2 (x7_3.length : Int) 0) = some r := by first | (rw [hji28] at H; exact H) | (simp only [hji28] at H ⊢; exact H)
                  have hji28_ : (if (rd x7_3 x11_3) < (rd x7_3 (ji24)) then (rd x7_3 (ji24)) else (rd x7_3 x11_3)) = ji28 := hji28
                  have H' := Aside0.mk H
                  clear H
                  have p683 : 0 ≤ (x11_3 : Int) := of_decide_eq_true (by first | (with_reducible assumption) | assumption)
                  have q683 : x11_3 < (x7_3.length : Int) := of_decide_eq_true (by first | (with_reducible assumption) | assumption)
                  obtain ⟨ad683, e683, hx683_0⟩ := Kd.at_int (Kd.R_reads' HO_7.out).2.2 x11_3 p683 q683
                  cases e683
                  replace p683 := eq_true p683
                  replace q683 := eq_true q683
                  have p684 : 0 ≤ ((ji24) : Int) := of_decide_eq_true (by first | (with_reducible assumption) | assumption)
                  have q684 : (ji24) < (x7_3.length : Int) := of_decide_eq_true (by first | (with_reducible assumption) | assumption)
                  obtain ⟨ad684, e684, hx684_0⟩ := Kd.at_int (Kd.R_reads' HO_7.out).2.2 (ji24) p684 q684
                  obtain rfl : ad683 = ad684 := (by injection e684)
                  replace p684 := eq_true p684
                  replace q684 := eq_true q684
                  have p685 : 0 ≤ (x11_3 : Int) := of_decide_eq_true (by first | (with_reducible assumption) | assumption)
                  have q685 : x11_3 < (x7_3.length : Int) := of_decide_eq_true (by first | (with_reducible assumption) | assumption)
                  obtain ⟨ad685, e685, hx685_0⟩ := Kd.at_int (Kd.R_reads' HO_7.out).2.2 x11_3 p685 q685
                  obtain rfl : ad683 = ad685 := (by injection e685)
                  replace p685 := eq_true p685
                  replace q685 := eq_true q685
                  have p686 : 0 ≤ ((ji24) : Int) := of_decide_eq_true (by first | (with_reducible assumption) | assumption)
                  have q686 : (ji24) < (x7_3.length : Int) := of_decide_eq_true (by first | (with_reducible assumption) | assumption)
                  obtain ⟨ad686, e686, hx686_0⟩ := Kd.at_int (Kd.R_reads' HO_7.out).2.2 (ji24) p686 q686
                  obtain rfl : ad683 = ad686 := (by injection e686)
                  replace p686 := eq_true p686
                  replace q686 := eq_true q686
                  go_wp2
                  repeat (go_quiet (fail); try go_wp2)
                  go_loopg [65] k3 (fun kq v65 w' => ∃ (x7_4 : List Int) (x65_4 : Int), v65 = .int .i64 x65_4 ∧ Aside0 (impl_classes.l3 kq a0 x7_4 (rd y679 x31_2) x11_3 ji27 ji28 y679 (y679.length : Int) x31_2 (x7_3.length : Int) x65_4 = some r) ∧ Aside0 (kq ≤ k3) ∧ Aside0 (Kd.R (Kd.int .i64) 2 w' w.heap.size (fun k_ => some k_ ≠ ((.slice (some ad682) y679.length co17) : Value).ownBlock) (.slice (some ad683) x7_3.length co8) x7_4) ∧ Aside0 (Kd.R (Kd.int .i64) 2 w' w.heap.size (fun k_ => some k_ ≠ ((.slice (some ad683) x7_3.length co8) : Value).ownBlock) (.slice (some ad682) y679.length co17) y679) ∧ Aside0 (Below w.heap.size w w'))
                  case atStart => exact ⟨(x7_3), (0), (by first | rfl | (simp; done) | (simp [*]; done)), H', ⟨Nat.le_refl _⟩, ⟨by (try simp only [hl7_1]); (try simp only [hl7_2]); (try simp only [hl7_3]); (with_reducible repeat (first | apply Kd.R_alloc | apply Kd.R_drewN | apply Kd.R_drew)); exact HO_7.out⟩, ⟨by (try simp only [hl7_1]); (try simp only [hl7_2]); (try simp only [hl7_3]); (with_reducible repeat (first | apply Kd.R_alloc | apply Kd.R_drewN | apply Kd.R_drew)); exact HO_29.out⟩, ⟨by repeat (first | (with_reducible first | exact HB.out | apply below_alloc | apply pw_below_drewN | apply below_drew1) | exact HB.out)⟩⟩
                  case round =>
                   clear H'
                   try clear c1
                   try clear p1
                   try clear q1
                   try clear hx1
                   try clear c2
                   try clear p2
                   try clear c4
                   try clear c4b0
                   try clear c4b1
                   try clear c5
                   try clear c5b0
                   try clear c5b1
                   try clear p6
                   try clear q6
                   try clear hx6
                   try clear c9
                   try clear c9b0
                   try clear c10
                   try clear c10b0
                   try clear c11
                   try clear c11b0
                   try clear p12
                   try clear q12
                   try clear hx12
                   try clear hf12
                   try clear c18
                   try clear c18b0
                   try clear c19
                   try clear c19b0
                   try clear c20
                   try clear c20b0
                   try clear c21
                   try clear c21b0
                   try clear c22
                   try clear c22b0
                   try clear c23
                   try clear c23b0
                   try clear c25
                   try clear c25b0
                   try clear c26
                   try clear c26b0
                   try clear hx12_0
                   try clear hx682_0
                   try clear hx683_0
                   try clear hx684_0
                   try clear hx685_0
                   try clear hx686_0
                   try clear p1
                   try clear p12
                   try clear p2
                   try clear p6
                   try clear p682
                   try clear p683
                   try clear p684
                   try clear p685
                   try clear p686
                   try clear q1
                   try clear q12
                   try clear q6
                   try clear q682
                   try clear q683
                   try clear q684
                   try clear q685
                   try clear q686
                   obtain ⟨x7_4, x65_4, rfl, HA, HK4, HO_7, HO_29, HB⟩ := hrel
                   have hl7_4 := (Kd.R_reads' HO_7.out).1
                   rw [hl7_4] at HO_7
                   (try simp only [hl7_4])
                   (try simp only [hl7_4] at HO_29)
                   cases gk with
                   | zero => exact absurd HA.out (by simp [impl_classes.l3])
                   | succ k4 =>
                    have H := HA.out
                    clear HA
                    simp only [impl_classes.l3] at H
                    by_cases c29 : x65_4 < (x7_3.length : Int)
                    ·rw [if_pos c29] at H
                     have c29b0 : decide (x65_4 < (x7_3.length : Int)) = true := decide_eq_true c29
                     (try (have c29b0_hl7_1a := c29b0; rw [hl7_1] at c29b0_hl7_1a))
                     (try (have c29b0_hl7_1a_hl7_2 := c29b0; rw [hl7_1, hl7_2] at c29b0_hl7_1a_hl7_2))
                     (try (have c29b0_hl7_1a_hl7_3 := c29b0; rw [hl7_1, hl7_3] at c29b0_hl7_1a_hl7_3))
                     (try (have c29b0_hl7_1a_hl7_4 := c29b0; rw [hl7_1, hl7_4] at c29b0_hl7_1a_hl7_4))
                     (try (have c29b0_hl7_1b := c29b0; rw [← hl7_1] at c29b0_hl7_1b))
                     (try (have c29b0_hl7_1b_hl7_2 := c29b0; rw [← hl7_1, ← hl7_2] at c29b0_hl7_1b_hl7_2))
                     (try (have c29b0_hl7_1b_hl7_3 := c29b0; rw [← hl7_1, ← hl7_3] at c29b0_hl7_1b_hl7_3))
                     (try (have c29b0_hl7_1b_hl7_4 := c29b0; rw [← hl7_1, ← hl7_4] at c29b0_hl7_1b_hl7_4))
                     (try (have c29b0_hl7_2a := c29b0; rw [hl7_2] at c29b0_hl7_2a))
                     (try (have c29b0_hl7_2a_hl7_1 := c29b0; rw [hl7_2, hl7_1] at c29b0_hl7_2a_hl7_1))
                     (try (have c29b0_hl7_2a_hl7_3 := c29b0; rw [hl7_2, hl7_3] at c29b0_hl7_2a_hl7_3))
                     (try (have c29b0_hl7_2a_hl7_4 := c29b0; rw [hl7_2, hl7_4] at c29b0_hl7_2a_hl7_4))
                     (try (have c29b0_hl7_2b := c29b0; rw [← hl7_2] at c29b0_hl7_2b))
                     (try (have c29b0_hl7_2b_hl7_1 := c29b0; rw [← hl7_2, ← hl7_1] at c29b0_hl7_2b_hl7_1))
                     (try (have c29b0_hl7_2b_hl7_3 := c29b0; rw [← hl7_2, ← hl7_3] at c29b0_hl7_2b_hl7_3))
                     (try (have c29b0_hl7_2b_hl7_4 := c29b0; rw [← hl7_2, ← hl7_4] at c29b0_hl7_2b_hl7_4))
                     (try (have c29b0_hl7_3a := c29b0; rw [hl7_3] at c29b0_hl7_3a))
                     (try (have c29b0_hl7_3a_hl7_1 := c29b0; rw [hl7_3, hl7_1] at c29b0_hl7_3a_hl7_1))
                     (try (have c29b0_hl7_3a_hl7_2 := c29b0; rw [hl7_3, hl7_2] at c29b0_hl7_3a_hl7_2))
                     (try (have c29b0_hl7_3a_hl7_4 := c29b0; rw [hl7_3, hl7_4] at c29b0_hl7_3a_hl7_4))
                     (try (have c29b0_hl7_3b := c29b0; rw [← hl7_3] at c29b0_hl7_3b))
                     (try (have c29b0_hl7_3b_hl7_1 := c29b0; rw [← hl7_3, ← hl7_1] at c29b0_hl7_3b_hl7_1))
                     (try (have c29b0_hl7_3b_hl7_2 := c29b0; rw [← hl7_3, ← hl7_2] at c29b0_hl7_3b_hl7_2))
                     (try (have c29b0_hl7_3b_hl7_4 := c29b0; rw [← hl7_3, ← hl7_4] at c29b0_hl7_3b_hl7_4))
                     (try (have c29b0_hl7_4a := c29b0; rw [hl7_4] at c29b0_hl7_4a))
                     (try (have c29b0_hl7_4a_hl7_1 := c29b0; rw [hl7_4, hl7_1] at c29b0_hl7_4a_hl7_1))
                     (try (have c29b0_hl7_4a_hl7_2 := c29b0; rw [hl7_4, hl7_2] at c29b0_hl7_4a_hl7_2))
                     (try (have c29b0_hl7_4a_hl7_3 := c29b0; rw [hl7_4, hl7_3] at c29b0_hl7_4a_hl7_3))
                     (try (have c29b0_hl7_4b := c29b0; rw [← hl7_4] at c29b0_hl7_4b))
                     (try (have c29b0_hl7_4b_hl7_1 := c29b0; rw [← hl7_4, ← hl7_1] at c29b0_hl7_4b_hl7_1))
                     (try (have c29b0_hl7_4b_hl7_2 := c29b0; rw [← hl7_4, ← hl7_2] at c29b0_hl7_4b_hl7_2))
                     (try (have c29b0_hl7_4b_hl7_3 := c29b0; rw [← hl7_4, ← hl7_3] at c29b0_hl7_4b_hl7_3))
                     clear c29
                     by_cases c30 : 0 ≤ x65_4
                     ·rw [if_pos c30] at H
                      have c30b0 : decide (0 ≤ x65_4) = true := decide_eq_true c30
                      clear c30
                      by_cases c31 : x65_4 < (x7_4.length : Int)
                      ·rw [if_pos c31] at H
                       have c31b0 : decide (x65_4 < (x7_4.length : Int)) = true := decide_eq_true c31
                       (try (have c31b0_hl7_1a := c31b0; rw [hl7_1] at c31b0_hl7_1a))
                       (try (have c31b0_hl7_1a_hl7_2 := c31b0; rw [hl7_1, hl7_2] at c31b0_hl7_1a_hl7_2))
                       (try (have c31b0_hl7_1a_hl7_3 := c31b0; rw [hl7_1, hl7_3] at c31b0_hl7_1a_hl7_3))
                       (try (have c31b0_hl7_1a_hl7_4 := c31b0; rw [hl7_1, hl7_4] at c31b0_hl7_1a_hl7_4))
                       (try (have c31b0_hl7_1b := c31b0; rw [← hl7_1] at c31b0_hl7_1b))
                       (try (have c31b0_hl7_1b_hl7_2 := c31b0; rw [← hl7_1, ← hl7_2] at c31b0_hl7_1b_hl7_2))
                       (try (have c31b0_hl7_1b_hl7_3 := c31b0; rw [← hl7_1, ← hl7_3] at c31b0_hl7_1b_hl7_3))
                       (try (have c31b0_hl7_1b_hl7_4 := c31b0; rw [← hl7_1, ← hl7_4] at c31b0_hl7_1b_hl7_4))
                       (try (have c31b0_hl7_2a := c31b0; rw [hl7_2] at c31b0_hl7_2a))
                       (try (have c31b0_hl7_2a_hl7_1 := c31b0; rw [hl7_2, hl7_1] at c31b0_hl7_2a_hl7_1))
                       (try (have c31b0_hl7_2a_hl7_3 := c31b0; rw [hl7_2, hl7_3] at c31b0_hl7_2a_hl7_3))
                       (try (have c31b0_hl7_2a_hl7_4 := c31b0; rw [hl7_2, hl7_4] at c31b0_hl7_2a_hl7_4))
                       (try (have c31b0_hl7_2b := c31b0; rw [← hl7_2] at c31b0_hl7_2b))
                       (try (have c31b0_hl7_2b_hl7_1 := c31b0; rw [← hl7_2, ← hl7_1] at c31b0_hl7_2b_hl7_1))
                       (try (have c31b0_hl7_2b_hl7_3 := c31b0; rw [← hl7_2, ← hl7_3] at c31b0_hl7_2b_hl7_3))
                       (try (have c31b0_hl7_2b_hl7_4 := c31b0; rw [← hl7_2, ← hl7_4] at c31b0_hl7_2b_hl7_4))
                       (try (have c31b0_hl7_3a := c31b0; rw [hl7_3] at c31b0_hl7_3a))
                       (try (have c31b0_hl7_3a_hl7_1 := c31b0; rw [hl7_3, hl7_1] at c31b0_hl7_3a_hl7_1))
                       (try (have c31b0_hl7_3a_hl7_2 := c31b0; rw [hl7_3, hl7_2] at c31b0_hl7_3a_hl7_2))
                       (try (have c31b0_hl7_3a_hl7_4 := c31b0; rw [hl7_3, hl7_4] at c31b0_hl7_3a_hl7_4))
                       (try (have c31b0_hl7_3b := c31b0; rw [← hl7_3] at c31b0_hl7_3b))
                       (try (have c31b0_hl7_3b_hl7_1 := c31b0; rw [← hl7_3, ← hl7_1] at c31b0_hl7_3b_hl7_1))
                       (try (have c31b0_hl7_3b_hl7_2 := c31b0; rw [← hl7_3, ← hl7_2] at c31b0_hl7_3b_hl7_2))
                       (try (have c31b0_hl7_3b_hl7_4 := c31b0; rw [← hl7_3, ← hl7_4] at c31b0_hl7_3b_hl7_4))
                       (try (have c31b0_hl7_4a := c31b0; rw [hl7_4] at c31b0_hl7_4a))
                       (try (have c31b0_hl7_4a_hl7_1 := c31b0; rw [hl7_4, hl7_1] at c31b0_hl7_4a_hl7_1))
                       (try (have c31b0_hl7_4a_hl7_2 := c31b0; rw [hl7_4, hl7_2] at c31b0_hl7_4a_hl7_2))
                       (try (have c31b0_hl7_4a_hl7_3 := c31b0; rw [hl7_4, hl7_3] at c31b0_hl7_4a_hl7_3))
                       (try (have c31b0_hl7_4b := c31b0; rw [← hl7_4] at c31b0_hl7_4b))
                       (try (have c31b0_hl7_4b_hl7_1 := c31b0; rw [← hl7_4, ← hl7_1] at c31b0_hl7_4b_hl7_1))
                       (try (have c31b0_hl7_4b_hl7_2 := c31b0; rw [← hl7_4, ← hl7_2] at c31b0_hl7_4b_hl7_2))
                       (try (have c31b0_hl7_4b_hl7_3 := c31b0; rw [← hl7_4, ← hl7_3] at c31b0_hl7_4b_hl7_3))
                       clear c31
                       by_cases c32 : (rd x7_4 x65_4) = ji28
                       ·rw [if_pos c32] at H
                        have c32b0 : ((rd x7_4 x65_4) == ji28) = true := beq_iff_eq.mpr c32
                        have c32b1 : ((rd x7_4 x65_4) != ji28) = false := bne_eq_false_iff_eq.mpr c32
                        clear c32
                        obtain ⟨y688, hy688⟩ : ∃ y_ : List Int, y_ = (x7_4.set (x65_4 : Int).toNat ji27) := ⟨_, rfl⟩
                        replace H : (impl_classes.l3 k4 a0 y688 (rd y679 x31_2) x11_3 ji27 ji28 y679 (y679.length : Int) x31_2 (x7_3.length : Int) (wrap64 (x65_4 + 1))) = some r := by first | (rw [hy688]; with_reducible exact H) | (have H2_ := (Option.bind_some _ _).symm.trans H; rw [hy688]; with_reducible exact H2_) | (have H2_ := (Option.bind_some _ _).symm.trans H; with_reducible exact H2_) | with_reducible exact H | (rw [hy688]; exact H) | exact H
                        have Ny688 := Aside0.mk hy688
                        clear hy688
                        have H' := Aside0.mk H
                        clear H
                        have p687 : 0 ≤ (x65_4 : Int) := of_decide_eq_true (by first | (with_reducible assumption) | assumption)
                        have q687 : x65_4 < (x7_4.length : Int) := of_decide_eq_true (by first | (with_reducible assumption) | assumption)
                        obtain ⟨ad687, e687, hx687_0⟩ := Kd.at_int (Kd.R_reads' HO_7.out).2.2 x65_4 p687 q687
                        obtain rfl : ad683 = ad687 := (by injection e687)
                        replace p687 := eq_true p687
                        replace q687 := eq_true q687
                        have p33 : 0 ≤ (x65_4 : Int) := of_decide_eq_true (by first | (with_reducible assumption) | assumption)
                        have q33 : (x65_4 : Int) < ((x7_4.length : Int) : Int) := of_decide_eq_true (by first | (with_reducible assumption) | assumption)
                        obtain ⟨go33, co33, eo33, gb33, gl33, cl33, HG33⟩ := Kd.R_form HO_7.out (by omega)
                        (first | cases eo33 | (injection eo33 with ea_ en_ ec_; (first | subst ea_ | (injection ea_ with ea_; subst ea_)); subst ec_; clear en_))
                        have GB33 := Aside0.mk gb33
                        have GG33 := Aside0.mk HG33
                        clear gb33 gl33 HG33
                        (first | simp only [add_plain] at hx683_0 | skip)
                        (first | simp only [add_plain] at hx684_0 | skip)
                        (first | simp only [add_plain] at hx685_0 | skip)
                        (first | simp only [add_plain] at hx686_0 | skip)
                        (first | simp only [add_plain] at hx687_0 | skip)
                        obtain ⟨hx33_0, hf33_0⟩ := Kd.R_celln 0 HO_7.out (x65_4 : Int) p33 q33
                        replace p33 := eq_true p33
                        replace q33 := eq_true q33
                        have HP34 := Kd.R_putg HO_7.out (x65_4 : Int) ji27
                        go_wp2_with (first | ((with_reducible refine gate_store (t := 2) (p := 77) rfl ?_); (try (rw [drewN_self wr]; generalize hq_ : World.drewN wr _ = wr; have n0_ := Aside0.mk (Kd.R_at hq_ HO_7.out); have n1_ := Aside0.mk (Kd.R_at hq_ HO_29.out); have n2_ := Aside0.mk (below_at hq_ HB.out); clear hq_ HO_7 HO_29 HB; have HO_7 := n0_; have HO_29 := n1_; have HB := n2_; clear n0_ n1_ n2_; (try (have HP34 := Kd.R_putg HO_7.out (x65_4 : Int) ji27)))); refine store_event (t := 2) (p := 77) (v := ?vo_w35) (w1 := (wr.setCell ⟨go33, (x65_4 : Int).toNat, none⟩ (.int .i64 ji27))) ?hg ?ho ?hn ?hr ?_; (case ho => rfl); (case hg => rfl); (case hn => rfl); (case hr => first | (go_simp; done) | (go_simp; rfl)); intro w35 hw; have hg : wr.grownBy w35 (some go33) := (by rw [hw]; exact HP34.2); have hp_ : Kd.R (Kd.int .i64) 2 w35 w.heap.size (fun k_ => some k_ ≠ (.slice (some ad682) y679.length co17 : Value).ownBlock) (.slice (some ⟨go33, 0, none⟩) x7_4.length co8) y688 := (by rw [hw, Ny688.out]; exact HP34.1); clear HP34; have n0_ := Aside0.mk (hp_); have n1_ := Aside0.mk (Kd.R_after (v := (.slice (some ⟨go33, 0, none⟩) x7_4.length co8)) (v1 := (.slice (some ⟨go33, 0, none⟩) x7_4.length co8)) (ok := (fun _ => True)) (by (with_reducible repeat (first | apply Kd.R_alloc | apply Kd.R_drewN | apply Kd.R_drew)); exact Kd.R_mono HO_29.out (fun _ hk => ⟨trivial, hk⟩)) hg (.inl rfl)); have n2_ := Aside0.mk ((by rw [hw]; exact below_set (HB.out) GB33.out : Below w.heap.size w w35)); clear HO_7; clear HO_29; clear HB; have HO_7 := n0_; have HO_29 := n1_; have HB := n2_; clear n0_ n1_ n2_; clear hg hw hp_))
                        repeat (go_quiet (fail); try go_wp2)
                        (try simp only [← hl7_4])
                        (try rw [← add_plain go33 (x31_2 : Int).toNat])
                        (try rw [← add_plain go33 (x11_3 : Int).toNat])
                        (try rw [← add_plain go33 ((ji24) : Int).toNat])
                        (try rw [← add_plain go33 (x65_4 : Int).toNat])
                        go_roundg k4
                        case measure => have := HK1.out; have := HK2.out; have := HK3.out; have := HK4.out; omega
                        case rel => exact ⟨(y688), (wrap64 (x65_4 + 1)), (by first | rfl | (simp; done) | (simp [*]; done)), H', ⟨by have := HK1.out; have := HK2.out; have := HK3.out; have := HK4.out; omega⟩, ⟨by (try simp only [hl7_1]); (try simp only [hl7_2]); (try simp only [hl7_3]); (try simp only [hl7_4]); (with_reducible repeat (first | apply Kd.R_alloc | apply Kd.R_drewN | apply Kd.R_drew)); exact HO_7.out⟩, ⟨by (try simp only [hl7_1]); (try simp only [hl7_2]); (try simp only [hl7_3]); (try simp only [hl7_4]); (with_reducible repeat (first | apply Kd.R_alloc | apply Kd.R_drewN | apply Kd.R_drew)); exact Kd.R_mono HO_29.out (fun _ hk => hk.2)⟩, ⟨by repeat (first | (with_reducible first | exact HB.out | apply below_alloc | apply pw_below_drewN | apply below_drew1) | exact HB.out)⟩⟩
                       ·rw [if_neg c32] at H
                        have c32b0 : ((rd x7_4 x65_4) == ji28) = false := beq_eq_false_iff_ne.mpr c32
                        have c32b1 : ((rd x7_4 x65_4) != ji28) = true := bne_iff_ne.mpr c32
                        have H' := Aside0.mk H
                        clear H
                        have p687 : 0 ≤ (x65_4 : Int) := of_decide_eq_true (by first | (with_reducible assumption) | assumption)
                        have q687 : x65_4 < (x7_4.length : Int) := of_decide_eq_true (by first | (with_reducible assumption) | assumption)
                        obtain ⟨ad687, e687, hx687_0⟩ := Kd.at_int (Kd.R_reads' HO_7.out).2.2 x65_4 p687 q687
                        obtain rfl : ad683 = ad687 := (by injection e687)
                        replace p687 := eq_true p687
                        replace q687 := eq_true q687
                        go_wp2
                        repeat (go_quiet (fail); try go_wp2)
                        (try simp only [← hl7_4])
                        go_roundg k4
                        case measure => have := HK1.out; have := HK2.out; have := HK3.out; have := HK4.out; omega
                        case rel => exact ⟨(x7_4), (wrap64 (x65_4 + 1)), (by first | rfl | (simp; done) | (simp [*]; done)), H', ⟨by have := HK1.out; have := HK2.out; have := HK3.out; have := HK4.out; omega⟩, ⟨by (try simp only [hl7_1]); (try simp only [hl7_2]); (try simp only [hl7_3]); (try simp only [hl7_4]); (with_reducible repeat (first | apply Kd.R_alloc | apply Kd.R_drewN | apply Kd.R_drew)); exact HO_7.out⟩, ⟨by (try simp only [hl7_1]); (try simp only [hl7_2]); (try simp only [hl7_3]); (try simp only [hl7_4]); (with_reducible repeat (first | apply Kd.R_alloc | apply Kd.R_drewN | apply Kd.R_drew)); exact HO_29.out⟩, ⟨by repeat (first | (with_reducible first | exact HB.out | apply below_alloc | apply pw_below_drewN | apply below_drew1) | exact HB.out)⟩⟩
                      ·rw [if_neg c31] at H
                       exact absurd H (by simp)
                     ·rw [if_neg c30] at H
                      exact absurd H (by simp)
                    ·rw [if_neg c29] at H
                     have c29b0 : decide (x65_4 < (x7_3.length : Int)) = false := decide_eq_false c29
                     (try (have c29b0_hl7_1a := c29b0; rw [hl7_1] at c29b0_hl7_1a))
                     (try (have c29b0_hl7_1a_hl7_2 := c29b0; rw [hl7_1, hl7_2] at c29b0_hl7_1a_hl7_2))
                     (try (have c29b0_hl7_1a_hl7_3 := c29b0; rw [hl7_1, hl7_3] at c29b0_hl7_1a_hl7_3))
                     (try (have c29b0_hl7_1a_hl7_4 := c29b0; rw [hl7_1, hl7_4] at c29b0_hl7_1a_hl7_4))
                     (try (have c29b0_hl7_1b := c29b0; rw [← hl7_1] at c29b0_hl7_1b))
                     (try (have c29b0_hl7_1b_hl7_2 := c29b0; rw [← hl7_1, ← hl7_2] at c29b0_hl7_1b_hl7_2))
                     (try (have c29b0_hl7_1b_hl7_3 := c29b0; rw [← hl7_1, ← hl7_3] at c29b0_hl7_1b_hl7_3))
                     (try (have c29b0_hl7_1b_hl7_4 := c29b0; rw [← hl7_1, ← hl7_4] at c29b0_hl7_1b_hl7_4))
                     (try (have c29b0_hl7_2a := c29b0; rw [hl7_2] at c29b0_hl7_2a))
                     (try (have c29b0_hl7_2a_hl7_1 := c29b0; rw [hl7_2, hl7_1] at c29b0_hl7_2a_hl7_1))
                     (try (have c29b0_hl7_2a_hl7_3 := c29b0; rw [hl7_2, hl7_3] at c29b0_hl7_2a_hl7_3))
                     (try (have c29b0_hl7_2a_hl7_4 := c29b0; rw [hl7_2, hl7_4] at c29b0_hl7_2a_hl7_4))
                     (try (have c29b0_hl7_2b := c29b0; rw [← hl7_2] at c29b0_hl7_2b))
                     (try (have c29b0_hl7_2b_hl7_1 := c29b0; rw [← hl7_2, ← hl7_1] at c29b0_hl7_2b_hl7_1))
                     (try (have c29b0_hl7_2b_hl7_3 := c29b0; rw [← hl7_2, ← hl7_3] at c29b0_hl7_2b_hl7_3))
                     (try (have c29b0_hl7_2b_hl7_4 := c29b0; rw [← hl7_2, ← hl7_4] at c29b0_hl7_2b_hl7_4))
                     (try (have c29b0_hl7_3a := c29b0; rw [hl7_3] at c29b0_hl7_3a))
                     (try (have c29b0_hl7_3a_hl7_1 := c29b0; rw [hl7_3, hl7_1] at c29b0_hl7_3a_hl7_1))
                     (try (have c29b0_hl7_3a_hl7_2 := c29b0; rw [hl7_3, hl7_2] at c29b0_hl7_3a_hl7_2))
                     (try (have c29b0_hl7_3a_hl7_4 := c29b0; rw [hl7_3, hl7_4] at c29b0_hl7_3a_hl7_4))
                     (try (have c29b0_hl7_3b := c29b0; rw [← hl7_3] at c29b0_hl7_3b))
                     (try (have c29b0_hl7_3b_hl7_1 := c29b0; rw [← hl7_3, ← hl7_1] at c29b0_hl7_3b_hl7_1))
                     (try (have c29b0_hl7_3b_hl7_2 := c29b0; rw [← hl7_3, ← hl7_2] at c29b0_hl7_3b_hl7_2))
                     (try (have c29b0_hl7_3b_hl7_4 := c29b0; rw [← hl7_3, ← hl7_4] at c29b0_hl7_3b_hl7_4))
                     (try (have c29b0_hl7_4a := c29b0; rw [hl7_4] at c29b0_hl7_4a))
                     (try (have c29b0_hl7_4a_hl7_1 := c29b0; rw [hl7_4, hl7_1] at c29b0_hl7_4a_hl7_1))
                     (try (have c29b0_hl7_4a_hl7_2 := c29b0; rw [hl7_4, hl7_2] at c29b0_hl7_4a_hl7_2))
                     (try (have c29b0_hl7_4a_hl7_3 := c29b0; rw [hl7_4, hl7_3] at c29b0_hl7_4a_hl7_3))
                     (try (have c29b0_hl7_4b := c29b0; rw [← hl7_4] at c29b0_hl7_4b))
                     (try (have c29b0_hl7_4b_hl7_1 := c29b0; rw [← hl7_4, ← hl7_1] at c29b0_hl7_4b_hl7_1))
                     (try (have c29b0_hl7_4b_hl7_2 := c29b0; rw [← hl7_4, ← hl7_2] at c29b0_hl7_4b_hl7_2))
                     (try (have c29b0_hl7_4b_hl7_3 := c29b0; rw [← hl7_4, ← hl7_3] at c29b0_hl7_4b_hl7_3))
                     clear c29
                     have H' := Aside0.mk H
                     clear H
                     go_wp2
                     repeat (go_quiet (fail); try go_wp2)
                     (try simp only [← hl7_3, ← hl7_4])
                     go_roundg k4
                     case measure => have := HK1.out; have := HK2.out; have := HK3.out; have := HK4.out; omega
                     case rel => exact ⟨(x7_4), (wrap64 (x11_3 + 1)), (by first | rfl | (simp; done) | (simp [*]; done)), H', ⟨by have := HK1.out; have := HK2.out; have := HK3.out; have := HK4.out; omega⟩, ⟨by (try simp only [hl7_1]); (try simp only [hl7_2]); (try simp only [hl7_3]); (try simp only [hl7_4]); (with_reducible repeat (first | apply Kd.R_alloc | apply Kd.R_drewN | apply Kd.R_drew)); exact HO_7.out⟩, ⟨by (try simp only [hl7_1]); (try simp only [hl7_2]); (try simp only [hl7_3]); (try simp only [hl7_4]); (with_reducible repeat (first | apply Kd.R_alloc | apply Kd.R_drewN | apply Kd.R_drew)); exact HO_29.out⟩, ⟨by repeat (first | (with_reducible first | exact HB.out | apply below_alloc | apply pw_below_drewN | apply below_drew1) | exact HB.out)⟩⟩
                 ·rw [if_neg c26] at H
                  exact absurd H (by simp)
                ·rw [if_neg c25] at H
                 exact absurd H (by simp)
               ·rw [if_neg c23] at H
                exact absurd H (by simp)
              ·rw [if_neg c22] at H
               exact absurd H (by simp)
             ·rw [if_neg c21] at H
              have c21b0 : decide (x11_3 < a0) = false := decide_eq_false c21
              clear c21
              have H' := Aside0.mk H
              clear H
              go_wp2
              repeat (go_quiet (fail); try go_wp2)
              (try simp only [← hl7_2, ← hl7_3])
              go_roundg k3
              case measure => have := HK1.out; have := HK2.out; have := HK3.out; omega
              case rel => exact ⟨(x7_3), (wrap64 (x31_2 + 1)), (by first | rfl | (simp; done) | (simp [*]; done)), H', ⟨by have := HK1.out; have := HK2.out; have := HK3.out; omega⟩, ⟨by (try simp only [hl7_1]); (try simp only [hl7_2]); (try simp only [hl7_3]); (with_reducible repeat (first | apply Kd.R_alloc | apply Kd.R_drewN | apply Kd.R_drew)); exact HO_7.out⟩, ⟨by (try simp only [hl7_1]); (try simp only [hl7_2]); (try simp only [hl7_3]); (with_reducible repeat (first | apply Kd.R_alloc | apply Kd.R_drewN | apply Kd.R_drew)); exact HO_29.out⟩, ⟨by repeat (first | (with_reducible first | exact HB.out | apply below_alloc | apply pw_below_drewN | apply below_drew1) | exact HB.out)⟩⟩
          ·rw [if_neg c20] at H
           exact absurd H (by simp)
         ·rw [if_neg c19] at H
          exact absurd H (by simp)
        ·rw [if_neg c18] at H
         have c18b0 : decide (x31_2 < (y679.length : Int)) = false := decide_eq_false c18
         (try (have c18b0_hl7_1a := c18b0; rw [hl7_1] at c18b0_hl7_1a))
         (try (have c18b0_hl7_1a_hl7_2 := c18b0; rw [hl7_1, hl7_2] at c18b0_hl7_1a_hl7_2))
         (try (have c18b0_hl7_1a_hl7_3 := c18b0; rw [hl7_1, hl7_3] at c18b0_hl7_1a_hl7_3))
         (try (have c18b0_hl7_1a_hl7_4 := c18b0; rw [hl7_1, hl7_4] at c18b0_hl7_1a_hl7_4))
         (try (have c18b0_hl7_1b := c18b0; rw [← hl7_1] at c18b0_hl7_1b))
         (try (have c18b0_hl7_1b_hl7_2 := c18b0; rw [← hl7_1, ← hl7_2] at c18b0_hl7_1b_hl7_2))
         (try (have c18b0_hl7_1b_hl7_3 := c18b0; rw [← hl7_1, ← hl7_3] at c18b0_hl7_1b_hl7_3))
         (try (have c18b0_hl7_1b_hl7_4 := c18b0; rw [← hl7_1, ← hl7_4] at c18b0_hl7_1b_hl7_4))
         (try (have c18b0_hl7_2a := c18b0; rw [hl7_2] at c18b0_hl7_2a))
         (try (have c18b0_hl7_2a_hl7_1 := c18b0; rw [hl7_2, hl7_1] at c18b0_hl7_2a_hl7_1))
         (try (have c18b0_hl7_2a_hl7_3 := c18b0; rw [hl7_2, hl7_3] at c18b0_hl7_2a_hl7_3))
         (try (have c18b0_hl7_2a_hl7_4 := c18b0; rw [hl7_2, hl7_4] at c18b0_hl7_2a_hl7_4))
         (try (have c18b0_hl7_2b := c18b0; rw [← hl7_2] at c18b0_hl7_2b))
         (try (have c18b0_hl7_2b_hl7_1 := c18b0; rw [← hl7_2, ← hl7_1] at c18b0_hl7_2b_hl7_1))
         (try (have c18b0_hl7_2b_hl7_3 := c18b0; rw [← hl7_2, ← hl7_3] at c18b0_hl7_2b_hl7_3))
         (try (have c18b0_hl7_2b_hl7_4 := c18b0; rw [← hl7_2, ← hl7_4] at c18b0_hl7_2b_hl7_4))
         (try (have c18b0_hl7_3a := c18b0; rw [hl7_3] at c18b0_hl7_3a))
         (try (have c18b0_hl7_3a_hl7_1 := c18b0; rw [hl7_3, hl7_1] at c18b0_hl7_3a_hl7_1))
         (try (have c18b0_hl7_3a_hl7_2 := c18b0; rw [hl7_3, hl7_2] at c18b0_hl7_3a_hl7_2))
         (try (have c18b0_hl7_3a_hl7_4 := c18b0; rw [hl7_3, hl7_4] at c18b0_hl7_3a_hl7_4))
         (try (have c18b0_hl7_3b := c18b0; rw [← hl7_3] at c18b0_hl7_3b))
         (try (have c18b0_hl7_3b_hl7_1 := c18b0; rw [← hl7_3, ← hl7_1] at c18b0_hl7_3b_hl7_1))
         (try (have c18b0_hl7_3b_hl7_2 := c18b0; rw [← hl7_3, ← hl7_2] at c18b0_hl7_3b_hl7_2))
         (try (have c18b0_hl7_3b_hl7_4 := c18b0; rw [← hl7_3, ← hl7_4] at c18b0_hl7_3b_hl7_4))
         (try (have c18b0_hl7_4a := c18b0; rw [hl7_4] at c18b0_hl7_4a))
         (try (have c18b0_hl7_4a_hl7_1 := c18b0; rw [hl7_4, hl7_1] at c18b0_hl7_4a_hl7_1))
         (try (have c18b0_hl7_4a_hl7_2 := c18b0; rw [hl7_4, hl7_2] at c18b0_hl7_4a_hl7_2))
         (try (have c18b0_hl7_4a_hl7_3 := c18b0; rw [hl7_4, hl7_3] at c18b0_hl7_4a_hl7_3))
         (try (have c18b0_hl7_4b := c18b0; rw [← hl7_4] at c18b0_hl7_4b))
         (try (have c18b0_hl7_4b_hl7_1 := c18b0; rw [← hl7_4, ← hl7_1] at c18b0_hl7_4b_hl7_1))
         (try (have c18b0_hl7_4b_hl7_2 := c18b0; rw [← hl7_4, ← hl7_2] at c18b0_hl7_4b_hl7_2))
         (try (have c18b0_hl7_4b_hl7_3 := c18b0; rw [← hl7_4, ← hl7_3] at c18b0_hl7_4b_hl7_3))
         clear c18
         obtain rfl := Option.some.inj H
         go_wp2
         repeat (go_quiet (fail); try go_wp2)
         go_ret
         exact ⟨_, by first | rfl | (simp [errW_none, errW_some] <;> rfl) | (simp [*, errW_none, errW_some] <;> rfl), by (with_reducible repeat (first | apply Kd.R_alloc | apply Kd.R_drewN | apply Kd.R_drew)); exact Kd.R_mono HO_7.out (fun _ hk => trivial), by repeat (first | (with_reducible first | exact HB.out | apply below_alloc | apply pw_below_drewN | apply below_drew1) | exact HB.out)⟩
  ·rw [if_neg c5] at H
   exact absurd H (by simp)
 ·rw [if_neg c4] at H
  exact absurd H (by simp)

end Go.Proofs.Ytmihfmhfgjnfcab.Q

namespace Go.Proofs.Ytmihfmhfgjnfcab.Q
open Go.RowKit Go.Proofs.YtmihfmhfgjnfcabW.PrintWords Go.Proofs.YtmihfmhfgjnfcabW.PrintLast Go.Proofs.YtmihfmhfgjnfcabW.PrintMore
attribute [local go_sem] max2_int min2_int max_two min_two max_three min_three max_four min_four bn_leq bn_gtr bn_geq   -- for this text's walks alone
set_option linter.unusedVariables false
set_option linter.unusedSimpArgs false

/-! ### impl_DoubleWord: function 45 (this session's own) -/
-- IMPORT Derived.Maps.OwnSet
-- IMPORT Derived.Maps.OwnOps
open Go.Maps
/-- which letter a class has: s: the classes that were met, the last one first -/
def ownOf : List Int → Int → Int
 | [], _ => 0
 | y :: r, x => if y = x then (r.length : Int) else ownOf r x
def dOf : List Int → DataW Unit
 | [] => .map []
 | x :: r => (dOf r).put (.int .i64 x) (.lit (.int .i64 (r.length : Int)))
theorem keyLit (x : Int) : WideAt.IsKeyLit (.int .i64 x) := by first | exact ⟨_, _, rfl⟩ | (unfold WideAt.IsKeyLit; simp) | trivial
theorem dOf_tidy : ∀ s : List Int, Tidy (dOf s)
 | [] => tidy_empty
 | x :: r => (dOf_tidy r).put (keyLit x) _
theorem dOf_has : ∀ (s : List Int) (x : Int), Maps.has (dOf s) (.int .i64 x) = s.contains x
 | [], x => rfl
 | y :: r, x => by
  unfold dOf
  by_cases h : x = y
  ·subst h
   rw [has_put_same (dOf_tidy r).isMap (keyLit x)]; simp
  ·rw [has_put_other (fun e => h (by injection e)), dOf_has r x]
   simp [h]
theorem dOf_at : ∀ (s : List Int) (x : Int) (z : DataW Unit), s.contains x = true → (dOf s).atKey (.int .i64 x) z = .lit (.int .i64 (ownOf s x))
 | [], x, z, h => by simp at h
 | y :: r, x, z, h => by
  unfold dOf ownOf
  by_cases e : y = x
  ·subst e
   rw [atKey_put_same (dOf_tidy r).isMap (keyLit y), if_pos rfl]
  ·rw [atKey_put_other (fun e2 => e (by injection e2 with _ e3; exact e3.symm)), if_neg e]
   exact dOf_at r x z (by
    rw [List.contains_cons] at h
    have : (x == y) = false := beq_eq_false_iff_ne.mpr (fun e2 => e e2.symm)
    rw [this] at h
    simpa using h)
theorem dOf_size : ∀ s : List Int, s.Nodup → Maps.size (dOf s) = s.length
 | [], _ => rfl
 | x :: r, h => by
  rw [List.nodup_cons] at h
  unfold dOf
  rw [size_put (dOf_tidy r), dOf_has, if_neg (by simpa using h.1), dOf_size r h.2]; rfl
theorem ownsMap_move {w w' : World} {k : TypeId} {R : Value → Option (DataW Unit × List MemPlace)} {b n : Nat} {D : DataW Unit} (h : w.ownsMap Try.prog k R b n D) (hm : w'.heap[b]? = w.heap[b]?) : w'.ownsMap Try.prog k R b n D := by
 obtain ⟨es, clock, hb, r⟩ := h
 exact ⟨es, clock, hm.trans hb, r⟩
theorem ownsMap_lt {w : World} {k : TypeId} {R : Value → Option (DataW Unit × List MemPlace)} {b n : Nat} {D : DataW Unit} (h : w.ownsMap Try.prog k R b n D) : b < w.heap.size := by
 obtain ⟨es, clock, hb, r⟩ := h
 exact blk_lt hb
/-- the loop over the classes -/
def dwL : List Int → List Int → ByteArray → Option (ByteArray × Int)
 | [], _, out => some (out, 0)
 | x :: l, s, out => if inR x (-1000000) 1000000 = true then (if s.contains x = true then (if ownOf s x ≥ 5 then some (⟨#[]⟩, 3) else (impl_letter.f (ownOf s x)).bind fun t => if out.size + t.size ≤ 9223372036854775807 then dwL l s (out ++ t) else none) else (if (s.length : Int) ≥ 5 then some (⟨#[]⟩, 3) else (impl_letter.f (s.length : Int)).bind fun t => if out.size + t.size ≤ 9223372036854775807 then dwL l (x :: s) (out ++ t) else none)) else none
def impl_DoubleWord.f (k : Nat) (a0 a1 : Int) : Option (ByteArray × Int) := if (inR a0 1 60 && inR a1 1 60) = true then ((impl_doubleLength.f k a0 a1).bind fun n => if n > 60 then some (⟨#[]⟩, 3) else (impl_classes.f k n a0 a1).bind fun C => if C.length ≤ 1000000 then dwL C [] ⟨#[]⟩ else none) else some (⟨#[]⟩, 2)
theorem xw_dw_law : Keyed Try.prog 2 := int_keyed Try.underlying2
theorem dOf_lit {D : DataW Unit} {a b : Int} (h1 : D = .lit (.int .i64 a)) (h2 : D = .lit (.int .i64 b)) : b = a := by
 have := h2.symm.trans h1; injection this with this; injection this with _ this
theorem xw_dw_zero (w : World) : (zeroValue 2).run Try.prog w = .ok (.int .i64 0) w := by kernel_rfl
set_option maxHeartbeats 8000000 in
theorem impl_DoubleWord.calls (k : Nat) (a0 a1 : Int) (r1 : ByteArray) (r2 : Int) (w : World) (h : impl_DoubleWord.f k a0 a1 = some (r1, r2)) :
  Calls Try.prog 45 #[.int .i64 a0, .int .i64 a1] w fun e w' => e = .returned (.tuple #[.string r1, .int .i64 r2]) ∧ Below w.heap.size w w' := by
 unfold impl_DoubleWord.f at h
 have hI0 := fun W => xw_within a0 1 60 W
 have hI1 := fun W => xw_within a1 1 60 W
 cases h0 : inR a0 1 60 with
 | false =>
  rw [h0] at h hI0
  obtain ⟨rfl, rfl⟩ : (⟨#[]⟩ : ByteArray) = r1 ∧ (2 : Int) = r2 := by simpa using h
  clear h h0 hI1
  go_enter Try.func45, Try.ntmps45
  go_wp2_with (go_at_call 81; refine (hI0 _).mono ?_; rintro e w' ⟨rfl, rfl⟩)
  go_ret2
  exact ⟨rfl, Below.refl _ _⟩
 | true =>
  cases h1 : inR a1 1 60 with
  | false =>
   rw [h0, h1] at h
   rw [h0] at hI0
   rw [h1] at hI1
   obtain ⟨rfl, rfl⟩ : (⟨#[]⟩ : ByteArray) = r1 ∧ (2 : Int) = r2 := by simpa using h
   clear h h0 h1
   have tok := Aside0.mk hI0
   clear hI0
   go_enter Try.func45, Try.ntmps45
   go_wp2_with (first | (go_at_call 81; have hI0 := tok.out; clear tok; refine (hI0 _).mono ?_; rintro e w' ⟨rfl, rfl⟩; clear hI0) | (go_at_call 81; refine (hI1 _).mono ?_; rintro e w' ⟨rfl, rfl⟩))
   go_ret2
   exact ⟨rfl, Below.refl _ _⟩
  | true =>
   rw [h0, h1] at h
   rw [h0] at hI0
   rw [h1] at hI1
   rw [Bool.and_self, if_pos rfl] at h
   obtain ⟨n, hn, h⟩ := Option.bind_eq_some_iff.mp h
   have cN := Aside0.mk (fun W => impl_doubleLength.calls k a0 a1 n W hn)
   clear hn h0 h1
   have tok := Aside0.mk hI0
   clear hI0
   by_cases hbig : n > 60
   ·rw [if_pos hbig] at h
    obtain ⟨rfl, rfl⟩ : (⟨#[]⟩ : ByteArray) = r1 ∧ (3 : Int) = r2 := by simpa using h
    have c1 : decide (60 < n) = true := decide_eq_true hbig
    clear h hbig
    go_enter Try.func45, Try.ntmps45
    go_wp2_with (first | (go_at_call 81; have hI0 := tok.out; clear tok; refine (hI0 _).mono ?_; rintro e w' ⟨rfl, rfl⟩; clear hI0) | (go_at_call 81; refine (hI1 _).mono ?_; rintro e w' ⟨rfl, rfl⟩) | (go_at_call 110; refine (cN.out _).mono ?_; rintro e w1 ⟨rfl, hd⟩; have hb1 := Aside0.mk hd.below; clear hd))
    go_ret2
    exact ⟨rfl, hb1.out⟩
   ·rw [if_neg hbig] at h
    obtain ⟨C, hC, h⟩ := Option.bind_eq_some_iff.mp h
    by_cases hlen : C.length ≤ 1000000
    ·rw [if_pos hlen] at h
     have cC := Aside0.mk (fun W => impl_classes.calls k n a0 a1 C W hC)
     have c1 : decide (60 < n) = false := decide_eq_false hbig
     have hL := Aside0.mk h
     have hlen' := Aside0.mk hlen
     have hmm := @run_makeMap Try.prog
     clear h hbig hC hlen
     go_enter Try.func45, Try.ntmps45
     go_wp2_with (first | (go_at_call 81; have hI0 := tok.out; clear tok; refine (hI0 _).mono ?_; rintro e w' ⟨rfl, rfl⟩; clear hI0) | (go_at_call 81; refine (hI1 _).mono ?_; rintro e w' ⟨rfl, rfl⟩) | (go_at_call 110; refine (cN.out _).mono ?_; rintro e w1 ⟨rfl, hd⟩; have hb1 := Aside0.mk hd.below; clear hd) | (go_at_call 111; refine (cC.out _).mono ?_; rintro e w2 ⟨v, rfl, ho, hb⟩; obtain ⟨A2, c2, rfl⟩ := Kd.R_slice ho; have hM0 := Aside0.mk (ownsMap_move (World.ownsMap_made w1 Try.prog 2 (plainElem (H := Unit) Try.prog 2)) (hb.block w1.heap.size (by simp))); have hB2 := Aside0.mk (below_then (hb1.out.alloc hb1.out.size (.map #[] 0)) (by have := hb1.out.size; simp; omega) hb); have hO := Aside0.mk (Kd.R_mono (ok' := fun k_ => w1.heap.size < k_) (Kd.R_bound ho) (fun k_ hk => by have := hk.2.1; simp at this; omega)); clear ho hb))
     go_loopg [8, 10, 11, 12, 32] C.length (fun gg v8 v10 v11 v12 v32 wr => ∃ (kk : Nat) (s : List Int) (out : ByteArray), kk ≤ C.length ∧ C.length - kk ≤ gg ∧ v32 = .int .i64 kk ∧ v8 = .string out ∧ Aside0 (dwL (C.drop kk) s out = some (r1, r2)) ∧ Aside0 (s.Nodup) ∧ Aside0 (s.length ≤ kk) ∧ Aside0 (wr.ownsMap Try.prog 2 (plainElem Try.prog 2) w1.heap.size s.length (dOf s)) ∧ Aside0 (Kd.R (Kd.int .i64) 2 wr (w1.alloc (.map #[] 0)).heap.size (fun k_ => w1.heap.size < k_) (.slice A2 C.length c2) C) ∧ Aside0 (Below w'.heap.size w' wr) ∧ Aside0 (w'.heap.size ≤ w1.heap.size))
     case atStart => exact ⟨0, [], ⟨#[]⟩, Nat.zero_le _, by omega, rfl, rfl, hL, ⟨List.nodup_nil⟩, ⟨Nat.le_refl _⟩, hM0, hO, hB2, ⟨hb1.out.size⟩⟩
     case round =>
      clear hL hM0 hO hB2 hb1
      obtain ⟨kk, s, out, hkk, hgg, rfl, rfl, hL, hN, hS, hM, hO, hB, hW1⟩ := hrel
      have hlen2 := hlen'.out
      by_cases hlt : kk < C.length
      ·have hltz : (kk : Int) < (C.length : Int) := by omega
       have d1 := decide_eq_true hltz
       have d2 := eq_true (show (0 : Int) ≤ (kk : Int) by omega)
       have d3 := eq_true hltz
       have d4 := eq_true hlt
       obtain ⟨_, _, hCC⟩ := Kd.R_reads' hO.out
       obtain ⟨ad, rfl, hcell⟩ := Kd.at_int hCC (kk : Int) (by omega) hltz
       rw [Int.toNat_natCast] at hcell
       obtain ⟨x, hx⟩ : ∃ x, x = rd C (kk : Int) := ⟨_, rfl⟩
       rw [← hx] at hcell
       have hL2 := hL.out
       rw [show C.drop kk = x :: C.drop (kk + 1) by rw [hx, List.drop_eq_getElem_cons hlt]; congr 1; unfold rd; simp [List.getD_eq_getElem?_getD, hlt]] at hL2
       simp only [dwL] at hL2
       have hw5 := Aside0.mk (show wrap64 ((kk : Int) + 1) = ((kk + 1 : Nat) : Int) by rw [w64 (by omega) (by omega)]; rfl)
       cases hr : inR x (-1000000) 1000000 with
       | false => rw [hr, if_neg (by decide)] at hL2; cases hL2
       | true =>
        rw [hr, if_pos rfl] at hL2
        obtain ⟨x0, x1⟩ := inR_true hr
        have hkey := keyOf_int_mk Try.underlying2 (WalkArith.wf_i64 (n := x) (by omega))
        have hsl := hS.out
        clear hL hx hr hCC
        cases hc : s.contains x with
        | true =>
         rw [hc, if_pos rfl] at hL2
         have hat0 := Aside0.mk (fun z => dOf_at s x z hc)
         have hhas : Maps.has (dOf s) (.int .i64 x) = true := by rw [dOf_has, hc]
         obtain ⟨o, ho⟩ : ∃ o, o = ownOf s x := ⟨_, rfl⟩
         rw [← ho] at hL2 hat0
         clear ho hc
         by_cases h5 : o ≥ 5
         ·rw [if_pos h5] at hL2
          obtain ⟨rfl, rfl⟩ : (⟨#[]⟩ : ByteArray) = r1 ∧ (3 : Int) = r2 := by simpa using hL2
          have e1 := decide_eq_true (show (5 : Int) ≤ o by omega)
          clear hL2 h5 hsl x0 x1
          go_wp2_with (at_lookup; refine wpList_lookup_own_ok_int _ rfl _ _ 87 rfl 2 2 .i64 xw_dw_law Try.underlying87 Try.underlying2 (xw_dw_zero _) w1.heap.size s.length (dOf s) rfl hM.out _ _ rfl hkey ?_; intro c hat hwc; have ec : c = o := dOf_lit (hat0.out _) hat; rw [hhas]; subst ec; clear hat hwc)
          go_ret2
          exact ⟨rfl, hB.out⟩
         ·rw [if_neg h5] at hL2
          obtain ⟨t, ht, hL3⟩ := Option.bind_eq_some_iff.mp hL2
          by_cases c7 : out.size + t.size ≤ 9223372036854775807
          ·rw [if_pos c7] at hL3
           have hL4 := Aside0.mk hL3
           have e1 := decide_eq_false (show ¬ (5 : Int) ≤ o by omega)
           have hLt := Aside0.mk (fun W => impl_letter.calls o t W ht)
           have c7b := decide_eq_true c7
           have c7c : (9223372036854775807 < out.size + t.size) = False := eq_false (Nat.not_lt.2 c7)
           clear hL2 hL3 h5 ht c7 hsl x0 x1
           go_wp2_with (first | (at_lookup; refine wpList_lookup_own_ok_int _ rfl _ _ 87 rfl 2 2 .i64 xw_dw_law Try.underlying87 Try.underlying2 (xw_dw_zero _) w1.heap.size s.length (dOf s) rfl hM.out _ _ rfl hkey ?_; intro c hat hwc; have ec : c = o := dOf_lit (hat0.out _) hat; rw [hhas]; subst ec; clear hat hwc) | (go_at_call 89; refine (hLt.out _).mono ?_; rintro e w3 ⟨rfl, hb3⟩; have hB3 := Aside0.mk hb3; clear hb3))
           go_roundg (C.length - (kk + 1))
           case measure => omega
           case rel => exact ⟨kk + 1, s, out ++ t, by omega, by omega, by first | rfl | rw [hw5.out], rfl, hL4, hN, ⟨by have := hS.out; omega⟩, ⟨ownsMap_move hM.out (hB3.out.block _ (ownsMap_lt hM.out))⟩, ⟨Kd.R_below hO.out hB3.out⟩, ⟨below_then hB.out hB.out.size hB3.out⟩, hW1⟩
          ·rw [if_neg c7] at hL3; cases hL3
        | false =>
         rw [hc, if_neg (by decide)] at hL2
         have hhas : Maps.has (dOf s) (.int .i64 x) = false := by rw [dOf_has, hc]
         have hsize := dOf_size s hN.out
         have hN2 := Aside0.mk (show (x :: s).Nodup from List.nodup_cons.mpr ⟨by simpa using hc, hN.out⟩)
         have hwf := WalkArith.wf_i64 (n := (s.length : Int)) (by omega)
         have hval := plainElem_int (H := Unit) Try.underlying2 hwf
         have hml := Aside0.mk (show s.length < maxLen by unfold maxLen; omega)
         clear hc hwf
         by_cases h5 : (s.length : Int) ≥ 5
         ·rw [if_pos h5] at hL2
          obtain ⟨rfl, rfl⟩ : (⟨#[]⟩ : ByteArray) = r1 ∧ (3 : Int) = r2 := by simpa using hL2
          have e1 := decide_eq_true (show (5 : Int) ≤ (s.length : Int) by omega)
          have e2 := decide_eq_true (show 5 ≤ s.length by omega)
          clear hL2 h5 hsl x0 x1
          go_wp2_with (first | (at_lookup; refine wpList_lookup_own_ok_int _ rfl _ _ 87 rfl 2 2 .i64 xw_dw_law Try.underlying87 Try.underlying2 (xw_dw_zero _) w1.heap.size s.length (dOf s) rfl hM.out _ _ rfl hkey ?_; intro c hat hwc; rw [hhas]; clear hat hwc) | (at_len; refine wpList_len_own _ rfl _ 87 rfl 2 2 Try.underlying87 _ w1.heap.size s.length (dOf s) rfl hM.out ?_; rw [hsize]) | (at_mapUpdate; refine wpList_mapUpdate_own _ rfl _ _ _ 87 rfl 2 2 xw_dw_law Try.underlying87 _ w1.heap.size s.length _ rfl hM.out hml.out _ _ _ rfl rfl hkey _ [] hval ?_; intro w4 hown4 hgrow4; have hM4 := Aside0.mk hown4; have hG4 := Aside0.mk hgrow4; clear hown4 hgrow4))
          go_ret2
          exact ⟨rfl, hB.out.grown hG4.out hB.out.size (fun k_ hk_ => by injection hk_ with hk_; have := hW1.out; omega)⟩
         ·rw [if_neg h5] at hL2
          obtain ⟨t, ht, hL3⟩ := Option.bind_eq_some_iff.mp hL2
          by_cases c7 : out.size + t.size ≤ 9223372036854775807
          ·rw [if_pos c7] at hL3
           have hL4 := Aside0.mk hL3
           have e1 := decide_eq_false (show ¬ (5 : Int) ≤ (s.length : Int) by omega)
           have e2 := decide_eq_false (show ¬ 5 ≤ s.length by omega)
           have hLt := Aside0.mk (fun W => impl_letter.calls (s.length : Int) t W ht)
           have c7b := decide_eq_true c7
           have c7c : (9223372036854775807 < out.size + t.size) = False := eq_false (Nat.not_lt.2 c7)
           clear hL2 hL3 h5 ht c7 hsl x0 x1
           go_wp2_with (first | (at_lookup; refine wpList_lookup_own_ok_int _ rfl _ _ 87 rfl 2 2 .i64 xw_dw_law Try.underlying87 Try.underlying2 (xw_dw_zero _) w1.heap.size s.length (dOf s) rfl hM.out _ _ rfl hkey ?_; intro c hat hwc; rw [hhas]; clear hat hwc) | (at_len; refine wpList_len_own _ rfl _ 87 rfl 2 2 Try.underlying87 _ w1.heap.size s.length (dOf s) rfl hM.out ?_; rw [hsize]) | (at_mapUpdate; refine wpList_mapUpdate_own _ rfl _ _ _ 87 rfl 2 2 xw_dw_law Try.underlying87 _ w1.heap.size s.length _ rfl hM.out hml.out _ _ _ rfl rfl hkey _ [] hval ?_; intro w4 hown4 hgrow4; have hM4 := Aside0.mk hown4; have hG4 := Aside0.mk hgrow4; clear hown4 hgrow4) | (go_at_call 89; refine (hLt.out _).mono ?_; rintro e w5 ⟨rfl, hb5⟩; have hB5 := Aside0.mk hb5; clear hb5))
           go_roundg (C.length - (kk + 1))
           case measure => omega
           case rel =>
            have hB4 := hB.out.grown hG4.out hB.out.size (fun k_ hk_ => by injection hk_ with hk_; have := hW1.out; omega)
            have hO4 := Kd.R_step (w1 := w4) hO.out (fun k_ hk_ hlt_ => hG4.out.block k_ hlt_ (fun e_ => by injection e_ with e_; omega))
            exact ⟨kk + 1, x :: s, out ++ t, by omega, by omega, by first | rfl | rw [hw5.out], rfl, hL4, hN2, ⟨by have := hS.out; simp only [List.length_cons]; omega⟩, ⟨ownsMap_move hM4.out (hB5.out.block _ (ownsMap_lt hM4.out))⟩, ⟨Kd.R_below hO4 hB5.out⟩, ⟨below_then hB4 hB4.size hB5.out⟩, hW1⟩
          ·rw [if_neg c7] at hL3; cases hL3
      ·have hltz : ¬ (kk : Int) < (C.length : Int) := by omega
       have d1 := decide_eq_false hltz
       have hL2 := hL.out
       rw [List.drop_of_length_le (by omega)] at hL2
       simp only [dwL, Option.some.injEq, Prod.mk.injEq] at hL2
       obtain ⟨rfl, rfl⟩ := hL2
       clear hL
       go_wp2
       go_ret2
       exact ⟨rfl, hB.out⟩
    ·rw [if_neg hlen] at h; cases h


end Go.Proofs.Ytmihfmhfgjnfcab.Q

namespace Go.Proofs.Ytmihfmhfgjnfcab.Q
open Go.RowKit Go.Proofs.YtmihfmhfgjnfcabW.PrintWords Go.Proofs.YtmihfmhfgjnfcabW.PrintLast Go.Proofs.YtmihfmhfgjnfcabW.PrintMore
attribute [local go_sem] max2_int min2_int max_two min_two max_three min_three max_four min_four bn_leq bn_gtr bn_geq   -- for this text's walks alone
set_option linter.unusedVariables false
set_option linter.unusedSimpArgs false

/-! ### spec_l02Gcd: function 77 -/
def spec_l02Gcd.l0 : Nat → Int → Int → Option (Int)
 | 0, _, _ => none
 | k + 1, x0, x1 => if x1 > 0 then (if x1 = 0 then (none) else (spec_l02Gcd.l0 k x1 (Int.tmod x0 x1))) else (some x0)
def spec_l02Gcd.f (k : Nat) (a0 : Int) (a1 : Int) : Option (Int) := spec_l02Gcd.l0 k a0 a1
set_option maxHeartbeats 8000000 in
set_option maxRecDepth 100000 in
theorem spec_l02Gcd.calls (k : Nat) (a0 : Int) (a1 : Int) (r : Int) (w : World) (h : spec_l02Gcd.f k a0 a1 = some r) :
  Calls Try.prog 77 #[.int .i64 a0, .int .i64 a1] w fun e w' => e = .returned (.int .i64 r) ∧ Drawn0 w w' := by
 have H : (spec_l02Gcd.l0 k a0 a1) = some r := h
 clear h
 have H' := Aside0.mk H
 clear H
 go_enter Try.func77, Try.ntmps77
 go_wp2
 go_loopg [0, 1] k (fun kq v0 v1 w' => ∃ (x0_1 : Int) (x1_1 : Int), v0 = .int .i64 x0_1 ∧ v1 = .int .i64 x1_1 ∧ Aside0 (spec_l02Gcd.l0 kq x0_1 x1_1 = some r) ∧ Aside0 (kq ≤ k) ∧ Drawn0 w w')
 case atStart => exact ⟨(a0), (a1), (by first | rfl | (simp; done) | (simp [*]; done)), (by first | rfl | (simp; done) | (simp [*]; done)), H', ⟨Nat.le_refl _⟩, by repeat (first | exact Drawn0.refl _ | apply Drawn0.step)⟩
 case round =>
  clear H'
  try clear p2
  obtain ⟨x0_1, x1_1, rfl, rfl, HA, HK1, ⟨m1, rfl⟩⟩ := hrel
  cases gk with
  | zero => exact absurd HA.out (by simp [spec_l02Gcd.l0])
  | succ k1 =>
   have H := HA.out
   clear HA
   simp only [spec_l02Gcd.l0] at H
   by_cases c3 : x1_1 > 0
   ·rw [if_pos c3] at H
    have c3b0 : decide (0 < x1_1) = true := decide_eq_true c3
    clear c3
    by_cases c4 : x1_1 = 0
    ·rw [if_pos c4] at H
     exact absurd H (by simp)
    ·rw [if_neg c4] at H
     have c4b0 : (x1_1 == 0) = false := beq_eq_false_iff_ne.mpr c4
     have c4b1 : (x1_1 != 0) = true := bne_iff_ne.mpr c4
     have H' := Aside0.mk H
     clear H
     go_wp2
     go_roundg k1
     case measure => have := HK1.out; omega
     case rel => exact ⟨(x1_1), (Int.tmod x0_1 x1_1), (by first | rfl | (simp; done) | (simp [*]; done)), (by first | rfl | (simp; done) | (simp [*]; done)), H', ⟨by have := HK1.out; omega⟩, by repeat (first | exact Drawn0.refl _ | apply Drawn0.step)⟩
   ·rw [if_neg c3] at H
    have c3b0 : decide (0 < x1_1) = false := decide_eq_false c3
    clear c3
    obtain rfl := Option.some.inj H
    go_wp2
    go_ret
    exact ⟨by first | rfl | (simp; done) | (simp [*]; done), by repeat (first | exact Drawn0.refl _ | apply Drawn0.step)⟩

end Go.Proofs.Ytmihfmhfgjnfcab.Q

namespace Go.Proofs.Ytmihfmhfgjnfcab.Q
open Go.RowKit Go.Proofs.YtmihfmhfgjnfcabW.PrintWords Go.Proofs.YtmihfmhfgjnfcabW.PrintLast Go.Proofs.YtmihfmhfgjnfcabW.PrintMore
attribute [local go_sem] max2_int min2_int max_two min_two max_three min_three max_four min_four bn_leq bn_gtr bn_geq   -- for this text's walks alone
set_option linter.unusedVariables false
set_option linter.unusedSimpArgs false

/-! ### spec_l01In: function 90 -/
def spec_l01In.f (a0 : Int) (a1 : Int) (a2 : Int) : Option (Bool) := if a0 ≥ a1 then (some (decide (a0 ≤ a2))) else (some false)
set_option maxHeartbeats 8000000 in
set_option maxRecDepth 100000 in
theorem spec_l01In.calls (a0 : Int) (a1 : Int) (a2 : Int) (r : Bool) (w : World) (h : spec_l01In.f a0 a1 a2 = some r) :
  Calls Try.prog 90 #[.int .i64 a0, .int .i64 a1, .int .i64 a2] w fun e w' => e = .returned (.bool r) ∧ Drawn0 w w' := by
 have H : (if a0 ≥ a1 then (some (decide (a0 ≤ a2))) else (some false)) = some r := h
 clear h
 by_cases c4 : a0 ≥ a1
 ·rw [if_pos c4] at H
  have c4b0 : decide (a1 ≤ a0) = true := decide_eq_true c4
  clear c4
  obtain rfl := Option.some.inj H
  go_enter Try.func90, Try.ntmps90
  go_wp2
  go_ret
  exact ⟨by first | rfl | (simp; done) | (simp [*]; done), by repeat (first | exact Drawn0.refl _ | apply Drawn0.step)⟩
 ·rw [if_neg c4] at H
  have c4b0 : decide (a1 ≤ a0) = false := decide_eq_false c4
  clear c4
  obtain rfl := Option.some.inj H
  go_enter Try.func90, Try.ntmps90
  go_wp2
  go_ret
  exact ⟨by first | rfl | (simp; done) | (simp [*]; done), by repeat (first | exact Drawn0.refl _ | apply Drawn0.step)⟩

end Go.Proofs.Ytmihfmhfgjnfcab.Q
