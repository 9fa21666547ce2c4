-- Made by this session's program hyb.py out of Lean's print of the program; Lean checks it.
import Derived.Test.YtmihfmhfgjnfcaaQx0
import Derived.Test.YtmihfmhfgjnfcaaQx109
namespace Go.Proofs.Ytmihfmhfgjnfcaa.Q
open Go.RowKit Go.Proofs.YtmihfmhfgjnfcaaW.PrintWords Go.Proofs.YtmihfmhfgjnfcaaW.PrintLast Go.Proofs.YtmihfmhfgjnfcaaW.PrintMore
attribute [local go_sem] max2_int min2_int max_two min_two max_three min_three max_four min_four bn_leq bn_gtr bn_geq   -- for this text's walks alone
set_option linter.unusedVariables false
set_option linter.unusedSimpArgs false

/-! ### impl_wordCode: function 57 (this session's own) -/
set_option maxHeartbeats 2000000 in
/-- slices.IndexFunc over strings, for whatever predicate (it may make memory of its own). -/
theorem xw_IndexFunc_str (p : ByteArray → Bool) (g : Nat) (lb : Array Value) (eg : ∀ args w, (callFunc g args).run Try.prog w = .ok (.enter g args) w) (A : Option Addr) (c : Nat) (l : List ByteArray) (w : World)
    (hr : Kd.C Kd.string w A l.length l) (hc : l.length ≤ c)
    (hp : ∀ (W : World) (x : ByteArray), x ∈ l → Below w.heap.size w W → Calls Try.prog g (#[.string x] ++ lb) W fun e w' => e = .returned (.bool (p x)) ∧ Below W.heap.size W w') :
    Calls Try.prog 148 #[.slice A l.length c, .func (.func g) #[] lb] w fun e w' => e = .returned (.int .i64 (idxL p l)) ∧ Below w.heap.size w w' := by
  have hbig : l.length ≤ 9223372036854775807 := hr.2.1
  have hreads : Aside0 (∀ W, Below w.heap.size w W → ∀ j, j < l.length → ∃ ad, A = some ad ∧ W.cell? (ad.add j) = some (.string (rdOf ByteArray.empty l j))) := ⟨fun W hW j hj => by
    obtain ⟨ad, e, hcl⟩ := Kd.at_string (Kd.C_below hr hW) (j : Int) (by omega) (by omega)
    exact ⟨ad, e, by simpa using hcl⟩⟩
  have hp' := Aside0.mk hp
  clear hp hr
  go_enter Try.func148, Try.ntmps148
  go_wp2
  go_loopg [5, 8] l.length (fun gg _ s8 wr => ∃ kk : Nat, kk ≤ l.length ∧ l.length - kk ≤ gg ∧ s8 = .int .i64 kk ∧ Aside0 (Below w.heap.size w wr) ∧ Aside0 (∀ j, j < kk → p (rdOf ByteArray.empty l j) = false))
  case atStart => exact ⟨0, Nat.zero_le _, by omega, rfl, ⟨Below.refl _ w⟩, ⟨fun j hj => absurd hj (Nat.not_lt_zero _)⟩⟩
  case round =>
    obtain ⟨kk, hkk, hg, rfl, BW, A0⟩ := hrel
    by_cases hlt : kk < l.length
    · have hltz : (kk : Int) < (l.length : Int) := by omega
      obtain ⟨ad, rfl, hcell⟩ := hreads.out wr BW.out kk hlt
      have hmem : rdOf ByteArray.empty l kk ∈ l := by simp [rdOf, List.getD_eq_getElem?_getD, hlt]
      have hcall := hp'.out wr (rdOf ByteArray.empty l kk) hmem BW.out
      have hb' := Aside0.mk (show True from trivial)
      cases hq : p (rdOf ByteArray.empty l kk) with
      | true =>
        rw [hq] at hcall
        have hq' := Aside0.mk hq
        clear hq
        go_wp2_with (go_at_fn g; refine hcall.mono ?_; rintro e w' ⟨rfl, hb'⟩)
        go_ret
        refine ⟨?_, below_then BW.out BW.out.size hb'⟩
        rw [idxL_hit p l ByteArray.empty kk hlt hq'.out A0.out]; rfl
      | false =>
        rw [hq] at hcall
        have hq' := Aside0.mk hq
        clear hq
        go_wp2_with (go_at_fn g; refine hcall.mono ?_; rintro e w' ⟨rfl, hb'⟩)
        go_roundg (l.length - (kk + 1))
        case measure => omega
        case rel =>
          refine ⟨kk + 1, by omega, by omega, by go_num, ⟨below_then BW.out BW.out.size hb'⟩, ⟨fun j hj => ?_⟩⟩
          by_cases e : j = kk
          · subst e; exact hq'.out
          · exact A0.out j (by omega)
    · have hltz : ¬ (kk : Int) < (l.length : Int) := by omega
      have : kk = l.length := by omega
      subst this
      go_wp2
      go_ret
      refine ⟨?_, BW.out⟩
      rw [idxL_miss p l ByteArray.empty A0.out]; rfl

set_option maxHeartbeats 2000000 in
theorem xw_ContainsFunc_str (p : ByteArray → Bool) (g : Nat) (lb : Array Value) (eg : ∀ args w, (callFunc g args).run Try.prog w = .ok (.enter g args) w) (A : Option Addr) (c : Nat) (l : List ByteArray) (w : World)
    (hr : Kd.C Kd.string w A l.length l) (hc : l.length ≤ c)
    (hp : ∀ (W : World) (x : ByteArray), x ∈ l → Below w.heap.size w W → Calls Try.prog g (#[.string x] ++ lb) W fun e w' => e = .returned (.bool (p x)) ∧ Below W.heap.size W w') :
    Calls Try.prog 130 #[.slice A l.length c, .func (.func g) #[] lb] w fun e w' => e = .returned (.bool (l.any p)) ∧ Below w.heap.size w w' := by
  rw [← idxL_any]
  have hC := xw_IndexFunc_str p g lb eg A c l w hr hc hp
  clear hp hr
  go_enter Try.func130, Try.ntmps130
  go_wp2_with (go_at_call 148; refine hC.mono ?_; rintro e w' ⟨rfl, hb⟩)
  go_ret
  exact ⟨rfl, hb⟩


set_option maxHeartbeats 2000000 in
/-- areAll over strings, for whatever predicate that captures nothing. -/
theorem xw_areAll_str (p : ByteArray → Bool) (G : Nat) (eG : ∀ args w, (callFunc G args).run Try.prog w = .ok (.enter G args) w) (A : Option Addr) (c : Nat) (l : List ByteArray) (w : World)
    (hr : Kd.C Kd.string w A l.length l) (hc : l.length ≤ c)
    (hp : ∀ (W : World) (x : ByteArray), x ∈ l → Below w.heap.size w W → Calls Try.prog G #[.string x] W fun e w' => e = .returned (.bool (p x)) ∧ Below W.heap.size W w') :
    Calls Try.prog 108 #[.slice A l.length c, .func (.func G) #[] #[]] w fun e w' => e = .returned (.bool (l.all p)) ∧ Below w.heap.size w w' := by
  have hC : Aside0 (∀ (W : World), Below w.heap.size w W → w.heap.size < W.heap.size → W.cell? ⟨w.heap.size, 0, none⟩ = some (.func (.func G) #[] #[]) →
      Calls Try.prog 130 #[.slice A l.length c, .func (.func 131) #[] #[.pointer (some ⟨w.heap.size, 0, none⟩)]] W fun e w' => e = .returned (.bool (l.any fun x => !p x)) ∧ Below W.heap.size W w') := ⟨fun W hW hlt hcell => by
    refine xw_ContainsFunc_str (fun x => !p x) 131 _ (enters_of Try.func131 (by kernel_rfl) rfl) A c l W (Kd.C_below hr hW) hc (fun W2 x hx h2 => ?_)
    have h02 : Below w.heap.size w W2 := hW.trans (h2.mono (Nat.le_of_lt hlt))
    have hcell2 : W2.cell? ⟨w.heap.size, 0, none⟩ = some (.func (.func G) #[] #[]) := (h2.cell (p := ⟨w.heap.size, 0, none⟩) hlt).trans hcell
    have hcall := hp W2 x hx h02
    have h2' := Aside0.mk h2
    clear hr hp hcell h2 h02 hW
    go_enter Try.func131, Try.ntmps131
    go_wp2_with (go_at_fn G; refine hcall.mono ?_; rintro e w' ⟨rfl, hb⟩)
    go_ret
    exact ⟨rfl, hb⟩⟩
  clear hp hr
  rw [← not_any_not]
  go_enter Try.func108, Try.ntmps108
  have hmk := xw_mkf
  go_wp2_with (go_at_call 130; refine (hC.out _ ((Below.refl _ _).alloc (Nat.le_refl _) _) (by simp) (by simp)).mono ?_; rintro e w' ⟨rfl, hb⟩)
  go_ret
  exact ⟨rfl, ((Below.refl _ w).alloc (Nat.le_refl _) _).trans (hb.mono (by simp))⟩

set_option maxHeartbeats 2000000 in
/-- wordCode, whatever the range is (it may have captured variables). -/
theorem xw_wordCode (b : Bool) (g : Nat) (lb : Array Value) (eg : ∀ args w, (callFunc g args).run Try.prog w = .ok (.enter g args) w) (A : Option Addr) (c : Nat) (l : List ByteArray) (w : World)
    (hr : Kd.C Kd.string w A l.length l) (hc : l.length ≤ c)
    (hp : ∀ (W : World), Below w.heap.size w W → Calls Try.prog g lb W fun e w' => e = .returned (.bool b) ∧ Below W.heap.size W w') :
    Calls Try.prog 57 #[.func (.func g) #[] lb, .slice A l.length c] w fun e w' => e = .returned (.int .i64 (if l.all isW then (if b then 0 else 2) else 1)) ∧ Below w.heap.size w w' := by
  have hC := xw_areAll_str isW 109 (enters_of Try.func109 (by kernel_rfl) rfl) A c l w hr hc (fun W x _ _ => impl_IsWord.calls x (isW x) W rfl)
  have hp' := Aside0.mk hp
  clear hp hr
  cases ha : l.all isW with
  | false =>
    rw [ha] at hC
    clear ha
    go_enter Try.func57, Try.ntmps57
    go_wp2_with (go_at_call 108; refine hC.mono ?_; rintro e w' ⟨rfl, hb⟩)
    go_ret
    exact ⟨rfl, hb⟩
  | true =>
    rw [ha] at hC
    clear ha
    cases b with
    | true =>
      go_enter Try.func57, Try.ntmps57
      go_wp2_with (first | (go_at_call 108; refine hC.mono ?_; rintro e w1 ⟨rfl, hb⟩; have hb1 := Aside0.mk hb; have hq := hp'.out _ hb; clear hb) | (go_at_fn g; refine hq.mono ?_; rintro e w2 ⟨rfl, hb2⟩))
      go_ret
      exact ⟨rfl, below_then hb1.out hb1.out.size hb2⟩
    | false =>
      go_enter Try.func57, Try.ntmps57
      go_wp2_with (first | (go_at_call 108; refine hC.mono ?_; rintro e w1 ⟨rfl, hb⟩; have hb1 := Aside0.mk hb; have hq := hp'.out _ hb; clear hb) | (go_at_fn g; refine hq.mono ?_; rintro e w2 ⟨rfl, hb2⟩))
      go_ret
      exact ⟨rfl, below_then hb1.out hb1.out.size hb2⟩
/-- wordCode where the range is 'always'. -/
def impl_wordCode.f (_ : Unit) (l1 : List ByteArray) : Option Int := some (if l1.all isW then 0 else 1)
theorem impl_wordCode.calls (u : Unit) (A1 : Option Addr) (c1 : Nat) (l1 : List ByteArray) (r : Int) (w : World) (hr1 : Kd.C Kd.string w A1 l1.length l1) (hc1 : l1.length ≤ c1) (h : impl_wordCode.f u l1 = some r) :
    Calls Try.prog 57 #[.func (.func 73) #[] #[], .slice A1 l1.length c1] w fun e w' => e = .returned (.int .i64 r) ∧ Below w.heap.size w w' := by
  obtain rfl := Option.some.inj h
  exact xw_wordCode true 73 #[] (enters_of Try.func73 (by kernel_rfl) rfl) A1 c1 l1 w hr1 hc1 fun W _ => by
    go_enter Try.func73, Try.ntmps73
    go_wp2
    go_ret
    exact ⟨rfl, Below.refl _ _⟩


end Go.Proofs.Ytmihfmhfgjnfcaa.Q
