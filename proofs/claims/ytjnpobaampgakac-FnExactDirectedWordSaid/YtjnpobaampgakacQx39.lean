-- Made by this session's program hyb.py out of Lean's print of the program; Lean checks it.
import Derived.Test.YtjnpobaampgakacQx0
import Derived.Test.YtjnpobaampgakacQx44
import Derived.Test.YtjnpobaampgakacQx66
import Derived.Test.YtjnpobaampgakacQx73
namespace Go.Proofs.Ytjnpobaampgakac.Q
open Go.RowKit Go.Proofs.YtjnpobaampgakacW.PrintWords Go.Proofs.YtjnpobaampgakacW.PrintLast Go.Proofs.YtjnpobaampgakacW.PrintMore
attribute [local go_sem] max2_int min2_int max_two min_two max_three min_three max_four min_four bn_leq bn_gtr bn_geq   -- for this text's walks alone
set_option linter.unusedVariables false
set_option linter.unusedSimpArgs false

/-! ### impl_DirectedWord: function 39 (this session's own) -/
def impl_DirectedWord.d (k : Nat) : List Int → ByteArray → Option (ByteArray × Int)
  | [], out => some (out, 0)
  | c :: l, out => (impl_closure.f k (out ++ strOfNums [c])).bind fun t => if t.size > 60 then some (⟨#[]⟩, 3) else impl_DirectedWord.d k l t
def impl_DirectedWord.f (k : Nat) (a0 : ByteArray) : Option (ByteArray × Int) := if isW a0 = true then impl_DirectedWord.d k (bytesOf a0) ⟨#[]⟩ else some (⟨#[]⟩, 1)
theorem impl_DirectedWord.mono_d (k : Nat) : ∀ l out, LeO (impl_DirectedWord.d k l out) (impl_DirectedWord.d (k + 1) l out)
  | [], out => LeO.refl _
  | c :: l, out => by
    unfold impl_DirectedWord.d
    exact LeO.bind (impl_closure.mono _ _) (fun t => LeO.ite (LeO.refl _) (impl_DirectedWord.mono_d k l t))
theorem impl_DirectedWord.mono : ∀ a0 k, LeO (impl_DirectedWord.f k a0) (impl_DirectedWord.f (k + 1) a0) := by
  intro a0 k
  unfold impl_DirectedWord.f
  exact LeO.ite (impl_DirectedWord.mono_d k _ _) (LeO.refl _)
theorem xw_str_one (W : World) (c : Int) : (convert 50 9 (.slice (some ⟨W.heap.size, 0, none⟩) 1 1)).run Try.prog (W.alloc (.cells #[.int .u8 c] 5)) = .ok (.string (strOfNums [c])) (W.alloc (.cells #[.int .u8 c] 5)) := by
  refine Kd.C_string Try.underlying50 Try.underlying5 Try.underlying9 (xs := [c]) ?_
  refine Kd.C_of_reads (d := (0 : Int)) (h1 := fun _ => rfl) ⟨rfl, by simp, fun _ => ⟨_, rfl, fun j hj => ?_⟩⟩
  obtain rfl : j = 0 := by omega
  rw [add_plain]
  simp [go_sem]
set_option maxHeartbeats 4000000 in
theorem impl_DirectedWord.calls (k : Nat) (a0 : ByteArray) (r1 : ByteArray) (r2 : Int) (w : World) (h : impl_DirectedWord.f k a0 = some (r1, r2)) :
    Calls Try.prog 39 #[.string a0] w fun e w' => e = .returned (.tuple #[.string r1, .int .i64 r2]) ∧ Below w.heap.size w w' := by
  unfold impl_DirectedWord.f at h
  obtain ⟨c, hc⟩ : ∃ c : Int, c = (if isW a0 then 0 else 1) := ⟨_, rfl⟩
  have hq : Calls Try.prog 44 #[.func (.func 45) #[] #[], .slice (some ⟨w.heap.size, 0, none⟩) 1 1] (w.alloc (.cells #[.string a0] 9)) fun e w' => e = .returned (.int .i64 c) ∧ Below w.heap.size w w' := by
    refine (impl_wordCode.calls () _ 1 [a0] c _ (xw_C_one _ w.heap.size a0 (by simp [go_sem])) (by simp) (by rw [hc]; unfold impl_wordCode.f; simp)).mono ?_
    rintro e w' ⟨rfl, hb⟩
    exact ⟨rfl, below_then ((Below.refl _ w).alloc (Nat.le_refl _) _) (by simp) hb⟩
  cases hw : isW a0 with
  | false =>
    rw [hw] at h hc
    obtain ⟨rfl, rfl⟩ : (⟨#[]⟩ : ByteArray) = r1 ∧ (1 : Int) = r2 := by simpa using h
    obtain rfl : c = 1 := by simpa using hc
    clear h hc hw
    go_enter Try.func39, Try.ntmps39
    go_wp2_with (go_at_call 44; refine hq.mono ?_; rintro e w' ⟨rfl, hb⟩; have hb' := Aside0.mk hb; clear hb)
    go_ret2
    exact ⟨rfl, hb'.out⟩
  | true =>
    rw [hw, if_pos rfl] at h
    rw [hw] at hc
    obtain rfl : c = 0 := by simpa using hc
    have s0 := isW_size hw
    have h' := Aside0.mk h
    clear hc hw h
    have hcv := fun W => xw_conv a0 W
    have hso := fun W c => xw_str_one W c
    go_enter Try.func39, Try.ntmps39
    go_wp2_with (go_at_call 44; refine hq.mono ?_; rintro e w1 ⟨rfl, hb⟩; have hb' := Aside0.mk hb; clear hb hq)
    have hB1 := Aside0.mk (below_then hb'.out hb'.out.size (xw_below_bytes w1 a0))
    have hcell : Aside0 (∀ W, Below (Lib.bytesWorld w1 5 a0).heap.size (Lib.bytesWorld w1 5 a0) W → ∀ j, j < a0.size → W.cell? ⟨w1.heap.size, j, none⟩ = some (.int .u8 (bt a0 j))) := ⟨fun W hW j hj => by
      rw [hW.cell (p := ⟨w1.heap.size, j, none⟩) (by rw [Lib.bytesWorld_size]; simp)]
      exact xw_cell_bytes w1 a0 j hj⟩
    clear hcv
    generalize Lib.bytesWorld w1 5 a0 = W1 at *
    go_loopg [5, 17] a0.size (fun gg v5 v17 wr => ∃ (kk : Nat) (out : ByteArray), kk ≤ a0.size ∧ a0.size - kk ≤ gg ∧ v5 = .string out ∧ v17 = .int .i64 kk ∧ Aside0 (impl_DirectedWord.d k ((bytesOf a0).drop kk) out = some (r1, r2)) ∧ Aside0 (out.size ≤ 60) ∧ Aside0 (Below W1.heap.size W1 wr))
    case atStart => exact ⟨0, ⟨#[]⟩, Nat.zero_le _, by omega, rfl, rfl, h', ⟨by decide⟩, ⟨Below.refl _ _⟩⟩
    case round =>
      clear h'
      obtain ⟨kk, out, hkk, hg, rfl, rfl, hd, hsz, hBr⟩ := hrel
      by_cases hlt : kk < a0.size
      · have hltz : (kk : Int) < (a0.size : Int) := by omega
        have hc1 := hcell.out wr hBr.out kk hlt
        have hd2 := hd.out
        rw [drop_bytes a0 kk hlt] at hd2
        simp only [impl_DirectedWord.d] at hd2
        obtain ⟨t, ht, hd3⟩ := Option.bind_eq_some_iff.mp hd2
        have ht' := Aside0.mk ht
        have hl1 : (strOfNums [bt a0 kk]).size = 1 := rfl
        have k0 : out.size + (strOfNums [bt a0 kk]).size ≤ 9223372036854775807 := by have := hsz.out; omega
        have k1 := eq_true k0
        have k2 := decide_eq_true k0
        have k3 := eq_false (Nat.not_lt.2 k0)
        clear hd2 ht hl1 k0 hd
        generalize hgx : strOfNums [bt a0 kk] = x at *
        have hso' := fun W => hso W (bt a0 kk)
        rw [hgx] at hso'
        clear hgx hso
        have hcal : ∀ W : World, Calls Try.prog 66 #[.string (out ++ x)] W fun e w' => e = .returned (.string t) ∧ Below W.heap.size W w' := fun W => (impl_closure.calls k (out ++ x) t W ht'.out).mono fun e w' z => ⟨z.1, by first | exact z.2 | exact z.2.below⟩
        by_cases h60 : t.size > 60
        · rw [if_pos h60] at hd3
          obtain ⟨rfl, rfl⟩ : (⟨#[]⟩ : ByteArray) = r1 ∧ (3 : Int) = r2 := by simpa using hd3
          have t1 : (60 : Int) < t.size := by omega
          have t2 := decide_eq_true t1
          have t3 := decide_eq_true h60
          clear hd3 h60
          go_wp2_with (go_at_call 66; refine (hcal _).mono ?_; rintro e w2 ⟨rfl, hb2⟩; have hb2' := Aside0.mk hb2; clear hb2)
          go_ret2
          exact ⟨rfl, below_then hB1.out hB1.out.size (below_then hBr.out hBr.out.size (below_then ((Below.refl _ wr).alloc (Nat.le_refl _) _) (by simp) hb2'.out))⟩
        · rw [if_neg h60] at hd3
          have t1 : ¬ (60 : Int) < t.size := by omega
          have t2 := decide_eq_false t1
          have t3 := decide_eq_false h60
          have hd4 := Aside0.mk hd3
          have h60' := Aside0.mk (Nat.not_lt.mp h60)
          clear hd3 h60
          go_wp2_with (go_at_call 66; refine (hcal _).mono ?_; rintro e w2 ⟨rfl, hb2⟩; have hb2' := Aside0.mk hb2; clear hb2)
          go_roundg (a0.size - (kk + 1))
          case measure => omega
          case rel => exact ⟨kk + 1, t, by omega, by omega, rfl, by go_num, hd4, h60', ⟨below_then hBr.out hBr.out.size (below_then ((Below.refl _ wr).alloc (Nat.le_refl _) _) (by simp) hb2'.out)⟩⟩
      · have hltz : ¬ (kk : Int) < (a0.size : Int) := by omega
        have hd2 := hd.out
        rw [drop_bytes_end a0 kk (by omega)] at hd2
        simp only [impl_DirectedWord.d] at hd2
        obtain ⟨rfl, rfl⟩ : out = r1 ∧ (0 : Int) = r2 := by simpa using hd2
        clear hd2 hd
        go_wp2
        go_ret2
        exact ⟨rfl, below_then hB1.out hB1.out.size hBr.out⟩


end Go.Proofs.Ytjnpobaampgakac.Q
