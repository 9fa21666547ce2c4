-- Made by this session's program hyb.py out of Lean's print of the program; Lean checks it.
import Derived.Test.YtmihfmhfgjnfcaaQx0
import Derived.Test.YtmihfmhfgjnfcaaQx18
import Derived.Test.YtmihfmhfgjnfcaaQx69
import Derived.Test.YtmihfmhfgjnfcaaQx70
import Derived.Test.YtmihfmhfgjnfcaaQx71
import Derived.Maps.OwnSet
import Derived.Maps.OwnOps
namespace Go.Proofs.Ytmihfmhfgjnfcaa.Q
open Go.RowKit Go.Proofs.YtmihfmhfgjnfcaaW.PrintWords Go.Proofs.YtmihfmhfgjnfcaaW.PrintLast Go.Proofs.YtmihfmhfgjnfcaaW.PrintMore
attribute [local go_sem] max2_int min2_int max_two min_two max_three min_three max_four min_four bn_leq bn_gtr bn_geq   -- for this text's walks alone
set_option linter.unusedVariables false
set_option linter.unusedSimpArgs false

/-! ### impl_DoubleWord: function 22 (this session's own) -/
-- IMPORT Derived.Maps.OwnSet
-- IMPORT Derived.Maps.OwnOps
open Go.Maps
/-- which letter a class has: s: the classes that were met, the last one first -/
def ownOf : List Int → Int → Int
  | [], _ => 0
  | y :: r, x => if y = x then (r.length : Int) else ownOf r x
def dOf : List Int → DataW Unit
  | [] => .map []
  | x :: r => (dOf r).put (.int .i64 x) (.lit (.int .i64 (r.length : Int)))
theorem keyLit (x : Int) : WideAt.IsKeyLit (.int .i64 x) := by first | exact ⟨_, _, rfl⟩ | (unfold WideAt.IsKeyLit; simp) | trivial
theorem dOf_tidy : ∀ s : List Int, Tidy (dOf s)
  | [] => tidy_empty
  | x :: r => (dOf_tidy r).put (keyLit x) _
theorem dOf_has : ∀ (s : List Int) (x : Int), Maps.has (dOf s) (.int .i64 x) = s.contains x
  | [], x => rfl
  | y :: r, x => by
    unfold dOf
    by_cases h : x = y
    · subst h
      rw [has_put_same (dOf_tidy r).isMap (keyLit x)]; simp
    · rw [has_put_other (fun e => h (by injection e)), dOf_has r x]
      simp [h]
theorem dOf_at : ∀ (s : List Int) (x : Int) (z : DataW Unit), s.contains x = true → (dOf s).atKey (.int .i64 x) z = .lit (.int .i64 (ownOf s x))
  | [], x, z, h => by simp at h
  | y :: r, x, z, h => by
    unfold dOf ownOf
    by_cases e : y = x
    · subst e
      rw [atKey_put_same (dOf_tidy r).isMap (keyLit y), if_pos rfl]
    · rw [atKey_put_other (fun e2 => e (by injection e2 with _ e3; exact e3.symm)), if_neg e]
      exact dOf_at r x z (by
        rw [List.contains_cons] at h
        have : (x == y) = false := beq_eq_false_iff_ne.mpr (fun e2 => e e2.symm)
        rw [this] at h
        simpa using h)
theorem dOf_size : ∀ s : List Int, s.Nodup → Maps.size (dOf s) = s.length
  | [], _ => rfl
  | x :: r, h => by
    rw [List.nodup_cons] at h
    unfold dOf
    rw [size_put (dOf_tidy r), dOf_has, if_neg (by simpa using h.1), dOf_size r h.2]; rfl
theorem ownsMap_move {w w' : World} {k : TypeId} {R : Value → Option (DataW Unit × List MemPlace)} {b n : Nat} {D : DataW Unit} (h : w.ownsMap Try.prog k R b n D) (hm : w'.heap[b]? = w.heap[b]?) : w'.ownsMap Try.prog k R b n D := by
  obtain ⟨es, clock, hb, r⟩ := h
  exact ⟨es, clock, hm.trans hb, r⟩
theorem ownsMap_lt {w : World} {k : TypeId} {R : Value → Option (DataW Unit × List MemPlace)} {b n : Nat} {D : DataW Unit} (h : w.ownsMap Try.prog k R b n D) : b < w.heap.size := by
  obtain ⟨es, clock, hb, r⟩ := h
  exact blk_lt hb
/-- the loop over the classes -/
def dwL : List Int → List Int → ByteArray → Option (ByteArray × Int)
  | [], _, out => some (out, 0)
  | x :: l, s, out => if inR x (-1000000) 1000000 = true then (if s.contains x = true then (if ownOf s x ≥ 5 then some (⟨#[]⟩, 3) else (impl_letter.f (ownOf s x)).bind fun t => if out.size + t.size ≤ 9223372036854775807 then dwL l s (out ++ t) else none) else (if (s.length : Int) ≥ 5 then some (⟨#[]⟩, 3) else (impl_letter.f (s.length : Int)).bind fun t => if out.size + t.size ≤ 9223372036854775807 then dwL l (x :: s) (out ++ t) else none)) else none
def impl_DoubleWord.f (k : Nat) (a0 a1 : Int) : Option (ByteArray × Int) := if (inR a0 1 60 && inR a1 1 60) = true then ((impl_doubleLength.f k a0 a1).bind fun n => if n > 60 then some (⟨#[]⟩, 3) else (impl_classes.f k n a0 a1).bind fun C => if C.length ≤ 1000000 then dwL C [] ⟨#[]⟩ else none) else some (⟨#[]⟩, 2)
theorem impl_DoubleWord.mono : ∀ a0 a1 k, LeO (impl_DoubleWord.f k a0 a1) (impl_DoubleWord.f (k + 1) a0 a1) := by
  intro a0 a1 k
  unfold impl_DoubleWord.f
  exact LeO.ite (LeO.bind (impl_doubleLength.mono _ _ _) fun _ => LeO.ite (LeO.refl _) (LeO.bind (impl_classes.mono _ _ _ _) fun _ => LeO.refl _)) (LeO.refl _)

theorem xw_dw_law : Keyed Try.prog 2 := int_keyed Try.underlying2
theorem dOf_lit {D : DataW Unit} {a b : Int} (h1 : D = .lit (.int .i64 a)) (h2 : D = .lit (.int .i64 b)) : b = a := by
  have := h2.symm.trans h1; injection this with this; injection this with _ this
theorem xw_dw_zero (w : World) : (zeroValue 2).run Try.prog w = .ok (.int .i64 0) w := by kernel_rfl
set_option maxHeartbeats 8000000 in
theorem impl_DoubleWord.calls (k : Nat) (a0 a1 : Int) (r1 : ByteArray) (r2 : Int) (w : World) (h : impl_DoubleWord.f k a0 a1 = some (r1, r2)) :
    Calls Try.prog 22 #[.int .i64 a0, .int .i64 a1] w fun e w' => e = .returned (.tuple #[.string r1, .int .i64 r2]) ∧ Below w.heap.size w w' := by
  unfold impl_DoubleWord.f at h
  have hI0 := fun W => xw_within a0 1 60 W
  have hI1 := fun W => xw_within a1 1 60 W
  cases h0 : inR a0 1 60 with
  | false =>
    rw [h0] at h hI0
    obtain ⟨rfl, rfl⟩ : (⟨#[]⟩ : ByteArray) = r1 ∧ (2 : Int) = r2 := by simpa using h
    clear h h0 hI1
    go_enter Try.func22, Try.ntmps22
    go_wp2_with (go_at_call 62; refine (hI0 _).mono ?_; rintro e w' ⟨rfl, rfl⟩)
    go_ret2
    exact ⟨rfl, Below.refl _ _⟩
  | true =>
    cases h1 : inR a1 1 60 with
    | false =>
      rw [h0, h1] at h
      rw [h0] at hI0
      rw [h1] at hI1
      obtain ⟨rfl, rfl⟩ : (⟨#[]⟩ : ByteArray) = r1 ∧ (2 : Int) = r2 := by simpa using h
      clear h h0 h1
      have tok := Aside0.mk hI0
      clear hI0
      go_enter Try.func22, Try.ntmps22
      go_wp2_with (first | (go_at_call 62; have hI0 := tok.out; clear tok; refine (hI0 _).mono ?_; rintro e w' ⟨rfl, rfl⟩; clear hI0) | (go_at_call 62; refine (hI1 _).mono ?_; rintro e w' ⟨rfl, rfl⟩))
      go_ret2
      exact ⟨rfl, Below.refl _ _⟩
    | true =>
      rw [h0, h1] at h
      rw [h0] at hI0
      rw [h1] at hI1
      rw [Bool.and_self, if_pos rfl] at h
      obtain ⟨n, hn, h⟩ := Option.bind_eq_some_iff.mp h
      have cN := Aside0.mk (fun W => impl_doubleLength.calls k a0 a1 n W hn)
      clear hn h0 h1
      have tok := Aside0.mk hI0
      clear hI0
      by_cases hbig : n > 60
      · rw [if_pos hbig] at h
        obtain ⟨rfl, rfl⟩ : (⟨#[]⟩ : ByteArray) = r1 ∧ (3 : Int) = r2 := by simpa using h
        have c1 : decide (60 < n) = true := decide_eq_true hbig
        clear h hbig
        go_enter Try.func22, Try.ntmps22
        go_wp2_with (first | (go_at_call 62; have hI0 := tok.out; clear tok; refine (hI0 _).mono ?_; rintro e w' ⟨rfl, rfl⟩; clear hI0) | (go_at_call 62; refine (hI1 _).mono ?_; rintro e w' ⟨rfl, rfl⟩) | (go_at_call 69; refine (cN.out _).mono ?_; rintro e w1 ⟨rfl, hd⟩; have hb1 := Aside0.mk hd.below; clear hd))
        go_ret2
        exact ⟨rfl, hb1.out⟩
      · rw [if_neg hbig] at h
        obtain ⟨C, hC, h⟩ := Option.bind_eq_some_iff.mp h
        by_cases hlen : C.length ≤ 1000000
        · rw [if_pos hlen] at h
          have cC := Aside0.mk (fun W => impl_classes.calls k n a0 a1 C W hC)
          have c1 : decide (60 < n) = false := decide_eq_false hbig
          have hL := Aside0.mk h
          have hlen' := Aside0.mk hlen
          have hmm := @run_makeMap Try.prog
          clear h hbig hC hlen
          go_enter Try.func22, Try.ntmps22
          go_wp2_with (first | (go_at_call 62; have hI0 := tok.out; clear tok; refine (hI0 _).mono ?_; rintro e w' ⟨rfl, rfl⟩; clear hI0) | (go_at_call 62; refine (hI1 _).mono ?_; rintro e w' ⟨rfl, rfl⟩) | (go_at_call 69; refine (cN.out _).mono ?_; rintro e w1 ⟨rfl, hd⟩; have hb1 := Aside0.mk hd.below; clear hd) | (go_at_call 70; refine (cC.out _).mono ?_; rintro e w2 ⟨v, rfl, ho, hb⟩; obtain ⟨A2, c2, rfl⟩ := Kd.R_slice ho; have hM0 := Aside0.mk (ownsMap_move (World.ownsMap_made w1 Try.prog 2 (plainElem (H := Unit) Try.prog 2)) (hb.block w1.heap.size (by simp))); have hB2 := Aside0.mk (below_then (hb1.out.alloc hb1.out.size (.map #[] 0)) (by have := hb1.out.size; simp; omega) hb); have hO := Aside0.mk (Kd.R_mono (ok' := fun k_ => w1.heap.size < k_) (Kd.R_bound ho) (fun k_ hk => by have := hk.2.1; simp at this; omega)); clear ho hb))
          go_loopg [8, 10, 11, 12, 32] C.length (fun gg v8 v10 v11 v12 v32 wr => ∃ (kk : Nat) (s : List Int) (out : ByteArray), kk ≤ C.length ∧ C.length - kk ≤ gg ∧ v32 = .int .i64 kk ∧ v8 = .string out ∧ Aside0 (dwL (C.drop kk) s out = some (r1, r2)) ∧ Aside0 (s.Nodup) ∧ Aside0 (s.length ≤ kk) ∧ Aside0 (wr.ownsMap Try.prog 2 (plainElem Try.prog 2) w1.heap.size s.length (dOf s)) ∧ Aside0 (Kd.R (Kd.int .i64) 2 wr (w1.alloc (.map #[] 0)).heap.size (fun k_ => w1.heap.size < k_) (.slice A2 C.length c2) C) ∧ Aside0 (Below w'.heap.size w' wr) ∧ Aside0 (w'.heap.size ≤ w1.heap.size))
          case atStart => exact ⟨0, [], ⟨#[]⟩, Nat.zero_le _, by omega, rfl, rfl, hL, ⟨List.nodup_nil⟩, ⟨Nat.le_refl _⟩, hM0, hO, hB2, ⟨hb1.out.size⟩⟩
          case round =>
            clear hL hM0 hO hB2 hb1
            obtain ⟨kk, s, out, hkk, hgg, rfl, rfl, hL, hN, hS, hM, hO, hB, hW1⟩ := hrel
            have hlen2 := hlen'.out
            by_cases hlt : kk < C.length
            · have hltz : (kk : Int) < (C.length : Int) := by omega
              have d1 := decide_eq_true hltz
              have d2 := eq_true (show (0 : Int) ≤ (kk : Int) by omega)
              have d3 := eq_true hltz
              have d4 := eq_true hlt
              obtain ⟨_, _, hCC⟩ := Kd.R_reads' hO.out
              obtain ⟨ad, rfl, hcell⟩ := Kd.at_int hCC (kk : Int) (by omega) hltz
              rw [Int.toNat_natCast] at hcell
              obtain ⟨x, hx⟩ : ∃ x, x = rd C (kk : Int) := ⟨_, rfl⟩
              rw [← hx] at hcell
              have hL2 := hL.out
              rw [show C.drop kk = x :: C.drop (kk + 1) by rw [hx, List.drop_eq_getElem_cons hlt]; congr 1; unfold rd; simp [List.getD_eq_getElem?_getD, hlt]] at hL2
              simp only [dwL] at hL2
              have hw5 := Aside0.mk (show wrap64 ((kk : Int) + 1) = ((kk + 1 : Nat) : Int) by rw [w64 (by omega) (by omega)]; rfl)
              cases hr : inR x (-1000000) 1000000 with
              | false => rw [hr, if_neg (by decide)] at hL2; cases hL2
              | true =>
                rw [hr, if_pos rfl] at hL2
                obtain ⟨x0, x1⟩ := inR_true hr
                have hkey := keyOf_int_mk Try.underlying2 (WalkArith.wf_i64 (n := x) (by omega))
                have hsl := hS.out
                clear hL hx hr hCC
                cases hc : s.contains x with
                | true =>
                  rw [hc, if_pos rfl] at hL2
                  have hat0 := Aside0.mk (fun z => dOf_at s x z hc)
                  have hhas : Maps.has (dOf s) (.int .i64 x) = true := by rw [dOf_has, hc]
                  obtain ⟨o, ho⟩ : ∃ o, o = ownOf s x := ⟨_, rfl⟩
                  rw [← ho] at hL2 hat0
                  clear ho hc
                  by_cases h5 : o ≥ 5
                  · rw [if_pos h5] at hL2
                    obtain ⟨rfl, rfl⟩ : (⟨#[]⟩ : ByteArray) = r1 ∧ (3 : Int) = r2 := by simpa using hL2
                    have e1 := decide_eq_true (show (5 : Int) ≤ o by omega)
                    clear hL2 h5 hsl x0 x1
                    go_wp2_with (at_lookup; refine wpList_lookup_own_ok_int _ rfl _ _ 68 rfl 2 2 .i64 xw_dw_law Try.underlying68 Try.underlying2 (xw_dw_zero _) w1.heap.size s.length (dOf s) rfl hM.out _ _ rfl hkey ?_; intro c hat hwc; have ec : c = o := dOf_lit (hat0.out _) hat; rw [hhas]; subst ec; clear hat hwc)
                    go_ret2
                    exact ⟨rfl, hB.out⟩
                  · rw [if_neg h5] at hL2
                    obtain ⟨t, ht, hL3⟩ := Option.bind_eq_some_iff.mp hL2
                    by_cases c7 : out.size + t.size ≤ 9223372036854775807
                    · rw [if_pos c7] at hL3
                      have hL4 := Aside0.mk hL3
                      have e1 := decide_eq_false (show ¬ (5 : Int) ≤ o by omega)
                      have hLt := Aside0.mk (fun W => impl_letter.calls o t W ht)
                      have c7b := decide_eq_true c7
                      have c7c : (9223372036854775807 < out.size + t.size) = False := eq_false (Nat.not_lt.2 c7)
                      clear hL2 hL3 h5 ht c7 hsl x0 x1
                      go_wp2_with (first | (at_lookup; refine wpList_lookup_own_ok_int _ rfl _ _ 68 rfl 2 2 .i64 xw_dw_law Try.underlying68 Try.underlying2 (xw_dw_zero _) w1.heap.size s.length (dOf s) rfl hM.out _ _ rfl hkey ?_; intro c hat hwc; have ec : c = o := dOf_lit (hat0.out _) hat; rw [hhas]; subst ec; clear hat hwc) | (go_at_call 71; refine (hLt.out _).mono ?_; rintro e w3 ⟨rfl, hb3⟩; have hB3 := Aside0.mk hb3; clear hb3))
                      go_roundg (C.length - (kk + 1))
                      case measure => omega
                      case rel => exact ⟨kk + 1, s, out ++ t, by omega, by omega, by first | rfl | rw [hw5.out], rfl, hL4, hN, ⟨by have := hS.out; omega⟩, ⟨ownsMap_move hM.out (hB3.out.block _ (ownsMap_lt hM.out))⟩, ⟨Kd.R_below hO.out hB3.out⟩, ⟨below_then hB.out hB.out.size hB3.out⟩, hW1⟩
                    · rw [if_neg c7] at hL3; cases hL3
                | false =>
                  rw [hc, if_neg (by decide)] at hL2
                  have hhas : Maps.has (dOf s) (.int .i64 x) = false := by rw [dOf_has, hc]
                  have hsize := dOf_size s hN.out
                  have hN2 := Aside0.mk (show (x :: s).Nodup from List.nodup_cons.mpr ⟨by simpa using hc, hN.out⟩)
                  have hwf := WalkArith.wf_i64 (n := (s.length : Int)) (by omega)
                  have hval := plainElem_int (H := Unit) Try.underlying2 hwf
                  have hml := Aside0.mk (show s.length < maxLen by unfold maxLen; omega)
                  clear hc hwf
                  by_cases h5 : (s.length : Int) ≥ 5
                  · rw [if_pos h5] at hL2
                    obtain ⟨rfl, rfl⟩ : (⟨#[]⟩ : ByteArray) = r1 ∧ (3 : Int) = r2 := by simpa using hL2
                    have e1 := decide_eq_true (show (5 : Int) ≤ (s.length : Int) by omega)
                    have e2 := decide_eq_true (show 5 ≤ s.length by omega)
                    clear hL2 h5 hsl x0 x1
                    go_wp2_with (first | (at_lookup; refine wpList_lookup_own_ok_int _ rfl _ _ 68 rfl 2 2 .i64 xw_dw_law Try.underlying68 Try.underlying2 (xw_dw_zero _) w1.heap.size s.length (dOf s) rfl hM.out _ _ rfl hkey ?_; intro c hat hwc; rw [hhas]; clear hat hwc) | (at_len; refine wpList_len_own _ rfl _ 68 rfl 2 2 Try.underlying68 _ w1.heap.size s.length (dOf s) rfl hM.out ?_; rw [hsize]) | (at_mapUpdate; refine wpList_mapUpdate_own _ rfl _ _ _ 68 rfl 2 2 xw_dw_law Try.underlying68 _ w1.heap.size s.length _ rfl hM.out hml.out _ _ _ rfl rfl hkey _ [] hval ?_; intro w4 hown4 hgrow4; have hM4 := Aside0.mk hown4; have hG4 := Aside0.mk hgrow4; clear hown4 hgrow4))
                    go_ret2
                    exact ⟨rfl, hB.out.grown hG4.out hB.out.size (fun k_ hk_ => by injection hk_ with hk_; have := hW1.out; omega)⟩
                  · rw [if_neg h5] at hL2
                    obtain ⟨t, ht, hL3⟩ := Option.bind_eq_some_iff.mp hL2
                    by_cases c7 : out.size + t.size ≤ 9223372036854775807
                    · rw [if_pos c7] at hL3
                      have hL4 := Aside0.mk hL3
                      have e1 := decide_eq_false (show ¬ (5 : Int) ≤ (s.length : Int) by omega)
                      have e2 := decide_eq_false (show ¬ 5 ≤ s.length by omega)
                      have hLt := Aside0.mk (fun W => impl_letter.calls (s.length : Int) t W ht)
                      have c7b := decide_eq_true c7
                      have c7c : (9223372036854775807 < out.size + t.size) = False := eq_false (Nat.not_lt.2 c7)
                      clear hL2 hL3 h5 ht c7 hsl x0 x1
                      go_wp2_with (first | (at_lookup; refine wpList_lookup_own_ok_int _ rfl _ _ 68 rfl 2 2 .i64 xw_dw_law Try.underlying68 Try.underlying2 (xw_dw_zero _) w1.heap.size s.length (dOf s) rfl hM.out _ _ rfl hkey ?_; intro c hat hwc; rw [hhas]; clear hat hwc) | (at_len; refine wpList_len_own _ rfl _ 68 rfl 2 2 Try.underlying68 _ w1.heap.size s.length (dOf s) rfl hM.out ?_; rw [hsize]) | (at_mapUpdate; refine wpList_mapUpdate_own _ rfl _ _ _ 68 rfl 2 2 xw_dw_law Try.underlying68 _ w1.heap.size s.length _ rfl hM.out hml.out _ _ _ rfl rfl hkey _ [] hval ?_; intro w4 hown4 hgrow4; have hM4 := Aside0.mk hown4; have hG4 := Aside0.mk hgrow4; clear hown4 hgrow4) | (go_at_call 71; refine (hLt.out _).mono ?_; rintro e w5 ⟨rfl, hb5⟩; have hB5 := Aside0.mk hb5; clear hb5))
                      go_roundg (C.length - (kk + 1))
                      case measure => omega
                      case rel =>
                        have hB4 := hB.out.grown hG4.out hB.out.size (fun k_ hk_ => by injection hk_ with hk_; have := hW1.out; omega)
                        have hO4 := Kd.R_step (w1 := w4) hO.out (fun k_ hk_ hlt_ => hG4.out.block k_ hlt_ (fun e_ => by injection e_ with e_; omega))
                        exact ⟨kk + 1, x :: s, out ++ t, by omega, by omega, by first | rfl | rw [hw5.out], rfl, hL4, hN2, ⟨by have := hS.out; simp only [List.length_cons]; omega⟩, ⟨ownsMap_move hM4.out (hB5.out.block _ (ownsMap_lt hM4.out))⟩, ⟨Kd.R_below hO4 hB5.out⟩, ⟨below_then hB4 hB4.size hB5.out⟩, hW1⟩
                    · rw [if_neg c7] at hL3; cases hL3
            · have hltz : ¬ (kk : Int) < (C.length : Int) := by omega
              have d1 := decide_eq_false hltz
              have hL2 := hL.out
              rw [List.drop_of_length_le (by omega)] at hL2
              simp only [dwL, Option.some.injEq, Prod.mk.injEq] at hL2
              obtain ⟨rfl, rfl⟩ := hL2
              clear hL
              go_wp2
              go_ret2
              exact ⟨rfl, hB.out⟩
        · rw [if_neg hlen] at h; cases h


end Go.Proofs.Ytmihfmhfgjnfcaa.Q
