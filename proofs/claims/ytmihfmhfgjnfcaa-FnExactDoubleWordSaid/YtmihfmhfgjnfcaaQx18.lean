-- Made by this session's program hyb.py out of Lean's print of the program; Lean checks it.
import Derived.Test.YtmihfmhfgjnfcaaQx0
import Derived.Test.YtmihfmhfgjnfcaaQx71
import Derived.Test.YtmihfmhfgjnfcaaQx109
import Derived.Test.YtmihfmhfgjnfcaaQx111
namespace Go.Proofs.Ytmihfmhfgjnfcaa.Q
open Go.RowKit Go.Proofs.YtmihfmhfgjnfcaaW.PrintWords Go.Proofs.YtmihfmhfgjnfcaaW.PrintLast Go.Proofs.YtmihfmhfgjnfcaaW.PrintMore
attribute [local go_sem] max2_int min2_int max_two min_two max_three min_three max_four min_four bn_leq bn_gtr bn_geq   -- for this text's walks alone
set_option linter.unusedVariables false
set_option linter.unusedSimpArgs false

/-! ### impl_CountSquareFree: function 18 (this session's own) -/
theorem xw_size (s : ByteArray) (w : World) : Calls Try.prog 87 #[.string s] w fun e w' => e = .returned (.int .i64 s.size) ∧ w' = w := by
  go_enter Try.func87, Try.ntmps87
  go_wp2
  go_ret
  exact ⟨rfl, rfl⟩
theorem xw_within (n lo hi : Int) (w : World) : Calls Try.prog 62 #[.int .i64 n, .int .i64 lo, .int .i64 hi] w fun e w' => e = .returned (.bool (inR n lo hi)) ∧ w' = w := by
  have hR := inR_eq n lo hi
  by_cases h1 : lo ≤ n
  · by_cases h2 : n ≤ hi
    all_goals
      go_enter Try.func62, Try.ntmps62
      go_wp2
      go_ret
      exact ⟨by rw [hR.out]; simp [h1, h2], rfl⟩
  · go_enter Try.func62, Try.ntmps62
    go_wp2
    go_ret
    exact ⟨by rw [hR.out, decide_eq_false (show ¬ lo ≤ n by omega)]; rfl, rfl⟩

/-- the loop over letters of 'grown' -/
def grownL {S : Type} (rc : ByteArray → S → Option (Bool × S)) (k : Nat) (w : ByteArray) : Nat → Nat → S → Option (Bool × S)
  | 0, _, s => some (false, s)
  | d + 1, n, s => (impl_letter.f (n : Int)).bind fun t => if w.size + t.size ≤ 9223372036854775807 then ((impl_endsFree.f k (w ++ t)).bind fun b => if b = true then ((rc (w ++ t) s).bind fun z => if z.1 = true then some (true, z.2) else grownL rc k w d (n + 1) z.2) else grownL rc k w d (n + 1) s) else none
def grownF {S : Type} (act : ByteArray → S → Bool × S) (m kk : Nat) : Nat → ByteArray → S → Option (Bool × S)
  | 0, _, _ => none
  | k + 1, w, s => if w.size = m then some (act w s) else grownL (grownF act m kk k) k w kk 0 s
theorem grownL_mono {S : Type} {f g : ByteArray → S → Option (Bool × S)} (h : ∀ w s, LeO (f w s) (g w s)) (k : Nat) (w : ByteArray) : ∀ d n s, LeO (grownL f k w d n s) (grownL g (k + 1) w d n s)
  | 0, _, _ => LeO.refl _
  | d + 1, n, s => by
    unfold grownL
    exact LeO.bind (LeO.refl _) fun _ => LeO.ite (LeO.bind (impl_endsFree.mono _ _) fun _ => LeO.ite (LeO.bind (h _ _) fun _ => LeO.ite (LeO.refl _) (grownL_mono h k w d _ _)) (grownL_mono h k w d _ _)) (LeO.refl _)
theorem grownF_mono {S : Type} (act : ByteArray → S → Bool × S) (m kk : Nat) : ∀ k w s, LeO (grownF act m kk k w s) (grownF act m kk (k + 1) w s)
  | 0, w, s => fun r h => by simp [grownF] at h
  | k + 1, w, s => by
    unfold grownF
    exact LeO.ite (LeO.refl _) (grownL_mono (grownF_mono act m kk k) k w kk 0 s)
set_option maxHeartbeats 8000000 in
/-- grown, for whatever callback that keeps a state (I: what the state says of the world). -/
theorem xw_grown {S : Type} (act : ByteArray → S → Bool × S) (I : S → World → Prop) (m kk : Nat) (hkk : kk ≤ 1000) (g : Nat) (lb : Array Value) (eg : ∀ args w, (callFunc g args).run Try.prog w = .ok (.enter g args) w)
    (hmove : ∀ s W W', I s W → Below W.heap.size W W' → I s W')
    (hdo : ∀ s W x, I s W → Calls Try.prog g (#[.string x] ++ lb) W fun e w' => e = .returned (.bool (act x s).1) ∧ I (act x s).2 w') :
    ∀ (k : Nat) (w : ByteArray) (s : S) (r : Bool) (s' : S) (W : World), grownF act m kk k w s = some (r, s') → I s W →
    Calls Try.prog 63 #[.string w, .int .i64 (m : Int), .int .i64 (kk : Int), .func (.func g) #[] lb] W fun e w' => e = .returned (.bool r) ∧ I s' w' := by
  intro k
  induction k with
  | zero => intro w s r s' W h; simp [grownF] at h
  | succ k ih =>
    intro w s r s' W h hI
    simp only [grownF] at h
    by_cases hz : w.size = m
    · rw [if_pos hz] at h
      have hc := hdo s W w hI
      have he := Option.some.inj h
      rw [he] at hc
      have c1 : ((w.size : Int) == (m : Int)) = true := beq_iff_eq.mpr (by omega)
      clear ih hdo hmove h he hI hkk hz
      simp only at hc
      go_enter Try.func63, Try.ntmps63
      go_wp2_with (first | (go_at_call 87; refine (xw_size _ _).mono ?_; rintro e w2 ⟨rfl, rfl⟩) | (go_at_fn g; refine hc.mono ?_; rintro e w' ⟨rfl, hI2⟩; have hI3 := Aside0.mk hI2; clear hI2))
      go_ret
      exact ⟨rfl, hI3.out⟩
    · rw [if_neg hz] at h
      have c1 : ((w.size : Int) == (m : Int)) = false := beq_eq_false_iff_ne.mpr (by omega)
      have hL := Aside0.mk h
      have hI' := Aside0.mk hI
      have ih' := Aside0.mk ih
      have hmv := Aside0.mk hmove
      have hk5 := Aside0.mk hkk
      clear ih hdo hmove h hI hkk hz
      go_enter Try.func63, Try.ntmps63
      go_wp2_with (go_at_call 87; refine (xw_size _ _).mono ?_; rintro e w2 ⟨rfl, rfl⟩)
      go_loopg [9, 10, 19] kk (fun gg v9 v10 v19 wr => ∃ (d n : Nat) (t : S), n + d = kk ∧ d ≤ gg ∧ v19 = .int .i64 (n : Int) ∧ Aside0 (grownL (grownF act m kk k) k w d n t = some (r, s')) ∧ Aside0 (I t wr))
      case atStart => exact ⟨kk, 0, s, by omega, by omega, rfl, hL, hI'⟩
      case round =>
        clear hL hI'
        obtain ⟨d, n, t, hnd, hdg, rfl, hL, hI⟩ := hrel
        cases d with
        | zero =>
          obtain rfl : n = kk := by omega
          have h0 := hL.out
          simp only [grownL, Option.some.injEq, Prod.mk.injEq] at h0
          obtain ⟨rfl, rfl⟩ := h0
          have c2 : decide ((n : Int) < (n : Int)) = false := decide_eq_false (by omega)
          clear hL
          go_wp2
          go_ret
          exact ⟨rfl, hI.out⟩
        | succ d =>
          have hlt : (n : Int) < (kk : Int) := by omega
          have c2 := decide_eq_true hlt
          have h0 := hL.out
          simp only [grownL] at h0
          have hk6 := hk5.out
          have hnw := Aside0.mk (show wrap64 ((n : Int) + 1) = ((n + 1 : Nat) : Int) by rw [w64 (by omega) (by omega)]; rfl)
          obtain ⟨u, hu, h0⟩ := Option.bind_eq_some_iff.mp h0
          by_cases c7 : w.size + u.size ≤ 9223372036854775807
          · rw [if_pos c7] at h0
            obtain ⟨b, he, h0⟩ := Option.bind_eq_some_iff.mp h0
            have c7b := decide_eq_true c7
            have c7c : (9223372036854775807 < w.size + u.size) = False := eq_false (Nat.not_lt.2 c7)
            have hLt := Aside0.mk (fun W => impl_letter.calls (n : Int) u W hu)
            have hE := Aside0.mk (fun W => impl_endsFree.calls k (w ++ u) b W he)
            clear hL hu he c7 hk6
            cases b with
            | false =>
              rw [if_neg (by decide)] at h0
              have h1 := Aside0.mk h0
              clear h0
              go_wp2_with (first | (go_at_call 71; refine (hLt.out _).mono ?_; rintro e w3 ⟨rfl, hb3⟩; have hI3 := Aside0.mk (hmv.out _ _ _ hI.out hb3); clear hb3 hI) | (go_at_call 111; refine (hE.out _).mono ?_; rintro e w4 ⟨rfl, ⟨nd, rfl⟩⟩; have hI4 := Aside0.mk (hmv.out _ _ (w3.drewN nd) hI3.out (by repeat (first | exact Below.refl _ _ | apply pw_below_drewN | apply below_drew1))); clear hI3))
              go_roundg d
              case measure => omega
              case rel => exact ⟨d, n + 1, t, by omega, by omega, by rw [hnw.out], h1, hI4⟩
            | true =>
              rw [if_pos rfl] at h0
              obtain ⟨⟨z1, z2⟩, hz, h0⟩ := Option.bind_eq_some_iff.mp h0
              have hR := Aside0.mk (fun W hW => ih'.out (w ++ u) t z1 z2 W hz hW)
              simp only at h0
              clear hz
              cases z1 with
              | true =>
                rw [if_pos rfl] at h0
                simp only [Option.some.injEq, Prod.mk.injEq] at h0
                obtain ⟨rfl, rfl⟩ := h0
                go_wp2_with (first | (go_at_call 71; refine (hLt.out _).mono ?_; rintro e w3 ⟨rfl, hb3⟩; have hI3 := Aside0.mk (hmv.out _ _ _ hI.out hb3); clear hb3 hI) | (go_at_call 111; refine (hE.out _).mono ?_; rintro e w4 ⟨rfl, ⟨nd, rfl⟩⟩; have hI4 := Aside0.mk (hmv.out _ _ (w3.drewN nd) hI3.out (by repeat (first | exact Below.refl _ _ | apply pw_below_drewN | apply below_drew1))); clear hI3) | (go_at_call 63; refine (hR.out _ hI4.out).mono ?_; rintro e w5 ⟨rfl, hI5⟩; have hI6 := Aside0.mk hI5; clear hI5))
                go_ret
                exact ⟨rfl, hI6.out⟩
              | false =>
                rw [if_neg (by decide)] at h0
                have h1 := Aside0.mk h0
                clear h0
                go_wp2_with (first | (go_at_call 71; refine (hLt.out _).mono ?_; rintro e w3 ⟨rfl, hb3⟩; have hI3 := Aside0.mk (hmv.out _ _ _ hI.out hb3); clear hb3 hI) | (go_at_call 111; refine (hE.out _).mono ?_; rintro e w4 ⟨rfl, ⟨nd, rfl⟩⟩; have hI4 := Aside0.mk (hmv.out _ _ (w3.drewN nd) hI3.out (by repeat (first | exact Below.refl _ _ | apply pw_below_drewN | apply below_drew1))); clear hI3) | (go_at_call 63; refine (hR.out _ hI4.out).mono ?_; rintro e w5 ⟨rfl, hI5⟩; have hI6 := Aside0.mk hI5; clear hI5))
                go_roundg d
                case measure => omega
                case rel => exact ⟨d, n + 1, z2, by omega, by omega, by rw [hnw.out], h1, hI6⟩
          · rw [if_neg c7] at h0; cases h0

/-- A captured variable in a block of the call's own, and the frame. -/
def gInv (b : Nat) (t : TypeId) (w : World) (c : Value) (W : World) : Prop := W.heap[b]? = some (.cells #[c] t (0, 0)) ∧ w.heap.size ≤ b ∧ Below w.heap.size w W
theorem gInv_move {b : Nat} {t : TypeId} {w : World} {c : Value} {W W' : World} (h : gInv b t w c W) (hb : Below W.heap.size W W') : gInv b t w c W' := ⟨blk_below h.1 hb, h.2.1, below_then h.2.2 h.2.2.size hb⟩
theorem gInv_set {b : Nat} {t : TypeId} {w : World} {c : Value} {W : World} (h : gInv b t w c W) (u : Value) : gInv b t w u (W.setCell ⟨b, 0, none⟩ u) := ⟨blk_put h.1 0 u rfl, h.2.1, below_set h.2.2 h.2.1⟩
theorem gInv_new (w : World) (c : Value) (t : TypeId) : gInv w.heap.size t w c (w.alloc (.cells #[c] t)) := ⟨blk_new _ _, Nat.le_refl _, (Below.refl _ _).alloc (Nat.le_refl _) _⟩
theorem gInv_drew {b : Nat} {t : TypeId} {w : World} {c : Value} {W : World} (h : gInv b t w c W) : gInv b t w c W.drew := ⟨h.1, h.2.1, below_drew1 h.2.2⟩
theorem gInv_cell {b : Nat} {t : TypeId} {w : World} {c : Value} {W : World} (h : gInv b t w c W) : W.cell? ⟨b, 0, none⟩ = some c := (blk_cell h.1 0).trans rfl
theorem gInv_frozen {b : Nat} {t : TypeId} {w : World} {c : Value} {W : World} (h : gInv b t w c W) : W.frozen? ⟨b, 0, none⟩ = false := blk_frozen h.1 0

def cntAct (_ : ByteArray) (s : Int) : Bool × Int := (false, wrap64 (s + 1))
set_option maxHeartbeats 2000000 in
theorem xw_CountSquareFree1 (x : ByteArray) (s : Int) (b : Nat) (w W : World) (h : gInv b 2 w (.int .i64 s) W) :
    Calls Try.prog 64 #[.string x, .pointer (some ⟨b, 0, none⟩)] W fun e w' => e = .returned (.bool false) ∧ gInv b 2 w (.int .i64 (wrap64 (s + 1))) w' := by
  have hc := gInv_cell h
  have hf := gInv_frozen h
  have hh := Aside0.mk h
  clear h
  go_enter Try.func64, Try.ntmps64
  go_wp2
  go_ret
  exact ⟨rfl, by repeat (first | exact gInv_set hh.out _ | apply gInv_drew)⟩
def impl_CountSquareFree.f (k : Nat) (a0 a1 : Int) : Option (Int × Int) := if (inR a0 0 12 && inR a1 1 3) = true then (grownF cntAct a0.toNat a1.toNat k ⟨#[]⟩ 0).bind fun z => some (z.2, 0) else some (0, 2)
theorem impl_CountSquareFree.mono : ∀ a0 a1 k, LeO (impl_CountSquareFree.f k a0 a1) (impl_CountSquareFree.f (k + 1) a0 a1) := by
  intro a0 a1 k
  unfold impl_CountSquareFree.f
  exact LeO.ite (LeO.bind (grownF_mono _ _ _ _ _ _) fun _ => LeO.refl _) (LeO.refl _)
set_option maxHeartbeats 4000000 in
theorem impl_CountSquareFree.calls (k : Nat) (a0 a1 : Int) (r1 : Int) (r2 : Int) (w : World) (h : impl_CountSquareFree.f k a0 a1 = some (r1, r2)) :
    Calls Try.prog 18 #[.int .i64 a0, .int .i64 a1] w fun e w' => e = .returned (.tuple #[.int .i64 r1, .int .i64 r2]) ∧ Below w.heap.size w w' := by
  unfold impl_CountSquareFree.f at h
  have hI0 := fun W => xw_within a0 0 12 W
  have hI1 := fun W => xw_within a1 1 3 W
  cases h0 : inR a0 0 12 with
  | false =>
    rw [h0] at h hI0
    obtain ⟨rfl, rfl⟩ : (0 : Int) = r1 ∧ (2 : Int) = r2 := by simpa using h
    clear h h0 hI1
    go_enter Try.func18, Try.ntmps18
    go_wp2_with (go_at_call 62; refine (hI0 _).mono ?_; rintro e w' ⟨rfl, rfl⟩)
    go_ret2
    exact ⟨rfl, Below.refl _ _⟩
  | true =>
    cases h1 : inR a1 1 3 with
    | false =>
      rw [h0, h1] at h
      rw [h0] at hI0
      rw [h1] at hI1
      obtain ⟨rfl, rfl⟩ : (0 : Int) = r1 ∧ (2 : Int) = r2 := by simpa using h
      clear h h0 h1
      have tok := Aside0.mk hI0
      clear hI0
      go_enter Try.func18, Try.ntmps18
      go_wp2_with (first | (go_at_call 62; have hI0 := tok.out; clear tok; refine (hI0 _).mono ?_; rintro e w' ⟨rfl, rfl⟩; clear hI0) | (go_at_call 62; refine (hI1 _).mono ?_; rintro e w' ⟨rfl, rfl⟩))
      go_ret2
      exact ⟨rfl, Below.refl _ _⟩
    | true =>
      rw [h0, h1] at h
      rw [h0] at hI0
      rw [h1] at hI1
      obtain ⟨m0, m1⟩ := inR_true h0
      obtain ⟨m2, m3⟩ := inR_true h1
      obtain ⟨m, rfl⟩ : ∃ m : Nat, a0 = m := ⟨a0.toNat, by omega⟩
      obtain ⟨n, rfl⟩ : ∃ m : Nat, a1 = m := ⟨a1.toNat, by omega⟩
      rw [Bool.and_self, if_pos rfl, Int.toNat_natCast, Int.toNat_natCast] at h
      obtain ⟨⟨b, s⟩, hg, h⟩ := Option.bind_eq_some_iff.mp h
      obtain ⟨rfl, rfl⟩ : s = r1 ∧ (0 : Int) = r2 := by simpa using h
      have hG := Aside0.mk (fun W hW => xw_grown cntAct (fun s W => gInv w.heap.size 2 w (.int .i64 s) W) m n (by omega) 64 #[.pointer (some ⟨w.heap.size, 0, none⟩)] (enters_of Try.func64 (by kernel_rfl) rfl)
        (fun s W W' hI hb => gInv_move hI hb) (fun s W x hI => xw_CountSquareFree1 x s _ w W hI) k ⟨#[]⟩ 0 b s W hg hW)
      have hmk := xw_mkf
      clear h hg h0 h1 m0 m1 m2 m3
      have tok := Aside0.mk hI0
      clear hI0
      go_enter Try.func18, Try.ntmps18
      go_wp2_with (first | (go_at_call 62; have hI0 := tok.out; clear tok; refine (hI0 _).mono ?_; rintro e w' ⟨rfl, rfl⟩; clear hI0) | (go_at_call 62; refine (hI1 _).mono ?_; rintro e w' ⟨rfl, rfl⟩) | (go_at_call 63; refine (hG.out _ (gInv_new _ _ _)).mono ?_; rintro e w5 ⟨rfl, hI5⟩; have hc5 := gInv_cell hI5; have hI6 := Aside0.mk hI5; clear hI5))
      go_ret2
      exact ⟨rfl, hI6.out.2.2⟩


end Go.Proofs.Ytmihfmhfgjnfcaa.Q
