-- Made by this session's program hyb.py out of Lean's print of the program; Lean checks it.
import Derived.Test.YtjnpobaampgakacQx0
import Derived.Test.YtjnpobaampgakacQx44
import Derived.Test.YtjnpobaampgakacQx75
namespace Go.Proofs.Ytjnpobaampgakac.Q
open Go.RowKit Go.Proofs.YtjnpobaampgakacW.PrintWords Go.Proofs.YtjnpobaampgakacW.PrintLast Go.Proofs.YtjnpobaampgakacW.PrintMore
attribute [local go_sem] max2_int min2_int max_two min_two max_three min_three max_four min_four bn_leq bn_gtr bn_geq   -- for this text's walks alone
set_option linter.unusedVariables false
set_option linter.unusedSimpArgs false

/-! ### impl_isPrivileged: function 46 (this session's own) -/
/-- some of them, where all have to be told -/
def anyO (f : ByteArray → Option Bool) : List ByteArray → Option Bool
  | [] => some false
  | x :: l => (f x).bind fun b => (anyO f l).bind fun c => some (b || c)
theorem anyO_mono {f g : ByteArray → Option Bool} (h : ∀ x, LeO (f x) (g x)) : ∀ l, LeO (anyO f l) (anyO g l)
  | [] => LeO.refl _
  | x :: l => LeO.bind (h x) fun _ => LeO.bind (anyO_mono h l) fun _ => LeO.refl _
theorem anyO_some {f : ByteArray → Option Bool} : ∀ {l : List ByteArray} {r : Bool}, anyO f l = some r → (∀ x, x ∈ l → f x = some ((f x).getD false)) ∧ r = l.any fun x => (f x).getD false
  | [], r, h => ⟨fun x hx => (by cases hx), (Option.some.inj h).symm⟩
  | x :: l, r, h => by
    obtain ⟨b, hb, h⟩ := Option.bind_eq_some_iff.mp h
    obtain ⟨c, hc, h⟩ := Option.bind_eq_some_iff.mp h
    obtain ⟨h1, h2⟩ := anyO_some hc
    obtain rfl := Option.some.inj h
    refine ⟨fun y hy => ?_, by rw [List.any_cons, hb, h2]; rfl⟩
    rcases List.mem_cons.mp hy with rfl | hy
    · rw [hb]; rfl
    · exact h1 y hy
def impl_isPrivileged.f : Nat → ByteArray → Option Bool
  | 0, _ => none
  | k + 1, a0 => if (a0.size : Int) ≤ 1 then some true else (impl_returns.f k a0).bind fun l => anyO (impl_isPrivileged.f k) l
theorem impl_isPrivileged.mono : ∀ a0 k, LeO (impl_isPrivileged.f k a0) (impl_isPrivileged.f (k + 1) a0) := by
  intro a0 k
  induction k generalizing a0 with
  | zero => intro r h; simp [impl_isPrivileged.f] at h
  | succ k ih =>
    unfold impl_isPrivileged.f
    exact LeO.ite (LeO.refl _) (LeO.bind (impl_returns.mono _ _) fun l => anyO_mono ih l)
set_option maxHeartbeats 4000000 in
theorem impl_isPrivileged.calls (k : Nat) : ∀ (a0 : ByteArray) (r : Bool) (w : World) (h : impl_isPrivileged.f k a0 = some r),
    Calls Try.prog 46 #[.string a0] w fun e w' => e = .returned (.bool r) ∧ Below w.heap.size w w' := by
  induction k with
  | zero => intro a0 r w h; simp [impl_isPrivileged.f] at h
  | succ k ih =>
    intro a0 r w h
    simp only [impl_isPrivileged.f] at h
    by_cases h1 : (a0.size : Int) ≤ 1
    · rw [if_pos h1] at h
      obtain rfl := Option.some.inj h
      have d1 : decide ((a0.size : Int) ≤ 1) = true := decide_eq_true h1
      clear h h1 ih
      go_enter Try.func46, Try.ntmps46
      go_wp2
      go_ret
      exact ⟨rfl, Below.refl _ _⟩
    · rw [if_neg h1] at h
      obtain ⟨l, hl, h⟩ := Option.bind_eq_some_iff.mp h
      obtain ⟨ha, rfl⟩ := anyO_some h
      have hR := Aside0.mk (impl_returns.calls k a0 l w hl)
      have hP : Aside0 (∀ (A : Option Addr) (c : Nat) (W : World), Kd.C Kd.string W A l.length l → l.length ≤ c → Calls Try.prog 74 #[.slice A l.length c, .func (.func 46) #[] #[]] W fun e w' => e = .returned (.bool (l.any fun x => (impl_isPrivileged.f k x).getD false)) ∧ Below W.heap.size W w') := ⟨fun A c W hC hc =>
        xw_ContainsFunc_str (fun x => (impl_isPrivileged.f k x).getD false) 46 #[] (enters_of Try.func46 (by kernel_rfl) rfl) A c l W hC hc (fun W2 x hx _ => ih x _ W2 (ha x hx))⟩
      have d1 : decide ((a0.size : Int) ≤ 1) = false := decide_eq_false h1
      clear h h1 ih ha hl
      generalize (l.any fun x => (impl_isPrivileged.f k x).getD false) = r at *
      go_enter Try.func46, Try.ntmps46
      go_wp2_with (first | (go_at_call 75; refine hR.out.mono ?_; rintro e w1 ⟨v, rfl, hr, hb⟩; obtain ⟨A, c, rfl, hc, hC⟩ := Kd.R_reads hr; have hq := hP.out A c w1 hC hc; have hb1 := Aside0.mk hb; clear hb hr hC hc) | (go_at_call 74; refine hq.mono ?_; rintro e w2 ⟨rfl, hb2⟩))
      go_ret
      exact ⟨rfl, below_then hb1.out hb1.out.size hb2⟩


end Go.Proofs.Ytjnpobaampgakac.Q
