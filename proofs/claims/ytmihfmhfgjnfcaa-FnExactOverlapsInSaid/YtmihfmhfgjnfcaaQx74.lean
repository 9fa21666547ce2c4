-- Made by this session's program hyb.py out of Lean's print of the program; Lean checks it.
import Derived.Test.YtmihfmhfgjnfcaaQx0
import Derived.Test.YtmihfmhfgjnfcaaQx18
import Derived.Test.YtmihfmhfgjnfcaaQx76
import Derived.Test.YtmihfmhfgjnfcaaQx109
namespace Go.Proofs.Ytmihfmhfgjnfcaa.Q
open Go.RowKit Go.Proofs.YtmihfmhfgjnfcaaW.PrintWords Go.Proofs.YtmihfmhfgjnfcaaW.PrintLast Go.Proofs.YtmihfmhfgjnfcaaW.PrintMore
attribute [local go_sem] max2_int min2_int max_two min_two max_three min_three max_four min_four bn_leq bn_gtr bn_geq   -- for this text's walks alone
set_option linter.unusedVariables false
set_option linter.unusedSimpArgs false

/-! ### impl_overlaps: function 74 (this session's own) -/
/-- What a row of rows of the call's own says of its cells. -/
theorem xw_rows {W : World} {base : Nat} {ok : Nat → Prop} {v : Value} {L : List (List Int)} (h : Kd.S (Kd.slice 2 (Kd.int .i64)) 51 W base ok v L) (hp : 0 < L.length) :
    ∃ g cap, v = .slice (some ⟨g, 0, none⟩) L.length cap ∧ base ≤ g ∧ g < W.heap.size ∧ L.length ≤ cap ∧ (∀ i, i < L.length → W.frozen? ⟨g, i, none⟩ = false) ∧ ∀ i, i < L.length → ∃ (A : Option Addr) (c : Nat), W.cell? ⟨g, i, none⟩ = some (.slice A (L.getD i []).length c) ∧ (L.getD i []).length ≤ c ∧ Kd.C (Kd.int .i64) W A (L.getD i []).length (L.getD i []) := by
  obtain ⟨g, cap, rfl, hg, hlt, cells, hcs⟩ := Kd.S_form h hp
  refine ⟨g, cap, rfl, hg, hlt, (Kd.S_reads' h).2.1, fun i _ => blk_frozen hcs i, fun i hi => ?_⟩
  obtain ⟨c, hcl, hM, hcc⟩ := Kd.S_get h [] (i : Int) (by omega) (by omega)
  rw [Int.toNat_natCast] at hM hcc
  obtain ⟨u, rfl, hR⟩ := hM
  obtain ⟨A, ci, rfl, hle, hC⟩ := Kd.R_reads hR
  refine ⟨A, ci, ?_, hle, hC⟩
  have := hcc 0 _ rfl
  rw [show (⟨g, 0, none⟩ : Addr).add (i * (Kd.slice 2 (Kd.int .i64)).sz + 0) = ⟨g, i, none⟩ by
    rw [show (Kd.slice 2 (Kd.int .i64)).sz = 1 from rfl, Nat.mul_one, Nat.add_zero]; exact add_plain _ _] at this
  exact this

theorem grownBy_below {w W W' : World} {row : Option Nat} (h : w.grownBy W row) (hb : Below W.heap.size W W') : w.grownBy W' row :=
  ⟨hb.os.trans h.os, hb.tape.trans h.tape, hb.output.trans h.output, Nat.le_trans h.size hb.size, fun k hk hne => (hb.block k (Nat.lt_of_lt_of_le hk h.size)).trans (h.block k hk hne)⟩
theorem grownBy_set {w W : World} {g : Nat} (h : w.grownBy W (some g)) (i : Nat) (u : Value) : w.grownBy (W.setCell ⟨g, i, none⟩ u) (some g) :=
  ⟨h.os, h.tape, h.output, by simpa [World.setCell] using h.size, fun k hk hne => (Below.heap_setCell W ⟨g, i, none⟩ u k (fun e => hne (by rw [e]))).trans (h.block k hk hne)⟩
theorem grownBy_refl (w : World) (row : Option Nat) : w.grownBy w row := ⟨rfl, rfl, rfl, Nat.le_refl _, fun _ _ _ => rfl⟩
theorem grownBy_drew {w W : World} {row : Option Nat} (h : w.grownBy W row) : w.grownBy W.drew row := ⟨h.os, h.tape, h.output, h.size, h.block⟩
def layV : Array Value → Nat → List Value → Array Value
  | cur, _, [] => cur
  | cur, o, v :: r => layV (cur.setIfInBounds o v) (o + 1) r
theorem layV_size : ∀ (l : List Value) (cur : Array Value) (o : Nat), (layV cur o l).size = cur.size
  | [], _, _ => rfl
  | v :: r, cur, o => by unfold layV; rw [layV_size r]; simp
theorem layV_low : ∀ (l : List Value) (cur : Array Value) (o m : Nat), m < o → (layV cur o l)[m]? = cur[m]?
  | [], _, _, _, _ => rfl
  | v :: r, cur, o, m, h => by
    unfold layV
    rw [layV_low r _ (o + 1) m (by omega), Array.getElem?_setIfInBounds, if_neg (by omega)]
theorem setCells_blk : ∀ (l : List Value) (W : World) (g o : Nat) (cur : Array Value) (t : TypeId), W.heap[g]? = some (.cells cur t (0, 0)) → (W.setCells g o l).heap[g]? = some (.cells (layV cur o l) t (0, 0))
  | [], _, _, _, _, _, h => h
  | v :: r, W, g, o, cur, t, h => setCells_blk r _ g (o + 1) _ t (blk_set h o v)
theorem setCells_grown : ∀ (l : List Value) (w W : World) (g o : Nat), w.grownBy W (some g) → w.grownBy (W.setCells g o l) (some g)
  | [], _, _, _, _, h => h
  | v :: r, w, W, g, o, h => setCells_grown r w _ g (o + 1) (grownBy_set h o v)
/-- the first index at which something holds, or -1 -/
def firstI (p : Nat → Bool) (n : Nat) : Int := match findE p 0 n with | some j => (j : Int) | none => -1
theorem firstI_hit {p : Nat → Bool} {n k : Nat} (h : k < n) (hk : p k = true) (hb : ∀ j, j < k → p j = false) : firstI p n = k := by
  unfold firstI
  cases hf : findE p 0 n with
  | none => rw [findE_none.mp hf k (Nat.zero_le _) (by omega)] at hk; cases hk
  | some j =>
    obtain ⟨_, h2, h3, h4⟩ := findE_some hf
    rcases Nat.lt_trichotomy j k with e | e | e
    · rw [hb j e] at h3; cases h3
    · subst e; rfl
    · rw [h4 k (Nat.zero_le _) e] at hk; cases hk
theorem firstI_miss {p : Nat → Bool} {n : Nat} (hb : ∀ j, j < n → p j = false) : firstI p n = -1 := by
  unfold firstI
  rw [findE_none.mpr fun m _ h => hb m (by omega)]
set_option maxHeartbeats 2000000 in
theorem xw_IndexFunc_rows (vals : Nat → Value) (p : Nat → Bool) (g0 : Nat) (lb : Array Value) (eg : ∀ args w, (callFunc g0 args).run Try.prog w = .ok (.enter g0 args) w) (g cap n : Nat) (w : World) (hg : g < w.heap.size) (hn : n ≤ 1000000)
    (hcell : ∀ i, i < n → w.cell? ⟨g, i, none⟩ = some (vals i))
    (hp : ∀ (W : World) (i : Nat), i < n → Below w.heap.size w W → Calls Try.prog g0 (#[vals i] ++ lb) W fun e w' => e = .returned (.bool (p i)) ∧ Below W.heap.size W w') :
    Calls Try.prog 134 #[.slice (some ⟨g, 0, none⟩) n cap, .func (.func g0) #[] lb] w fun e w' => e = .returned (.int .i64 (firstI p n)) ∧ Below w.heap.size w w' := by
  have hreads : Aside0 (∀ W, Below w.heap.size w W → ∀ j, j < n → W.cell? ⟨g, j, none⟩ = some (vals j)) := ⟨fun W hW j hj => (hW.cell (p := ⟨g, j, none⟩) hg).trans (hcell j hj)⟩
  have hp' := Aside0.mk hp
  have hn' := Aside0.mk hn
  clear hp hcell hn
  go_enter Try.func134, Try.ntmps134
  go_wp2
  go_loopg [5, 8] n (fun gg _ s8 wr => ∃ kk : Nat, kk ≤ n ∧ n - kk ≤ gg ∧ s8 = .int .i64 kk ∧ Aside0 (Below w.heap.size w wr) ∧ Aside0 (∀ j, j < kk → p j = false))
  case atStart => exact ⟨0, Nat.zero_le _, by omega, rfl, ⟨Below.refl _ w⟩, ⟨fun j hj => absurd hj (Nat.not_lt_zero _)⟩⟩
  case round =>
    obtain ⟨kk, hkk, hgg, rfl, BW, A0⟩ := hrel
    by_cases hlt : kk < n
    · have hltz : (kk : Int) < (n : Int) := by omega
      have c1 := decide_eq_true hltz
      have c2 := eq_true (show (0 : Int) ≤ (kk : Int) by omega)
      have c3 := eq_true hltz
      have c4 := eq_true hlt
      have hcell := hreads.out wr BW.out kk hlt
      have hcall := hp'.out wr kk hlt BW.out
      obtain ⟨u, hu⟩ : ∃ u, u = vals kk := ⟨_, rfl⟩
      rw [← hu] at hcell hcall
      have hw5 := Aside0.mk (show wrap64 ((kk : Int) + 1) = ((kk + 1 : Nat) : Int) by have := hn'.out; rw [w64 (by omega) (by omega)]; rfl)
      clear hu
      cases hq : p kk with
      | true =>
        rw [hq] at hcall
        have hq' := Aside0.mk hq
        clear hq
        go_wp2_with (go_at_fn g0; refine hcall.mono ?_; rintro e w' ⟨rfl, hb'⟩)
        go_ret
        exact ⟨by rw [firstI_hit hlt hq'.out A0.out]; rfl, below_then BW.out BW.out.size hb'⟩
      | false =>
        rw [hq] at hcall
        have hq' := Aside0.mk hq
        clear hq
        go_wp2_with (go_at_fn g0; refine hcall.mono ?_; rintro e w' ⟨rfl, hb'⟩)
        go_roundg (n - (kk + 1))
        case measure => omega
        case rel =>
          refine ⟨kk + 1, by omega, by omega, by rw [hw5.out], ⟨below_then BW.out BW.out.size hb'⟩, ⟨fun j hj => ?_⟩⟩
          by_cases e : j = kk
          · subst e; exact hq'.out
          · exact A0.out j (by omega)
    · have hltz : ¬ (kk : Int) < (n : Int) := by omega
      have c1 := decide_eq_false hltz
      obtain rfl : kk = n := by omega
      go_wp2
      go_ret
      exact ⟨by rw [firstI_miss A0.out]; rfl, BW.out⟩
/-- the indexes that stay, of the first j -/
def keptI (p : Nat → Bool) (j : Nat) : List Nat := (List.range j).filter fun m => !p m
theorem keptI_succ (p : Nat → Bool) (j : Nat) : keptI p (j + 1) = keptI p j ++ (if p j = true then [] else [j]) := by
  unfold keptI
  rw [List.range_succ, List.filter_append]
  cases h : p j <;> simp [h]
theorem keptI_le (p : Nat → Bool) (j : Nat) : (keptI p j).length ≤ j := by
  have := List.length_filter_le (fun m => !p m) (List.range j)
  simpa [keptI] using this
theorem keptI_spec (p : Nat → Bool) : ∀ (j m x : Nat), (keptI p j)[m]? = some x → x < j ∧ (keptI p x).length = m
  | 0, m, x, h => by simp [keptI] at h
  | j + 1, m, x, h => by
    rw [keptI_succ] at h
    rcases Nat.lt_or_ge m (keptI p j).length with hlt | hge
    · rw [List.getElem?_append_left hlt] at h
      obtain ⟨h1, h2⟩ := keptI_spec p j m x h
      exact ⟨by omega, h2⟩
    · rw [List.getElem?_append_right hge] at h
      split at h
      · simp at h
      · have hm : m - (keptI p j).length = 0 := by
          rcases Nat.eq_zero_or_pos (m - (keptI p j).length) with e | e
          · exact e
          · rw [List.getElem?_eq_none (by simp; omega)] at h; cases h
        rw [hm] at h
        simp only [List.getElem?_cons_zero, Option.some.injEq] at h
        subst h
        exact ⟨by omega, by omega⟩
theorem keptI_all {p : Nat → Bool} : ∀ {n : Nat}, (∀ j, j < n → p j = false) → keptI p n = List.range n
  | 0, _ => rfl
  | n + 1, h => by
    rw [keptI_succ, keptI_all (fun j hj => h j (by omega)), h n (by omega), List.range_succ]; rfl
/-- the cells of the row while slices.DeleteFunc runs -/
def delInv (vals : Nat → Value) (p : Nat → Bool) (n j : Nat) (cur : Array Value) : Prop :=
  (∀ (m x : Nat), (keptI p j)[m]? = some x → cur[m]? = some (vals x)) ∧ ∀ m : Nat, j ≤ m → m < n → cur[m]? = some (vals m)
theorem delInv_skip {vals : Nat → Value} {p : Nat → Bool} {n j : Nat} {cur : Array Value} (h : delInv vals p n j cur) (hp : p j = true) : delInv vals p n (j + 1) cur := by
  refine ⟨fun m x hx => ?_, fun m h1 h2 => h.2 m (by omega) h2⟩
  rw [keptI_succ, if_pos hp, List.append_nil] at hx
  exact h.1 m x hx
theorem delInv_keep {vals : Nat → Value} {p : Nat → Bool} {n j : Nat} {cur : Array Value} (h : delInv vals p n j cur) (hp : p j = false) (hj : j < cur.size) : delInv vals p n (j + 1) (cur.setIfInBounds (keptI p j).length (vals j)) := by
  have hle := keptI_le p j
  refine ⟨fun m x hx => ?_, fun m h1 h2 => ?_⟩
  · rw [keptI_succ, hp, if_neg (by decide)] at hx
    rw [Array.getElem?_setIfInBounds]
    rcases Nat.lt_or_ge m (keptI p j).length with hlt | hge
    · rw [List.getElem?_append_left hlt] at hx
      rw [if_neg (by omega)]
      exact h.1 m x hx
    · rw [List.getElem?_append_right hge] at hx
      have hm : m - (keptI p j).length = 0 := by
        rcases Nat.eq_zero_or_pos (m - (keptI p j).length) with e | e
        · exact e
        · rw [List.getElem?_eq_none (by simp; omega)] at hx; cases hx
      rw [hm] at hx
      simp only [List.getElem?_cons_zero, Option.some.injEq] at hx
      subst hx
      rw [if_pos (by omega), if_pos (by omega)]
  · rw [Array.getElem?_setIfInBounds, if_neg (by omega)]
    exact h.2 m (by omega) h2
theorem delInv_start {vals : Nat → Value} {p : Nat → Bool} {n k : Nat} {cur : Array Value} (hc : ∀ m : Nat, m < n → cur[m]? = some (vals m)) (hb : ∀ j, j < k → p j = false) (hk : p k = true) (hkn : k < n) : delInv vals p n (k + 1) cur ∧ (keptI p (k + 1)).length = k := by
  have e : keptI p (k + 1) = List.range k := by rw [keptI_succ, if_pos hk, List.append_nil, keptI_all hb]
  refine ⟨⟨fun m x hx => ?_, fun m _ h2 => hc m h2⟩, by rw [e]; simp⟩
  rw [e] at hx
  obtain ⟨h1, h2⟩ := List.getElem?_eq_some_iff.mp hx
  simp only [List.length_range] at h1
  rw [List.getElem_range] at h2
  subst h2
  exact hc m (by omega)

set_option maxHeartbeats 4000000 in
set_option maxRecDepth 1000000 in
theorem xw_DeleteFunc_rows (vals : Nat → Value) (p : Nat → Bool) (g0 : Nat) (lb : Array Value) (eg : ∀ args w, (callFunc g0 args).run Try.prog w = .ok (.enter g0 args) w) (g cap n : Nat) (cur0 : Array Value) (w : World)
    (hblk : w.heap[g]? = some (.cells cur0 51 (0, 0))) (hcap : cur0.size = cap) (hnc : n ≤ cap) (hn : n ≤ 1000000)
    (hcell : ∀ m : Nat, m < n → cur0[m]? = some (vals m)) (hsl : ∀ m : Nat, m < n → ∃ A l c, vals m = .slice A l c)
    (hp : ∀ (W : World) (i : Nat), i < n → w.grownBy W (some g) → Calls Try.prog g0 (#[vals i] ++ lb) W fun e w' => e = .returned (.bool (p i)) ∧ Below W.heap.size W w') :
    Calls Try.prog 113 #[.slice (some ⟨g, 0, none⟩) n cap, .func (.func g0) #[] lb] w fun e w' => ∃ cur : Array Value, e = .returned (.slice (some ⟨g, 0, none⟩) (keptI p n).length cap) ∧ w'.heap[g]? = some (.cells cur 51 (0, 0)) ∧ cur.size = cap ∧ (∀ (m x : Nat), (keptI p n)[m]? = some x → cur[m]? = some (vals x)) ∧ w.grownBy w' (some g) := by
  have hIF := xw_IndexFunc_rows vals p g0 lb eg g cap n w (blk_lt hblk) hn (fun i hi => (blk_cell hblk i).trans (hcell i hi)) (fun W i hi hb => hp W i hi (grownBy_below (grownBy_refl w _) hb))
  have hp' := Aside0.mk hp
  have hcell' := Aside0.mk hcell
  have hsl' := Aside0.mk hsl
  have hblk' := Aside0.mk hblk
  have hcap' := Aside0.mk hcap
  have hn' := Aside0.mk hn
  have hnc' := Aside0.mk hnc
  clear hp hcell hsl hblk hn hnc
  cases hf : findE p 0 n with
  | none =>
    have hall : ∀ j, j < n → p j = false := fun j hj => findE_none.mp hf j (Nat.zero_le _) (by omega)
    rw [firstI_miss hall] at hIF
    have hk := keptI_all hall
    have hk' := Aside0.mk hk
    clear hf hall hk hcap
    go_enter Try.func113, Try.ntmps113
    go_wp2_with (go_at_call 134; refine hIF.mono ?_; rintro e w1 ⟨rfl, hb1⟩; have HB1 := Aside0.mk hb1; clear hb1)
    go_ret
    refine ⟨cur0, by rw [hk'.out]; simp, blk_below hblk'.out HB1.out, hcap'.out, fun m x hx => ?_, grownBy_below (grownBy_refl w _) HB1.out⟩
    rw [hk'.out] at hx
    obtain ⟨h1, h2⟩ := List.getElem?_eq_some_iff.mp hx
    simp only [List.length_range] at h1
    rw [List.getElem_range] at h2
    subst h2
    exact hcell'.out m h1
  | some k0 =>
    obtain ⟨_, hk2, hk3, hk4⟩ := findE_some hf
    have hkb : ∀ j, j < k0 → p j = false := fun j hj => hk4 j (Nat.zero_le _) hj
    rw [firstI_hit (by omega) hk3 hkb] at hIF
    obtain ⟨hd1, hd2⟩ := delInv_start hcell'.out hkb hk3 (by omega)
    have hkn := Aside0.mk (show k0 < n by omega)
    have hD := Aside0.mk hd1
    have hL := Aside0.mk hd2
    have c0 : ((k0 : Int) == -1) = false := beq_eq_false_iff_ne.mpr (by omega)
    have hw0 := Aside0.mk (show wrap64 ((k0 : Int) + 1) = ((k0 + 1 : Nat) : Int) by have := hn'.out; rw [w64 (by omega) (by omega)]; rfl)
    clear hf hk2 hk3 hk4 hkb hd1 hd2 hcell' hcap
    go_enter Try.func113, Try.ntmps113
    go_wp2_with (go_at_call 134; refine hIF.mono ?_; rintro e w1 ⟨rfl, hb1⟩; have HB1 := Aside0.mk hb1; clear hb1)
    go_loopg [5, 6, 7] n (fun gg v5 v6 _ wr => ∃ (i j : Nat) (cur : Array Value), v5 = .int .i64 i ∧ v6 = .int .i64 j ∧ j ≤ n ∧ n - j ≤ gg ∧ i = (keptI p j).length ∧ i < j ∧ Aside0 (cur.size = cap) ∧ Aside0 (delInv vals p n j cur) ∧ Aside0 (wr.heap[g]? = some (.cells cur 51 (0, 0))) ∧ Aside0 (w.grownBy wr (some g)))
    case atStart => exact ⟨k0, k0 + 1, cur0, rfl, by rw [hw0.out], by have := hkn.out; omega, by omega, hL.out.symm, by omega, hcap', hD, ⟨blk_below hblk'.out HB1.out⟩, ⟨grownBy_below (grownBy_refl w _) HB1.out⟩⟩
    case round =>
      clear hIF HB1 hL hD hblk' hw0 c0
      obtain ⟨i, j, cur, rfl, rfl, hj, hgg, hi, hij, hsz, hI, hB, hG⟩ := hrel
      have hn2 := hn'.out
      have hnc2 := hnc'.out
      by_cases hlt : j < n
      · have hltz : (j : Int) < (n : Int) := by omega
        have c1 := decide_eq_true hltz
        have c2 := eq_true (show (0 : Int) ≤ (j : Int) by omega)
        have c3 := eq_true hltz
        have c4 := eq_true hlt
        have c5 := eq_true (show (0 : Int) ≤ (i : Int) by omega)
        have c6 := eq_true (show (i : Int) < (n : Int) by omega)
        have c7 := eq_true (show i < n by omega)
        have hsz2 := hsz.out
        obtain ⟨old, hold⟩ : ∃ u, cur[i]? = some u := ⟨_, Array.getElem?_eq_getElem (by omega)⟩
        have hold' := Aside0.mk hold
        have hcj := (blk_cell hB.out j).trans (hI.out.2 j (Nat.le_refl _) hlt)
        have hcall := hp'.out wr j hlt hG.out
        obtain ⟨u, hu⟩ : ∃ u, u = vals j := ⟨_, rfl⟩
        obtain ⟨A, l, c, hs⟩ := hsl'.out j hlt
        rw [← hu] at hcj hcall hs
        subst hs
        have hu' := Aside0.mk hu
        have hw5 := Aside0.mk (show wrap64 ((j : Int) + 1) = ((j + 1 : Nat) : Int) by rw [w64 (by omega) (by omega)]; rfl)
        have hw6 := Aside0.mk (show wrap64 ((i : Int) + 1) = ((i + 1 : Nat) : Int) by rw [w64 (by omega) (by omega)]; rfl)
        have hi' := Aside0.mk hi
        have hij' := Aside0.mk hij
        clear hu hold hn2 hnc2 hsz2 hi hij
        cases hq : p j with
        | true =>
          rw [hq] at hcall
          have hq' := Aside0.mk hq
          clear hq
          go_wp2_with (go_at_fn g0; refine hcall.mono ?_; rintro e w2 ⟨rfl, hb2⟩; have HB2 := Aside0.mk hb2; clear hb2)
          go_roundg (n - (j + 1))
          case measure => omega
          case rel => exact ⟨i, j + 1, cur, rfl, by rw [hw5.out], by omega, by omega, by rw [keptI_succ, if_pos hq'.out, List.append_nil]; exact hi'.out, by have := hij'.out; omega, hsz, ⟨delInv_skip hI.out hq'.out⟩, ⟨blk_below hB.out HB2.out⟩, ⟨grownBy_below hG.out HB2.out⟩⟩
        | false =>
          rw [hq] at hcall
          have hq' := Aside0.mk hq
          clear hq
          go_wp2_with (go_at_fn g0; refine hcall.mono ?_; rintro e w2 ⟨rfl, hb2⟩; have HB2 := Aside0.mk hb2; have hblk2 := blk_below hB.out hb2; have hci := (blk_cell hblk2 i).trans hold'.out; have hfi := blk_frozen hblk2 i; clear hb2 hblk2)
          go_roundg (n - (j + 1))
          case measure => omega
          case rel =>
            have hk1 := delInv_keep hI.out hq'.out (by have := hsz.out; have := hnc'.out; omega)
            rw [← hi'.out, ← hu'.out] at hk1
            exact ⟨i + 1, j + 1, cur.setIfInBounds i (.slice A l c), by rw [hw6.out], by rw [hw5.out], by omega, by omega, by rw [keptI_succ, hq'.out, if_neg (by decide), List.length_append, ← hi'.out]; rfl, by have := hij'.out; omega, ⟨by rw [Array.size_setIfInBounds]; exact hsz.out⟩, ⟨hk1⟩, ⟨blk_set (blk_below hB.out HB2.out) i _⟩, ⟨grownBy_set (grownBy_below hG.out HB2.out) i _⟩⟩
      · have hltz : ¬ (j : Int) < (n : Int) := by omega
        have c1 := decide_eq_false hltz
        obtain rfl : j = n := by omega
        have c2 := eq_true (show (0 : Int) ≤ (i : Int) by omega)
        have c3 := eq_true (show (i : Int) ≤ (j : Int) by omega)
        have c4 := eq_true (show i ≤ j by omega)
        have c5 := eq_true (show (i : Int) ≤ (cap : Int) by omega)
        have c6 := eq_true (show i ≤ cap by omega)
        have c7 : ¬ i = cap := by omega
        have c8 : ¬ cap = i := by omega
        have hcl : ∀ ty, (Builtin.clear_ #[34] ty #[.slice (some ⟨g, i, none⟩) (j - i) (cap - i)]).run Try.prog wr = .ok (.tuple #[]) (wr.setCells g i (List.replicate (j - i) (.slice none 0 0))) := fun ty =>
          Lib.run_clear_slice wr _ _ ty _ Try.underlying34 Try.zeroValue51 rfl rfl g i _ _ (by omega) (fun t ht => by rw [blk_cell hB.out, Array.getElem?_eq_getElem (by have := hsz.out; omega)]; rfl) (fun t _ => blk_frozen hB.out _)
        have hi' := Aside0.mk hi
        clear hi hij hn2 hnc2
        go_wp2
        go_ret
        refine ⟨by rw [← hi'.out]; rfl, layV cur i (List.replicate (j - i) (.slice none 0 0)), setCells_blk _ wr g i cur _ hB.out, by rw [layV_size]; exact hsz.out, fun m x hx => ?_, setCells_grown _ w wr g i hG.out⟩
        have hm : m < i := by
          rw [hi'.out]
          exact (List.getElem?_eq_some_iff.mp hx).1
        rw [layV_low _ _ _ _ hm]
        exact hI.out.1 m x hx

def ovB (s : ByteArray) (l : List Int) : Bool := decide ((s.size : Int) ≤ rd l 0 + 2 * rd l 1) || !(bt s (rd l 0 + 2 * rd l 1) == bt s (rd l 0))
set_option maxHeartbeats 4000000 in
theorem xw_overlaps1 (s : ByteArray) (b0 : Nat) (l : List Int) (A : Option Addr) (c : Nat) (W : World) (h0 : W.cell? ⟨b0, 0, none⟩ = some (.string s)) (hC : Kd.C (Kd.int .i64) W A l.length l) (h2 : 2 ≤ l.length) (hs : s.size ≤ 1000)
    (x0 : 0 ≤ rd l 0) (x1 : rd l 0 ≤ 1000) (x2 : 0 ≤ rd l 1) (x3 : rd l 1 ≤ 1000) :
    Calls Try.prog 114 #[.slice A l.length c, .pointer (some ⟨b0, 0, none⟩)] W fun e w' => e = .returned (.bool (ovB s l)) ∧ Below W.heap.size W w' := by
  obtain ⟨ad, rfl, hx0⟩ := Kd.at_int hC 0 (by omega) (by omega)
  obtain ⟨ad2, he2, hx1⟩ := Kd.at_int hC 1 (by omega) (by omega)
  cases he2
  rw [show ad.add (0 : Int).toNat = ad by unfold Addr.add; simp] at hx0
  simp only [show (1 : Int).toNat = 1 from rfl, Nat.reduceMul, Nat.reduceEqDiff, Go.Addr.add, ↓reduceIte] at hx1
  have hov : Aside0 (ovB s l = (decide ((s.size : Int) ≤ rd l 0 + 2 * rd l 1) || !(bt s (rd l 0 + 2 * rd l 1) == bt s (rd l 0)))) := ⟨rfl⟩
  obtain ⟨n, hn⟩ : ∃ n : Nat, rd l 0 = n := ⟨(rd l 0).toNat, by omega⟩
  obtain ⟨q, hq⟩ : ∃ n : Nat, rd l 1 = n := ⟨(rd l 1).toNat, by omega⟩
  rw [hn, hq] at hov
  rw [hn] at hx0 x0 x1
  rw [hq] at hx1 x2 x3
  obtain ⟨m, hm⟩ : ∃ m : Nat, m = n + 2 * q := ⟨_, rfl⟩
  rw [show (n : Int) + 2 * (q : Int) = (m : Int) by omega] at hov
  have e1 : wrap64 (2 * (q : Int)) = 2 * (q : Int) := w64 (by omega) (by omega)
  have e2 : IntKind.i64.wrap (2 * (q : Int)) = 2 * (q : Int) := (i64_w _).trans e1
  have e3 : wrap64 ((n : Int) + 2 * (q : Int)) = (m : Int) := by rw [w64 (by omega) (by omega)]; omega
  have e4 : IntKind.i64.wrap ((n : Int) + 2 * (q : Int)) = (m : Int) := (i64_w _).trans e3
  have p0 := eq_true (show 0 < l.length by omega)
  have p1 := eq_true (show 1 < l.length by omega)
  have p2 := eq_true (show (0 : Int) < (l.length : Int) by omega)
  have p3 := eq_true (show (1 : Int) < (l.length : Int) by omega)
  have p4 := decide_eq_true (show (0 : Int) < (l.length : Int) by omega)
  have p5 := decide_eq_true (show (1 : Int) < (l.length : Int) by omega)
  have hnm := Aside0.mk (show n ≤ m by omega)
  clear hC hn hq hm x0 x1 x2 x3 h2
  by_cases hge : (s.size : Int) ≤ (m : Int)
  · have c1 := decide_eq_true hge
    have c1n := decide_eq_true (show s.size ≤ m by omega)
    go_enter Try.func114, Try.ntmps114
    go_wp2
    go_quiet (fail)
    generalize hW1 : W.drewN _ = W1
    have k0 : W1.cell? ⟨b0, 0, none⟩ = some (.string s) := by rw [← hW1]; exact h0
    have k1 : W1.cell? ad = some (.int .i64 n) := by rw [← hW1]; exact hx0
    have HB1 := Aside0.mk (show Below W.heap.size W W1 by rw [← hW1]; exact pw_below_drewN (Below.refl _ _) _)
    clear hW1 h0 hx0 hx1
    go_wp2
    go_quiet ((go_at_call 87; exact Calls.quiet_of_same (xw_size _ _)))
    go_wp2
    go_ret
    exact ⟨by rw [hov.out, c1]; first | rfl | (simp [c1n]; done), by repeat (first | exact HB1.out | apply pw_below_drewN | apply below_drew)⟩
  · have c1 := decide_eq_false hge
    have c1n := decide_eq_false (show ¬ s.size ≤ m by omega)
    have hnm2 := hnm.out
    have q0 := eq_true (show (m : Int) < s.size by omega)
    have q1 := eq_true (show (n : Int) < s.size by omega)
    have q2 := decide_eq_true (show (m : Int) < s.size by omega)
    have q3 := decide_eq_true (show (n : Int) < s.size by omega)
    have q4 := decide_eq_true (show m < s.size by omega)
    have q5 := decide_eq_true (show n < s.size by omega)
    have q6 := eq_true (show m < s.size by omega)
    have q7 := eq_true (show n < s.size by omega)
    have hx2 : ∀ h : m < s.size, ((s[m]'h).toNat : Int) = bt s m := fun h => bt_at s m h
    have hx3 : ∀ h : n < s.size, ((s[n]'h).toNat : Int) = bt s n := fun h => bt_at s n h
    clear hnm2 hnm
    by_cases he : bt s m = bt s n
    · have f1 : (bt s m == bt s n) = true := beq_iff_eq.mpr he
      have f2 : (bt s m != bt s n) = false := by simp [bne, f1]
      clear he
      go_enter Try.func114, Try.ntmps114
      go_wp2
      go_quiet (fail)
      generalize hW1 : W.drewN _ = W1
      have k0 : W1.cell? ⟨b0, 0, none⟩ = some (.string s) := by rw [← hW1]; exact h0
      have k1 : W1.cell? ad = some (.int .i64 n) := by rw [← hW1]; exact hx0
      have HB1 := Aside0.mk (show Below W.heap.size W W1 by rw [← hW1]; exact pw_below_drewN (Below.refl _ _) _)
      clear hW1 h0 hx0 hx1
      go_wp2
      go_quiet ((go_at_call 87; exact Calls.quiet_of_same (xw_size _ _)))
      go_wp2
      go_ret
      exact ⟨by rw [hov.out, c1, f1]; first | rfl | (simp [c1n]; done), by repeat (first | exact HB1.out | apply pw_below_drewN | apply below_drew)⟩
    · have f1 : (bt s m == bt s n) = false := beq_eq_false_iff_ne.mpr he
      have f2 : (bt s m != bt s n) = true := by simp [bne, f1]
      clear he
      go_enter Try.func114, Try.ntmps114
      go_wp2
      go_quiet (fail)
      generalize hW1 : W.drewN _ = W1
      have k0 : W1.cell? ⟨b0, 0, none⟩ = some (.string s) := by rw [← hW1]; exact h0
      have k1 : W1.cell? ad = some (.int .i64 n) := by rw [← hW1]; exact hx0
      have HB1 := Aside0.mk (show Below W.heap.size W W1 by rw [← hW1]; exact pw_below_drewN (Below.refl _ _) _)
      clear hW1 h0 hx0 hx1
      go_wp2
      go_quiet ((go_at_call 87; exact Calls.quiet_of_same (xw_size _ _)))
      go_wp2
      go_ret
      exact ⟨by rw [hov.out, c1, f1]; first | rfl | (simp [c1n]; done), by repeat (first | exact HB1.out | apply pw_below_drewN | apply below_drew)⟩

theorem S_vals {W : World} {base : Nat} {ok : Nat → Prop} {v : Value} {L : List (List Int)} (h : Kd.S (Kd.slice 2 (Kd.int .i64)) 51 W base ok v L) (hp : 0 < L.length) :
    ∃ (g cap : Nat) (cur : Array Value) (f : Nat → Nat) (vals : Nat → Value), v = .slice (some ⟨g, 0, none⟩) L.length cap ∧ base ≤ g ∧ ok g ∧ W.heap[g]? = some (.cells cur 51 (0, 0)) ∧ cur.size = cap ∧ L.length ≤ cap ∧ cap ≤ maxLen ∧ (∀ m : Nat, m < L.length → cur[m]? = some (vals m)) ∧
      ∀ m : Nat, m < L.length → Kd.R (Kd.int .i64) 2 W base (fun k => (ok k ∧ k ≠ g) ∧ f k = m) (vals m) (L.getD m []) := by
  obtain ⟨f, h0, inner, hown, hr⟩ := h
  rw [List.length_zipIdx] at hown
  rcases hown.2 with ⟨_, e0⟩ | ⟨g, cap, cur, rfl, hg, hb, hn, hm, hs, ht⟩
  · omega
  · rw [show (Kd.tag f (Kd.slice 2 (Kd.int .i64))).sz = 1 from rfl, Nat.mul_one] at hs ht
    have hil : inner.length = L.length := by
      have := hown.1
      rw [show (Kd.tag f (Kd.slice 2 (Kd.int .i64))).sz = 1 from rfl, Nat.mul_one] at this
      exact this
    refine ⟨g, cap, cur, f, fun m => (inner[m]?).getD (.slice none 0 0), rfl, hg, h0 g rfl, hb, hs, hn, hm, fun m hlt => ?_, fun m hlt => ?_⟩
    · have him : inner[m]? = some inner[m] := List.getElem?_eq_getElem (by omega)
      have e1 : (cur.toList.take L.length)[m]? = inner[m]? := by rw [ht]
      rw [List.getElem?_take, if_pos hlt, Array.getElem?_toList] at e1
      rw [e1]; simp only [him, Option.getD_some]
    · have hM := hr.2 m _ (Kd.zip_at (List.getElem?_eq_getElem hlt))
      obtain ⟨u, hu, hR⟩ := hM
      rw [show (Kd.tag f (Kd.slice 2 (Kd.int .i64))).sz = 1 from rfl, Nat.mul_one] at hu
      have hu2 : inner[m]? = some u := by
        have := congrArg (fun l => l[0]?) hu
        simpa [List.getElem?_take, List.getElem?_drop] using this
      simp only [hu2, Option.getD_some]
      rw [List.getD_eq_getElem?_getD, List.getElem?_eq_getElem hlt]
      refine Kd.R_mono hR fun k hk => ⟨⟨hk.1.1, fun e => hk.1.2 (by subst e; rfl)⟩, hk.2⟩
theorem S_of_vals {W : World} {base : Nat} {ok : Nat → Prop} {L : List (List Int)} {g cap : Nat} {cur : Array Value} {f rank : Nat → Nat} {vals : Nat → Value} {K : List Nat} (hg : base ≤ g) (hok : ok g) (hb : W.heap[g]? = some (.cells cur 51 (0, 0))) (hs : cur.size = cap) (hn : K.length ≤ cap) (hm : cap ≤ maxLen)
    (hc : ∀ (m x : Nat), K[m]? = some x → cur[m]? = some (vals x)) (hR : ∀ (m x : Nat), K[m]? = some x → Kd.R (Kd.int .i64) 2 W base (fun k => (ok k ∧ k ≠ g) ∧ f k = x) (vals x) (L.getD x [])) (hrank : ∀ (m x : Nat), K[m]? = some x → rank x = m) :
    Kd.S (Kd.slice 2 (Kd.int .i64)) 51 W base ok (.slice (some ⟨g, 0, none⟩) K.length cap) (K.map fun x => L.getD x []) := by
  refine ⟨fun k => rank (f k), fun k hk => ?_, K.map vals, ⟨?_, .inr ⟨g, cap, cur, ?_, hg, hb, ?_, hm, ?_, ?_⟩⟩, ?_, fun j p hj => ?_⟩
  · have : g = k := by simpa [Value.ownBlock] using hk
    subst this; exact hok
  · simp [Kd.tag, Kd.slice]
  · simp
  · simpa using hn
  · simp [Kd.tag, Kd.slice, hs]
  · apply List.ext_getElem?
    intro m
    simp only [Kd.tag, Kd.slice, Nat.mul_one, List.length_zipIdx, List.length_map, List.getElem?_take, List.getElem?_map, Array.getElem?_toList]
    by_cases h : m < K.length
    · rw [if_pos h, hc m _ (List.getElem?_eq_getElem h), List.getElem?_eq_getElem h]; rfl
    · rw [if_neg h, List.getElem?_eq_none (by omega)]; rfl
  · simp [Kd.tag, Kd.slice]
  · rw [List.getElem?_zipIdx, Nat.zero_add, List.getElem?_map] at hj
    obtain ⟨x, hx, rfl⟩ : ∃ x, K[j]? = some x ∧ p = (L.getD x [], j) := by
      cases hK : K[j]? with
      | none => rw [hK] at hj; simp at hj
      | some x => rw [hK] at hj; simp only [Option.map_some, Option.some.injEq] at hj; exact ⟨x, rfl, hj.symm⟩
    refine ⟨vals x, ?_, ?_⟩
    · show ((K.map vals).drop (j * 1)).take 1 = [vals x]
      rw [Nat.mul_one]
      have hjl : j < (K.map vals).length := by rw [List.length_map]; exact (List.getElem?_eq_some_iff.mp hx).1
      rw [List.drop_eq_getElem_cons hjl, List.take_succ_cons, List.take_zero, List.getElem_map]
      have := (List.getElem?_eq_some_iff.mp hx).2
      rw [this]
    · refine Kd.R_mono (hR j x hx) fun k hk => ⟨⟨hk.1.1, fun e => hk.1.2 ?_⟩, ?_⟩
      · simpa [Value.ownBlock] using e
      · show rank (f k) = j
        rw [hk.2]; exact hrank j x hx
def okRow (l : List Int) : Bool := decide (2 ≤ l.length) && (inR (rd l 0) 0 1000 && inR (rd l 1) 0 1000)
theorem kept_map (p : List Int → Bool) : ∀ (L : List (List Int)), (keptI (fun m => p (L.getD m [])) L.length).map (fun x => L.getD x []) = L.filter fun l => !p l := by
  intro L
  unfold keptI
  have e : L = (List.range L.length).map fun m => L.getD m [] := by
    apply List.ext_getElem
    · simp
    · intro i h1 h2; simp [List.getD_eq_getElem?_getD, h1]
  conv => rhs; rw [e, List.filter_map]
  rfl
set_option maxHeartbeats 2000000 in
theorem xw_IndexFunc_nil (A : Option Addr) (c g0 : Nat) (lb : Array Value) (w : World) :
    Calls Try.prog 134 #[.slice A 0 c, .func (.func g0) #[] lb] w fun e w' => e = .returned (.int .i64 (-1)) ∧ w' = w := by
  go_enter Try.func134, Try.ntmps134
  go_wp2
  go_loopg [5, 8] 0 (fun gg _ s8 wr => s8 = .int .i64 0 ∧ wr = w)
  case atStart => exact ⟨rfl, rfl⟩
  case round =>
    obtain ⟨rfl, rfl⟩ := hrel
    go_wp2
    go_ret
    exact ⟨rfl, rfl⟩
theorem xw_DeleteFunc_nil (A : Option Addr) (c g0 : Nat) (lb : Array Value) (w : World) :
    Calls Try.prog 113 #[.slice A 0 c, .func (.func g0) #[] lb] w fun e w' => e = .returned (.slice A 0 c) ∧ w' = w := by
  go_enter Try.func113, Try.ntmps113
  go_wp2_with (go_at_call 134; refine (xw_IndexFunc_nil _ _ _ _ _).mono ?_; rintro e w' ⟨rfl, rfl⟩)
  go_ret
  exact ⟨rfl, rfl⟩
/-- slices.DeleteFunc in overlaps: the rows of the call's own; the word lies in a captured variable's block. -/
theorem xw_Delete_overlaps (s : ByteArray) (b0 : Nat) (L : List (List Int)) (v : Value) (w : World) (base : Nat) (hs : s.size ≤ 1000) (hn : L.length ≤ 1000000) (hL : L.all okRow = true) (hb0 : b0 < base) (hbase : base ≤ w.heap.size) (hcell : w.cell? ⟨b0, 0, none⟩ = some (.string s))
    (hS : Kd.S (Kd.slice 2 (Kd.int .i64)) 51 w base (fun _ => True) v L) :
    Calls Try.prog 113 #[v, .func (.func 114) #[] #[.pointer (some ⟨b0, 0, none⟩)]] w fun e w' => ∃ v' : Value, e = .returned v' ∧ Kd.S (Kd.slice 2 (Kd.int .i64)) 51 w' base (fun _ => True) v' (L.filter fun l => !ovB s l) ∧ Below base w w' := by
  by_cases hp : 0 < L.length
  · obtain ⟨g, cap, cur, f, vals, rfl, hg, hok, hb, hsz, hnc, hm, hc, hR⟩ := S_vals hS hp
    have hrow : ∀ (W : World), w.grownBy W (some g) → ∀ m : Nat, m < L.length → Kd.R (Kd.int .i64) 2 W base (fun k => (True ∧ k ≠ g) ∧ f k = m) (vals m) (L.getD m []) := fun W hW m hlt =>
      Kd.R_step (hR m hlt) fun k hk hkl => hW.block k hkl (fun e => hk.1.2 (by injection e))
    have hD := xw_DeleteFunc_rows vals (fun m => ovB s (L.getD m [])) 114 #[.pointer (some ⟨b0, 0, none⟩)] (enters_of Try.func114 (by kernel_rfl) rfl) g cap L.length cur w hb hsz hnc hn hc
      (fun m hlt => by obtain ⟨A, c, e, _, _⟩ := Kd.R_reads (hR m hlt); exact ⟨A, _, c, e⟩)
      (fun W i hi hW => by
        obtain ⟨A, c, e, hle, hC⟩ := Kd.R_reads (hrow W hW i hi)
        have hok := List.all_eq_true.mp hL (L.getD i []) (by rw [List.getD_eq_getElem?_getD, List.getElem?_eq_getElem hi]; exact List.getElem_mem hi)
        unfold okRow at hok
        rw [Bool.and_eq_true, Bool.and_eq_true, decide_eq_true_iff] at hok
        obtain ⟨a0, a1⟩ := inR_true hok.2.1
        obtain ⟨a2, a3⟩ := inR_true hok.2.2
        have hcw : W.cell? ⟨b0, 0, none⟩ = some (.string s) := (World.cell?_of_block (w := w) (w' := W) (a := ⟨b0, 0, none⟩) (hW.block b0 (by omega) (fun e => by injection e with e; omega))).trans hcell
        rw [e]
        exact xw_overlaps1 s b0 (L.getD i []) A c W hcw hC hok.1 hs a0 a1 a2 a3)
    refine hD.mono ?_
    rintro e w' ⟨cur', rfl, hb', hsz', hc', hW⟩
    refine ⟨_, rfl, ?_, ⟨hW.os, hW.tape, hW.output, hW.size, fun k hk => hW.block k (by omega) (fun e => by injection e with e; omega)⟩⟩
    rw [← kept_map (ovB s) L]
    have hkl := keptI_le (fun m => ovB s (L.getD m [])) L.length
    exact S_of_vals (rank := fun x => (keptI (fun m => ovB s (L.getD m [])) x).length) hg hok hb' hsz' (by omega) hm hc' (fun m x hx => hrow w' hW x (keptI_spec _ _ _ _ hx).1) (fun m x hx => (keptI_spec _ _ _ _ hx).2)
  · obtain ⟨A, c, rfl⟩ := Kd.S_slice hS
    have h0 : L = [] := List.length_eq_zero_iff.mp (by omega)
    subst h0
    refine (xw_DeleteFunc_nil A c _ _ w).mono ?_
    rintro e w' ⟨rfl, rfl⟩
    exact ⟨_, rfl, hS, Below.refl _ _⟩
def impl_overlaps.f (k : Nat) (a0 : ByteArray) : Option (List (List Int)) := (impl_powersIn.f k a0 2).bind fun L => if a0.size ≤ 1000 ∧ L.length ≤ 1000000 ∧ L.all okRow = true then some (L.filter fun l => !ovB a0 l) else none
theorem impl_overlaps.mono : ∀ a0 k, LeO (impl_overlaps.f k a0) (impl_overlaps.f (k + 1) a0) := by
  intro a0 k
  unfold impl_overlaps.f
  exact LeO.bind (impl_powersIn.mono _ _ _) fun _ => LeO.refl _
set_option maxHeartbeats 4000000 in
theorem impl_overlaps.calls (k : Nat) (a0 : ByteArray) (r : List (List Int)) (w : World) (h : impl_overlaps.f k a0 = some r) :
    Calls Try.prog 74 #[.string a0] w fun e w' => ∃ v : Value, e = .returned v ∧ Kd.S (Kd.slice 2 (Kd.int .i64)) 51 w' w.heap.size (fun _ => True) v r ∧ Below w.heap.size w w' := by
  unfold impl_overlaps.f at h
  obtain ⟨L, hL, h⟩ := Option.bind_eq_some_iff.mp h
  by_cases hc : a0.size ≤ 1000 ∧ L.length ≤ 1000000 ∧ L.all okRow = true
  · rw [if_pos hc] at h
    obtain rfl := Option.some.inj h
    have hP := Aside0.mk (fun W => impl_powersIn.calls k a0 2 L W hL)
    have hD := Aside0.mk (fun v W (hW : w.heap.size + 1 ≤ W.heap.size) (hcell : W.cell? ⟨w.heap.size, 0, none⟩ = some (.string a0)) (hS : Kd.S (Kd.slice 2 (Kd.int .i64)) 51 W (w.heap.size + 1) (fun _ => True) v L) => xw_Delete_overlaps a0 w.heap.size L v W (w.heap.size + 1) hc.1 hc.2.1 hc.2.2 (by omega) hW hcell hS)
    have hmk := xw_mkf
    have hcl : (w.alloc (.cells #[.string a0] 9)).cell? ⟨w.heap.size, 0, none⟩ = some (.string a0) := by simp [go_sem]
    clear h hc hL
    go_enter Try.func74, Try.ntmps74
    go_wp2_with (first | (go_at_call 76; go_loud (refine (hP.out _).mono ?_; rintro e w2 ⟨v, rfl, ho, hb⟩; have hsz : (w.alloc (.cells #[.string a0] 9)).heap.size = w.heap.size + 1 := (by simp); rw [hsz] at ho hb; have hcell2 := (hb.cell (p := ⟨w.heap.size, 0, none⟩) (by show w.heap.size < w.heap.size + 1; omega)).trans hcl; have hsz2 := Aside0.mk (show w.heap.size + 1 ≤ w2.heap.size by have := hb.size; omega); have hb2 := Aside0.mk hb; have ho2 := Aside0.mk ho; clear hb ho hsz)) | (go_at_call 113; refine (hD.out _ _ hsz2.out hcell2 ho2.out).mono ?_; rintro e w3 ⟨v', rfl, ho3, hb3⟩; have hb4 := Aside0.mk hb3; have ho4 := Aside0.mk ho3; clear hb3 ho3))
    go_ret
    refine ⟨_, rfl, Kd.S_lower ho4.out (by omega), ?_⟩
    exact ((((Below.refl _ w).alloc (Nat.le_refl _) (.cells #[.string a0] 9)).trans (hb2.out.mono (by omega))).trans (hb4.out.mono (by omega)))
  · rw [if_neg hc] at h; cases h


end Go.Proofs.Ytmihfmhfgjnfcaa.Q
