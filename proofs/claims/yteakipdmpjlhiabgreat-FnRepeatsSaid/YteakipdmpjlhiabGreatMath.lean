/- Words of this session: strings as lists of numbers. Nothing here speaks of the program. -/
import Derived.Test.YteakipdmpjlhiabGreatBase
namespace Go.Proofs.YteakipdmpjlhiabGreat
open Go.RowKit Go.Proofs.YteakipdmpjlhiabGreatW.PrintWords Go.Proofs.YteakipdmpjlhiabGreatW.PrintLast Go.Proofs.YteakipdmpjlhiabGreatW.PrintMore
set_option linter.unusedVariables false
set_option linter.unusedSimpArgs false

/-! ### strings as lists -/
theorem bo_len (s : ByteArray) : (bytesOf s).length = s.size := bytesOf_length s
theorem bo_extract (s : ByteArray) (i j : Nat) : bytesOf (s.extract i j) = ((bytesOf s).take j).drop i := by
  unfold bytesOf
  rw [Lib.extract_data, List.map_take, List.map_drop, List.drop_take]
theorem u8_inj {a b : UInt8} (h : (a.toNat : Int) = b.toNat) : a = b := UInt8.toNat_inj.mp (by omega)
theorem bo_data_inj : ∀ {x y : List UInt8}, x.map (fun b => (b.toNat : Int)) = y.map (fun b => (b.toNat : Int)) → x = y
  | [], [], _ => rfl
  | [], _ :: _, h => by simp at h
  | _ :: _, [], h => by simp at h
  | a :: x, b :: y, h => by
    simp only [List.map_cons, List.cons.injEq] at h
    rw [u8_inj h.1, bo_data_inj h.2]
theorem ba_ext {a b : ByteArray} (h : a.data.toList = b.data.toList) : a = b := by
  cases a with | mk x => cases b with | mk y => simp at h; rw [h]
theorem bo_inj {a b : ByteArray} (h : bytesOf a = bytesOf b) : a = b := ba_ext (bo_data_inj h)
theorem toList_iff {a b : ByteArray} : a.toList = b.toList ↔ a = b := by
  rw [Lib.toList_data, Lib.toList_data]
  exact ⟨ba_ext, fun h => by rw [h]⟩
theorem toList_beq (a b : ByteArray) : (a.toList == b.toList) = decide (a = b) := by
  by_cases h : a = b
  · subst h; simp
  · have : a.toList ≠ b.toList := fun e => h (toList_iff.mp e)
    simp [h, this]
theorem bt_bo (s : ByteArray) (i : Int) : bt s i = (bytesOf s).getD i.toNat 0 := (rd_bytesOf s i).symm
theorem bt_nat (s : ByteArray) (i : Nat) : bt s i = (bytesOf s).getD i 0 := by rw [bt_bo]; simp
theorem sn_len (l : List Int) : (strOfNums l).size = l.length := by simp [strOfNums, ByteArray.size]
theorem revW_size (s : ByteArray) : (revW s).size = s.size := by unfold revW; rw [sn_len, List.length_reverse, bo_len]
theorem ext_size (s : ByteArray) (i j : Nat) : (s.extract i j).size = min j s.size - i := by rw [← bo_len, bo_extract, List.length_drop, List.length_take, bo_len]

/-! ### the greatest common divisor -/
/-! ### the order -/
def lessI : List Int → List Int → Bool
  | _, [] => false
  | [], _ :: _ => true
  | a :: x, b :: y => a < b || (a == b && lessI x y)
theorem less_bo_aux : ∀ (x y : List UInt8), Op.bytesLess x y = lessI (x.map fun b => (b.toNat : Int)) (y.map fun b => (b.toNat : Int))
  | x, [] => by cases x <;> rfl
  | [], _ :: _ => rfl
  | a :: x, b :: y => by
    simp only [Op.bytesLess, List.map_cons, lessI]
    rw [less_bo_aux x y]
    have h1 : decide (a < b) = decide ((a.toNat : Int) < b.toNat) := by rw [decide_eq_decide, UInt8.lt_iff_toNat_lt]; omega
    have h2 : (a == b) = ((a.toNat : Int) == b.toNat) := by
      by_cases h : a = b
      · subst h; simp
      · have : ¬ (a.toNat : Int) = b.toNat := fun e => h (u8_inj e)
        simp only [beq_eq_false_iff_ne.mpr h, beq_eq_false_iff_ne.mpr this]
    rw [h1, h2]
/-! ### what a word is -/
theorem isW_iff (w : ByteArray) : isW w = true ↔ w.size ≤ 60 ∧ ∀ x ∈ bytesOf w, 97 ≤ x ∧ x < 102 := by
  unfold isW okB; simp [List.all_eq_true]
theorem getD_eq (l : List Int) (i : Nat) (h : i < l.length) : l.getD i 0 = l[i] := by rw [List.getD_eq_getElem?_getD, List.getElem?_eq_getElem h]; rfl

end Go.Proofs.YteakipdmpjlhiabGreat

