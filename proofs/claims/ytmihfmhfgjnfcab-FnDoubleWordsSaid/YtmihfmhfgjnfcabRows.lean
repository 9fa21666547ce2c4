/-
  No cell of these rows narrows 'for every input' (looked for: loops, veiled, ifaces, maps, wideKeys, modest, calm, conditions, laid).
  DERIVED. THE GIVEN ROWS OF THIS SEAT. 3 by the template 'for every input the law returns true; each argument reads behind the call as it read before'; 0 by the template 'total and deterministic' (their statements: YtmihfmhfgjnfcabTotals.lean).
  GIVEN WITH THE SEED: the statements are not yours to turn. If you find one false, say at which input.
  Laid BY PROGRAM, IN A SANDBOX (cutbox-rows.mjs): the forced cells as the released guide's own fill.sh prints them over the translation 359961bec904bbc4… (all of the seat's roots in one cut). By AI agents, Wed Nov 11 2026. No macro, syntax, notation, axiom, sorry.
-/
import Derived.Test.YtmihfmhfgjnfcabChecked
import GoSem.Claim
import GoSem.ClaimJoined
import GoSem.ClaimMapViews
import Derived.JoinedTies
import Derived.KernelRfl
namespace Go.Proofs.Ytmihfmhfgjnfcab
/- THE CELL 'sum', in the pinned program and in every row, IS THE sha256 OF THE DUMP (.gsa) THAT YtmihfmhfgjnfcabProg.lean LOADS. Nothing in Lean hashes anything: it is a label: what it is worth is what the hold of that sum in a sandbox is worth. -/
noncomputable def Try.pinned : Pinned := { name := "ytmihfmhfgjnfcab", sum := "359961bec904bbc47d9fc9d7a2c22a799f5c0e6c61157dd1a8abc77c316b0756", checked := Try.checked }
namespace Rows
def none {H : Type} : Left H := { results := [], args := [] }

/-- 'laws.FnPeriods': WHATEVER THE INPUT: true; the input reads as it did. -/
def fnPeriodsSpec : ChangeSpec := { name := "fnPeriods", fn := fun _ => fun
  | [d] => { results := [.lit (.bool true)], args := [d] }
  | _ => none }
def fnPeriodsRow : OpenClaim := { program := "ytmihfmhfgjnfcab", sum := "359961bec904bbc47d9fc9d7a2c22a799f5c0e6c61157dd1a8abc77c316b0756", func := "loop.example/g01371/laws.FnPeriods", spec := "fnPeriods", inPlace := ["internal/abi.NoEscape", "internal/bytealg.MakeNoZero"], unfollowed := true, recurses := true, apart := false }
def FnPeriodsSaid : Prop := fnPeriodsRow.holds Try.pinned (OpenSpec.ofChange fnPeriodsSpec)

/-- ITS FALSE NEIGHBOUR: 'it returns false'. Refute it at one input. -/
def fnPeriodsWrong : ChangeSpec := { name := "fnPeriods", fn := fun _ => fun
  | [d] => { results := [.lit (.bool false)], args := [d] }
  | _ => none }
def FnPeriodsWrongFalsely : Prop := fnPeriodsRow.holds Try.pinned (OpenSpec.ofChange fnPeriodsWrong)

/-- 'laws.FnSquareFree': WHATEVER THE INPUT: true; the input reads as it did. -/
def fnSquareFreeSpec : ChangeSpec := { name := "fnSquareFree", fn := fun _ => fun
  | [d] => { results := [.lit (.bool true)], args := [d] }
  | _ => none }
def fnSquareFreeRow : OpenClaim := { program := "ytmihfmhfgjnfcab", sum := "359961bec904bbc47d9fc9d7a2c22a799f5c0e6c61157dd1a8abc77c316b0756", func := "loop.example/g01371/laws.FnSquareFree", spec := "fnSquareFree", unfollowed := true, recurses := true, apart := false }
def FnSquareFreeSaid : Prop := fnSquareFreeRow.holds Try.pinned (OpenSpec.ofChange fnSquareFreeSpec)

/-- ITS FALSE NEIGHBOUR: 'it returns false'. Refute it at one input. -/
def fnSquareFreeWrong : ChangeSpec := { name := "fnSquareFree", fn := fun _ => fun
  | [d] => { results := [.lit (.bool false)], args := [d] }
  | _ => none }
def FnSquareFreeWrongFalsely : Prop := fnSquareFreeRow.holds Try.pinned (OpenSpec.ofChange fnSquareFreeWrong)

/-- 'laws.FnDoubleWords': WHATEVER THE INPUT: true; the input reads as it did. -/
def fnDoubleWordsSpec : ChangeSpec := { name := "fnDoubleWords", fn := fun _ => fun
  | [d] => { results := [.lit (.bool true)], args := [d] }
  | _ => none }
def fnDoubleWordsRow : OpenClaim := { program := "ytmihfmhfgjnfcab", sum := "359961bec904bbc47d9fc9d7a2c22a799f5c0e6c61157dd1a8abc77c316b0756", func := "loop.example/g01371/laws.FnDoubleWords", spec := "fnDoubleWords", unfollowed := true, recurses := true, apart := false }
def FnDoubleWordsSaid : Prop := fnDoubleWordsRow.holds Try.pinned (OpenSpec.ofChange fnDoubleWordsSpec)

/-- ITS FALSE NEIGHBOUR: 'it returns false'. Refute it at one input. -/
def fnDoubleWordsWrong : ChangeSpec := { name := "fnDoubleWords", fn := fun _ => fun
  | [d] => { results := [.lit (.bool false)], args := [d] }
  | _ => none }
def FnDoubleWordsWrongFalsely : Prop := fnDoubleWordsRow.holds Try.pinned (OpenSpec.ofChange fnDoubleWordsWrong)

/- THE SECOND FORM. 'bulk': how many values and letters a reading holds, each counted each time it is reached (what is shared counts as often as it is met; a slice's spare places count too). A statement '..UptoSaid' is the law's where the arguments, and the package variables that the reading takes, are together of bulk at most 1048576: NARROWER than '..Said'. Prove '..Said' where nothing that the law and all that it calls make is longer than what came in: it says more and counts as full. Else prove '..UptoSaid'. A law counts once. -/
mutual
def uptoBulk {H : Type} : DataW H → Nat
  | .lit (.string bytes) => bytes.length + 1
  | .lit _ => 1
  | .nil => 1
  | .ptr d => uptoBulk d + 1
  | .slice elems spare => uptoBulkAll elems + uptoBulkAll spare + 1
  | .agg parts => uptoBulkAll parts + 1
  | .iface _ d => uptoBulk d + 1
  | .map entries => uptoBulkEntries entries + 1
  | .held _ => 1
def uptoBulkAll {H : Type} : List (DataW H) → Nat
  | [] => 0
  | d :: r => uptoBulk d + uptoBulkAll r
def uptoBulkEntries {H : Type} : List (Lit × DataW H) → Nat
  | [] => 0
  | x :: r => uptoBulkEntry x + uptoBulkEntries r
def uptoBulkEntry {H : Type} : Lit × DataW H → Nat
  | (.string bytes, d) => bytes.length + uptoBulk d + 1
  | (_, d) => uptoBulk d + 1
 end
def uptoSmall : (H : Type) → List (DataW H) → Bool := fun _ ds => decide (uptoBulkAll ds ≤ 1048576)
def OpenSpec.upto (s : _root_.Go.ChangeSpec) : _root_.Go.OpenSpec := { _root_.Go.OpenSpec.ofChange s with cond := some uptoSmall }

/-- 'laws.FnPeriods', WHERE WHAT IT READS IS OF BULK AT MOST 1048576: true; the input reads as it did. -/
def fnPeriodsUptoRow : OpenClaim := { program := "ytmihfmhfgjnfcab", sum := "359961bec904bbc47d9fc9d7a2c22a799f5c0e6c61157dd1a8abc77c316b0756", func := "loop.example/g01371/laws.FnPeriods", spec := "fnPeriods", inPlace := ["internal/abi.NoEscape", "internal/bytealg.MakeNoZero"], unfollowed := true, recurses := true, apart := false, narrowed := true }
def FnPeriodsUptoSaid : Prop := fnPeriodsUptoRow.holds Try.pinned (OpenSpec.upto fnPeriodsSpec)

/-- 'laws.FnSquareFree', WHERE WHAT IT READS IS OF BULK AT MOST 1048576: true; the input reads as it did. -/
def fnSquareFreeUptoRow : OpenClaim := { program := "ytmihfmhfgjnfcab", sum := "359961bec904bbc47d9fc9d7a2c22a799f5c0e6c61157dd1a8abc77c316b0756", func := "loop.example/g01371/laws.FnSquareFree", spec := "fnSquareFree", unfollowed := true, recurses := true, apart := false, narrowed := true }
def FnSquareFreeUptoSaid : Prop := fnSquareFreeUptoRow.holds Try.pinned (OpenSpec.upto fnSquareFreeSpec)

/-- 'laws.FnDoubleWords', WHERE WHAT IT READS IS OF BULK AT MOST 1048576: true; the input reads as it did. -/
def fnDoubleWordsUptoRow : OpenClaim := { program := "ytmihfmhfgjnfcab", sum := "359961bec904bbc47d9fc9d7a2c22a799f5c0e6c61157dd1a8abc77c316b0756", func := "loop.example/g01371/laws.FnDoubleWords", spec := "fnDoubleWords", unfollowed := true, recurses := true, apart := false, narrowed := true }
def FnDoubleWordsUptoSaid : Prop := fnDoubleWordsUptoRow.holds Try.pinned (OpenSpec.upto fnDoubleWordsSpec)

end Rows
end Go.Proofs.Ytmihfmhfgjnfcab
