/-
  No cell of these rows narrows 'for every input' (looked for: loops, veiled, ifaces, maps, wideKeys, modest, calm, conditions, laid).
  DERIVED. THE GIVEN ROWS OF THIS SEAT. 12 by the template 'for every input the law returns true; each argument reads behind the call as it read before'; 0 by the template 'total and deterministic' (their statements: YtmihfmhfgjnfcaaTotals.lean).
  GIVEN WITH THE SEED: the statements are not yours to turn. If you find one false, say at which input.
  Laid BY PROGRAM, IN A SANDBOX (cutbox-rows.mjs): the forced cells as the released guide's own fill.sh prints them over the translation f59bfc5b5aa2c8a6… (all of the seat's roots in one cut). By AI agents, Wed Nov 11 2026. No macro, syntax, notation, axiom, sorry.
-/
import Derived.Test.YtmihfmhfgjnfcaaChecked
import GoSem.Claim
import GoSem.ClaimJoined
import GoSem.ClaimMapViews
import Derived.JoinedTies
import Derived.KernelRfl
namespace Go.Proofs.Ytmihfmhfgjnfcaa
/- THE CELL 'sum', in the pinned program and in every row, IS THE sha256 OF THE DUMP (.gsa) THAT YtmihfmhfgjnfcaaProg.lean LOADS. Nothing in Lean hashes anything: it is a label: what it is worth is what the hold of that sum in a sandbox is worth. -/
noncomputable def Try.pinned : Pinned := { name := "ytmihfmhfgjnfcaa", sum := "f59bfc5b5aa2c8a65aedbe64f50fbd63e49ca6d754b6c99fb53fecb5ed0b8fbe", checked := Try.checked }
namespace Rows
def none {H : Type} : Left H := { results := [], args := [] }

/-- 'laws.FnExactCountScattered': WHATEVER THE INPUT: true; the input reads as it did. -/
def fnExactCountScatteredSpec : ChangeSpec := { name := "fnExactCountScattered", fn := fun _ => fun
  | [d1, d2] => { results := [.lit (.bool true)], args := [d1, d2] }
  | _ => none }
def fnExactCountScatteredRow : OpenClaim := { program := "ytmihfmhfgjnfcaa", sum := "f59bfc5b5aa2c8a65aedbe64f50fbd63e49ca6d754b6c99fb53fecb5ed0b8fbe", func := "loop.example/g01371/laws.FnExactCountScattered", spec := "fnExactCountScattered", unfollowed := true, recurses := true, apart := false }
def FnExactCountScatteredSaid : Prop := fnExactCountScatteredRow.holds Try.pinned (OpenSpec.ofChange fnExactCountScatteredSpec)

/-- ITS FALSE NEIGHBOUR: 'it returns false'. Refute it at one input. -/
def fnExactCountScatteredWrong : ChangeSpec := { name := "fnExactCountScattered", fn := fun _ => fun
  | [d1, d2] => { results := [.lit (.bool false)], args := [d1, d2] }
  | _ => none }
def FnExactCountScatteredWrongFalsely : Prop := fnExactCountScatteredRow.holds Try.pinned (OpenSpec.ofChange fnExactCountScatteredWrong)

/-- 'laws.FnExactCountSquareFree': WHATEVER THE INPUT: true; the input reads as it did. -/
def fnExactCountSquareFreeSpec : ChangeSpec := { name := "fnExactCountSquareFree", fn := fun _ => fun
  | [d1, d2] => { results := [.lit (.bool true)], args := [d1, d2] }
  | _ => none }
def fnExactCountSquareFreeRow : OpenClaim := { program := "ytmihfmhfgjnfcaa", sum := "f59bfc5b5aa2c8a65aedbe64f50fbd63e49ca6d754b6c99fb53fecb5ed0b8fbe", func := "loop.example/g01371/laws.FnExactCountSquareFree", spec := "fnExactCountSquareFree", unfollowed := true, recurses := true, apart := false }
def FnExactCountSquareFreeSaid : Prop := fnExactCountSquareFreeRow.holds Try.pinned (OpenSpec.ofChange fnExactCountSquareFreeSpec)

/-- ITS FALSE NEIGHBOUR: 'it returns false'. Refute it at one input. -/
def fnExactCountSquareFreeWrong : ChangeSpec := { name := "fnExactCountSquareFree", fn := fun _ => fun
  | [d1, d2] => { results := [.lit (.bool false)], args := [d1, d2] }
  | _ => none }
def FnExactCountSquareFreeWrongFalsely : Prop := fnExactCountSquareFreeRow.holds Try.pinned (OpenSpec.ofChange fnExactCountSquareFreeWrong)

/-- 'laws.FnExactFirstSquareFree': WHATEVER THE INPUT: true; the input reads as it did. -/
def fnExactFirstSquareFreeSpec : ChangeSpec := { name := "fnExactFirstSquareFree", fn := fun _ => fun
  | [d1, d2] => { results := [.lit (.bool true)], args := [d1, d2] }
  | _ => none }
def fnExactFirstSquareFreeRow : OpenClaim := { program := "ytmihfmhfgjnfcaa", sum := "f59bfc5b5aa2c8a65aedbe64f50fbd63e49ca6d754b6c99fb53fecb5ed0b8fbe", func := "loop.example/g01371/laws.FnExactFirstSquareFree", spec := "fnExactFirstSquareFree", unfollowed := true, recurses := true, apart := false }
def FnExactFirstSquareFreeSaid : Prop := fnExactFirstSquareFreeRow.holds Try.pinned (OpenSpec.ofChange fnExactFirstSquareFreeSpec)

/-- ITS FALSE NEIGHBOUR: 'it returns false'. Refute it at one input. -/
def fnExactFirstSquareFreeWrong : ChangeSpec := { name := "fnExactFirstSquareFree", fn := fun _ => fun
  | [d1, d2] => { results := [.lit (.bool false)], args := [d1, d2] }
  | _ => none }
def FnExactFirstSquareFreeWrongFalsely : Prop := fnExactFirstSquareFreeRow.holds Try.pinned (OpenSpec.ofChange fnExactFirstSquareFreeWrong)

/-- 'laws.FnExactDoubleWord': WHATEVER THE INPUT: true; the input reads as it did. -/
def fnExactDoubleWordSpec : ChangeSpec := { name := "fnExactDoubleWord", fn := fun _ => fun
  | [d1, d2] => { results := [.lit (.bool true)], args := [d1, d2] }
  | _ => none }
def fnExactDoubleWordRow : OpenClaim := { program := "ytmihfmhfgjnfcaa", sum := "f59bfc5b5aa2c8a65aedbe64f50fbd63e49ca6d754b6c99fb53fecb5ed0b8fbe", func := "loop.example/g01371/laws.FnExactDoubleWord", spec := "fnExactDoubleWord", apart := false }
def FnExactDoubleWordSaid : Prop := fnExactDoubleWordRow.holds Try.pinned (OpenSpec.ofChange fnExactDoubleWordSpec)

/-- ITS FALSE NEIGHBOUR: 'it returns false'. Refute it at one input. -/
def fnExactDoubleWordWrong : ChangeSpec := { name := "fnExactDoubleWord", fn := fun _ => fun
  | [d1, d2] => { results := [.lit (.bool false)], args := [d1, d2] }
  | _ => none }
def FnExactDoubleWordWrongFalsely : Prop := fnExactDoubleWordRow.holds Try.pinned (OpenSpec.ofChange fnExactDoubleWordWrong)

/-- 'laws.FnExactIsOverlapFree': WHATEVER THE INPUT: true; the input reads as it did. -/
def fnExactIsOverlapFreeSpec : ChangeSpec := { name := "fnExactIsOverlapFree", fn := fun _ => fun
  | [d] => { results := [.lit (.bool true)], args := [d] }
  | _ => none }
def fnExactIsOverlapFreeRow : OpenClaim := { program := "ytmihfmhfgjnfcaa", sum := "f59bfc5b5aa2c8a65aedbe64f50fbd63e49ca6d754b6c99fb53fecb5ed0b8fbe", func := "loop.example/g01371/laws.FnExactIsOverlapFree", spec := "fnExactIsOverlapFree", unfollowed := true, recurses := true, apart := false }
def FnExactIsOverlapFreeSaid : Prop := fnExactIsOverlapFreeRow.holds Try.pinned (OpenSpec.ofChange fnExactIsOverlapFreeSpec)

/-- ITS FALSE NEIGHBOUR: 'it returns false'. Refute it at one input. -/
def fnExactIsOverlapFreeWrong : ChangeSpec := { name := "fnExactIsOverlapFree", fn := fun _ => fun
  | [d] => { results := [.lit (.bool false)], args := [d] }
  | _ => none }
def FnExactIsOverlapFreeWrongFalsely : Prop := fnExactIsOverlapFreeRow.holds Try.pinned (OpenSpec.ofChange fnExactIsOverlapFreeWrong)

/-- 'laws.FnExactFirstSquare': WHATEVER THE INPUT: true; the input reads as it did. -/
def fnExactFirstSquareSpec : ChangeSpec := { name := "fnExactFirstSquare", fn := fun _ => fun
  | [d] => { results := [.lit (.bool true)], args := [d] }
  | _ => none }
def fnExactFirstSquareRow : OpenClaim := { program := "ytmihfmhfgjnfcaa", sum := "f59bfc5b5aa2c8a65aedbe64f50fbd63e49ca6d754b6c99fb53fecb5ed0b8fbe", func := "loop.example/g01371/laws.FnExactFirstSquare", spec := "fnExactFirstSquare", unfollowed := true, recurses := true, apart := false }
def FnExactFirstSquareSaid : Prop := fnExactFirstSquareRow.holds Try.pinned (OpenSpec.ofChange fnExactFirstSquareSpec)

/-- ITS FALSE NEIGHBOUR: 'it returns false'. Refute it at one input. -/
def fnExactFirstSquareWrong : ChangeSpec := { name := "fnExactFirstSquare", fn := fun _ => fun
  | [d] => { results := [.lit (.bool false)], args := [d] }
  | _ => none }
def FnExactFirstSquareWrongFalsely : Prop := fnExactFirstSquareRow.holds Try.pinned (OpenSpec.ofChange fnExactFirstSquareWrong)

/-- 'laws.FnExactPowersIn': WHATEVER THE INPUT: true; the input reads as it did. -/
def fnExactPowersInSpec : ChangeSpec := { name := "fnExactPowersIn", fn := fun _ => fun
  | [d1, d2] => { results := [.lit (.bool true)], args := [d1, d2] }
  | _ => none }
def fnExactPowersInRow : OpenClaim := { program := "ytmihfmhfgjnfcaa", sum := "f59bfc5b5aa2c8a65aedbe64f50fbd63e49ca6d754b6c99fb53fecb5ed0b8fbe", func := "loop.example/g01371/laws.FnExactPowersIn", spec := "fnExactPowersIn", unfollowed := true, recurses := true, apart := false }
def FnExactPowersInSaid : Prop := fnExactPowersInRow.holds Try.pinned (OpenSpec.ofChange fnExactPowersInSpec)

/-- ITS FALSE NEIGHBOUR: 'it returns false'. Refute it at one input. -/
def fnExactPowersInWrong : ChangeSpec := { name := "fnExactPowersIn", fn := fun _ => fun
  | [d1, d2] => { results := [.lit (.bool false)], args := [d1, d2] }
  | _ => none }
def FnExactPowersInWrongFalsely : Prop := fnExactPowersInRow.holds Try.pinned (OpenSpec.ofChange fnExactPowersInWrong)

/-- 'laws.FnExactOverlapsIn': WHATEVER THE INPUT: true; the input reads as it did. -/
def fnExactOverlapsInSpec : ChangeSpec := { name := "fnExactOverlapsIn", fn := fun _ => fun
  | [d] => { results := [.lit (.bool true)], args := [d] }
  | _ => none }
def fnExactOverlapsInRow : OpenClaim := { program := "ytmihfmhfgjnfcaa", sum := "f59bfc5b5aa2c8a65aedbe64f50fbd63e49ca6d754b6c99fb53fecb5ed0b8fbe", func := "loop.example/g01371/laws.FnExactOverlapsIn", spec := "fnExactOverlapsIn", unfollowed := true, recurses := true, apart := false }
def FnExactOverlapsInSaid : Prop := fnExactOverlapsInRow.holds Try.pinned (OpenSpec.ofChange fnExactOverlapsInSpec)

/-- ITS FALSE NEIGHBOUR: 'it returns false'. Refute it at one input. -/
def fnExactOverlapsInWrong : ChangeSpec := { name := "fnExactOverlapsIn", fn := fun _ => fun
  | [d] => { results := [.lit (.bool false)], args := [d] }
  | _ => none }
def FnExactOverlapsInWrongFalsely : Prop := fnExactOverlapsInRow.holds Try.pinned (OpenSpec.ofChange fnExactOverlapsInWrong)

/-- 'laws.FnExactPowerOf': WHATEVER THE INPUT: true; the input reads as it did. -/
def fnExactPowerOfSpec : ChangeSpec := { name := "fnExactPowerOf", fn := fun _ => fun
  | [d1, d2] => { results := [.lit (.bool true)], args := [d1, d2] }
  | _ => none }
def fnExactPowerOfRow : OpenClaim := { program := "ytmihfmhfgjnfcaa", sum := "f59bfc5b5aa2c8a65aedbe64f50fbd63e49ca6d754b6c99fb53fecb5ed0b8fbe", func := "loop.example/g01371/laws.FnExactPowerOf", spec := "fnExactPowerOf", inPlace := ["internal/abi.NoEscape", "internal/bytealg.MakeNoZero"], unfollowed := true, recurses := true, apart := false }
def FnExactPowerOfSaid : Prop := fnExactPowerOfRow.holds Try.pinned (OpenSpec.ofChange fnExactPowerOfSpec)

/-- ITS FALSE NEIGHBOUR: 'it returns false'. Refute it at one input. -/
def fnExactPowerOfWrong : ChangeSpec := { name := "fnExactPowerOf", fn := fun _ => fun
  | [d1, d2] => { results := [.lit (.bool false)], args := [d1, d2] }
  | _ => none }
def FnExactPowerOfWrongFalsely : Prop := fnExactPowerOfRow.holds Try.pinned (OpenSpec.ofChange fnExactPowerOfWrong)

/-- 'laws.FnExactFactorsOf': WHATEVER THE INPUT: true; the input reads as it did. -/
def fnExactFactorsOfSpec : ChangeSpec := { name := "fnExactFactorsOf", fn := fun _ => fun
  | [d1, d2] => { results := [.lit (.bool true)], args := [d1, d2] }
  | _ => none }
def fnExactFactorsOfRow : OpenClaim := { program := "ytmihfmhfgjnfcaa", sum := "f59bfc5b5aa2c8a65aedbe64f50fbd63e49ca6d754b6c99fb53fecb5ed0b8fbe", func := "loop.example/g01371/laws.FnExactFactorsOf", spec := "fnExactFactorsOf", unfollowed := true, recurses := true, apart := false }
def FnExactFactorsOfSaid : Prop := fnExactFactorsOfRow.holds Try.pinned (OpenSpec.ofChange fnExactFactorsOfSpec)

/-- ITS FALSE NEIGHBOUR: 'it returns false'. Refute it at one input. -/
def fnExactFactorsOfWrong : ChangeSpec := { name := "fnExactFactorsOf", fn := fun _ => fun
  | [d1, d2] => { results := [.lit (.bool false)], args := [d1, d2] }
  | _ => none }
def FnExactFactorsOfWrongFalsely : Prop := fnExactFactorsOfRow.holds Try.pinned (OpenSpec.ofChange fnExactFactorsOfWrong)

/-- 'laws.FnExactSquaresOf': WHATEVER THE INPUT: true; the input reads as it did. -/
def fnExactSquaresOfSpec : ChangeSpec := { name := "fnExactSquaresOf", fn := fun _ => fun
  | [d] => { results := [.lit (.bool true)], args := [d] }
  | _ => none }
def fnExactSquaresOfRow : OpenClaim := { program := "ytmihfmhfgjnfcaa", sum := "f59bfc5b5aa2c8a65aedbe64f50fbd63e49ca6d754b6c99fb53fecb5ed0b8fbe", func := "loop.example/g01371/laws.FnExactSquaresOf", spec := "fnExactSquaresOf", unfollowed := true, recurses := true, apart := false }
def FnExactSquaresOfSaid : Prop := fnExactSquaresOfRow.holds Try.pinned (OpenSpec.ofChange fnExactSquaresOfSpec)

/-- ITS FALSE NEIGHBOUR: 'it returns false'. Refute it at one input. -/
def fnExactSquaresOfWrong : ChangeSpec := { name := "fnExactSquaresOf", fn := fun _ => fun
  | [d] => { results := [.lit (.bool false)], args := [d] }
  | _ => none }
def FnExactSquaresOfWrongFalsely : Prop := fnExactSquaresOfRow.holds Try.pinned (OpenSpec.ofChange fnExactSquaresOfWrong)

/-- 'laws.FnCritical': WHATEVER THE INPUT: true; the input reads as it did. -/
def fnCriticalSpec : ChangeSpec := { name := "fnCritical", fn := fun _ => fun
  | [d] => { results := [.lit (.bool true)], args := [d] }
  | _ => none }
def fnCriticalRow : OpenClaim := { program := "ytmihfmhfgjnfcaa", sum := "f59bfc5b5aa2c8a65aedbe64f50fbd63e49ca6d754b6c99fb53fecb5ed0b8fbe", func := "loop.example/g01371/laws.FnCritical", spec := "fnCritical", unfollowed := true, recurses := true, apart := false }
def FnCriticalSaid : Prop := fnCriticalRow.holds Try.pinned (OpenSpec.ofChange fnCriticalSpec)

/-- ITS FALSE NEIGHBOUR: 'it returns false'. Refute it at one input. -/
def fnCriticalWrong : ChangeSpec := { name := "fnCritical", fn := fun _ => fun
  | [d] => { results := [.lit (.bool false)], args := [d] }
  | _ => none }
def FnCriticalWrongFalsely : Prop := fnCriticalRow.holds Try.pinned (OpenSpec.ofChange fnCriticalWrong)

/- THE SECOND FORM. 'bulk': how many values and letters a reading holds, each counted each time it is reached (what is shared counts as often as it is met; a slice's spare places count too). A statement '..UptoSaid' is the law's where the arguments, and the package variables that the reading takes, are together of bulk at most 1048576: NARROWER than '..Said'. Prove '..Said' where nothing that the law and all that it calls make is longer than what came in: it says more and counts as full. Else prove '..UptoSaid'. A law counts once. -/
mutual
def uptoBulk {H : Type} : DataW H → Nat
  | .lit (.string bytes) => bytes.length + 1
  | .lit _ => 1
  | .nil => 1
  | .ptr d => uptoBulk d + 1
  | .slice elems spare => uptoBulkAll elems + uptoBulkAll spare + 1
  | .agg parts => uptoBulkAll parts + 1
  | .iface _ d => uptoBulk d + 1
  | .map entries => uptoBulkEntries entries + 1
  | .held _ => 1
def uptoBulkAll {H : Type} : List (DataW H) → Nat
  | [] => 0
  | d :: r => uptoBulk d + uptoBulkAll r
def uptoBulkEntries {H : Type} : List (Lit × DataW H) → Nat
  | [] => 0
  | x :: r => uptoBulkEntry x + uptoBulkEntries r
def uptoBulkEntry {H : Type} : Lit × DataW H → Nat
  | (.string bytes, d) => bytes.length + uptoBulk d + 1
  | (_, d) => uptoBulk d + 1
 end
def uptoSmall : (H : Type) → List (DataW H) → Bool := fun _ ds => decide (uptoBulkAll ds ≤ 1048576)
def OpenSpec.upto (s : _root_.Go.ChangeSpec) : _root_.Go.OpenSpec := { _root_.Go.OpenSpec.ofChange s with cond := some uptoSmall }

/-- 'laws.FnExactCountScattered', WHERE WHAT IT READS IS OF BULK AT MOST 1048576: true; the input reads as it did. -/
def fnExactCountScatteredUptoRow : OpenClaim := { program := "ytmihfmhfgjnfcaa", sum := "f59bfc5b5aa2c8a65aedbe64f50fbd63e49ca6d754b6c99fb53fecb5ed0b8fbe", func := "loop.example/g01371/laws.FnExactCountScattered", spec := "fnExactCountScattered", unfollowed := true, recurses := true, apart := false, narrowed := true }
def FnExactCountScatteredUptoSaid : Prop := fnExactCountScatteredUptoRow.holds Try.pinned (OpenSpec.upto fnExactCountScatteredSpec)

/-- 'laws.FnExactCountSquareFree', WHERE WHAT IT READS IS OF BULK AT MOST 1048576: true; the input reads as it did. -/
def fnExactCountSquareFreeUptoRow : OpenClaim := { program := "ytmihfmhfgjnfcaa", sum := "f59bfc5b5aa2c8a65aedbe64f50fbd63e49ca6d754b6c99fb53fecb5ed0b8fbe", func := "loop.example/g01371/laws.FnExactCountSquareFree", spec := "fnExactCountSquareFree", unfollowed := true, recurses := true, apart := false, narrowed := true }
def FnExactCountSquareFreeUptoSaid : Prop := fnExactCountSquareFreeUptoRow.holds Try.pinned (OpenSpec.upto fnExactCountSquareFreeSpec)

/-- 'laws.FnExactFirstSquareFree', WHERE WHAT IT READS IS OF BULK AT MOST 1048576: true; the input reads as it did. -/
def fnExactFirstSquareFreeUptoRow : OpenClaim := { program := "ytmihfmhfgjnfcaa", sum := "f59bfc5b5aa2c8a65aedbe64f50fbd63e49ca6d754b6c99fb53fecb5ed0b8fbe", func := "loop.example/g01371/laws.FnExactFirstSquareFree", spec := "fnExactFirstSquareFree", unfollowed := true, recurses := true, apart := false, narrowed := true }
def FnExactFirstSquareFreeUptoSaid : Prop := fnExactFirstSquareFreeUptoRow.holds Try.pinned (OpenSpec.upto fnExactFirstSquareFreeSpec)

/-- 'laws.FnExactDoubleWord', WHERE WHAT IT READS IS OF BULK AT MOST 1048576: true; the input reads as it did. -/
def fnExactDoubleWordUptoRow : OpenClaim := { program := "ytmihfmhfgjnfcaa", sum := "f59bfc5b5aa2c8a65aedbe64f50fbd63e49ca6d754b6c99fb53fecb5ed0b8fbe", func := "loop.example/g01371/laws.FnExactDoubleWord", spec := "fnExactDoubleWord", apart := false, narrowed := true }
def FnExactDoubleWordUptoSaid : Prop := fnExactDoubleWordUptoRow.holds Try.pinned (OpenSpec.upto fnExactDoubleWordSpec)

/-- 'laws.FnExactIsOverlapFree', WHERE WHAT IT READS IS OF BULK AT MOST 1048576: true; the input reads as it did. -/
def fnExactIsOverlapFreeUptoRow : OpenClaim := { program := "ytmihfmhfgjnfcaa", sum := "f59bfc5b5aa2c8a65aedbe64f50fbd63e49ca6d754b6c99fb53fecb5ed0b8fbe", func := "loop.example/g01371/laws.FnExactIsOverlapFree", spec := "fnExactIsOverlapFree", unfollowed := true, recurses := true, apart := false, narrowed := true }
def FnExactIsOverlapFreeUptoSaid : Prop := fnExactIsOverlapFreeUptoRow.holds Try.pinned (OpenSpec.upto fnExactIsOverlapFreeSpec)

/-- 'laws.FnExactFirstSquare', WHERE WHAT IT READS IS OF BULK AT MOST 1048576: true; the input reads as it did. -/
def fnExactFirstSquareUptoRow : OpenClaim := { program := "ytmihfmhfgjnfcaa", sum := "f59bfc5b5aa2c8a65aedbe64f50fbd63e49ca6d754b6c99fb53fecb5ed0b8fbe", func := "loop.example/g01371/laws.FnExactFirstSquare", spec := "fnExactFirstSquare", unfollowed := true, recurses := true, apart := false, narrowed := true }
def FnExactFirstSquareUptoSaid : Prop := fnExactFirstSquareUptoRow.holds Try.pinned (OpenSpec.upto fnExactFirstSquareSpec)

/-- 'laws.FnExactPowersIn', WHERE WHAT IT READS IS OF BULK AT MOST 1048576: true; the input reads as it did. -/
def fnExactPowersInUptoRow : OpenClaim := { program := "ytmihfmhfgjnfcaa", sum := "f59bfc5b5aa2c8a65aedbe64f50fbd63e49ca6d754b6c99fb53fecb5ed0b8fbe", func := "loop.example/g01371/laws.FnExactPowersIn", spec := "fnExactPowersIn", unfollowed := true, recurses := true, apart := false, narrowed := true }
def FnExactPowersInUptoSaid : Prop := fnExactPowersInUptoRow.holds Try.pinned (OpenSpec.upto fnExactPowersInSpec)

/-- 'laws.FnExactOverlapsIn', WHERE WHAT IT READS IS OF BULK AT MOST 1048576: true; the input reads as it did. -/
def fnExactOverlapsInUptoRow : OpenClaim := { program := "ytmihfmhfgjnfcaa", sum := "f59bfc5b5aa2c8a65aedbe64f50fbd63e49ca6d754b6c99fb53fecb5ed0b8fbe", func := "loop.example/g01371/laws.FnExactOverlapsIn", spec := "fnExactOverlapsIn", unfollowed := true, recurses := true, apart := false, narrowed := true }
def FnExactOverlapsInUptoSaid : Prop := fnExactOverlapsInUptoRow.holds Try.pinned (OpenSpec.upto fnExactOverlapsInSpec)

/-- 'laws.FnExactPowerOf', WHERE WHAT IT READS IS OF BULK AT MOST 1048576: true; the input reads as it did. -/
def fnExactPowerOfUptoRow : OpenClaim := { program := "ytmihfmhfgjnfcaa", sum := "f59bfc5b5aa2c8a65aedbe64f50fbd63e49ca6d754b6c99fb53fecb5ed0b8fbe", func := "loop.example/g01371/laws.FnExactPowerOf", spec := "fnExactPowerOf", inPlace := ["internal/abi.NoEscape", "internal/bytealg.MakeNoZero"], unfollowed := true, recurses := true, apart := false, narrowed := true }
def FnExactPowerOfUptoSaid : Prop := fnExactPowerOfUptoRow.holds Try.pinned (OpenSpec.upto fnExactPowerOfSpec)

/-- 'laws.FnExactFactorsOf', WHERE WHAT IT READS IS OF BULK AT MOST 1048576: true; the input reads as it did. -/
def fnExactFactorsOfUptoRow : OpenClaim := { program := "ytmihfmhfgjnfcaa", sum := "f59bfc5b5aa2c8a65aedbe64f50fbd63e49ca6d754b6c99fb53fecb5ed0b8fbe", func := "loop.example/g01371/laws.FnExactFactorsOf", spec := "fnExactFactorsOf", unfollowed := true, recurses := true, apart := false, narrowed := true }
def FnExactFactorsOfUptoSaid : Prop := fnExactFactorsOfUptoRow.holds Try.pinned (OpenSpec.upto fnExactFactorsOfSpec)

/-- 'laws.FnExactSquaresOf', WHERE WHAT IT READS IS OF BULK AT MOST 1048576: true; the input reads as it did. -/
def fnExactSquaresOfUptoRow : OpenClaim := { program := "ytmihfmhfgjnfcaa", sum := "f59bfc5b5aa2c8a65aedbe64f50fbd63e49ca6d754b6c99fb53fecb5ed0b8fbe", func := "loop.example/g01371/laws.FnExactSquaresOf", spec := "fnExactSquaresOf", unfollowed := true, recurses := true, apart := false, narrowed := true }
def FnExactSquaresOfUptoSaid : Prop := fnExactSquaresOfUptoRow.holds Try.pinned (OpenSpec.upto fnExactSquaresOfSpec)

/-- 'laws.FnCritical', WHERE WHAT IT READS IS OF BULK AT MOST 1048576: true; the input reads as it did. -/
def fnCriticalUptoRow : OpenClaim := { program := "ytmihfmhfgjnfcaa", sum := "f59bfc5b5aa2c8a65aedbe64f50fbd63e49ca6d754b6c99fb53fecb5ed0b8fbe", func := "loop.example/g01371/laws.FnCritical", spec := "fnCritical", unfollowed := true, recurses := true, apart := false, narrowed := true }
def FnCriticalUptoSaid : Prop := fnCriticalUptoRow.holds Try.pinned (OpenSpec.upto fnCriticalSpec)

end Rows
end Go.Proofs.Ytmihfmhfgjnfcaa
