/-
  No cell of these rows narrows 'for every input' (looked for: loops, veiled, ifaces, maps, wideKeys, modest, calm, conditions, laid).
  DERIVED. THE GIVEN ROWS OF THIS SEAT. 12 by the template 'for every input the law returns true; each argument reads behind the call as it read before'; 0 by the template 'total and deterministic' (their statements: YtjnpobaampgakadTotals.lean).
  GIVEN WITH THE SEED: the statements are not yours to turn. If you find one false, say at which input.
  Laid BY PROGRAM, IN A SANDBOX (cutbox-rows.mjs): the forced cells as the released guide's own fill.sh prints them over the translation 760887388fb38937… (all of the seat's roots in one cut). By AI agents, Wed Nov 11 2026. No macro, syntax, notation, axiom, sorry.
-/
import Derived.Test.YtjnpobaampgakadChecked
import GoSem.Claim
import GoSem.ClaimJoined
import GoSem.ClaimMapViews
import Derived.JoinedTies
import Derived.KernelRfl
namespace Go.Proofs.Ytjnpobaampgakad
/- THE CELL 'sum', in the pinned program and in every row, IS THE sha256 OF THE DUMP (.gsa) THAT YtjnpobaampgakadProg.lean LOADS. Nothing in Lean hashes anything: it is a label: what it is worth is what the hold of that sum in a sandbox is worth. -/
noncomputable def Try.pinned : Pinned := { name := "ytjnpobaampgakad", sum := "760887388fb38937ba1aa618b48e0454ae0efd6a703260777538f7a294e0d2c8", checked := Try.checked }
namespace Rows
def none {H : Type} : Left H := { results := [], args := [] }

/-- 'laws.FnExactBordersOf': WHATEVER THE INPUT: true; the input reads as it did. -/
def fnExactBordersOfSpec : ChangeSpec := { name := "fnExactBordersOf", fn := fun _ => fun
  | [d] => { results := [.lit (.bool true)], args := [d] }
  | _ => none }
def fnExactBordersOfRow : OpenClaim := { program := "ytjnpobaampgakad", sum := "760887388fb38937ba1aa618b48e0454ae0efd6a703260777538f7a294e0d2c8", func := "loop.example/g01371/laws.FnExactBordersOf", spec := "fnExactBordersOf", unfollowed := true, recurses := true, apart := false }
def FnExactBordersOfSaid : Prop := fnExactBordersOfRow.holds Try.pinned (OpenSpec.ofChange fnExactBordersOfSpec)

/-- ITS FALSE NEIGHBOUR: 'it returns false'. Refute it at one input. -/
def fnExactBordersOfWrong : ChangeSpec := { name := "fnExactBordersOf", fn := fun _ => fun
  | [d] => { results := [.lit (.bool false)], args := [d] }
  | _ => none }
def FnExactBordersOfWrongFalsely : Prop := fnExactBordersOfRow.holds Try.pinned (OpenSpec.ofChange fnExactBordersOfWrong)

/-- 'laws.FnExactEndLengths': WHATEVER THE INPUT: true; the input reads as it did. -/
def fnExactEndLengthsSpec : ChangeSpec := { name := "fnExactEndLengths", fn := fun _ => fun
  | [d] => { results := [.lit (.bool true)], args := [d] }
  | _ => none }
def fnExactEndLengthsRow : OpenClaim := { program := "ytjnpobaampgakad", sum := "760887388fb38937ba1aa618b48e0454ae0efd6a703260777538f7a294e0d2c8", func := "loop.example/g01371/laws.FnExactEndLengths", spec := "fnExactEndLengths", unfollowed := true, recurses := true, apart := false }
def FnExactEndLengthsSaid : Prop := fnExactEndLengthsRow.holds Try.pinned (OpenSpec.ofChange fnExactEndLengthsSpec)

/-- ITS FALSE NEIGHBOUR: 'it returns false'. Refute it at one input. -/
def fnExactEndLengthsWrong : ChangeSpec := { name := "fnExactEndLengths", fn := fun _ => fun
  | [d] => { results := [.lit (.bool false)], args := [d] }
  | _ => none }
def FnExactEndLengthsWrongFalsely : Prop := fnExactEndLengthsRow.holds Try.pinned (OpenSpec.ofChange fnExactEndLengthsWrong)

/-- 'laws.FnExactLyndonParts': WHATEVER THE INPUT: true; the input reads as it did. -/
def fnExactLyndonPartsSpec : ChangeSpec := { name := "fnExactLyndonParts", fn := fun _ => fun
  | [d] => { results := [.lit (.bool true)], args := [d] }
  | _ => none }
def fnExactLyndonPartsRow : OpenClaim := { program := "ytjnpobaampgakad", sum := "760887388fb38937ba1aa618b48e0454ae0efd6a703260777538f7a294e0d2c8", func := "loop.example/g01371/laws.FnExactLyndonParts", spec := "fnExactLyndonParts", unfollowed := true, recurses := true, apart := false }
def FnExactLyndonPartsSaid : Prop := fnExactLyndonPartsRow.holds Try.pinned (OpenSpec.ofChange fnExactLyndonPartsSpec)

/-- ITS FALSE NEIGHBOUR: 'it returns false'. Refute it at one input. -/
def fnExactLyndonPartsWrong : ChangeSpec := { name := "fnExactLyndonParts", fn := fun _ => fun
  | [d] => { results := [.lit (.bool false)], args := [d] }
  | _ => none }
def FnExactLyndonPartsWrongFalsely : Prop := fnExactLyndonPartsRow.holds Try.pinned (OpenSpec.ofChange fnExactLyndonPartsWrong)

/-- 'laws.FnExactCriticalPlaces': WHATEVER THE INPUT: true; the input reads as it did. -/
def fnExactCriticalPlacesSpec : ChangeSpec := { name := "fnExactCriticalPlaces", fn := fun _ => fun
  | [d] => { results := [.lit (.bool true)], args := [d] }
  | _ => none }
def fnExactCriticalPlacesRow : OpenClaim := { program := "ytjnpobaampgakad", sum := "760887388fb38937ba1aa618b48e0454ae0efd6a703260777538f7a294e0d2c8", func := "loop.example/g01371/laws.FnExactCriticalPlaces", spec := "fnExactCriticalPlaces", unfollowed := true, recurses := true, apart := false }
def FnExactCriticalPlacesSaid : Prop := fnExactCriticalPlacesRow.holds Try.pinned (OpenSpec.ofChange fnExactCriticalPlacesSpec)

/-- ITS FALSE NEIGHBOUR: 'it returns false'. Refute it at one input. -/
def fnExactCriticalPlacesWrong : ChangeSpec := { name := "fnExactCriticalPlaces", fn := fun _ => fun
  | [d] => { results := [.lit (.bool false)], args := [d] }
  | _ => none }
def FnExactCriticalPlacesWrongFalsely : Prop := fnExactCriticalPlacesRow.holds Try.pinned (OpenSpec.ofChange fnExactCriticalPlacesWrong)

/-- 'laws.FnExactFirstSquare': WHATEVER THE INPUT: true; the input reads as it did. -/
def fnExactFirstSquareSpec : ChangeSpec := { name := "fnExactFirstSquare", fn := fun _ => fun
  | [d] => { results := [.lit (.bool true)], args := [d] }
  | _ => none }
def fnExactFirstSquareRow : OpenClaim := { program := "ytjnpobaampgakad", sum := "760887388fb38937ba1aa618b48e0454ae0efd6a703260777538f7a294e0d2c8", func := "loop.example/g01371/laws.FnExactFirstSquare", spec := "fnExactFirstSquare", unfollowed := true, recurses := true, apart := false }
def FnExactFirstSquareSaid : Prop := fnExactFirstSquareRow.holds Try.pinned (OpenSpec.ofChange fnExactFirstSquareSpec)

/-- ITS FALSE NEIGHBOUR: 'it returns false'. Refute it at one input. -/
def fnExactFirstSquareWrong : ChangeSpec := { name := "fnExactFirstSquare", fn := fun _ => fun
  | [d] => { results := [.lit (.bool false)], args := [d] }
  | _ => none }
def FnExactFirstSquareWrongFalsely : Prop := fnExactFirstSquareRow.holds Try.pinned (OpenSpec.ofChange fnExactFirstSquareWrong)

/-- 'laws.FnExactPowersIn': WHATEVER THE INPUT: true; the input reads as it did. -/
def fnExactPowersInSpec : ChangeSpec := { name := "fnExactPowersIn", fn := fun _ => fun
  | [d1, d2] => { results := [.lit (.bool true)], args := [d1, d2] }
  | _ => none }
def fnExactPowersInRow : OpenClaim := { program := "ytjnpobaampgakad", sum := "760887388fb38937ba1aa618b48e0454ae0efd6a703260777538f7a294e0d2c8", func := "loop.example/g01371/laws.FnExactPowersIn", spec := "fnExactPowersIn", unfollowed := true, recurses := true, apart := false }
def FnExactPowersInSaid : Prop := fnExactPowersInRow.holds Try.pinned (OpenSpec.ofChange fnExactPowersInSpec)

/-- ITS FALSE NEIGHBOUR: 'it returns false'. Refute it at one input. -/
def fnExactPowersInWrong : ChangeSpec := { name := "fnExactPowersIn", fn := fun _ => fun
  | [d1, d2] => { results := [.lit (.bool false)], args := [d1, d2] }
  | _ => none }
def FnExactPowersInWrongFalsely : Prop := fnExactPowersInRow.holds Try.pinned (OpenSpec.ofChange fnExactPowersInWrong)

/-- 'laws.FnExactRunsOf': WHATEVER THE INPUT: true; the input reads as it did. -/
def fnExactRunsOfSpec : ChangeSpec := { name := "fnExactRunsOf", fn := fun _ => fun
  | [d] => { results := [.lit (.bool true)], args := [d] }
  | _ => none }
def fnExactRunsOfRow : OpenClaim := { program := "ytjnpobaampgakad", sum := "760887388fb38937ba1aa618b48e0454ae0efd6a703260777538f7a294e0d2c8", func := "loop.example/g01371/laws.FnExactRunsOf", spec := "fnExactRunsOf", unfollowed := true, recurses := true, apart := false }
def FnExactRunsOfSaid : Prop := fnExactRunsOfRow.holds Try.pinned (OpenSpec.ofChange fnExactRunsOfSpec)

/-- ITS FALSE NEIGHBOUR: 'it returns false'. Refute it at one input. -/
def fnExactRunsOfWrong : ChangeSpec := { name := "fnExactRunsOf", fn := fun _ => fun
  | [d] => { results := [.lit (.bool false)], args := [d] }
  | _ => none }
def FnExactRunsOfWrongFalsely : Prop := fnExactRunsOfRow.holds Try.pinned (OpenSpec.ofChange fnExactRunsOfWrong)

/-- 'laws.FnExactLettersNext': WHATEVER THE INPUT: true; the input reads as it did. -/
def fnExactLettersNextSpec : ChangeSpec := { name := "fnExactLettersNext", fn := fun _ => fun
  | [d1, d2] => { results := [.lit (.bool true)], args := [d1, d2] }
  | _ => none }
def fnExactLettersNextRow : OpenClaim := { program := "ytjnpobaampgakad", sum := "760887388fb38937ba1aa618b48e0454ae0efd6a703260777538f7a294e0d2c8", func := "loop.example/g01371/laws.FnExactLettersNext", spec := "fnExactLettersNext", unfollowed := true, recurses := true, apart := false }
def FnExactLettersNextSaid : Prop := fnExactLettersNextRow.holds Try.pinned (OpenSpec.ofChange fnExactLettersNextSpec)

/-- ITS FALSE NEIGHBOUR: 'it returns false'. Refute it at one input. -/
def fnExactLettersNextWrong : ChangeSpec := { name := "fnExactLettersNext", fn := fun _ => fun
  | [d1, d2] => { results := [.lit (.bool false)], args := [d1, d2] }
  | _ => none }
def FnExactLettersNextWrongFalsely : Prop := fnExactLettersNextRow.holds Try.pinned (OpenSpec.ofChange fnExactLettersNextWrong)

/-- 'laws.FnExactOverlapsIn': WHATEVER THE INPUT: true; the input reads as it did. -/
def fnExactOverlapsInSpec : ChangeSpec := { name := "fnExactOverlapsIn", fn := fun _ => fun
  | [d] => { results := [.lit (.bool true)], args := [d] }
  | _ => none }
def fnExactOverlapsInRow : OpenClaim := { program := "ytjnpobaampgakad", sum := "760887388fb38937ba1aa618b48e0454ae0efd6a703260777538f7a294e0d2c8", func := "loop.example/g01371/laws.FnExactOverlapsIn", spec := "fnExactOverlapsIn", unfollowed := true, recurses := true, apart := false }
def FnExactOverlapsInSaid : Prop := fnExactOverlapsInRow.holds Try.pinned (OpenSpec.ofChange fnExactOverlapsInSpec)

/-- ITS FALSE NEIGHBOUR: 'it returns false'. Refute it at one input. -/
def fnExactOverlapsInWrong : ChangeSpec := { name := "fnExactOverlapsIn", fn := fun _ => fun
  | [d] => { results := [.lit (.bool false)], args := [d] }
  | _ => none }
def FnExactOverlapsInWrongFalsely : Prop := fnExactOverlapsInRow.holds Try.pinned (OpenSpec.ofChange fnExactOverlapsInWrong)

/-- 'laws.FnExactPowerOf': WHATEVER THE INPUT: true; the input reads as it did. -/
def fnExactPowerOfSpec : ChangeSpec := { name := "fnExactPowerOf", fn := fun _ => fun
  | [d1, d2] => { results := [.lit (.bool true)], args := [d1, d2] }
  | _ => none }
def fnExactPowerOfRow : OpenClaim := { program := "ytjnpobaampgakad", sum := "760887388fb38937ba1aa618b48e0454ae0efd6a703260777538f7a294e0d2c8", func := "loop.example/g01371/laws.FnExactPowerOf", spec := "fnExactPowerOf", inPlace := ["internal/abi.NoEscape", "internal/bytealg.MakeNoZero"], unfollowed := true, recurses := true, apart := false }
def FnExactPowerOfSaid : Prop := fnExactPowerOfRow.holds Try.pinned (OpenSpec.ofChange fnExactPowerOfSpec)

/-- ITS FALSE NEIGHBOUR: 'it returns false'. Refute it at one input. -/
def fnExactPowerOfWrong : ChangeSpec := { name := "fnExactPowerOf", fn := fun _ => fun
  | [d1, d2] => { results := [.lit (.bool false)], args := [d1, d2] }
  | _ => none }
def FnExactPowerOfWrongFalsely : Prop := fnExactPowerOfRow.holds Try.pinned (OpenSpec.ofChange fnExactPowerOfWrong)

/-- 'laws.FnExactFactorsOf': WHATEVER THE INPUT: true; the input reads as it did. -/
def fnExactFactorsOfSpec : ChangeSpec := { name := "fnExactFactorsOf", fn := fun _ => fun
  | [d1, d2] => { results := [.lit (.bool true)], args := [d1, d2] }
  | _ => none }
def fnExactFactorsOfRow : OpenClaim := { program := "ytjnpobaampgakad", sum := "760887388fb38937ba1aa618b48e0454ae0efd6a703260777538f7a294e0d2c8", func := "loop.example/g01371/laws.FnExactFactorsOf", spec := "fnExactFactorsOf", unfollowed := true, recurses := true, apart := false }
def FnExactFactorsOfSaid : Prop := fnExactFactorsOfRow.holds Try.pinned (OpenSpec.ofChange fnExactFactorsOfSpec)

/-- ITS FALSE NEIGHBOUR: 'it returns false'. Refute it at one input. -/
def fnExactFactorsOfWrong : ChangeSpec := { name := "fnExactFactorsOf", fn := fun _ => fun
  | [d1, d2] => { results := [.lit (.bool false)], args := [d1, d2] }
  | _ => none }
def FnExactFactorsOfWrongFalsely : Prop := fnExactFactorsOfRow.holds Try.pinned (OpenSpec.ofChange fnExactFactorsOfWrong)

/-- 'laws.FnExactSquaresOf': WHATEVER THE INPUT: true; the input reads as it did. -/
def fnExactSquaresOfSpec : ChangeSpec := { name := "fnExactSquaresOf", fn := fun _ => fun
  | [d] => { results := [.lit (.bool true)], args := [d] }
  | _ => none }
def fnExactSquaresOfRow : OpenClaim := { program := "ytjnpobaampgakad", sum := "760887388fb38937ba1aa618b48e0454ae0efd6a703260777538f7a294e0d2c8", func := "loop.example/g01371/laws.FnExactSquaresOf", spec := "fnExactSquaresOf", unfollowed := true, recurses := true, apart := false }
def FnExactSquaresOfSaid : Prop := fnExactSquaresOfRow.holds Try.pinned (OpenSpec.ofChange fnExactSquaresOfSpec)

/-- ITS FALSE NEIGHBOUR: 'it returns false'. Refute it at one input. -/
def fnExactSquaresOfWrong : ChangeSpec := { name := "fnExactSquaresOf", fn := fun _ => fun
  | [d] => { results := [.lit (.bool false)], args := [d] }
  | _ => none }
def FnExactSquaresOfWrongFalsely : Prop := fnExactSquaresOfRow.holds Try.pinned (OpenSpec.ofChange fnExactSquaresOfWrong)

/- THE SECOND FORM. 'bulk': how many values and letters a reading holds, each counted each time it is reached (what is shared counts as often as it is met; a slice's spare places count too). A statement '..UptoSaid' is the law's where the arguments, and the package variables that the reading takes, are together of bulk at most 1048576: NARROWER than '..Said'. Prove '..Said' where nothing that the law and all that it calls make is longer than what came in: it says more and counts as full. Else prove '..UptoSaid'. A law counts once. -/
mutual
def uptoBulk {H : Type} : DataW H → Nat
  | .lit (.string bytes) => bytes.length + 1
  | .lit _ => 1
  | .nil => 1
  | .ptr d => uptoBulk d + 1
  | .slice elems spare => uptoBulkAll elems + uptoBulkAll spare + 1
  | .agg parts => uptoBulkAll parts + 1
  | .iface _ d => uptoBulk d + 1
  | .map entries => uptoBulkEntries entries + 1
  | .held _ => 1
def uptoBulkAll {H : Type} : List (DataW H) → Nat
  | [] => 0
  | d :: r => uptoBulk d + uptoBulkAll r
def uptoBulkEntries {H : Type} : List (Lit × DataW H) → Nat
  | [] => 0
  | x :: r => uptoBulkEntry x + uptoBulkEntries r
def uptoBulkEntry {H : Type} : Lit × DataW H → Nat
  | (.string bytes, d) => bytes.length + uptoBulk d + 1
  | (_, d) => uptoBulk d + 1
 end
def uptoSmall : (H : Type) → List (DataW H) → Bool := fun _ ds => decide (uptoBulkAll ds ≤ 1048576)
def OpenSpec.upto (s : _root_.Go.ChangeSpec) : _root_.Go.OpenSpec := { _root_.Go.OpenSpec.ofChange s with cond := some uptoSmall }

/-- 'laws.FnExactBordersOf', WHERE WHAT IT READS IS OF BULK AT MOST 1048576: true; the input reads as it did. -/
def fnExactBordersOfUptoRow : OpenClaim := { program := "ytjnpobaampgakad", sum := "760887388fb38937ba1aa618b48e0454ae0efd6a703260777538f7a294e0d2c8", func := "loop.example/g01371/laws.FnExactBordersOf", spec := "fnExactBordersOf", unfollowed := true, recurses := true, apart := false, narrowed := true }
def FnExactBordersOfUptoSaid : Prop := fnExactBordersOfUptoRow.holds Try.pinned (OpenSpec.upto fnExactBordersOfSpec)

/-- 'laws.FnExactEndLengths', WHERE WHAT IT READS IS OF BULK AT MOST 1048576: true; the input reads as it did. -/
def fnExactEndLengthsUptoRow : OpenClaim := { program := "ytjnpobaampgakad", sum := "760887388fb38937ba1aa618b48e0454ae0efd6a703260777538f7a294e0d2c8", func := "loop.example/g01371/laws.FnExactEndLengths", spec := "fnExactEndLengths", unfollowed := true, recurses := true, apart := false, narrowed := true }
def FnExactEndLengthsUptoSaid : Prop := fnExactEndLengthsUptoRow.holds Try.pinned (OpenSpec.upto fnExactEndLengthsSpec)

/-- 'laws.FnExactLyndonParts', WHERE WHAT IT READS IS OF BULK AT MOST 1048576: true; the input reads as it did. -/
def fnExactLyndonPartsUptoRow : OpenClaim := { program := "ytjnpobaampgakad", sum := "760887388fb38937ba1aa618b48e0454ae0efd6a703260777538f7a294e0d2c8", func := "loop.example/g01371/laws.FnExactLyndonParts", spec := "fnExactLyndonParts", unfollowed := true, recurses := true, apart := false, narrowed := true }
def FnExactLyndonPartsUptoSaid : Prop := fnExactLyndonPartsUptoRow.holds Try.pinned (OpenSpec.upto fnExactLyndonPartsSpec)

/-- 'laws.FnExactCriticalPlaces', WHERE WHAT IT READS IS OF BULK AT MOST 1048576: true; the input reads as it did. -/
def fnExactCriticalPlacesUptoRow : OpenClaim := { program := "ytjnpobaampgakad", sum := "760887388fb38937ba1aa618b48e0454ae0efd6a703260777538f7a294e0d2c8", func := "loop.example/g01371/laws.FnExactCriticalPlaces", spec := "fnExactCriticalPlaces", unfollowed := true, recurses := true, apart := false, narrowed := true }
def FnExactCriticalPlacesUptoSaid : Prop := fnExactCriticalPlacesUptoRow.holds Try.pinned (OpenSpec.upto fnExactCriticalPlacesSpec)

/-- 'laws.FnExactFirstSquare', WHERE WHAT IT READS IS OF BULK AT MOST 1048576: true; the input reads as it did. -/
def fnExactFirstSquareUptoRow : OpenClaim := { program := "ytjnpobaampgakad", sum := "760887388fb38937ba1aa618b48e0454ae0efd6a703260777538f7a294e0d2c8", func := "loop.example/g01371/laws.FnExactFirstSquare", spec := "fnExactFirstSquare", unfollowed := true, recurses := true, apart := false, narrowed := true }
def FnExactFirstSquareUptoSaid : Prop := fnExactFirstSquareUptoRow.holds Try.pinned (OpenSpec.upto fnExactFirstSquareSpec)

/-- 'laws.FnExactPowersIn', WHERE WHAT IT READS IS OF BULK AT MOST 1048576: true; the input reads as it did. -/
def fnExactPowersInUptoRow : OpenClaim := { program := "ytjnpobaampgakad", sum := "760887388fb38937ba1aa618b48e0454ae0efd6a703260777538f7a294e0d2c8", func := "loop.example/g01371/laws.FnExactPowersIn", spec := "fnExactPowersIn", unfollowed := true, recurses := true, apart := false, narrowed := true }
def FnExactPowersInUptoSaid : Prop := fnExactPowersInUptoRow.holds Try.pinned (OpenSpec.upto fnExactPowersInSpec)

/-- 'laws.FnExactRunsOf', WHERE WHAT IT READS IS OF BULK AT MOST 1048576: true; the input reads as it did. -/
def fnExactRunsOfUptoRow : OpenClaim := { program := "ytjnpobaampgakad", sum := "760887388fb38937ba1aa618b48e0454ae0efd6a703260777538f7a294e0d2c8", func := "loop.example/g01371/laws.FnExactRunsOf", spec := "fnExactRunsOf", unfollowed := true, recurses := true, apart := false, narrowed := true }
def FnExactRunsOfUptoSaid : Prop := fnExactRunsOfUptoRow.holds Try.pinned (OpenSpec.upto fnExactRunsOfSpec)

/-- 'laws.FnExactLettersNext', WHERE WHAT IT READS IS OF BULK AT MOST 1048576: true; the input reads as it did. -/
def fnExactLettersNextUptoRow : OpenClaim := { program := "ytjnpobaampgakad", sum := "760887388fb38937ba1aa618b48e0454ae0efd6a703260777538f7a294e0d2c8", func := "loop.example/g01371/laws.FnExactLettersNext", spec := "fnExactLettersNext", unfollowed := true, recurses := true, apart := false, narrowed := true }
def FnExactLettersNextUptoSaid : Prop := fnExactLettersNextUptoRow.holds Try.pinned (OpenSpec.upto fnExactLettersNextSpec)

/-- 'laws.FnExactOverlapsIn', WHERE WHAT IT READS IS OF BULK AT MOST 1048576: true; the input reads as it did. -/
def fnExactOverlapsInUptoRow : OpenClaim := { program := "ytjnpobaampgakad", sum := "760887388fb38937ba1aa618b48e0454ae0efd6a703260777538f7a294e0d2c8", func := "loop.example/g01371/laws.FnExactOverlapsIn", spec := "fnExactOverlapsIn", unfollowed := true, recurses := true, apart := false, narrowed := true }
def FnExactOverlapsInUptoSaid : Prop := fnExactOverlapsInUptoRow.holds Try.pinned (OpenSpec.upto fnExactOverlapsInSpec)

/-- 'laws.FnExactPowerOf', WHERE WHAT IT READS IS OF BULK AT MOST 1048576: true; the input reads as it did. -/
def fnExactPowerOfUptoRow : OpenClaim := { program := "ytjnpobaampgakad", sum := "760887388fb38937ba1aa618b48e0454ae0efd6a703260777538f7a294e0d2c8", func := "loop.example/g01371/laws.FnExactPowerOf", spec := "fnExactPowerOf", inPlace := ["internal/abi.NoEscape", "internal/bytealg.MakeNoZero"], unfollowed := true, recurses := true, apart := false, narrowed := true }
def FnExactPowerOfUptoSaid : Prop := fnExactPowerOfUptoRow.holds Try.pinned (OpenSpec.upto fnExactPowerOfSpec)

/-- 'laws.FnExactFactorsOf', WHERE WHAT IT READS IS OF BULK AT MOST 1048576: true; the input reads as it did. -/
def fnExactFactorsOfUptoRow : OpenClaim := { program := "ytjnpobaampgakad", sum := "760887388fb38937ba1aa618b48e0454ae0efd6a703260777538f7a294e0d2c8", func := "loop.example/g01371/laws.FnExactFactorsOf", spec := "fnExactFactorsOf", unfollowed := true, recurses := true, apart := false, narrowed := true }
def FnExactFactorsOfUptoSaid : Prop := fnExactFactorsOfUptoRow.holds Try.pinned (OpenSpec.upto fnExactFactorsOfSpec)

/-- 'laws.FnExactSquaresOf', WHERE WHAT IT READS IS OF BULK AT MOST 1048576: true; the input reads as it did. -/
def fnExactSquaresOfUptoRow : OpenClaim := { program := "ytjnpobaampgakad", sum := "760887388fb38937ba1aa618b48e0454ae0efd6a703260777538f7a294e0d2c8", func := "loop.example/g01371/laws.FnExactSquaresOf", spec := "fnExactSquaresOf", unfollowed := true, recurses := true, apart := false, narrowed := true }
def FnExactSquaresOfUptoSaid : Prop := fnExactSquaresOfUptoRow.holds Try.pinned (OpenSpec.upto fnExactSquaresOfSpec)

end Rows
end Go.Proofs.Ytjnpobaampgakad
