/-
  No cell of these rows narrows 'for every input' (looked for: loops, veiled, ifaces, maps, wideKeys, modest, calm, conditions, laid).
  DERIVED. THE GIVEN ROWS OF THIS SEAT. 12 by the template 'for every input the law returns true; each argument reads behind the call as it read before'; 0 by the template 'total and deterministic' (their statements: YtjnpobaampgakabTotals.lean).
  GIVEN WITH THE SEED: the statements are not yours to turn. If you find one false, say at which input.
  Laid BY PROGRAM, IN A SANDBOX (cutbox-rows.mjs): the forced cells as the released guide's own fill.sh prints them over the translation 9f00b4405c15746c… (all of the seat's roots in one cut). By AI agents, Wed Nov 11 2026. No macro, syntax, notation, axiom, sorry.
-/
import Derived.Test.YtjnpobaampgakabChecked
import GoSem.Claim
import GoSem.ClaimJoined
import GoSem.ClaimMapViews
import Derived.JoinedTies
import Derived.KernelRfl
namespace Go.Proofs.Ytjnpobaampgakab
/- THE CELL 'sum', in the pinned program and in every row, IS THE sha256 OF THE DUMP (.gsa) THAT YtjnpobaampgakabProg.lean LOADS. Nothing in Lean hashes anything: it is a label: what it is worth is what the hold of that sum in a sandbox is worth. -/
noncomputable def Try.pinned : Pinned := { name := "ytjnpobaampgakab", sum := "9f00b4405c15746c9d0a0cfdd3abacda5a917f6a4159edf7a0f4c963ef9c362d", checked := Try.checked }
namespace Rows
def none {H : Type} : Left H := { results := [], args := [] }

/-- 'laws.FnExactWordOfLetters': WHATEVER THE INPUT: true; the input reads as it did. -/
def fnExactWordOfLettersSpec : ChangeSpec := { name := "fnExactWordOfLetters", fn := fun _ => fun
  | [d] => { results := [.lit (.bool true)], args := [d] }
  | _ => none }
def fnExactWordOfLettersRow : OpenClaim := { program := "ytjnpobaampgakab", sum := "9f00b4405c15746c9d0a0cfdd3abacda5a917f6a4159edf7a0f4c963ef9c362d", func := "loop.example/g01371/laws.FnExactWordOfLetters", spec := "fnExactWordOfLetters", unfollowed := true, recurses := true, apart := false }
def FnExactWordOfLettersSaid : Prop := fnExactWordOfLettersRow.holds Try.pinned (OpenSpec.ofChange fnExactWordOfLettersSpec)

/-- ITS FALSE NEIGHBOUR: 'it returns false'. Refute it at one input. -/
def fnExactWordOfLettersWrong : ChangeSpec := { name := "fnExactWordOfLetters", fn := fun _ => fun
  | [d] => { results := [.lit (.bool false)], args := [d] }
  | _ => none }
def FnExactWordOfLettersWrongFalsely : Prop := fnExactWordOfLettersRow.holds Try.pinned (OpenSpec.ofChange fnExactWordOfLettersWrong)

/-- 'laws.FnExactLeastTurned': WHATEVER THE INPUT: true; the input reads as it did. -/
def fnExactLeastTurnedSpec : ChangeSpec := { name := "fnExactLeastTurned", fn := fun _ => fun
  | [d] => { results := [.lit (.bool true)], args := [d] }
  | _ => none }
def fnExactLeastTurnedRow : OpenClaim := { program := "ytjnpobaampgakab", sum := "9f00b4405c15746c9d0a0cfdd3abacda5a917f6a4159edf7a0f4c963ef9c362d", func := "loop.example/g01371/laws.FnExactLeastTurned", spec := "fnExactLeastTurned", unfollowed := true, recurses := true, apart := false }
def FnExactLeastTurnedSaid : Prop := fnExactLeastTurnedRow.holds Try.pinned (OpenSpec.ofChange fnExactLeastTurnedSpec)

/-- ITS FALSE NEIGHBOUR: 'it returns false'. Refute it at one input. -/
def fnExactLeastTurnedWrong : ChangeSpec := { name := "fnExactLeastTurned", fn := fun _ => fun
  | [d] => { results := [.lit (.bool false)], args := [d] }
  | _ => none }
def FnExactLeastTurnedWrongFalsely : Prop := fnExactLeastTurnedRow.holds Try.pinned (OpenSpec.ofChange fnExactLeastTurnedWrong)

/-- 'laws.FnExactCountScattered': WHATEVER THE INPUT: true; the input reads as it did. -/
def fnExactCountScatteredSpec : ChangeSpec := { name := "fnExactCountScattered", fn := fun _ => fun
  | [d1, d2] => { results := [.lit (.bool true)], args := [d1, d2] }
  | _ => none }
def fnExactCountScatteredRow : OpenClaim := { program := "ytjnpobaampgakab", sum := "9f00b4405c15746c9d0a0cfdd3abacda5a917f6a4159edf7a0f4c963ef9c362d", func := "loop.example/g01371/laws.FnExactCountScattered", spec := "fnExactCountScattered", unfollowed := true, recurses := true, apart := false }
def FnExactCountScatteredSaid : Prop := fnExactCountScatteredRow.holds Try.pinned (OpenSpec.ofChange fnExactCountScatteredSpec)

/-- ITS FALSE NEIGHBOUR: 'it returns false'. Refute it at one input. -/
def fnExactCountScatteredWrong : ChangeSpec := { name := "fnExactCountScattered", fn := fun _ => fun
  | [d1, d2] => { results := [.lit (.bool false)], args := [d1, d2] }
  | _ => none }
def FnExactCountScatteredWrongFalsely : Prop := fnExactCountScatteredRow.holds Try.pinned (OpenSpec.ofChange fnExactCountScatteredWrong)

/-- 'laws.FnExactLocalPeriod': WHATEVER THE INPUT: true; the input reads as it did. -/
def fnExactLocalPeriodSpec : ChangeSpec := { name := "fnExactLocalPeriod", fn := fun _ => fun
  | [d1, d2] => { results := [.lit (.bool true)], args := [d1, d2] }
  | _ => none }
def fnExactLocalPeriodRow : OpenClaim := { program := "ytjnpobaampgakab", sum := "9f00b4405c15746c9d0a0cfdd3abacda5a917f6a4159edf7a0f4c963ef9c362d", func := "loop.example/g01371/laws.FnExactLocalPeriod", spec := "fnExactLocalPeriod", unfollowed := true, recurses := true, apart := false }
def FnExactLocalPeriodSaid : Prop := fnExactLocalPeriodRow.holds Try.pinned (OpenSpec.ofChange fnExactLocalPeriodSpec)

/-- ITS FALSE NEIGHBOUR: 'it returns false'. Refute it at one input. -/
def fnExactLocalPeriodWrong : ChangeSpec := { name := "fnExactLocalPeriod", fn := fun _ => fun
  | [d1, d2] => { results := [.lit (.bool false)], args := [d1, d2] }
  | _ => none }
def FnExactLocalPeriodWrongFalsely : Prop := fnExactLocalPeriodRow.holds Try.pinned (OpenSpec.ofChange fnExactLocalPeriodWrong)

/-- 'laws.FnExactCountSquareFree': WHATEVER THE INPUT: true; the input reads as it did. -/
def fnExactCountSquareFreeSpec : ChangeSpec := { name := "fnExactCountSquareFree", fn := fun _ => fun
  | [d1, d2] => { results := [.lit (.bool true)], args := [d1, d2] }
  | _ => none }
def fnExactCountSquareFreeRow : OpenClaim := { program := "ytjnpobaampgakab", sum := "9f00b4405c15746c9d0a0cfdd3abacda5a917f6a4159edf7a0f4c963ef9c362d", func := "loop.example/g01371/laws.FnExactCountSquareFree", spec := "fnExactCountSquareFree", unfollowed := true, recurses := true, apart := false }
def FnExactCountSquareFreeSaid : Prop := fnExactCountSquareFreeRow.holds Try.pinned (OpenSpec.ofChange fnExactCountSquareFreeSpec)

/-- ITS FALSE NEIGHBOUR: 'it returns false'. Refute it at one input. -/
def fnExactCountSquareFreeWrong : ChangeSpec := { name := "fnExactCountSquareFree", fn := fun _ => fun
  | [d1, d2] => { results := [.lit (.bool false)], args := [d1, d2] }
  | _ => none }
def FnExactCountSquareFreeWrongFalsely : Prop := fnExactCountSquareFreeRow.holds Try.pinned (OpenSpec.ofChange fnExactCountSquareFreeWrong)

/-- 'laws.FnExactCommonEnd': WHATEVER THE INPUT: true; the input reads as it did. -/
def fnExactCommonEndSpec : ChangeSpec := { name := "fnExactCommonEnd", fn := fun _ => fun
  | [d1, d2] => { results := [.lit (.bool true)], args := [d1, d2] }
  | _ => none }
def fnExactCommonEndRow : OpenClaim := { program := "ytjnpobaampgakab", sum := "9f00b4405c15746c9d0a0cfdd3abacda5a917f6a4159edf7a0f4c963ef9c362d", func := "loop.example/g01371/laws.FnExactCommonEnd", spec := "fnExactCommonEnd", unfollowed := true, recurses := true, apart := false }
def FnExactCommonEndSaid : Prop := fnExactCommonEndRow.holds Try.pinned (OpenSpec.ofChange fnExactCommonEndSpec)

/-- ITS FALSE NEIGHBOUR: 'it returns false'. Refute it at one input. -/
def fnExactCommonEndWrong : ChangeSpec := { name := "fnExactCommonEnd", fn := fun _ => fun
  | [d1, d2] => { results := [.lit (.bool false)], args := [d1, d2] }
  | _ => none }
def FnExactCommonEndWrongFalsely : Prop := fnExactCommonEndRow.holds Try.pinned (OpenSpec.ofChange fnExactCommonEndWrong)

/-- 'laws.FnExactCountPalindromes': WHATEVER THE INPUT: true; the input reads as it did. -/
def fnExactCountPalindromesSpec : ChangeSpec := { name := "fnExactCountPalindromes", fn := fun _ => fun
  | [d] => { results := [.lit (.bool true)], args := [d] }
  | _ => none }
def fnExactCountPalindromesRow : OpenClaim := { program := "ytjnpobaampgakab", sum := "9f00b4405c15746c9d0a0cfdd3abacda5a917f6a4159edf7a0f4c963ef9c362d", func := "loop.example/g01371/laws.FnExactCountPalindromes", spec := "fnExactCountPalindromes", unfollowed := true, recurses := true, apart := false }
def FnExactCountPalindromesSaid : Prop := fnExactCountPalindromesRow.holds Try.pinned (OpenSpec.ofChange fnExactCountPalindromesSpec)

/-- ITS FALSE NEIGHBOUR: 'it returns false'. Refute it at one input. -/
def fnExactCountPalindromesWrong : ChangeSpec := { name := "fnExactCountPalindromes", fn := fun _ => fun
  | [d] => { results := [.lit (.bool false)], args := [d] }
  | _ => none }
def FnExactCountPalindromesWrongFalsely : Prop := fnExactCountPalindromesRow.holds Try.pinned (OpenSpec.ofChange fnExactCountPalindromesWrong)

/-- 'laws.FnExactIsSquareFree': WHATEVER THE INPUT: true; the input reads as it did. -/
def fnExactIsSquareFreeSpec : ChangeSpec := { name := "fnExactIsSquareFree", fn := fun _ => fun
  | [d] => { results := [.lit (.bool true)], args := [d] }
  | _ => none }
def fnExactIsSquareFreeRow : OpenClaim := { program := "ytjnpobaampgakab", sum := "9f00b4405c15746c9d0a0cfdd3abacda5a917f6a4159edf7a0f4c963ef9c362d", func := "loop.example/g01371/laws.FnExactIsSquareFree", spec := "fnExactIsSquareFree", unfollowed := true, recurses := true, apart := false }
def FnExactIsSquareFreeSaid : Prop := fnExactIsSquareFreeRow.holds Try.pinned (OpenSpec.ofChange fnExactIsSquareFreeSpec)

/-- ITS FALSE NEIGHBOUR: 'it returns false'. Refute it at one input. -/
def fnExactIsSquareFreeWrong : ChangeSpec := { name := "fnExactIsSquareFree", fn := fun _ => fun
  | [d] => { results := [.lit (.bool false)], args := [d] }
  | _ => none }
def FnExactIsSquareFreeWrongFalsely : Prop := fnExactIsSquareFreeRow.holds Try.pinned (OpenSpec.ofChange fnExactIsSquareFreeWrong)

/-- 'laws.FnExactCountTurned': WHATEVER THE INPUT: true; the input reads as it did. -/
def fnExactCountTurnedSpec : ChangeSpec := { name := "fnExactCountTurned", fn := fun _ => fun
  | [d] => { results := [.lit (.bool true)], args := [d] }
  | _ => none }
def fnExactCountTurnedRow : OpenClaim := { program := "ytjnpobaampgakab", sum := "9f00b4405c15746c9d0a0cfdd3abacda5a917f6a4159edf7a0f4c963ef9c362d", func := "loop.example/g01371/laws.FnExactCountTurned", spec := "fnExactCountTurned", unfollowed := true, recurses := true, apart := false }
def FnExactCountTurnedSaid : Prop := fnExactCountTurnedRow.holds Try.pinned (OpenSpec.ofChange fnExactCountTurnedSpec)

/-- ITS FALSE NEIGHBOUR: 'it returns false'. Refute it at one input. -/
def fnExactCountTurnedWrong : ChangeSpec := { name := "fnExactCountTurned", fn := fun _ => fun
  | [d] => { results := [.lit (.bool false)], args := [d] }
  | _ => none }
def FnExactCountTurnedWrongFalsely : Prop := fnExactCountTurnedRow.holds Try.pinned (OpenSpec.ofChange fnExactCountTurnedWrong)

/-- 'laws.FnExactFirstSquareFree': WHATEVER THE INPUT: true; the input reads as it did. -/
def fnExactFirstSquareFreeSpec : ChangeSpec := { name := "fnExactFirstSquareFree", fn := fun _ => fun
  | [d1, d2] => { results := [.lit (.bool true)], args := [d1, d2] }
  | _ => none }
def fnExactFirstSquareFreeRow : OpenClaim := { program := "ytjnpobaampgakab", sum := "9f00b4405c15746c9d0a0cfdd3abacda5a917f6a4159edf7a0f4c963ef9c362d", func := "loop.example/g01371/laws.FnExactFirstSquareFree", spec := "fnExactFirstSquareFree", unfollowed := true, recurses := true, apart := false }
def FnExactFirstSquareFreeSaid : Prop := fnExactFirstSquareFreeRow.holds Try.pinned (OpenSpec.ofChange fnExactFirstSquareFreeSpec)

/-- ITS FALSE NEIGHBOUR: 'it returns false'. Refute it at one input. -/
def fnExactFirstSquareFreeWrong : ChangeSpec := { name := "fnExactFirstSquareFree", fn := fun _ => fun
  | [d1, d2] => { results := [.lit (.bool false)], args := [d1, d2] }
  | _ => none }
def FnExactFirstSquareFreeWrongFalsely : Prop := fnExactFirstSquareFreeRow.holds Try.pinned (OpenSpec.ofChange fnExactFirstSquareFreeWrong)

/-- 'laws.FnExactCountPowers': WHATEVER THE INPUT: true; the input reads as it did. -/
def fnExactCountPowersSpec : ChangeSpec := { name := "fnExactCountPowers", fn := fun _ => fun
  | [d1, d2] => { results := [.lit (.bool true)], args := [d1, d2] }
  | _ => none }
def fnExactCountPowersRow : OpenClaim := { program := "ytjnpobaampgakab", sum := "9f00b4405c15746c9d0a0cfdd3abacda5a917f6a4159edf7a0f4c963ef9c362d", func := "loop.example/g01371/laws.FnExactCountPowers", spec := "fnExactCountPowers", unfollowed := true, recurses := true, apart := false }
def FnExactCountPowersSaid : Prop := fnExactCountPowersRow.holds Try.pinned (OpenSpec.ofChange fnExactCountPowersSpec)

/-- ITS FALSE NEIGHBOUR: 'it returns false'. Refute it at one input. -/
def fnExactCountPowersWrong : ChangeSpec := { name := "fnExactCountPowers", fn := fun _ => fun
  | [d1, d2] => { results := [.lit (.bool false)], args := [d1, d2] }
  | _ => none }
def FnExactCountPowersWrongFalsely : Prop := fnExactCountPowersRow.holds Try.pinned (OpenSpec.ofChange fnExactCountPowersWrong)

/-- 'laws.FnExactIsClosedWord': WHATEVER THE INPUT: true; the input reads as it did. -/
def fnExactIsClosedWordSpec : ChangeSpec := { name := "fnExactIsClosedWord", fn := fun _ => fun
  | [d] => { results := [.lit (.bool true)], args := [d] }
  | _ => none }
def fnExactIsClosedWordRow : OpenClaim := { program := "ytjnpobaampgakab", sum := "9f00b4405c15746c9d0a0cfdd3abacda5a917f6a4159edf7a0f4c963ef9c362d", func := "loop.example/g01371/laws.FnExactIsClosedWord", spec := "fnExactIsClosedWord", unfollowed := true, recurses := true, apart := false }
def FnExactIsClosedWordSaid : Prop := fnExactIsClosedWordRow.holds Try.pinned (OpenSpec.ofChange fnExactIsClosedWordSpec)

/-- ITS FALSE NEIGHBOUR: 'it returns false'. Refute it at one input. -/
def fnExactIsClosedWordWrong : ChangeSpec := { name := "fnExactIsClosedWord", fn := fun _ => fun
  | [d] => { results := [.lit (.bool false)], args := [d] }
  | _ => none }
def FnExactIsClosedWordWrongFalsely : Prop := fnExactIsClosedWordRow.holds Try.pinned (OpenSpec.ofChange fnExactIsClosedWordWrong)

/- THE SECOND FORM. 'bulk': how many values and letters a reading holds, each counted each time it is reached (what is shared counts as often as it is met; a slice's spare places count too). A statement '..UptoSaid' is the law's where the arguments, and the package variables that the reading takes, are together of bulk at most 1048576: NARROWER than '..Said'. Prove '..Said' where nothing that the law and all that it calls make is longer than what came in: it says more and counts as full. Else prove '..UptoSaid'. A law counts once. -/
mutual
def uptoBulk {H : Type} : DataW H → Nat
  | .lit (.string bytes) => bytes.length + 1
  | .lit _ => 1
  | .nil => 1
  | .ptr d => uptoBulk d + 1
  | .slice elems spare => uptoBulkAll elems + uptoBulkAll spare + 1
  | .agg parts => uptoBulkAll parts + 1
  | .iface _ d => uptoBulk d + 1
  | .map entries => uptoBulkEntries entries + 1
  | .held _ => 1
def uptoBulkAll {H : Type} : List (DataW H) → Nat
  | [] => 0
  | d :: r => uptoBulk d + uptoBulkAll r
def uptoBulkEntries {H : Type} : List (Lit × DataW H) → Nat
  | [] => 0
  | x :: r => uptoBulkEntry x + uptoBulkEntries r
def uptoBulkEntry {H : Type} : Lit × DataW H → Nat
  | (.string bytes, d) => bytes.length + uptoBulk d + 1
  | (_, d) => uptoBulk d + 1
 end
def uptoSmall : (H : Type) → List (DataW H) → Bool := fun _ ds => decide (uptoBulkAll ds ≤ 1048576)
def OpenSpec.upto (s : _root_.Go.ChangeSpec) : _root_.Go.OpenSpec := { _root_.Go.OpenSpec.ofChange s with cond := some uptoSmall }

/-- 'laws.FnExactWordOfLetters', WHERE WHAT IT READS IS OF BULK AT MOST 1048576: true; the input reads as it did. -/
def fnExactWordOfLettersUptoRow : OpenClaim := { program := "ytjnpobaampgakab", sum := "9f00b4405c15746c9d0a0cfdd3abacda5a917f6a4159edf7a0f4c963ef9c362d", func := "loop.example/g01371/laws.FnExactWordOfLetters", spec := "fnExactWordOfLetters", unfollowed := true, recurses := true, apart := false, narrowed := true }
def FnExactWordOfLettersUptoSaid : Prop := fnExactWordOfLettersUptoRow.holds Try.pinned (OpenSpec.upto fnExactWordOfLettersSpec)

/-- 'laws.FnExactLeastTurned', WHERE WHAT IT READS IS OF BULK AT MOST 1048576: true; the input reads as it did. -/
def fnExactLeastTurnedUptoRow : OpenClaim := { program := "ytjnpobaampgakab", sum := "9f00b4405c15746c9d0a0cfdd3abacda5a917f6a4159edf7a0f4c963ef9c362d", func := "loop.example/g01371/laws.FnExactLeastTurned", spec := "fnExactLeastTurned", unfollowed := true, recurses := true, apart := false, narrowed := true }
def FnExactLeastTurnedUptoSaid : Prop := fnExactLeastTurnedUptoRow.holds Try.pinned (OpenSpec.upto fnExactLeastTurnedSpec)

/-- 'laws.FnExactCountScattered', WHERE WHAT IT READS IS OF BULK AT MOST 1048576: true; the input reads as it did. -/
def fnExactCountScatteredUptoRow : OpenClaim := { program := "ytjnpobaampgakab", sum := "9f00b4405c15746c9d0a0cfdd3abacda5a917f6a4159edf7a0f4c963ef9c362d", func := "loop.example/g01371/laws.FnExactCountScattered", spec := "fnExactCountScattered", unfollowed := true, recurses := true, apart := false, narrowed := true }
def FnExactCountScatteredUptoSaid : Prop := fnExactCountScatteredUptoRow.holds Try.pinned (OpenSpec.upto fnExactCountScatteredSpec)

/-- 'laws.FnExactLocalPeriod', WHERE WHAT IT READS IS OF BULK AT MOST 1048576: true; the input reads as it did. -/
def fnExactLocalPeriodUptoRow : OpenClaim := { program := "ytjnpobaampgakab", sum := "9f00b4405c15746c9d0a0cfdd3abacda5a917f6a4159edf7a0f4c963ef9c362d", func := "loop.example/g01371/laws.FnExactLocalPeriod", spec := "fnExactLocalPeriod", unfollowed := true, recurses := true, apart := false, narrowed := true }
def FnExactLocalPeriodUptoSaid : Prop := fnExactLocalPeriodUptoRow.holds Try.pinned (OpenSpec.upto fnExactLocalPeriodSpec)

/-- 'laws.FnExactCountSquareFree', WHERE WHAT IT READS IS OF BULK AT MOST 1048576: true; the input reads as it did. -/
def fnExactCountSquareFreeUptoRow : OpenClaim := { program := "ytjnpobaampgakab", sum := "9f00b4405c15746c9d0a0cfdd3abacda5a917f6a4159edf7a0f4c963ef9c362d", func := "loop.example/g01371/laws.FnExactCountSquareFree", spec := "fnExactCountSquareFree", unfollowed := true, recurses := true, apart := false, narrowed := true }
def FnExactCountSquareFreeUptoSaid : Prop := fnExactCountSquareFreeUptoRow.holds Try.pinned (OpenSpec.upto fnExactCountSquareFreeSpec)

/-- 'laws.FnExactCommonEnd', WHERE WHAT IT READS IS OF BULK AT MOST 1048576: true; the input reads as it did. -/
def fnExactCommonEndUptoRow : OpenClaim := { program := "ytjnpobaampgakab", sum := "9f00b4405c15746c9d0a0cfdd3abacda5a917f6a4159edf7a0f4c963ef9c362d", func := "loop.example/g01371/laws.FnExactCommonEnd", spec := "fnExactCommonEnd", unfollowed := true, recurses := true, apart := false, narrowed := true }
def FnExactCommonEndUptoSaid : Prop := fnExactCommonEndUptoRow.holds Try.pinned (OpenSpec.upto fnExactCommonEndSpec)

/-- 'laws.FnExactCountPalindromes', WHERE WHAT IT READS IS OF BULK AT MOST 1048576: true; the input reads as it did. -/
def fnExactCountPalindromesUptoRow : OpenClaim := { program := "ytjnpobaampgakab", sum := "9f00b4405c15746c9d0a0cfdd3abacda5a917f6a4159edf7a0f4c963ef9c362d", func := "loop.example/g01371/laws.FnExactCountPalindromes", spec := "fnExactCountPalindromes", unfollowed := true, recurses := true, apart := false, narrowed := true }
def FnExactCountPalindromesUptoSaid : Prop := fnExactCountPalindromesUptoRow.holds Try.pinned (OpenSpec.upto fnExactCountPalindromesSpec)

/-- 'laws.FnExactIsSquareFree', WHERE WHAT IT READS IS OF BULK AT MOST 1048576: true; the input reads as it did. -/
def fnExactIsSquareFreeUptoRow : OpenClaim := { program := "ytjnpobaampgakab", sum := "9f00b4405c15746c9d0a0cfdd3abacda5a917f6a4159edf7a0f4c963ef9c362d", func := "loop.example/g01371/laws.FnExactIsSquareFree", spec := "fnExactIsSquareFree", unfollowed := true, recurses := true, apart := false, narrowed := true }
def FnExactIsSquareFreeUptoSaid : Prop := fnExactIsSquareFreeUptoRow.holds Try.pinned (OpenSpec.upto fnExactIsSquareFreeSpec)

/-- 'laws.FnExactCountTurned', WHERE WHAT IT READS IS OF BULK AT MOST 1048576: true; the input reads as it did. -/
def fnExactCountTurnedUptoRow : OpenClaim := { program := "ytjnpobaampgakab", sum := "9f00b4405c15746c9d0a0cfdd3abacda5a917f6a4159edf7a0f4c963ef9c362d", func := "loop.example/g01371/laws.FnExactCountTurned", spec := "fnExactCountTurned", unfollowed := true, recurses := true, apart := false, narrowed := true }
def FnExactCountTurnedUptoSaid : Prop := fnExactCountTurnedUptoRow.holds Try.pinned (OpenSpec.upto fnExactCountTurnedSpec)

/-- 'laws.FnExactFirstSquareFree', WHERE WHAT IT READS IS OF BULK AT MOST 1048576: true; the input reads as it did. -/
def fnExactFirstSquareFreeUptoRow : OpenClaim := { program := "ytjnpobaampgakab", sum := "9f00b4405c15746c9d0a0cfdd3abacda5a917f6a4159edf7a0f4c963ef9c362d", func := "loop.example/g01371/laws.FnExactFirstSquareFree", spec := "fnExactFirstSquareFree", unfollowed := true, recurses := true, apart := false, narrowed := true }
def FnExactFirstSquareFreeUptoSaid : Prop := fnExactFirstSquareFreeUptoRow.holds Try.pinned (OpenSpec.upto fnExactFirstSquareFreeSpec)

/-- 'laws.FnExactCountPowers', WHERE WHAT IT READS IS OF BULK AT MOST 1048576: true; the input reads as it did. -/
def fnExactCountPowersUptoRow : OpenClaim := { program := "ytjnpobaampgakab", sum := "9f00b4405c15746c9d0a0cfdd3abacda5a917f6a4159edf7a0f4c963ef9c362d", func := "loop.example/g01371/laws.FnExactCountPowers", spec := "fnExactCountPowers", unfollowed := true, recurses := true, apart := false, narrowed := true }
def FnExactCountPowersUptoSaid : Prop := fnExactCountPowersUptoRow.holds Try.pinned (OpenSpec.upto fnExactCountPowersSpec)

/-- 'laws.FnExactIsClosedWord', WHERE WHAT IT READS IS OF BULK AT MOST 1048576: true; the input reads as it did. -/
def fnExactIsClosedWordUptoRow : OpenClaim := { program := "ytjnpobaampgakab", sum := "9f00b4405c15746c9d0a0cfdd3abacda5a917f6a4159edf7a0f4c963ef9c362d", func := "loop.example/g01371/laws.FnExactIsClosedWord", spec := "fnExactIsClosedWord", unfollowed := true, recurses := true, apart := false, narrowed := true }
def FnExactIsClosedWordUptoSaid : Prop := fnExactIsClosedWordUptoRow.holds Try.pinned (OpenSpec.upto fnExactIsClosedWordSpec)

end Rows
end Go.Proofs.Ytjnpobaampgakab
