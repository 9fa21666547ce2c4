/-
  No cell of these rows narrows 'for every input' (looked for: loops, veiled, ifaces, maps, wideKeys, modest, calm, conditions, laid).
  DERIVED. THE GIVEN ROWS OF THIS SEAT. 12 by the template 'for every input the law returns true; each argument reads behind the call as it read before'; 0 by the template 'total and deterministic' (their statements: YtjnpobaampgakaaTotals.lean).
  GIVEN WITH THE SEED: the statements are not yours to turn. If you find one false, say at which input.
  Laid BY PROGRAM, IN A SANDBOX (cutbox-rows.mjs): the forced cells as the released guide's own fill.sh prints them over the translation d233e2e95c0f25e3… (all of the seat's roots in one cut). By AI agents, Wed Nov 11 2026. No macro, syntax, notation, axiom, sorry.
-/
import Derived.Test.YtjnpobaampgakaaChecked
import GoSem.Claim
import GoSem.ClaimJoined
import GoSem.ClaimMapViews
import Derived.JoinedTies
import Derived.KernelRfl
namespace Go.Proofs.Ytjnpobaampgakaa
/- THE CELL 'sum', in the pinned program and in every row, IS THE sha256 OF THE DUMP (.gsa) THAT YtjnpobaampgakaaProg.lean LOADS. Nothing in Lean hashes anything: it is a label: what it is worth is what the hold of that sum in a sandbox is worth. -/
noncomputable def Try.pinned : Pinned := { name := "ytjnpobaampgakaa", sum := "d233e2e95c0f25e3ff97fde10b1d29ec8931e15b684004cafc332317e4b27f91", checked := Try.checked }
namespace Rows
def none {H : Type} : Left H := { results := [], args := [] }

/-- 'laws.FnExactConstants': WHATEVER THE INPUT: true; the input reads as it did. -/
def fnExactConstantsSpec : ChangeSpec := { name := "fnExactConstants", fn := fun _ => fun
  | [] => { results := [.lit (.bool true)], args := [] }
  | _ => none }
def fnExactConstantsRow : OpenClaim := { program := "ytjnpobaampgakaa", sum := "d233e2e95c0f25e3ff97fde10b1d29ec8931e15b684004cafc332317e4b27f91", func := "loop.example/g01371/laws.FnExactConstants", spec := "fnExactConstants", apart := false }
def FnExactConstantsSaid : Prop := fnExactConstantsRow.holds Try.pinned (OpenSpec.ofChange fnExactConstantsSpec)

/-- ITS FALSE NEIGHBOUR: 'it returns false'. Refute it at one input. -/
def fnExactConstantsWrong : ChangeSpec := { name := "fnExactConstants", fn := fun _ => fun
  | [] => { results := [.lit (.bool false)], args := [] }
  | _ => none }
def FnExactConstantsWrongFalsely : Prop := fnExactConstantsRow.holds Try.pinned (OpenSpec.ofChange fnExactConstantsWrong)

/-- 'laws.FnExactIsWord': WHATEVER THE INPUT: true; the input reads as it did. -/
def fnExactIsWordSpec : ChangeSpec := { name := "fnExactIsWord", fn := fun _ => fun
  | [d] => { results := [.lit (.bool true)], args := [d] }
  | _ => none }
def fnExactIsWordRow : OpenClaim := { program := "ytjnpobaampgakaa", sum := "d233e2e95c0f25e3ff97fde10b1d29ec8931e15b684004cafc332317e4b27f91", func := "loop.example/g01371/laws.FnExactIsWord", spec := "fnExactIsWord", unfollowed := true, recurses := true, apart := false }
def FnExactIsWordSaid : Prop := fnExactIsWordRow.holds Try.pinned (OpenSpec.ofChange fnExactIsWordSpec)

/-- ITS FALSE NEIGHBOUR: 'it returns false'. Refute it at one input. -/
def fnExactIsWordWrong : ChangeSpec := { name := "fnExactIsWord", fn := fun _ => fun
  | [d] => { results := [.lit (.bool false)], args := [d] }
  | _ => none }
def FnExactIsWordWrongFalsely : Prop := fnExactIsWordRow.holds Try.pinned (OpenSpec.ofChange fnExactIsWordWrong)

/-- 'laws.FnExactDoubleLength': WHATEVER THE INPUT: true; the input reads as it did. -/
def fnExactDoubleLengthSpec : ChangeSpec := { name := "fnExactDoubleLength", fn := fun _ => fun
  | [d1, d2] => { results := [.lit (.bool true)], args := [d1, d2] }
  | _ => none }
def fnExactDoubleLengthRow : OpenClaim := { program := "ytjnpobaampgakaa", sum := "d233e2e95c0f25e3ff97fde10b1d29ec8931e15b684004cafc332317e4b27f91", func := "loop.example/g01371/laws.FnExactDoubleLength", spec := "fnExactDoubleLength", apart := false }
def FnExactDoubleLengthSaid : Prop := fnExactDoubleLengthRow.holds Try.pinned (OpenSpec.ofChange fnExactDoubleLengthSpec)

/-- ITS FALSE NEIGHBOUR: 'it returns false'. Refute it at one input. -/
def fnExactDoubleLengthWrong : ChangeSpec := { name := "fnExactDoubleLength", fn := fun _ => fun
  | [d1, d2] => { results := [.lit (.bool false)], args := [d1, d2] }
  | _ => none }
def FnExactDoubleLengthWrongFalsely : Prop := fnExactDoubleLengthRow.holds Try.pinned (OpenSpec.ofChange fnExactDoubleLengthWrong)

/-- 'laws.FnExactFactorAt': WHATEVER THE INPUT: true; the input reads as it did. -/
def fnExactFactorAtSpec : ChangeSpec := { name := "fnExactFactorAt", fn := fun _ => fun
  | [d1, d2, d3] => { results := [.lit (.bool true)], args := [d1, d2, d3] }
  | _ => none }
def fnExactFactorAtRow : OpenClaim := { program := "ytjnpobaampgakaa", sum := "d233e2e95c0f25e3ff97fde10b1d29ec8931e15b684004cafc332317e4b27f91", func := "loop.example/g01371/laws.FnExactFactorAt", spec := "fnExactFactorAt", unfollowed := true, recurses := true, apart := false }
def FnExactFactorAtSaid : Prop := fnExactFactorAtRow.holds Try.pinned (OpenSpec.ofChange fnExactFactorAtSpec)

/-- ITS FALSE NEIGHBOUR: 'it returns false'. Refute it at one input. -/
def fnExactFactorAtWrong : ChangeSpec := { name := "fnExactFactorAt", fn := fun _ => fun
  | [d1, d2, d3] => { results := [.lit (.bool false)], args := [d1, d2, d3] }
  | _ => none }
def FnExactFactorAtWrongFalsely : Prop := fnExactFactorAtRow.holds Try.pinned (OpenSpec.ofChange fnExactFactorAtWrong)

/-- 'laws.FnExactTurnWord': WHATEVER THE INPUT: true; the input reads as it did. -/
def fnExactTurnWordSpec : ChangeSpec := { name := "fnExactTurnWord", fn := fun _ => fun
  | [d1, d2] => { results := [.lit (.bool true)], args := [d1, d2] }
  | _ => none }
def fnExactTurnWordRow : OpenClaim := { program := "ytjnpobaampgakaa", sum := "d233e2e95c0f25e3ff97fde10b1d29ec8931e15b684004cafc332317e4b27f91", func := "loop.example/g01371/laws.FnExactTurnWord", spec := "fnExactTurnWord", unfollowed := true, recurses := true, apart := false }
def FnExactTurnWordSaid : Prop := fnExactTurnWordRow.holds Try.pinned (OpenSpec.ofChange fnExactTurnWordSpec)

/-- ITS FALSE NEIGHBOUR: 'it returns false'. Refute it at one input. -/
def fnExactTurnWordWrong : ChangeSpec := { name := "fnExactTurnWord", fn := fun _ => fun
  | [d1, d2] => { results := [.lit (.bool false)], args := [d1, d2] }
  | _ => none }
def FnExactTurnWordWrongFalsely : Prop := fnExactTurnWordRow.holds Try.pinned (OpenSpec.ofChange fnExactTurnWordWrong)

/-- 'laws.FnExactProductOf': WHATEVER THE INPUT: true; the input reads as it did. -/
def fnExactProductOfSpec : ChangeSpec := { name := "fnExactProductOf", fn := fun _ => fun
  | [d1, d2] => { results := [.lit (.bool true)], args := [d1, d2] }
  | _ => none }
def fnExactProductOfRow : OpenClaim := { program := "ytjnpobaampgakaa", sum := "d233e2e95c0f25e3ff97fde10b1d29ec8931e15b684004cafc332317e4b27f91", func := "loop.example/g01371/laws.FnExactProductOf", spec := "fnExactProductOf", unfollowed := true, recurses := true, apart := false }
def FnExactProductOfSaid : Prop := fnExactProductOfRow.holds Try.pinned (OpenSpec.ofChange fnExactProductOfSpec)

/-- ITS FALSE NEIGHBOUR: 'it returns false'. Refute it at one input. -/
def fnExactProductOfWrong : ChangeSpec := { name := "fnExactProductOf", fn := fun _ => fun
  | [d1, d2] => { results := [.lit (.bool false)], args := [d1, d2] }
  | _ => none }
def FnExactProductOfWrongFalsely : Prop := fnExactProductOfRow.holds Try.pinned (OpenSpec.ofChange fnExactProductOfWrong)

/-- 'laws.FnExactCompareWords': WHATEVER THE INPUT: true; the input reads as it did. -/
def fnExactCompareWordsSpec : ChangeSpec := { name := "fnExactCompareWords", fn := fun _ => fun
  | [d1, d2] => { results := [.lit (.bool true)], args := [d1, d2] }
  | _ => none }
def fnExactCompareWordsRow : OpenClaim := { program := "ytjnpobaampgakaa", sum := "d233e2e95c0f25e3ff97fde10b1d29ec8931e15b684004cafc332317e4b27f91", func := "loop.example/g01371/laws.FnExactCompareWords", spec := "fnExactCompareWords", inPlace := ["internal/bytealg.abigen_runtime_cmpstring"], unfollowed := true, recurses := true, apart := false }
def FnExactCompareWordsSaid : Prop := fnExactCompareWordsRow.holds Try.pinned (OpenSpec.ofChange fnExactCompareWordsSpec)

/-- ITS FALSE NEIGHBOUR: 'it returns false'. Refute it at one input. -/
def fnExactCompareWordsWrong : ChangeSpec := { name := "fnExactCompareWords", fn := fun _ => fun
  | [d1, d2] => { results := [.lit (.bool false)], args := [d1, d2] }
  | _ => none }
def FnExactCompareWordsWrongFalsely : Prop := fnExactCompareWordsRow.holds Try.pinned (OpenSpec.ofChange fnExactCompareWordsWrong)

/-- 'laws.FnExactIsScattered': WHATEVER THE INPUT: true; the input reads as it did. -/
def fnExactIsScatteredSpec : ChangeSpec := { name := "fnExactIsScattered", fn := fun _ => fun
  | [d1, d2] => { results := [.lit (.bool true)], args := [d1, d2] }
  | _ => none }
def fnExactIsScatteredRow : OpenClaim := { program := "ytjnpobaampgakaa", sum := "d233e2e95c0f25e3ff97fde10b1d29ec8931e15b684004cafc332317e4b27f91", func := "loop.example/g01371/laws.FnExactIsScattered", spec := "fnExactIsScattered", unfollowed := true, recurses := true, apart := false }
def FnExactIsScatteredSaid : Prop := fnExactIsScatteredRow.holds Try.pinned (OpenSpec.ofChange fnExactIsScatteredSpec)

/-- ITS FALSE NEIGHBOUR: 'it returns false'. Refute it at one input. -/
def fnExactIsScatteredWrong : ChangeSpec := { name := "fnExactIsScattered", fn := fun _ => fun
  | [d1, d2] => { results := [.lit (.bool false)], args := [d1, d2] }
  | _ => none }
def FnExactIsScatteredWrongFalsely : Prop := fnExactIsScatteredRow.holds Try.pinned (OpenSpec.ofChange fnExactIsScatteredWrong)

/-- 'laws.FnExactCommonBeginning': WHATEVER THE INPUT: true; the input reads as it did. -/
def fnExactCommonBeginningSpec : ChangeSpec := { name := "fnExactCommonBeginning", fn := fun _ => fun
  | [d1, d2] => { results := [.lit (.bool true)], args := [d1, d2] }
  | _ => none }
def fnExactCommonBeginningRow : OpenClaim := { program := "ytjnpobaampgakaa", sum := "d233e2e95c0f25e3ff97fde10b1d29ec8931e15b684004cafc332317e4b27f91", func := "loop.example/g01371/laws.FnExactCommonBeginning", spec := "fnExactCommonBeginning", unfollowed := true, recurses := true, apart := false }
def FnExactCommonBeginningSaid : Prop := fnExactCommonBeginningRow.holds Try.pinned (OpenSpec.ofChange fnExactCommonBeginningSpec)

/-- ITS FALSE NEIGHBOUR: 'it returns false'. Refute it at one input. -/
def fnExactCommonBeginningWrong : ChangeSpec := { name := "fnExactCommonBeginning", fn := fun _ => fun
  | [d1, d2] => { results := [.lit (.bool false)], args := [d1, d2] }
  | _ => none }
def FnExactCommonBeginningWrongFalsely : Prop := fnExactCommonBeginningRow.holds Try.pinned (OpenSpec.ofChange fnExactCommonBeginningWrong)

/-- 'laws.FnExactIsLyndon': WHATEVER THE INPUT: true; the input reads as it did. -/
def fnExactIsLyndonSpec : ChangeSpec := { name := "fnExactIsLyndon", fn := fun _ => fun
  | [d] => { results := [.lit (.bool true)], args := [d] }
  | _ => none }
def fnExactIsLyndonRow : OpenClaim := { program := "ytjnpobaampgakaa", sum := "d233e2e95c0f25e3ff97fde10b1d29ec8931e15b684004cafc332317e4b27f91", func := "loop.example/g01371/laws.FnExactIsLyndon", spec := "fnExactIsLyndon", unfollowed := true, recurses := true, apart := false }
def FnExactIsLyndonSaid : Prop := fnExactIsLyndonRow.holds Try.pinned (OpenSpec.ofChange fnExactIsLyndonSpec)

/-- ITS FALSE NEIGHBOUR: 'it returns false'. Refute it at one input. -/
def fnExactIsLyndonWrong : ChangeSpec := { name := "fnExactIsLyndon", fn := fun _ => fun
  | [d] => { results := [.lit (.bool false)], args := [d] }
  | _ => none }
def FnExactIsLyndonWrongFalsely : Prop := fnExactIsLyndonRow.holds Try.pinned (OpenSpec.ofChange fnExactIsLyndonWrong)

/-- 'laws.FnExactReverseOf': WHATEVER THE INPUT: true; the input reads as it did. -/
def fnExactReverseOfSpec : ChangeSpec := { name := "fnExactReverseOf", fn := fun _ => fun
  | [d] => { results := [.lit (.bool true)], args := [d] }
  | _ => none }
def fnExactReverseOfRow : OpenClaim := { program := "ytjnpobaampgakaa", sum := "d233e2e95c0f25e3ff97fde10b1d29ec8931e15b684004cafc332317e4b27f91", func := "loop.example/g01371/laws.FnExactReverseOf", spec := "fnExactReverseOf", unfollowed := true, recurses := true, apart := false }
def FnExactReverseOfSaid : Prop := fnExactReverseOfRow.holds Try.pinned (OpenSpec.ofChange fnExactReverseOfSpec)

/-- ITS FALSE NEIGHBOUR: 'it returns false'. Refute it at one input. -/
def fnExactReverseOfWrong : ChangeSpec := { name := "fnExactReverseOf", fn := fun _ => fun
  | [d] => { results := [.lit (.bool false)], args := [d] }
  | _ => none }
def FnExactReverseOfWrongFalsely : Prop := fnExactReverseOfRow.holds Try.pinned (OpenSpec.ofChange fnExactReverseOfWrong)

/-- 'laws.FnExactIsPalindrome': WHATEVER THE INPUT: true; the input reads as it did. -/
def fnExactIsPalindromeSpec : ChangeSpec := { name := "fnExactIsPalindrome", fn := fun _ => fun
  | [d] => { results := [.lit (.bool true)], args := [d] }
  | _ => none }
def fnExactIsPalindromeRow : OpenClaim := { program := "ytjnpobaampgakaa", sum := "d233e2e95c0f25e3ff97fde10b1d29ec8931e15b684004cafc332317e4b27f91", func := "loop.example/g01371/laws.FnExactIsPalindrome", spec := "fnExactIsPalindrome", unfollowed := true, recurses := true, apart := false }
def FnExactIsPalindromeSaid : Prop := fnExactIsPalindromeRow.holds Try.pinned (OpenSpec.ofChange fnExactIsPalindromeSpec)

/-- ITS FALSE NEIGHBOUR: 'it returns false'. Refute it at one input. -/
def fnExactIsPalindromeWrong : ChangeSpec := { name := "fnExactIsPalindrome", fn := fun _ => fun
  | [d] => { results := [.lit (.bool false)], args := [d] }
  | _ => none }
def FnExactIsPalindromeWrongFalsely : Prop := fnExactIsPalindromeRow.holds Try.pinned (OpenSpec.ofChange fnExactIsPalindromeWrong)

/- THE SECOND FORM. 'bulk': how many values and letters a reading holds, each counted each time it is reached (what is shared counts as often as it is met; a slice's spare places count too). A statement '..UptoSaid' is the law's where the arguments, and the package variables that the reading takes, are together of bulk at most 1048576: NARROWER than '..Said'. Prove '..Said' where nothing that the law and all that it calls make is longer than what came in: it says more and counts as full. Else prove '..UptoSaid'. A law counts once. -/
mutual
def uptoBulk {H : Type} : DataW H → Nat
  | .lit (.string bytes) => bytes.length + 1
  | .lit _ => 1
  | .nil => 1
  | .ptr d => uptoBulk d + 1
  | .slice elems spare => uptoBulkAll elems + uptoBulkAll spare + 1
  | .agg parts => uptoBulkAll parts + 1
  | .iface _ d => uptoBulk d + 1
  | .map entries => uptoBulkEntries entries + 1
  | .held _ => 1
def uptoBulkAll {H : Type} : List (DataW H) → Nat
  | [] => 0
  | d :: r => uptoBulk d + uptoBulkAll r
def uptoBulkEntries {H : Type} : List (Lit × DataW H) → Nat
  | [] => 0
  | x :: r => uptoBulkEntry x + uptoBulkEntries r
def uptoBulkEntry {H : Type} : Lit × DataW H → Nat
  | (.string bytes, d) => bytes.length + uptoBulk d + 1
  | (_, d) => uptoBulk d + 1
 end
def uptoSmall : (H : Type) → List (DataW H) → Bool := fun _ ds => decide (uptoBulkAll ds ≤ 1048576)
def OpenSpec.upto (s : _root_.Go.ChangeSpec) : _root_.Go.OpenSpec := { _root_.Go.OpenSpec.ofChange s with cond := some uptoSmall }

/-- 'laws.FnExactConstants', WHERE WHAT IT READS IS OF BULK AT MOST 1048576: true; the input reads as it did. -/
def fnExactConstantsUptoRow : OpenClaim := { program := "ytjnpobaampgakaa", sum := "d233e2e95c0f25e3ff97fde10b1d29ec8931e15b684004cafc332317e4b27f91", func := "loop.example/g01371/laws.FnExactConstants", spec := "fnExactConstants", apart := false, narrowed := true }
def FnExactConstantsUptoSaid : Prop := fnExactConstantsUptoRow.holds Try.pinned (OpenSpec.upto fnExactConstantsSpec)

/-- 'laws.FnExactIsWord', WHERE WHAT IT READS IS OF BULK AT MOST 1048576: true; the input reads as it did. -/
def fnExactIsWordUptoRow : OpenClaim := { program := "ytjnpobaampgakaa", sum := "d233e2e95c0f25e3ff97fde10b1d29ec8931e15b684004cafc332317e4b27f91", func := "loop.example/g01371/laws.FnExactIsWord", spec := "fnExactIsWord", unfollowed := true, recurses := true, apart := false, narrowed := true }
def FnExactIsWordUptoSaid : Prop := fnExactIsWordUptoRow.holds Try.pinned (OpenSpec.upto fnExactIsWordSpec)

/-- 'laws.FnExactDoubleLength', WHERE WHAT IT READS IS OF BULK AT MOST 1048576: true; the input reads as it did. -/
def fnExactDoubleLengthUptoRow : OpenClaim := { program := "ytjnpobaampgakaa", sum := "d233e2e95c0f25e3ff97fde10b1d29ec8931e15b684004cafc332317e4b27f91", func := "loop.example/g01371/laws.FnExactDoubleLength", spec := "fnExactDoubleLength", apart := false, narrowed := true }
def FnExactDoubleLengthUptoSaid : Prop := fnExactDoubleLengthUptoRow.holds Try.pinned (OpenSpec.upto fnExactDoubleLengthSpec)

/-- 'laws.FnExactFactorAt', WHERE WHAT IT READS IS OF BULK AT MOST 1048576: true; the input reads as it did. -/
def fnExactFactorAtUptoRow : OpenClaim := { program := "ytjnpobaampgakaa", sum := "d233e2e95c0f25e3ff97fde10b1d29ec8931e15b684004cafc332317e4b27f91", func := "loop.example/g01371/laws.FnExactFactorAt", spec := "fnExactFactorAt", unfollowed := true, recurses := true, apart := false, narrowed := true }
def FnExactFactorAtUptoSaid : Prop := fnExactFactorAtUptoRow.holds Try.pinned (OpenSpec.upto fnExactFactorAtSpec)

/-- 'laws.FnExactTurnWord', WHERE WHAT IT READS IS OF BULK AT MOST 1048576: true; the input reads as it did. -/
def fnExactTurnWordUptoRow : OpenClaim := { program := "ytjnpobaampgakaa", sum := "d233e2e95c0f25e3ff97fde10b1d29ec8931e15b684004cafc332317e4b27f91", func := "loop.example/g01371/laws.FnExactTurnWord", spec := "fnExactTurnWord", unfollowed := true, recurses := true, apart := false, narrowed := true }
def FnExactTurnWordUptoSaid : Prop := fnExactTurnWordUptoRow.holds Try.pinned (OpenSpec.upto fnExactTurnWordSpec)

/-- 'laws.FnExactProductOf', WHERE WHAT IT READS IS OF BULK AT MOST 1048576: true; the input reads as it did. -/
def fnExactProductOfUptoRow : OpenClaim := { program := "ytjnpobaampgakaa", sum := "d233e2e95c0f25e3ff97fde10b1d29ec8931e15b684004cafc332317e4b27f91", func := "loop.example/g01371/laws.FnExactProductOf", spec := "fnExactProductOf", unfollowed := true, recurses := true, apart := false, narrowed := true }
def FnExactProductOfUptoSaid : Prop := fnExactProductOfUptoRow.holds Try.pinned (OpenSpec.upto fnExactProductOfSpec)

/-- 'laws.FnExactCompareWords', WHERE WHAT IT READS IS OF BULK AT MOST 1048576: true; the input reads as it did. -/
def fnExactCompareWordsUptoRow : OpenClaim := { program := "ytjnpobaampgakaa", sum := "d233e2e95c0f25e3ff97fde10b1d29ec8931e15b684004cafc332317e4b27f91", func := "loop.example/g01371/laws.FnExactCompareWords", spec := "fnExactCompareWords", inPlace := ["internal/bytealg.abigen_runtime_cmpstring"], unfollowed := true, recurses := true, apart := false, narrowed := true }
def FnExactCompareWordsUptoSaid : Prop := fnExactCompareWordsUptoRow.holds Try.pinned (OpenSpec.upto fnExactCompareWordsSpec)

/-- 'laws.FnExactIsScattered', WHERE WHAT IT READS IS OF BULK AT MOST 1048576: true; the input reads as it did. -/
def fnExactIsScatteredUptoRow : OpenClaim := { program := "ytjnpobaampgakaa", sum := "d233e2e95c0f25e3ff97fde10b1d29ec8931e15b684004cafc332317e4b27f91", func := "loop.example/g01371/laws.FnExactIsScattered", spec := "fnExactIsScattered", unfollowed := true, recurses := true, apart := false, narrowed := true }
def FnExactIsScatteredUptoSaid : Prop := fnExactIsScatteredUptoRow.holds Try.pinned (OpenSpec.upto fnExactIsScatteredSpec)

/-- 'laws.FnExactCommonBeginning', WHERE WHAT IT READS IS OF BULK AT MOST 1048576: true; the input reads as it did. -/
def fnExactCommonBeginningUptoRow : OpenClaim := { program := "ytjnpobaampgakaa", sum := "d233e2e95c0f25e3ff97fde10b1d29ec8931e15b684004cafc332317e4b27f91", func := "loop.example/g01371/laws.FnExactCommonBeginning", spec := "fnExactCommonBeginning", unfollowed := true, recurses := true, apart := false, narrowed := true }
def FnExactCommonBeginningUptoSaid : Prop := fnExactCommonBeginningUptoRow.holds Try.pinned (OpenSpec.upto fnExactCommonBeginningSpec)

/-- 'laws.FnExactIsLyndon', WHERE WHAT IT READS IS OF BULK AT MOST 1048576: true; the input reads as it did. -/
def fnExactIsLyndonUptoRow : OpenClaim := { program := "ytjnpobaampgakaa", sum := "d233e2e95c0f25e3ff97fde10b1d29ec8931e15b684004cafc332317e4b27f91", func := "loop.example/g01371/laws.FnExactIsLyndon", spec := "fnExactIsLyndon", unfollowed := true, recurses := true, apart := false, narrowed := true }
def FnExactIsLyndonUptoSaid : Prop := fnExactIsLyndonUptoRow.holds Try.pinned (OpenSpec.upto fnExactIsLyndonSpec)

/-- 'laws.FnExactReverseOf', WHERE WHAT IT READS IS OF BULK AT MOST 1048576: true; the input reads as it did. -/
def fnExactReverseOfUptoRow : OpenClaim := { program := "ytjnpobaampgakaa", sum := "d233e2e95c0f25e3ff97fde10b1d29ec8931e15b684004cafc332317e4b27f91", func := "loop.example/g01371/laws.FnExactReverseOf", spec := "fnExactReverseOf", unfollowed := true, recurses := true, apart := false, narrowed := true }
def FnExactReverseOfUptoSaid : Prop := fnExactReverseOfUptoRow.holds Try.pinned (OpenSpec.upto fnExactReverseOfSpec)

/-- 'laws.FnExactIsPalindrome', WHERE WHAT IT READS IS OF BULK AT MOST 1048576: true; the input reads as it did. -/
def fnExactIsPalindromeUptoRow : OpenClaim := { program := "ytjnpobaampgakaa", sum := "d233e2e95c0f25e3ff97fde10b1d29ec8931e15b684004cafc332317e4b27f91", func := "loop.example/g01371/laws.FnExactIsPalindrome", spec := "fnExactIsPalindrome", unfollowed := true, recurses := true, apart := false, narrowed := true }
def FnExactIsPalindromeUptoSaid : Prop := fnExactIsPalindromeUptoRow.holds Try.pinned (OpenSpec.upto fnExactIsPalindromeSpec)

end Rows
end Go.Proofs.Ytjnpobaampgakaa
