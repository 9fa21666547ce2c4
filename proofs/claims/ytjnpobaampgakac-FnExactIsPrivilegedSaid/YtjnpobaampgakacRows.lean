/-
  No cell of these rows narrows 'for every input' (looked for: loops, veiled, ifaces, maps, wideKeys, modest, calm, conditions, laid).
  DERIVED. THE GIVEN ROWS OF THIS SEAT. 12 by the template 'for every input the law returns true; each argument reads behind the call as it read before'; 0 by the template 'total and deterministic' (their statements: YtjnpobaampgakacTotals.lean).
  GIVEN WITH THE SEED: the statements are not yours to turn. If you find one false, say at which input.
  Laid BY PROGRAM, IN A SANDBOX (cutbox-rows.mjs): the forced cells as the released guide's own fill.sh prints them over the translation a2a9f3bd9a6e3110… (all of the seat's roots in one cut). By AI agents, Wed Nov 11 2026. No macro, syntax, notation, axiom, sorry.
-/
import Derived.Test.YtjnpobaampgakacChecked
import GoSem.Claim
import GoSem.ClaimJoined
import GoSem.ClaimMapViews
import Derived.JoinedTies
import Derived.KernelRfl
namespace Go.Proofs.Ytjnpobaampgakac
/- THE CELL 'sum', in the pinned program and in every row, IS THE sha256 OF THE DUMP (.gsa) THAT YtjnpobaampgakacProg.lean LOADS. Nothing in Lean hashes anything: it is a label: what it is worth is what the hold of that sum in a sandbox is worth. -/
noncomputable def Try.pinned : Pinned := { name := "ytjnpobaampgakac", sum := "a2a9f3bd9a6e3110b015fe014edf818e82b0b136f2a5e1871aa803f9498ed22d", checked := Try.checked }
namespace Rows
def none {H : Type} : Left H := { results := [], args := [] }

/-- 'laws.FnExactIsPrivileged': WHATEVER THE INPUT: true; the input reads as it did. -/
def fnExactIsPrivilegedSpec : ChangeSpec := { name := "fnExactIsPrivileged", fn := fun _ => fun
  | [d] => { results := [.lit (.bool true)], args := [d] }
  | _ => none }
def fnExactIsPrivilegedRow : OpenClaim := { program := "ytjnpobaampgakac", sum := "a2a9f3bd9a6e3110b015fe014edf818e82b0b136f2a5e1871aa803f9498ed22d", func := "loop.example/g01371/laws.FnExactIsPrivileged", spec := "fnExactIsPrivileged", unfollowed := true, recurses := true, apart := false }
def FnExactIsPrivilegedSaid : Prop := fnExactIsPrivilegedRow.holds Try.pinned (OpenSpec.ofChange fnExactIsPrivilegedSpec)

/-- ITS FALSE NEIGHBOUR: 'it returns false'. Refute it at one input. -/
def fnExactIsPrivilegedWrong : ChangeSpec := { name := "fnExactIsPrivileged", fn := fun _ => fun
  | [d] => { results := [.lit (.bool false)], args := [d] }
  | _ => none }
def FnExactIsPrivilegedWrongFalsely : Prop := fnExactIsPrivilegedRow.holds Try.pinned (OpenSpec.ofChange fnExactIsPrivilegedWrong)

/-- 'laws.FnExactPeriodsOf': WHATEVER THE INPUT: true; the input reads as it did. -/
def fnExactPeriodsOfSpec : ChangeSpec := { name := "fnExactPeriodsOf", fn := fun _ => fun
  | [d] => { results := [.lit (.bool true)], args := [d] }
  | _ => none }
def fnExactPeriodsOfRow : OpenClaim := { program := "ytjnpobaampgakac", sum := "a2a9f3bd9a6e3110b015fe014edf818e82b0b136f2a5e1871aa803f9498ed22d", func := "loop.example/g01371/laws.FnExactPeriodsOf", spec := "fnExactPeriodsOf", unfollowed := true, recurses := true, apart := false }
def FnExactPeriodsOfSaid : Prop := fnExactPeriodsOfRow.holds Try.pinned (OpenSpec.ofChange fnExactPeriodsOfSpec)

/-- ITS FALSE NEIGHBOUR: 'it returns false'. Refute it at one input. -/
def fnExactPeriodsOfWrong : ChangeSpec := { name := "fnExactPeriodsOf", fn := fun _ => fun
  | [d] => { results := [.lit (.bool false)], args := [d] }
  | _ => none }
def FnExactPeriodsOfWrongFalsely : Prop := fnExactPeriodsOfRow.holds Try.pinned (OpenSpec.ofChange fnExactPeriodsOfWrong)

/-- 'laws.FnExactLongestUnbordered': WHATEVER THE INPUT: true; the input reads as it did. -/
def fnExactLongestUnborderedSpec : ChangeSpec := { name := "fnExactLongestUnbordered", fn := fun _ => fun
  | [d] => { results := [.lit (.bool true)], args := [d] }
  | _ => none }
def fnExactLongestUnborderedRow : OpenClaim := { program := "ytjnpobaampgakac", sum := "a2a9f3bd9a6e3110b015fe014edf818e82b0b136f2a5e1871aa803f9498ed22d", func := "loop.example/g01371/laws.FnExactLongestUnbordered", spec := "fnExactLongestUnbordered", unfollowed := true, recurses := true, apart := false }
def FnExactLongestUnborderedSaid : Prop := fnExactLongestUnborderedRow.holds Try.pinned (OpenSpec.ofChange fnExactLongestUnborderedSpec)

/-- ITS FALSE NEIGHBOUR: 'it returns false'. Refute it at one input. -/
def fnExactLongestUnborderedWrong : ChangeSpec := { name := "fnExactLongestUnbordered", fn := fun _ => fun
  | [d] => { results := [.lit (.bool false)], args := [d] }
  | _ => none }
def FnExactLongestUnborderedWrongFalsely : Prop := fnExactLongestUnborderedRow.holds Try.pinned (OpenSpec.ofChange fnExactLongestUnborderedWrong)

/-- 'laws.FnExactLongestPalindrome': WHATEVER THE INPUT: true; the input reads as it did. -/
def fnExactLongestPalindromeSpec : ChangeSpec := { name := "fnExactLongestPalindrome", fn := fun _ => fun
  | [d] => { results := [.lit (.bool true)], args := [d] }
  | _ => none }
def fnExactLongestPalindromeRow : OpenClaim := { program := "ytjnpobaampgakac", sum := "a2a9f3bd9a6e3110b015fe014edf818e82b0b136f2a5e1871aa803f9498ed22d", func := "loop.example/g01371/laws.FnExactLongestPalindrome", spec := "fnExactLongestPalindrome", unfollowed := true, recurses := true, apart := false }
def FnExactLongestPalindromeSaid : Prop := fnExactLongestPalindromeRow.holds Try.pinned (OpenSpec.ofChange fnExactLongestPalindromeSpec)

/-- ITS FALSE NEIGHBOUR: 'it returns false'. Refute it at one input. -/
def fnExactLongestPalindromeWrong : ChangeSpec := { name := "fnExactLongestPalindrome", fn := fun _ => fun
  | [d] => { results := [.lit (.bool false)], args := [d] }
  | _ => none }
def FnExactLongestPalindromeWrongFalsely : Prop := fnExactLongestPalindromeRow.holds Try.pinned (OpenSpec.ofChange fnExactLongestPalindromeWrong)

/-- 'laws.FnExactPlacesOf': WHATEVER THE INPUT: true; the input reads as it did. -/
def fnExactPlacesOfSpec : ChangeSpec := { name := "fnExactPlacesOf", fn := fun _ => fun
  | [d1, d2] => { results := [.lit (.bool true)], args := [d1, d2] }
  | _ => none }
def fnExactPlacesOfRow : OpenClaim := { program := "ytjnpobaampgakac", sum := "a2a9f3bd9a6e3110b015fe014edf818e82b0b136f2a5e1871aa803f9498ed22d", func := "loop.example/g01371/laws.FnExactPlacesOf", spec := "fnExactPlacesOf", unfollowed := true, recurses := true, apart := false }
def FnExactPlacesOfSaid : Prop := fnExactPlacesOfRow.holds Try.pinned (OpenSpec.ofChange fnExactPlacesOfSpec)

/-- ITS FALSE NEIGHBOUR: 'it returns false'. Refute it at one input. -/
def fnExactPlacesOfWrong : ChangeSpec := { name := "fnExactPlacesOf", fn := fun _ => fun
  | [d1, d2] => { results := [.lit (.bool false)], args := [d1, d2] }
  | _ => none }
def FnExactPlacesOfWrongFalsely : Prop := fnExactPlacesOfRow.holds Try.pinned (OpenSpec.ofChange fnExactPlacesOfWrong)

/-- 'laws.FnExactRootOf': WHATEVER THE INPUT: true; the input reads as it did. -/
def fnExactRootOfSpec : ChangeSpec := { name := "fnExactRootOf", fn := fun _ => fun
  | [d] => { results := [.lit (.bool true)], args := [d] }
  | _ => none }
def fnExactRootOfRow : OpenClaim := { program := "ytjnpobaampgakac", sum := "a2a9f3bd9a6e3110b015fe014edf818e82b0b136f2a5e1871aa803f9498ed22d", func := "loop.example/g01371/laws.FnExactRootOf", spec := "fnExactRootOf", unfollowed := true, recurses := true, apart := false }
def FnExactRootOfSaid : Prop := fnExactRootOfRow.holds Try.pinned (OpenSpec.ofChange fnExactRootOfSpec)

/-- ITS FALSE NEIGHBOUR: 'it returns false'. Refute it at one input. -/
def fnExactRootOfWrong : ChangeSpec := { name := "fnExactRootOf", fn := fun _ => fun
  | [d] => { results := [.lit (.bool false)], args := [d] }
  | _ => none }
def FnExactRootOfWrongFalsely : Prop := fnExactRootOfRow.holds Try.pinned (OpenSpec.ofChange fnExactRootOfWrong)

/-- 'laws.FnExactDoubleWord': WHATEVER THE INPUT: true; the input reads as it did. -/
def fnExactDoubleWordSpec : ChangeSpec := { name := "fnExactDoubleWord", fn := fun _ => fun
  | [d1, d2] => { results := [.lit (.bool true)], args := [d1, d2] }
  | _ => none }
def fnExactDoubleWordRow : OpenClaim := { program := "ytjnpobaampgakac", sum := "a2a9f3bd9a6e3110b015fe014edf818e82b0b136f2a5e1871aa803f9498ed22d", func := "loop.example/g01371/laws.FnExactDoubleWord", spec := "fnExactDoubleWord", apart := false }
def FnExactDoubleWordSaid : Prop := fnExactDoubleWordRow.holds Try.pinned (OpenSpec.ofChange fnExactDoubleWordSpec)

/-- ITS FALSE NEIGHBOUR: 'it returns false'. Refute it at one input. -/
def fnExactDoubleWordWrong : ChangeSpec := { name := "fnExactDoubleWord", fn := fun _ => fun
  | [d1, d2] => { results := [.lit (.bool false)], args := [d1, d2] }
  | _ => none }
def FnExactDoubleWordWrongFalsely : Prop := fnExactDoubleWordRow.holds Try.pinned (OpenSpec.ofChange fnExactDoubleWordWrong)

/-- 'laws.FnExactClosureOf': WHATEVER THE INPUT: true; the input reads as it did. -/
def fnExactClosureOfSpec : ChangeSpec := { name := "fnExactClosureOf", fn := fun _ => fun
  | [d] => { results := [.lit (.bool true)], args := [d] }
  | _ => none }
def fnExactClosureOfRow : OpenClaim := { program := "ytjnpobaampgakac", sum := "a2a9f3bd9a6e3110b015fe014edf818e82b0b136f2a5e1871aa803f9498ed22d", func := "loop.example/g01371/laws.FnExactClosureOf", spec := "fnExactClosureOf", unfollowed := true, recurses := true, apart := false }
def FnExactClosureOfSaid : Prop := fnExactClosureOfRow.holds Try.pinned (OpenSpec.ofChange fnExactClosureOfSpec)

/-- ITS FALSE NEIGHBOUR: 'it returns false'. Refute it at one input. -/
def fnExactClosureOfWrong : ChangeSpec := { name := "fnExactClosureOf", fn := fun _ => fun
  | [d] => { results := [.lit (.bool false)], args := [d] }
  | _ => none }
def FnExactClosureOfWrongFalsely : Prop := fnExactClosureOfRow.holds Try.pinned (OpenSpec.ofChange fnExactClosureOfWrong)

/-- 'laws.FnExactExponentOf': WHATEVER THE INPUT: true; the input reads as it did. -/
def fnExactExponentOfSpec : ChangeSpec := { name := "fnExactExponentOf", fn := fun _ => fun
  | [d] => { results := [.lit (.bool true)], args := [d] }
  | _ => none }
def fnExactExponentOfRow : OpenClaim := { program := "ytjnpobaampgakac", sum := "a2a9f3bd9a6e3110b015fe014edf818e82b0b136f2a5e1871aa803f9498ed22d", func := "loop.example/g01371/laws.FnExactExponentOf", spec := "fnExactExponentOf", unfollowed := true, recurses := true, apart := false }
def FnExactExponentOfSaid : Prop := fnExactExponentOfRow.holds Try.pinned (OpenSpec.ofChange fnExactExponentOfSpec)

/-- ITS FALSE NEIGHBOUR: 'it returns false'. Refute it at one input. -/
def fnExactExponentOfWrong : ChangeSpec := { name := "fnExactExponentOf", fn := fun _ => fun
  | [d] => { results := [.lit (.bool false)], args := [d] }
  | _ => none }
def FnExactExponentOfWrongFalsely : Prop := fnExactExponentOfRow.holds Try.pinned (OpenSpec.ofChange fnExactExponentOfWrong)

/-- 'laws.FnExactGreatestExponent': WHATEVER THE INPUT: true; the input reads as it did. -/
def fnExactGreatestExponentSpec : ChangeSpec := { name := "fnExactGreatestExponent", fn := fun _ => fun
  | [d] => { results := [.lit (.bool true)], args := [d] }
  | _ => none }
def fnExactGreatestExponentRow : OpenClaim := { program := "ytjnpobaampgakac", sum := "a2a9f3bd9a6e3110b015fe014edf818e82b0b136f2a5e1871aa803f9498ed22d", func := "loop.example/g01371/laws.FnExactGreatestExponent", spec := "fnExactGreatestExponent", unfollowed := true, recurses := true, apart := false }
def FnExactGreatestExponentSaid : Prop := fnExactGreatestExponentRow.holds Try.pinned (OpenSpec.ofChange fnExactGreatestExponentSpec)

/-- ITS FALSE NEIGHBOUR: 'it returns false'. Refute it at one input. -/
def fnExactGreatestExponentWrong : ChangeSpec := { name := "fnExactGreatestExponent", fn := fun _ => fun
  | [d] => { results := [.lit (.bool false)], args := [d] }
  | _ => none }
def FnExactGreatestExponentWrongFalsely : Prop := fnExactGreatestExponentRow.holds Try.pinned (OpenSpec.ofChange fnExactGreatestExponentWrong)

/-- 'laws.FnExactDirectedWord': WHATEVER THE INPUT: true; the input reads as it did. -/
def fnExactDirectedWordSpec : ChangeSpec := { name := "fnExactDirectedWord", fn := fun _ => fun
  | [d] => { results := [.lit (.bool true)], args := [d] }
  | _ => none }
def fnExactDirectedWordRow : OpenClaim := { program := "ytjnpobaampgakac", sum := "a2a9f3bd9a6e3110b015fe014edf818e82b0b136f2a5e1871aa803f9498ed22d", func := "loop.example/g01371/laws.FnExactDirectedWord", spec := "fnExactDirectedWord", unfollowed := true, recurses := true, apart := false }
def FnExactDirectedWordSaid : Prop := fnExactDirectedWordRow.holds Try.pinned (OpenSpec.ofChange fnExactDirectedWordSpec)

/-- ITS FALSE NEIGHBOUR: 'it returns false'. Refute it at one input. -/
def fnExactDirectedWordWrong : ChangeSpec := { name := "fnExactDirectedWord", fn := fun _ => fun
  | [d] => { results := [.lit (.bool false)], args := [d] }
  | _ => none }
def FnExactDirectedWordWrongFalsely : Prop := fnExactDirectedWordRow.holds Try.pinned (OpenSpec.ofChange fnExactDirectedWordWrong)

/-- 'laws.FnExactIsOverlapFree': WHATEVER THE INPUT: true; the input reads as it did. -/
def fnExactIsOverlapFreeSpec : ChangeSpec := { name := "fnExactIsOverlapFree", fn := fun _ => fun
  | [d] => { results := [.lit (.bool true)], args := [d] }
  | _ => none }
def fnExactIsOverlapFreeRow : OpenClaim := { program := "ytjnpobaampgakac", sum := "a2a9f3bd9a6e3110b015fe014edf818e82b0b136f2a5e1871aa803f9498ed22d", func := "loop.example/g01371/laws.FnExactIsOverlapFree", spec := "fnExactIsOverlapFree", unfollowed := true, recurses := true, apart := false }
def FnExactIsOverlapFreeSaid : Prop := fnExactIsOverlapFreeRow.holds Try.pinned (OpenSpec.ofChange fnExactIsOverlapFreeSpec)

/-- ITS FALSE NEIGHBOUR: 'it returns false'. Refute it at one input. -/
def fnExactIsOverlapFreeWrong : ChangeSpec := { name := "fnExactIsOverlapFree", fn := fun _ => fun
  | [d] => { results := [.lit (.bool false)], args := [d] }
  | _ => none }
def FnExactIsOverlapFreeWrongFalsely : Prop := fnExactIsOverlapFreeRow.holds Try.pinned (OpenSpec.ofChange fnExactIsOverlapFreeWrong)

/- THE SECOND FORM. 'bulk': how many values and letters a reading holds, each counted each time it is reached (what is shared counts as often as it is met; a slice's spare places count too). A statement '..UptoSaid' is the law's where the arguments, and the package variables that the reading takes, are together of bulk at most 1048576: NARROWER than '..Said'. Prove '..Said' where nothing that the law and all that it calls make is longer than what came in: it says more and counts as full. Else prove '..UptoSaid'. A law counts once. -/
mutual
def uptoBulk {H : Type} : DataW H → Nat
  | .lit (.string bytes) => bytes.length + 1
  | .lit _ => 1
  | .nil => 1
  | .ptr d => uptoBulk d + 1
  | .slice elems spare => uptoBulkAll elems + uptoBulkAll spare + 1
  | .agg parts => uptoBulkAll parts + 1
  | .iface _ d => uptoBulk d + 1
  | .map entries => uptoBulkEntries entries + 1
  | .held _ => 1
def uptoBulkAll {H : Type} : List (DataW H) → Nat
  | [] => 0
  | d :: r => uptoBulk d + uptoBulkAll r
def uptoBulkEntries {H : Type} : List (Lit × DataW H) → Nat
  | [] => 0
  | x :: r => uptoBulkEntry x + uptoBulkEntries r
def uptoBulkEntry {H : Type} : Lit × DataW H → Nat
  | (.string bytes, d) => bytes.length + uptoBulk d + 1
  | (_, d) => uptoBulk d + 1
 end
def uptoSmall : (H : Type) → List (DataW H) → Bool := fun _ ds => decide (uptoBulkAll ds ≤ 1048576)
def OpenSpec.upto (s : _root_.Go.ChangeSpec) : _root_.Go.OpenSpec := { _root_.Go.OpenSpec.ofChange s with cond := some uptoSmall }

/-- 'laws.FnExactIsPrivileged', WHERE WHAT IT READS IS OF BULK AT MOST 1048576: true; the input reads as it did. -/
def fnExactIsPrivilegedUptoRow : OpenClaim := { program := "ytjnpobaampgakac", sum := "a2a9f3bd9a6e3110b015fe014edf818e82b0b136f2a5e1871aa803f9498ed22d", func := "loop.example/g01371/laws.FnExactIsPrivileged", spec := "fnExactIsPrivileged", unfollowed := true, recurses := true, apart := false, narrowed := true }
def FnExactIsPrivilegedUptoSaid : Prop := fnExactIsPrivilegedUptoRow.holds Try.pinned (OpenSpec.upto fnExactIsPrivilegedSpec)

/-- 'laws.FnExactPeriodsOf', WHERE WHAT IT READS IS OF BULK AT MOST 1048576: true; the input reads as it did. -/
def fnExactPeriodsOfUptoRow : OpenClaim := { program := "ytjnpobaampgakac", sum := "a2a9f3bd9a6e3110b015fe014edf818e82b0b136f2a5e1871aa803f9498ed22d", func := "loop.example/g01371/laws.FnExactPeriodsOf", spec := "fnExactPeriodsOf", unfollowed := true, recurses := true, apart := false, narrowed := true }
def FnExactPeriodsOfUptoSaid : Prop := fnExactPeriodsOfUptoRow.holds Try.pinned (OpenSpec.upto fnExactPeriodsOfSpec)

/-- 'laws.FnExactLongestUnbordered', WHERE WHAT IT READS IS OF BULK AT MOST 1048576: true; the input reads as it did. -/
def fnExactLongestUnborderedUptoRow : OpenClaim := { program := "ytjnpobaampgakac", sum := "a2a9f3bd9a6e3110b015fe014edf818e82b0b136f2a5e1871aa803f9498ed22d", func := "loop.example/g01371/laws.FnExactLongestUnbordered", spec := "fnExactLongestUnbordered", unfollowed := true, recurses := true, apart := false, narrowed := true }
def FnExactLongestUnborderedUptoSaid : Prop := fnExactLongestUnborderedUptoRow.holds Try.pinned (OpenSpec.upto fnExactLongestUnborderedSpec)

/-- 'laws.FnExactLongestPalindrome', WHERE WHAT IT READS IS OF BULK AT MOST 1048576: true; the input reads as it did. -/
def fnExactLongestPalindromeUptoRow : OpenClaim := { program := "ytjnpobaampgakac", sum := "a2a9f3bd9a6e3110b015fe014edf818e82b0b136f2a5e1871aa803f9498ed22d", func := "loop.example/g01371/laws.FnExactLongestPalindrome", spec := "fnExactLongestPalindrome", unfollowed := true, recurses := true, apart := false, narrowed := true }
def FnExactLongestPalindromeUptoSaid : Prop := fnExactLongestPalindromeUptoRow.holds Try.pinned (OpenSpec.upto fnExactLongestPalindromeSpec)

/-- 'laws.FnExactPlacesOf', WHERE WHAT IT READS IS OF BULK AT MOST 1048576: true; the input reads as it did. -/
def fnExactPlacesOfUptoRow : OpenClaim := { program := "ytjnpobaampgakac", sum := "a2a9f3bd9a6e3110b015fe014edf818e82b0b136f2a5e1871aa803f9498ed22d", func := "loop.example/g01371/laws.FnExactPlacesOf", spec := "fnExactPlacesOf", unfollowed := true, recurses := true, apart := false, narrowed := true }
def FnExactPlacesOfUptoSaid : Prop := fnExactPlacesOfUptoRow.holds Try.pinned (OpenSpec.upto fnExactPlacesOfSpec)

/-- 'laws.FnExactRootOf', WHERE WHAT IT READS IS OF BULK AT MOST 1048576: true; the input reads as it did. -/
def fnExactRootOfUptoRow : OpenClaim := { program := "ytjnpobaampgakac", sum := "a2a9f3bd9a6e3110b015fe014edf818e82b0b136f2a5e1871aa803f9498ed22d", func := "loop.example/g01371/laws.FnExactRootOf", spec := "fnExactRootOf", unfollowed := true, recurses := true, apart := false, narrowed := true }
def FnExactRootOfUptoSaid : Prop := fnExactRootOfUptoRow.holds Try.pinned (OpenSpec.upto fnExactRootOfSpec)

/-- 'laws.FnExactDoubleWord', WHERE WHAT IT READS IS OF BULK AT MOST 1048576: true; the input reads as it did. -/
def fnExactDoubleWordUptoRow : OpenClaim := { program := "ytjnpobaampgakac", sum := "a2a9f3bd9a6e3110b015fe014edf818e82b0b136f2a5e1871aa803f9498ed22d", func := "loop.example/g01371/laws.FnExactDoubleWord", spec := "fnExactDoubleWord", apart := false, narrowed := true }
def FnExactDoubleWordUptoSaid : Prop := fnExactDoubleWordUptoRow.holds Try.pinned (OpenSpec.upto fnExactDoubleWordSpec)

/-- 'laws.FnExactClosureOf', WHERE WHAT IT READS IS OF BULK AT MOST 1048576: true; the input reads as it did. -/
def fnExactClosureOfUptoRow : OpenClaim := { program := "ytjnpobaampgakac", sum := "a2a9f3bd9a6e3110b015fe014edf818e82b0b136f2a5e1871aa803f9498ed22d", func := "loop.example/g01371/laws.FnExactClosureOf", spec := "fnExactClosureOf", unfollowed := true, recurses := true, apart := false, narrowed := true }
def FnExactClosureOfUptoSaid : Prop := fnExactClosureOfUptoRow.holds Try.pinned (OpenSpec.upto fnExactClosureOfSpec)

/-- 'laws.FnExactExponentOf', WHERE WHAT IT READS IS OF BULK AT MOST 1048576: true; the input reads as it did. -/
def fnExactExponentOfUptoRow : OpenClaim := { program := "ytjnpobaampgakac", sum := "a2a9f3bd9a6e3110b015fe014edf818e82b0b136f2a5e1871aa803f9498ed22d", func := "loop.example/g01371/laws.FnExactExponentOf", spec := "fnExactExponentOf", unfollowed := true, recurses := true, apart := false, narrowed := true }
def FnExactExponentOfUptoSaid : Prop := fnExactExponentOfUptoRow.holds Try.pinned (OpenSpec.upto fnExactExponentOfSpec)

/-- 'laws.FnExactGreatestExponent', WHERE WHAT IT READS IS OF BULK AT MOST 1048576: true; the input reads as it did. -/
def fnExactGreatestExponentUptoRow : OpenClaim := { program := "ytjnpobaampgakac", sum := "a2a9f3bd9a6e3110b015fe014edf818e82b0b136f2a5e1871aa803f9498ed22d", func := "loop.example/g01371/laws.FnExactGreatestExponent", spec := "fnExactGreatestExponent", unfollowed := true, recurses := true, apart := false, narrowed := true }
def FnExactGreatestExponentUptoSaid : Prop := fnExactGreatestExponentUptoRow.holds Try.pinned (OpenSpec.upto fnExactGreatestExponentSpec)

/-- 'laws.FnExactDirectedWord', WHERE WHAT IT READS IS OF BULK AT MOST 1048576: true; the input reads as it did. -/
def fnExactDirectedWordUptoRow : OpenClaim := { program := "ytjnpobaampgakac", sum := "a2a9f3bd9a6e3110b015fe014edf818e82b0b136f2a5e1871aa803f9498ed22d", func := "loop.example/g01371/laws.FnExactDirectedWord", spec := "fnExactDirectedWord", unfollowed := true, recurses := true, apart := false, narrowed := true }
def FnExactDirectedWordUptoSaid : Prop := fnExactDirectedWordUptoRow.holds Try.pinned (OpenSpec.upto fnExactDirectedWordSpec)

/-- 'laws.FnExactIsOverlapFree', WHERE WHAT IT READS IS OF BULK AT MOST 1048576: true; the input reads as it did. -/
def fnExactIsOverlapFreeUptoRow : OpenClaim := { program := "ytjnpobaampgakac", sum := "a2a9f3bd9a6e3110b015fe014edf818e82b0b136f2a5e1871aa803f9498ed22d", func := "loop.example/g01371/laws.FnExactIsOverlapFree", spec := "fnExactIsOverlapFree", unfollowed := true, recurses := true, apart := false, narrowed := true }
def FnExactIsOverlapFreeUptoSaid : Prop := fnExactIsOverlapFreeUptoRow.holds Try.pinned (OpenSpec.upto fnExactIsOverlapFreeSpec)

end Rows
end Go.Proofs.Ytjnpobaampgakac
