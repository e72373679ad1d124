/-
  NARROWER THAN 'FOR EVERY INPUT', by the rows' own cells (each row's printed sentence says how): FnExactPrefixIn: laid · FnExactCountPrefixes: laid · FnExactRightQuotient: laid · FnExactNextTrace: laid · FnExactOrderOf: laid · FnExactPastOf: laid · FnExactPowerOf: laid · FnExactWidthOf: laid · FnExactConcurrentWith: laid · FnExactIsConnectedTrace: laid.
  DERIVED. THE GIVEN ROWS OF THIS SEAT. 10 by the template 'for every input the law returns true; each argument reads behind the call as it read before'; 0 by the template 'total and deterministic' (their statements: YtcigmfmlgaiklaaDoorTotals.lean).
  GIVEN WITH THE SEED: the statements are not yours to turn. If you find one false, say at which input.
  Laid BY PROGRAM, IN A SANDBOX (cutbox-rows.mjs): the forced cells as the released guide's own fill.sh prints them over the translation 7880c74a4904da33… (all of the seat's roots in one cut). By AI agents, Wed Nov 11 2026. No macro, syntax, notation, axiom, sorry.
-/
import Derived.Test.YtcigmfmlgaiklaaDoorChecked
import GoSem.Claim
import GoSem.ClaimJoined
import GoSem.ClaimMapViews
import Derived.JoinedTies
import Derived.KernelRfl
namespace Go.Proofs.YtcigmfmlgaiklaaDoor
/- THE CELL 'sum', in the pinned program and in every row, IS THE sha256 OF THE DUMP (.gsa) THAT YtcigmfmlgaiklaaDoorProg.lean LOADS. Nothing in Lean hashes anything: it is a label: what it is worth is what the hold of that sum in a sandbox is worth. -/
noncomputable def Tryd.pinned : Pinned := { name := "ytcigmfmlgaiklaadoor", sum := "7880c74a4904da330784a0effaa5c7bc921e74fb8476e8bdcddbd6deeade21f4", checked := Tryd.checked }
namespace Rows
def none {H : Type} : Left H := { results := [], args := [] }

/- WHAT THE LISTED PACKAGE-LEVEL VARIABLES READ AS WHEN THE CALL BEGINS. Each datum BY PROGRAM (the guide's laid-datum.mjs) off the statement by which the dump's own 'gosem.cut.vars' lays the variable. In a bare row this is a premise. The card (YtcigmfmlgaiklaaDoorCards.lean) ties it to the program's text. -/
def laid_math_bits_deBruijn64tab {H : Type} : DataW H := .agg [.lit (.int .u8 0), .lit (.int .u8 1), .lit (.int .u8 56), .lit (.int .u8 2), .lit (.int .u8 57), .lit (.int .u8 49), .lit (.int .u8 28), .lit (.int .u8 3), .lit (.int .u8 61), .lit (.int .u8 58), .lit (.int .u8 42), .lit (.int .u8 50), .lit (.int .u8 38), .lit (.int .u8 29), .lit (.int .u8 17), .lit (.int .u8 4), .lit (.int .u8 62), .lit (.int .u8 47), .lit (.int .u8 59), .lit (.int .u8 36), .lit (.int .u8 45), .lit (.int .u8 43), .lit (.int .u8 51), .lit (.int .u8 22), .lit (.int .u8 53), .lit (.int .u8 39), .lit (.int .u8 33), .lit (.int .u8 30), .lit (.int .u8 24), .lit (.int .u8 18), .lit (.int .u8 12), .lit (.int .u8 5), .lit (.int .u8 63), .lit (.int .u8 55), .lit (.int .u8 48), .lit (.int .u8 27), .lit (.int .u8 60), .lit (.int .u8 41), .lit (.int .u8 37), .lit (.int .u8 16), .lit (.int .u8 46), .lit (.int .u8 35), .lit (.int .u8 44), .lit (.int .u8 21), .lit (.int .u8 52), .lit (.int .u8 32), .lit (.int .u8 23), .lit (.int .u8 11), .lit (.int .u8 54), .lit (.int .u8 26), .lit (.int .u8 40), .lit (.int .u8 15), .lit (.int .u8 34), .lit (.int .u8 20), .lit (.int .u8 31), .lit (.int .u8 10), .lit (.int .u8 25), .lit (.int .u8 14), .lit (.int .u8 19), .lit (.int .u8 9), .lit (.int .u8 13), .lit (.int .u8 8), .lit (.int .u8 7), .lit (.int .u8 6)]

/-- 'laws.FnExactPrefixIn': WHATEVER THE INPUT: true; the input reads as it did. -/
def fnExactPrefixInSpec : ChangeSpec := { name := "fnExactPrefixIn", fn := fun _ => fun
  | [d1, d2, d3] => { results := [.lit (.bool true)], args := [d1, d2, d3] }
  | _ => none }
def fnExactPrefixInRow : OpenClaim := { program := "ytcigmfmlgaiklaadoor", sum := "7880c74a4904da330784a0effaa5c7bc921e74fb8476e8bdcddbd6deeade21f4", func := "loop.example/g01094/laws.FnExactPrefixIn", spec := "fnExactPrefixIn", unfollowed := true, recurses := true, named := ["math/bits.deBruijn64tab"], apart := false, laid := [("math/bits.deBruijn64tab", laid_math_bits_deBruijn64tab)] }
def FnExactPrefixInSaid : Prop := fnExactPrefixInRow.holds Tryd.pinned (OpenSpec.ofChange fnExactPrefixInSpec)

/-- ITS FALSE NEIGHBOUR: 'it returns false'. Refute it at one input. -/
def fnExactPrefixInWrong : ChangeSpec := { name := "fnExactPrefixIn", fn := fun _ => fun
  | [d1, d2, d3] => { results := [.lit (.bool false)], args := [d1, d2, d3] }
  | _ => none }
def FnExactPrefixInWrongFalsely : Prop := fnExactPrefixInRow.holds Tryd.pinned (OpenSpec.ofChange fnExactPrefixInWrong)

/-- 'laws.FnExactCountPrefixes': WHATEVER THE INPUT: true; the input reads as it did. -/
def fnExactCountPrefixesSpec : ChangeSpec := { name := "fnExactCountPrefixes", fn := fun _ => fun
  | [d1, d2] => { results := [.lit (.bool true)], args := [d1, d2] }
  | _ => none }
def fnExactCountPrefixesRow : OpenClaim := { program := "ytcigmfmlgaiklaadoor", sum := "7880c74a4904da330784a0effaa5c7bc921e74fb8476e8bdcddbd6deeade21f4", func := "loop.example/g01094/laws.FnExactCountPrefixes", spec := "fnExactCountPrefixes", unfollowed := true, recurses := true, named := ["math/bits.deBruijn64tab"], apart := false, laid := [("math/bits.deBruijn64tab", laid_math_bits_deBruijn64tab)] }
def FnExactCountPrefixesSaid : Prop := fnExactCountPrefixesRow.holds Tryd.pinned (OpenSpec.ofChange fnExactCountPrefixesSpec)

/-- ITS FALSE NEIGHBOUR: 'it returns false'. Refute it at one input. -/
def fnExactCountPrefixesWrong : ChangeSpec := { name := "fnExactCountPrefixes", fn := fun _ => fun
  | [d1, d2] => { results := [.lit (.bool false)], args := [d1, d2] }
  | _ => none }
def FnExactCountPrefixesWrongFalsely : Prop := fnExactCountPrefixesRow.holds Tryd.pinned (OpenSpec.ofChange fnExactCountPrefixesWrong)

/-- 'laws.FnExactRightQuotient': WHATEVER THE INPUT: true; the input reads as it did. -/
def fnExactRightQuotientSpec : ChangeSpec := { name := "fnExactRightQuotient", fn := fun _ => fun
  | [d1, d2, d3] => { results := [.lit (.bool true)], args := [d1, d2, d3] }
  | _ => none }
def fnExactRightQuotientRow : OpenClaim := { program := "ytcigmfmlgaiklaadoor", sum := "7880c74a4904da330784a0effaa5c7bc921e74fb8476e8bdcddbd6deeade21f4", func := "loop.example/g01094/laws.FnExactRightQuotient", spec := "fnExactRightQuotient", unfollowed := true, recurses := true, named := ["math/bits.deBruijn64tab"], apart := false, laid := [("math/bits.deBruijn64tab", laid_math_bits_deBruijn64tab)] }
def FnExactRightQuotientSaid : Prop := fnExactRightQuotientRow.holds Tryd.pinned (OpenSpec.ofChange fnExactRightQuotientSpec)

/-- ITS FALSE NEIGHBOUR: 'it returns false'. Refute it at one input. -/
def fnExactRightQuotientWrong : ChangeSpec := { name := "fnExactRightQuotient", fn := fun _ => fun
  | [d1, d2, d3] => { results := [.lit (.bool false)], args := [d1, d2, d3] }
  | _ => none }
def FnExactRightQuotientWrongFalsely : Prop := fnExactRightQuotientRow.holds Tryd.pinned (OpenSpec.ofChange fnExactRightQuotientWrong)

/-- 'laws.FnExactNextTrace': WHATEVER THE INPUT: true; the input reads as it did. -/
def fnExactNextTraceSpec : ChangeSpec := { name := "fnExactNextTrace", fn := fun _ => fun
  | [d1, d2] => { results := [.lit (.bool true)], args := [d1, d2] }
  | _ => none }
def fnExactNextTraceRow : OpenClaim := { program := "ytcigmfmlgaiklaadoor", sum := "7880c74a4904da330784a0effaa5c7bc921e74fb8476e8bdcddbd6deeade21f4", func := "loop.example/g01094/laws.FnExactNextTrace", spec := "fnExactNextTrace", unfollowed := true, recurses := true, named := ["math/bits.deBruijn64tab"], apart := false, laid := [("math/bits.deBruijn64tab", laid_math_bits_deBruijn64tab)] }
def FnExactNextTraceSaid : Prop := fnExactNextTraceRow.holds Tryd.pinned (OpenSpec.ofChange fnExactNextTraceSpec)

/-- ITS FALSE NEIGHBOUR: 'it returns false'. Refute it at one input. -/
def fnExactNextTraceWrong : ChangeSpec := { name := "fnExactNextTrace", fn := fun _ => fun
  | [d1, d2] => { results := [.lit (.bool false)], args := [d1, d2] }
  | _ => none }
def FnExactNextTraceWrongFalsely : Prop := fnExactNextTraceRow.holds Tryd.pinned (OpenSpec.ofChange fnExactNextTraceWrong)

/-- 'laws.FnExactOrderOf': WHATEVER THE INPUT: true; the input reads as it did. -/
def fnExactOrderOfSpec : ChangeSpec := { name := "fnExactOrderOf", fn := fun _ => fun
  | [d1, d2] => { results := [.lit (.bool true)], args := [d1, d2] }
  | _ => none }
def fnExactOrderOfRow : OpenClaim := { program := "ytcigmfmlgaiklaadoor", sum := "7880c74a4904da330784a0effaa5c7bc921e74fb8476e8bdcddbd6deeade21f4", func := "loop.example/g01094/laws.FnExactOrderOf", spec := "fnExactOrderOf", unfollowed := true, recurses := true, named := ["math/bits.deBruijn64tab"], apart := false, laid := [("math/bits.deBruijn64tab", laid_math_bits_deBruijn64tab)] }
def FnExactOrderOfSaid : Prop := fnExactOrderOfRow.holds Tryd.pinned (OpenSpec.ofChange fnExactOrderOfSpec)

/-- ITS FALSE NEIGHBOUR: 'it returns false'. Refute it at one input. -/
def fnExactOrderOfWrong : ChangeSpec := { name := "fnExactOrderOf", fn := fun _ => fun
  | [d1, d2] => { results := [.lit (.bool false)], args := [d1, d2] }
  | _ => none }
def FnExactOrderOfWrongFalsely : Prop := fnExactOrderOfRow.holds Tryd.pinned (OpenSpec.ofChange fnExactOrderOfWrong)

/-- 'laws.FnExactPastOf': WHATEVER THE INPUT: true; the input reads as it did. -/
def fnExactPastOfSpec : ChangeSpec := { name := "fnExactPastOf", fn := fun _ => fun
  | [d1, d2, d3] => { results := [.lit (.bool true)], args := [d1, d2, d3] }
  | _ => none }
def fnExactPastOfRow : OpenClaim := { program := "ytcigmfmlgaiklaadoor", sum := "7880c74a4904da330784a0effaa5c7bc921e74fb8476e8bdcddbd6deeade21f4", func := "loop.example/g01094/laws.FnExactPastOf", spec := "fnExactPastOf", unfollowed := true, recurses := true, named := ["math/bits.deBruijn64tab"], apart := false, laid := [("math/bits.deBruijn64tab", laid_math_bits_deBruijn64tab)] }
def FnExactPastOfSaid : Prop := fnExactPastOfRow.holds Tryd.pinned (OpenSpec.ofChange fnExactPastOfSpec)

/-- ITS FALSE NEIGHBOUR: 'it returns false'. Refute it at one input. -/
def fnExactPastOfWrong : ChangeSpec := { name := "fnExactPastOf", fn := fun _ => fun
  | [d1, d2, d3] => { results := [.lit (.bool false)], args := [d1, d2, d3] }
  | _ => none }
def FnExactPastOfWrongFalsely : Prop := fnExactPastOfRow.holds Tryd.pinned (OpenSpec.ofChange fnExactPastOfWrong)

/-- 'laws.FnExactPowerOf': WHATEVER THE INPUT: true; the input reads as it did. -/
def fnExactPowerOfSpec : ChangeSpec := { name := "fnExactPowerOf", fn := fun _ => fun
  | [d1, d2, d3] => { results := [.lit (.bool true)], args := [d1, d2, d3] }
  | _ => none }
def fnExactPowerOfRow : OpenClaim := { program := "ytcigmfmlgaiklaadoor", sum := "7880c74a4904da330784a0effaa5c7bc921e74fb8476e8bdcddbd6deeade21f4", func := "loop.example/g01094/laws.FnExactPowerOf", spec := "fnExactPowerOf", unfollowed := true, recurses := true, named := ["math/bits.deBruijn64tab"], apart := false, laid := [("math/bits.deBruijn64tab", laid_math_bits_deBruijn64tab)] }
def FnExactPowerOfSaid : Prop := fnExactPowerOfRow.holds Tryd.pinned (OpenSpec.ofChange fnExactPowerOfSpec)

/-- ITS FALSE NEIGHBOUR: 'it returns false'. Refute it at one input. -/
def fnExactPowerOfWrong : ChangeSpec := { name := "fnExactPowerOf", fn := fun _ => fun
  | [d1, d2, d3] => { results := [.lit (.bool false)], args := [d1, d2, d3] }
  | _ => none }
def FnExactPowerOfWrongFalsely : Prop := fnExactPowerOfRow.holds Tryd.pinned (OpenSpec.ofChange fnExactPowerOfWrong)

/-- 'laws.FnExactWidthOf': WHATEVER THE INPUT: true; the input reads as it did. -/
def fnExactWidthOfSpec : ChangeSpec := { name := "fnExactWidthOf", fn := fun _ => fun
  | [d1, d2] => { results := [.lit (.bool true)], args := [d1, d2] }
  | _ => none }
def fnExactWidthOfRow : OpenClaim := { program := "ytcigmfmlgaiklaadoor", sum := "7880c74a4904da330784a0effaa5c7bc921e74fb8476e8bdcddbd6deeade21f4", func := "loop.example/g01094/laws.FnExactWidthOf", spec := "fnExactWidthOf", unfollowed := true, recurses := true, named := ["math/bits.deBruijn64tab"], apart := false, laid := [("math/bits.deBruijn64tab", laid_math_bits_deBruijn64tab)] }
def FnExactWidthOfSaid : Prop := fnExactWidthOfRow.holds Tryd.pinned (OpenSpec.ofChange fnExactWidthOfSpec)

/-- ITS FALSE NEIGHBOUR: 'it returns false'. Refute it at one input. -/
def fnExactWidthOfWrong : ChangeSpec := { name := "fnExactWidthOf", fn := fun _ => fun
  | [d1, d2] => { results := [.lit (.bool false)], args := [d1, d2] }
  | _ => none }
def FnExactWidthOfWrongFalsely : Prop := fnExactWidthOfRow.holds Tryd.pinned (OpenSpec.ofChange fnExactWidthOfWrong)

/-- 'laws.FnExactConcurrentWith': WHATEVER THE INPUT: true; the input reads as it did. -/
def fnExactConcurrentWithSpec : ChangeSpec := { name := "fnExactConcurrentWith", fn := fun _ => fun
  | [d1, d2, d3] => { results := [.lit (.bool true)], args := [d1, d2, d3] }
  | _ => none }
def fnExactConcurrentWithRow : OpenClaim := { program := "ytcigmfmlgaiklaadoor", sum := "7880c74a4904da330784a0effaa5c7bc921e74fb8476e8bdcddbd6deeade21f4", func := "loop.example/g01094/laws.FnExactConcurrentWith", spec := "fnExactConcurrentWith", unfollowed := true, recurses := true, named := ["math/bits.deBruijn64tab"], apart := false, laid := [("math/bits.deBruijn64tab", laid_math_bits_deBruijn64tab)] }
def FnExactConcurrentWithSaid : Prop := fnExactConcurrentWithRow.holds Tryd.pinned (OpenSpec.ofChange fnExactConcurrentWithSpec)

/-- ITS FALSE NEIGHBOUR: 'it returns false'. Refute it at one input. -/
def fnExactConcurrentWithWrong : ChangeSpec := { name := "fnExactConcurrentWith", fn := fun _ => fun
  | [d1, d2, d3] => { results := [.lit (.bool false)], args := [d1, d2, d3] }
  | _ => none }
def FnExactConcurrentWithWrongFalsely : Prop := fnExactConcurrentWithRow.holds Tryd.pinned (OpenSpec.ofChange fnExactConcurrentWithWrong)

/-- 'laws.FnExactIsConnectedTrace': WHATEVER THE INPUT: true; the input reads as it did. -/
def fnExactIsConnectedTraceSpec : ChangeSpec := { name := "fnExactIsConnectedTrace", fn := fun _ => fun
  | [d1, d2] => { results := [.lit (.bool true)], args := [d1, d2] }
  | _ => none }
def fnExactIsConnectedTraceRow : OpenClaim := { program := "ytcigmfmlgaiklaadoor", sum := "7880c74a4904da330784a0effaa5c7bc921e74fb8476e8bdcddbd6deeade21f4", func := "loop.example/g01094/laws.FnExactIsConnectedTrace", spec := "fnExactIsConnectedTrace", unfollowed := true, recurses := true, named := ["math/bits.deBruijn64tab"], apart := false, laid := [("math/bits.deBruijn64tab", laid_math_bits_deBruijn64tab)] }
def FnExactIsConnectedTraceSaid : Prop := fnExactIsConnectedTraceRow.holds Tryd.pinned (OpenSpec.ofChange fnExactIsConnectedTraceSpec)

/-- ITS FALSE NEIGHBOUR: 'it returns false'. Refute it at one input. -/
def fnExactIsConnectedTraceWrong : ChangeSpec := { name := "fnExactIsConnectedTrace", fn := fun _ => fun
  | [d1, d2] => { results := [.lit (.bool false)], args := [d1, d2] }
  | _ => none }
def FnExactIsConnectedTraceWrongFalsely : Prop := fnExactIsConnectedTraceRow.holds Tryd.pinned (OpenSpec.ofChange fnExactIsConnectedTraceWrong)

/- THE SECOND FORM. 'bulk': how many values and letters a reading holds, each counted each time it is reached (what is shared counts as often as it is met; a slice's spare places count too). A statement '..UptoSaid' is the law's where the arguments, and the package variables that the reading takes, are together of bulk at most 1048576: NARROWER than '..Said'. Prove '..Said' where nothing that the law and all that it calls make is longer than what came in: it says more and counts as full. Else prove '..UptoSaid'. A law counts once. -/
mutual
def uptoBulk {H : Type} : DataW H → Nat
  | .lit (.string bytes) => bytes.length + 1
  | .lit _ => 1
  | .nil => 1
  | .ptr d => uptoBulk d + 1
  | .slice elems spare => uptoBulkAll elems + uptoBulkAll spare + 1
  | .agg parts => uptoBulkAll parts + 1
  | .iface _ d => uptoBulk d + 1
  | .map entries => uptoBulkEntries entries + 1
  | .held _ => 1
def uptoBulkAll {H : Type} : List (DataW H) → Nat
  | [] => 0
  | d :: r => uptoBulk d + uptoBulkAll r
def uptoBulkEntries {H : Type} : List (Lit × DataW H) → Nat
  | [] => 0
  | x :: r => uptoBulkEntry x + uptoBulkEntries r
def uptoBulkEntry {H : Type} : Lit × DataW H → Nat
  | (.string bytes, d) => bytes.length + uptoBulk d + 1
  | (_, d) => uptoBulk d + 1
 end
def uptoSmall : (H : Type) → List (DataW H) → Bool := fun _ ds => decide (uptoBulkAll ds ≤ 1048576)
def OpenSpec.upto (s : _root_.Go.ChangeSpec) : _root_.Go.OpenSpec := { _root_.Go.OpenSpec.ofChange s with cond := some uptoSmall }

/-- 'laws.FnExactPrefixIn', WHERE WHAT IT READS IS OF BULK AT MOST 1048576: true; the input reads as it did. -/
def fnExactPrefixInUptoRow : OpenClaim := { program := "ytcigmfmlgaiklaadoor", sum := "7880c74a4904da330784a0effaa5c7bc921e74fb8476e8bdcddbd6deeade21f4", func := "loop.example/g01094/laws.FnExactPrefixIn", spec := "fnExactPrefixIn", unfollowed := true, recurses := true, named := ["math/bits.deBruijn64tab"], apart := false, laid := [("math/bits.deBruijn64tab", laid_math_bits_deBruijn64tab)], narrowed := true }
def FnExactPrefixInUptoSaid : Prop := fnExactPrefixInUptoRow.holds Tryd.pinned (OpenSpec.upto fnExactPrefixInSpec)

/-- 'laws.FnExactCountPrefixes', WHERE WHAT IT READS IS OF BULK AT MOST 1048576: true; the input reads as it did. -/
def fnExactCountPrefixesUptoRow : OpenClaim := { program := "ytcigmfmlgaiklaadoor", sum := "7880c74a4904da330784a0effaa5c7bc921e74fb8476e8bdcddbd6deeade21f4", func := "loop.example/g01094/laws.FnExactCountPrefixes", spec := "fnExactCountPrefixes", unfollowed := true, recurses := true, named := ["math/bits.deBruijn64tab"], apart := false, laid := [("math/bits.deBruijn64tab", laid_math_bits_deBruijn64tab)], narrowed := true }
def FnExactCountPrefixesUptoSaid : Prop := fnExactCountPrefixesUptoRow.holds Tryd.pinned (OpenSpec.upto fnExactCountPrefixesSpec)

/-- 'laws.FnExactRightQuotient', WHERE WHAT IT READS IS OF BULK AT MOST 1048576: true; the input reads as it did. -/
def fnExactRightQuotientUptoRow : OpenClaim := { program := "ytcigmfmlgaiklaadoor", sum := "7880c74a4904da330784a0effaa5c7bc921e74fb8476e8bdcddbd6deeade21f4", func := "loop.example/g01094/laws.FnExactRightQuotient", spec := "fnExactRightQuotient", unfollowed := true, recurses := true, named := ["math/bits.deBruijn64tab"], apart := false, laid := [("math/bits.deBruijn64tab", laid_math_bits_deBruijn64tab)], narrowed := true }
def FnExactRightQuotientUptoSaid : Prop := fnExactRightQuotientUptoRow.holds Tryd.pinned (OpenSpec.upto fnExactRightQuotientSpec)

/-- 'laws.FnExactNextTrace', WHERE WHAT IT READS IS OF BULK AT MOST 1048576: true; the input reads as it did. -/
def fnExactNextTraceUptoRow : OpenClaim := { program := "ytcigmfmlgaiklaadoor", sum := "7880c74a4904da330784a0effaa5c7bc921e74fb8476e8bdcddbd6deeade21f4", func := "loop.example/g01094/laws.FnExactNextTrace", spec := "fnExactNextTrace", unfollowed := true, recurses := true, named := ["math/bits.deBruijn64tab"], apart := false, laid := [("math/bits.deBruijn64tab", laid_math_bits_deBruijn64tab)], narrowed := true }
def FnExactNextTraceUptoSaid : Prop := fnExactNextTraceUptoRow.holds Tryd.pinned (OpenSpec.upto fnExactNextTraceSpec)

/-- 'laws.FnExactOrderOf', WHERE WHAT IT READS IS OF BULK AT MOST 1048576: true; the input reads as it did. -/
def fnExactOrderOfUptoRow : OpenClaim := { program := "ytcigmfmlgaiklaadoor", sum := "7880c74a4904da330784a0effaa5c7bc921e74fb8476e8bdcddbd6deeade21f4", func := "loop.example/g01094/laws.FnExactOrderOf", spec := "fnExactOrderOf", unfollowed := true, recurses := true, named := ["math/bits.deBruijn64tab"], apart := false, laid := [("math/bits.deBruijn64tab", laid_math_bits_deBruijn64tab)], narrowed := true }
def FnExactOrderOfUptoSaid : Prop := fnExactOrderOfUptoRow.holds Tryd.pinned (OpenSpec.upto fnExactOrderOfSpec)

/-- 'laws.FnExactPastOf', WHERE WHAT IT READS IS OF BULK AT MOST 1048576: true; the input reads as it did. -/
def fnExactPastOfUptoRow : OpenClaim := { program := "ytcigmfmlgaiklaadoor", sum := "7880c74a4904da330784a0effaa5c7bc921e74fb8476e8bdcddbd6deeade21f4", func := "loop.example/g01094/laws.FnExactPastOf", spec := "fnExactPastOf", unfollowed := true, recurses := true, named := ["math/bits.deBruijn64tab"], apart := false, laid := [("math/bits.deBruijn64tab", laid_math_bits_deBruijn64tab)], narrowed := true }
def FnExactPastOfUptoSaid : Prop := fnExactPastOfUptoRow.holds Tryd.pinned (OpenSpec.upto fnExactPastOfSpec)

/-- 'laws.FnExactPowerOf', WHERE WHAT IT READS IS OF BULK AT MOST 1048576: true; the input reads as it did. -/
def fnExactPowerOfUptoRow : OpenClaim := { program := "ytcigmfmlgaiklaadoor", sum := "7880c74a4904da330784a0effaa5c7bc921e74fb8476e8bdcddbd6deeade21f4", func := "loop.example/g01094/laws.FnExactPowerOf", spec := "fnExactPowerOf", unfollowed := true, recurses := true, named := ["math/bits.deBruijn64tab"], apart := false, laid := [("math/bits.deBruijn64tab", laid_math_bits_deBruijn64tab)], narrowed := true }
def FnExactPowerOfUptoSaid : Prop := fnExactPowerOfUptoRow.holds Tryd.pinned (OpenSpec.upto fnExactPowerOfSpec)

/-- 'laws.FnExactWidthOf', WHERE WHAT IT READS IS OF BULK AT MOST 1048576: true; the input reads as it did. -/
def fnExactWidthOfUptoRow : OpenClaim := { program := "ytcigmfmlgaiklaadoor", sum := "7880c74a4904da330784a0effaa5c7bc921e74fb8476e8bdcddbd6deeade21f4", func := "loop.example/g01094/laws.FnExactWidthOf", spec := "fnExactWidthOf", unfollowed := true, recurses := true, named := ["math/bits.deBruijn64tab"], apart := false, laid := [("math/bits.deBruijn64tab", laid_math_bits_deBruijn64tab)], narrowed := true }
def FnExactWidthOfUptoSaid : Prop := fnExactWidthOfUptoRow.holds Tryd.pinned (OpenSpec.upto fnExactWidthOfSpec)

/-- 'laws.FnExactConcurrentWith', WHERE WHAT IT READS IS OF BULK AT MOST 1048576: true; the input reads as it did. -/
def fnExactConcurrentWithUptoRow : OpenClaim := { program := "ytcigmfmlgaiklaadoor", sum := "7880c74a4904da330784a0effaa5c7bc921e74fb8476e8bdcddbd6deeade21f4", func := "loop.example/g01094/laws.FnExactConcurrentWith", spec := "fnExactConcurrentWith", unfollowed := true, recurses := true, named := ["math/bits.deBruijn64tab"], apart := false, laid := [("math/bits.deBruijn64tab", laid_math_bits_deBruijn64tab)], narrowed := true }
def FnExactConcurrentWithUptoSaid : Prop := fnExactConcurrentWithUptoRow.holds Tryd.pinned (OpenSpec.upto fnExactConcurrentWithSpec)

/-- 'laws.FnExactIsConnectedTrace', WHERE WHAT IT READS IS OF BULK AT MOST 1048576: true; the input reads as it did. -/
def fnExactIsConnectedTraceUptoRow : OpenClaim := { program := "ytcigmfmlgaiklaadoor", sum := "7880c74a4904da330784a0effaa5c7bc921e74fb8476e8bdcddbd6deeade21f4", func := "loop.example/g01094/laws.FnExactIsConnectedTrace", spec := "fnExactIsConnectedTrace", unfollowed := true, recurses := true, named := ["math/bits.deBruijn64tab"], apart := false, laid := [("math/bits.deBruijn64tab", laid_math_bits_deBruijn64tab)], narrowed := true }
def FnExactIsConnectedTraceUptoSaid : Prop := fnExactIsConnectedTraceUptoRow.holds Tryd.pinned (OpenSpec.upto fnExactIsConnectedTraceSpec)

end Rows
end Go.Proofs.YtcigmfmlgaiklaaDoor
