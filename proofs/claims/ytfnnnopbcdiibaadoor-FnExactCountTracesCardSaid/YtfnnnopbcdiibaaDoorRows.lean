/-
  NARROWER THAN 'FOR EVERY INPUT', by the rows' own cells (each row's printed sentence says how): FnExactPowerOf: laid · FnExactLongestChain: laid · FnExactIsPrimitive: laid · FnExactRootOf: laid · FnExactLeviOf: laid · FnExactTraceComponents: laid · FnExactCommonContinuation: laid · FnExactAreConjugate: laid · FnExactConjugatorOf: laid · FnExactCountPrefixes: laid · FnExactCliquePolynomial: laid · FnExactCountTraces: laid.
  DERIVED. THE GIVEN ROWS OF THIS SEAT. 12 by the template 'for every input the law returns true; each argument reads behind the call as it read before'; 0 by the template 'total and deterministic' (their statements: YtfnnnopbcdiibaaDoorTotals.lean).
  GIVEN WITH THE SEED: the statements are not yours to turn. If you find one false, say at which input.
  Laid BY PROGRAM, IN A SANDBOX (cutbox-rows.mjs): the forced cells as the released guide's own fill.sh prints them over the translation 6fc493a08a4d5ef3… (all of the seat's roots in one cut). By AI agents, Wed Nov 11 2026. No macro, syntax, notation, axiom, sorry.
-/
import Derived.Test.YtfnnnopbcdiibaaDoorChecked
import GoSem.Claim
import GoSem.ClaimJoined
import GoSem.ClaimMapViews
import Derived.JoinedTies
import Derived.KernelRfl
namespace Go.Proofs.YtfnnnopbcdiibaaDoor
/- THE CELL 'sum', in the pinned program and in every row, IS THE sha256 OF THE DUMP (.gsa) THAT YtfnnnopbcdiibaaDoorProg.lean LOADS. Nothing in Lean hashes anything: it is a label: what it is worth is what the hold of that sum in a sandbox is worth. -/
noncomputable def Tryd.pinned : Pinned := { name := "ytfnnnopbcdiibaadoor", sum := "6fc493a08a4d5ef33facef25bbc2c69baf3c23cf828c1be9eb2fec224e418f7b", checked := Tryd.checked }
namespace Rows
def none {H : Type} : Left H := { results := [], args := [] }

/- WHAT THE LISTED PACKAGE-LEVEL VARIABLES READ AS WHEN THE CALL BEGINS. Each datum BY PROGRAM (the guide's laid-datum.mjs) off the statement by which the dump's own 'gosem.cut.vars' lays the variable. In a bare row this is a premise. The card (YtfnnnopbcdiibaaDoorCards.lean) ties it to the program's text. -/
def laid_math_bits_deBruijn64tab {H : Type} : DataW H := .agg [.lit (.int .u8 0), .lit (.int .u8 1), .lit (.int .u8 56), .lit (.int .u8 2), .lit (.int .u8 57), .lit (.int .u8 49), .lit (.int .u8 28), .lit (.int .u8 3), .lit (.int .u8 61), .lit (.int .u8 58), .lit (.int .u8 42), .lit (.int .u8 50), .lit (.int .u8 38), .lit (.int .u8 29), .lit (.int .u8 17), .lit (.int .u8 4), .lit (.int .u8 62), .lit (.int .u8 47), .lit (.int .u8 59), .lit (.int .u8 36), .lit (.int .u8 45), .lit (.int .u8 43), .lit (.int .u8 51), .lit (.int .u8 22), .lit (.int .u8 53), .lit (.int .u8 39), .lit (.int .u8 33), .lit (.int .u8 30), .lit (.int .u8 24), .lit (.int .u8 18), .lit (.int .u8 12), .lit (.int .u8 5), .lit (.int .u8 63), .lit (.int .u8 55), .lit (.int .u8 48), .lit (.int .u8 27), .lit (.int .u8 60), .lit (.int .u8 41), .lit (.int .u8 37), .lit (.int .u8 16), .lit (.int .u8 46), .lit (.int .u8 35), .lit (.int .u8 44), .lit (.int .u8 21), .lit (.int .u8 52), .lit (.int .u8 32), .lit (.int .u8 23), .lit (.int .u8 11), .lit (.int .u8 54), .lit (.int .u8 26), .lit (.int .u8 40), .lit (.int .u8 15), .lit (.int .u8 34), .lit (.int .u8 20), .lit (.int .u8 31), .lit (.int .u8 10), .lit (.int .u8 25), .lit (.int .u8 14), .lit (.int .u8 19), .lit (.int .u8 9), .lit (.int .u8 13), .lit (.int .u8 8), .lit (.int .u8 7), .lit (.int .u8 6)]

/-- 'laws.FnExactPowerOf': WHATEVER THE INPUT: true; the input reads as it did. -/
def fnExactPowerOfSpec : ChangeSpec := { name := "fnExactPowerOf", fn := fun _ => fun
  | [d1, d2, d3] => { results := [.lit (.bool true)], args := [d1, d2, d3] }
  | _ => none }
def fnExactPowerOfRow : OpenClaim := { program := "ytfnnnopbcdiibaadoor", sum := "6fc493a08a4d5ef33facef25bbc2c69baf3c23cf828c1be9eb2fec224e418f7b", func := "loop.example/g01094/laws.FnExactPowerOf", spec := "fnExactPowerOf", unfollowed := true, recurses := true, named := ["math/bits.deBruijn64tab"], apart := false, laid := [("math/bits.deBruijn64tab", laid_math_bits_deBruijn64tab)] }
def FnExactPowerOfSaid : Prop := fnExactPowerOfRow.holds Tryd.pinned (OpenSpec.ofChange fnExactPowerOfSpec)

/-- ITS FALSE NEIGHBOUR: 'it returns false'. Refute it at one input. -/
def fnExactPowerOfWrong : ChangeSpec := { name := "fnExactPowerOf", fn := fun _ => fun
  | [d1, d2, d3] => { results := [.lit (.bool false)], args := [d1, d2, d3] }
  | _ => none }
def FnExactPowerOfWrongFalsely : Prop := fnExactPowerOfRow.holds Tryd.pinned (OpenSpec.ofChange fnExactPowerOfWrong)

/-- 'laws.FnExactLongestChain': WHATEVER THE INPUT: true; the input reads as it did. -/
def fnExactLongestChainSpec : ChangeSpec := { name := "fnExactLongestChain", fn := fun _ => fun
  | [d1, d2] => { results := [.lit (.bool true)], args := [d1, d2] }
  | _ => none }
def fnExactLongestChainRow : OpenClaim := { program := "ytfnnnopbcdiibaadoor", sum := "6fc493a08a4d5ef33facef25bbc2c69baf3c23cf828c1be9eb2fec224e418f7b", func := "loop.example/g01094/laws.FnExactLongestChain", spec := "fnExactLongestChain", unfollowed := true, recurses := true, named := ["math/bits.deBruijn64tab"], apart := false, laid := [("math/bits.deBruijn64tab", laid_math_bits_deBruijn64tab)] }
def FnExactLongestChainSaid : Prop := fnExactLongestChainRow.holds Tryd.pinned (OpenSpec.ofChange fnExactLongestChainSpec)

/-- ITS FALSE NEIGHBOUR: 'it returns false'. Refute it at one input. -/
def fnExactLongestChainWrong : ChangeSpec := { name := "fnExactLongestChain", fn := fun _ => fun
  | [d1, d2] => { results := [.lit (.bool false)], args := [d1, d2] }
  | _ => none }
def FnExactLongestChainWrongFalsely : Prop := fnExactLongestChainRow.holds Tryd.pinned (OpenSpec.ofChange fnExactLongestChainWrong)

/-- 'laws.FnExactIsPrimitive': WHATEVER THE INPUT: true; the input reads as it did. -/
def fnExactIsPrimitiveSpec : ChangeSpec := { name := "fnExactIsPrimitive", fn := fun _ => fun
  | [d1, d2] => { results := [.lit (.bool true)], args := [d1, d2] }
  | _ => none }
def fnExactIsPrimitiveRow : OpenClaim := { program := "ytfnnnopbcdiibaadoor", sum := "6fc493a08a4d5ef33facef25bbc2c69baf3c23cf828c1be9eb2fec224e418f7b", func := "loop.example/g01094/laws.FnExactIsPrimitive", spec := "fnExactIsPrimitive", unfollowed := true, recurses := true, named := ["math/bits.deBruijn64tab"], apart := false, laid := [("math/bits.deBruijn64tab", laid_math_bits_deBruijn64tab)] }
def FnExactIsPrimitiveSaid : Prop := fnExactIsPrimitiveRow.holds Tryd.pinned (OpenSpec.ofChange fnExactIsPrimitiveSpec)

/-- ITS FALSE NEIGHBOUR: 'it returns false'. Refute it at one input. -/
def fnExactIsPrimitiveWrong : ChangeSpec := { name := "fnExactIsPrimitive", fn := fun _ => fun
  | [d1, d2] => { results := [.lit (.bool false)], args := [d1, d2] }
  | _ => none }
def FnExactIsPrimitiveWrongFalsely : Prop := fnExactIsPrimitiveRow.holds Tryd.pinned (OpenSpec.ofChange fnExactIsPrimitiveWrong)

/-- 'laws.FnExactRootOf': WHATEVER THE INPUT: true; the input reads as it did. -/
def fnExactRootOfSpec : ChangeSpec := { name := "fnExactRootOf", fn := fun _ => fun
  | [d1, d2] => { results := [.lit (.bool true)], args := [d1, d2] }
  | _ => none }
def fnExactRootOfRow : OpenClaim := { program := "ytfnnnopbcdiibaadoor", sum := "6fc493a08a4d5ef33facef25bbc2c69baf3c23cf828c1be9eb2fec224e418f7b", func := "loop.example/g01094/laws.FnExactRootOf", spec := "fnExactRootOf", unfollowed := true, recurses := true, named := ["math/bits.deBruijn64tab"], apart := false, laid := [("math/bits.deBruijn64tab", laid_math_bits_deBruijn64tab)] }
def FnExactRootOfSaid : Prop := fnExactRootOfRow.holds Tryd.pinned (OpenSpec.ofChange fnExactRootOfSpec)

/-- ITS FALSE NEIGHBOUR: 'it returns false'. Refute it at one input. -/
def fnExactRootOfWrong : ChangeSpec := { name := "fnExactRootOf", fn := fun _ => fun
  | [d1, d2] => { results := [.lit (.bool false)], args := [d1, d2] }
  | _ => none }
def FnExactRootOfWrongFalsely : Prop := fnExactRootOfRow.holds Tryd.pinned (OpenSpec.ofChange fnExactRootOfWrong)

/-- 'laws.FnExactLeviOf': WHATEVER THE INPUT: true; the input reads as it did. -/
def fnExactLeviOfSpec : ChangeSpec := { name := "fnExactLeviOf", fn := fun _ => fun
  | [d1, d2, d3, d4, d5] => { results := [.lit (.bool true)], args := [d1, d2, d3, d4, d5] }
  | _ => none }
def fnExactLeviOfRow : OpenClaim := { program := "ytfnnnopbcdiibaadoor", sum := "6fc493a08a4d5ef33facef25bbc2c69baf3c23cf828c1be9eb2fec224e418f7b", func := "loop.example/g01094/laws.FnExactLeviOf", spec := "fnExactLeviOf", unfollowed := true, recurses := true, named := ["math/bits.deBruijn64tab"], apart := false, laid := [("math/bits.deBruijn64tab", laid_math_bits_deBruijn64tab)] }
def FnExactLeviOfSaid : Prop := fnExactLeviOfRow.holds Tryd.pinned (OpenSpec.ofChange fnExactLeviOfSpec)

/-- ITS FALSE NEIGHBOUR: 'it returns false'. Refute it at one input. -/
def fnExactLeviOfWrong : ChangeSpec := { name := "fnExactLeviOf", fn := fun _ => fun
  | [d1, d2, d3, d4, d5] => { results := [.lit (.bool false)], args := [d1, d2, d3, d4, d5] }
  | _ => none }
def FnExactLeviOfWrongFalsely : Prop := fnExactLeviOfRow.holds Tryd.pinned (OpenSpec.ofChange fnExactLeviOfWrong)

/-- 'laws.FnExactTraceComponents': WHATEVER THE INPUT: true; the input reads as it did. -/
def fnExactTraceComponentsSpec : ChangeSpec := { name := "fnExactTraceComponents", fn := fun _ => fun
  | [d1, d2] => { results := [.lit (.bool true)], args := [d1, d2] }
  | _ => none }
def fnExactTraceComponentsRow : OpenClaim := { program := "ytfnnnopbcdiibaadoor", sum := "6fc493a08a4d5ef33facef25bbc2c69baf3c23cf828c1be9eb2fec224e418f7b", func := "loop.example/g01094/laws.FnExactTraceComponents", spec := "fnExactTraceComponents", unfollowed := true, recurses := true, named := ["math/bits.deBruijn64tab"], apart := false, laid := [("math/bits.deBruijn64tab", laid_math_bits_deBruijn64tab)] }
def FnExactTraceComponentsSaid : Prop := fnExactTraceComponentsRow.holds Tryd.pinned (OpenSpec.ofChange fnExactTraceComponentsSpec)

/-- ITS FALSE NEIGHBOUR: 'it returns false'. Refute it at one input. -/
def fnExactTraceComponentsWrong : ChangeSpec := { name := "fnExactTraceComponents", fn := fun _ => fun
  | [d1, d2] => { results := [.lit (.bool false)], args := [d1, d2] }
  | _ => none }
def FnExactTraceComponentsWrongFalsely : Prop := fnExactTraceComponentsRow.holds Tryd.pinned (OpenSpec.ofChange fnExactTraceComponentsWrong)

/-- 'laws.FnExactCommonContinuation': WHATEVER THE INPUT: true; the input reads as it did. -/
def fnExactCommonContinuationSpec : ChangeSpec := { name := "fnExactCommonContinuation", fn := fun _ => fun
  | [d1, d2] => { results := [.lit (.bool true)], args := [d1, d2] }
  | _ => none }
def fnExactCommonContinuationRow : OpenClaim := { program := "ytfnnnopbcdiibaadoor", sum := "6fc493a08a4d5ef33facef25bbc2c69baf3c23cf828c1be9eb2fec224e418f7b", func := "loop.example/g01094/laws.FnExactCommonContinuation", spec := "fnExactCommonContinuation", unfollowed := true, recurses := true, named := ["math/bits.deBruijn64tab"], apart := false, laid := [("math/bits.deBruijn64tab", laid_math_bits_deBruijn64tab)] }
def FnExactCommonContinuationSaid : Prop := fnExactCommonContinuationRow.holds Tryd.pinned (OpenSpec.ofChange fnExactCommonContinuationSpec)

/-- ITS FALSE NEIGHBOUR: 'it returns false'. Refute it at one input. -/
def fnExactCommonContinuationWrong : ChangeSpec := { name := "fnExactCommonContinuation", fn := fun _ => fun
  | [d1, d2] => { results := [.lit (.bool false)], args := [d1, d2] }
  | _ => none }
def FnExactCommonContinuationWrongFalsely : Prop := fnExactCommonContinuationRow.holds Tryd.pinned (OpenSpec.ofChange fnExactCommonContinuationWrong)

/-- 'laws.FnExactAreConjugate': WHATEVER THE INPUT: true; the input reads as it did. -/
def fnExactAreConjugateSpec : ChangeSpec := { name := "fnExactAreConjugate", fn := fun _ => fun
  | [d1, d2, d3] => { results := [.lit (.bool true)], args := [d1, d2, d3] }
  | _ => none }
def fnExactAreConjugateRow : OpenClaim := { program := "ytfnnnopbcdiibaadoor", sum := "6fc493a08a4d5ef33facef25bbc2c69baf3c23cf828c1be9eb2fec224e418f7b", func := "loop.example/g01094/laws.FnExactAreConjugate", spec := "fnExactAreConjugate", unfollowed := true, recurses := true, named := ["math/bits.deBruijn64tab"], apart := false, laid := [("math/bits.deBruijn64tab", laid_math_bits_deBruijn64tab)] }
def FnExactAreConjugateSaid : Prop := fnExactAreConjugateRow.holds Tryd.pinned (OpenSpec.ofChange fnExactAreConjugateSpec)

/-- ITS FALSE NEIGHBOUR: 'it returns false'. Refute it at one input. -/
def fnExactAreConjugateWrong : ChangeSpec := { name := "fnExactAreConjugate", fn := fun _ => fun
  | [d1, d2, d3] => { results := [.lit (.bool false)], args := [d1, d2, d3] }
  | _ => none }
def FnExactAreConjugateWrongFalsely : Prop := fnExactAreConjugateRow.holds Tryd.pinned (OpenSpec.ofChange fnExactAreConjugateWrong)

/-- 'laws.FnExactConjugatorOf': WHATEVER THE INPUT: true; the input reads as it did. -/
def fnExactConjugatorOfSpec : ChangeSpec := { name := "fnExactConjugatorOf", fn := fun _ => fun
  | [d1, d2, d3] => { results := [.lit (.bool true)], args := [d1, d2, d3] }
  | _ => none }
def fnExactConjugatorOfRow : OpenClaim := { program := "ytfnnnopbcdiibaadoor", sum := "6fc493a08a4d5ef33facef25bbc2c69baf3c23cf828c1be9eb2fec224e418f7b", func := "loop.example/g01094/laws.FnExactConjugatorOf", spec := "fnExactConjugatorOf", unfollowed := true, recurses := true, named := ["math/bits.deBruijn64tab"], apart := false, laid := [("math/bits.deBruijn64tab", laid_math_bits_deBruijn64tab)] }
def FnExactConjugatorOfSaid : Prop := fnExactConjugatorOfRow.holds Tryd.pinned (OpenSpec.ofChange fnExactConjugatorOfSpec)

/-- ITS FALSE NEIGHBOUR: 'it returns false'. Refute it at one input. -/
def fnExactConjugatorOfWrong : ChangeSpec := { name := "fnExactConjugatorOf", fn := fun _ => fun
  | [d1, d2, d3] => { results := [.lit (.bool false)], args := [d1, d2, d3] }
  | _ => none }
def FnExactConjugatorOfWrongFalsely : Prop := fnExactConjugatorOfRow.holds Tryd.pinned (OpenSpec.ofChange fnExactConjugatorOfWrong)

/-- 'laws.FnExactCountPrefixes': WHATEVER THE INPUT: true; the input reads as it did. -/
def fnExactCountPrefixesSpec : ChangeSpec := { name := "fnExactCountPrefixes", fn := fun _ => fun
  | [d1, d2] => { results := [.lit (.bool true)], args := [d1, d2] }
  | _ => none }
def fnExactCountPrefixesRow : OpenClaim := { program := "ytfnnnopbcdiibaadoor", sum := "6fc493a08a4d5ef33facef25bbc2c69baf3c23cf828c1be9eb2fec224e418f7b", func := "loop.example/g01094/laws.FnExactCountPrefixes", spec := "fnExactCountPrefixes", unfollowed := true, recurses := true, named := ["math/bits.deBruijn64tab"], apart := false, laid := [("math/bits.deBruijn64tab", laid_math_bits_deBruijn64tab)] }
def FnExactCountPrefixesSaid : Prop := fnExactCountPrefixesRow.holds Tryd.pinned (OpenSpec.ofChange fnExactCountPrefixesSpec)

/-- ITS FALSE NEIGHBOUR: 'it returns false'. Refute it at one input. -/
def fnExactCountPrefixesWrong : ChangeSpec := { name := "fnExactCountPrefixes", fn := fun _ => fun
  | [d1, d2] => { results := [.lit (.bool false)], args := [d1, d2] }
  | _ => none }
def FnExactCountPrefixesWrongFalsely : Prop := fnExactCountPrefixesRow.holds Tryd.pinned (OpenSpec.ofChange fnExactCountPrefixesWrong)

/-- 'laws.FnExactCliquePolynomial': WHATEVER THE INPUT: true; the input reads as it did. -/
def fnExactCliquePolynomialSpec : ChangeSpec := { name := "fnExactCliquePolynomial", fn := fun _ => fun
  | [d] => { results := [.lit (.bool true)], args := [d] }
  | _ => none }
def fnExactCliquePolynomialRow : OpenClaim := { program := "ytfnnnopbcdiibaadoor", sum := "6fc493a08a4d5ef33facef25bbc2c69baf3c23cf828c1be9eb2fec224e418f7b", func := "loop.example/g01094/laws.FnExactCliquePolynomial", spec := "fnExactCliquePolynomial", unfollowed := true, recurses := true, named := ["math/bits.deBruijn64tab"], apart := false, laid := [("math/bits.deBruijn64tab", laid_math_bits_deBruijn64tab)] }
def FnExactCliquePolynomialSaid : Prop := fnExactCliquePolynomialRow.holds Tryd.pinned (OpenSpec.ofChange fnExactCliquePolynomialSpec)

/-- ITS FALSE NEIGHBOUR: 'it returns false'. Refute it at one input. -/
def fnExactCliquePolynomialWrong : ChangeSpec := { name := "fnExactCliquePolynomial", fn := fun _ => fun
  | [d] => { results := [.lit (.bool false)], args := [d] }
  | _ => none }
def FnExactCliquePolynomialWrongFalsely : Prop := fnExactCliquePolynomialRow.holds Tryd.pinned (OpenSpec.ofChange fnExactCliquePolynomialWrong)

/-- 'laws.FnExactCountTraces': WHATEVER THE INPUT: true; the input reads as it did. -/
def fnExactCountTracesSpec : ChangeSpec := { name := "fnExactCountTraces", fn := fun _ => fun
  | [d1, d2] => { results := [.lit (.bool true)], args := [d1, d2] }
  | _ => none }
def fnExactCountTracesRow : OpenClaim := { program := "ytfnnnopbcdiibaadoor", sum := "6fc493a08a4d5ef33facef25bbc2c69baf3c23cf828c1be9eb2fec224e418f7b", func := "loop.example/g01094/laws.FnExactCountTraces", spec := "fnExactCountTraces", unfollowed := true, recurses := true, named := ["math/bits.deBruijn64tab"], apart := false, laid := [("math/bits.deBruijn64tab", laid_math_bits_deBruijn64tab)] }
def FnExactCountTracesSaid : Prop := fnExactCountTracesRow.holds Tryd.pinned (OpenSpec.ofChange fnExactCountTracesSpec)

/-- ITS FALSE NEIGHBOUR: 'it returns false'. Refute it at one input. -/
def fnExactCountTracesWrong : ChangeSpec := { name := "fnExactCountTraces", fn := fun _ => fun
  | [d1, d2] => { results := [.lit (.bool false)], args := [d1, d2] }
  | _ => none }
def FnExactCountTracesWrongFalsely : Prop := fnExactCountTracesRow.holds Tryd.pinned (OpenSpec.ofChange fnExactCountTracesWrong)

/- THE SECOND FORM. 'bulk': how many values and letters a reading holds, each counted each time it is reached (what is shared counts as often as it is met; a slice's spare places count too). A statement '..UptoSaid' is the law's where the arguments, and the package variables that the reading takes, are together of bulk at most 1048576: NARROWER than '..Said'. Prove '..Said' where nothing that the law and all that it calls make is longer than what came in: it says more and counts as full. Else prove '..UptoSaid'. A law counts once. -/
mutual
def uptoBulk {H : Type} : DataW H → Nat
  | .lit (.string bytes) => bytes.length + 1
  | .lit _ => 1
  | .nil => 1
  | .ptr d => uptoBulk d + 1
  | .slice elems spare => uptoBulkAll elems + uptoBulkAll spare + 1
  | .agg parts => uptoBulkAll parts + 1
  | .iface _ d => uptoBulk d + 1
  | .map entries => uptoBulkEntries entries + 1
  | .held _ => 1
def uptoBulkAll {H : Type} : List (DataW H) → Nat
  | [] => 0
  | d :: r => uptoBulk d + uptoBulkAll r
def uptoBulkEntries {H : Type} : List (Lit × DataW H) → Nat
  | [] => 0
  | x :: r => uptoBulkEntry x + uptoBulkEntries r
def uptoBulkEntry {H : Type} : Lit × DataW H → Nat
  | (.string bytes, d) => bytes.length + uptoBulk d + 1
  | (_, d) => uptoBulk d + 1
 end
def uptoSmall : (H : Type) → List (DataW H) → Bool := fun _ ds => decide (uptoBulkAll ds ≤ 1048576)
def OpenSpec.upto (s : _root_.Go.ChangeSpec) : _root_.Go.OpenSpec := { _root_.Go.OpenSpec.ofChange s with cond := some uptoSmall }

/-- 'laws.FnExactPowerOf', WHERE WHAT IT READS IS OF BULK AT MOST 1048576: true; the input reads as it did. -/
def fnExactPowerOfUptoRow : OpenClaim := { program := "ytfnnnopbcdiibaadoor", sum := "6fc493a08a4d5ef33facef25bbc2c69baf3c23cf828c1be9eb2fec224e418f7b", func := "loop.example/g01094/laws.FnExactPowerOf", spec := "fnExactPowerOf", unfollowed := true, recurses := true, named := ["math/bits.deBruijn64tab"], apart := false, laid := [("math/bits.deBruijn64tab", laid_math_bits_deBruijn64tab)], narrowed := true }
def FnExactPowerOfUptoSaid : Prop := fnExactPowerOfUptoRow.holds Tryd.pinned (OpenSpec.upto fnExactPowerOfSpec)

/-- 'laws.FnExactLongestChain', WHERE WHAT IT READS IS OF BULK AT MOST 1048576: true; the input reads as it did. -/
def fnExactLongestChainUptoRow : OpenClaim := { program := "ytfnnnopbcdiibaadoor", sum := "6fc493a08a4d5ef33facef25bbc2c69baf3c23cf828c1be9eb2fec224e418f7b", func := "loop.example/g01094/laws.FnExactLongestChain", spec := "fnExactLongestChain", unfollowed := true, recurses := true, named := ["math/bits.deBruijn64tab"], apart := false, laid := [("math/bits.deBruijn64tab", laid_math_bits_deBruijn64tab)], narrowed := true }
def FnExactLongestChainUptoSaid : Prop := fnExactLongestChainUptoRow.holds Tryd.pinned (OpenSpec.upto fnExactLongestChainSpec)

/-- 'laws.FnExactIsPrimitive', WHERE WHAT IT READS IS OF BULK AT MOST 1048576: true; the input reads as it did. -/
def fnExactIsPrimitiveUptoRow : OpenClaim := { program := "ytfnnnopbcdiibaadoor", sum := "6fc493a08a4d5ef33facef25bbc2c69baf3c23cf828c1be9eb2fec224e418f7b", func := "loop.example/g01094/laws.FnExactIsPrimitive", spec := "fnExactIsPrimitive", unfollowed := true, recurses := true, named := ["math/bits.deBruijn64tab"], apart := false, laid := [("math/bits.deBruijn64tab", laid_math_bits_deBruijn64tab)], narrowed := true }
def FnExactIsPrimitiveUptoSaid : Prop := fnExactIsPrimitiveUptoRow.holds Tryd.pinned (OpenSpec.upto fnExactIsPrimitiveSpec)

/-- 'laws.FnExactRootOf', WHERE WHAT IT READS IS OF BULK AT MOST 1048576: true; the input reads as it did. -/
def fnExactRootOfUptoRow : OpenClaim := { program := "ytfnnnopbcdiibaadoor", sum := "6fc493a08a4d5ef33facef25bbc2c69baf3c23cf828c1be9eb2fec224e418f7b", func := "loop.example/g01094/laws.FnExactRootOf", spec := "fnExactRootOf", unfollowed := true, recurses := true, named := ["math/bits.deBruijn64tab"], apart := false, laid := [("math/bits.deBruijn64tab", laid_math_bits_deBruijn64tab)], narrowed := true }
def FnExactRootOfUptoSaid : Prop := fnExactRootOfUptoRow.holds Tryd.pinned (OpenSpec.upto fnExactRootOfSpec)

/-- 'laws.FnExactLeviOf', WHERE WHAT IT READS IS OF BULK AT MOST 1048576: true; the input reads as it did. -/
def fnExactLeviOfUptoRow : OpenClaim := { program := "ytfnnnopbcdiibaadoor", sum := "6fc493a08a4d5ef33facef25bbc2c69baf3c23cf828c1be9eb2fec224e418f7b", func := "loop.example/g01094/laws.FnExactLeviOf", spec := "fnExactLeviOf", unfollowed := true, recurses := true, named := ["math/bits.deBruijn64tab"], apart := false, laid := [("math/bits.deBruijn64tab", laid_math_bits_deBruijn64tab)], narrowed := true }
def FnExactLeviOfUptoSaid : Prop := fnExactLeviOfUptoRow.holds Tryd.pinned (OpenSpec.upto fnExactLeviOfSpec)

/-- 'laws.FnExactTraceComponents', WHERE WHAT IT READS IS OF BULK AT MOST 1048576: true; the input reads as it did. -/
def fnExactTraceComponentsUptoRow : OpenClaim := { program := "ytfnnnopbcdiibaadoor", sum := "6fc493a08a4d5ef33facef25bbc2c69baf3c23cf828c1be9eb2fec224e418f7b", func := "loop.example/g01094/laws.FnExactTraceComponents", spec := "fnExactTraceComponents", unfollowed := true, recurses := true, named := ["math/bits.deBruijn64tab"], apart := false, laid := [("math/bits.deBruijn64tab", laid_math_bits_deBruijn64tab)], narrowed := true }
def FnExactTraceComponentsUptoSaid : Prop := fnExactTraceComponentsUptoRow.holds Tryd.pinned (OpenSpec.upto fnExactTraceComponentsSpec)

/-- 'laws.FnExactCommonContinuation', WHERE WHAT IT READS IS OF BULK AT MOST 1048576: true; the input reads as it did. -/
def fnExactCommonContinuationUptoRow : OpenClaim := { program := "ytfnnnopbcdiibaadoor", sum := "6fc493a08a4d5ef33facef25bbc2c69baf3c23cf828c1be9eb2fec224e418f7b", func := "loop.example/g01094/laws.FnExactCommonContinuation", spec := "fnExactCommonContinuation", unfollowed := true, recurses := true, named := ["math/bits.deBruijn64tab"], apart := false, laid := [("math/bits.deBruijn64tab", laid_math_bits_deBruijn64tab)], narrowed := true }
def FnExactCommonContinuationUptoSaid : Prop := fnExactCommonContinuationUptoRow.holds Tryd.pinned (OpenSpec.upto fnExactCommonContinuationSpec)

/-- 'laws.FnExactAreConjugate', WHERE WHAT IT READS IS OF BULK AT MOST 1048576: true; the input reads as it did. -/
def fnExactAreConjugateUptoRow : OpenClaim := { program := "ytfnnnopbcdiibaadoor", sum := "6fc493a08a4d5ef33facef25bbc2c69baf3c23cf828c1be9eb2fec224e418f7b", func := "loop.example/g01094/laws.FnExactAreConjugate", spec := "fnExactAreConjugate", unfollowed := true, recurses := true, named := ["math/bits.deBruijn64tab"], apart := false, laid := [("math/bits.deBruijn64tab", laid_math_bits_deBruijn64tab)], narrowed := true }
def FnExactAreConjugateUptoSaid : Prop := fnExactAreConjugateUptoRow.holds Tryd.pinned (OpenSpec.upto fnExactAreConjugateSpec)

/-- 'laws.FnExactConjugatorOf', WHERE WHAT IT READS IS OF BULK AT MOST 1048576: true; the input reads as it did. -/
def fnExactConjugatorOfUptoRow : OpenClaim := { program := "ytfnnnopbcdiibaadoor", sum := "6fc493a08a4d5ef33facef25bbc2c69baf3c23cf828c1be9eb2fec224e418f7b", func := "loop.example/g01094/laws.FnExactConjugatorOf", spec := "fnExactConjugatorOf", unfollowed := true, recurses := true, named := ["math/bits.deBruijn64tab"], apart := false, laid := [("math/bits.deBruijn64tab", laid_math_bits_deBruijn64tab)], narrowed := true }
def FnExactConjugatorOfUptoSaid : Prop := fnExactConjugatorOfUptoRow.holds Tryd.pinned (OpenSpec.upto fnExactConjugatorOfSpec)

/-- 'laws.FnExactCountPrefixes', WHERE WHAT IT READS IS OF BULK AT MOST 1048576: true; the input reads as it did. -/
def fnExactCountPrefixesUptoRow : OpenClaim := { program := "ytfnnnopbcdiibaadoor", sum := "6fc493a08a4d5ef33facef25bbc2c69baf3c23cf828c1be9eb2fec224e418f7b", func := "loop.example/g01094/laws.FnExactCountPrefixes", spec := "fnExactCountPrefixes", unfollowed := true, recurses := true, named := ["math/bits.deBruijn64tab"], apart := false, laid := [("math/bits.deBruijn64tab", laid_math_bits_deBruijn64tab)], narrowed := true }
def FnExactCountPrefixesUptoSaid : Prop := fnExactCountPrefixesUptoRow.holds Tryd.pinned (OpenSpec.upto fnExactCountPrefixesSpec)

/-- 'laws.FnExactCliquePolynomial', WHERE WHAT IT READS IS OF BULK AT MOST 1048576: true; the input reads as it did. -/
def fnExactCliquePolynomialUptoRow : OpenClaim := { program := "ytfnnnopbcdiibaadoor", sum := "6fc493a08a4d5ef33facef25bbc2c69baf3c23cf828c1be9eb2fec224e418f7b", func := "loop.example/g01094/laws.FnExactCliquePolynomial", spec := "fnExactCliquePolynomial", unfollowed := true, recurses := true, named := ["math/bits.deBruijn64tab"], apart := false, laid := [("math/bits.deBruijn64tab", laid_math_bits_deBruijn64tab)], narrowed := true }
def FnExactCliquePolynomialUptoSaid : Prop := fnExactCliquePolynomialUptoRow.holds Tryd.pinned (OpenSpec.upto fnExactCliquePolynomialSpec)

/-- 'laws.FnExactCountTraces', WHERE WHAT IT READS IS OF BULK AT MOST 1048576: true; the input reads as it did. -/
def fnExactCountTracesUptoRow : OpenClaim := { program := "ytfnnnopbcdiibaadoor", sum := "6fc493a08a4d5ef33facef25bbc2c69baf3c23cf828c1be9eb2fec224e418f7b", func := "loop.example/g01094/laws.FnExactCountTraces", spec := "fnExactCountTraces", unfollowed := true, recurses := true, named := ["math/bits.deBruijn64tab"], apart := false, laid := [("math/bits.deBruijn64tab", laid_math_bits_deBruijn64tab)], narrowed := true }
def FnExactCountTracesUptoSaid : Prop := fnExactCountTracesUptoRow.holds Tryd.pinned (OpenSpec.upto fnExactCountTracesSpec)

end Rows
end Go.Proofs.YtfnnnopbcdiibaaDoor
