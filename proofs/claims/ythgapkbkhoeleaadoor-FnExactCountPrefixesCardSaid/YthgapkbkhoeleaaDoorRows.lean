/-
  NARROWER THAN 'FOR EVERY INPUT', by the rows' own cells (each row's printed sentence says how): FnExactTraceComponents: laid · FnExactLeviOf: laid · FnExactCommonContinuation: laid · FnExactTracesOfLength: laid · FnExactCountByHeight: laid · FnExactCountByFirst: laid · FnWidths: laid · FnLevi: laid · FnProductCounts: laid · FnExactLongestChain: laid · FnExactCountPrefixes: laid · FnHeights: laid.
  DERIVED. THE GIVEN ROWS OF THIS SEAT. 12 by the template 'for every input the law returns true; each argument reads behind the call as it read before'; 0 by the template 'total and deterministic' (their statements: YthgapkbkhoeleaaDoorTotals.lean).
  GIVEN WITH THE SEED: the statements are not yours to turn. If you find one false, say at which input.
  Laid BY PROGRAM, IN A SANDBOX (cutbox-rows.mjs): the forced cells as the released guide's own fill.sh prints them over the translation 074f67111d9086ea… (all of the seat's roots in one cut). By AI agents, Wed Nov 11 2026. No macro, syntax, notation, axiom, sorry.
-/
import Derived.Test.YthgapkbkhoeleaaDoorChecked
import GoSem.Claim
import GoSem.ClaimJoined
import GoSem.ClaimMapViews
import Derived.JoinedTies
import Derived.KernelRfl
namespace Go.Proofs.YthgapkbkhoeleaaDoor
/- THE CELL 'sum', in the pinned program and in every row, IS THE sha256 OF THE DUMP (.gsa) THAT YthgapkbkhoeleaaDoorProg.lean LOADS. Nothing in Lean hashes anything: it is a label: what it is worth is what the hold of that sum in a sandbox is worth. -/
noncomputable def Tryd.pinned : Pinned := { name := "ythgapkbkhoeleaadoor", sum := "074f67111d9086eaf56da7b78b8b04348c046a57931f1a16c05223693a2bc07f", checked := Tryd.checked }
namespace Rows
def none {H : Type} : Left H := { results := [], args := [] }

/- WHAT THE LISTED PACKAGE-LEVEL VARIABLES READ AS WHEN THE CALL BEGINS. Each datum BY PROGRAM (the guide's laid-datum.mjs) off the statement by which the dump's own 'gosem.cut.vars' lays the variable. In a bare row this is a premise. The card (YthgapkbkhoeleaaDoorCards.lean) ties it to the program's text. -/
def laid_math_bits_deBruijn64tab {H : Type} : DataW H := .agg [.lit (.int .u8 0), .lit (.int .u8 1), .lit (.int .u8 56), .lit (.int .u8 2), .lit (.int .u8 57), .lit (.int .u8 49), .lit (.int .u8 28), .lit (.int .u8 3), .lit (.int .u8 61), .lit (.int .u8 58), .lit (.int .u8 42), .lit (.int .u8 50), .lit (.int .u8 38), .lit (.int .u8 29), .lit (.int .u8 17), .lit (.int .u8 4), .lit (.int .u8 62), .lit (.int .u8 47), .lit (.int .u8 59), .lit (.int .u8 36), .lit (.int .u8 45), .lit (.int .u8 43), .lit (.int .u8 51), .lit (.int .u8 22), .lit (.int .u8 53), .lit (.int .u8 39), .lit (.int .u8 33), .lit (.int .u8 30), .lit (.int .u8 24), .lit (.int .u8 18), .lit (.int .u8 12), .lit (.int .u8 5), .lit (.int .u8 63), .lit (.int .u8 55), .lit (.int .u8 48), .lit (.int .u8 27), .lit (.int .u8 60), .lit (.int .u8 41), .lit (.int .u8 37), .lit (.int .u8 16), .lit (.int .u8 46), .lit (.int .u8 35), .lit (.int .u8 44), .lit (.int .u8 21), .lit (.int .u8 52), .lit (.int .u8 32), .lit (.int .u8 23), .lit (.int .u8 11), .lit (.int .u8 54), .lit (.int .u8 26), .lit (.int .u8 40), .lit (.int .u8 15), .lit (.int .u8 34), .lit (.int .u8 20), .lit (.int .u8 31), .lit (.int .u8 10), .lit (.int .u8 25), .lit (.int .u8 14), .lit (.int .u8 19), .lit (.int .u8 9), .lit (.int .u8 13), .lit (.int .u8 8), .lit (.int .u8 7), .lit (.int .u8 6)]

/-- 'laws.FnExactTraceComponents': WHATEVER THE INPUT: true; the input reads as it did. -/
def fnExactTraceComponentsSpec : ChangeSpec := { name := "fnExactTraceComponents", fn := fun _ => fun
  | [d1, d2] => { results := [.lit (.bool true)], args := [d1, d2] }
  | _ => none }
def fnExactTraceComponentsRow : OpenClaim := { program := "ythgapkbkhoeleaadoor", sum := "074f67111d9086eaf56da7b78b8b04348c046a57931f1a16c05223693a2bc07f", func := "loop.example/g01094/laws.FnExactTraceComponents", spec := "fnExactTraceComponents", unfollowed := true, recurses := true, named := ["math/bits.deBruijn64tab"], apart := false, laid := [("math/bits.deBruijn64tab", laid_math_bits_deBruijn64tab)] }
def FnExactTraceComponentsSaid : Prop := fnExactTraceComponentsRow.holds Tryd.pinned (OpenSpec.ofChange fnExactTraceComponentsSpec)

/-- ITS FALSE NEIGHBOUR: 'it returns false'. Refute it at one input. -/
def fnExactTraceComponentsWrong : ChangeSpec := { name := "fnExactTraceComponents", fn := fun _ => fun
  | [d1, d2] => { results := [.lit (.bool false)], args := [d1, d2] }
  | _ => none }
def FnExactTraceComponentsWrongFalsely : Prop := fnExactTraceComponentsRow.holds Tryd.pinned (OpenSpec.ofChange fnExactTraceComponentsWrong)

/-- 'laws.FnExactLeviOf': WHATEVER THE INPUT: true; the input reads as it did. -/
def fnExactLeviOfSpec : ChangeSpec := { name := "fnExactLeviOf", fn := fun _ => fun
  | [d1, d2, d3, d4, d5] => { results := [.lit (.bool true)], args := [d1, d2, d3, d4, d5] }
  | _ => none }
def fnExactLeviOfRow : OpenClaim := { program := "ythgapkbkhoeleaadoor", sum := "074f67111d9086eaf56da7b78b8b04348c046a57931f1a16c05223693a2bc07f", func := "loop.example/g01094/laws.FnExactLeviOf", spec := "fnExactLeviOf", unfollowed := true, recurses := true, named := ["math/bits.deBruijn64tab"], apart := false, laid := [("math/bits.deBruijn64tab", laid_math_bits_deBruijn64tab)] }
def FnExactLeviOfSaid : Prop := fnExactLeviOfRow.holds Tryd.pinned (OpenSpec.ofChange fnExactLeviOfSpec)

/-- ITS FALSE NEIGHBOUR: 'it returns false'. Refute it at one input. -/
def fnExactLeviOfWrong : ChangeSpec := { name := "fnExactLeviOf", fn := fun _ => fun
  | [d1, d2, d3, d4, d5] => { results := [.lit (.bool false)], args := [d1, d2, d3, d4, d5] }
  | _ => none }
def FnExactLeviOfWrongFalsely : Prop := fnExactLeviOfRow.holds Tryd.pinned (OpenSpec.ofChange fnExactLeviOfWrong)

/-- 'laws.FnExactCommonContinuation': WHATEVER THE INPUT: true; the input reads as it did. -/
def fnExactCommonContinuationSpec : ChangeSpec := { name := "fnExactCommonContinuation", fn := fun _ => fun
  | [d1, d2] => { results := [.lit (.bool true)], args := [d1, d2] }
  | _ => none }
def fnExactCommonContinuationRow : OpenClaim := { program := "ythgapkbkhoeleaadoor", sum := "074f67111d9086eaf56da7b78b8b04348c046a57931f1a16c05223693a2bc07f", func := "loop.example/g01094/laws.FnExactCommonContinuation", spec := "fnExactCommonContinuation", unfollowed := true, recurses := true, named := ["math/bits.deBruijn64tab"], apart := false, laid := [("math/bits.deBruijn64tab", laid_math_bits_deBruijn64tab)] }
def FnExactCommonContinuationSaid : Prop := fnExactCommonContinuationRow.holds Tryd.pinned (OpenSpec.ofChange fnExactCommonContinuationSpec)

/-- ITS FALSE NEIGHBOUR: 'it returns false'. Refute it at one input. -/
def fnExactCommonContinuationWrong : ChangeSpec := { name := "fnExactCommonContinuation", fn := fun _ => fun
  | [d1, d2] => { results := [.lit (.bool false)], args := [d1, d2] }
  | _ => none }
def FnExactCommonContinuationWrongFalsely : Prop := fnExactCommonContinuationRow.holds Tryd.pinned (OpenSpec.ofChange fnExactCommonContinuationWrong)

/-- 'laws.FnExactTracesOfLength': WHATEVER THE INPUT: true; the input reads as it did. -/
def fnExactTracesOfLengthSpec : ChangeSpec := { name := "fnExactTracesOfLength", fn := fun _ => fun
  | [d1, d2] => { results := [.lit (.bool true)], args := [d1, d2] }
  | _ => none }
def fnExactTracesOfLengthRow : OpenClaim := { program := "ythgapkbkhoeleaadoor", sum := "074f67111d9086eaf56da7b78b8b04348c046a57931f1a16c05223693a2bc07f", func := "loop.example/g01094/laws.FnExactTracesOfLength", spec := "fnExactTracesOfLength", unfollowed := true, recurses := true, named := ["math/bits.deBruijn64tab"], apart := false, laid := [("math/bits.deBruijn64tab", laid_math_bits_deBruijn64tab)] }
def FnExactTracesOfLengthSaid : Prop := fnExactTracesOfLengthRow.holds Tryd.pinned (OpenSpec.ofChange fnExactTracesOfLengthSpec)

/-- ITS FALSE NEIGHBOUR: 'it returns false'. Refute it at one input. -/
def fnExactTracesOfLengthWrong : ChangeSpec := { name := "fnExactTracesOfLength", fn := fun _ => fun
  | [d1, d2] => { results := [.lit (.bool false)], args := [d1, d2] }
  | _ => none }
def FnExactTracesOfLengthWrongFalsely : Prop := fnExactTracesOfLengthRow.holds Tryd.pinned (OpenSpec.ofChange fnExactTracesOfLengthWrong)

/-- 'laws.FnExactCountByHeight': WHATEVER THE INPUT: true; the input reads as it did. -/
def fnExactCountByHeightSpec : ChangeSpec := { name := "fnExactCountByHeight", fn := fun _ => fun
  | [d1, d2] => { results := [.lit (.bool true)], args := [d1, d2] }
  | _ => none }
def fnExactCountByHeightRow : OpenClaim := { program := "ythgapkbkhoeleaadoor", sum := "074f67111d9086eaf56da7b78b8b04348c046a57931f1a16c05223693a2bc07f", func := "loop.example/g01094/laws.FnExactCountByHeight", spec := "fnExactCountByHeight", unfollowed := true, recurses := true, named := ["math/bits.deBruijn64tab"], apart := false, laid := [("math/bits.deBruijn64tab", laid_math_bits_deBruijn64tab)] }
def FnExactCountByHeightSaid : Prop := fnExactCountByHeightRow.holds Tryd.pinned (OpenSpec.ofChange fnExactCountByHeightSpec)

/-- ITS FALSE NEIGHBOUR: 'it returns false'. Refute it at one input. -/
def fnExactCountByHeightWrong : ChangeSpec := { name := "fnExactCountByHeight", fn := fun _ => fun
  | [d1, d2] => { results := [.lit (.bool false)], args := [d1, d2] }
  | _ => none }
def FnExactCountByHeightWrongFalsely : Prop := fnExactCountByHeightRow.holds Tryd.pinned (OpenSpec.ofChange fnExactCountByHeightWrong)

/-- 'laws.FnExactCountByFirst': WHATEVER THE INPUT: true; the input reads as it did. -/
def fnExactCountByFirstSpec : ChangeSpec := { name := "fnExactCountByFirst", fn := fun _ => fun
  | [d1, d2, d3] => { results := [.lit (.bool true)], args := [d1, d2, d3] }
  | _ => none }
def fnExactCountByFirstRow : OpenClaim := { program := "ythgapkbkhoeleaadoor", sum := "074f67111d9086eaf56da7b78b8b04348c046a57931f1a16c05223693a2bc07f", func := "loop.example/g01094/laws.FnExactCountByFirst", spec := "fnExactCountByFirst", unfollowed := true, recurses := true, named := ["math/bits.deBruijn64tab"], apart := false, laid := [("math/bits.deBruijn64tab", laid_math_bits_deBruijn64tab)] }
def FnExactCountByFirstSaid : Prop := fnExactCountByFirstRow.holds Tryd.pinned (OpenSpec.ofChange fnExactCountByFirstSpec)

/-- ITS FALSE NEIGHBOUR: 'it returns false'. Refute it at one input. -/
def fnExactCountByFirstWrong : ChangeSpec := { name := "fnExactCountByFirst", fn := fun _ => fun
  | [d1, d2, d3] => { results := [.lit (.bool false)], args := [d1, d2, d3] }
  | _ => none }
def FnExactCountByFirstWrongFalsely : Prop := fnExactCountByFirstRow.holds Tryd.pinned (OpenSpec.ofChange fnExactCountByFirstWrong)

/-- 'laws.FnWidths': WHATEVER THE INPUT: true; the input reads as it did. -/
def fnWidthsSpec : ChangeSpec := { name := "fnWidths", fn := fun _ => fun
  | [d] => { results := [.lit (.bool true)], args := [d] }
  | _ => none }
def fnWidthsRow : OpenClaim := { program := "ythgapkbkhoeleaadoor", sum := "074f67111d9086eaf56da7b78b8b04348c046a57931f1a16c05223693a2bc07f", func := "loop.example/g01094/laws.FnWidths", spec := "fnWidths", unfollowed := true, recurses := true, named := ["math/bits.deBruijn64tab"], apart := false, laid := [("math/bits.deBruijn64tab", laid_math_bits_deBruijn64tab)] }
def FnWidthsSaid : Prop := fnWidthsRow.holds Tryd.pinned (OpenSpec.ofChange fnWidthsSpec)

/-- ITS FALSE NEIGHBOUR: 'it returns false'. Refute it at one input. -/
def fnWidthsWrong : ChangeSpec := { name := "fnWidths", fn := fun _ => fun
  | [d] => { results := [.lit (.bool false)], args := [d] }
  | _ => none }
def FnWidthsWrongFalsely : Prop := fnWidthsRow.holds Tryd.pinned (OpenSpec.ofChange fnWidthsWrong)

/-- 'laws.FnLevi': WHATEVER THE INPUT: true; the input reads as it did. -/
def fnLeviSpec : ChangeSpec := { name := "fnLevi", fn := fun _ => fun
  | [d] => { results := [.lit (.bool true)], args := [d] }
  | _ => none }
def fnLeviRow : OpenClaim := { program := "ythgapkbkhoeleaadoor", sum := "074f67111d9086eaf56da7b78b8b04348c046a57931f1a16c05223693a2bc07f", func := "loop.example/g01094/laws.FnLevi", spec := "fnLevi", unfollowed := true, recurses := true, named := ["math/bits.deBruijn64tab"], apart := false, laid := [("math/bits.deBruijn64tab", laid_math_bits_deBruijn64tab)] }
def FnLeviSaid : Prop := fnLeviRow.holds Tryd.pinned (OpenSpec.ofChange fnLeviSpec)

/-- ITS FALSE NEIGHBOUR: 'it returns false'. Refute it at one input. -/
def fnLeviWrong : ChangeSpec := { name := "fnLevi", fn := fun _ => fun
  | [d] => { results := [.lit (.bool false)], args := [d] }
  | _ => none }
def FnLeviWrongFalsely : Prop := fnLeviRow.holds Tryd.pinned (OpenSpec.ofChange fnLeviWrong)

/-- 'laws.FnProductCounts': WHATEVER THE INPUT: true; the input reads as it did. -/
def fnProductCountsSpec : ChangeSpec := { name := "fnProductCounts", fn := fun _ => fun
  | [d] => { results := [.lit (.bool true)], args := [d] }
  | _ => none }
def fnProductCountsRow : OpenClaim := { program := "ythgapkbkhoeleaadoor", sum := "074f67111d9086eaf56da7b78b8b04348c046a57931f1a16c05223693a2bc07f", func := "loop.example/g01094/laws.FnProductCounts", spec := "fnProductCounts", unfollowed := true, recurses := true, named := ["math/bits.deBruijn64tab"], apart := false, laid := [("math/bits.deBruijn64tab", laid_math_bits_deBruijn64tab)] }
def FnProductCountsSaid : Prop := fnProductCountsRow.holds Tryd.pinned (OpenSpec.ofChange fnProductCountsSpec)

/-- ITS FALSE NEIGHBOUR: 'it returns false'. Refute it at one input. -/
def fnProductCountsWrong : ChangeSpec := { name := "fnProductCounts", fn := fun _ => fun
  | [d] => { results := [.lit (.bool false)], args := [d] }
  | _ => none }
def FnProductCountsWrongFalsely : Prop := fnProductCountsRow.holds Tryd.pinned (OpenSpec.ofChange fnProductCountsWrong)

/-- 'laws.FnExactLongestChain': WHATEVER THE INPUT: true; the input reads as it did. -/
def fnExactLongestChainSpec : ChangeSpec := { name := "fnExactLongestChain", fn := fun _ => fun
  | [d1, d2] => { results := [.lit (.bool true)], args := [d1, d2] }
  | _ => none }
def fnExactLongestChainRow : OpenClaim := { program := "ythgapkbkhoeleaadoor", sum := "074f67111d9086eaf56da7b78b8b04348c046a57931f1a16c05223693a2bc07f", func := "loop.example/g01094/laws.FnExactLongestChain", spec := "fnExactLongestChain", unfollowed := true, recurses := true, named := ["math/bits.deBruijn64tab"], apart := false, laid := [("math/bits.deBruijn64tab", laid_math_bits_deBruijn64tab)] }
def FnExactLongestChainSaid : Prop := fnExactLongestChainRow.holds Tryd.pinned (OpenSpec.ofChange fnExactLongestChainSpec)

/-- ITS FALSE NEIGHBOUR: 'it returns false'. Refute it at one input. -/
def fnExactLongestChainWrong : ChangeSpec := { name := "fnExactLongestChain", fn := fun _ => fun
  | [d1, d2] => { results := [.lit (.bool false)], args := [d1, d2] }
  | _ => none }
def FnExactLongestChainWrongFalsely : Prop := fnExactLongestChainRow.holds Tryd.pinned (OpenSpec.ofChange fnExactLongestChainWrong)

/-- 'laws.FnExactCountPrefixes': WHATEVER THE INPUT: true; the input reads as it did. -/
def fnExactCountPrefixesSpec : ChangeSpec := { name := "fnExactCountPrefixes", fn := fun _ => fun
  | [d1, d2] => { results := [.lit (.bool true)], args := [d1, d2] }
  | _ => none }
def fnExactCountPrefixesRow : OpenClaim := { program := "ythgapkbkhoeleaadoor", sum := "074f67111d9086eaf56da7b78b8b04348c046a57931f1a16c05223693a2bc07f", func := "loop.example/g01094/laws.FnExactCountPrefixes", spec := "fnExactCountPrefixes", unfollowed := true, recurses := true, named := ["math/bits.deBruijn64tab"], apart := false, laid := [("math/bits.deBruijn64tab", laid_math_bits_deBruijn64tab)] }
def FnExactCountPrefixesSaid : Prop := fnExactCountPrefixesRow.holds Tryd.pinned (OpenSpec.ofChange fnExactCountPrefixesSpec)

/-- ITS FALSE NEIGHBOUR: 'it returns false'. Refute it at one input. -/
def fnExactCountPrefixesWrong : ChangeSpec := { name := "fnExactCountPrefixes", fn := fun _ => fun
  | [d1, d2] => { results := [.lit (.bool false)], args := [d1, d2] }
  | _ => none }
def FnExactCountPrefixesWrongFalsely : Prop := fnExactCountPrefixesRow.holds Tryd.pinned (OpenSpec.ofChange fnExactCountPrefixesWrong)

/-- 'laws.FnHeights': WHATEVER THE INPUT: true; the input reads as it did. -/
def fnHeightsSpec : ChangeSpec := { name := "fnHeights", fn := fun _ => fun
  | [d] => { results := [.lit (.bool true)], args := [d] }
  | _ => none }
def fnHeightsRow : OpenClaim := { program := "ythgapkbkhoeleaadoor", sum := "074f67111d9086eaf56da7b78b8b04348c046a57931f1a16c05223693a2bc07f", func := "loop.example/g01094/laws.FnHeights", spec := "fnHeights", unfollowed := true, recurses := true, named := ["math/bits.deBruijn64tab"], apart := false, laid := [("math/bits.deBruijn64tab", laid_math_bits_deBruijn64tab)] }
def FnHeightsSaid : Prop := fnHeightsRow.holds Tryd.pinned (OpenSpec.ofChange fnHeightsSpec)

/-- ITS FALSE NEIGHBOUR: 'it returns false'. Refute it at one input. -/
def fnHeightsWrong : ChangeSpec := { name := "fnHeights", fn := fun _ => fun
  | [d] => { results := [.lit (.bool false)], args := [d] }
  | _ => none }
def FnHeightsWrongFalsely : Prop := fnHeightsRow.holds Tryd.pinned (OpenSpec.ofChange fnHeightsWrong)

/- THE SECOND FORM. 'bulk': how many values and letters a reading holds, each counted each time it is reached (what is shared counts as often as it is met; a slice's spare places count too). A statement '..UptoSaid' is the law's where the arguments, and the package variables that the reading takes, are together of bulk at most 1048576: NARROWER than '..Said'. Prove '..Said' where nothing that the law and all that it calls make is longer than what came in: it says more and counts as full. Else prove '..UptoSaid'. A law counts once. -/
mutual
def uptoBulk {H : Type} : DataW H → Nat
  | .lit (.string bytes) => bytes.length + 1
  | .lit _ => 1
  | .nil => 1
  | .ptr d => uptoBulk d + 1
  | .slice elems spare => uptoBulkAll elems + uptoBulkAll spare + 1
  | .agg parts => uptoBulkAll parts + 1
  | .iface _ d => uptoBulk d + 1
  | .map entries => uptoBulkEntries entries + 1
  | .held _ => 1
def uptoBulkAll {H : Type} : List (DataW H) → Nat
  | [] => 0
  | d :: r => uptoBulk d + uptoBulkAll r
def uptoBulkEntries {H : Type} : List (Lit × DataW H) → Nat
  | [] => 0
  | x :: r => uptoBulkEntry x + uptoBulkEntries r
def uptoBulkEntry {H : Type} : Lit × DataW H → Nat
  | (.string bytes, d) => bytes.length + uptoBulk d + 1
  | (_, d) => uptoBulk d + 1
 end
def uptoSmall : (H : Type) → List (DataW H) → Bool := fun _ ds => decide (uptoBulkAll ds ≤ 1048576)
def OpenSpec.upto (s : _root_.Go.ChangeSpec) : _root_.Go.OpenSpec := { _root_.Go.OpenSpec.ofChange s with cond := some uptoSmall }

/-- 'laws.FnExactTraceComponents', WHERE WHAT IT READS IS OF BULK AT MOST 1048576: true; the input reads as it did. -/
def fnExactTraceComponentsUptoRow : OpenClaim := { program := "ythgapkbkhoeleaadoor", sum := "074f67111d9086eaf56da7b78b8b04348c046a57931f1a16c05223693a2bc07f", func := "loop.example/g01094/laws.FnExactTraceComponents", spec := "fnExactTraceComponents", unfollowed := true, recurses := true, named := ["math/bits.deBruijn64tab"], apart := false, laid := [("math/bits.deBruijn64tab", laid_math_bits_deBruijn64tab)], narrowed := true }
def FnExactTraceComponentsUptoSaid : Prop := fnExactTraceComponentsUptoRow.holds Tryd.pinned (OpenSpec.upto fnExactTraceComponentsSpec)

/-- 'laws.FnExactLeviOf', WHERE WHAT IT READS IS OF BULK AT MOST 1048576: true; the input reads as it did. -/
def fnExactLeviOfUptoRow : OpenClaim := { program := "ythgapkbkhoeleaadoor", sum := "074f67111d9086eaf56da7b78b8b04348c046a57931f1a16c05223693a2bc07f", func := "loop.example/g01094/laws.FnExactLeviOf", spec := "fnExactLeviOf", unfollowed := true, recurses := true, named := ["math/bits.deBruijn64tab"], apart := false, laid := [("math/bits.deBruijn64tab", laid_math_bits_deBruijn64tab)], narrowed := true }
def FnExactLeviOfUptoSaid : Prop := fnExactLeviOfUptoRow.holds Tryd.pinned (OpenSpec.upto fnExactLeviOfSpec)

/-- 'laws.FnExactCommonContinuation', WHERE WHAT IT READS IS OF BULK AT MOST 1048576: true; the input reads as it did. -/
def fnExactCommonContinuationUptoRow : OpenClaim := { program := "ythgapkbkhoeleaadoor", sum := "074f67111d9086eaf56da7b78b8b04348c046a57931f1a16c05223693a2bc07f", func := "loop.example/g01094/laws.FnExactCommonContinuation", spec := "fnExactCommonContinuation", unfollowed := true, recurses := true, named := ["math/bits.deBruijn64tab"], apart := false, laid := [("math/bits.deBruijn64tab", laid_math_bits_deBruijn64tab)], narrowed := true }
def FnExactCommonContinuationUptoSaid : Prop := fnExactCommonContinuationUptoRow.holds Tryd.pinned (OpenSpec.upto fnExactCommonContinuationSpec)

/-- 'laws.FnExactTracesOfLength', WHERE WHAT IT READS IS OF BULK AT MOST 1048576: true; the input reads as it did. -/
def fnExactTracesOfLengthUptoRow : OpenClaim := { program := "ythgapkbkhoeleaadoor", sum := "074f67111d9086eaf56da7b78b8b04348c046a57931f1a16c05223693a2bc07f", func := "loop.example/g01094/laws.FnExactTracesOfLength", spec := "fnExactTracesOfLength", unfollowed := true, recurses := true, named := ["math/bits.deBruijn64tab"], apart := false, laid := [("math/bits.deBruijn64tab", laid_math_bits_deBruijn64tab)], narrowed := true }
def FnExactTracesOfLengthUptoSaid : Prop := fnExactTracesOfLengthUptoRow.holds Tryd.pinned (OpenSpec.upto fnExactTracesOfLengthSpec)

/-- 'laws.FnExactCountByHeight', WHERE WHAT IT READS IS OF BULK AT MOST 1048576: true; the input reads as it did. -/
def fnExactCountByHeightUptoRow : OpenClaim := { program := "ythgapkbkhoeleaadoor", sum := "074f67111d9086eaf56da7b78b8b04348c046a57931f1a16c05223693a2bc07f", func := "loop.example/g01094/laws.FnExactCountByHeight", spec := "fnExactCountByHeight", unfollowed := true, recurses := true, named := ["math/bits.deBruijn64tab"], apart := false, laid := [("math/bits.deBruijn64tab", laid_math_bits_deBruijn64tab)], narrowed := true }
def FnExactCountByHeightUptoSaid : Prop := fnExactCountByHeightUptoRow.holds Tryd.pinned (OpenSpec.upto fnExactCountByHeightSpec)

/-- 'laws.FnExactCountByFirst', WHERE WHAT IT READS IS OF BULK AT MOST 1048576: true; the input reads as it did. -/
def fnExactCountByFirstUptoRow : OpenClaim := { program := "ythgapkbkhoeleaadoor", sum := "074f67111d9086eaf56da7b78b8b04348c046a57931f1a16c05223693a2bc07f", func := "loop.example/g01094/laws.FnExactCountByFirst", spec := "fnExactCountByFirst", unfollowed := true, recurses := true, named := ["math/bits.deBruijn64tab"], apart := false, laid := [("math/bits.deBruijn64tab", laid_math_bits_deBruijn64tab)], narrowed := true }
def FnExactCountByFirstUptoSaid : Prop := fnExactCountByFirstUptoRow.holds Tryd.pinned (OpenSpec.upto fnExactCountByFirstSpec)

/-- 'laws.FnWidths', WHERE WHAT IT READS IS OF BULK AT MOST 1048576: true; the input reads as it did. -/
def fnWidthsUptoRow : OpenClaim := { program := "ythgapkbkhoeleaadoor", sum := "074f67111d9086eaf56da7b78b8b04348c046a57931f1a16c05223693a2bc07f", func := "loop.example/g01094/laws.FnWidths", spec := "fnWidths", unfollowed := true, recurses := true, named := ["math/bits.deBruijn64tab"], apart := false, laid := [("math/bits.deBruijn64tab", laid_math_bits_deBruijn64tab)], narrowed := true }
def FnWidthsUptoSaid : Prop := fnWidthsUptoRow.holds Tryd.pinned (OpenSpec.upto fnWidthsSpec)

/-- 'laws.FnLevi', WHERE WHAT IT READS IS OF BULK AT MOST 1048576: true; the input reads as it did. -/
def fnLeviUptoRow : OpenClaim := { program := "ythgapkbkhoeleaadoor", sum := "074f67111d9086eaf56da7b78b8b04348c046a57931f1a16c05223693a2bc07f", func := "loop.example/g01094/laws.FnLevi", spec := "fnLevi", unfollowed := true, recurses := true, named := ["math/bits.deBruijn64tab"], apart := false, laid := [("math/bits.deBruijn64tab", laid_math_bits_deBruijn64tab)], narrowed := true }
def FnLeviUptoSaid : Prop := fnLeviUptoRow.holds Tryd.pinned (OpenSpec.upto fnLeviSpec)

/-- 'laws.FnProductCounts', WHERE WHAT IT READS IS OF BULK AT MOST 1048576: true; the input reads as it did. -/
def fnProductCountsUptoRow : OpenClaim := { program := "ythgapkbkhoeleaadoor", sum := "074f67111d9086eaf56da7b78b8b04348c046a57931f1a16c05223693a2bc07f", func := "loop.example/g01094/laws.FnProductCounts", spec := "fnProductCounts", unfollowed := true, recurses := true, named := ["math/bits.deBruijn64tab"], apart := false, laid := [("math/bits.deBruijn64tab", laid_math_bits_deBruijn64tab)], narrowed := true }
def FnProductCountsUptoSaid : Prop := fnProductCountsUptoRow.holds Tryd.pinned (OpenSpec.upto fnProductCountsSpec)

/-- 'laws.FnExactLongestChain', WHERE WHAT IT READS IS OF BULK AT MOST 1048576: true; the input reads as it did. -/
def fnExactLongestChainUptoRow : OpenClaim := { program := "ythgapkbkhoeleaadoor", sum := "074f67111d9086eaf56da7b78b8b04348c046a57931f1a16c05223693a2bc07f", func := "loop.example/g01094/laws.FnExactLongestChain", spec := "fnExactLongestChain", unfollowed := true, recurses := true, named := ["math/bits.deBruijn64tab"], apart := false, laid := [("math/bits.deBruijn64tab", laid_math_bits_deBruijn64tab)], narrowed := true }
def FnExactLongestChainUptoSaid : Prop := fnExactLongestChainUptoRow.holds Tryd.pinned (OpenSpec.upto fnExactLongestChainSpec)

/-- 'laws.FnExactCountPrefixes', WHERE WHAT IT READS IS OF BULK AT MOST 1048576: true; the input reads as it did. -/
def fnExactCountPrefixesUptoRow : OpenClaim := { program := "ythgapkbkhoeleaadoor", sum := "074f67111d9086eaf56da7b78b8b04348c046a57931f1a16c05223693a2bc07f", func := "loop.example/g01094/laws.FnExactCountPrefixes", spec := "fnExactCountPrefixes", unfollowed := true, recurses := true, named := ["math/bits.deBruijn64tab"], apart := false, laid := [("math/bits.deBruijn64tab", laid_math_bits_deBruijn64tab)], narrowed := true }
def FnExactCountPrefixesUptoSaid : Prop := fnExactCountPrefixesUptoRow.holds Tryd.pinned (OpenSpec.upto fnExactCountPrefixesSpec)

/-- 'laws.FnHeights', WHERE WHAT IT READS IS OF BULK AT MOST 1048576: true; the input reads as it did. -/
def fnHeightsUptoRow : OpenClaim := { program := "ythgapkbkhoeleaadoor", sum := "074f67111d9086eaf56da7b78b8b04348c046a57931f1a16c05223693a2bc07f", func := "loop.example/g01094/laws.FnHeights", spec := "fnHeights", unfollowed := true, recurses := true, named := ["math/bits.deBruijn64tab"], apart := false, laid := [("math/bits.deBruijn64tab", laid_math_bits_deBruijn64tab)], narrowed := true }
def FnHeightsUptoSaid : Prop := fnHeightsUptoRow.holds Tryd.pinned (OpenSpec.upto fnHeightsSpec)

end Rows
end Go.Proofs.YthgapkbkhoeleaaDoor
