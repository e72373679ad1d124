/-
  NARROWER THAN 'FOR EVERY INPUT', by the rows' own cells (each row's printed sentence says how): FnExactAreIndependent: laid · FnExactHeightOf: laid · FnExactLastLetters: laid · FnExactIsPrefix: laid · FnExactAreCommuting: laid · FnExactConcatenate: laid · FnExactRotateBy: laid · FnExactLeftQuotient: laid · FnExactMeetOf: laid.
  DERIVED. THE GIVEN ROWS OF THIS SEAT. 9 by the template 'for every input the law returns true; each argument reads behind the call as it read before'; 0 by the template 'total and deterministic' (their statements: YtopdbfdagckfeaaDoorTotals.lean).
  GIVEN WITH THE SEED: the statements are not yours to turn. If you find one false, say at which input.
  Laid BY PROGRAM, IN A SANDBOX (cutbox-rows.mjs): the forced cells as the released guide's own fill.sh prints them over the translation 40a020b92eb1994b… (all of the seat's roots in one cut). By AI agents, Wed Nov 11 2026. No macro, syntax, notation, axiom, sorry.
-/
import Derived.Test.YtopdbfdagckfeaaDoorChecked
import GoSem.Claim
import GoSem.ClaimJoined
import GoSem.ClaimMapViews
import Derived.JoinedTies
import Derived.KernelRfl
namespace Go.Proofs.YtopdbfdagckfeaaDoor
/- THE CELL 'sum', in the pinned program and in every row, IS THE sha256 OF THE DUMP (.gsa) THAT YtopdbfdagckfeaaDoorProg.lean LOADS. Nothing in Lean hashes anything: it is a label: what it is worth is what the hold of that sum in a sandbox is worth. -/
noncomputable def Tryd.pinned : Pinned := { name := "ytopdbfdagckfeaadoor", sum := "40a020b92eb1994bedf4af00686489a3eb989e156642b2aa8293c86d8a37b91d", checked := Tryd.checked }
namespace Rows
def none {H : Type} : Left H := { results := [], args := [] }

/- WHAT THE LISTED PACKAGE-LEVEL VARIABLES READ AS WHEN THE CALL BEGINS. Each datum BY PROGRAM (the guide's laid-datum.mjs) off the statement by which the dump's own 'gosem.cut.vars' lays the variable. In a bare row this is a premise. The card (YtopdbfdagckfeaaDoorCards.lean) ties it to the program's text. -/
def laid_math_bits_deBruijn64tab {H : Type} : DataW H := .agg [.lit (.int .u8 0), .lit (.int .u8 1), .lit (.int .u8 56), .lit (.int .u8 2), .lit (.int .u8 57), .lit (.int .u8 49), .lit (.int .u8 28), .lit (.int .u8 3), .lit (.int .u8 61), .lit (.int .u8 58), .lit (.int .u8 42), .lit (.int .u8 50), .lit (.int .u8 38), .lit (.int .u8 29), .lit (.int .u8 17), .lit (.int .u8 4), .lit (.int .u8 62), .lit (.int .u8 47), .lit (.int .u8 59), .lit (.int .u8 36), .lit (.int .u8 45), .lit (.int .u8 43), .lit (.int .u8 51), .lit (.int .u8 22), .lit (.int .u8 53), .lit (.int .u8 39), .lit (.int .u8 33), .lit (.int .u8 30), .lit (.int .u8 24), .lit (.int .u8 18), .lit (.int .u8 12), .lit (.int .u8 5), .lit (.int .u8 63), .lit (.int .u8 55), .lit (.int .u8 48), .lit (.int .u8 27), .lit (.int .u8 60), .lit (.int .u8 41), .lit (.int .u8 37), .lit (.int .u8 16), .lit (.int .u8 46), .lit (.int .u8 35), .lit (.int .u8 44), .lit (.int .u8 21), .lit (.int .u8 52), .lit (.int .u8 32), .lit (.int .u8 23), .lit (.int .u8 11), .lit (.int .u8 54), .lit (.int .u8 26), .lit (.int .u8 40), .lit (.int .u8 15), .lit (.int .u8 34), .lit (.int .u8 20), .lit (.int .u8 31), .lit (.int .u8 10), .lit (.int .u8 25), .lit (.int .u8 14), .lit (.int .u8 19), .lit (.int .u8 9), .lit (.int .u8 13), .lit (.int .u8 8), .lit (.int .u8 7), .lit (.int .u8 6)]

/-- 'laws.FnExactAreIndependent': WHATEVER THE INPUT: true; the input reads as it did. -/
def fnExactAreIndependentSpec : ChangeSpec := { name := "fnExactAreIndependent", fn := fun _ => fun
  | [d1, d2, d3] => { results := [.lit (.bool true)], args := [d1, d2, d3] }
  | _ => none }
def fnExactAreIndependentRow : OpenClaim := { program := "ytopdbfdagckfeaadoor", sum := "40a020b92eb1994bedf4af00686489a3eb989e156642b2aa8293c86d8a37b91d", func := "loop.example/g01094/laws.FnExactAreIndependent", spec := "fnExactAreIndependent", unfollowed := true, recurses := true, named := ["math/bits.deBruijn64tab"], apart := false, laid := [("math/bits.deBruijn64tab", laid_math_bits_deBruijn64tab)] }
def FnExactAreIndependentSaid : Prop := fnExactAreIndependentRow.holds Tryd.pinned (OpenSpec.ofChange fnExactAreIndependentSpec)

/-- ITS FALSE NEIGHBOUR: 'it returns false'. Refute it at one input. -/
def fnExactAreIndependentWrong : ChangeSpec := { name := "fnExactAreIndependent", fn := fun _ => fun
  | [d1, d2, d3] => { results := [.lit (.bool false)], args := [d1, d2, d3] }
  | _ => none }
def FnExactAreIndependentWrongFalsely : Prop := fnExactAreIndependentRow.holds Tryd.pinned (OpenSpec.ofChange fnExactAreIndependentWrong)

/-- 'laws.FnExactHeightOf': WHATEVER THE INPUT: true; the input reads as it did. -/
def fnExactHeightOfSpec : ChangeSpec := { name := "fnExactHeightOf", fn := fun _ => fun
  | [d1, d2] => { results := [.lit (.bool true)], args := [d1, d2] }
  | _ => none }
def fnExactHeightOfRow : OpenClaim := { program := "ytopdbfdagckfeaadoor", sum := "40a020b92eb1994bedf4af00686489a3eb989e156642b2aa8293c86d8a37b91d", func := "loop.example/g01094/laws.FnExactHeightOf", spec := "fnExactHeightOf", unfollowed := true, recurses := true, named := ["math/bits.deBruijn64tab"], apart := false, laid := [("math/bits.deBruijn64tab", laid_math_bits_deBruijn64tab)] }
def FnExactHeightOfSaid : Prop := fnExactHeightOfRow.holds Tryd.pinned (OpenSpec.ofChange fnExactHeightOfSpec)

/-- ITS FALSE NEIGHBOUR: 'it returns false'. Refute it at one input. -/
def fnExactHeightOfWrong : ChangeSpec := { name := "fnExactHeightOf", fn := fun _ => fun
  | [d1, d2] => { results := [.lit (.bool false)], args := [d1, d2] }
  | _ => none }
def FnExactHeightOfWrongFalsely : Prop := fnExactHeightOfRow.holds Tryd.pinned (OpenSpec.ofChange fnExactHeightOfWrong)

/-- 'laws.FnExactLastLetters': WHATEVER THE INPUT: true; the input reads as it did. -/
def fnExactLastLettersSpec : ChangeSpec := { name := "fnExactLastLetters", fn := fun _ => fun
  | [d1, d2] => { results := [.lit (.bool true)], args := [d1, d2] }
  | _ => none }
def fnExactLastLettersRow : OpenClaim := { program := "ytopdbfdagckfeaadoor", sum := "40a020b92eb1994bedf4af00686489a3eb989e156642b2aa8293c86d8a37b91d", func := "loop.example/g01094/laws.FnExactLastLetters", spec := "fnExactLastLetters", unfollowed := true, recurses := true, named := ["math/bits.deBruijn64tab"], apart := false, laid := [("math/bits.deBruijn64tab", laid_math_bits_deBruijn64tab)] }
def FnExactLastLettersSaid : Prop := fnExactLastLettersRow.holds Tryd.pinned (OpenSpec.ofChange fnExactLastLettersSpec)

/-- ITS FALSE NEIGHBOUR: 'it returns false'. Refute it at one input. -/
def fnExactLastLettersWrong : ChangeSpec := { name := "fnExactLastLetters", fn := fun _ => fun
  | [d1, d2] => { results := [.lit (.bool false)], args := [d1, d2] }
  | _ => none }
def FnExactLastLettersWrongFalsely : Prop := fnExactLastLettersRow.holds Tryd.pinned (OpenSpec.ofChange fnExactLastLettersWrong)

/-- 'laws.FnExactIsPrefix': WHATEVER THE INPUT: true; the input reads as it did. -/
def fnExactIsPrefixSpec : ChangeSpec := { name := "fnExactIsPrefix", fn := fun _ => fun
  | [d1, d2, d3] => { results := [.lit (.bool true)], args := [d1, d2, d3] }
  | _ => none }
def fnExactIsPrefixRow : OpenClaim := { program := "ytopdbfdagckfeaadoor", sum := "40a020b92eb1994bedf4af00686489a3eb989e156642b2aa8293c86d8a37b91d", func := "loop.example/g01094/laws.FnExactIsPrefix", spec := "fnExactIsPrefix", unfollowed := true, recurses := true, named := ["math/bits.deBruijn64tab"], apart := false, laid := [("math/bits.deBruijn64tab", laid_math_bits_deBruijn64tab)] }
def FnExactIsPrefixSaid : Prop := fnExactIsPrefixRow.holds Tryd.pinned (OpenSpec.ofChange fnExactIsPrefixSpec)

/-- ITS FALSE NEIGHBOUR: 'it returns false'. Refute it at one input. -/
def fnExactIsPrefixWrong : ChangeSpec := { name := "fnExactIsPrefix", fn := fun _ => fun
  | [d1, d2, d3] => { results := [.lit (.bool false)], args := [d1, d2, d3] }
  | _ => none }
def FnExactIsPrefixWrongFalsely : Prop := fnExactIsPrefixRow.holds Tryd.pinned (OpenSpec.ofChange fnExactIsPrefixWrong)

/-- 'laws.FnExactAreCommuting': WHATEVER THE INPUT: true; the input reads as it did. -/
def fnExactAreCommutingSpec : ChangeSpec := { name := "fnExactAreCommuting", fn := fun _ => fun
  | [d1, d2, d3] => { results := [.lit (.bool true)], args := [d1, d2, d3] }
  | _ => none }
def fnExactAreCommutingRow : OpenClaim := { program := "ytopdbfdagckfeaadoor", sum := "40a020b92eb1994bedf4af00686489a3eb989e156642b2aa8293c86d8a37b91d", func := "loop.example/g01094/laws.FnExactAreCommuting", spec := "fnExactAreCommuting", unfollowed := true, recurses := true, named := ["math/bits.deBruijn64tab"], apart := false, laid := [("math/bits.deBruijn64tab", laid_math_bits_deBruijn64tab)] }
def FnExactAreCommutingSaid : Prop := fnExactAreCommutingRow.holds Tryd.pinned (OpenSpec.ofChange fnExactAreCommutingSpec)

/-- ITS FALSE NEIGHBOUR: 'it returns false'. Refute it at one input. -/
def fnExactAreCommutingWrong : ChangeSpec := { name := "fnExactAreCommuting", fn := fun _ => fun
  | [d1, d2, d3] => { results := [.lit (.bool false)], args := [d1, d2, d3] }
  | _ => none }
def FnExactAreCommutingWrongFalsely : Prop := fnExactAreCommutingRow.holds Tryd.pinned (OpenSpec.ofChange fnExactAreCommutingWrong)

/-- 'laws.FnExactConcatenate': WHATEVER THE INPUT: true; the input reads as it did. -/
def fnExactConcatenateSpec : ChangeSpec := { name := "fnExactConcatenate", fn := fun _ => fun
  | [d1, d2, d3] => { results := [.lit (.bool true)], args := [d1, d2, d3] }
  | _ => none }
def fnExactConcatenateRow : OpenClaim := { program := "ytopdbfdagckfeaadoor", sum := "40a020b92eb1994bedf4af00686489a3eb989e156642b2aa8293c86d8a37b91d", func := "loop.example/g01094/laws.FnExactConcatenate", spec := "fnExactConcatenate", unfollowed := true, recurses := true, named := ["math/bits.deBruijn64tab"], apart := false, laid := [("math/bits.deBruijn64tab", laid_math_bits_deBruijn64tab)] }
def FnExactConcatenateSaid : Prop := fnExactConcatenateRow.holds Tryd.pinned (OpenSpec.ofChange fnExactConcatenateSpec)

/-- ITS FALSE NEIGHBOUR: 'it returns false'. Refute it at one input. -/
def fnExactConcatenateWrong : ChangeSpec := { name := "fnExactConcatenate", fn := fun _ => fun
  | [d1, d2, d3] => { results := [.lit (.bool false)], args := [d1, d2, d3] }
  | _ => none }
def FnExactConcatenateWrongFalsely : Prop := fnExactConcatenateRow.holds Tryd.pinned (OpenSpec.ofChange fnExactConcatenateWrong)

/-- 'laws.FnExactRotateBy': WHATEVER THE INPUT: true; the input reads as it did. -/
def fnExactRotateBySpec : ChangeSpec := { name := "fnExactRotateBy", fn := fun _ => fun
  | [d1, d2, d3] => { results := [.lit (.bool true)], args := [d1, d2, d3] }
  | _ => none }
def fnExactRotateByRow : OpenClaim := { program := "ytopdbfdagckfeaadoor", sum := "40a020b92eb1994bedf4af00686489a3eb989e156642b2aa8293c86d8a37b91d", func := "loop.example/g01094/laws.FnExactRotateBy", spec := "fnExactRotateBy", unfollowed := true, recurses := true, named := ["math/bits.deBruijn64tab"], apart := false, laid := [("math/bits.deBruijn64tab", laid_math_bits_deBruijn64tab)] }
def FnExactRotateBySaid : Prop := fnExactRotateByRow.holds Tryd.pinned (OpenSpec.ofChange fnExactRotateBySpec)

/-- ITS FALSE NEIGHBOUR: 'it returns false'. Refute it at one input. -/
def fnExactRotateByWrong : ChangeSpec := { name := "fnExactRotateBy", fn := fun _ => fun
  | [d1, d2, d3] => { results := [.lit (.bool false)], args := [d1, d2, d3] }
  | _ => none }
def FnExactRotateByWrongFalsely : Prop := fnExactRotateByRow.holds Tryd.pinned (OpenSpec.ofChange fnExactRotateByWrong)

/-- 'laws.FnExactLeftQuotient': WHATEVER THE INPUT: true; the input reads as it did. -/
def fnExactLeftQuotientSpec : ChangeSpec := { name := "fnExactLeftQuotient", fn := fun _ => fun
  | [d1, d2, d3] => { results := [.lit (.bool true)], args := [d1, d2, d3] }
  | _ => none }
def fnExactLeftQuotientRow : OpenClaim := { program := "ytopdbfdagckfeaadoor", sum := "40a020b92eb1994bedf4af00686489a3eb989e156642b2aa8293c86d8a37b91d", func := "loop.example/g01094/laws.FnExactLeftQuotient", spec := "fnExactLeftQuotient", unfollowed := true, recurses := true, named := ["math/bits.deBruijn64tab"], apart := false, laid := [("math/bits.deBruijn64tab", laid_math_bits_deBruijn64tab)] }
def FnExactLeftQuotientSaid : Prop := fnExactLeftQuotientRow.holds Tryd.pinned (OpenSpec.ofChange fnExactLeftQuotientSpec)

/-- ITS FALSE NEIGHBOUR: 'it returns false'. Refute it at one input. -/
def fnExactLeftQuotientWrong : ChangeSpec := { name := "fnExactLeftQuotient", fn := fun _ => fun
  | [d1, d2, d3] => { results := [.lit (.bool false)], args := [d1, d2, d3] }
  | _ => none }
def FnExactLeftQuotientWrongFalsely : Prop := fnExactLeftQuotientRow.holds Tryd.pinned (OpenSpec.ofChange fnExactLeftQuotientWrong)

/-- 'laws.FnExactMeetOf': WHATEVER THE INPUT: true; the input reads as it did. -/
def fnExactMeetOfSpec : ChangeSpec := { name := "fnExactMeetOf", fn := fun _ => fun
  | [d1, d2, d3] => { results := [.lit (.bool true)], args := [d1, d2, d3] }
  | _ => none }
def fnExactMeetOfRow : OpenClaim := { program := "ytopdbfdagckfeaadoor", sum := "40a020b92eb1994bedf4af00686489a3eb989e156642b2aa8293c86d8a37b91d", func := "loop.example/g01094/laws.FnExactMeetOf", spec := "fnExactMeetOf", unfollowed := true, recurses := true, named := ["math/bits.deBruijn64tab"], apart := false, laid := [("math/bits.deBruijn64tab", laid_math_bits_deBruijn64tab)] }
def FnExactMeetOfSaid : Prop := fnExactMeetOfRow.holds Tryd.pinned (OpenSpec.ofChange fnExactMeetOfSpec)

/-- ITS FALSE NEIGHBOUR: 'it returns false'. Refute it at one input. -/
def fnExactMeetOfWrong : ChangeSpec := { name := "fnExactMeetOf", fn := fun _ => fun
  | [d1, d2, d3] => { results := [.lit (.bool false)], args := [d1, d2, d3] }
  | _ => none }
def FnExactMeetOfWrongFalsely : Prop := fnExactMeetOfRow.holds Tryd.pinned (OpenSpec.ofChange fnExactMeetOfWrong)

/- THE SECOND FORM. 'bulk': how many values and letters a reading holds, each counted each time it is reached (what is shared counts as often as it is met; a slice's spare places count too). A statement '..UptoSaid' is the law's where the arguments, and the package variables that the reading takes, are together of bulk at most 1048576: NARROWER than '..Said'. Prove '..Said' where nothing that the law and all that it calls make is longer than what came in: it says more and counts as full. Else prove '..UptoSaid'. A law counts once. -/
mutual
def uptoBulk {H : Type} : DataW H → Nat
  | .lit (.string bytes) => bytes.length + 1
  | .lit _ => 1
  | .nil => 1
  | .ptr d => uptoBulk d + 1
  | .slice elems spare => uptoBulkAll elems + uptoBulkAll spare + 1
  | .agg parts => uptoBulkAll parts + 1
  | .iface _ d => uptoBulk d + 1
  | .map entries => uptoBulkEntries entries + 1
  | .held _ => 1
def uptoBulkAll {H : Type} : List (DataW H) → Nat
  | [] => 0
  | d :: r => uptoBulk d + uptoBulkAll r
def uptoBulkEntries {H : Type} : List (Lit × DataW H) → Nat
  | [] => 0
  | x :: r => uptoBulkEntry x + uptoBulkEntries r
def uptoBulkEntry {H : Type} : Lit × DataW H → Nat
  | (.string bytes, d) => bytes.length + uptoBulk d + 1
  | (_, d) => uptoBulk d + 1
 end
def uptoSmall : (H : Type) → List (DataW H) → Bool := fun _ ds => decide (uptoBulkAll ds ≤ 1048576)
def OpenSpec.upto (s : _root_.Go.ChangeSpec) : _root_.Go.OpenSpec := { _root_.Go.OpenSpec.ofChange s with cond := some uptoSmall }

/-- 'laws.FnExactAreIndependent', WHERE WHAT IT READS IS OF BULK AT MOST 1048576: true; the input reads as it did. -/
def fnExactAreIndependentUptoRow : OpenClaim := { program := "ytopdbfdagckfeaadoor", sum := "40a020b92eb1994bedf4af00686489a3eb989e156642b2aa8293c86d8a37b91d", func := "loop.example/g01094/laws.FnExactAreIndependent", spec := "fnExactAreIndependent", unfollowed := true, recurses := true, named := ["math/bits.deBruijn64tab"], apart := false, laid := [("math/bits.deBruijn64tab", laid_math_bits_deBruijn64tab)], narrowed := true }
def FnExactAreIndependentUptoSaid : Prop := fnExactAreIndependentUptoRow.holds Tryd.pinned (OpenSpec.upto fnExactAreIndependentSpec)

/-- 'laws.FnExactHeightOf', WHERE WHAT IT READS IS OF BULK AT MOST 1048576: true; the input reads as it did. -/
def fnExactHeightOfUptoRow : OpenClaim := { program := "ytopdbfdagckfeaadoor", sum := "40a020b92eb1994bedf4af00686489a3eb989e156642b2aa8293c86d8a37b91d", func := "loop.example/g01094/laws.FnExactHeightOf", spec := "fnExactHeightOf", unfollowed := true, recurses := true, named := ["math/bits.deBruijn64tab"], apart := false, laid := [("math/bits.deBruijn64tab", laid_math_bits_deBruijn64tab)], narrowed := true }
def FnExactHeightOfUptoSaid : Prop := fnExactHeightOfUptoRow.holds Tryd.pinned (OpenSpec.upto fnExactHeightOfSpec)

/-- 'laws.FnExactLastLetters', WHERE WHAT IT READS IS OF BULK AT MOST 1048576: true; the input reads as it did. -/
def fnExactLastLettersUptoRow : OpenClaim := { program := "ytopdbfdagckfeaadoor", sum := "40a020b92eb1994bedf4af00686489a3eb989e156642b2aa8293c86d8a37b91d", func := "loop.example/g01094/laws.FnExactLastLetters", spec := "fnExactLastLetters", unfollowed := true, recurses := true, named := ["math/bits.deBruijn64tab"], apart := false, laid := [("math/bits.deBruijn64tab", laid_math_bits_deBruijn64tab)], narrowed := true }
def FnExactLastLettersUptoSaid : Prop := fnExactLastLettersUptoRow.holds Tryd.pinned (OpenSpec.upto fnExactLastLettersSpec)

/-- 'laws.FnExactIsPrefix', WHERE WHAT IT READS IS OF BULK AT MOST 1048576: true; the input reads as it did. -/
def fnExactIsPrefixUptoRow : OpenClaim := { program := "ytopdbfdagckfeaadoor", sum := "40a020b92eb1994bedf4af00686489a3eb989e156642b2aa8293c86d8a37b91d", func := "loop.example/g01094/laws.FnExactIsPrefix", spec := "fnExactIsPrefix", unfollowed := true, recurses := true, named := ["math/bits.deBruijn64tab"], apart := false, laid := [("math/bits.deBruijn64tab", laid_math_bits_deBruijn64tab)], narrowed := true }
def FnExactIsPrefixUptoSaid : Prop := fnExactIsPrefixUptoRow.holds Tryd.pinned (OpenSpec.upto fnExactIsPrefixSpec)

/-- 'laws.FnExactAreCommuting', WHERE WHAT IT READS IS OF BULK AT MOST 1048576: true; the input reads as it did. -/
def fnExactAreCommutingUptoRow : OpenClaim := { program := "ytopdbfdagckfeaadoor", sum := "40a020b92eb1994bedf4af00686489a3eb989e156642b2aa8293c86d8a37b91d", func := "loop.example/g01094/laws.FnExactAreCommuting", spec := "fnExactAreCommuting", unfollowed := true, recurses := true, named := ["math/bits.deBruijn64tab"], apart := false, laid := [("math/bits.deBruijn64tab", laid_math_bits_deBruijn64tab)], narrowed := true }
def FnExactAreCommutingUptoSaid : Prop := fnExactAreCommutingUptoRow.holds Tryd.pinned (OpenSpec.upto fnExactAreCommutingSpec)

/-- 'laws.FnExactConcatenate', WHERE WHAT IT READS IS OF BULK AT MOST 1048576: true; the input reads as it did. -/
def fnExactConcatenateUptoRow : OpenClaim := { program := "ytopdbfdagckfeaadoor", sum := "40a020b92eb1994bedf4af00686489a3eb989e156642b2aa8293c86d8a37b91d", func := "loop.example/g01094/laws.FnExactConcatenate", spec := "fnExactConcatenate", unfollowed := true, recurses := true, named := ["math/bits.deBruijn64tab"], apart := false, laid := [("math/bits.deBruijn64tab", laid_math_bits_deBruijn64tab)], narrowed := true }
def FnExactConcatenateUptoSaid : Prop := fnExactConcatenateUptoRow.holds Tryd.pinned (OpenSpec.upto fnExactConcatenateSpec)

/-- 'laws.FnExactRotateBy', WHERE WHAT IT READS IS OF BULK AT MOST 1048576: true; the input reads as it did. -/
def fnExactRotateByUptoRow : OpenClaim := { program := "ytopdbfdagckfeaadoor", sum := "40a020b92eb1994bedf4af00686489a3eb989e156642b2aa8293c86d8a37b91d", func := "loop.example/g01094/laws.FnExactRotateBy", spec := "fnExactRotateBy", unfollowed := true, recurses := true, named := ["math/bits.deBruijn64tab"], apart := false, laid := [("math/bits.deBruijn64tab", laid_math_bits_deBruijn64tab)], narrowed := true }
def FnExactRotateByUptoSaid : Prop := fnExactRotateByUptoRow.holds Tryd.pinned (OpenSpec.upto fnExactRotateBySpec)

/-- 'laws.FnExactLeftQuotient', WHERE WHAT IT READS IS OF BULK AT MOST 1048576: true; the input reads as it did. -/
def fnExactLeftQuotientUptoRow : OpenClaim := { program := "ytopdbfdagckfeaadoor", sum := "40a020b92eb1994bedf4af00686489a3eb989e156642b2aa8293c86d8a37b91d", func := "loop.example/g01094/laws.FnExactLeftQuotient", spec := "fnExactLeftQuotient", unfollowed := true, recurses := true, named := ["math/bits.deBruijn64tab"], apart := false, laid := [("math/bits.deBruijn64tab", laid_math_bits_deBruijn64tab)], narrowed := true }
def FnExactLeftQuotientUptoSaid : Prop := fnExactLeftQuotientUptoRow.holds Tryd.pinned (OpenSpec.upto fnExactLeftQuotientSpec)

/-- 'laws.FnExactMeetOf', WHERE WHAT IT READS IS OF BULK AT MOST 1048576: true; the input reads as it did. -/
def fnExactMeetOfUptoRow : OpenClaim := { program := "ytopdbfdagckfeaadoor", sum := "40a020b92eb1994bedf4af00686489a3eb989e156642b2aa8293c86d8a37b91d", func := "loop.example/g01094/laws.FnExactMeetOf", spec := "fnExactMeetOf", unfollowed := true, recurses := true, named := ["math/bits.deBruijn64tab"], apart := false, laid := [("math/bits.deBruijn64tab", laid_math_bits_deBruijn64tab)], narrowed := true }
def FnExactMeetOfUptoSaid : Prop := fnExactMeetOfUptoRow.holds Tryd.pinned (OpenSpec.upto fnExactMeetOfSpec)

end Rows
end Go.Proofs.YtopdbfdagckfeaaDoor
