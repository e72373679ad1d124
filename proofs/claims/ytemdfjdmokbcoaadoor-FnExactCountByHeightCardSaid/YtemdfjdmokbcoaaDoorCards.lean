/-
  DERIVED. GIVEN WITH THE SEED: THE CARDS: each row of YtemdfjdmokbcoaaDoorRows.lean that lists a variable, with what it lists TIED to the program's text (the seventh form; the later family's looks); each row that meets fmt, with fmt's text TOLD by the authors' own Lean function (tested against real Go, not proved from fmt's source: count such statements apart). THE CARD IS WHAT COUNTS. Prove the row's statement (the work); the ties are given (YtemdfjdmokbcoaaDoorTie.lean); close each card by the builder's one call (the guide's Derived/Test/ToyasCard.lean, 'card_holds'). Laid BY PROGRAM, IN A SANDBOX (cutbox-door.mjs). By AI agents, Wed Nov 11 2026. No macro, syntax, notation, axiom, sorry.
-/
import Derived.Test.YtemdfjdmokbcoaaDoorRows
import GoSem.ClaimSeven
namespace Go.Proofs.YtemdfjdmokbcoaaDoor
namespace Rows

/-- THE TIED CARD OF 'laws.FnExactTracesOfLength'. -/
def fnExactTracesOfLengthCard : Claim7 := { stood := { row := fnExactTracesOfLengthRow, standIns := [], harness := (true, "462c7485742aa42e9a6af236114bc99aa2d41607f20fdd23f511fd637855bcd1"), looks := false }, kinds := [], alts := [], laidByText := true, laidKinds := [.data], laidTests := true, laidLooks := .later }
def FnExactTracesOfLengthCardSaid : Prop := Claim7.holds Tryd.pinned (.plain (OpenSpec.ofChange fnExactTracesOfLengthSpec)) fnExactTracesOfLengthCard

/-- THE TIED CARD OF 'laws.FnExactCountByFirst'. -/
def fnExactCountByFirstCard : Claim7 := { stood := { row := fnExactCountByFirstRow, standIns := [], harness := (true, "462c7485742aa42e9a6af236114bc99aa2d41607f20fdd23f511fd637855bcd1"), looks := false }, kinds := [], alts := [], laidByText := true, laidKinds := [.data], laidTests := true, laidLooks := .later }
def FnExactCountByFirstCardSaid : Prop := Claim7.holds Tryd.pinned (.plain (OpenSpec.ofChange fnExactCountByFirstSpec)) fnExactCountByFirstCard

/-- THE TIED CARD OF 'laws.FnExactCountByHeight'. -/
def fnExactCountByHeightCard : Claim7 := { stood := { row := fnExactCountByHeightRow, standIns := [], harness := (true, "462c7485742aa42e9a6af236114bc99aa2d41607f20fdd23f511fd637855bcd1"), looks := false }, kinds := [], alts := [], laidByText := true, laidKinds := [.data], laidTests := true, laidLooks := .later }
def FnExactCountByHeightCardSaid : Prop := Claim7.holds Tryd.pinned (.plain (OpenSpec.ofChange fnExactCountByHeightSpec)) fnExactCountByHeightCard

/-- THE SECOND FORM's CARD OF 'laws.FnExactTracesOfLength'. -/
def fnExactTracesOfLengthUptoCard : Claim7 := { stood := { row := fnExactTracesOfLengthUptoRow, standIns := [], harness := (true, "462c7485742aa42e9a6af236114bc99aa2d41607f20fdd23f511fd637855bcd1"), looks := false }, kinds := [], alts := [], laidByText := true, laidKinds := [.data], laidTests := true, laidLooks := .later }
def FnExactTracesOfLengthUptoCardSaid : Prop := Claim7.holds Tryd.pinned (.plain (OpenSpec.upto fnExactTracesOfLengthSpec)) fnExactTracesOfLengthUptoCard

/-- THE SECOND FORM's CARD OF 'laws.FnExactCountByFirst'. -/
def fnExactCountByFirstUptoCard : Claim7 := { stood := { row := fnExactCountByFirstUptoRow, standIns := [], harness := (true, "462c7485742aa42e9a6af236114bc99aa2d41607f20fdd23f511fd637855bcd1"), looks := false }, kinds := [], alts := [], laidByText := true, laidKinds := [.data], laidTests := true, laidLooks := .later }
def FnExactCountByFirstUptoCardSaid : Prop := Claim7.holds Tryd.pinned (.plain (OpenSpec.upto fnExactCountByFirstSpec)) fnExactCountByFirstUptoCard

/-- THE SECOND FORM's CARD OF 'laws.FnExactCountByHeight'. -/
def fnExactCountByHeightUptoCard : Claim7 := { stood := { row := fnExactCountByHeightUptoRow, standIns := [], harness := (true, "462c7485742aa42e9a6af236114bc99aa2d41607f20fdd23f511fd637855bcd1"), looks := false }, kinds := [], alts := [], laidByText := true, laidKinds := [.data], laidTests := true, laidLooks := .later }
def FnExactCountByHeightUptoCardSaid : Prop := Claim7.holds Tryd.pinned (.plain (OpenSpec.upto fnExactCountByHeightSpec)) fnExactCountByHeightUptoCard
end Rows
end Go.Proofs.YtemdfjdmokbcoaaDoor
