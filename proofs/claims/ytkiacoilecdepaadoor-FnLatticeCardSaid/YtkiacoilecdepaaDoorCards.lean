/-
  DERIVED. GIVEN WITH THE SEED: THE CARDS: each row of YtkiacoilecdepaaDoorRows.lean that lists a variable, with what it lists TIED to the program's text (the seventh form; the later family's looks); each row that meets fmt, with fmt's text TOLD by the authors' own Lean function (tested against real Go, not proved from fmt's source: count such statements apart). THE CARD IS WHAT COUNTS. Prove the row's statement (the work); the ties are given (YtkiacoilecdepaaDoorTie.lean); close each card by the builder's one call (the guide's Derived/Test/ToyasCard.lean, 'card_holds'). Laid BY PROGRAM, IN A SANDBOX (cutbox-door.mjs). By AI agents, Wed Nov 11 2026. No macro, syntax, notation, axiom, sorry.
-/
import Derived.Test.YtkiacoilecdepaaDoorRows
import GoSem.ClaimSeven
namespace Go.Proofs.YtkiacoilecdepaaDoor
namespace Rows

/-- THE TIED CARD OF 'laws.FnFirstLetters'. -/
def fnFirstLettersCard : Claim7 := { stood := { row := fnFirstLettersRow, standIns := [], harness := (true, "18359ef4d7b7e740d37487ee090152ad57f9ee408204588bfd3294897a37e853"), looks := false }, kinds := [], alts := [], laidByText := true, laidKinds := [.data], laidTests := true, laidLooks := .later }
def FnFirstLettersCardSaid : Prop := Claim7.holds Tryd.pinned (.plain (OpenSpec.ofChange fnFirstLettersSpec)) fnFirstLettersCard

/-- THE TIED CARD OF 'laws.FnPrefixesIn'. -/
def fnPrefixesInCard : Claim7 := { stood := { row := fnPrefixesInRow, standIns := [], harness := (true, "18359ef4d7b7e740d37487ee090152ad57f9ee408204588bfd3294897a37e853"), looks := false }, kinds := [], alts := [], laidByText := true, laidKinds := [.data], laidTests := true, laidLooks := .later }
def FnPrefixesInCardSaid : Prop := Claim7.holds Tryd.pinned (.plain (OpenSpec.ofChange fnPrefixesInSpec)) fnPrefixesInCard

/-- THE TIED CARD OF 'laws.FnQuotients'. -/
def fnQuotientsCard : Claim7 := { stood := { row := fnQuotientsRow, standIns := [], harness := (true, "18359ef4d7b7e740d37487ee090152ad57f9ee408204588bfd3294897a37e853"), looks := false }, kinds := [], alts := [], laidByText := true, laidKinds := [.data], laidTests := true, laidLooks := .later }
def FnQuotientsCardSaid : Prop := Claim7.holds Tryd.pinned (.plain (OpenSpec.ofChange fnQuotientsSpec)) fnQuotientsCard

/-- THE TIED CARD OF 'laws.FnPrefixTraces'. -/
def fnPrefixTracesCard : Claim7 := { stood := { row := fnPrefixTracesRow, standIns := [], harness := (true, "18359ef4d7b7e740d37487ee090152ad57f9ee408204588bfd3294897a37e853"), looks := false }, kinds := [], alts := [], laidByText := true, laidKinds := [.data], laidTests := true, laidLooks := .later }
def FnPrefixTracesCardSaid : Prop := Claim7.holds Tryd.pinned (.plain (OpenSpec.ofChange fnPrefixTracesSpec)) fnPrefixTracesCard

/-- THE TIED CARD OF 'laws.FnTraceResiduals'. -/
def fnTraceResidualsCard : Claim7 := { stood := { row := fnTraceResidualsRow, standIns := [], harness := (true, "18359ef4d7b7e740d37487ee090152ad57f9ee408204588bfd3294897a37e853"), looks := false }, kinds := [], alts := [], laidByText := true, laidKinds := [.data], laidTests := true, laidLooks := .later }
def FnTraceResidualsCardSaid : Prop := Claim7.holds Tryd.pinned (.plain (OpenSpec.ofChange fnTraceResidualsSpec)) fnTraceResidualsCard

/-- THE TIED CARD OF 'laws.FnLattice'. -/
def fnLatticeCard : Claim7 := { stood := { row := fnLatticeRow, standIns := [], harness := (true, "18359ef4d7b7e740d37487ee090152ad57f9ee408204588bfd3294897a37e853"), looks := false }, kinds := [], alts := [], laidByText := true, laidKinds := [.data], laidTests := true, laidLooks := .later }
def FnLatticeCardSaid : Prop := Claim7.holds Tryd.pinned (.plain (OpenSpec.ofChange fnLatticeSpec)) fnLatticeCard

/-- THE SECOND FORM's CARD OF 'laws.FnFirstLetters'. -/
def fnFirstLettersUptoCard : Claim7 := { stood := { row := fnFirstLettersUptoRow, standIns := [], harness := (true, "18359ef4d7b7e740d37487ee090152ad57f9ee408204588bfd3294897a37e853"), looks := false }, kinds := [], alts := [], laidByText := true, laidKinds := [.data], laidTests := true, laidLooks := .later }
def FnFirstLettersUptoCardSaid : Prop := Claim7.holds Tryd.pinned (.plain (OpenSpec.upto fnFirstLettersSpec)) fnFirstLettersUptoCard

/-- THE SECOND FORM's CARD OF 'laws.FnPrefixesIn'. -/
def fnPrefixesInUptoCard : Claim7 := { stood := { row := fnPrefixesInUptoRow, standIns := [], harness := (true, "18359ef4d7b7e740d37487ee090152ad57f9ee408204588bfd3294897a37e853"), looks := false }, kinds := [], alts := [], laidByText := true, laidKinds := [.data], laidTests := true, laidLooks := .later }
def FnPrefixesInUptoCardSaid : Prop := Claim7.holds Tryd.pinned (.plain (OpenSpec.upto fnPrefixesInSpec)) fnPrefixesInUptoCard

/-- THE SECOND FORM's CARD OF 'laws.FnQuotients'. -/
def fnQuotientsUptoCard : Claim7 := { stood := { row := fnQuotientsUptoRow, standIns := [], harness := (true, "18359ef4d7b7e740d37487ee090152ad57f9ee408204588bfd3294897a37e853"), looks := false }, kinds := [], alts := [], laidByText := true, laidKinds := [.data], laidTests := true, laidLooks := .later }
def FnQuotientsUptoCardSaid : Prop := Claim7.holds Tryd.pinned (.plain (OpenSpec.upto fnQuotientsSpec)) fnQuotientsUptoCard

/-- THE SECOND FORM's CARD OF 'laws.FnPrefixTraces'. -/
def fnPrefixTracesUptoCard : Claim7 := { stood := { row := fnPrefixTracesUptoRow, standIns := [], harness := (true, "18359ef4d7b7e740d37487ee090152ad57f9ee408204588bfd3294897a37e853"), looks := false }, kinds := [], alts := [], laidByText := true, laidKinds := [.data], laidTests := true, laidLooks := .later }
def FnPrefixTracesUptoCardSaid : Prop := Claim7.holds Tryd.pinned (.plain (OpenSpec.upto fnPrefixTracesSpec)) fnPrefixTracesUptoCard

/-- THE SECOND FORM's CARD OF 'laws.FnTraceResiduals'. -/
def fnTraceResidualsUptoCard : Claim7 := { stood := { row := fnTraceResidualsUptoRow, standIns := [], harness := (true, "18359ef4d7b7e740d37487ee090152ad57f9ee408204588bfd3294897a37e853"), looks := false }, kinds := [], alts := [], laidByText := true, laidKinds := [.data], laidTests := true, laidLooks := .later }
def FnTraceResidualsUptoCardSaid : Prop := Claim7.holds Tryd.pinned (.plain (OpenSpec.upto fnTraceResidualsSpec)) fnTraceResidualsUptoCard

/-- THE SECOND FORM's CARD OF 'laws.FnLattice'. -/
def fnLatticeUptoCard : Claim7 := { stood := { row := fnLatticeUptoRow, standIns := [], harness := (true, "18359ef4d7b7e740d37487ee090152ad57f9ee408204588bfd3294897a37e853"), looks := false }, kinds := [], alts := [], laidByText := true, laidKinds := [.data], laidTests := true, laidLooks := .later }
def FnLatticeUptoCardSaid : Prop := Claim7.holds Tryd.pinned (.plain (OpenSpec.upto fnLatticeSpec)) fnLatticeUptoCard
end Rows
end Go.Proofs.YtkiacoilecdepaaDoor
