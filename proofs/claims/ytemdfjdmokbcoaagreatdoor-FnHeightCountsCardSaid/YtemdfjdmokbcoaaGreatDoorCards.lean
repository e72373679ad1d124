/-
  DERIVED. GIVEN WITH THE SEED: THE CARDS: each row of YtemdfjdmokbcoaaGreatDoorRows.lean that lists a variable, with what it lists TIED to the program's text (the seventh form; the later family's looks); each row that meets fmt, with fmt's text TOLD by the authors' own Lean function (tested against real Go, not proved from fmt's source: count such statements apart). THE CARD IS WHAT COUNTS. Prove the row's statement (the work); the ties are given (YtemdfjdmokbcoaaGreatDoorTie.lean); close each card by the builder's one call (the guide's Derived/Test/ToyasCard.lean, 'card_holds'). Laid BY PROGRAM, IN A SANDBOX (cutbox-door.mjs). By AI agents, Wed Nov 11 2026. No macro, syntax, notation, axiom, sorry.
-/
import Derived.Test.YtemdfjdmokbcoaaGreatDoorRows
import GoSem.ClaimSeven
namespace Go.Proofs.YtemdfjdmokbcoaaGreatDoor
namespace Rows

/-- THE TIED CARD OF 'laws.FnHeightCounts'. -/
def fnHeightCountsCard : Claim7 := { stood := { row := fnHeightCountsRow, standIns := [], harness := (true, "c835d70bd00f403e960f49c25b4ed0622a712b186e601fdf23e490764773c1d1"), looks := false }, kinds := [], alts := [], laidByText := true, laidKinds := [.data], laidTests := true, laidLooks := .later }
def FnHeightCountsCardSaid : Prop := Claim7.holds Tryz.pinned (.plain (OpenSpec.ofChange fnHeightCountsSpec)) fnHeightCountsCard

/-- THE SECOND FORM's CARD OF 'laws.FnHeightCounts'. -/
def fnHeightCountsUptoCard : Claim7 := { stood := { row := fnHeightCountsUptoRow, standIns := [], harness := (true, "c835d70bd00f403e960f49c25b4ed0622a712b186e601fdf23e490764773c1d1"), looks := false }, kinds := [], alts := [], laidByText := true, laidKinds := [.data], laidTests := true, laidLooks := .later }
def FnHeightCountsUptoCardSaid : Prop := Claim7.holds Tryz.pinned (.plain (OpenSpec.upto fnHeightCountsSpec)) fnHeightCountsUptoCard
end Rows
end Go.Proofs.YtemdfjdmokbcoaaGreatDoor
