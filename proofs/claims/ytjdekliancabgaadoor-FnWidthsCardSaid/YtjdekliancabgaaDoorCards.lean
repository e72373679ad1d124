/-
  DERIVED. GIVEN WITH THE SEED: THE CARDS: each row of YtjdekliancabgaaDoorRows.lean that lists a variable, with what it lists TIED to the program's text (the seventh form; the later family's looks); each row that meets fmt, with fmt's text TOLD by the authors' own Lean function (tested against real Go, not proved from fmt's source: count such statements apart). THE CARD IS WHAT COUNTS. Prove the row's statement (the work); the ties are given (YtjdekliancabgaaDoorTie.lean); close each card by the builder's one call (the guide's Derived/Test/ToyasCard.lean, 'card_holds'). Laid BY PROGRAM, IN A SANDBOX (cutbox-door.mjs). By AI agents, Wed Nov 11 2026. No macro, syntax, notation, axiom, sorry.
-/
import Derived.Test.YtjdekliancabgaaDoorRows
import GoSem.ClaimSeven
namespace Go.Proofs.YtjdekliancabgaaDoor
namespace Rows

/-- THE TIED CARD OF 'laws.FnProductCounts'. -/
def fnProductCountsCard : Claim7 := { stood := { row := fnProductCountsRow, standIns := [], harness := (true, "467b262cbd7328607b99d4643cf6412d0eb1e80ebdd9a47a6a8f5abfd5e1bc66"), looks := false }, kinds := [], alts := [], laidByText := true, laidKinds := [.data], laidTests := true, laidLooks := .later }
def FnProductCountsCardSaid : Prop := Claim7.holds Tryd.pinned (.plain (OpenSpec.ofChange fnProductCountsSpec)) fnProductCountsCard

/-- THE TIED CARD OF 'laws.FnWidths'. -/
def fnWidthsCard : Claim7 := { stood := { row := fnWidthsRow, standIns := [], harness := (true, "467b262cbd7328607b99d4643cf6412d0eb1e80ebdd9a47a6a8f5abfd5e1bc66"), looks := false }, kinds := [], alts := [], laidByText := true, laidKinds := [.data], laidTests := true, laidLooks := .later }
def FnWidthsCardSaid : Prop := Claim7.holds Tryd.pinned (.plain (OpenSpec.ofChange fnWidthsSpec)) fnWidthsCard

/-- THE SECOND FORM's CARD OF 'laws.FnProductCounts'. -/
def fnProductCountsUptoCard : Claim7 := { stood := { row := fnProductCountsUptoRow, standIns := [], harness := (true, "467b262cbd7328607b99d4643cf6412d0eb1e80ebdd9a47a6a8f5abfd5e1bc66"), looks := false }, kinds := [], alts := [], laidByText := true, laidKinds := [.data], laidTests := true, laidLooks := .later }
def FnProductCountsUptoCardSaid : Prop := Claim7.holds Tryd.pinned (.plain (OpenSpec.upto fnProductCountsSpec)) fnProductCountsUptoCard

/-- THE SECOND FORM's CARD OF 'laws.FnWidths'. -/
def fnWidthsUptoCard : Claim7 := { stood := { row := fnWidthsUptoRow, standIns := [], harness := (true, "467b262cbd7328607b99d4643cf6412d0eb1e80ebdd9a47a6a8f5abfd5e1bc66"), looks := false }, kinds := [], alts := [], laidByText := true, laidKinds := [.data], laidTests := true, laidLooks := .later }
def FnWidthsUptoCardSaid : Prop := Claim7.holds Tryd.pinned (.plain (OpenSpec.upto fnWidthsSpec)) fnWidthsUptoCard
end Rows
end Go.Proofs.YtjdekliancabgaaDoor
