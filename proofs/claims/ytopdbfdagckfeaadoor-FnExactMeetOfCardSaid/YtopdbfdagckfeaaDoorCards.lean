/-
  DERIVED. GIVEN WITH THE SEED: THE CARDS: each row of YtopdbfdagckfeaaDoorRows.lean that lists a variable, with what it lists TIED to the program's text (the seventh form; the later family's looks); each row that meets fmt, with fmt's text TOLD by the authors' own Lean function (tested against real Go, not proved from fmt's source: count such statements apart). THE CARD IS WHAT COUNTS. Prove the row's statement (the work); the ties are given (YtopdbfdagckfeaaDoorTie.lean); close each card by the builder's one call (the guide's Derived/Test/ToyasCard.lean, 'card_holds'). Laid BY PROGRAM, IN A SANDBOX (cutbox-door.mjs). By AI agents, Wed Nov 11 2026. No macro, syntax, notation, axiom, sorry.
-/
import Derived.Test.YtopdbfdagckfeaaDoorRows
import GoSem.ClaimSeven
namespace Go.Proofs.YtopdbfdagckfeaaDoor
namespace Rows

/-- THE TIED CARD OF 'laws.FnExactAreIndependent'. -/
def fnExactAreIndependentCard : Claim7 := { stood := { row := fnExactAreIndependentRow, standIns := [], harness := (true, "b71a51c0845f8459a6c4f884ace4da1890d781bd99a3324c029b9c75cd4265a5"), looks := false }, kinds := [], alts := [], laidByText := true, laidKinds := [.data], laidTests := true, laidLooks := .later }
def FnExactAreIndependentCardSaid : Prop := Claim7.holds Tryd.pinned (.plain (OpenSpec.ofChange fnExactAreIndependentSpec)) fnExactAreIndependentCard

/-- THE TIED CARD OF 'laws.FnExactHeightOf'. -/
def fnExactHeightOfCard : Claim7 := { stood := { row := fnExactHeightOfRow, standIns := [], harness := (true, "b71a51c0845f8459a6c4f884ace4da1890d781bd99a3324c029b9c75cd4265a5"), looks := false }, kinds := [], alts := [], laidByText := true, laidKinds := [.data], laidTests := true, laidLooks := .later }
def FnExactHeightOfCardSaid : Prop := Claim7.holds Tryd.pinned (.plain (OpenSpec.ofChange fnExactHeightOfSpec)) fnExactHeightOfCard

/-- THE TIED CARD OF 'laws.FnExactLastLetters'. -/
def fnExactLastLettersCard : Claim7 := { stood := { row := fnExactLastLettersRow, standIns := [], harness := (true, "b71a51c0845f8459a6c4f884ace4da1890d781bd99a3324c029b9c75cd4265a5"), looks := false }, kinds := [], alts := [], laidByText := true, laidKinds := [.data], laidTests := true, laidLooks := .later }
def FnExactLastLettersCardSaid : Prop := Claim7.holds Tryd.pinned (.plain (OpenSpec.ofChange fnExactLastLettersSpec)) fnExactLastLettersCard

/-- THE TIED CARD OF 'laws.FnExactIsPrefix'. -/
def fnExactIsPrefixCard : Claim7 := { stood := { row := fnExactIsPrefixRow, standIns := [], harness := (true, "b71a51c0845f8459a6c4f884ace4da1890d781bd99a3324c029b9c75cd4265a5"), looks := false }, kinds := [], alts := [], laidByText := true, laidKinds := [.data], laidTests := true, laidLooks := .later }
def FnExactIsPrefixCardSaid : Prop := Claim7.holds Tryd.pinned (.plain (OpenSpec.ofChange fnExactIsPrefixSpec)) fnExactIsPrefixCard

/-- THE TIED CARD OF 'laws.FnExactAreCommuting'. -/
def fnExactAreCommutingCard : Claim7 := { stood := { row := fnExactAreCommutingRow, standIns := [], harness := (true, "b71a51c0845f8459a6c4f884ace4da1890d781bd99a3324c029b9c75cd4265a5"), looks := false }, kinds := [], alts := [], laidByText := true, laidKinds := [.data], laidTests := true, laidLooks := .later }
def FnExactAreCommutingCardSaid : Prop := Claim7.holds Tryd.pinned (.plain (OpenSpec.ofChange fnExactAreCommutingSpec)) fnExactAreCommutingCard

/-- THE TIED CARD OF 'laws.FnExactConcatenate'. -/
def fnExactConcatenateCard : Claim7 := { stood := { row := fnExactConcatenateRow, standIns := [], harness := (true, "b71a51c0845f8459a6c4f884ace4da1890d781bd99a3324c029b9c75cd4265a5"), looks := false }, kinds := [], alts := [], laidByText := true, laidKinds := [.data], laidTests := true, laidLooks := .later }
def FnExactConcatenateCardSaid : Prop := Claim7.holds Tryd.pinned (.plain (OpenSpec.ofChange fnExactConcatenateSpec)) fnExactConcatenateCard

/-- THE TIED CARD OF 'laws.FnExactRotateBy'. -/
def fnExactRotateByCard : Claim7 := { stood := { row := fnExactRotateByRow, standIns := [], harness := (true, "b71a51c0845f8459a6c4f884ace4da1890d781bd99a3324c029b9c75cd4265a5"), looks := false }, kinds := [], alts := [], laidByText := true, laidKinds := [.data], laidTests := true, laidLooks := .later }
def FnExactRotateByCardSaid : Prop := Claim7.holds Tryd.pinned (.plain (OpenSpec.ofChange fnExactRotateBySpec)) fnExactRotateByCard

/-- THE TIED CARD OF 'laws.FnExactLeftQuotient'. -/
def fnExactLeftQuotientCard : Claim7 := { stood := { row := fnExactLeftQuotientRow, standIns := [], harness := (true, "b71a51c0845f8459a6c4f884ace4da1890d781bd99a3324c029b9c75cd4265a5"), looks := false }, kinds := [], alts := [], laidByText := true, laidKinds := [.data], laidTests := true, laidLooks := .later }
def FnExactLeftQuotientCardSaid : Prop := Claim7.holds Tryd.pinned (.plain (OpenSpec.ofChange fnExactLeftQuotientSpec)) fnExactLeftQuotientCard

/-- THE TIED CARD OF 'laws.FnExactMeetOf'. -/
def fnExactMeetOfCard : Claim7 := { stood := { row := fnExactMeetOfRow, standIns := [], harness := (true, "b71a51c0845f8459a6c4f884ace4da1890d781bd99a3324c029b9c75cd4265a5"), looks := false }, kinds := [], alts := [], laidByText := true, laidKinds := [.data], laidTests := true, laidLooks := .later }
def FnExactMeetOfCardSaid : Prop := Claim7.holds Tryd.pinned (.plain (OpenSpec.ofChange fnExactMeetOfSpec)) fnExactMeetOfCard

/-- THE SECOND FORM's CARD OF 'laws.FnExactAreIndependent'. -/
def fnExactAreIndependentUptoCard : Claim7 := { stood := { row := fnExactAreIndependentUptoRow, standIns := [], harness := (true, "b71a51c0845f8459a6c4f884ace4da1890d781bd99a3324c029b9c75cd4265a5"), looks := false }, kinds := [], alts := [], laidByText := true, laidKinds := [.data], laidTests := true, laidLooks := .later }
def FnExactAreIndependentUptoCardSaid : Prop := Claim7.holds Tryd.pinned (.plain (OpenSpec.upto fnExactAreIndependentSpec)) fnExactAreIndependentUptoCard

/-- THE SECOND FORM's CARD OF 'laws.FnExactHeightOf'. -/
def fnExactHeightOfUptoCard : Claim7 := { stood := { row := fnExactHeightOfUptoRow, standIns := [], harness := (true, "b71a51c0845f8459a6c4f884ace4da1890d781bd99a3324c029b9c75cd4265a5"), looks := false }, kinds := [], alts := [], laidByText := true, laidKinds := [.data], laidTests := true, laidLooks := .later }
def FnExactHeightOfUptoCardSaid : Prop := Claim7.holds Tryd.pinned (.plain (OpenSpec.upto fnExactHeightOfSpec)) fnExactHeightOfUptoCard

/-- THE SECOND FORM's CARD OF 'laws.FnExactLastLetters'. -/
def fnExactLastLettersUptoCard : Claim7 := { stood := { row := fnExactLastLettersUptoRow, standIns := [], harness := (true, "b71a51c0845f8459a6c4f884ace4da1890d781bd99a3324c029b9c75cd4265a5"), looks := false }, kinds := [], alts := [], laidByText := true, laidKinds := [.data], laidTests := true, laidLooks := .later }
def FnExactLastLettersUptoCardSaid : Prop := Claim7.holds Tryd.pinned (.plain (OpenSpec.upto fnExactLastLettersSpec)) fnExactLastLettersUptoCard

/-- THE SECOND FORM's CARD OF 'laws.FnExactIsPrefix'. -/
def fnExactIsPrefixUptoCard : Claim7 := { stood := { row := fnExactIsPrefixUptoRow, standIns := [], harness := (true, "b71a51c0845f8459a6c4f884ace4da1890d781bd99a3324c029b9c75cd4265a5"), looks := false }, kinds := [], alts := [], laidByText := true, laidKinds := [.data], laidTests := true, laidLooks := .later }
def FnExactIsPrefixUptoCardSaid : Prop := Claim7.holds Tryd.pinned (.plain (OpenSpec.upto fnExactIsPrefixSpec)) fnExactIsPrefixUptoCard

/-- THE SECOND FORM's CARD OF 'laws.FnExactAreCommuting'. -/
def fnExactAreCommutingUptoCard : Claim7 := { stood := { row := fnExactAreCommutingUptoRow, standIns := [], harness := (true, "b71a51c0845f8459a6c4f884ace4da1890d781bd99a3324c029b9c75cd4265a5"), looks := false }, kinds := [], alts := [], laidByText := true, laidKinds := [.data], laidTests := true, laidLooks := .later }
def FnExactAreCommutingUptoCardSaid : Prop := Claim7.holds Tryd.pinned (.plain (OpenSpec.upto fnExactAreCommutingSpec)) fnExactAreCommutingUptoCard

/-- THE SECOND FORM's CARD OF 'laws.FnExactConcatenate'. -/
def fnExactConcatenateUptoCard : Claim7 := { stood := { row := fnExactConcatenateUptoRow, standIns := [], harness := (true, "b71a51c0845f8459a6c4f884ace4da1890d781bd99a3324c029b9c75cd4265a5"), looks := false }, kinds := [], alts := [], laidByText := true, laidKinds := [.data], laidTests := true, laidLooks := .later }
def FnExactConcatenateUptoCardSaid : Prop := Claim7.holds Tryd.pinned (.plain (OpenSpec.upto fnExactConcatenateSpec)) fnExactConcatenateUptoCard

/-- THE SECOND FORM's CARD OF 'laws.FnExactRotateBy'. -/
def fnExactRotateByUptoCard : Claim7 := { stood := { row := fnExactRotateByUptoRow, standIns := [], harness := (true, "b71a51c0845f8459a6c4f884ace4da1890d781bd99a3324c029b9c75cd4265a5"), looks := false }, kinds := [], alts := [], laidByText := true, laidKinds := [.data], laidTests := true, laidLooks := .later }
def FnExactRotateByUptoCardSaid : Prop := Claim7.holds Tryd.pinned (.plain (OpenSpec.upto fnExactRotateBySpec)) fnExactRotateByUptoCard

/-- THE SECOND FORM's CARD OF 'laws.FnExactLeftQuotient'. -/
def fnExactLeftQuotientUptoCard : Claim7 := { stood := { row := fnExactLeftQuotientUptoRow, standIns := [], harness := (true, "b71a51c0845f8459a6c4f884ace4da1890d781bd99a3324c029b9c75cd4265a5"), looks := false }, kinds := [], alts := [], laidByText := true, laidKinds := [.data], laidTests := true, laidLooks := .later }
def FnExactLeftQuotientUptoCardSaid : Prop := Claim7.holds Tryd.pinned (.plain (OpenSpec.upto fnExactLeftQuotientSpec)) fnExactLeftQuotientUptoCard

/-- THE SECOND FORM's CARD OF 'laws.FnExactMeetOf'. -/
def fnExactMeetOfUptoCard : Claim7 := { stood := { row := fnExactMeetOfUptoRow, standIns := [], harness := (true, "b71a51c0845f8459a6c4f884ace4da1890d781bd99a3324c029b9c75cd4265a5"), looks := false }, kinds := [], alts := [], laidByText := true, laidKinds := [.data], laidTests := true, laidLooks := .later }
def FnExactMeetOfUptoCardSaid : Prop := Claim7.holds Tryd.pinned (.plain (OpenSpec.upto fnExactMeetOfSpec)) fnExactMeetOfUptoCard
end Rows
end Go.Proofs.YtopdbfdagckfeaaDoor
