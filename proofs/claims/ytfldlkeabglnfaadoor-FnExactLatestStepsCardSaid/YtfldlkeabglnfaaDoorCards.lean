/-
  DERIVED. GIVEN WITH THE SEED: THE CARDS: each row of YtfldlkeabglnfaaDoorRows.lean that lists a variable, with what it lists TIED to the program's text (the seventh form; the later family's looks); each row that meets fmt, with fmt's text TOLD by the authors' own Lean function (tested against real Go, not proved from fmt's source: count such statements apart). THE CARD IS WHAT COUNTS. Prove the row's statement (the work); the ties are given (YtfldlkeabglnfaaDoorTie.lean); close each card by the builder's one call (the guide's Derived/Test/ToyasCard.lean, 'card_holds'). Laid BY PROGRAM, IN A SANDBOX (cutbox-door.mjs). By AI agents, Wed Nov 11 2026. No macro, syntax, notation, axiom, sorry.
-/
import Derived.Test.YtfldlkeabglnfaaDoorRows
import GoSem.ClaimSeven
namespace Go.Proofs.YtfldlkeabglnfaaDoor
namespace Rows

/-- THE TIED CARD OF 'laws.FnExactAreConjugate'. -/
def fnExactAreConjugateCard : Claim7 := { stood := { row := fnExactAreConjugateRow, standIns := [], harness := (true, "f1af90a95778a86bb911ad5d9509184c7e5f8a24a46ff799aa8e21f06d2cbc91"), looks := false }, kinds := [], alts := [], laidByText := true, laidKinds := [.data], laidTests := true, laidLooks := .later }
def FnExactAreConjugateCardSaid : Prop := Claim7.holds Tryd.pinned (.plain (OpenSpec.ofChange fnExactAreConjugateSpec)) fnExactAreConjugateCard

/-- THE TIED CARD OF 'laws.FnExactJoinOf'. -/
def fnExactJoinOfCard : Claim7 := { stood := { row := fnExactJoinOfRow, standIns := [], harness := (true, "f1af90a95778a86bb911ad5d9509184c7e5f8a24a46ff799aa8e21f06d2cbc91"), looks := false }, kinds := [], alts := [], laidByText := true, laidKinds := [.data], laidTests := true, laidLooks := .later }
def FnExactJoinOfCardSaid : Prop := Claim7.holds Tryd.pinned (.plain (OpenSpec.ofChange fnExactJoinOfSpec)) fnExactJoinOfCard

/-- THE TIED CARD OF 'laws.FnExactLongestChain'. -/
def fnExactLongestChainCard : Claim7 := { stood := { row := fnExactLongestChainRow, standIns := [], harness := (true, "f1af90a95778a86bb911ad5d9509184c7e5f8a24a46ff799aa8e21f06d2cbc91"), looks := false }, kinds := [], alts := [], laidByText := true, laidKinds := [.data], laidTests := true, laidLooks := .later }
def FnExactLongestChainCardSaid : Prop := Claim7.holds Tryd.pinned (.plain (OpenSpec.ofChange fnExactLongestChainSpec)) fnExactLongestChainCard

/-- THE TIED CARD OF 'laws.FnFirstLetters'. -/
def fnFirstLettersCard : Claim7 := { stood := { row := fnFirstLettersRow, standIns := [], harness := (true, "f1af90a95778a86bb911ad5d9509184c7e5f8a24a46ff799aa8e21f06d2cbc91"), looks := false }, kinds := [], alts := [], laidByText := true, laidKinds := [.data], laidTests := true, laidLooks := .later }
def FnFirstLettersCardSaid : Prop := Claim7.holds Tryd.pinned (.plain (OpenSpec.ofChange fnFirstLettersSpec)) fnFirstLettersCard

/-- THE TIED CARD OF 'laws.FnExactResidualAfter'. -/
def fnExactResidualAfterCard : Claim7 := { stood := { row := fnExactResidualAfterRow, standIns := [], harness := (true, "f1af90a95778a86bb911ad5d9509184c7e5f8a24a46ff799aa8e21f06d2cbc91"), looks := false }, kinds := [], alts := [], laidByText := true, laidKinds := [.data], laidTests := true, laidLooks := .later }
def FnExactResidualAfterCardSaid : Prop := Claim7.holds Tryd.pinned (.plain (OpenSpec.ofChange fnExactResidualAfterSpec)) fnExactResidualAfterCard

/-- THE TIED CARD OF 'laws.FnExactPrefixAt'. -/
def fnExactPrefixAtCard : Claim7 := { stood := { row := fnExactPrefixAtRow, standIns := [], harness := (true, "f1af90a95778a86bb911ad5d9509184c7e5f8a24a46ff799aa8e21f06d2cbc91"), looks := false }, kinds := [], alts := [], laidByText := true, laidKinds := [.data], laidTests := true, laidLooks := .later }
def FnExactPrefixAtCardSaid : Prop := Claim7.holds Tryd.pinned (.plain (OpenSpec.ofChange fnExactPrefixAtSpec)) fnExactPrefixAtCard

/-- THE TIED CARD OF 'laws.FnExactIsPrimitive'. -/
def fnExactIsPrimitiveCard : Claim7 := { stood := { row := fnExactIsPrimitiveRow, standIns := [], harness := (true, "f1af90a95778a86bb911ad5d9509184c7e5f8a24a46ff799aa8e21f06d2cbc91"), looks := false }, kinds := [], alts := [], laidByText := true, laidKinds := [.data], laidTests := true, laidLooks := .later }
def FnExactIsPrimitiveCardSaid : Prop := Claim7.holds Tryd.pinned (.plain (OpenSpec.ofChange fnExactIsPrimitiveSpec)) fnExactIsPrimitiveCard

/-- THE TIED CARD OF 'laws.FnExactLeviOf'. -/
def fnExactLeviOfCard : Claim7 := { stood := { row := fnExactLeviOfRow, standIns := [], harness := (true, "f1af90a95778a86bb911ad5d9509184c7e5f8a24a46ff799aa8e21f06d2cbc91"), looks := false }, kinds := [], alts := [], laidByText := true, laidKinds := [.data], laidTests := true, laidLooks := .later }
def FnExactLeviOfCardSaid : Prop := Claim7.holds Tryd.pinned (.plain (OpenSpec.ofChange fnExactLeviOfSpec)) fnExactLeviOfCard

/-- THE TIED CARD OF 'laws.FnExactLatestSteps'. -/
def fnExactLatestStepsCard : Claim7 := { stood := { row := fnExactLatestStepsRow, standIns := [], harness := (true, "f1af90a95778a86bb911ad5d9509184c7e5f8a24a46ff799aa8e21f06d2cbc91"), looks := false }, kinds := [], alts := [], laidByText := true, laidKinds := [.data], laidTests := true, laidLooks := .later }
def FnExactLatestStepsCardSaid : Prop := Claim7.holds Tryd.pinned (.plain (OpenSpec.ofChange fnExactLatestStepsSpec)) fnExactLatestStepsCard

/-- THE TIED CARD OF 'laws.FnExactTraceComponents'. -/
def fnExactTraceComponentsCard : Claim7 := { stood := { row := fnExactTraceComponentsRow, standIns := [], harness := (true, "f1af90a95778a86bb911ad5d9509184c7e5f8a24a46ff799aa8e21f06d2cbc91"), looks := false }, kinds := [], alts := [], laidByText := true, laidKinds := [.data], laidTests := true, laidLooks := .later }
def FnExactTraceComponentsCardSaid : Prop := Claim7.holds Tryd.pinned (.plain (OpenSpec.ofChange fnExactTraceComponentsSpec)) fnExactTraceComponentsCard

/-- THE TIED CARD OF 'laws.FnExactCommonContinuation'. -/
def fnExactCommonContinuationCard : Claim7 := { stood := { row := fnExactCommonContinuationRow, standIns := [], harness := (true, "f1af90a95778a86bb911ad5d9509184c7e5f8a24a46ff799aa8e21f06d2cbc91"), looks := false }, kinds := [], alts := [], laidByText := true, laidKinds := [.data], laidTests := true, laidLooks := .later }
def FnExactCommonContinuationCardSaid : Prop := Claim7.holds Tryd.pinned (.plain (OpenSpec.ofChange fnExactCommonContinuationSpec)) fnExactCommonContinuationCard

/-- THE TIED CARD OF 'laws.FnExactRootOf'. -/
def fnExactRootOfCard : Claim7 := { stood := { row := fnExactRootOfRow, standIns := [], harness := (true, "f1af90a95778a86bb911ad5d9509184c7e5f8a24a46ff799aa8e21f06d2cbc91"), looks := false }, kinds := [], alts := [], laidByText := true, laidKinds := [.data], laidTests := true, laidLooks := .later }
def FnExactRootOfCardSaid : Prop := Claim7.holds Tryd.pinned (.plain (OpenSpec.ofChange fnExactRootOfSpec)) fnExactRootOfCard

/-- THE SECOND FORM's CARD OF 'laws.FnExactAreConjugate'. -/
def fnExactAreConjugateUptoCard : Claim7 := { stood := { row := fnExactAreConjugateUptoRow, standIns := [], harness := (true, "f1af90a95778a86bb911ad5d9509184c7e5f8a24a46ff799aa8e21f06d2cbc91"), looks := false }, kinds := [], alts := [], laidByText := true, laidKinds := [.data], laidTests := true, laidLooks := .later }
def FnExactAreConjugateUptoCardSaid : Prop := Claim7.holds Tryd.pinned (.plain (OpenSpec.upto fnExactAreConjugateSpec)) fnExactAreConjugateUptoCard

/-- THE SECOND FORM's CARD OF 'laws.FnExactJoinOf'. -/
def fnExactJoinOfUptoCard : Claim7 := { stood := { row := fnExactJoinOfUptoRow, standIns := [], harness := (true, "f1af90a95778a86bb911ad5d9509184c7e5f8a24a46ff799aa8e21f06d2cbc91"), looks := false }, kinds := [], alts := [], laidByText := true, laidKinds := [.data], laidTests := true, laidLooks := .later }
def FnExactJoinOfUptoCardSaid : Prop := Claim7.holds Tryd.pinned (.plain (OpenSpec.upto fnExactJoinOfSpec)) fnExactJoinOfUptoCard

/-- THE SECOND FORM's CARD OF 'laws.FnExactLongestChain'. -/
def fnExactLongestChainUptoCard : Claim7 := { stood := { row := fnExactLongestChainUptoRow, standIns := [], harness := (true, "f1af90a95778a86bb911ad5d9509184c7e5f8a24a46ff799aa8e21f06d2cbc91"), looks := false }, kinds := [], alts := [], laidByText := true, laidKinds := [.data], laidTests := true, laidLooks := .later }
def FnExactLongestChainUptoCardSaid : Prop := Claim7.holds Tryd.pinned (.plain (OpenSpec.upto fnExactLongestChainSpec)) fnExactLongestChainUptoCard

/-- THE SECOND FORM's CARD OF 'laws.FnFirstLetters'. -/
def fnFirstLettersUptoCard : Claim7 := { stood := { row := fnFirstLettersUptoRow, standIns := [], harness := (true, "f1af90a95778a86bb911ad5d9509184c7e5f8a24a46ff799aa8e21f06d2cbc91"), looks := false }, kinds := [], alts := [], laidByText := true, laidKinds := [.data], laidTests := true, laidLooks := .later }
def FnFirstLettersUptoCardSaid : Prop := Claim7.holds Tryd.pinned (.plain (OpenSpec.upto fnFirstLettersSpec)) fnFirstLettersUptoCard

/-- THE SECOND FORM's CARD OF 'laws.FnExactResidualAfter'. -/
def fnExactResidualAfterUptoCard : Claim7 := { stood := { row := fnExactResidualAfterUptoRow, standIns := [], harness := (true, "f1af90a95778a86bb911ad5d9509184c7e5f8a24a46ff799aa8e21f06d2cbc91"), looks := false }, kinds := [], alts := [], laidByText := true, laidKinds := [.data], laidTests := true, laidLooks := .later }
def FnExactResidualAfterUptoCardSaid : Prop := Claim7.holds Tryd.pinned (.plain (OpenSpec.upto fnExactResidualAfterSpec)) fnExactResidualAfterUptoCard

/-- THE SECOND FORM's CARD OF 'laws.FnExactPrefixAt'. -/
def fnExactPrefixAtUptoCard : Claim7 := { stood := { row := fnExactPrefixAtUptoRow, standIns := [], harness := (true, "f1af90a95778a86bb911ad5d9509184c7e5f8a24a46ff799aa8e21f06d2cbc91"), looks := false }, kinds := [], alts := [], laidByText := true, laidKinds := [.data], laidTests := true, laidLooks := .later }
def FnExactPrefixAtUptoCardSaid : Prop := Claim7.holds Tryd.pinned (.plain (OpenSpec.upto fnExactPrefixAtSpec)) fnExactPrefixAtUptoCard

/-- THE SECOND FORM's CARD OF 'laws.FnExactIsPrimitive'. -/
def fnExactIsPrimitiveUptoCard : Claim7 := { stood := { row := fnExactIsPrimitiveUptoRow, standIns := [], harness := (true, "f1af90a95778a86bb911ad5d9509184c7e5f8a24a46ff799aa8e21f06d2cbc91"), looks := false }, kinds := [], alts := [], laidByText := true, laidKinds := [.data], laidTests := true, laidLooks := .later }
def FnExactIsPrimitiveUptoCardSaid : Prop := Claim7.holds Tryd.pinned (.plain (OpenSpec.upto fnExactIsPrimitiveSpec)) fnExactIsPrimitiveUptoCard

/-- THE SECOND FORM's CARD OF 'laws.FnExactLeviOf'. -/
def fnExactLeviOfUptoCard : Claim7 := { stood := { row := fnExactLeviOfUptoRow, standIns := [], harness := (true, "f1af90a95778a86bb911ad5d9509184c7e5f8a24a46ff799aa8e21f06d2cbc91"), looks := false }, kinds := [], alts := [], laidByText := true, laidKinds := [.data], laidTests := true, laidLooks := .later }
def FnExactLeviOfUptoCardSaid : Prop := Claim7.holds Tryd.pinned (.plain (OpenSpec.upto fnExactLeviOfSpec)) fnExactLeviOfUptoCard

/-- THE SECOND FORM's CARD OF 'laws.FnExactLatestSteps'. -/
def fnExactLatestStepsUptoCard : Claim7 := { stood := { row := fnExactLatestStepsUptoRow, standIns := [], harness := (true, "f1af90a95778a86bb911ad5d9509184c7e5f8a24a46ff799aa8e21f06d2cbc91"), looks := false }, kinds := [], alts := [], laidByText := true, laidKinds := [.data], laidTests := true, laidLooks := .later }
def FnExactLatestStepsUptoCardSaid : Prop := Claim7.holds Tryd.pinned (.plain (OpenSpec.upto fnExactLatestStepsSpec)) fnExactLatestStepsUptoCard

/-- THE SECOND FORM's CARD OF 'laws.FnExactTraceComponents'. -/
def fnExactTraceComponentsUptoCard : Claim7 := { stood := { row := fnExactTraceComponentsUptoRow, standIns := [], harness := (true, "f1af90a95778a86bb911ad5d9509184c7e5f8a24a46ff799aa8e21f06d2cbc91"), looks := false }, kinds := [], alts := [], laidByText := true, laidKinds := [.data], laidTests := true, laidLooks := .later }
def FnExactTraceComponentsUptoCardSaid : Prop := Claim7.holds Tryd.pinned (.plain (OpenSpec.upto fnExactTraceComponentsSpec)) fnExactTraceComponentsUptoCard

/-- THE SECOND FORM's CARD OF 'laws.FnExactCommonContinuation'. -/
def fnExactCommonContinuationUptoCard : Claim7 := { stood := { row := fnExactCommonContinuationUptoRow, standIns := [], harness := (true, "f1af90a95778a86bb911ad5d9509184c7e5f8a24a46ff799aa8e21f06d2cbc91"), looks := false }, kinds := [], alts := [], laidByText := true, laidKinds := [.data], laidTests := true, laidLooks := .later }
def FnExactCommonContinuationUptoCardSaid : Prop := Claim7.holds Tryd.pinned (.plain (OpenSpec.upto fnExactCommonContinuationSpec)) fnExactCommonContinuationUptoCard

/-- THE SECOND FORM's CARD OF 'laws.FnExactRootOf'. -/
def fnExactRootOfUptoCard : Claim7 := { stood := { row := fnExactRootOfUptoRow, standIns := [], harness := (true, "f1af90a95778a86bb911ad5d9509184c7e5f8a24a46ff799aa8e21f06d2cbc91"), looks := false }, kinds := [], alts := [], laidByText := true, laidKinds := [.data], laidTests := true, laidLooks := .later }
def FnExactRootOfUptoCardSaid : Prop := Claim7.holds Tryd.pinned (.plain (OpenSpec.upto fnExactRootOfSpec)) fnExactRootOfUptoCard
end Rows
end Go.Proofs.YtfldlkeabglnfaaDoor
