/-
  DERIVED. GIVEN WITH THE SEED: THE CARDS: each row of YtfnnnopbcdiibaaDoorRows.lean that lists a variable, with what it lists TIED to the program's text (the seventh form; the later family's looks); each row that meets fmt, with fmt's text TOLD by the authors' own Lean function (tested against real Go, not proved from fmt's source: count such statements apart). THE CARD IS WHAT COUNTS. Prove the row's statement (the work); the ties are given (YtfnnnopbcdiibaaDoorTie.lean); close each card by the builder's one call (the guide's Derived/Test/ToyasCard.lean, 'card_holds'). Laid BY PROGRAM, IN A SANDBOX (cutbox-door.mjs). By AI agents, Wed Nov 11 2026. No macro, syntax, notation, axiom, sorry.
-/
import Derived.Test.YtfnnnopbcdiibaaDoorRows
import GoSem.ClaimSeven
namespace Go.Proofs.YtfnnnopbcdiibaaDoor
namespace Rows

/-- THE TIED CARD OF 'laws.FnExactPowerOf'. -/
def fnExactPowerOfCard : Claim7 := { stood := { row := fnExactPowerOfRow, standIns := [], harness := (true, "10823ded5a3a7d9621562ad2661afe7229cda47915ef6024fac29dd267dc02ce"), looks := false }, kinds := [], alts := [], laidByText := true, laidKinds := [.data], laidTests := true, laidLooks := .later }
def FnExactPowerOfCardSaid : Prop := Claim7.holds Tryd.pinned (.plain (OpenSpec.ofChange fnExactPowerOfSpec)) fnExactPowerOfCard

/-- THE TIED CARD OF 'laws.FnExactLongestChain'. -/
def fnExactLongestChainCard : Claim7 := { stood := { row := fnExactLongestChainRow, standIns := [], harness := (true, "10823ded5a3a7d9621562ad2661afe7229cda47915ef6024fac29dd267dc02ce"), looks := false }, kinds := [], alts := [], laidByText := true, laidKinds := [.data], laidTests := true, laidLooks := .later }
def FnExactLongestChainCardSaid : Prop := Claim7.holds Tryd.pinned (.plain (OpenSpec.ofChange fnExactLongestChainSpec)) fnExactLongestChainCard

/-- THE TIED CARD OF 'laws.FnExactIsPrimitive'. -/
def fnExactIsPrimitiveCard : Claim7 := { stood := { row := fnExactIsPrimitiveRow, standIns := [], harness := (true, "10823ded5a3a7d9621562ad2661afe7229cda47915ef6024fac29dd267dc02ce"), looks := false }, kinds := [], alts := [], laidByText := true, laidKinds := [.data], laidTests := true, laidLooks := .later }
def FnExactIsPrimitiveCardSaid : Prop := Claim7.holds Tryd.pinned (.plain (OpenSpec.ofChange fnExactIsPrimitiveSpec)) fnExactIsPrimitiveCard

/-- THE TIED CARD OF 'laws.FnExactRootOf'. -/
def fnExactRootOfCard : Claim7 := { stood := { row := fnExactRootOfRow, standIns := [], harness := (true, "10823ded5a3a7d9621562ad2661afe7229cda47915ef6024fac29dd267dc02ce"), looks := false }, kinds := [], alts := [], laidByText := true, laidKinds := [.data], laidTests := true, laidLooks := .later }
def FnExactRootOfCardSaid : Prop := Claim7.holds Tryd.pinned (.plain (OpenSpec.ofChange fnExactRootOfSpec)) fnExactRootOfCard

/-- THE TIED CARD OF 'laws.FnExactLeviOf'. -/
def fnExactLeviOfCard : Claim7 := { stood := { row := fnExactLeviOfRow, standIns := [], harness := (true, "10823ded5a3a7d9621562ad2661afe7229cda47915ef6024fac29dd267dc02ce"), looks := false }, kinds := [], alts := [], laidByText := true, laidKinds := [.data], laidTests := true, laidLooks := .later }
def FnExactLeviOfCardSaid : Prop := Claim7.holds Tryd.pinned (.plain (OpenSpec.ofChange fnExactLeviOfSpec)) fnExactLeviOfCard

/-- THE TIED CARD OF 'laws.FnExactTraceComponents'. -/
def fnExactTraceComponentsCard : Claim7 := { stood := { row := fnExactTraceComponentsRow, standIns := [], harness := (true, "10823ded5a3a7d9621562ad2661afe7229cda47915ef6024fac29dd267dc02ce"), looks := false }, kinds := [], alts := [], laidByText := true, laidKinds := [.data], laidTests := true, laidLooks := .later }
def FnExactTraceComponentsCardSaid : Prop := Claim7.holds Tryd.pinned (.plain (OpenSpec.ofChange fnExactTraceComponentsSpec)) fnExactTraceComponentsCard

/-- THE TIED CARD OF 'laws.FnExactCommonContinuation'. -/
def fnExactCommonContinuationCard : Claim7 := { stood := { row := fnExactCommonContinuationRow, standIns := [], harness := (true, "10823ded5a3a7d9621562ad2661afe7229cda47915ef6024fac29dd267dc02ce"), looks := false }, kinds := [], alts := [], laidByText := true, laidKinds := [.data], laidTests := true, laidLooks := .later }
def FnExactCommonContinuationCardSaid : Prop := Claim7.holds Tryd.pinned (.plain (OpenSpec.ofChange fnExactCommonContinuationSpec)) fnExactCommonContinuationCard

/-- THE TIED CARD OF 'laws.FnExactAreConjugate'. -/
def fnExactAreConjugateCard : Claim7 := { stood := { row := fnExactAreConjugateRow, standIns := [], harness := (true, "10823ded5a3a7d9621562ad2661afe7229cda47915ef6024fac29dd267dc02ce"), looks := false }, kinds := [], alts := [], laidByText := true, laidKinds := [.data], laidTests := true, laidLooks := .later }
def FnExactAreConjugateCardSaid : Prop := Claim7.holds Tryd.pinned (.plain (OpenSpec.ofChange fnExactAreConjugateSpec)) fnExactAreConjugateCard

/-- THE TIED CARD OF 'laws.FnExactConjugatorOf'. -/
def fnExactConjugatorOfCard : Claim7 := { stood := { row := fnExactConjugatorOfRow, standIns := [], harness := (true, "10823ded5a3a7d9621562ad2661afe7229cda47915ef6024fac29dd267dc02ce"), looks := false }, kinds := [], alts := [], laidByText := true, laidKinds := [.data], laidTests := true, laidLooks := .later }
def FnExactConjugatorOfCardSaid : Prop := Claim7.holds Tryd.pinned (.plain (OpenSpec.ofChange fnExactConjugatorOfSpec)) fnExactConjugatorOfCard

/-- THE TIED CARD OF 'laws.FnExactCountPrefixes'. -/
def fnExactCountPrefixesCard : Claim7 := { stood := { row := fnExactCountPrefixesRow, standIns := [], harness := (true, "10823ded5a3a7d9621562ad2661afe7229cda47915ef6024fac29dd267dc02ce"), looks := false }, kinds := [], alts := [], laidByText := true, laidKinds := [.data], laidTests := true, laidLooks := .later }
def FnExactCountPrefixesCardSaid : Prop := Claim7.holds Tryd.pinned (.plain (OpenSpec.ofChange fnExactCountPrefixesSpec)) fnExactCountPrefixesCard

/-- THE TIED CARD OF 'laws.FnExactCliquePolynomial'. -/
def fnExactCliquePolynomialCard : Claim7 := { stood := { row := fnExactCliquePolynomialRow, standIns := [], harness := (true, "10823ded5a3a7d9621562ad2661afe7229cda47915ef6024fac29dd267dc02ce"), looks := false }, kinds := [], alts := [], laidByText := true, laidKinds := [.data], laidTests := true, laidLooks := .later }
def FnExactCliquePolynomialCardSaid : Prop := Claim7.holds Tryd.pinned (.plain (OpenSpec.ofChange fnExactCliquePolynomialSpec)) fnExactCliquePolynomialCard

/-- THE TIED CARD OF 'laws.FnExactCountTraces'. -/
def fnExactCountTracesCard : Claim7 := { stood := { row := fnExactCountTracesRow, standIns := [], harness := (true, "10823ded5a3a7d9621562ad2661afe7229cda47915ef6024fac29dd267dc02ce"), looks := false }, kinds := [], alts := [], laidByText := true, laidKinds := [.data], laidTests := true, laidLooks := .later }
def FnExactCountTracesCardSaid : Prop := Claim7.holds Tryd.pinned (.plain (OpenSpec.ofChange fnExactCountTracesSpec)) fnExactCountTracesCard

/-- THE SECOND FORM's CARD OF 'laws.FnExactPowerOf'. -/
def fnExactPowerOfUptoCard : Claim7 := { stood := { row := fnExactPowerOfUptoRow, standIns := [], harness := (true, "10823ded5a3a7d9621562ad2661afe7229cda47915ef6024fac29dd267dc02ce"), looks := false }, kinds := [], alts := [], laidByText := true, laidKinds := [.data], laidTests := true, laidLooks := .later }
def FnExactPowerOfUptoCardSaid : Prop := Claim7.holds Tryd.pinned (.plain (OpenSpec.upto fnExactPowerOfSpec)) fnExactPowerOfUptoCard

/-- THE SECOND FORM's CARD OF 'laws.FnExactLongestChain'. -/
def fnExactLongestChainUptoCard : Claim7 := { stood := { row := fnExactLongestChainUptoRow, standIns := [], harness := (true, "10823ded5a3a7d9621562ad2661afe7229cda47915ef6024fac29dd267dc02ce"), looks := false }, kinds := [], alts := [], laidByText := true, laidKinds := [.data], laidTests := true, laidLooks := .later }
def FnExactLongestChainUptoCardSaid : Prop := Claim7.holds Tryd.pinned (.plain (OpenSpec.upto fnExactLongestChainSpec)) fnExactLongestChainUptoCard

/-- THE SECOND FORM's CARD OF 'laws.FnExactIsPrimitive'. -/
def fnExactIsPrimitiveUptoCard : Claim7 := { stood := { row := fnExactIsPrimitiveUptoRow, standIns := [], harness := (true, "10823ded5a3a7d9621562ad2661afe7229cda47915ef6024fac29dd267dc02ce"), looks := false }, kinds := [], alts := [], laidByText := true, laidKinds := [.data], laidTests := true, laidLooks := .later }
def FnExactIsPrimitiveUptoCardSaid : Prop := Claim7.holds Tryd.pinned (.plain (OpenSpec.upto fnExactIsPrimitiveSpec)) fnExactIsPrimitiveUptoCard

/-- THE SECOND FORM's CARD OF 'laws.FnExactRootOf'. -/
def fnExactRootOfUptoCard : Claim7 := { stood := { row := fnExactRootOfUptoRow, standIns := [], harness := (true, "10823ded5a3a7d9621562ad2661afe7229cda47915ef6024fac29dd267dc02ce"), looks := false }, kinds := [], alts := [], laidByText := true, laidKinds := [.data], laidTests := true, laidLooks := .later }
def FnExactRootOfUptoCardSaid : Prop := Claim7.holds Tryd.pinned (.plain (OpenSpec.upto fnExactRootOfSpec)) fnExactRootOfUptoCard

/-- THE SECOND FORM's CARD OF 'laws.FnExactLeviOf'. -/
def fnExactLeviOfUptoCard : Claim7 := { stood := { row := fnExactLeviOfUptoRow, standIns := [], harness := (true, "10823ded5a3a7d9621562ad2661afe7229cda47915ef6024fac29dd267dc02ce"), looks := false }, kinds := [], alts := [], laidByText := true, laidKinds := [.data], laidTests := true, laidLooks := .later }
def FnExactLeviOfUptoCardSaid : Prop := Claim7.holds Tryd.pinned (.plain (OpenSpec.upto fnExactLeviOfSpec)) fnExactLeviOfUptoCard

/-- THE SECOND FORM's CARD OF 'laws.FnExactTraceComponents'. -/
def fnExactTraceComponentsUptoCard : Claim7 := { stood := { row := fnExactTraceComponentsUptoRow, standIns := [], harness := (true, "10823ded5a3a7d9621562ad2661afe7229cda47915ef6024fac29dd267dc02ce"), looks := false }, kinds := [], alts := [], laidByText := true, laidKinds := [.data], laidTests := true, laidLooks := .later }
def FnExactTraceComponentsUptoCardSaid : Prop := Claim7.holds Tryd.pinned (.plain (OpenSpec.upto fnExactTraceComponentsSpec)) fnExactTraceComponentsUptoCard

/-- THE SECOND FORM's CARD OF 'laws.FnExactCommonContinuation'. -/
def fnExactCommonContinuationUptoCard : Claim7 := { stood := { row := fnExactCommonContinuationUptoRow, standIns := [], harness := (true, "10823ded5a3a7d9621562ad2661afe7229cda47915ef6024fac29dd267dc02ce"), looks := false }, kinds := [], alts := [], laidByText := true, laidKinds := [.data], laidTests := true, laidLooks := .later }
def FnExactCommonContinuationUptoCardSaid : Prop := Claim7.holds Tryd.pinned (.plain (OpenSpec.upto fnExactCommonContinuationSpec)) fnExactCommonContinuationUptoCard

/-- THE SECOND FORM's CARD OF 'laws.FnExactAreConjugate'. -/
def fnExactAreConjugateUptoCard : Claim7 := { stood := { row := fnExactAreConjugateUptoRow, standIns := [], harness := (true, "10823ded5a3a7d9621562ad2661afe7229cda47915ef6024fac29dd267dc02ce"), looks := false }, kinds := [], alts := [], laidByText := true, laidKinds := [.data], laidTests := true, laidLooks := .later }
def FnExactAreConjugateUptoCardSaid : Prop := Claim7.holds Tryd.pinned (.plain (OpenSpec.upto fnExactAreConjugateSpec)) fnExactAreConjugateUptoCard

/-- THE SECOND FORM's CARD OF 'laws.FnExactConjugatorOf'. -/
def fnExactConjugatorOfUptoCard : Claim7 := { stood := { row := fnExactConjugatorOfUptoRow, standIns := [], harness := (true, "10823ded5a3a7d9621562ad2661afe7229cda47915ef6024fac29dd267dc02ce"), looks := false }, kinds := [], alts := [], laidByText := true, laidKinds := [.data], laidTests := true, laidLooks := .later }
def FnExactConjugatorOfUptoCardSaid : Prop := Claim7.holds Tryd.pinned (.plain (OpenSpec.upto fnExactConjugatorOfSpec)) fnExactConjugatorOfUptoCard

/-- THE SECOND FORM's CARD OF 'laws.FnExactCountPrefixes'. -/
def fnExactCountPrefixesUptoCard : Claim7 := { stood := { row := fnExactCountPrefixesUptoRow, standIns := [], harness := (true, "10823ded5a3a7d9621562ad2661afe7229cda47915ef6024fac29dd267dc02ce"), looks := false }, kinds := [], alts := [], laidByText := true, laidKinds := [.data], laidTests := true, laidLooks := .later }
def FnExactCountPrefixesUptoCardSaid : Prop := Claim7.holds Tryd.pinned (.plain (OpenSpec.upto fnExactCountPrefixesSpec)) fnExactCountPrefixesUptoCard

/-- THE SECOND FORM's CARD OF 'laws.FnExactCliquePolynomial'. -/
def fnExactCliquePolynomialUptoCard : Claim7 := { stood := { row := fnExactCliquePolynomialUptoRow, standIns := [], harness := (true, "10823ded5a3a7d9621562ad2661afe7229cda47915ef6024fac29dd267dc02ce"), looks := false }, kinds := [], alts := [], laidByText := true, laidKinds := [.data], laidTests := true, laidLooks := .later }
def FnExactCliquePolynomialUptoCardSaid : Prop := Claim7.holds Tryd.pinned (.plain (OpenSpec.upto fnExactCliquePolynomialSpec)) fnExactCliquePolynomialUptoCard

/-- THE SECOND FORM's CARD OF 'laws.FnExactCountTraces'. -/
def fnExactCountTracesUptoCard : Claim7 := { stood := { row := fnExactCountTracesUptoRow, standIns := [], harness := (true, "10823ded5a3a7d9621562ad2661afe7229cda47915ef6024fac29dd267dc02ce"), looks := false }, kinds := [], alts := [], laidByText := true, laidKinds := [.data], laidTests := true, laidLooks := .later }
def FnExactCountTracesUptoCardSaid : Prop := Claim7.holds Tryd.pinned (.plain (OpenSpec.upto fnExactCountTracesSpec)) fnExactCountTracesUptoCard
end Rows
end Go.Proofs.YtfnnnopbcdiibaaDoor
