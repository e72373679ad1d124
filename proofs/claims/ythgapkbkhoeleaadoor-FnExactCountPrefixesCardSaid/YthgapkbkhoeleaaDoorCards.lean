/-
  DERIVED. GIVEN WITH THE SEED: THE CARDS: each row of YthgapkbkhoeleaaDoorRows.lean that lists a variable, with what it lists TIED to the program's text (the seventh form; the later family's looks); each row that meets fmt, with fmt's text TOLD by the authors' own Lean function (tested against real Go, not proved from fmt's source: count such statements apart). THE CARD IS WHAT COUNTS. Prove the row's statement (the work); the ties are given (YthgapkbkhoeleaaDoorTie.lean); close each card by the builder's one call (the guide's Derived/Test/ToyasCard.lean, 'card_holds'). Laid BY PROGRAM, IN A SANDBOX (cutbox-door.mjs). By AI agents, Wed Nov 11 2026. No macro, syntax, notation, axiom, sorry.
-/
import Derived.Test.YthgapkbkhoeleaaDoorRows
import GoSem.ClaimSeven
namespace Go.Proofs.YthgapkbkhoeleaaDoor
namespace Rows

/-- THE TIED CARD OF 'laws.FnExactTraceComponents'. -/
def fnExactTraceComponentsCard : Claim7 := { stood := { row := fnExactTraceComponentsRow, standIns := [], harness := (true, "d535b3f1c6f40536f4c74c6e9ed0d046d9beac4e70c2c71f29566b3772069972"), looks := false }, kinds := [], alts := [], laidByText := true, laidKinds := [.data], laidTests := true, laidLooks := .later }
def FnExactTraceComponentsCardSaid : Prop := Claim7.holds Tryd.pinned (.plain (OpenSpec.ofChange fnExactTraceComponentsSpec)) fnExactTraceComponentsCard

/-- THE TIED CARD OF 'laws.FnExactLeviOf'. -/
def fnExactLeviOfCard : Claim7 := { stood := { row := fnExactLeviOfRow, standIns := [], harness := (true, "d535b3f1c6f40536f4c74c6e9ed0d046d9beac4e70c2c71f29566b3772069972"), looks := false }, kinds := [], alts := [], laidByText := true, laidKinds := [.data], laidTests := true, laidLooks := .later }
def FnExactLeviOfCardSaid : Prop := Claim7.holds Tryd.pinned (.plain (OpenSpec.ofChange fnExactLeviOfSpec)) fnExactLeviOfCard

/-- THE TIED CARD OF 'laws.FnExactCommonContinuation'. -/
def fnExactCommonContinuationCard : Claim7 := { stood := { row := fnExactCommonContinuationRow, standIns := [], harness := (true, "d535b3f1c6f40536f4c74c6e9ed0d046d9beac4e70c2c71f29566b3772069972"), looks := false }, kinds := [], alts := [], laidByText := true, laidKinds := [.data], laidTests := true, laidLooks := .later }
def FnExactCommonContinuationCardSaid : Prop := Claim7.holds Tryd.pinned (.plain (OpenSpec.ofChange fnExactCommonContinuationSpec)) fnExactCommonContinuationCard

/-- THE TIED CARD OF 'laws.FnExactTracesOfLength'. -/
def fnExactTracesOfLengthCard : Claim7 := { stood := { row := fnExactTracesOfLengthRow, standIns := [], harness := (true, "d535b3f1c6f40536f4c74c6e9ed0d046d9beac4e70c2c71f29566b3772069972"), looks := false }, kinds := [], alts := [], laidByText := true, laidKinds := [.data], laidTests := true, laidLooks := .later }
def FnExactTracesOfLengthCardSaid : Prop := Claim7.holds Tryd.pinned (.plain (OpenSpec.ofChange fnExactTracesOfLengthSpec)) fnExactTracesOfLengthCard

/-- THE TIED CARD OF 'laws.FnExactCountByHeight'. -/
def fnExactCountByHeightCard : Claim7 := { stood := { row := fnExactCountByHeightRow, standIns := [], harness := (true, "d535b3f1c6f40536f4c74c6e9ed0d046d9beac4e70c2c71f29566b3772069972"), looks := false }, kinds := [], alts := [], laidByText := true, laidKinds := [.data], laidTests := true, laidLooks := .later }
def FnExactCountByHeightCardSaid : Prop := Claim7.holds Tryd.pinned (.plain (OpenSpec.ofChange fnExactCountByHeightSpec)) fnExactCountByHeightCard

/-- THE TIED CARD OF 'laws.FnExactCountByFirst'. -/
def fnExactCountByFirstCard : Claim7 := { stood := { row := fnExactCountByFirstRow, standIns := [], harness := (true, "d535b3f1c6f40536f4c74c6e9ed0d046d9beac4e70c2c71f29566b3772069972"), looks := false }, kinds := [], alts := [], laidByText := true, laidKinds := [.data], laidTests := true, laidLooks := .later }
def FnExactCountByFirstCardSaid : Prop := Claim7.holds Tryd.pinned (.plain (OpenSpec.ofChange fnExactCountByFirstSpec)) fnExactCountByFirstCard

/-- THE TIED CARD OF 'laws.FnWidths'. -/
def fnWidthsCard : Claim7 := { stood := { row := fnWidthsRow, standIns := [], harness := (true, "d535b3f1c6f40536f4c74c6e9ed0d046d9beac4e70c2c71f29566b3772069972"), looks := false }, kinds := [], alts := [], laidByText := true, laidKinds := [.data], laidTests := true, laidLooks := .later }
def FnWidthsCardSaid : Prop := Claim7.holds Tryd.pinned (.plain (OpenSpec.ofChange fnWidthsSpec)) fnWidthsCard

/-- THE TIED CARD OF 'laws.FnLevi'. -/
def fnLeviCard : Claim7 := { stood := { row := fnLeviRow, standIns := [], harness := (true, "d535b3f1c6f40536f4c74c6e9ed0d046d9beac4e70c2c71f29566b3772069972"), looks := false }, kinds := [], alts := [], laidByText := true, laidKinds := [.data], laidTests := true, laidLooks := .later }
def FnLeviCardSaid : Prop := Claim7.holds Tryd.pinned (.plain (OpenSpec.ofChange fnLeviSpec)) fnLeviCard

/-- THE TIED CARD OF 'laws.FnProductCounts'. -/
def fnProductCountsCard : Claim7 := { stood := { row := fnProductCountsRow, standIns := [], harness := (true, "d535b3f1c6f40536f4c74c6e9ed0d046d9beac4e70c2c71f29566b3772069972"), looks := false }, kinds := [], alts := [], laidByText := true, laidKinds := [.data], laidTests := true, laidLooks := .later }
def FnProductCountsCardSaid : Prop := Claim7.holds Tryd.pinned (.plain (OpenSpec.ofChange fnProductCountsSpec)) fnProductCountsCard

/-- THE TIED CARD OF 'laws.FnExactLongestChain'. -/
def fnExactLongestChainCard : Claim7 := { stood := { row := fnExactLongestChainRow, standIns := [], harness := (true, "d535b3f1c6f40536f4c74c6e9ed0d046d9beac4e70c2c71f29566b3772069972"), looks := false }, kinds := [], alts := [], laidByText := true, laidKinds := [.data], laidTests := true, laidLooks := .later }
def FnExactLongestChainCardSaid : Prop := Claim7.holds Tryd.pinned (.plain (OpenSpec.ofChange fnExactLongestChainSpec)) fnExactLongestChainCard

/-- THE TIED CARD OF 'laws.FnExactCountPrefixes'. -/
def fnExactCountPrefixesCard : Claim7 := { stood := { row := fnExactCountPrefixesRow, standIns := [], harness := (true, "d535b3f1c6f40536f4c74c6e9ed0d046d9beac4e70c2c71f29566b3772069972"), looks := false }, kinds := [], alts := [], laidByText := true, laidKinds := [.data], laidTests := true, laidLooks := .later }
def FnExactCountPrefixesCardSaid : Prop := Claim7.holds Tryd.pinned (.plain (OpenSpec.ofChange fnExactCountPrefixesSpec)) fnExactCountPrefixesCard

/-- THE TIED CARD OF 'laws.FnHeights'. -/
def fnHeightsCard : Claim7 := { stood := { row := fnHeightsRow, standIns := [], harness := (true, "d535b3f1c6f40536f4c74c6e9ed0d046d9beac4e70c2c71f29566b3772069972"), looks := false }, kinds := [], alts := [], laidByText := true, laidKinds := [.data], laidTests := true, laidLooks := .later }
def FnHeightsCardSaid : Prop := Claim7.holds Tryd.pinned (.plain (OpenSpec.ofChange fnHeightsSpec)) fnHeightsCard

/-- THE SECOND FORM's CARD OF 'laws.FnExactTraceComponents'. -/
def fnExactTraceComponentsUptoCard : Claim7 := { stood := { row := fnExactTraceComponentsUptoRow, standIns := [], harness := (true, "d535b3f1c6f40536f4c74c6e9ed0d046d9beac4e70c2c71f29566b3772069972"), looks := false }, kinds := [], alts := [], laidByText := true, laidKinds := [.data], laidTests := true, laidLooks := .later }
def FnExactTraceComponentsUptoCardSaid : Prop := Claim7.holds Tryd.pinned (.plain (OpenSpec.upto fnExactTraceComponentsSpec)) fnExactTraceComponentsUptoCard

/-- THE SECOND FORM's CARD OF 'laws.FnExactLeviOf'. -/
def fnExactLeviOfUptoCard : Claim7 := { stood := { row := fnExactLeviOfUptoRow, standIns := [], harness := (true, "d535b3f1c6f40536f4c74c6e9ed0d046d9beac4e70c2c71f29566b3772069972"), looks := false }, kinds := [], alts := [], laidByText := true, laidKinds := [.data], laidTests := true, laidLooks := .later }
def FnExactLeviOfUptoCardSaid : Prop := Claim7.holds Tryd.pinned (.plain (OpenSpec.upto fnExactLeviOfSpec)) fnExactLeviOfUptoCard

/-- THE SECOND FORM's CARD OF 'laws.FnExactCommonContinuation'. -/
def fnExactCommonContinuationUptoCard : Claim7 := { stood := { row := fnExactCommonContinuationUptoRow, standIns := [], harness := (true, "d535b3f1c6f40536f4c74c6e9ed0d046d9beac4e70c2c71f29566b3772069972"), looks := false }, kinds := [], alts := [], laidByText := true, laidKinds := [.data], laidTests := true, laidLooks := .later }
def FnExactCommonContinuationUptoCardSaid : Prop := Claim7.holds Tryd.pinned (.plain (OpenSpec.upto fnExactCommonContinuationSpec)) fnExactCommonContinuationUptoCard

/-- THE SECOND FORM's CARD OF 'laws.FnExactTracesOfLength'. -/
def fnExactTracesOfLengthUptoCard : Claim7 := { stood := { row := fnExactTracesOfLengthUptoRow, standIns := [], harness := (true, "d535b3f1c6f40536f4c74c6e9ed0d046d9beac4e70c2c71f29566b3772069972"), looks := false }, kinds := [], alts := [], laidByText := true, laidKinds := [.data], laidTests := true, laidLooks := .later }
def FnExactTracesOfLengthUptoCardSaid : Prop := Claim7.holds Tryd.pinned (.plain (OpenSpec.upto fnExactTracesOfLengthSpec)) fnExactTracesOfLengthUptoCard

/-- THE SECOND FORM's CARD OF 'laws.FnExactCountByHeight'. -/
def fnExactCountByHeightUptoCard : Claim7 := { stood := { row := fnExactCountByHeightUptoRow, standIns := [], harness := (true, "d535b3f1c6f40536f4c74c6e9ed0d046d9beac4e70c2c71f29566b3772069972"), looks := false }, kinds := [], alts := [], laidByText := true, laidKinds := [.data], laidTests := true, laidLooks := .later }
def FnExactCountByHeightUptoCardSaid : Prop := Claim7.holds Tryd.pinned (.plain (OpenSpec.upto fnExactCountByHeightSpec)) fnExactCountByHeightUptoCard

/-- THE SECOND FORM's CARD OF 'laws.FnExactCountByFirst'. -/
def fnExactCountByFirstUptoCard : Claim7 := { stood := { row := fnExactCountByFirstUptoRow, standIns := [], harness := (true, "d535b3f1c6f40536f4c74c6e9ed0d046d9beac4e70c2c71f29566b3772069972"), looks := false }, kinds := [], alts := [], laidByText := true, laidKinds := [.data], laidTests := true, laidLooks := .later }
def FnExactCountByFirstUptoCardSaid : Prop := Claim7.holds Tryd.pinned (.plain (OpenSpec.upto fnExactCountByFirstSpec)) fnExactCountByFirstUptoCard

/-- THE SECOND FORM's CARD OF 'laws.FnWidths'. -/
def fnWidthsUptoCard : Claim7 := { stood := { row := fnWidthsUptoRow, standIns := [], harness := (true, "d535b3f1c6f40536f4c74c6e9ed0d046d9beac4e70c2c71f29566b3772069972"), looks := false }, kinds := [], alts := [], laidByText := true, laidKinds := [.data], laidTests := true, laidLooks := .later }
def FnWidthsUptoCardSaid : Prop := Claim7.holds Tryd.pinned (.plain (OpenSpec.upto fnWidthsSpec)) fnWidthsUptoCard

/-- THE SECOND FORM's CARD OF 'laws.FnLevi'. -/
def fnLeviUptoCard : Claim7 := { stood := { row := fnLeviUptoRow, standIns := [], harness := (true, "d535b3f1c6f40536f4c74c6e9ed0d046d9beac4e70c2c71f29566b3772069972"), looks := false }, kinds := [], alts := [], laidByText := true, laidKinds := [.data], laidTests := true, laidLooks := .later }
def FnLeviUptoCardSaid : Prop := Claim7.holds Tryd.pinned (.plain (OpenSpec.upto fnLeviSpec)) fnLeviUptoCard

/-- THE SECOND FORM's CARD OF 'laws.FnProductCounts'. -/
def fnProductCountsUptoCard : Claim7 := { stood := { row := fnProductCountsUptoRow, standIns := [], harness := (true, "d535b3f1c6f40536f4c74c6e9ed0d046d9beac4e70c2c71f29566b3772069972"), looks := false }, kinds := [], alts := [], laidByText := true, laidKinds := [.data], laidTests := true, laidLooks := .later }
def FnProductCountsUptoCardSaid : Prop := Claim7.holds Tryd.pinned (.plain (OpenSpec.upto fnProductCountsSpec)) fnProductCountsUptoCard

/-- THE SECOND FORM's CARD OF 'laws.FnExactLongestChain'. -/
def fnExactLongestChainUptoCard : Claim7 := { stood := { row := fnExactLongestChainUptoRow, standIns := [], harness := (true, "d535b3f1c6f40536f4c74c6e9ed0d046d9beac4e70c2c71f29566b3772069972"), looks := false }, kinds := [], alts := [], laidByText := true, laidKinds := [.data], laidTests := true, laidLooks := .later }
def FnExactLongestChainUptoCardSaid : Prop := Claim7.holds Tryd.pinned (.plain (OpenSpec.upto fnExactLongestChainSpec)) fnExactLongestChainUptoCard

/-- THE SECOND FORM's CARD OF 'laws.FnExactCountPrefixes'. -/
def fnExactCountPrefixesUptoCard : Claim7 := { stood := { row := fnExactCountPrefixesUptoRow, standIns := [], harness := (true, "d535b3f1c6f40536f4c74c6e9ed0d046d9beac4e70c2c71f29566b3772069972"), looks := false }, kinds := [], alts := [], laidByText := true, laidKinds := [.data], laidTests := true, laidLooks := .later }
def FnExactCountPrefixesUptoCardSaid : Prop := Claim7.holds Tryd.pinned (.plain (OpenSpec.upto fnExactCountPrefixesSpec)) fnExactCountPrefixesUptoCard

/-- THE SECOND FORM's CARD OF 'laws.FnHeights'. -/
def fnHeightsUptoCard : Claim7 := { stood := { row := fnHeightsUptoRow, standIns := [], harness := (true, "d535b3f1c6f40536f4c74c6e9ed0d046d9beac4e70c2c71f29566b3772069972"), looks := false }, kinds := [], alts := [], laidByText := true, laidKinds := [.data], laidTests := true, laidLooks := .later }
def FnHeightsUptoCardSaid : Prop := Claim7.holds Tryd.pinned (.plain (OpenSpec.upto fnHeightsSpec)) fnHeightsUptoCard
end Rows
end Go.Proofs.YthgapkbkhoeleaaDoor
