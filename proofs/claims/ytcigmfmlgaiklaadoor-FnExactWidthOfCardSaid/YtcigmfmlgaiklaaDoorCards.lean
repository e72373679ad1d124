/-
  DERIVED. GIVEN WITH THE SEED: THE CARDS: each row of YtcigmfmlgaiklaaDoorRows.lean that lists a variable, with what it lists TIED to the program's text (the seventh form; the later family's looks); each row that meets fmt, with fmt's text TOLD by the authors' own Lean function (tested against real Go, not proved from fmt's source: count such statements apart). THE CARD IS WHAT COUNTS. Prove the row's statement (the work); the ties are given (YtcigmfmlgaiklaaDoorTie.lean); close each card by the builder's one call (the guide's Derived/Test/ToyasCard.lean, 'card_holds'). Laid BY PROGRAM, IN A SANDBOX (cutbox-door.mjs). By AI agents, Wed Nov 11 2026. No macro, syntax, notation, axiom, sorry.
-/
import Derived.Test.YtcigmfmlgaiklaaDoorRows
import GoSem.ClaimSeven
namespace Go.Proofs.YtcigmfmlgaiklaaDoor
namespace Rows

/-- THE TIED CARD OF 'laws.FnExactPrefixIn'. -/
def fnExactPrefixInCard : Claim7 := { stood := { row := fnExactPrefixInRow, standIns := [], harness := (true, "cfe4d19eaacc9cdc05665d7ae91c8ef1d6a0b2b548365f28de62ba569d598f7a"), looks := false }, kinds := [], alts := [], laidByText := true, laidKinds := [.data], laidTests := true, laidLooks := .later }
def FnExactPrefixInCardSaid : Prop := Claim7.holds Tryd.pinned (.plain (OpenSpec.ofChange fnExactPrefixInSpec)) fnExactPrefixInCard

/-- THE TIED CARD OF 'laws.FnExactCountPrefixes'. -/
def fnExactCountPrefixesCard : Claim7 := { stood := { row := fnExactCountPrefixesRow, standIns := [], harness := (true, "cfe4d19eaacc9cdc05665d7ae91c8ef1d6a0b2b548365f28de62ba569d598f7a"), looks := false }, kinds := [], alts := [], laidByText := true, laidKinds := [.data], laidTests := true, laidLooks := .later }
def FnExactCountPrefixesCardSaid : Prop := Claim7.holds Tryd.pinned (.plain (OpenSpec.ofChange fnExactCountPrefixesSpec)) fnExactCountPrefixesCard

/-- THE TIED CARD OF 'laws.FnExactRightQuotient'. -/
def fnExactRightQuotientCard : Claim7 := { stood := { row := fnExactRightQuotientRow, standIns := [], harness := (true, "cfe4d19eaacc9cdc05665d7ae91c8ef1d6a0b2b548365f28de62ba569d598f7a"), looks := false }, kinds := [], alts := [], laidByText := true, laidKinds := [.data], laidTests := true, laidLooks := .later }
def FnExactRightQuotientCardSaid : Prop := Claim7.holds Tryd.pinned (.plain (OpenSpec.ofChange fnExactRightQuotientSpec)) fnExactRightQuotientCard

/-- THE TIED CARD OF 'laws.FnExactNextTrace'. -/
def fnExactNextTraceCard : Claim7 := { stood := { row := fnExactNextTraceRow, standIns := [], harness := (true, "cfe4d19eaacc9cdc05665d7ae91c8ef1d6a0b2b548365f28de62ba569d598f7a"), looks := false }, kinds := [], alts := [], laidByText := true, laidKinds := [.data], laidTests := true, laidLooks := .later }
def FnExactNextTraceCardSaid : Prop := Claim7.holds Tryd.pinned (.plain (OpenSpec.ofChange fnExactNextTraceSpec)) fnExactNextTraceCard

/-- THE TIED CARD OF 'laws.FnExactOrderOf'. -/
def fnExactOrderOfCard : Claim7 := { stood := { row := fnExactOrderOfRow, standIns := [], harness := (true, "cfe4d19eaacc9cdc05665d7ae91c8ef1d6a0b2b548365f28de62ba569d598f7a"), looks := false }, kinds := [], alts := [], laidByText := true, laidKinds := [.data], laidTests := true, laidLooks := .later }
def FnExactOrderOfCardSaid : Prop := Claim7.holds Tryd.pinned (.plain (OpenSpec.ofChange fnExactOrderOfSpec)) fnExactOrderOfCard

/-- THE TIED CARD OF 'laws.FnExactPastOf'. -/
def fnExactPastOfCard : Claim7 := { stood := { row := fnExactPastOfRow, standIns := [], harness := (true, "cfe4d19eaacc9cdc05665d7ae91c8ef1d6a0b2b548365f28de62ba569d598f7a"), looks := false }, kinds := [], alts := [], laidByText := true, laidKinds := [.data], laidTests := true, laidLooks := .later }
def FnExactPastOfCardSaid : Prop := Claim7.holds Tryd.pinned (.plain (OpenSpec.ofChange fnExactPastOfSpec)) fnExactPastOfCard

/-- THE TIED CARD OF 'laws.FnExactPowerOf'. -/
def fnExactPowerOfCard : Claim7 := { stood := { row := fnExactPowerOfRow, standIns := [], harness := (true, "cfe4d19eaacc9cdc05665d7ae91c8ef1d6a0b2b548365f28de62ba569d598f7a"), looks := false }, kinds := [], alts := [], laidByText := true, laidKinds := [.data], laidTests := true, laidLooks := .later }
def FnExactPowerOfCardSaid : Prop := Claim7.holds Tryd.pinned (.plain (OpenSpec.ofChange fnExactPowerOfSpec)) fnExactPowerOfCard

/-- THE TIED CARD OF 'laws.FnExactWidthOf'. -/
def fnExactWidthOfCard : Claim7 := { stood := { row := fnExactWidthOfRow, standIns := [], harness := (true, "cfe4d19eaacc9cdc05665d7ae91c8ef1d6a0b2b548365f28de62ba569d598f7a"), looks := false }, kinds := [], alts := [], laidByText := true, laidKinds := [.data], laidTests := true, laidLooks := .later }
def FnExactWidthOfCardSaid : Prop := Claim7.holds Tryd.pinned (.plain (OpenSpec.ofChange fnExactWidthOfSpec)) fnExactWidthOfCard

/-- THE TIED CARD OF 'laws.FnExactConcurrentWith'. -/
def fnExactConcurrentWithCard : Claim7 := { stood := { row := fnExactConcurrentWithRow, standIns := [], harness := (true, "cfe4d19eaacc9cdc05665d7ae91c8ef1d6a0b2b548365f28de62ba569d598f7a"), looks := false }, kinds := [], alts := [], laidByText := true, laidKinds := [.data], laidTests := true, laidLooks := .later }
def FnExactConcurrentWithCardSaid : Prop := Claim7.holds Tryd.pinned (.plain (OpenSpec.ofChange fnExactConcurrentWithSpec)) fnExactConcurrentWithCard

/-- THE TIED CARD OF 'laws.FnExactIsConnectedTrace'. -/
def fnExactIsConnectedTraceCard : Claim7 := { stood := { row := fnExactIsConnectedTraceRow, standIns := [], harness := (true, "cfe4d19eaacc9cdc05665d7ae91c8ef1d6a0b2b548365f28de62ba569d598f7a"), looks := false }, kinds := [], alts := [], laidByText := true, laidKinds := [.data], laidTests := true, laidLooks := .later }
def FnExactIsConnectedTraceCardSaid : Prop := Claim7.holds Tryd.pinned (.plain (OpenSpec.ofChange fnExactIsConnectedTraceSpec)) fnExactIsConnectedTraceCard

/-- THE SECOND FORM's CARD OF 'laws.FnExactPrefixIn'. -/
def fnExactPrefixInUptoCard : Claim7 := { stood := { row := fnExactPrefixInUptoRow, standIns := [], harness := (true, "cfe4d19eaacc9cdc05665d7ae91c8ef1d6a0b2b548365f28de62ba569d598f7a"), looks := false }, kinds := [], alts := [], laidByText := true, laidKinds := [.data], laidTests := true, laidLooks := .later }
def FnExactPrefixInUptoCardSaid : Prop := Claim7.holds Tryd.pinned (.plain (OpenSpec.upto fnExactPrefixInSpec)) fnExactPrefixInUptoCard

/-- THE SECOND FORM's CARD OF 'laws.FnExactCountPrefixes'. -/
def fnExactCountPrefixesUptoCard : Claim7 := { stood := { row := fnExactCountPrefixesUptoRow, standIns := [], harness := (true, "cfe4d19eaacc9cdc05665d7ae91c8ef1d6a0b2b548365f28de62ba569d598f7a"), looks := false }, kinds := [], alts := [], laidByText := true, laidKinds := [.data], laidTests := true, laidLooks := .later }
def FnExactCountPrefixesUptoCardSaid : Prop := Claim7.holds Tryd.pinned (.plain (OpenSpec.upto fnExactCountPrefixesSpec)) fnExactCountPrefixesUptoCard

/-- THE SECOND FORM's CARD OF 'laws.FnExactRightQuotient'. -/
def fnExactRightQuotientUptoCard : Claim7 := { stood := { row := fnExactRightQuotientUptoRow, standIns := [], harness := (true, "cfe4d19eaacc9cdc05665d7ae91c8ef1d6a0b2b548365f28de62ba569d598f7a"), looks := false }, kinds := [], alts := [], laidByText := true, laidKinds := [.data], laidTests := true, laidLooks := .later }
def FnExactRightQuotientUptoCardSaid : Prop := Claim7.holds Tryd.pinned (.plain (OpenSpec.upto fnExactRightQuotientSpec)) fnExactRightQuotientUptoCard

/-- THE SECOND FORM's CARD OF 'laws.FnExactNextTrace'. -/
def fnExactNextTraceUptoCard : Claim7 := { stood := { row := fnExactNextTraceUptoRow, standIns := [], harness := (true, "cfe4d19eaacc9cdc05665d7ae91c8ef1d6a0b2b548365f28de62ba569d598f7a"), looks := false }, kinds := [], alts := [], laidByText := true, laidKinds := [.data], laidTests := true, laidLooks := .later }
def FnExactNextTraceUptoCardSaid : Prop := Claim7.holds Tryd.pinned (.plain (OpenSpec.upto fnExactNextTraceSpec)) fnExactNextTraceUptoCard

/-- THE SECOND FORM's CARD OF 'laws.FnExactOrderOf'. -/
def fnExactOrderOfUptoCard : Claim7 := { stood := { row := fnExactOrderOfUptoRow, standIns := [], harness := (true, "cfe4d19eaacc9cdc05665d7ae91c8ef1d6a0b2b548365f28de62ba569d598f7a"), looks := false }, kinds := [], alts := [], laidByText := true, laidKinds := [.data], laidTests := true, laidLooks := .later }
def FnExactOrderOfUptoCardSaid : Prop := Claim7.holds Tryd.pinned (.plain (OpenSpec.upto fnExactOrderOfSpec)) fnExactOrderOfUptoCard

/-- THE SECOND FORM's CARD OF 'laws.FnExactPastOf'. -/
def fnExactPastOfUptoCard : Claim7 := { stood := { row := fnExactPastOfUptoRow, standIns := [], harness := (true, "cfe4d19eaacc9cdc05665d7ae91c8ef1d6a0b2b548365f28de62ba569d598f7a"), looks := false }, kinds := [], alts := [], laidByText := true, laidKinds := [.data], laidTests := true, laidLooks := .later }
def FnExactPastOfUptoCardSaid : Prop := Claim7.holds Tryd.pinned (.plain (OpenSpec.upto fnExactPastOfSpec)) fnExactPastOfUptoCard

/-- THE SECOND FORM's CARD OF 'laws.FnExactPowerOf'. -/
def fnExactPowerOfUptoCard : Claim7 := { stood := { row := fnExactPowerOfUptoRow, standIns := [], harness := (true, "cfe4d19eaacc9cdc05665d7ae91c8ef1d6a0b2b548365f28de62ba569d598f7a"), looks := false }, kinds := [], alts := [], laidByText := true, laidKinds := [.data], laidTests := true, laidLooks := .later }
def FnExactPowerOfUptoCardSaid : Prop := Claim7.holds Tryd.pinned (.plain (OpenSpec.upto fnExactPowerOfSpec)) fnExactPowerOfUptoCard

/-- THE SECOND FORM's CARD OF 'laws.FnExactWidthOf'. -/
def fnExactWidthOfUptoCard : Claim7 := { stood := { row := fnExactWidthOfUptoRow, standIns := [], harness := (true, "cfe4d19eaacc9cdc05665d7ae91c8ef1d6a0b2b548365f28de62ba569d598f7a"), looks := false }, kinds := [], alts := [], laidByText := true, laidKinds := [.data], laidTests := true, laidLooks := .later }
def FnExactWidthOfUptoCardSaid : Prop := Claim7.holds Tryd.pinned (.plain (OpenSpec.upto fnExactWidthOfSpec)) fnExactWidthOfUptoCard

/-- THE SECOND FORM's CARD OF 'laws.FnExactConcurrentWith'. -/
def fnExactConcurrentWithUptoCard : Claim7 := { stood := { row := fnExactConcurrentWithUptoRow, standIns := [], harness := (true, "cfe4d19eaacc9cdc05665d7ae91c8ef1d6a0b2b548365f28de62ba569d598f7a"), looks := false }, kinds := [], alts := [], laidByText := true, laidKinds := [.data], laidTests := true, laidLooks := .later }
def FnExactConcurrentWithUptoCardSaid : Prop := Claim7.holds Tryd.pinned (.plain (OpenSpec.upto fnExactConcurrentWithSpec)) fnExactConcurrentWithUptoCard

/-- THE SECOND FORM's CARD OF 'laws.FnExactIsConnectedTrace'. -/
def fnExactIsConnectedTraceUptoCard : Claim7 := { stood := { row := fnExactIsConnectedTraceUptoRow, standIns := [], harness := (true, "cfe4d19eaacc9cdc05665d7ae91c8ef1d6a0b2b548365f28de62ba569d598f7a"), looks := false }, kinds := [], alts := [], laidByText := true, laidKinds := [.data], laidTests := true, laidLooks := .later }
def FnExactIsConnectedTraceUptoCardSaid : Prop := Claim7.holds Tryd.pinned (.plain (OpenSpec.upto fnExactIsConnectedTraceSpec)) fnExactIsConnectedTraceUptoCard
end Rows
end Go.Proofs.YtcigmfmlgaiklaaDoor
