/-
  DERIVED. GIVEN WITH THE SEED: THE CARDS: each row of YtcboobfmenonhaaDoorRows.lean that lists a variable, with what it lists TIED to the program's text (the seventh form; the later family's looks); each row that meets fmt, with fmt's text TOLD by the authors' own Lean function (tested against real Go, not proved from fmt's source: count such statements apart). THE CARD IS WHAT COUNTS. Prove the row's statement (the work); the ties are given (YtcboobfmenonhaaDoorTie.lean); close each card by the builder's one call (the guide's Derived/Test/ToyasCard.lean, 'card_holds'). Laid BY PROGRAM, IN A SANDBOX (cutbox-door.mjs). By AI agents, Wed Nov 11 2026. No macro, syntax, notation, axiom, sorry.
-/
import Derived.Test.YtcboobfmenonhaaDoorRows
import GoSem.ClaimSeven
namespace Go.Proofs.YtcboobfmenonhaaDoor
namespace Rows

/-- THE TIED CARD OF 'laws.FnCliqueSeries'. -/
def fnCliqueSeriesCard : Claim7 := { stood := { row := fnCliqueSeriesRow, standIns := [], harness := (true, "12d95e222177103b8fb9e475f244382871a1719a757c6f5c33d3cd2dc1c6bb1f"), looks := false }, kinds := [], alts := [], laidByText := true, laidKinds := [.data], laidTests := true, laidLooks := .later }
def FnCliqueSeriesCardSaid : Prop := Claim7.holds Tryd.pinned (.plain (OpenSpec.ofChange fnCliqueSeriesSpec)) fnCliqueSeriesCard

/-- THE TIED CARD OF 'laws.FnProductCounts'. -/
def fnProductCountsCard : Claim7 := { stood := { row := fnProductCountsRow, standIns := [], harness := (true, "12d95e222177103b8fb9e475f244382871a1719a757c6f5c33d3cd2dc1c6bb1f"), looks := false }, kinds := [], alts := [], laidByText := true, laidKinds := [.data], laidTests := true, laidLooks := .later }
def FnProductCountsCardSaid : Prop := Claim7.holds Tryd.pinned (.plain (OpenSpec.ofChange fnProductCountsSpec)) fnProductCountsCard

/-- THE TIED CARD OF 'laws.FnLevi'. -/
def fnLeviCard : Claim7 := { stood := { row := fnLeviRow, standIns := [], harness := (true, "12d95e222177103b8fb9e475f244382871a1719a757c6f5c33d3cd2dc1c6bb1f"), looks := false }, kinds := [], alts := [], laidByText := true, laidKinds := [.data], laidTests := true, laidLooks := .later }
def FnLeviCardSaid : Prop := Claim7.holds Tryd.pinned (.plain (OpenSpec.ofChange fnLeviSpec)) fnLeviCard

/-- THE TIED CARD OF 'laws.FnComponents'. -/
def fnComponentsCard : Claim7 := { stood := { row := fnComponentsRow, standIns := [], harness := (true, "12d95e222177103b8fb9e475f244382871a1719a757c6f5c33d3cd2dc1c6bb1f"), looks := false }, kinds := [], alts := [], laidByText := true, laidKinds := [.data], laidTests := true, laidLooks := .later }
def FnComponentsCardSaid : Prop := Claim7.holds Tryd.pinned (.plain (OpenSpec.ofChange fnComponentsSpec)) fnComponentsCard

/-- THE SECOND FORM's CARD OF 'laws.FnCliqueSeries'. -/
def fnCliqueSeriesUptoCard : Claim7 := { stood := { row := fnCliqueSeriesUptoRow, standIns := [], harness := (true, "12d95e222177103b8fb9e475f244382871a1719a757c6f5c33d3cd2dc1c6bb1f"), looks := false }, kinds := [], alts := [], laidByText := true, laidKinds := [.data], laidTests := true, laidLooks := .later }
def FnCliqueSeriesUptoCardSaid : Prop := Claim7.holds Tryd.pinned (.plain (OpenSpec.upto fnCliqueSeriesSpec)) fnCliqueSeriesUptoCard

/-- THE SECOND FORM's CARD OF 'laws.FnProductCounts'. -/
def fnProductCountsUptoCard : Claim7 := { stood := { row := fnProductCountsUptoRow, standIns := [], harness := (true, "12d95e222177103b8fb9e475f244382871a1719a757c6f5c33d3cd2dc1c6bb1f"), looks := false }, kinds := [], alts := [], laidByText := true, laidKinds := [.data], laidTests := true, laidLooks := .later }
def FnProductCountsUptoCardSaid : Prop := Claim7.holds Tryd.pinned (.plain (OpenSpec.upto fnProductCountsSpec)) fnProductCountsUptoCard

/-- THE SECOND FORM's CARD OF 'laws.FnLevi'. -/
def fnLeviUptoCard : Claim7 := { stood := { row := fnLeviUptoRow, standIns := [], harness := (true, "12d95e222177103b8fb9e475f244382871a1719a757c6f5c33d3cd2dc1c6bb1f"), looks := false }, kinds := [], alts := [], laidByText := true, laidKinds := [.data], laidTests := true, laidLooks := .later }
def FnLeviUptoCardSaid : Prop := Claim7.holds Tryd.pinned (.plain (OpenSpec.upto fnLeviSpec)) fnLeviUptoCard

/-- THE SECOND FORM's CARD OF 'laws.FnComponents'. -/
def fnComponentsUptoCard : Claim7 := { stood := { row := fnComponentsUptoRow, standIns := [], harness := (true, "12d95e222177103b8fb9e475f244382871a1719a757c6f5c33d3cd2dc1c6bb1f"), looks := false }, kinds := [], alts := [], laidByText := true, laidKinds := [.data], laidTests := true, laidLooks := .later }
def FnComponentsUptoCardSaid : Prop := Claim7.holds Tryd.pinned (.plain (OpenSpec.upto fnComponentsSpec)) fnComponentsUptoCard
end Rows
end Go.Proofs.YtcboobfmenonhaaDoor
