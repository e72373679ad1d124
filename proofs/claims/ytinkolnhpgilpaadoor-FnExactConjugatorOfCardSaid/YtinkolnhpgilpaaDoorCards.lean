/-
  DERIVED. GIVEN WITH THE SEED: THE CARDS: each row of YtinkolnhpgilpaaDoorRows.lean that lists a variable, with what it lists TIED to the program's text (the seventh form; the later family's looks); each row that meets fmt, with fmt's text TOLD by the authors' own Lean function (tested against real Go, not proved from fmt's source: count such statements apart). THE CARD IS WHAT COUNTS. Prove the row's statement (the work); the ties are given (YtinkolnhpgilpaaDoorTie.lean); close each card by the builder's one call (the guide's Derived/Test/ToyasCard.lean, 'card_holds'). Laid BY PROGRAM, IN A SANDBOX (cutbox-door.mjs). By AI agents, Wed Nov 11 2026. No macro, syntax, notation, axiom, sorry.
-/
import Derived.Test.YtinkolnhpgilpaaDoorRows
import GoSem.ClaimSeven
namespace Go.Proofs.YtinkolnhpgilpaaDoor
namespace Rows

/-- THE TIED CARD OF 'laws.FnExactAreConjugate'. -/
def fnExactAreConjugateCard : Claim7 := { stood := { row := fnExactAreConjugateRow, standIns := [], harness := (true, "29356b0b7e74ac9a72966f1c12ca77e0ba8883fe8d7b8f90bdf18ef2c765c148"), looks := false }, kinds := [], alts := [], laidByText := true, laidKinds := [.data], laidTests := true, laidLooks := .later }
def FnExactAreConjugateCardSaid : Prop := Claim7.holds Tryd.pinned (.plain (OpenSpec.ofChange fnExactAreConjugateSpec)) fnExactAreConjugateCard

/-- THE TIED CARD OF 'laws.FnExactConjugatorOf'. -/
def fnExactConjugatorOfCard : Claim7 := { stood := { row := fnExactConjugatorOfRow, standIns := [], harness := (true, "29356b0b7e74ac9a72966f1c12ca77e0ba8883fe8d7b8f90bdf18ef2c765c148"), looks := false }, kinds := [], alts := [], laidByText := true, laidKinds := [.data], laidTests := true, laidLooks := .later }
def FnExactConjugatorOfCardSaid : Prop := Claim7.holds Tryd.pinned (.plain (OpenSpec.ofChange fnExactConjugatorOfSpec)) fnExactConjugatorOfCard

/-- THE SECOND FORM's CARD OF 'laws.FnExactAreConjugate'. -/
def fnExactAreConjugateUptoCard : Claim7 := { stood := { row := fnExactAreConjugateUptoRow, standIns := [], harness := (true, "29356b0b7e74ac9a72966f1c12ca77e0ba8883fe8d7b8f90bdf18ef2c765c148"), looks := false }, kinds := [], alts := [], laidByText := true, laidKinds := [.data], laidTests := true, laidLooks := .later }
def FnExactAreConjugateUptoCardSaid : Prop := Claim7.holds Tryd.pinned (.plain (OpenSpec.upto fnExactAreConjugateSpec)) fnExactAreConjugateUptoCard

/-- THE SECOND FORM's CARD OF 'laws.FnExactConjugatorOf'. -/
def fnExactConjugatorOfUptoCard : Claim7 := { stood := { row := fnExactConjugatorOfUptoRow, standIns := [], harness := (true, "29356b0b7e74ac9a72966f1c12ca77e0ba8883fe8d7b8f90bdf18ef2c765c148"), looks := false }, kinds := [], alts := [], laidByText := true, laidKinds := [.data], laidTests := true, laidLooks := .later }
def FnExactConjugatorOfUptoCardSaid : Prop := Claim7.holds Tryd.pinned (.plain (OpenSpec.upto fnExactConjugatorOfSpec)) fnExactConjugatorOfUptoCard
end Rows
end Go.Proofs.YtinkolnhpgilpaaDoor
