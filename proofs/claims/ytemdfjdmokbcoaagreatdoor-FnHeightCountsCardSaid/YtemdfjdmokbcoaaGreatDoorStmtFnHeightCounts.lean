import Derived.Test.YtemdfjdmokbcoaaGreatDoorPAllx11
namespace Go.Proofs.YtemdfjdmokbcoaaGreatDoor.LFnHeightCounts
open Go.RowKit Go.Proofs.YtemdfjdmokbcoaaGreatDoor.PAll
/-- What is left of the law: lists and numbers alone. -/
def PureStmt : Prop := ∀ (l0 : List Int), l0.length ≤ maxLen → (∀ x ∈ l0, (Lit.int .u8 x).wf = true) → ∃ k, laws_FnHeightCounts.f k l0 = some true
end Go.Proofs.YtemdfjdmokbcoaaGreatDoor.LFnHeightCounts
