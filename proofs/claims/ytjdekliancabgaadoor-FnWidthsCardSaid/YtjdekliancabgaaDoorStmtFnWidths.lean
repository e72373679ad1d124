import Derived.Test.YtjdekliancabgaaDoorPAllx14
namespace Go.Proofs.YtjdekliancabgaaDoor.LFnWidths
open Go.RowKit Go.Proofs.YtjdekliancabgaaDoor.PAll
/-- What is left of the law: lists and numbers alone. -/
def PureStmt : Prop := ∀ (l0 : List Int), l0.length ≤ maxLen → (∀ x ∈ l0, (Lit.int .u8 x).wf = true) → ∃ k, laws_FnWidths.f k l0 = some true
end Go.Proofs.YtjdekliancabgaaDoor.LFnWidths
