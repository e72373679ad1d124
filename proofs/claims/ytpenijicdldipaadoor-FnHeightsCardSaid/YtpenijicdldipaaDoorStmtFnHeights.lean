import Derived.Test.YtpenijicdldipaaDoorPAllx11
namespace Go.Proofs.YtpenijicdldipaaDoor.LFnHeights
open Go.RowKit Go.Proofs.YtpenijicdldipaaDoor.PAll
/-- What is left of the law: lists and numbers alone. -/
def PureStmt : Prop := ∀ (l0 : List Int), l0.length ≤ maxLen → (∀ x ∈ l0, (Lit.int .u8 x).wf = true) → ∃ k, laws_FnHeights.f k l0 = some true
end Go.Proofs.YtpenijicdldipaaDoor.LFnHeights
