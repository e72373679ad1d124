import Derived.Test.YtcboobfmenonhaaDoorPAllx8
namespace Go.Proofs.YtcboobfmenonhaaDoor.LFnCliqueSeries
open Go.RowKit Go.Proofs.YtcboobfmenonhaaDoor.PAll
/-- What is left of the law: lists and numbers alone. -/
def PureStmt : Prop := ∀ (l0 : List Int), l0.length ≤ maxLen → (∀ x ∈ l0, (Lit.int .u8 x).wf = true) → ∃ k, laws_FnCliqueSeries.f k l0 = some true
end Go.Proofs.YtcboobfmenonhaaDoor.LFnCliqueSeries
