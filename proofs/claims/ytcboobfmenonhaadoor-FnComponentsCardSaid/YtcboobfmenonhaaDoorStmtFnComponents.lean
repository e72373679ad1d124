import Derived.Test.YtcboobfmenonhaaDoorPAllx6
namespace Go.Proofs.YtcboobfmenonhaaDoor.LFnComponents
open Go.RowKit Go.Proofs.YtcboobfmenonhaaDoor.PAll
/-- What is left of the law: lists and numbers alone. -/
def PureStmt : Prop := ∀ (l0 : List Int), l0.length ≤ maxLen → (∀ x ∈ l0, (Lit.int .u8 x).wf = true) → ∃ k, laws_FnComponents.f k l0 = some true
end Go.Proofs.YtcboobfmenonhaaDoor.LFnComponents
