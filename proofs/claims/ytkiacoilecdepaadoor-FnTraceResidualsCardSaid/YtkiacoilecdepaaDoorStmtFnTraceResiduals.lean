import Derived.Test.YtkiacoilecdepaaDoorPAllx33
namespace Go.Proofs.YtkiacoilecdepaaDoor.LFnTraceResiduals
open Go.RowKit Go.Proofs.YtkiacoilecdepaaDoor.PAll
/-- What is left of the law: lists and numbers alone. -/
def PureStmt : Prop := ∀ (l0 : List Int), l0.length ≤ maxLen → (∀ x ∈ l0, (Lit.int .u8 x).wf = true) → ∃ k, laws_FnTraceResiduals.f k l0 = some true
end Go.Proofs.YtkiacoilecdepaaDoor.LFnTraceResiduals
