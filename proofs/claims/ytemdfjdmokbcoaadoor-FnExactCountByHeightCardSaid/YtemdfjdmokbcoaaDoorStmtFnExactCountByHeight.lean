import Derived.Test.YtemdfjdmokbcoaaDoorPAllx9
namespace Go.Proofs.YtemdfjdmokbcoaaDoor.LFnExactCountByHeight
open Go.RowKit Go.Proofs.YtemdfjdmokbcoaaDoor.PAll
/-- What is left of the law: lists and numbers alone. -/
def PureStmt : Prop := ∀ (a0_0 : Int) (l0_1 : List Int) (a1 : Int), (Lit.int .i64 a0_0).wf = true → l0_1.length ≤ maxLen → (∀ x ∈ l0_1, (Lit.int .i64 x).wf = true) → (Lit.int .i64 a1).wf = true → ∃ k, laws_FnExactCountByHeight.f k a0_0 l0_1 a1 = some true
end Go.Proofs.YtemdfjdmokbcoaaDoor.LFnExactCountByHeight
