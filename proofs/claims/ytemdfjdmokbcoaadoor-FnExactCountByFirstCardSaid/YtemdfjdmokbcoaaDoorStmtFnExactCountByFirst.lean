import Derived.Test.YtemdfjdmokbcoaaDoorPAllx8
namespace Go.Proofs.YtemdfjdmokbcoaaDoor.LFnExactCountByFirst
open Go.RowKit Go.Proofs.YtemdfjdmokbcoaaDoor.PAll
/-- What is left of the law: lists and numbers alone. -/
def PureStmt : Prop := ∀ (a0_0 : Int) (l0_1 : List Int) (a1 : Int) (a2 : Int), (Lit.int .i64 a0_0).wf = true → l0_1.length ≤ maxLen → (∀ x ∈ l0_1, (Lit.int .i64 x).wf = true) → (Lit.int .i64 a1).wf = true → (Lit.int .i64 a2).wf = true → ∃ k, laws_FnExactCountByFirst.f k a0_0 l0_1 a1 a2 = some true
end Go.Proofs.YtemdfjdmokbcoaaDoor.LFnExactCountByFirst
