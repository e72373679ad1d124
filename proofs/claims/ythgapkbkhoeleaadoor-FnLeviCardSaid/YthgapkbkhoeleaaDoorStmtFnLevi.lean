import Derived.Test.YthgapkbkhoeleaaDoorPAllx27
namespace Go.Proofs.YthgapkbkhoeleaaDoor.LFnLevi
open Go.RowKit Go.Proofs.YthgapkbkhoeleaaDoor.PAll
/-- What is left of the law: lists and numbers alone. -/
def PureStmt : Prop := ∀ (l0 : List Int), l0.length ≤ maxLen → (∀ x ∈ l0, (Lit.int .u8 x).wf = true) → ∃ k, laws_FnLevi.f k l0 = some true
end Go.Proofs.YthgapkbkhoeleaaDoor.LFnLevi
