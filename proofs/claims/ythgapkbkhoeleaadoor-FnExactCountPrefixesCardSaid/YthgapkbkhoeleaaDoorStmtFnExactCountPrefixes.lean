import Derived.Test.YthgapkbkhoeleaaDoorPAllx3
namespace Go.Proofs.YthgapkbkhoeleaaDoor.LFnExactCountPrefixes
open Go.RowKit Go.Proofs.YthgapkbkhoeleaaDoor.PAll
/-- What is left of the law: lists and numbers alone. -/
def PureStmt : Prop := ∀ (a0_0 : Int) (l0_1 : List Int) (l1 : List Int), (Lit.int .i64 a0_0).wf = true → l0_1.length ≤ maxLen → (∀ x ∈ l0_1, (Lit.int .i64 x).wf = true) → l1.length ≤ maxLen → (∀ x ∈ l1, (Lit.int .i64 x).wf = true) → ∃ k, laws_FnExactCountPrefixes.f k a0_0 l0_1 l1 = some true
end Go.Proofs.YthgapkbkhoeleaaDoor.LFnExactCountPrefixes
