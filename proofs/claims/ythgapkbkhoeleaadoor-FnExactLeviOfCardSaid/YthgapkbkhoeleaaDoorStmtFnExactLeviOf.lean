import Derived.Test.YthgapkbkhoeleaaDoorPAllx6
namespace Go.Proofs.YthgapkbkhoeleaaDoor.LFnExactLeviOf
open Go.RowKit Go.Proofs.YthgapkbkhoeleaaDoor.PAll
/-- What is left of the law: lists and numbers alone. -/
def PureStmt : Prop := ∀ (a0_0 : Int) (l0_1 : List Int) (l1 : List Int) (l2 : List Int) (l3 : List Int) (l4 : List Int), (Lit.int .i64 a0_0).wf = true → l0_1.length ≤ maxLen → (∀ x ∈ l0_1, (Lit.int .i64 x).wf = true) → l1.length ≤ maxLen → (∀ x ∈ l1, (Lit.int .i64 x).wf = true) → l2.length ≤ maxLen → (∀ x ∈ l2, (Lit.int .i64 x).wf = true) → l3.length ≤ maxLen → (∀ x ∈ l3, (Lit.int .i64 x).wf = true) → l4.length ≤ maxLen → (∀ x ∈ l4, (Lit.int .i64 x).wf = true) → ∃ k, laws_FnExactLeviOf.f k a0_0 l0_1 l1 l2 l3 l4 = some true
end Go.Proofs.YthgapkbkhoeleaaDoor.LFnExactLeviOf
