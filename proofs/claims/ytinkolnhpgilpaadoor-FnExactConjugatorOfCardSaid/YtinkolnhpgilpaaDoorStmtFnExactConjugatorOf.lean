import Derived.Test.YtinkolnhpgilpaaDoorPAllx6
namespace Go.Proofs.YtinkolnhpgilpaaDoor.LFnExactConjugatorOf
open Go.RowKit Go.Proofs.YtinkolnhpgilpaaDoor.PAll
/-- What is left of the law: lists and numbers alone. -/
def PureStmt : Prop := ∀ (a0_0 : Int) (l0_1 : List Int) (l1 : List Int) (l2 : List Int), (Lit.int .i64 a0_0).wf = true → l0_1.length ≤ maxLen → (∀ x ∈ l0_1, (Lit.int .i64 x).wf = true) → l1.length ≤ maxLen → (∀ x ∈ l1, (Lit.int .i64 x).wf = true) → l2.length ≤ maxLen → (∀ x ∈ l2, (Lit.int .i64 x).wf = true) → ∃ k, laws_FnExactConjugatorOf.f k a0_0 l0_1 l1 l2 = some true
end Go.Proofs.YtinkolnhpgilpaaDoor.LFnExactConjugatorOf
