import Derived.Test.YtfnnnopbcdiibaaDoorPAllx24
namespace Go.Proofs.YtfnnnopbcdiibaaDoor.LFnExactCliquePolynomial
open Go.RowKit Go.Proofs.YtfnnnopbcdiibaaDoor.PAll
/-- What is left of the law: lists and numbers alone. -/
def PureStmt : Prop := ∀ (a0_0 : Int) (l0_1 : List Int), (Lit.int .i64 a0_0).wf = true → l0_1.length ≤ maxLen → (∀ x ∈ l0_1, (Lit.int .i64 x).wf = true) → ∃ k, laws_FnExactCliquePolynomial.f k a0_0 l0_1 = some true
end Go.Proofs.YtfnnnopbcdiibaaDoor.LFnExactCliquePolynomial
