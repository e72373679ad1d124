import Derived.Test.YtfnnnopbcdiibaaDoorPAllx28
namespace Go.Proofs.YtfnnnopbcdiibaaDoor.LFnExactCountTraces
open Go.RowKit Go.Proofs.YtfnnnopbcdiibaaDoor.PAll
/-- What is left of the law: lists and numbers alone. -/
def PureStmt : Prop := ∀ (a0_0 : Int) (l0_1 : List Int) (a1 : Int), (Lit.int .i64 a0_0).wf = true → l0_1.length ≤ maxLen → (∀ x ∈ l0_1, (Lit.int .i64 x).wf = true) → (Lit.int .i64 a1).wf = true → ∃ k, laws_FnExactCountTraces.f k a0_0 l0_1 a1 = some true
end Go.Proofs.YtfnnnopbcdiibaaDoor.LFnExactCountTraces
