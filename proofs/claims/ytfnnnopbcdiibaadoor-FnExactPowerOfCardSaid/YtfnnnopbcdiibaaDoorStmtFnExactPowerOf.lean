import Derived.Test.YtfnnnopbcdiibaaDoorPAllx32
namespace Go.Proofs.YtfnnnopbcdiibaaDoor.LFnExactPowerOf
open Go.RowKit Go.Proofs.YtfnnnopbcdiibaaDoor.PAll
/-- What is left of the law: lists and numbers alone. -/
def PureStmt : Prop := ∀ (a0_0 : Int) (l0_1 : List Int) (l1 : List Int) (a2 : Int), (Lit.int .i64 a0_0).wf = true → l0_1.length ≤ maxLen → (∀ x ∈ l0_1, (Lit.int .i64 x).wf = true) → l1.length ≤ maxLen → (∀ x ∈ l1, (Lit.int .i64 x).wf = true) → (Lit.int .i64 a2).wf = true → ∃ k, laws_FnExactPowerOf.f k a0_0 l0_1 l1 a2 = some true
end Go.Proofs.YtfnnnopbcdiibaaDoor.LFnExactPowerOf
