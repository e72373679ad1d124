import Derived.Test.YtkiacoilecdepaaDoorPAllx25
namespace Go.Proofs.YtkiacoilecdepaaDoor.LFnLattice
open Go.RowKit Go.Proofs.YtkiacoilecdepaaDoor.PAll
/-- What is left of the law: lists and numbers alone. -/
def PureStmt : Prop := ∀ (l0 : List Int), l0.length ≤ maxLen → (∀ x ∈ l0, (Lit.int .u8 x).wf = true) → ∃ k, laws_FnLattice.f k l0 = some true
end Go.Proofs.YtkiacoilecdepaaDoor.LFnLattice
