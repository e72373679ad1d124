import Derived.Test.YtemdfjdmokbcoaaGreatDoorQPoly
set_option linter.unusedVariables false
set_option linter.unusedSimpArgs false
namespace Go.Proofs.YtemdfjdmokbcoaaGreatDoor.Q
open Go.RowKit Go.Proofs.YtemdfjdmokbcoaaGreatDoorW.PrintWords
theorem stepsP_lt {m:Nat} {f:Nat → Nat → Bool}:∀ A ∈ stepsP m f,A < 2 ^ m:=fun A h=>List.mem_range.1 (List.mem_filter.1 h).1
end Go.Proofs.YtemdfjdmokbcoaaGreatDoor.Q
