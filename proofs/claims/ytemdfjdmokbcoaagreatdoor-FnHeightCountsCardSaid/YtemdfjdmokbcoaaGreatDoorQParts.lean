import Derived.Test.YtemdfjdmokbcoaaGreatDoorQOrder
set_option linter.unusedVariables false
set_option linter.unusedSimpArgs false
namespace Go.Proofs.YtemdfjdmokbcoaaGreatDoor.Q
open Go.RowKit Go.Proofs.YtemdfjdmokbcoaaGreatDoorW.PrintWords
section
variable (n:Nat) (f:Nat → Nat → Bool)
def reachP (p:Nat → Bool) (b:Nat):Bool:=(List.range n).any fun c=>p c && f c b
theorem reachP_iff (p:Nat → Bool) (b:Nat):reachP n f p b = true ↔ ∃ c,c < n ∧ p c = true ∧ f c b = true:=by
  simp [reachP,List.any_eq_true,and_assoc]
end
end Go.Proofs.YtemdfjdmokbcoaaGreatDoor.Q
