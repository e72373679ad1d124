import Derived.Test.YtemdfjdmokbcoaaGreatDoorQCF
set_option linter.unusedVariables false
set_option linter.unusedSimpArgs false
namespace Go.Proofs.YtemdfjdmokbcoaaGreatDoor.Q
open Go.RowKit Go.Proofs.YtemdfjdmokbcoaaGreatDoorW.PrintWords
end Go.Proofs.YtemdfjdmokbcoaaGreatDoor.Q
