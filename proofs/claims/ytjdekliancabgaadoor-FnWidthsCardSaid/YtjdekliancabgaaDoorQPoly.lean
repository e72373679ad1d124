import Derived.Test.YtjdekliancabgaaDoorQCF
set_option linter.unusedVariables false
set_option linter.unusedSimpArgs false
namespace Go.Proofs.YtjdekliancabgaaDoor.Q
open Go.RowKit Go.Proofs.YtjdekliancabgaaDoorW.PrintWords
end Go.Proofs.YtjdekliancabgaaDoor.Q
