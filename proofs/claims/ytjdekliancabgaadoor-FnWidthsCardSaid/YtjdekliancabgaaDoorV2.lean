import Derived.Test.YtjdekliancabgaaDoorPAllx1
import Derived.Test.YtjdekliancabgaaDoorPAllx2
import Derived.Test.YtjdekliancabgaaDoorPAllx3
import Derived.Test.YtjdekliancabgaaDoorPAllx6
import Derived.Test.YtjdekliancabgaaDoorPAllx7
import Derived.Test.YtjdekliancabgaaDoorPAllx8
import Derived.Test.YtjdekliancabgaaDoorPAllx9
import Derived.Test.YtjdekliancabgaaDoorV0
import Derived.Test.YtjdekliancabgaaDoorV1
import Derived.Test.YtjdekliancabgaaDoorQBase
import Derived.Test.YtjdekliancabgaaDoorQCF
import Derived.Test.YtjdekliancabgaaDoorQDraw
import Derived.Test.YtjdekliancabgaaDoorQMask
import Derived.Test.YtjdekliancabgaaDoorQMeet
import Derived.Test.YtjdekliancabgaaDoorQProd
import Derived.Test.YtjdekliancabgaaDoorQRev
import Derived.Test.YtjdekliancabgaaDoorQTrace
set_option linter.unusedVariables false
set_option linter.unusedSimpArgs false
namespace Go.Proofs.YtjdekliancabgaaDoor.PAll
open Go.RowKit Go.Proofs.YtjdekliancabgaaDoorW.PrintWords Go.Proofs.YtjdekliancabgaaDoorW.PrintMore Go.Proofs.YtjdekliancabgaaDoor.Q
def ahead (a b i k:Nat):Bool:=decide (i < a) || (decide (i = a) && decide (k < b))
end Go.Proofs.YtjdekliancabgaaDoor.PAll
