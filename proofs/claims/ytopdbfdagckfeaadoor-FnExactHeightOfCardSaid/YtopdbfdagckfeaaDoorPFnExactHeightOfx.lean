-- Printed by a program of the session (wip/tools/pgen.py) out of the translation. Not trusted: Lean checks it.
import Derived.Test.YtopdbfdagckfeaaDoorPFnExactHeightOfx0
import Derived.Test.YtopdbfdagckfeaaDoorPFnExactHeightOfx1
import Derived.Test.YtopdbfdagckfeaaDoorPFnExactHeightOfx2
import Derived.Test.YtopdbfdagckfeaaDoorPFnExactHeightOfx3
import Derived.Test.YtopdbfdagckfeaaDoorPFnExactHeightOfx4
import Derived.Test.YtopdbfdagckfeaaDoorPFnExactHeightOfx5
import Derived.Test.YtopdbfdagckfeaaDoorPFnExactHeightOfx6
import Derived.Test.YtopdbfdagckfeaaDoorPFnExactHeightOfx7
import Derived.Test.YtopdbfdagckfeaaDoorPFnExactHeightOfx8
namespace Go.Proofs.YtopdbfdagckfeaaDoor.PFnExactHeightOf
open Go.RowKit Go.Proofs.YtopdbfdagckfeaaDoor.T Go.Proofs.YtopdbfdagckfeaaDoorW.PrintWords Go.Proofs.YtopdbfdagckfeaaDoorW.PrintLast Go.Proofs.YtopdbfdagckfeaaDoorW.PrintMore
attribute [local go_sem] max2_int min2_int max_two min_two max_three min_three max_four min_four   -- for this text's walks alone
set_option linter.unusedVariables false
set_option linter.unusedSimpArgs false

end Go.Proofs.YtopdbfdagckfeaaDoor.PFnExactHeightOf
