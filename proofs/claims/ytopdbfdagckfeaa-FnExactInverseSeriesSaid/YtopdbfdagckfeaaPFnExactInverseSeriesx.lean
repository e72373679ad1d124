-- Printed by a program of the session (wip/tools/pgen.py) out of the translation. Not trusted: Lean checks it.
import Derived.Test.YtopdbfdagckfeaaPFnExactInverseSeriesx0
import Derived.Test.YtopdbfdagckfeaaPFnExactInverseSeriesx1
import Derived.Test.YtopdbfdagckfeaaPFnExactInverseSeriesx2
import Derived.Test.YtopdbfdagckfeaaPFnExactInverseSeriesx3
namespace Go.Proofs.Ytopdbfdagckfeaa.PFnExactInverseSeries
open Go.RowKit Go.Proofs.YtopdbfdagckfeaaW.PrintWords Go.Proofs.YtopdbfdagckfeaaW.PrintLast Go.Proofs.YtopdbfdagckfeaaW.PrintMore
attribute [local go_sem] max2_int min2_int max_two min_two max_three min_three max_four min_four   -- for this text's walks alone
set_option linter.unusedVariables false
set_option linter.unusedSimpArgs false

end Go.Proofs.Ytopdbfdagckfeaa.PFnExactInverseSeries
