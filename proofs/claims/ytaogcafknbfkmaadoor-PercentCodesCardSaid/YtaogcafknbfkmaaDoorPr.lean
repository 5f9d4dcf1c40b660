/- Of each Go function named below: a Lean function with the same answers, and the proof that a call comes to exactly these. Written by a program of this session. -/
import Derived.Test.YtaogcafknbfkmaaDoorPr0
import Derived.Test.YtaogcafknbfkmaaDoorPr1
import Derived.Test.YtaogcafknbfkmaaDoorPr2
import Derived.Test.YtaogcafknbfkmaaDoorPr3
import Derived.Test.YtaogcafknbfkmaaDoorPr4
import Derived.Test.YtaogcafknbfkmaaDoorPr5
import Derived.Test.YtaogcafknbfkmaaDoorPr6
import Derived.Test.YtaogcafknbfkmaaDoorPr7
namespace Go.Proofs.YtaogcafknbfkmaaDoor.Pr
open Go.RowKit Go.Proofs.YtaogcafknbfkmaaDoorW.PrintWords Go.Proofs.YtaogcafknbfkmaaDoorW.PrintLast Go.Proofs.YtaogcafknbfkmaaDoorW.PrintMore
attribute [local go_sem] max2_int min2_int max_two min_two max_three min_three max_four min_four   -- for this text's walks alone
set_option linter.unusedVariables false
set_option linter.unusedSimpArgs false

end Go.Proofs.YtaogcafknbfkmaaDoor.Pr
