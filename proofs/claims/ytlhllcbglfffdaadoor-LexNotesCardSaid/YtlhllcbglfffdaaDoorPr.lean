/- Of each Go function named below: a Lean function with the same answers, and the proof that a call comes to exactly these. Written by a program of this session. -/
import Derived.Test.YtlhllcbglfffdaaDoorPr0
import Derived.Test.YtlhllcbglfffdaaDoorPr1
import Derived.Test.YtlhllcbglfffdaaDoorPr2
import Derived.Test.YtlhllcbglfffdaaDoorPr3
import Derived.Test.YtlhllcbglfffdaaDoorPr4
import Derived.Test.YtlhllcbglfffdaaDoorPr5
import Derived.Test.YtlhllcbglfffdaaDoorPr6
import Derived.Test.YtlhllcbglfffdaaDoorPr7
import Derived.Test.YtlhllcbglfffdaaDoorPr8
import Derived.Test.YtlhllcbglfffdaaDoorPr9
namespace Go.Proofs.YtlhllcbglfffdaaDoor.Pr
open Go.RowKit Go.Proofs.YtlhllcbglfffdaaDoorW.PrintWords Go.Proofs.YtlhllcbglfffdaaDoorW.PrintLast Go.Proofs.YtlhllcbglfffdaaDoorW.PrintMore
attribute [local go_sem] max2_int min2_int max_two min_two max_three min_three max_four min_four   -- for this text's walks alone
set_option linter.unusedVariables false
set_option linter.unusedSimpArgs false

end Go.Proofs.YtlhllcbglfffdaaDoor.Pr
