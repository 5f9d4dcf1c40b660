/- Of each Go function named below: a Lean function with the same answers, and the proof that a call comes to exactly these. Written by a program of this session. -/
import Derived.Test.YtbemfgpdfacdpaaPr0
import Derived.Test.YtbemfgpdfacdpaaPr1
import Derived.Test.YtbemfgpdfacdpaaPr2
import Derived.Test.YtbemfgpdfacdpaaPr3
import Derived.Test.YtbemfgpdfacdpaaPr4
import Derived.Test.YtbemfgpdfacdpaaPr5
import Derived.Test.YtbemfgpdfacdpaaPr6
namespace Go.Proofs.Ytbemfgpdfacdpaa.Pr
open Go.RowKit Go.Proofs.YtbemfgpdfacdpaaW.PrintWords Go.Proofs.YtbemfgpdfacdpaaW.PrintLast Go.Proofs.YtbemfgpdfacdpaaW.PrintMore
attribute [local go_sem] max2_int min2_int max_two min_two max_three min_three max_four min_four   -- for this text's walks alone
set_option linter.unusedVariables false
set_option linter.unusedSimpArgs false

end Go.Proofs.Ytbemfgpdfacdpaa.Pr
