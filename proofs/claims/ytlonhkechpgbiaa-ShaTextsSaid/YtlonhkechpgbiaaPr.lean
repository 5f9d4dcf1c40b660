/- Of each Go function named below: a Lean function with the same answers, and the proof that a call comes to exactly these. Written by a program of this session. -/
import Derived.Test.YtlonhkechpgbiaaPr0
import Derived.Test.YtlonhkechpgbiaaPr1
import Derived.Test.YtlonhkechpgbiaaPr2
import Derived.Test.YtlonhkechpgbiaaPr3
import Derived.Test.YtlonhkechpgbiaaPr4
namespace Go.Proofs.Ytlonhkechpgbiaa.Pr
open Go.RowKit Go.Proofs.YtlonhkechpgbiaaW.PrintWords Go.Proofs.YtlonhkechpgbiaaW.PrintLast Go.Proofs.YtlonhkechpgbiaaW.PrintMore
attribute [local go_sem] max2_int min2_int max_two min_two max_three min_three max_four min_four   -- for this text's walks alone
set_option linter.unusedVariables false
set_option linter.unusedSimpArgs false

end Go.Proofs.Ytlonhkechpgbiaa.Pr
