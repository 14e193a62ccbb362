-- printed out of the translation by the kit's print (wip/tools/given.py), and cut by wip/tools/trim.py: Lean checks it.
import Derived.Test.YtdkecfjeiookdaaGrPAx0
import Derived.Test.YtdkecfjeiookdaaGrPAx21
import Derived.Test.YtdkecfjeiookdaaGrHA
namespace Go.Proofs.Ytdkecfjeiookdaa.PA
open Go.RowKit Go.Proofs.YtdkecfjeiookdaaW.PrintWords Go.Proofs.YtdkecfjeiookdaaW.PrintLast Go.Proofs.YtdkecfjeiookdaaW.PrintMore
attribute [local go_sem] max2_int min2_int max_two min_two max_three min_three max_four min_four   -- for this text's walks alone
set_option linter.unusedVariables false
set_option linter.unusedSimpArgs false

/-! ### name_Same: function 52 -/
def name_Same.f (a0 : ByteArray) (a1 : ByteArray) : Option (Bool) := (name_Check.f a0).bind fun t521 => (if t521 = 0 then ((name_Check.f a1).bind fun t522 => (if t522 = 0 then ((name_Lower.f a0).bind fun t523 => ((name_Lower.f a1).bind fun t524 => (some (t523.toList == t524.toList)))) else (some false))) else (some false))

end Go.Proofs.Ytdkecfjeiookdaa.PA
