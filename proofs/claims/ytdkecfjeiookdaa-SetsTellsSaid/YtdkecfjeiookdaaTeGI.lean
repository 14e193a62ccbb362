/- Plain words on sets.Group: what its sets are, where each name may be. -/
import Derived.Lib.Strings
import Derived.Test.YtdkecfjeiookdaaTeOR
namespace Go.Proofs.Ytdkecfjeiookdaa.PA
open Go Go.RowKit Go.Proofs.YtdkecfjeiookdaaW.PrintWords Go.Proofs.YtdkecfjeiookdaaW.PrintLast
set_option linter.unusedVariables false

theorem bytes_eq {a b : ByteArray} (h : a.toList = b.toList) : a = b := by
  rw [Go.Lib.toList_data, Go.Lib.toList_data] at h
  rw [← Go.Lib.mk_data a, ← Go.Lib.mk_data b, h]
end Go.Proofs.Ytdkecfjeiookdaa.PA
