/- Plain words on sets.Group: what its sets are, where each name may be. -/
import Derived.Lib.Strings
import Derived.Test.YtdkecfjeiookdaaGrOR
namespace Go.Proofs.Ytdkecfjeiookdaa.PA
open Go Go.RowKit Go.Proofs.YtdkecfjeiookdaaW.PrintWords Go.Proofs.YtdkecfjeiookdaaW.PrintLast
set_option linter.unusedVariables false

theorem mn_le (a b : Int) : mn a b ≤ a ∧ mn a b ≤ b ∧ (mn a b = a ∨ mn a b = b) := by
  unfold mn
  split <;> omega
theorem bytes_eq {a b : ByteArray} (h : a.toList = b.toList) : a = b := by
  rw [Go.Lib.toList_data, Go.Lib.toList_data] at h
  rw [← Go.Lib.mk_data a, ← Go.Lib.mk_data b, h]
theorem lastIx_some {ks : List KeyG} {k : KeyG} {j : Nat} (h : lastIx ks k = some j) : ks[j]? = some k := by
  unfold lastIx at h
  have := List.find?_some h
  exact of_decide_eq_true this
end Go.Proofs.Ytdkecfjeiookdaa.PA
