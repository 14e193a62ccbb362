/- Plain words on sets: what the contracts' functions tell of short names and short lists. -/
import Derived.Sort.KeysCollected
import Derived.Outline
import Derived.Lib.Hide
import Derived.Deep.RegionHeld3
import Derived.Sort.OwnSorted
import Derived.Shelf.Sort.Plain
import Derived.Shelf.Slices.Turned
import Derived.Shelf.Slices.Equal
import Derived.Ground.Names2Prog
import Derived.Shelf.Slices.Clone
import Derived.Shelf.Slices.In.SortNone
import Derived.Shelf.Slices.Empties2
import Derived.Test.YtdkecfjeiookdaaProg
import Derived.Test.YtdkecfjeiookdaaGrPAx0
import Derived.Test.YtdkecfjeiookdaaGrPAx28
import Derived.StringKeys
import Derived.Test.YtdkecfjeiookdaaGrMP
import Derived.Test.YtdkecfjeiookdaaGrPAx21
import Derived.Test.YtdkecfjeiookdaaGrGR
import Derived.Test.YtdkecfjeiookdaaGrRO
import Derived.Test.YtdkecfjeiookdaaGrPAx13
namespace Go.Proofs.Ytdkecfjeiookdaa.PA
open Go Go.RowKit Go.Proofs.YtdkecfjeiookdaaW.PrintWords Go.Proofs.YtdkecfjeiookdaaW.PrintLast Go.Proofs.Ytdkecfjeiookdaa.Ro
set_option linter.unusedVariables false

def okN (a : ByteArray) : Bool := decide (name_Check.f a = some 0)
def sameN (a b : ByteArray) : Bool := okN a && okN b && decide ((lowS a).toList = (lowS b).toList)
theorem check_tells (a : ByteArray) (h : a.size ≤ 4398046511104) : ∃ c, name_Check.f a = some c ∧ (c = 0 ↔ okN a = true) := by
  obtain ⟨c, hc⟩ := check_some a h
  refine ⟨c, hc, ?_⟩
  unfold okN
  rw [hc, decide_eq_true_iff, Option.some.injEq]
theorem nameSame_tells (a b : ByteArray) (ha : a.size ≤ 4398046511104) (hb : b.size ≤ 4398046511104) : name_Same.f a b = some (sameN a b) := by
  obtain ⟨c, hc, hc0⟩ := check_tells a ha
  obtain ⟨d, hd, hd0⟩ := check_tells b hb
  unfold name_Same.f sameN
  rw [hc, Option.bind_some]
  by_cases h1 : c = 0
  · rw [if_pos h1, hd, Option.bind_some, hc0.1 h1]
    by_cases h2 : d = 0
    · rw [if_pos h2, hd0.1 h2]
      unfold name_Lower.f
      rw [if_pos (by omega), if_pos (by omega)]
      simp only [Option.bind_some, Bool.and_self, Bool.true_and]
      rw [Option.some.injEq, Bool.eq_iff_iff, beq_iff_eq, decide_eq_true_iff]
    · rw [if_neg h2]
      have : okN b = false := by rw [Bool.eq_false_iff]; exact fun h => h2 (hd0.2 h)
      rw [this]; simp
  · rw [if_neg h1]
    have : okN a = false := by rw [Bool.eq_false_iff]; exact fun h => h1 (hc0.2 h)
    rw [this]; simp
end Go.Proofs.Ytdkecfjeiookdaa.PA
