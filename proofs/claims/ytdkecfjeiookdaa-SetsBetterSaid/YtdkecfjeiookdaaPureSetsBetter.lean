/- The plain law: in the program and in the document's answer, whether something of one rank goes in the place of something of another rank, over or not, is told alike, for all whole numbers of 64 bits and both truths. -/
import Derived.Test.YtdkecfjeiookdaaPAx7
namespace Go.Proofs.Ytdkecfjeiookdaa.Pure
open Go.RowKit Go.Proofs.Ytdkecfjeiookdaa.PA Go.Proofs.YtdkecfjeiookdaaW.PrintWords Go.Proofs.YtdkecfjeiookdaaW.PrintLast

theorem SetsBetter : ostiarylaw22_SetsBetter.Pure := by
  intro a0 a1 a2 _ _
  unfold ostiarylaw22_SetsBetter.f sets_Better.f ostiaryref22_Better.f ostiarylaw22_awake.f
  cases a2 <;> simp

end Go.Proofs.Ytdkecfjeiookdaa.Pure
