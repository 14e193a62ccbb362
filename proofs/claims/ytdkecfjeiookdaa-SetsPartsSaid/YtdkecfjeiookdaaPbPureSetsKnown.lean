/- The plain law: the chapter's examples are answered as it says; no condition: the law has no argument. -/
import Derived.Test.YtdkecfjeiookdaaPbPAx12
import Derived.Test.YtdkecfjeiookdaaPbPAx28m
namespace Go.Proofs.Ytdkecfjeiookdaa.Pure
open Go.RowKit Go.Proofs.Ytdkecfjeiookdaa.PA Go.Proofs.YtdkecfjeiookdaaW.PrintWords Go.Proofs.YtdkecfjeiookdaaW.PrintLast

def two : List ByteArray := [⟨#[120]⟩, ⟨#[122]⟩]
theorem hRecs : sets_Recs.f 12 awA 1 1 3 two = some [⟨awA, 1, 1, 3, ⟨#[120]⟩⟩, ⟨awA, 1, 1, 3, ⟨#[122]⟩⟩] := by kernel_rfl
theorem hSame : ostiarykit_SameRecs.f 12 [⟨awA, 1, 1, 3, ⟨#[120]⟩⟩, ⟨awA, 1, 1, 3, ⟨#[122]⟩⟩] [⟨awA, 1, 1, 3, ⟨#[120]⟩⟩, ⟨awA, 1, 1, 3, ⟨#[122]⟩⟩] = some true := by kernel_rfl
theorem hNames : name_Same.f awA awBig = some true := by kernel_rfl
theorem hOne : sets_Same.f awA 1 1 3 two awBig 1 1 9 [⟨#[122]⟩, ⟨#[120]⟩] = some true := by
  unfold sets_Same.f
  rw [if_pos ⟨rfl, rfl⟩, hNames, Option.bind_some, if_pos ⟨rfl, rfl⟩, if_pos (by decide), decide_eq_true (show sortT two = sortT [⟨#[122]⟩, ⟨#[120]⟩] from sortT_perm (show two.Perm [⟨#[122]⟩, ⟨#[120]⟩] from List.Perm.swap _ _ _))]
theorem hTwo : sets_Same.f awA 1 1 3 two awA 2 1 3 two = some false := by
  unfold sets_Same.f
  rw [if_neg (by decide)]
theorem hEnd : ostiarylaw22_SetsKnown.j0 12 true awA 1 1 3 two = some true := by kernel_rfl
theorem SetsKnown : ostiarylaw22_SetsKnown.Pure := by
  refine ⟨12, ?_⟩
  unfold ostiarylaw22_SetsKnown.f
  rw [show ostiarylaw22_a.f = some awA from rfl, show ostiarylaw22_big.f = some awBig from rfl]
  simp only [Option.bind_some]
  rw [show ([(⟨#[120]⟩ : ByteArray), (⟨#[122]⟩ : ByteArray)] : List ByteArray) = two from rfl, hRecs]
  simp only [Option.bind_some]
  rw [show ostiarylaw22_rec.f awA 1 3 (⟨#[120]⟩ : ByteArray) = some (awA, 1, 1, 3, ⟨#[120]⟩) from rfl, show ostiarylaw22_rec.f awA 1 3 (⟨#[122]⟩ : ByteArray) = some (awA, 1, 1, 3, ⟨#[122]⟩) from rfl]
  simp only [Option.bind_some]
  rw [hSame]
  simp only [Option.bind_some, if_true]
  rw [hOne]
  simp only [Option.bind_some, if_true]
  rw [hTwo]
  exact hEnd
end Go.Proofs.Ytdkecfjeiookdaa.Pure
