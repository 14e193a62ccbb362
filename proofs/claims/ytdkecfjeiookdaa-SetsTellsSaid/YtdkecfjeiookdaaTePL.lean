/- Plain words on the functions that the contracts by hand name: sorted texts. -/
import Derived.Sort.KeysCollected
import Derived.Test.YtdkecfjeiookdaaTeSM
namespace Go.Proofs.Ytdkecfjeiookdaa.PA
open Go Go.RowKit Go.Maps Go.Sort
theorem sortT_perm {xs ys : List ByteArray} (h : xs.Perm ys) : sortT xs = sortT ys := by
  unfold sortT
  rw [show ((xs.map fun x => x.data.toList).mergeSort fun x y => decide (x ≤ y)) = ((ys.map fun x => x.data.toList).mergeSort fun x y => decide (x ≤ y)) from mergeSort_of_perm (h.map _)]
theorem sortT_is (xs : List ByteArray) : (sortT xs).Perm xs := by
  unfold sortT
  have h := (List.mergeSort_perm (xs.map fun x => x.data.toList) (fun x y => decide (x ≤ y))).map (fun l => (⟨l.toArray⟩ : ByteArray))
  refine h.trans ?_
  rw [List.map_map]
  have : ((fun l : List UInt8 => (⟨l.toArray⟩ : ByteArray)) ∘ fun x : ByteArray => x.data.toList) = id := funext fun x => rfl
  rw [this, List.map_id]
theorem sortT_iff (xs ys : List ByteArray) : sortT xs = sortT ys ↔ xs.Perm ys :=
  ⟨fun h => (sortT_is xs).symm.trans (h ▸ sortT_is ys), sortT_perm⟩
end Go.Proofs.Ytdkecfjeiookdaa.PA
