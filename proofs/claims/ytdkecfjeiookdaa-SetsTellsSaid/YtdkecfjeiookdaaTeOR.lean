/- Plain words on sets: what the contracts' functions tell of short names and short lists. -/
import Derived.Test.YtdkecfjeiookdaaTePL
import Derived.Test.YtdkecfjeiookdaaTeCK
import Derived.Test.YtdkecfjeiookdaaTeGR
import Derived.Test.YtdkecfjeiookdaaTeRO
import Derived.Test.YtdkecfjeiookdaaTePAx13
namespace Go.Proofs.Ytdkecfjeiookdaa.PA
open Go Go.RowKit Go.Proofs.YtdkecfjeiookdaaW.PrintWords Go.Proofs.YtdkecfjeiookdaaW.PrintLast Go.Proofs.Ytdkecfjeiookdaa.Ro
set_option linter.unusedVariables false

def okN (a : ByteArray) : Bool := decide (name_Check.f a = some 0)
def sameN (a b : ByteArray) : Bool := okN a && okN b && decide ((lowS a).toList = (lowS b).toList)
theorem check_tells (a : ByteArray) (h : a.size ≤ 4398046511104) : ∃ c, name_Check.f a = some c ∧ (c = 0 ↔ okN a = true) := by
  obtain ⟨c, hc⟩ := check_some a h
  refine ⟨c, hc, ?_⟩
  unfold okN
  rw [hc, decide_eq_true_iff, Option.some.injEq]
theorem nameSame_tells (a b : ByteArray) (ha : a.size ≤ 4398046511104) (hb : b.size ≤ 4398046511104) : name_Same.f a b = some (sameN a b) := by
  obtain ⟨c, hc, hc0⟩ := check_tells a ha
  obtain ⟨d, hd, hd0⟩ := check_tells b hb
  unfold name_Same.f sameN
  rw [hc, Option.bind_some]
  by_cases h1 : c = 0
  · rw [if_pos h1, hd, Option.bind_some, hc0.1 h1]
    by_cases h2 : d = 0
    · rw [if_pos h2, hd0.1 h2]
      unfold name_Lower.f
      rw [if_pos (by omega), if_pos (by omega)]
      simp only [Option.bind_some, Bool.and_self, Bool.true_and]
      rw [Option.some.injEq, Bool.eq_iff_iff, beq_iff_eq, decide_eq_true_iff]
    · rw [if_neg h2]
      have : okN b = false := by rw [Bool.eq_false_iff]; exact fun h => h2 (hd0.2 h)
      rw [this]; simp
  · rw [if_neg h1]
    have : okN a = false := by rw [Bool.eq_false_iff]; exact fun h => h1 (hc0.2 h)
    rw [this]; simp
def sameS (n1 : ByteArray) (t1 c1 : Int) (l1 : List ByteArray) (n2 : ByteArray) (t2 c2 : Int) (l2 : List ByteArray) : Bool := decide (t1 = t2) && decide (c1 = c2) && sameN n1 n2 && decide (sortT l1 = sortT l2)
theorem same_tells (n1 : ByteArray) (t1 c1 x1 : Int) (l1 : List ByteArray) (n2 : ByteArray) (t2 c2 x2 : Int) (l2 : List ByteArray) (h1 : n1.size ≤ 4398046511104) (h2 : n2.size ≤ 4398046511104) (h3 : l1.length * 16 ≤ 140737488355328) : sets_Same.f n1 t1 c1 x1 l1 n2 t2 c2 x2 l2 = some (sameS n1 t1 c1 l1 n2 t2 c2 l2) := by
  unfold sets_Same.f sameS
  by_cases ht : t1 = t2
  · by_cases hc : c1 = c2
    · rw [if_pos ⟨ht, hc⟩, nameSame_tells n1 n2 h1 h2, Option.bind_some, decide_eq_true ht, decide_eq_true hc]
      cases hn : sameN n1 n2
      · rw [if_neg (by simp)]; simp
      · by_cases hl : l1.length = l2.length
        · rw [if_pos ⟨rfl, hl⟩, if_pos h3]; simp
        · rw [if_neg (fun h => hl h.2), decide_eq_false (fun h => hl ((sortT_iff l1 l2).1 h).length_eq)]; simp
    · rw [if_neg (fun h => hc h.2), decide_eq_false hc]; simp
  · rw [if_neg (fun h => ht h.1), decide_eq_false ht]; simp
theorem longSet_loop (m : Int) (n : ByteArray) (a b c : Int) (l : List ByteArray) (hl : ∀ x ∈ l, x.size ≤ reachBytes) (hl2 : l.length ≤ 1099511627776 * 8) (d : Nat) : ∀ (k : Nat) (i : Nat) (x : Int), i ≤ l.length → l.length - i = d → d < k → 0 ≤ x → x ≤ 281474976710656 → ∃ q, ostiarykit_LongSet.l0 k m x (i : Int) n a b c l = some q ∧ (q = false → x ≤ 2000 ∧ (l.length : Int) ≤ m) := by
  have hr : reachBytes = 140737488351232 := by decide
  have stop : ∀ x : Int, ∃ q, (if (l.length : Int) > m then some true else some (decide (x > 2000))) = some q ∧ (q = false → x ≤ 2000 ∧ (l.length : Int) ≤ m) := by
    intro x
    by_cases h1 : (l.length : Int) > m
    · exact ⟨true, by rw [if_pos h1], by simp⟩
    · refine ⟨decide (x > 2000), by rw [if_neg h1], fun h => ?_⟩
      have := of_decide_eq_false h
      omega
  induction d with
  | zero =>
    intro k i x h1 h2 h3 h4 h5
    obtain ⟨k, rfl⟩ : ∃ j, k = j + 1 := ⟨k - 1, by omega⟩
    simp only [ostiarykit_LongSet.l0]
    rw [if_neg (by omega)]
    exact stop x
  | succ d ih =>
    intro k i x h1 h2 h3 h4 h5
    obtain ⟨k, rfl⟩ : ∃ j, k = j + 1 := ⟨k - 1, by omega⟩
    have hlt : i < l.length := by omega
    simp only [ostiarykit_LongSet.l0]
    rw [if_pos (by omega)]
    by_cases hx : x ≤ 2000
    · rw [if_pos hx, if_pos (by omega)]
      have hs : (rdOf ByteArray.empty l (i : Int)).size ≤ 140737488351232 := by
        rw [show rdOf ByteArray.empty l (i : Int) = l[i] from by simp [rdOf, List.getD_eq_getElem?_getD, List.getElem?_eq_getElem hlt], ← hr]
        exact hl _ (List.getElem_mem _)
      rw [show wrap64 (x + ((rdOf ByteArray.empty l (i : Int)).size : Int)) = x + ((rdOf ByteArray.empty l (i : Int)).size : Int) from by unfold wrap64; omega, show wrap64 ((i : Int) + 1) = ((i + 1 : Nat) : Int) from by unfold wrap64; omega]
      obtain ⟨q, hq, hqq⟩ := ih k (i + 1) (x + ((rdOf ByteArray.empty l (i : Int)).size : Int)) (by omega) (by omega) (by omega) (by omega) (by omega)
      exact ⟨q, hq, fun h => by have := hqq h; omega⟩
    · rw [if_neg hx]
      exact stop x
theorem longSet_tells (k : Nat) (m : Int) (s : S32) (hs : OkSet s) (hk : s.f4.length < k) : ∃ q, ostiarykit_LongSet.f k s.f0 s.f1 s.f2 s.f3 s.f4 m = some q ∧ (q = false → s.f0.size ≤ 2000 ∧ (s.f4.length : Int) ≤ m) := by
  have hr : reachBytes = 140737488351232 := by decide
  have h0 := hs.1
  have h5 := hs.2.2.2.2.2
  obtain ⟨q, hq, hqq⟩ := longSet_loop m s.f0 s.f1 s.f2 s.f3 s.f4 hs.2.2.2.2.1 (by omega) s.f4.length k 0 (s.f0.size : Int) (by omega) (by omega) hk (by omega) (by omega)
  exact ⟨q, hq, fun h => by have := hqq h; omega⟩
end Go.Proofs.Ytdkecfjeiookdaa.PA
